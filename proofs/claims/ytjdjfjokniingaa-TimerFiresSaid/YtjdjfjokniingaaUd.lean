/- The closures of the timer, timer.Clear, slices.Clip at alarms. -/
import Derived.Test.YtjdjfjokniingaaUc
namespace Go.Proofs.Ytjdjfjokniingaa
open Go.RowKit

set_option maxRecDepth 100000 in
set_option maxHeartbeats 800000 in
theorem due60 (f : FlyC) (C : Nat) (clk : Int) (w : World) (hb : BoxAt w C [.int .i64 clk]) :
    Calls Try.prog 60 #[flyV f, .pointer (some ⟨C, 0, none⟩)] w fun e w' => e = .returned (.bool (decide (f.x ≤ clk))) ∧ Below w.heap.size w w' := by
  have c0 : w.cell? ⟨C, 0, none⟩ = some (.int .i64 clk) := hb.2.1 0 _ rfl
  have n0 := hb.1
  clear hb
  go_enter Try.func60, Try.ntmps60
  go_wp2
  go_ret
  exact ⟨rfl, (Below.refl _ _).alloc (Nat.le_refl _) _⟩
set_option maxRecDepth 100000 in
set_option maxHeartbeats 800000 in
theorem late62 (f : FlyC) (C D : Nat) (clk : Int) (w : World) (hb : BoxAt w C [.int .i64 clk]) (hd : BoxAt w D [.func (.func 60) #[] #[.pointer (some ⟨C, 0, none⟩)]]) :
    Calls Try.prog 62 #[flyV f, .pointer (some ⟨D, 0, none⟩)] w fun e w' => e = .returned (.bool (!decide (f.x ≤ clk))) ∧ Below w.heap.size w w' := by
  have d0 : w.cell? ⟨D, 0, none⟩ = some (.func (.func 60) #[] #[.pointer (some ⟨C, 0, none⟩)]) := hd.2.1 0 _ rfl
  have n1 := hd.1
  have HB := Lib.hid hb
  clear hb hd
  go_enter Try.func62, Try.ntmps62
  go_wp2_with fail
  refine (due60 f C clk _ (HB.out.call (below_new w _))).mono ?_
  rintro e w1 ⟨rfl, h1⟩
  have HH := Lib.hid h1
  clear h1
  go_wp2_with fail
  go_ret
  exact ⟨rfl, Below.call (below_new w _) HH.out⟩
set_option maxRecDepth 100000 in
set_option maxHeartbeats 800000 in
theorem from68 (f : FlyC) (D : Nat) (p : ByteArray) (w : World) (hd : BoxAt w D [.string p]) :
    Calls Try.prog 68 #[flyV f, .pointer (some ⟨D, 0, none⟩)] w fun e w' => e = .returned (.bool (decide (f.l.src ≠ p))) ∧ Below w.heap.size w w' := by
  have d0 : w.cell? ⟨D, 0, none⟩ = some (.string p) := hd.2.1 0 _ rfl
  have n1 := hd.1
  clear hd
  by_cases h : f.l.src = p
  · have t1 := str_yes h
    have HX : Hid (decide (f.l.src ≠ p) = false) := Lib.hid (by simp [h])
    clear h
    go_enter Try.func68, Try.ntmps68
    go_wp2
    go_ret
    exact ⟨ret_bool HX.out.symm, (Below.refl _ _).alloc (Nat.le_refl _) _⟩
  · have t1 := str_no h
    have HX : Hid (decide (f.l.src ≠ p) = true) := Lib.hid (by simp [h])
    clear h
    go_enter Try.func68, Try.ntmps68
    go_wp2
    go_ret
    exact ⟨ret_bool HX.out.symm, (Below.refl _ _).alloc (Nat.le_refl _) _⟩
set_option maxHeartbeats 800000 in
theorem clip59 (A : Option Addr) (n c : Nat) (w : World) (hc : n ≤ c) :
    Calls Try.prog 59 #[.slice A n c] w fun e w' => e = .returned (.slice A n n) ∧ w = w' := by
  go_enter Try.func59, Try.ntmps59
  go_wp2
  go_ret
  exact ⟨rfl, rfl⟩

abbrev stL (s : SysC) : List Value := [.slice s.up.a s.up.n s.up.c, .int .i64 s.moment, .int .i64 s.clock, .int .i64 s.seq, .slice s.actors.a s.actors.n s.actors.c, .slice s.flights.a s.flights.n s.flights.c, .slice s.alarms.a s.alarms.n s.alarms.c, .slice s.asked.a s.asked.n s.asked.c, .int .i64 s.dead]
theorem st_cells {W : World} {B : Nat} {s : SysC} (h : BoxAt W B (stL s)) : W.cell? ⟨B, 0, none⟩ = some (.slice s.up.a s.up.n s.up.c) ∧ W.cell? ⟨B, 1, none⟩ = some (.int .i64 s.moment) ∧ W.cell? ⟨B, 2, none⟩ = some (.int .i64 s.clock) ∧ W.cell? ⟨B, 3, none⟩ = some (.int .i64 s.seq) ∧ W.cell? ⟨B, 4, none⟩ = some (.slice s.actors.a s.actors.n s.actors.c) ∧ W.cell? ⟨B, 5, none⟩ = some (.slice s.flights.a s.flights.n s.flights.c) ∧ W.cell? ⟨B, 6, none⟩ = some (.slice s.alarms.a s.alarms.n s.alarms.c) ∧ W.cell? ⟨B, 7, none⟩ = some (.slice s.asked.a s.asked.n s.asked.c) ∧ W.cell? ⟨B, 8, none⟩ = some (.int .i64 s.dead) :=
  ⟨h.2.1 0 _ rfl, h.2.1 1 _ rfl, h.2.1 2 _ rfl, h.2.1 3 _ rfl, h.2.1 4 _ rfl, h.2.1 5 _ rfl, h.2.1 6 _ rfl, h.2.1 7 _ rfl, h.2.1 8 _ rfl⟩
theorem st_free {W : World} {B : Nat} {s : SysC} (h : BoxAt W B (stL s)) : W.frozen? ⟨B, 0, none⟩ = false ∧ W.frozen? ⟨B, 1, none⟩ = false ∧ W.frozen? ⟨B, 2, none⟩ = false ∧ W.frozen? ⟨B, 3, none⟩ = false ∧ W.frozen? ⟨B, 4, none⟩ = false ∧ W.frozen? ⟨B, 5, none⟩ = false ∧ W.frozen? ⟨B, 6, none⟩ = false ∧ W.frozen? ⟨B, 7, none⟩ = false ∧ W.frozen? ⟨B, 8, none⟩ = false :=
  ⟨h.2.2 0, h.2.2 1, h.2.2 2, h.2.2 3, h.2.2 4, h.2.2 5, h.2.2 6, h.2.2 7, h.2.2 8⟩
/-- a state stored into a box -/
abbrev putSt (W : World) (X : Nat) (s : SysC) : World := ((((((((W.setCell ⟨X, 0, none⟩ (.slice s.up.a s.up.n s.up.c)).setCell ⟨X, 1, none⟩ (.int .i64 s.moment)).setCell ⟨X, 2, none⟩ (.int .i64 s.clock)).setCell ⟨X, 3, none⟩ (.int .i64 s.seq)).setCell ⟨X, 4, none⟩ (.slice s.actors.a s.actors.n s.actors.c)).setCell ⟨X, 5, none⟩ (.slice s.flights.a s.flights.n s.flights.c)).setCell ⟨X, 6, none⟩ (.slice s.alarms.a s.alarms.n s.alarms.c)).setCell ⟨X, 7, none⟩ (.slice s.asked.a s.asked.n s.asked.c)).setCell ⟨X, 8, none⟩ (.int .i64 s.dead)
theorem putSt_off (W : World) (X : Nat) (s : SysC) : Off X W (putSt W X s) := (((((((((Off.refl X W).set 0 _).set 1 _).set 2 _).set 3 _).set 4 _).set 5 _).set 6 _).set 7 _).set 8 _
theorem putSt_box {W : World} {X : Nat} {s t : SysC} (h : BoxAt W X (stL t)) : BoxAt (putSt W X s) X (stL s) :=
  ((((((((h.set 0 (.slice s.up.a s.up.n s.up.c) (by simp)).set 1 (.int .i64 s.moment) (by simp)).set 2 (.int .i64 s.clock) (by simp)).set 3 (.int .i64 s.seq) (by simp)).set 4 (.slice s.actors.a s.actors.n s.actors.c) (by simp)).set 5 (.slice s.flights.a s.flights.n s.flights.c) (by simp)).set 6 (.slice s.alarms.a s.alarms.n s.alarms.c) (by simp)).set 7 (.slice s.asked.a s.asked.n s.asked.c) (by simp)).set 8 (.int .i64 s.dead) (by simp)
theorem putSt_other {W : World} {X B : Nat} {s : SysC} {vs : List Value} (h : BoxAt W B vs) (hn : X ≠ B) : BoxAt (putSt W X s) B vs :=
  ((((((((h.setOther _ _ hn).setOther _ _ hn).setOther _ _ hn).setOther _ _ hn).setOther _ _ hn).setOther _ _ hn).setOther _ _ hn).setOther _ _ hn).setOther _ _ hn
theorem putSt_below {W w : World} {X C : Nat} {s : SysC} (h : Below C w W) (hX : C ≤ X) : Below C w (putSt W X s) :=
  ((((((((h.setCell hX _).setCell hX _).setCell hX _).setCell hX _).setCell hX _).setCell hX _).setCell hX _).setCell hX _).setCell hX _

theorem filter_pairs {α β : Type} (g : α → Bool) (g' : β → Bool) : ∀ (ps : List (α × β)), (∀ p ∈ ps, g p.1 = g' p.2) → (ps.map (·.1)).filter g = (ps.filter fun p => g' p.2).map (·.1)
  | [], _ => rfl
  | p :: ps, h => by
    have ih := filter_pairs g g' ps (fun q hq => h q (List.mem_cons_of_mem _ hq))
    have hp := h p List.mem_cons_self
    rw [List.map_cons]
    cases hg : g' p.2 with
    | true => rw [hg] at hp; rw [List.filter_cons_of_pos hp, List.filter_cons_of_pos (by exact hg), List.map_cons, ih]
    | false => rw [hg] at hp; rw [List.filter_cons_of_neg (by simp [hp]), List.filter_cons_of_neg (by simp [hg]), ih]
theorem filter_snd {α β : Type} (g' : β → Bool) (ps : List (α × β)) : (ps.filter fun p => g' p.2).map (·.2) = (ps.map (·.2)).filter g' := by
  rw [List.filter_map]; rfl
/-- a row of the call's own that holds those alarms that a test lets pass -/
theorem AlsR.kept {P : Nat → Prop} {w W V : World} {u v : Sl} {ps : List (FlyC × AT)} {B : Nat} (h : AlsR P w u ps) (g : FlyC → Bool) (g' : AT → Bool) (hg : ∀ p ∈ ps, g p.1 = g' p.2) (hb : Below w.heap.size w W)
    (ho : V.ownsRow B 47 7 (.slice v.a ((ps.map (·.1)).filter g).length v.c) ((ps.map (·.1)).filter g).length (((ps.map (·.1)).filter g).flatMap flyL)) (hB : w.heap.size ≤ B) (hr : Rd W W.heap.size 7 v.a ((ps.map (·.1)).filter g).length (((ps.map (·.1)).filter g).flatMap flyL)) :
    AlsR (fun b => P b ∨ w.heap.size ≤ b) W ⟨v.a, ((ps.map (·.1)).filter g).length, v.c⟩ (ps.filter fun p => g' p.2) := by
  refine ⟨?_, fun p hp => ?_, fun q hq _ => .inr ?_, own_cap ho⟩
  · rw [← filter_pairs g g' ps hg]; exact hr
  · exact ((h.al p (List.mem_filter.1 hp).1).below hb).mono (fun b hb => .inl hb)
  · have := row_base ho q.block (by rw [show v.a = some q from hq]; rfl)
    omega

theorem als_kept {P : Nat → Prop} {w w1 Wf : World} {u v : Sl} {ps : List (FlyC × AT)} {B0 R R' j m : Nat} {y : Value} {L : List FlyC} (h : AlsR P w u ps) (g : FlyC → Bool) (g' : AT → Bool) (hg : ∀ p ∈ ps, g p.1 = g' p.2) (hL : L = (ps.map (·.1)).filter g) (hm : m = L.length)
    (ho : w1.ownsRow B0 47 7 (.slice v.a m v.c) m (L.flatMap flyL)) (hR : R < B0) (hR' : R' < B0) (hw : w.heap.size ≤ B0) (hoff : Off R' (w1.setCell ⟨R, j, none⟩ y) Wf) (hb : Below w.heap.size w Wf) :
    Als (fun b => P b ∨ w.heap.size ≤ b) Wf ⟨v.a, m, v.c⟩ ((ps.map (·.2)).filter g') := by
  subst hm hL
  exact ⟨_, h.kept g g' hg hb ho hw (own_off (own_set_other ho ⟨R, j, none⟩ y (own_ne (R := R) ho hR)) hoff hR'), filter_snd g' ps⟩

abbrev stZ : SysC := ⟨⟨none, 0, 0⟩, 0, 0, 0, ⟨none, 0, 0⟩, ⟨none, 0, 0⟩, ⟨none, 0, 0⟩, ⟨none, 0, 0⟩, 0⟩
/-- what Set and Clear hand back, and Tick's state -/
def TmS (P : Nat → Prop) (w : World) (σ : Tm.TS) (u : Sl) (w' : World) : Prop := Als (fun b => P b ∨ w.heap.size ≤ b) w' u σ.als ∧ Below w.heap.size w w'
abbrev sysT (s : SysC) (σ : Tm.TS) (u : Sl) : SysC := { s with clock := σ.clock, seq := σ.seq, alarms := u }
def TmPost (P : Nat → Prop) (w : World) (s : SysC) (σ : Tm.TS) (e : Ending) (w' : World) : Prop := ∃ u : Sl, e = .returned (sysV (sysT s σ u)) ∧ TmS P w σ u w'
/-- a state whose alarms read as σ -/
structure TmR (P : Nat → Prop) (w : World) (s : SysC) (σ : Tm.TS) : Prop where
  als : Als P w s.alarms σ.als
  ck : s.clock = σ.clock
  sq : s.seq = σ.seq

set_option linter.unusedSimpArgs false in
set_option linter.unusedVariables false in
set_option maxRecDepth 100000 in
set_option maxHeartbeats 3200000 in
theorem clear24 {P : Nat → Prop} (s : SysC) (σ : Tm.TS) (p : ByteArray) (w : World) (h : TmR P w s σ) (hn : s.alarms.n ≤ 1000000) :
    Calls Try.prog 24 #[sysV s, .string p] w (TmPost P w s (Tm.clear σ p)) := by
  obtain ⟨⟨ps, hps, hsn⟩, hck, hsq⟩ := h
  have H := Lib.hid hps
  have HS := Lib.hid hsn
  obtain ⟨L, hL⟩ : ∃ L, L = (ps.map (·.1)).filter (fun f => decide (f.l.src ≠ p)) := ⟨_, rfl⟩
  obtain ⟨m, hm⟩ : ∃ m, m = L.length := ⟨_, rfl⟩
  have C : Hid (∀ (W : World), Below w.heap.size w W → ∀ (D : Nat), BoxAt W D [.string p] → Calls Try.prog 61 #[.slice s.alarms.a s.alarms.n s.alarms.c, .func (.func 68) #[] #[.pointer (some ⟨D, 0, none⟩)]] W (OwnPost 47 7 m (L.flatMap flyL) W)) := Lib.hid fun W hW D hD => by
    rw [hm, hL]
    exact kept68 (ps.map (·.1)) s.alarms (.pointer (some ⟨D, 0, none⟩)) (fun f => decide (f.l.src ≠ p)) W (hps.rd.up hW) hn (fun V f hV _ => from68 f D p V (hD.call hV))
  have HL := Lib.hid hL
  have HM := Lib.hid hm
  have CK := Lib.hid hck
  have SQ := Lib.hid hsq
  clear hps hsn hck hsq hL hm
  go_enter Try.func24, Try.ntmps24
  go_wp2_with fail
  refine (C.out _ (((((Below.refl _ _).alloc (Nat.le_refl _) _).alloc (by simp) _).alloc (by simp; omega) _)) (w.heap.size + 1) ?_).mono ?_
  · exact (BoxAt.new (w.alloc (.cells (stL s).toArray 28)) 9 [.string p] (w.heap.size + 1) (by simp)).alloc _
  rintro e w1 ⟨v, rfl, ho, h1⟩
  have HO := Lib.hid ho
  have HB : Hid (Below w.heap.size w w1) := Lib.hid (Below.call (((((Below.refl _ _).alloc (Nat.le_refl _) _).alloc (by simp) _).alloc (by simp; omega) _)) h1)
  have BS : Hid (BoxAt w1 w.heap.size (stL s)) := Lib.hid ((((BoxAt.new w 28 (stL s) _ rfl).alloc _).alloc _).call h1)
  have BZ : Hid (BoxAt w1 (w.heap.size + 1 + 1) (stL stZ)) := Lib.hid ((BoxAt.new ((w.alloc (.cells (stL s).toArray 28)).alloc (.cells #[.string p] 9)) 28 (stL stZ) _ (by simp)).call h1)
  have hz := h1.size
  simp at hz
  clear ho h1 C
  obtain ⟨c0, c1, c2, c3, c4, c5, c6, c7, c8⟩ := st_cells BS.out
  obtain ⟨f0, f1, f2, f3, f4, f5, f6, f7, f8⟩ := st_free BS.out
  obtain ⟨z0, z1, z2, z3, z4, z5, z6, z7, z8⟩ := st_cells BZ.out
  obtain ⟨y0, y1, y2, y3, y4, y5, y6, y7, y8⟩ := st_free BZ.out
  go_wp2_with fail
  have hb : Below w.heap.size w (putSt (w1.setCell ⟨w.heap.size, 6, none⟩ (.slice v.a m v.c)) (w.heap.size + 1 + 1) { s with alarms := ⟨v.a, m, v.c⟩ }) := putSt_below (HB.out.setCell (Nat.le_refl _) _) (by omega)
  have hal : Als (fun b => P b ∨ w.heap.size ≤ b) (putSt (w1.setCell ⟨w.heap.size, 6, none⟩ (.slice v.a m v.c)) (w.heap.size + 1 + 1) { s with alarms := ⟨v.a, m, v.c⟩ }) ⟨v.a, m, v.c⟩ ((ps.map (·.2)).filter (fun a => decide (a.src ≠ p))) :=
    als_kept H.out _ (fun a => decide (a.src ≠ p)) (fun q hq => by rw [(H.out.al q hq).src]) HL.out HM.out HO.out (R := w.heap.size) (R' := w.heap.size + 1 + 1) (by simp; omega) (by simp) (by simp; omega) (putSt_off _ _ _) hb
  rw [HS.out] at hal
  have e : sysT s (Tm.clear σ p) ⟨v.a, m, v.c⟩ = { s with alarms := ⟨v.a, m, v.c⟩ } := by
    show ({ s with clock := σ.clock, seq := σ.seq, alarms := ⟨v.a, m, v.c⟩ } : SysC) = _
    rw [← CK.out, ← SQ.out]
  refine bodyPost_ret (v := sysV (sysT s (Tm.clear σ p) ⟨v.a, m, v.c⟩)) ?_ rfl ⟨_, rfl, hal, hb⟩
  rw [e]
  simp [results, Try.results24, go_sem, *]
end Go.Proofs.Ytjdjfjokniingaa
