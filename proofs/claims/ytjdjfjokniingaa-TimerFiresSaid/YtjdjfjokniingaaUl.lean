/- law17.small. -/
import Derived.Test.YtjdjfjokniingaaUk
namespace Go.Proofs.Ytjdjfjokniingaa
open Go.RowKit

theorem Als.at_ {P : Nat → Prop} {w : World} {u : Sl} {ats : List AT} (h : Als P w u ats) {k : Nat} {a : AT} (hk : ats[k]? = some a) :
    ∃ b off f, (∀ W : World, Sem.run Try.prog (Instr.indexAt 25 (.slice u.a u.n u.c) (.int .i64 (k : Int))) W = .ok (.pointer (some ⟨b, off, none⟩)) W) ∧ b < w.heap.size ∧ AlR P w f a ∧ ∀ j x, (flyL f)[j]? = some x → w.cell? ⟨b, off + j, none⟩ = some x := by
  have hl := h.len
  have hkl := (List.getElem?_eq_some_iff.1 hk).1
  obtain ⟨ps, g1, e1⟩ := h
  obtain ⟨b, off, f, hA, hb, hf, hc⟩ := g1.rd.at_ (fun _ => rfl) (by omega) (i := k) (by omega)
  rw [List.getElem?_map] at hf
  obtain ⟨p, hp, rfl⟩ := Option.map_eq_some_iff.1 hf
  have e : p.2 = a := by
    have a1 : ats[k]? = some p.2 := by rw [← e1, List.getElem?_map, hp]; rfl
    rw [a1] at hk
    injection hk
  have hkn : k < u.n := by omega
  refine ⟨b, off + k * 7, p.1, fun W => by rw [hA]; go_simp, hb, e ▸ g1.al p (List.mem_of_getElem? hp), hc⟩

namespace S17
def pA : ByteArray := ⟨#[48, 46, 49]⟩
def pB : ByteArray := ⟨#[48, 46, 50]⟩
def p0 : ByteArray := ⟨#[48]⟩
def mA : ByteArray := ⟨#[65]⟩
def mB : ByteArray := ⟨#[66]⟩
def a1 : AT := ⟨2, 0, p0, pA, mA, [], 0⟩
def a2 : AT := ⟨1, 1, pB, p0, mB, [], 0⟩
theorem w1 : wrap64 1 = 1 := IntWalk.wrap64_in _ (by omega)
theorem w2 : wrap64 2 = 2 := IntWalk.wrap64_in _ (by omega)
theorem m1 : min (max (1 : Int) 1) 1048576 = 1 := by decide
theorem m2 : min (max (2 : Int) 1) 1048576 = 2 := by decide
theorem m3 : min (1 : Int) 1048576 = 1 := by decide
theorem e1 : Tm.set ⟨0, 0, []⟩ 2 p0 pA mA [] 0 = ⟨0, 1, [a1]⟩ := by simp [Tm.set, Tm.span, w1, w2, m2, a1]
theorem e2 : Tm.set ⟨0, 1, [a1]⟩ 1 pB p0 mB [] 0 = ⟨0, 2, [a1, a2]⟩ := by simp [Tm.set, Tm.span, w1, w2, m3, a2]
theorem e3 : Tm.clear ⟨0, 2, [a1, a2]⟩ pA = ⟨0, 2, [a2]⟩ := rfl
theorem e4 : Tm.tickS ⟨0, 2, [a1, a2]⟩ = ⟨1, 2, [a1]⟩ := by simp [Tm.tickS, w1, a1, a2]
theorem e5 : Tm.tickD ⟨0, 2, [a1, a2]⟩ = [a2] := by simp [Tm.tickD, w1, a1, a2, St.isort_one]
theorem e6 : Tm.tickS ⟨1, 2, [a1]⟩ = ⟨2, 2, []⟩ := by simp [Tm.tickS, w2, a1]
theorem e7 : Tm.tickD ⟨1, 2, [a1]⟩ = [a1] := by simp [Tm.tickD, w2, a1, St.isort_one]
theorem e8 (l : List AT) : Tm.tickD ⟨1073741824, 0, l⟩ = [] := by simp [Tm.tickD]
end S17

/-- the states of small: nothing but the clock, the numbering and the alarms -/
abbrev s17 (ck sq : Int) (u : Sl) : SysC := ⟨⟨none, 0, 0⟩, 0, ck, sq, ⟨none, 0, 0⟩, ⟨none, 0, 0⟩, u, ⟨none, 0, 0⟩, 0⟩
def P17 (P : Nat → Prop) (w : World) (σ : Tm.TS) (e : Ending) (w' : World) : Prop := ∃ x y, e = .returned (sysV (s17 σ.clock σ.seq ⟨x, σ.als.length, y⟩)) ∧ Als (fun b => P b ∨ w.heap.size ≤ b) w' ⟨x, σ.als.length, y⟩ σ.als ∧ Below w.heap.size w w'
theorem TmPost.to {P : Nat → Prop} {w w' : World} {ck sq : Int} {u : Sl} {σ : Tm.TS} {e : Ending} (h : TmPost P w (s17 ck sq u) σ e w') : P17 P w σ e w' := by
  obtain ⟨⟨x, n, y⟩, rfl, h1, h2⟩ := h
  obtain rfl : σ.als.length = n := h1.len
  exact ⟨x, y, rfl, h1, h2⟩
def Q17 (P : Nat → Prop) (w : World) (σ : Tm.TS) (e : Ending) (w' : World) : Prop :=
  ∃ x y x' y', e = .returned (.tuple #[sysV (s17 (Tm.tickS σ).clock (Tm.tickS σ).seq ⟨x, (Tm.tickS σ).als.length, y⟩), .slice x' (Tm.tickD σ).length y']) ∧ Als (fun b => P b ∨ w.heap.size ≤ b) w' ⟨x, (Tm.tickS σ).als.length, y⟩ (Tm.tickS σ).als ∧ Als (fun b => P b ∨ w.heap.size ≤ b) w' ⟨x', (Tm.tickD σ).length, y'⟩ (Tm.tickD σ) ∧ Below w.heap.size w w'
theorem TkPost.to {P : Nat → Prop} {w w' : World} {ck sq : Int} {u : Sl} {σ : Tm.TS} {e : Ending} (h : TkPost P w (s17 ck sq u) σ e w') : Q17 P w σ e w' := by
  obtain ⟨⟨x, n, y⟩, ⟨x', n', y'⟩, rfl, h1, h2, h3⟩ := h
  obtain rfl : (Tm.tickS σ).als.length = n := h1.len
  obtain rfl : (Tm.tickD σ).length = n' := h2.len
  exact ⟨x, y, x', y', rfl, h1, h2, h3⟩
theorem als_lit {W : World} {b : Nat} (f : FlyC) (h : BoxAt W b (flyL f)) (h0 : f.l.args = ⟨none, 0, 0⟩ := by rfl) : Als (fun _ => True) W ⟨some ⟨b, 0, none⟩, 1, 1⟩ [⟨f.x, f.y, f.path, f.l.src, f.l.msg, [], f.l.sent⟩] := by
  refine ⟨[(f, ⟨f.x, f.y, f.path, f.l.src, f.l.msg, [], f.l.sent⟩)], ⟨⟨by simp, fun _ => ⟨b, 0, rfl, h.1, fun j u hu => ?_⟩⟩, fun p hp => ?_, fun _ _ _ => trivial, Nat.le_refl _⟩, rfl⟩
  · rw [Nat.zero_add]; exact h.2.1 j u (by simpa using hu)
  · rw [List.mem_singleton] at hp
    subst hp
    exact ⟨rfl, rfl, rfl, rfl, rfl, rfl, by show VR _ _ f.l.args _; rw [h0]; exact VR.none_⟩
set_option linter.unusedSimpArgs false in
set_option linter.unusedVariables false in
set_option maxRecDepth 100000 in
set_option maxHeartbeats 64000000 in
theorem small17 (w : World) : Calls Try.prog 17 #[] w fun e w' => e = .returned (.bool true) ∧ Below w.heap.size w w' := by
  have C1 := (set19 (P := fun _ => False) (s17 0 0 ⟨none, 0, 0⟩) ⟨0, 0, []⟩ 2 S17.p0 ⟨S17.pA, S17.mA, ⟨none, 0, 0⟩, 0⟩ [] w ⟨Als.none_, rfl, rfl⟩ VR.none_ (Nat.zero_le _)).mono fun e w' h => h.to
  rw [S17.e1] at C1
  go_enter Try.func17, Try.ntmps17
  go_wp2_with fail
  refine C1.mono ?_
  clear C1
  rintro e w1 ⟨x1, y1, rfl, h1, hb⟩
  have A1 : Hid (Als (fun b => b ≠ w1.heap.size) w1 ⟨x1, 1, y1⟩ [S17.a1]) := Lib.hid ((h1.low).mono (fun b hb => by have h := hb.2; omega))
  have HB := Lib.hid hb
  clear h1 hb
  go_wp2_with fail
  have C2 := (set19 (s17 0 1 ⟨x1, 1, y1⟩) ⟨0, 1, [S17.a1]⟩ 1 S17.pB ⟨S17.p0, S17.mB, ⟨none, 0, 0⟩, 0⟩ [] (w1.alloc (.cells (stL (s17 0 1 ⟨x1, 1, y1⟩)).toArray 28)) ⟨A1.out.below (below_new w1 _), rfl, rfl⟩ VR.none_ (by show 1 ≤ 1000000; omega)).mono fun e w' h => h.to
  rw [S17.e2] at C2
  refine C2.mono ?_
  clear C2
  rintro e w2 ⟨x2, y2, rfl, h2, hb⟩
  have A2 : Hid (Als (fun b => b ≠ w1.heap.size) w2 ⟨x2, 2, y2⟩ [S17.a1, S17.a2]) := Lib.hid (h2.mono (fun b hb => by rcases hb with hb | hb; exact hb; simp at hb; omega))
  have BX : Hid (BoxAt w2 w1.heap.size (stL (s17 0 1 ⟨x1, 1, y1⟩))) := Lib.hid ((BoxAt.new w1 28 (stL (s17 0 1 ⟨x1, 1, y1⟩)) _ rfl).call hb)
  have hw1 := HB.out.size
  replace HB := Lib.hid (Below.call (HB.out.alloc HB.out.size (.cells (stL (s17 0 1 ⟨x1, 1, y1⟩)).toArray 28)) hb)
  clear h2 hb
  obtain ⟨c0, c1, c2, c3, c4, c5, c6, c7, c8⟩ := st_cells BX.out
  obtain ⟨f0, f1, f2, f3, f4, f5, f6, f7, f8⟩ := st_free BX.out
  go_wp2_with fail
  have off := putSt_off w2 w1.heap.size (s17 0 2 ⟨x2, 2, y2⟩)
  have A2' := A2.out.stay (W := putSt w2 w1.heap.size (s17 0 2 ⟨x2, 2, y2⟩)) (fun b o hb => off.2 b o hb) (Nat.le_of_eq off.1.symm)
  have BX2 := putSt_box (s := s17 0 2 ⟨x2, 2, y2⟩) BX.out
  have HB2 : Below w.heap.size w (putSt w2 w1.heap.size (s17 0 2 ⟨x2, 2, y2⟩)) := putSt_below HB.out hw1
  have C3 := (clear24 (s17 0 2 ⟨x2, 2, y2⟩) ⟨0, 2, [S17.a1, S17.a2]⟩ S17.pA (putSt w2 w1.heap.size (s17 0 2 ⟨x2, 2, y2⟩)) ⟨A2', rfl, rfl⟩ (by show 2 ≤ 1000000; omega)).mono fun e w' h => h.to
  rw [S17.e3] at C3
  refine C3.mono ?_
  clear C3
  rintro e w3 ⟨x3, y3, rfl, h3, hb⟩
  have A3 := Lib.hid h3
  replace A2 := Lib.hid (A2'.below hb)
  replace BX := Lib.hid (BX2.call hb)
  replace HB := Lib.hid (Below.call HB2 hb)
  clear h3 hb off A2' BX2 HB2 c0 c1 c2 c3 c4 c5 c6 c7 c8 f0 f1 f2 f3 f4 f5 f6 f7 f8
  obtain ⟨c0, c1, c2, c3, c4, c5, c6, c7, c8⟩ := st_cells BX.out
  have n1 := BX.out.1
  go_wp2_with fail
  have hw3 := HB.out.size
  have BY3 := BoxAt.new w3 28 (stL (s17 0 2 ⟨x3, 1, y3⟩)) _ rfl
  have C4 := (tick21 (s17 0 2 ⟨x2, 2, y2⟩) ⟨0, 2, [S17.a1, S17.a2]⟩ (w3.alloc (.cells (stL (s17 0 2 ⟨x3, 1, y3⟩)).toArray 28)) ⟨A2.out.below (below_new w3 _), rfl, rfl⟩ (by show 2 ≤ 100000; omega)).mono fun e w' h => h.to
  unfold Q17 at C4
  rw [S17.e4, S17.e5] at C4
  refine C4.mono ?_
  clear C4
  rintro e w4 ⟨x4, y4, x4', y4', rfl, h4, h4', hb⟩
  have A4 := Lib.hid h4
  have O4 := Lib.hid h4'
  replace A2 := Lib.hid ((A2.out.below (below_new w3 _)).below hb)
  replace BX := Lib.hid ((BX.out.alloc _).call hb)
  have BY := Lib.hid (BY3.call hb)
  replace HB := Lib.hid (Below.call (HB.out.alloc hw3 _) hb)
  clear h4 h4' hb BY3 c0 c1 c2 c3 c4 c5 c6 c7 c8
  go_wp2_with fail
  have hw4 := HB.out.size
  have C5 := (tick21 (s17 1 2 ⟨x4, 1, y4⟩) ⟨1, 2, [S17.a1]⟩ (w4.alloc (.cells (stL (s17 1 2 ⟨x4, 1, y4⟩)).toArray 28)) ⟨A4.out.below (below_new w4 _), rfl, rfl⟩ (by show 1 ≤ 100000; omega)).mono fun e w' h => h.to
  unfold Q17 at C5
  rw [S17.e6, S17.e7] at C5
  refine C5.mono ?_
  clear C5
  rintro e w5 ⟨x5, y5, x5', y5', rfl, h5, h5', hb⟩
  have O5 := Lib.hid h5'
  replace A2 := Lib.hid ((A2.out.below (below_new w4 _)).below hb)
  replace O4 := Lib.hid ((O4.out.below (below_new w4 _)).below hb)
  replace BX := Lib.hid ((BX.out.alloc _).call hb)
  replace BY := Lib.hid ((BY.out.alloc _).call hb)
  replace HB := Lib.hid (Below.call (HB.out.alloc hw4 _) hb)
  clear h5 h5' hb A4
  go_wp2_with fail
  have hw5 := HB.out.size
  obtain ⟨fz, hfz⟩ : ∃ f : FlyC, f = ⟨1, 0, ⟨#[]⟩, ⟨⟨#[]⟩, ⟨#[]⟩, ⟨none, 0, 0⟩, 0⟩⟩ := ⟨_, rfl⟩
  have BW := BoxAt.new w5 28 (stL (s17 2 2 ⟨x5, 0, y5⟩)) _ rfl
  have C6 := (tick21 (P := fun _ => True) (s17 1073741824 0 ⟨some ⟨w5.heap.size + 1, 0, none⟩, 1, 1⟩) ⟨1073741824, 0, [⟨1, 0, ⟨#[]⟩, ⟨#[]⟩, ⟨#[]⟩, [], 0⟩]⟩ ((w5.alloc (.cells (stL (s17 2 2 ⟨x5, 0, y5⟩)).toArray 28)).alloc (.cells (flyL ⟨1, 0, ⟨#[]⟩, ⟨⟨#[]⟩, ⟨#[]⟩, ⟨none, 0, 0⟩, 0⟩⟩).toArray 47)) ⟨als_lit _ (BoxAt.new _ 47 _ _ (by simp)), rfl, rfl⟩ (by show 1 ≤ 100000; omega)).mono fun e w' h => h.to
  unfold Q17 at C6
  rw [S17.e8] at C6
  refine C6.mono ?_
  clear C6
  rintro e w6 ⟨x6, y6, x6', y6', rfl, h6, h6', hb⟩
  replace A2 := Lib.hid (((A2.out.below (below_new w5 _)).below (below_new _ _)).below hb)
  replace O4 := Lib.hid (((O4.out.below (below_new w5 _)).below (below_new _ _)).below hb)
  replace O5 := Lib.hid (((O5.out.below (below_new w5 _)).below (below_new _ _)).below hb)
  replace BX := Lib.hid (((BX.out.alloc _).alloc _).call hb)
  replace BY := Lib.hid (((BY.out.alloc _).alloc _).call hb)
  replace BW := Lib.hid ((BW.alloc _).call hb)
  replace HB := Lib.hid (Below.call ((HB.out.alloc hw5 _).alloc (by simp; omega) _) hb)
  clear h6 h6' hb hfz fz n1
  obtain ⟨-, -, -, c3, -, -, c6, -, -⟩ := st_cells BX.out
  obtain ⟨-, -, -, -, -, -, d6, -, -⟩ := st_cells BY.out
  obtain ⟨-, -, g2, -, -, -, g6, -, -⟩ := st_cells BW.out
  have n1 := BX.out.1
  have n2 := BY.out.1
  have n3 := BW.out.1
  obtain ⟨b0, o0, f0, i0, l0, r0, k0⟩ := A2.out.at_ (k := 0) (a := S17.a1) rfl
  obtain ⟨b1, o1, f1, i1, l1, r1, k1⟩ := A2.out.at_ (k := 1) (a := S17.a2) rfl
  obtain ⟨b2, o2, f2, i2, l2, r2, k2⟩ := O4.out.at_ (k := 0) (a := S17.a2) rfl
  obtain ⟨b3, o3, f3, i3, l3, r3, k3⟩ := O5.out.at_ (k := 0) (a := S17.a1) rfl
  have q0 : w6.cell? ⟨b0, o0, none⟩ = some (.int .i64 2) := (k0 0 _ rfl).trans (by rw [r0.x]; rfl)
  have q1 : w6.cell? ⟨b1, o1 + 1, none⟩ = some (.int .i64 1) := (k1 1 _ rfl).trans (by rw [r1.y]; rfl)
  have q2 : w6.cell? ⟨b2, o2 + 4, none⟩ = some (.string ⟨#[66]⟩) := (k2 4 _ rfl).trans (by rw [r2.msg]; rfl)
  have q3 : w6.cell? ⟨b3, o3 + 4, none⟩ = some (.string ⟨#[65]⟩) := (k3 4 _ rfl).trans (by rw [r3.msg]; rfl)
  have m0 : ¬ b0 = w6.heap.size := by omega
  have m1 : ¬ b1 = w6.heap.size := by omega
  have m2 : ¬ b2 = w6.heap.size := by omega
  have m3 : ¬ b3 = w6.heap.size := by omega
  have i0' : ∀ W : World, Sem.run Try.prog (Instr.indexAt 25 (.slice x2 2 y2) (.int .i64 0)) W = .ok (.pointer (some ⟨b0, o0, none⟩)) W := i0
  have i1' : ∀ W : World, Sem.run Try.prog (Instr.indexAt 25 (.slice x2 2 y2) (.int .i64 1)) W = .ok (.pointer (some ⟨b1, o1, none⟩)) W := i1
  have i2' : ∀ W : World, Sem.run Try.prog (Instr.indexAt 25 (.slice x4' 1 y4') (.int .i64 0)) W = .ok (.pointer (some ⟨b2, o2, none⟩)) W := i2
  have i3' : ∀ W : World, Sem.run Try.prog (Instr.indexAt 25 (.slice x5' 1 y5') (.int .i64 0)) W = .ok (.pointer (some ⟨b3, o3, none⟩)) W := i3
  clear i0 i1 i2 i3 k0 k1 k2 k3 r0 r1 r2 r3
  go_wp2_with fail
  go_ret
  exact ⟨rfl, HB.out.alloc HB.out.size _⟩
end Go.Proofs.Ytjdjfjokniingaa
