/- The contract of the solver's step. -/
import Derived.Test.YtcncobhdfflelaaSc
import Derived.Shelf.Abstract
namespace Go.Proofs.Ytcncobhdfflelaa
open Go.RowKit

/-- a verdict as a function value: what it answers on boxes within a domain -/
def VerdAt (w0 : World) (g : Nat) (cb : Array Value) (v : List Int → List Int → Int) (D : Bx.Dm) : Prop :=
  ∀ (W : World) (u1 u2 : Sl) (lo hi : List Int), Below w0.heap.size w0 W → Bx.Sub D (lo, hi) → Rd W W.heap.size 1 u1.a u1.n (ints lo) → Rd W W.heap.size 1 u2.a u2.n (ints hi) →
    Calls Try.prog g (#[.slice u1.a u1.n u1.c, .slice u2.a u2.n u2.c] ++ cb) W fun e w' => e = .returned (.int .i64 (v lo hi)) ∧ Below W.heap.size W w'
abbrev boxW (W : World) (b : BxC) : World := W.alloc (.cells #[.slice b.lo.a b.lo.n b.lo.c, .slice b.hi.a b.hi.n b.hi.c, .bool b.holds] 44)
theorem step_cells {W X : World} {b : BxC} (h : Below (W.heap.size + 1) (boxW W b) X) {S : Nat} {F : Value} (hS : S < W.heap.size) (c0 : W.cell? ⟨S, 0, none⟩ = some F) :
    X.cell? ⟨S, 0, none⟩ = some F ∧ X.cell? ⟨W.heap.size, 0, none⟩ = some (.slice b.lo.a b.lo.n b.lo.c) ∧ X.cell? ⟨W.heap.size, 1, none⟩ = some (.slice b.hi.a b.hi.n b.hi.c) ∧ W.heap.size < X.heap.size := by
  have hs := h.size
  refine ⟨(h.cell (p := ⟨S, 0, none⟩) (show S < W.heap.size + 1 by omega)).trans ?_, (h.cell (p := ⟨W.heap.size, 0, none⟩) (Nat.lt_succ_self _)).trans (by simp [boxW, go_sem]), (h.cell (p := ⟨W.heap.size, 1, none⟩) (Nat.lt_succ_self _)).trans (by simp [boxW, go_sem]), by simp at hs; omega⟩
  rw [← c0]
  exact World.cell?_alloc_past _ _ _ hS
/-- the world behind the verdict: only new memory -/
structure Asked (W : World) (b : BxC) (X : World) : Prop where
  bl : Below (W.heap.size + 1) (boxW W b) X

set_option linter.unusedSimpArgs false in
set_option linter.unusedVariables false in
set_option maxRecDepth 100000 in
set_option maxHeartbeats 6400000 in
theorem step37_one (w0 : World) (base S g : Nat) (cb : Array Value) (v : List Int → List Int → Int) (D : Bx.Dm) (d o : Sl) (qd st : List BxM) (q : BxM) (most : Int) (W : World)
    (eg : ∀ args w, (callFunc g args).run Try.prog w = .ok (.enter g args) w) (hv : VerdAt w0 g cb v D) (hB : Below w0.heap.size w0 W) (hbase : w0.heap.size ≤ base)
    (h : SolvAt W base S (.func (.func g) #[] cb) d o qd (q :: st)) (hq : Bx.Sub D q.2) (hn1 : q.1.lo.n ≤ 1000) (hn2 : q.1.hi.n ≤ 1000) (hlen : qd.length + st.length ≤ 10000) (h1 : v q.2.1 q.2.2 = 1) :
    Calls Try.prog 37 #[.pointer (some ⟨S, 0, none⟩), .int .i64 most] W fun e w' => e = .returned (.int .i64 0) ∧ Below base W w' ∧ ∃ d' o', SolvAt w' base S (.func (.func g) #[] cb) d' o' (qd ++ [({ q.1 with holds := true }, q.2)]) st := by
  obtain ⟨hS1, hS2, c0, c1, c2, fS⟩ := h.sol
  obtain ⟨b, hA, hb1, hb2, hbS, hon, x0, x1, x2, fb⟩ := h.last
  have r1 := own_rd (h.row (q := q) (by simp)).1
  have r2 := own_rd (h.row (q := q) (by simp)).2
  have hsz0 := hB.size
  have C1 := Lib.hid (fun (X : World) (hX : Below (W.heap.size + 1) (boxW W q.1) X) => clone35 q.2.1 q.1.lo.a q.1.lo.n q.1.lo.c X (((r1.below ((Below.refl _ _).alloc (Nat.le_refl _) _) (Nat.le_refl _)).below hX (Nat.le_succ _)).more (by have := hX.size; simp at this; omega)) (by omega))
  have C2 := Lib.hid (fun (X : World) (hX : Below (W.heap.size + 1) (boxW W q.1) X) => clone35 q.2.2 q.1.hi.a q.1.hi.n q.1.hi.c X (((r2.below ((Below.refl _ _).alloc (Nat.le_refl _) _) (Nat.le_refl _)).below hX (Nat.le_succ _)).more (by have := hX.size; simp at this; omega)) (by omega))
  have CV := Lib.hid (fun (X : World) (u1 u2 : Sl) (hX : Below (W.heap.size + 1) (boxW W q.1) X) (hu1 : Rd X X.heap.size 1 u1.a u1.n (ints q.2.1)) (hu2 : Rd X X.heap.size 1 u2.a u2.n (ints q.2.2)) => hv X u1 u2 q.2.1 q.2.2 (Below.trans (Below.trans hB (((Below.refl _ _).alloc (Nat.le_refl _) _ : Below W.heap.size W (boxW W q.1)).mono hsz0)) (hX.mono (by omega))) hq hu1 hu2)
  have H := Lib.hid h
  have HON := Lib.hid hon
  have HA := Lib.hid hA
  have HC0 := Lib.hid c0
  have HR1 := Lib.hid r1
  have HR2 := Lib.hid r2
  have hix : ∀ W : World, Sem.run Try.prog (Instr.indexAt 26 (.slice o.a o.n o.c) (.int .i64 (st.length : Int))) W = .ok (.pointer (some ⟨b, st.length * 3, none⟩)) W := by
    intro W
    rw [hA, hon]
    go_simp
    intro h; omega
  have hl : IntKind.i64.wrap ((o.n : Int) - 1) = (st.length : Int) := by rw [hon, IntWalk.i64_left, IntWalk.wrap64_in _ (by omega)]; omega
  have HV1 := Lib.hid h1
  clear h1
  clear h hA r1 r2 hon hv hB hq
  go_enter Try.func37, Try.ntmps37
  go_upto_region 3 with (fail)
  go_cut [33] (fun s33 X => s33 = .int .i64 1 ∧ Hid (Below (W.heap.size + 1) (boxW W q.1) X))
  case first =>
    go_region_held3 (fun X => X.cell? ⟨S, 0, none⟩ = some (.func (.func g) #[] cb) ∧ X.cell? ⟨W.heap.size, 0, none⟩ = some (.slice q.1.lo.a q.1.lo.n q.1.lo.c) ∧ X.cell? ⟨W.heap.size, 1, none⟩ = some (.slice q.1.hi.a q.1.hi.n q.1.hi.c)) (simp [go_sem, *])
      (first
        | (go_at_call 35; (with_reducible refine (C2.out _ HB1).mono ?_); rintro e v2 ⟨u2, rfl, o2, h2⟩; have HB2 : Below (W.heap.size + 1) (boxW W q.1) v2 := Below.trans HB1 (h2.mono (by omega)); obtain ⟨c0, d0, d1, m2⟩ := step_cells HB2 hS2 HC0.out; have HU2 := Lib.hid (own_rd o2); replace HU1 := Lib.hid (HU1.out.up h2); clear h2)
        | (go_at_call 35; (with_reducible refine (C1.out _ HB1).mono ?_); rintro e v2 ⟨u1, rfl, o1, h2⟩; have HB2 : Below (W.heap.size + 1) (boxW W q.1) v2 := Below.trans HB1 (h2.mono (by omega)); obtain ⟨c0, d0, d1, m2⟩ := step_cells HB2 hS2 HC0.out; have HU2 := Lib.hid (own_rd o1); replace HU1 := Lib.hid (HU1.out.up h2); clear h2)
        | (go_at_call 35; (with_reducible refine (C1.out _ (by repeat (first | (with_reducible exact Below.refl _ _) | (with_reducible assumption) | ((with_reducible refine Below.setCell ?_ ?_ _); rotate_left; (focus (first | omega | (simp; omega) | (simp; done)))) | ((with_reducible refine Below.alloc ?_ ?_ _); rotate_left; (focus (first | omega | (simp; omega) | (simp; done)))) | (with_reducible refine Below.drew ?_)))).mono ?_); rintro e v1 ⟨u1, rfl, o1, h1⟩; have HB1 : Below (W.heap.size + 1) (boxW W q.1) v1 := Below.trans (by repeat (first | (with_reducible exact Below.refl _ _) | (with_reducible assumption) | ((with_reducible refine Below.setCell ?_ ?_ _); rotate_left; (focus (first | omega | (simp; omega) | (simp; done)))) | ((with_reducible refine Below.alloc ?_ ?_ _); rotate_left; (focus (first | omega | (simp; omega) | (simp; done)))) | (with_reducible refine Below.drew ?_))) (h1.mono (by first | omega | (simp; done) | (simp; omega))); obtain ⟨c0, d0, d1, m1⟩ := step_cells HB1 hS2 HC0.out; have HU1 := Lib.hid (own_rd o1); clear h1)
        | (go_at_call 35; (with_reducible refine (C2.out _ (by repeat (first | (with_reducible exact Below.refl _ _) | (with_reducible assumption) | ((with_reducible refine Below.setCell ?_ ?_ _); rotate_left; (focus (first | omega | (simp; omega) | (simp; done)))) | ((with_reducible refine Below.alloc ?_ ?_ _); rotate_left; (focus (first | omega | (simp; omega) | (simp; done)))) | (with_reducible refine Below.drew ?_)))).mono ?_); rintro e v1 ⟨u2, rfl, o2, h1⟩; have HB1 : Below (W.heap.size + 1) (boxW W q.1) v1 := Below.trans (by repeat (first | (with_reducible exact Below.refl _ _) | (with_reducible assumption) | ((with_reducible refine Below.setCell ?_ ?_ _); rotate_left; (focus (first | omega | (simp; omega) | (simp; done)))) | ((with_reducible refine Below.alloc ?_ ?_ _); rotate_left; (focus (first | omega | (simp; omega) | (simp; done)))) | (with_reducible refine Below.drew ?_))) (h1.mono (by first | omega | (simp; done) | (simp; omega))); obtain ⟨c0, d0, d1, m1⟩ := step_cells HB1 hS2 HC0.out; have HU1 := Lib.hid (own_rd o2); clear h1)
        | (go_at_fn g; (with_reducible refine (CV.out _ ⟨u1.a, q.1.lo.n, u1.c⟩ ⟨u2.a, q.1.hi.n, u2.c⟩ HB2 HU1.out HU2.out).mono ?_); rintro e v3 ⟨rfl, h3⟩; have HB3 : Below (W.heap.size + 1) (boxW W q.1) v3 := Below.trans HB2 (h3.mono (by omega)); obtain ⟨c0, d0, d1, m3⟩ := step_cells HB3 hS2 HC0.out; clear h3)
        | (go_at_fn g; (with_reducible refine (CV.out _ ⟨u1.a, q.1.lo.n, u1.c⟩ ⟨u2.a, q.1.hi.n, u2.c⟩ HB2 HU2.out HU1.out).mono ?_); rintro e v3 ⟨rfl, h3⟩; have HB3 : Below (W.heap.size + 1) (boxW W q.1) v3 := Below.trans HB2 (h3.mono (by omega)); obtain ⟨c0, d0, d1, m3⟩ := step_cells HB3 hS2 HC0.out; clear h3))
    all_goals (go_wp2_with fail; go_meet; exact ⟨by rw [HV1.out], Lib.hid HB3⟩)
  case rest =>
    obtain ⟨rfl, HX⟩ := hcut
    have hX1 := HX.out.size
    try simp at hX1
    have HW : Hid (Below W.heap.size W wc) := Lib.hid (((Below.refl _ _).alloc (Nat.le_refl _) _).trans (HX.out.mono (Nat.le_succ _)))
    have HB : Hid (BoxAt wc W.heap.size (bxL q.1)) := Lib.hid ((BoxAt.new W 44 (bxL q.1) _ rfl).below HX.out (Nat.lt_succ_self _))
    have HG : Hid (SolvG wc base S (.func (.func g) #[] cb) d o qd (q :: st).reverse (qd ++ q :: st)) := Lib.hid (H.out.keep HW.out)
    clear c0 c1 c2 fS x0 x1 x2 fb
    obtain ⟨_, _, c0, c1, c2, fS⟩ := HG.out.sol
    obtain ⟨_, hbx, fbx⟩ := HB.out
    have b0 := hbx 0 _ rfl
    have b1 := hbx 1 _ rfl
    have b2 := hbx 2 _ rfl
    clear hbx
    have nS : ¬ S = W.heap.size := by omega
    have nS2 : ¬ W.heap.size = S := by omega
    have hSw : S < wc.heap.size := by omega
    go_wp2_with fail
    have nD : (Value.slice d.a d.n d.c).ownBlock ≠ some W.heap.size := fun e => by have := (H.out.dec.lt _ e).2; omega
    obtain ⟨Wb, hWb⟩ : ∃ X, X = wc.setCell ⟨W.heap.size, 2, none⟩ (.bool true) := ⟨_, rfl⟩
    have HGb : Hid (SolvG Wb base S (.func (.func g) #[] cb) d o qd (q :: st).reverse (qd ++ q :: st)) := Lib.hid (by rw [hWb]; exact SolvG.setNew H.out HG.out (Nat.le_refl _))
    have HBb : Hid (BoxAt Wb W.heap.size (bxL { q.1 with holds := true })) := Lib.hid (by rw [hWb]; exact HB.out.set 2 (.bool true) (by simp))
    have hzb : Wb.heap.size = wc.heap.size := by rw [hWb]; try simp
    have HLb : Hid (Below base W Wb) := Lib.hid (by rw [hWb]; exact ((HW.out.mono (show base ≤ W.heap.size by omega)).setCell (show base ≤ W.heap.size by omega) _))
    rw [← hWb]
    clear hWb c0 c1 c2 fS b0 b1 b2 fbx HG HB HX HW
    obtain ⟨_, _, c0, c1, c2, fS⟩ := HGb.out.sol
    obtain ⟨_, hbx, fbx⟩ := HBb.out
    have b0 := hbx 0 _ rfl
    have b1 := hbx 1 _ rfl
    have b2 := hbx 2 _ rfl
    clear hbx
    have hSb : S < Wb.heap.size := by omega
    have hWb : W.heap.size < Wb.heap.size := by omega
    obtain ⟨i4, hi4, hz40, hz41, hz42⟩ := info_parts info44
    refine wp_region_held_drew (S := (fun X => X.cell? ⟨W.heap.size, 0, none⟩ = some (.slice q.1.lo.a q.1.lo.n q.1.lo.c) ∧ X.cell? ⟨W.heap.size, 1, none⟩ = some (.slice q.1.hi.a q.1.hi.n q.1.hi.c) ∧ X.cell? ⟨W.heap.size, 2, none⟩ = some (.bool true))) (by kernel_rfl) ?_ (fun hHeld => ?_)
    · simp [go_sem, *]
    refine wpAnyH_take (i := 0) (v := ?_) rfl (by kernel_rfl) (by kernel_rfl) (by kernel_rfl) (fun _ _ _ h => h) (Or.inl ⟨by rfl, ?_⟩) (by assumption) ?_
    rotate_left
    · intro w hSw; (try dsimp only at hSw); go_simp; (first | done | (with_reducible rfl))
    try simp only [Act.put, List.getElem_toArray, List.getElem_cons_succ, List.getElem_cons_zero, List.setIfInBounds_toArray, List.set_cons_zero, List.set_cons_succ]
    refine wpAnyH_take (i := 1) (v := ?_) rfl (by kernel_rfl) (by kernel_rfl) (by kernel_rfl) (fun _ _ _ h => h) (Or.inl ⟨by rfl, ?_⟩) (by assumption) ?_
    rotate_left
    · intro w hSw; (try dsimp only at hSw); go_simp; (first | done | (with_reducible rfl))
    try simp only [Act.put, List.getElem_toArray, List.getElem_cons_succ, List.getElem_cons_zero, List.setIfInBounds_toArray, List.set_cons_zero, List.set_cons_succ]
    refine wpAnyH_take (i := 2) (v := ?_) rfl (by kernel_rfl) (by kernel_rfl) (by kernel_rfl) (fun _ _ _ h => h) (Or.inl ⟨by rfl, ?_⟩) (by assumption) ?_
    rotate_left
    · intro w hSw; (try dsimp only at hSw); go_simp; (first | done | (with_reducible rfl))
    try simp only [Act.put, List.getElem_toArray, List.getElem_cons_succ, List.getElem_cons_zero, List.setIfInBounds_toArray, List.set_cons_zero, List.set_cons_succ]
    refine wpAnyH_take (i := 3) (v := ?_) rfl (by kernel_rfl) (by kernel_rfl) (by kernel_rfl) (fun _ _ _ h => h) (Or.inl ⟨by rfl, ?_⟩) (by assumption) ?_
    rotate_left
    · intro w hSw; (try dsimp only at hSw); go_simp; (first | done | (with_reducible rfl))
    try simp only [Act.put, List.getElem_toArray, List.getElem_cons_succ, List.getElem_cons_zero, List.setIfInBounds_toArray, List.set_cons_zero, List.set_cons_succ]
    refine wpAnyH_take (i := 5) (v := ?_) rfl (by kernel_rfl) (by kernel_rfl) (by kernel_rfl) (fun _ _ _ h => h) (Or.inl ⟨by rfl, ?_⟩) (by assumption) ?_
    rotate_left
    · intro w hSw; (try dsimp only at hSw); go_simp; (first | done | (with_reducible rfl))
    try simp only [Act.put, List.getElem_toArray, List.getElem_cons_succ, List.getElem_cons_zero, List.setIfInBounds_toArray, List.set_cons_zero, List.set_cons_succ]
    refine wpAnyH_ready (rs := [4, 6]) (by kernel_rfl) (by simp) ?_
    refine AllReadyH.cons rfl (fun K hK => ?_) (AllReadyH.cons rfl (fun K hK => ?_) AllReadyH.nil)
    · go_simp
      refine hK.out _ _ ?_ (fun hHeld => ?_)
      · simp [go_sem, *]
      clear hK K
      try simp only [Act.put, List.getElem_toArray, List.getElem_cons_succ, List.getElem_cons_zero, List.setIfInBounds_toArray, List.set_cons_zero, List.set_cons_succ]
      refine wpAnyH_ready (rs := [6]) (by kernel_rfl) (by simp) ?_
      refine AllReadyH.cons rfl (fun K hK => ?_) AllReadyH.nil
      go_simp
      refine hK.out _ _ ?_ (fun hHeld => ?_)
      · simp [go_sem, *]
      clear hK K
      try simp only [Act.put, List.getElem_toArray, List.getElem_cons_succ, List.getElem_cons_zero, List.setIfInBounds_toArray, List.set_cons_zero, List.set_cons_succ]
      refine wpAnyH_ready (rs := [7]) (by kernel_rfl) (by simp) ?_
      refine AllReadyH.cons rfl (fun K hK => ?_) AllReadyH.nil
      have HGa : Hid (SolvG (Wb.drew.alloc (.cells #[.slice q.1.lo.a q.1.lo.n q.1.lo.c, .slice q.1.hi.a q.1.hi.n q.1.hi.c, .bool true] 44)) base S (.func (.func g) #[] cb) d o qd (q :: st).reverse (qd ++ q :: st)) := Lib.hid (HGb.out.below (by repeat (first | (with_reducible exact Below.refl _ _) | (with_reducible assumption) | ((with_reducible refine Below.setCell ?_ ?_ _); rotate_left; (focus (first | omega | (simp; omega) | (simp; done)))) | ((with_reducible refine Below.alloc ?_ ?_ _); rotate_left; (focus (first | omega | (simp; omega) | (simp; done)))) | (with_reducible refine Below.drew ?_))))
      refine step_append_sl rfl (.tmp 41) (.tmp 43) 26 rfl base 44 i4 _ 3 56 Try.underlying26 hi4 hz40 hz41 hz42 rfl (by decide) d.a d.n d.c _ (by simp [Act.eval, Act.put]) HGa.out.dec ⟨Wb.heap.size, 0, none⟩ 1 1 (bxL { q.1 with holds := true }) (by simp [Act.eval, Act.put]) rfl (cells_new0 _ _ _ _ (by simp)) (by simp [Value.oneCell']) ?_ ?_ ?_ ?_
      · have := H.out.dn; have e : maxLen = 9223372036854775807 := (by unfold maxLen; decide); rw [e]; omega
      · have := H.out.dn; omega
      · simp; omega
      intro u3 w3 ho3 hg3 hn3
      have HP : Hid (Rows w3 base (solR S (.func (.func g) #[] cb) d o :: bsR ⟨u3.a, d.n + 1, u3.c⟩ (qd ++ [({ q.1 with holds := true }, q.2)]) :: bsR o (q :: st).reverse :: (qd ++ q :: st).flatMap bxR)) := Lib.hid (SolvG.push1 (d' := ⟨u3.a, d.n + 1, u3.c⟩) HGa.out ({ q.1 with holds := true }, q.2) (by simpa using ho3) hg3 hn3)
      have HL3 : Hid (Below base W w3) := Lib.hid (((HLb.out.drew).alloc (by simp; omega) _).grown hg3 (by simp; omega) (fun k hk => (HGa.out.dec.lt k hk).1))
      have s3 := hg3.size
      try simp at s3
      clear c0 c1 c2 fS
      obtain ⟨_, _, c0, c1, c2, fS⟩ := solR_cells HP.out
      have d0 : w3.cell? ⟨W.heap.size, 0, none⟩ = some (.slice q.1.lo.a q.1.lo.n q.1.lo.c) := hg3.cell (by simp [go_sem, *]) (fun e => nD e.symm)
      have d1 : w3.cell? ⟨W.heap.size, 1, none⟩ = some (.slice q.1.hi.a q.1.hi.n q.1.hi.c) := hg3.cell (by simp [go_sem, *]) (fun e => nD e.symm)
      have d2 : w3.cell? ⟨W.heap.size, 2, none⟩ = some (.bool true) := hg3.cell (by simp [go_sem, *]) (fun e => nD e.symm)
      clear ho3 hg3 hn3 b0 b1 b2 fbx
      have hS3 : S < w3.heap.size := by omega
      refine hK.out _ _ ?_ (fun hHeld => ?_)
      · simp [go_sem, *]
      clear hK K
      try simp only [Act.put, List.getElem_toArray, List.getElem_cons_succ, List.getElem_cons_zero, List.setIfInBounds_toArray, List.set_cons_zero, List.set_cons_succ]
      refine wpAnyH_take (i := 8) (v := ?_) rfl (by kernel_rfl) (by kernel_rfl) (by kernel_rfl) (fun _ _ _ h => h) (Or.inl ⟨by rfl, ?_⟩) (by assumption) ?_
      rotate_left
      · intro w hSw; (try dsimp only at hSw); go_simp; (first | done | (with_reducible rfl))
      try simp only [Act.put, List.getElem_toArray, List.getElem_cons_succ, List.getElem_cons_zero, List.setIfInBounds_toArray, List.set_cons_zero, List.set_cons_succ]
      refine wpAnyH_take (i := 9) (v := ?_) rfl (by kernel_rfl) (by kernel_rfl) (by kernel_rfl) (fun _ _ _ h => h) (Or.inl ⟨by rfl, ?_⟩) (by assumption) ?_
      rotate_left
      · intro w hSw; (try dsimp only at hSw); go_simp; (first | done | (with_reducible rfl))
      try simp only [Act.put, List.getElem_toArray, List.getElem_cons_succ, List.getElem_cons_zero, List.setIfInBounds_toArray, List.set_cons_zero, List.set_cons_succ]
      refine wpAnyH_ready (rs := [10]) (by kernel_rfl) (by simp) ?_
      refine AllReadyH.cons rfl (fun K hK => ?_) AllReadyH.nil
      go_simp
      refine hK.out _ _ ?_ (fun hHeld => ?_)
      · simp [go_sem, *]
      clear hK K
      try simp only [Act.put, List.getElem_toArray, List.getElem_cons_succ, List.getElem_cons_zero, List.setIfInBounds_toArray, List.set_cons_zero, List.set_cons_succ]
      refine wpAnyH_done (by kernel_rfl) ?_ _
      have HQ : Hid (SolvG (w3.setCell ⟨S, 1, none⟩ (.slice u3.a (d.n + 1) u3.c)) base S (.func (.func g) #[] cb) ⟨u3.a, d.n + 1, u3.c⟩ o (qd ++ [({ q.1 with holds := true }, q.2)]) (q :: st).reverse (qd ++ q :: st)) := Lib.hid (SolvG.set1 (d' := ⟨u3.a, d.n + 1, u3.c⟩) HP.out)
      have HL4 : Hid (Below base W (w3.setCell ⟨S, 1, none⟩ (.slice u3.a (d.n + 1) u3.c))) := Lib.hid (HL3.out.setCell hS1 _)
      clear c0 c1 c2 fS HP HL3 d0 d1 d2
      obtain ⟨_, _, c0, c1, c2, fS⟩ := HQ.out.sol
      have hsl := head26 H.out.opn (i := st.length) (by rw [HON.out]; omega)
      generalize w3.setCell ⟨S, 1, none⟩ (.slice u3.a (d.n + 1) u3.c) = w4 at HQ HL4 c0 c1 c2 fS ⊢
      go_wp2_with fail
      go_ret
      exact ⟨rfl, HL4.out.setCell hS1 _, _, _, SolvG.decided HQ.out rfl⟩
    · go_simp
      refine hK.out _ _ ?_ (fun hHeld => ?_)
      · simp [go_sem, *]
      clear hK K
      try simp only [Act.put, List.getElem_toArray, List.getElem_cons_succ, List.getElem_cons_zero, List.setIfInBounds_toArray, List.set_cons_zero, List.set_cons_succ]
      refine wpAnyH_ready (rs := [4]) (by kernel_rfl) (by simp) ?_
      refine AllReadyH.cons rfl (fun K hK => ?_) AllReadyH.nil
      go_simp
      refine hK.out _ _ ?_ (fun hHeld => ?_)
      · simp [go_sem, *]
      clear hK K
      try simp only [Act.put, List.getElem_toArray, List.getElem_cons_succ, List.getElem_cons_zero, List.setIfInBounds_toArray, List.set_cons_zero, List.set_cons_succ]
      refine wpAnyH_ready (rs := [7]) (by kernel_rfl) (by simp) ?_
      refine AllReadyH.cons rfl (fun K hK => ?_) AllReadyH.nil
      have HGa : Hid (SolvG (Wb.drew.alloc (.cells #[.slice q.1.lo.a q.1.lo.n q.1.lo.c, .slice q.1.hi.a q.1.hi.n q.1.hi.c, .bool true] 44)) base S (.func (.func g) #[] cb) d o qd (q :: st).reverse (qd ++ q :: st)) := Lib.hid (HGb.out.below (by repeat (first | (with_reducible exact Below.refl _ _) | (with_reducible assumption) | ((with_reducible refine Below.setCell ?_ ?_ _); rotate_left; (focus (first | omega | (simp; omega) | (simp; done)))) | ((with_reducible refine Below.alloc ?_ ?_ _); rotate_left; (focus (first | omega | (simp; omega) | (simp; done)))) | (with_reducible refine Below.drew ?_))))
      refine step_append_sl rfl (.tmp 41) (.tmp 43) 26 rfl base 44 i4 _ 3 56 Try.underlying26 hi4 hz40 hz41 hz42 rfl (by decide) d.a d.n d.c _ (by simp [Act.eval, Act.put]) HGa.out.dec ⟨Wb.heap.size, 0, none⟩ 1 1 (bxL { q.1 with holds := true }) (by simp [Act.eval, Act.put]) rfl (cells_new0 _ _ _ _ (by simp)) (by simp [Value.oneCell']) ?_ ?_ ?_ ?_
      · have := H.out.dn; have e : maxLen = 9223372036854775807 := (by unfold maxLen; decide); rw [e]; omega
      · have := H.out.dn; omega
      · simp; omega
      intro u3 w3 ho3 hg3 hn3
      have HP : Hid (Rows w3 base (solR S (.func (.func g) #[] cb) d o :: bsR ⟨u3.a, d.n + 1, u3.c⟩ (qd ++ [({ q.1 with holds := true }, q.2)]) :: bsR o (q :: st).reverse :: (qd ++ q :: st).flatMap bxR)) := Lib.hid (SolvG.push1 (d' := ⟨u3.a, d.n + 1, u3.c⟩) HGa.out ({ q.1 with holds := true }, q.2) (by simpa using ho3) hg3 hn3)
      have HL3 : Hid (Below base W w3) := Lib.hid (((HLb.out.drew).alloc (by simp; omega) _).grown hg3 (by simp; omega) (fun k hk => (HGa.out.dec.lt k hk).1))
      have s3 := hg3.size
      try simp at s3
      clear c0 c1 c2 fS
      obtain ⟨_, _, c0, c1, c2, fS⟩ := solR_cells HP.out
      have d0 : w3.cell? ⟨W.heap.size, 0, none⟩ = some (.slice q.1.lo.a q.1.lo.n q.1.lo.c) := hg3.cell (by simp [go_sem, *]) (fun e => nD e.symm)
      have d1 : w3.cell? ⟨W.heap.size, 1, none⟩ = some (.slice q.1.hi.a q.1.hi.n q.1.hi.c) := hg3.cell (by simp [go_sem, *]) (fun e => nD e.symm)
      have d2 : w3.cell? ⟨W.heap.size, 2, none⟩ = some (.bool true) := hg3.cell (by simp [go_sem, *]) (fun e => nD e.symm)
      clear ho3 hg3 hn3 b0 b1 b2 fbx
      have hS3 : S < w3.heap.size := by omega
      refine hK.out _ _ ?_ (fun hHeld => ?_)
      · simp [go_sem, *]
      clear hK K
      try simp only [Act.put, List.getElem_toArray, List.getElem_cons_succ, List.getElem_cons_zero, List.setIfInBounds_toArray, List.set_cons_zero, List.set_cons_succ]
      refine wpAnyH_take (i := 8) (v := ?_) rfl (by kernel_rfl) (by kernel_rfl) (by kernel_rfl) (fun _ _ _ h => h) (Or.inl ⟨by rfl, ?_⟩) (by assumption) ?_
      rotate_left
      · intro w hSw; (try dsimp only at hSw); go_simp; (first | done | (with_reducible rfl))
      try simp only [Act.put, List.getElem_toArray, List.getElem_cons_succ, List.getElem_cons_zero, List.setIfInBounds_toArray, List.set_cons_zero, List.set_cons_succ]
      refine wpAnyH_take (i := 9) (v := ?_) rfl (by kernel_rfl) (by kernel_rfl) (by kernel_rfl) (fun _ _ _ h => h) (Or.inl ⟨by rfl, ?_⟩) (by assumption) ?_
      rotate_left
      · intro w hSw; (try dsimp only at hSw); go_simp; (first | done | (with_reducible rfl))
      try simp only [Act.put, List.getElem_toArray, List.getElem_cons_succ, List.getElem_cons_zero, List.setIfInBounds_toArray, List.set_cons_zero, List.set_cons_succ]
      refine wpAnyH_ready (rs := [10]) (by kernel_rfl) (by simp) ?_
      refine AllReadyH.cons rfl (fun K hK => ?_) AllReadyH.nil
      go_simp
      refine hK.out _ _ ?_ (fun hHeld => ?_)
      · simp [go_sem, *]
      clear hK K
      try simp only [Act.put, List.getElem_toArray, List.getElem_cons_succ, List.getElem_cons_zero, List.setIfInBounds_toArray, List.set_cons_zero, List.set_cons_succ]
      refine wpAnyH_done (by kernel_rfl) ?_ _
      have HQ : Hid (SolvG (w3.setCell ⟨S, 1, none⟩ (.slice u3.a (d.n + 1) u3.c)) base S (.func (.func g) #[] cb) ⟨u3.a, d.n + 1, u3.c⟩ o (qd ++ [({ q.1 with holds := true }, q.2)]) (q :: st).reverse (qd ++ q :: st)) := Lib.hid (SolvG.set1 (d' := ⟨u3.a, d.n + 1, u3.c⟩) HP.out)
      have HL4 : Hid (Below base W (w3.setCell ⟨S, 1, none⟩ (.slice u3.a (d.n + 1) u3.c))) := Lib.hid (HL3.out.setCell hS1 _)
      clear c0 c1 c2 fS HP HL3 d0 d1 d2
      obtain ⟨_, _, c0, c1, c2, fS⟩ := HQ.out.sol
      have hsl := head26 H.out.opn (i := st.length) (by rw [HON.out]; omega)
      generalize w3.setCell ⟨S, 1, none⟩ (.slice u3.a (d.n + 1) u3.c) = w4 at HQ HL4 c0 c1 c2 fS ⊢
      go_wp2_with fail
      go_ret
      exact ⟨rfl, HL4.out.setCell hS1 _, _, _, SolvG.decided HQ.out rfl⟩

set_option linter.unusedSimpArgs false in
set_option linter.unusedVariables false in
set_option maxRecDepth 100000 in
set_option maxHeartbeats 6400000 in
theorem step37_zero (w0 : World) (base S g : Nat) (cb : Array Value) (v : List Int → List Int → Int) (D : Bx.Dm) (d o : Sl) (qd st : List BxM) (q : BxM) (most : Int) (W : World)
    (eg : ∀ args w, (callFunc g args).run Try.prog w = .ok (.enter g args) w) (hv : VerdAt w0 g cb v D) (hB : Below w0.heap.size w0 W) (hbase : w0.heap.size ≤ base)
    (h : SolvAt W base S (.func (.func g) #[] cb) d o qd (q :: st)) (hq : Bx.Sub D q.2) (hn1 : q.1.lo.n ≤ 1000) (hn2 : q.1.hi.n ≤ 1000) (hlen : qd.length + st.length ≤ 10000) (h1 : v q.2.1 q.2.2 = 0) :
    Calls Try.prog 37 #[.pointer (some ⟨S, 0, none⟩), .int .i64 most] W fun e w' => e = .returned (.int .i64 0) ∧ Below base W w' ∧ ∃ d' o', SolvAt w' base S (.func (.func g) #[] cb) d' o' (qd ++ [(q.1, q.2)]) st := by
  obtain ⟨hS1, hS2, c0, c1, c2, fS⟩ := h.sol
  obtain ⟨b, hA, hb1, hb2, hbS, hon, x0, x1, x2, fb⟩ := h.last
  have r1 := own_rd (h.row (q := q) (by simp)).1
  have r2 := own_rd (h.row (q := q) (by simp)).2
  have hsz0 := hB.size
  have C1 := Lib.hid (fun (X : World) (hX : Below (W.heap.size + 1) (boxW W q.1) X) => clone35 q.2.1 q.1.lo.a q.1.lo.n q.1.lo.c X (((r1.below ((Below.refl _ _).alloc (Nat.le_refl _) _) (Nat.le_refl _)).below hX (Nat.le_succ _)).more (by have := hX.size; simp at this; omega)) (by omega))
  have C2 := Lib.hid (fun (X : World) (hX : Below (W.heap.size + 1) (boxW W q.1) X) => clone35 q.2.2 q.1.hi.a q.1.hi.n q.1.hi.c X (((r2.below ((Below.refl _ _).alloc (Nat.le_refl _) _) (Nat.le_refl _)).below hX (Nat.le_succ _)).more (by have := hX.size; simp at this; omega)) (by omega))
  have CV := Lib.hid (fun (X : World) (u1 u2 : Sl) (hX : Below (W.heap.size + 1) (boxW W q.1) X) (hu1 : Rd X X.heap.size 1 u1.a u1.n (ints q.2.1)) (hu2 : Rd X X.heap.size 1 u2.a u2.n (ints q.2.2)) => hv X u1 u2 q.2.1 q.2.2 (Below.trans (Below.trans hB (((Below.refl _ _).alloc (Nat.le_refl _) _ : Below W.heap.size W (boxW W q.1)).mono hsz0)) (hX.mono (by omega))) hq hu1 hu2)
  have H := Lib.hid h
  have HON := Lib.hid hon
  have HA := Lib.hid hA
  have HC0 := Lib.hid c0
  have HR1 := Lib.hid r1
  have HR2 := Lib.hid r2
  have hix : ∀ W : World, Sem.run Try.prog (Instr.indexAt 26 (.slice o.a o.n o.c) (.int .i64 (st.length : Int))) W = .ok (.pointer (some ⟨b, st.length * 3, none⟩)) W := by
    intro W
    rw [hA, hon]
    go_simp
    intro h; omega
  have hl : IntKind.i64.wrap ((o.n : Int) - 1) = (st.length : Int) := by rw [hon, IntWalk.i64_left, IntWalk.wrap64_in _ (by omega)]; omega
  have HV1 := Lib.hid h1
  clear h1
  clear h hA r1 r2 hon hv hB hq
  go_enter Try.func37, Try.ntmps37
  go_upto_region 3 with (fail)
  go_cut [33] (fun s33 X => s33 = .int .i64 0 ∧ Hid (Below (W.heap.size + 1) (boxW W q.1) X))
  case first =>
    go_region_held3 (fun X => X.cell? ⟨S, 0, none⟩ = some (.func (.func g) #[] cb) ∧ X.cell? ⟨W.heap.size, 0, none⟩ = some (.slice q.1.lo.a q.1.lo.n q.1.lo.c) ∧ X.cell? ⟨W.heap.size, 1, none⟩ = some (.slice q.1.hi.a q.1.hi.n q.1.hi.c)) (simp [go_sem, *])
      (first
        | (go_at_call 35; (with_reducible refine (C2.out _ HB1).mono ?_); rintro e v2 ⟨u2, rfl, o2, h2⟩; have HB2 : Below (W.heap.size + 1) (boxW W q.1) v2 := Below.trans HB1 (h2.mono (by omega)); obtain ⟨c0, d0, d1, m2⟩ := step_cells HB2 hS2 HC0.out; have HU2 := Lib.hid (own_rd o2); replace HU1 := Lib.hid (HU1.out.up h2); clear h2)
        | (go_at_call 35; (with_reducible refine (C1.out _ HB1).mono ?_); rintro e v2 ⟨u1, rfl, o1, h2⟩; have HB2 : Below (W.heap.size + 1) (boxW W q.1) v2 := Below.trans HB1 (h2.mono (by omega)); obtain ⟨c0, d0, d1, m2⟩ := step_cells HB2 hS2 HC0.out; have HU2 := Lib.hid (own_rd o1); replace HU1 := Lib.hid (HU1.out.up h2); clear h2)
        | (go_at_call 35; (with_reducible refine (C1.out _ (by repeat (first | (with_reducible exact Below.refl _ _) | (with_reducible assumption) | ((with_reducible refine Below.setCell ?_ ?_ _); rotate_left; (focus (first | omega | (simp; omega) | (simp; done)))) | ((with_reducible refine Below.alloc ?_ ?_ _); rotate_left; (focus (first | omega | (simp; omega) | (simp; done)))) | (with_reducible refine Below.drew ?_)))).mono ?_); rintro e v1 ⟨u1, rfl, o1, h1⟩; have HB1 : Below (W.heap.size + 1) (boxW W q.1) v1 := Below.trans (by repeat (first | (with_reducible exact Below.refl _ _) | (with_reducible assumption) | ((with_reducible refine Below.setCell ?_ ?_ _); rotate_left; (focus (first | omega | (simp; omega) | (simp; done)))) | ((with_reducible refine Below.alloc ?_ ?_ _); rotate_left; (focus (first | omega | (simp; omega) | (simp; done)))) | (with_reducible refine Below.drew ?_))) (h1.mono (by first | omega | (simp; done) | (simp; omega))); obtain ⟨c0, d0, d1, m1⟩ := step_cells HB1 hS2 HC0.out; have HU1 := Lib.hid (own_rd o1); clear h1)
        | (go_at_call 35; (with_reducible refine (C2.out _ (by repeat (first | (with_reducible exact Below.refl _ _) | (with_reducible assumption) | ((with_reducible refine Below.setCell ?_ ?_ _); rotate_left; (focus (first | omega | (simp; omega) | (simp; done)))) | ((with_reducible refine Below.alloc ?_ ?_ _); rotate_left; (focus (first | omega | (simp; omega) | (simp; done)))) | (with_reducible refine Below.drew ?_)))).mono ?_); rintro e v1 ⟨u2, rfl, o2, h1⟩; have HB1 : Below (W.heap.size + 1) (boxW W q.1) v1 := Below.trans (by repeat (first | (with_reducible exact Below.refl _ _) | (with_reducible assumption) | ((with_reducible refine Below.setCell ?_ ?_ _); rotate_left; (focus (first | omega | (simp; omega) | (simp; done)))) | ((with_reducible refine Below.alloc ?_ ?_ _); rotate_left; (focus (first | omega | (simp; omega) | (simp; done)))) | (with_reducible refine Below.drew ?_))) (h1.mono (by first | omega | (simp; done) | (simp; omega))); obtain ⟨c0, d0, d1, m1⟩ := step_cells HB1 hS2 HC0.out; have HU1 := Lib.hid (own_rd o2); clear h1)
        | (go_at_fn g; (with_reducible refine (CV.out _ ⟨u1.a, q.1.lo.n, u1.c⟩ ⟨u2.a, q.1.hi.n, u2.c⟩ HB2 HU1.out HU2.out).mono ?_); rintro e v3 ⟨rfl, h3⟩; have HB3 : Below (W.heap.size + 1) (boxW W q.1) v3 := Below.trans HB2 (h3.mono (by omega)); obtain ⟨c0, d0, d1, m3⟩ := step_cells HB3 hS2 HC0.out; clear h3)
        | (go_at_fn g; (with_reducible refine (CV.out _ ⟨u1.a, q.1.lo.n, u1.c⟩ ⟨u2.a, q.1.hi.n, u2.c⟩ HB2 HU2.out HU1.out).mono ?_); rintro e v3 ⟨rfl, h3⟩; have HB3 : Below (W.heap.size + 1) (boxW W q.1) v3 := Below.trans HB2 (h3.mono (by omega)); obtain ⟨c0, d0, d1, m3⟩ := step_cells HB3 hS2 HC0.out; clear h3))
    all_goals (go_wp2_with fail; go_meet; exact ⟨by rw [HV1.out], Lib.hid HB3⟩)
  case rest =>
    obtain ⟨rfl, HX⟩ := hcut
    have hX1 := HX.out.size
    try simp at hX1
    have HW : Hid (Below W.heap.size W wc) := Lib.hid (((Below.refl _ _).alloc (Nat.le_refl _) _).trans (HX.out.mono (Nat.le_succ _)))
    have HB : Hid (BoxAt wc W.heap.size (bxL q.1)) := Lib.hid ((BoxAt.new W 44 (bxL q.1) _ rfl).below HX.out (Nat.lt_succ_self _))
    have HG : Hid (SolvG wc base S (.func (.func g) #[] cb) d o qd (q :: st).reverse (qd ++ q :: st)) := Lib.hid (H.out.keep HW.out)
    clear c0 c1 c2 fS x0 x1 x2 fb
    obtain ⟨_, _, c0, c1, c2, fS⟩ := HG.out.sol
    obtain ⟨_, hbx, fbx⟩ := HB.out
    have b0 := hbx 0 _ rfl
    have b1 := hbx 1 _ rfl
    have b2 := hbx 2 _ rfl
    clear hbx
    have nS : ¬ S = W.heap.size := by omega
    have nS2 : ¬ W.heap.size = S := by omega
    have hSw : S < wc.heap.size := by omega
    go_wp2_with fail
    have nD : (Value.slice d.a d.n d.c).ownBlock ≠ some W.heap.size := fun e => by have := (H.out.dec.lt _ e).2; omega
    obtain ⟨Wb, hWb⟩ : ∃ X, X = wc := ⟨_, rfl⟩
    have HGb : Hid (SolvG Wb base S (.func (.func g) #[] cb) d o qd (q :: st).reverse (qd ++ q :: st)) := Lib.hid (by rw [hWb]; exact HG.out)
    have HBb : Hid (BoxAt Wb W.heap.size (bxL q.1)) := Lib.hid (by rw [hWb]; exact HB.out)
    have hzb : Wb.heap.size = wc.heap.size := by rw [hWb]; try simp
    have HLb : Hid (Below base W Wb) := Lib.hid (by rw [hWb]; exact HW.out.mono (show base ≤ W.heap.size by omega))
    rw [← hWb]
    clear hWb c0 c1 c2 fS b0 b1 b2 fbx HG HB HX HW
    obtain ⟨_, _, c0, c1, c2, fS⟩ := HGb.out.sol
    obtain ⟨_, hbx, fbx⟩ := HBb.out
    have b0 := hbx 0 _ rfl
    have b1 := hbx 1 _ rfl
    have b2 := hbx 2 _ rfl
    clear hbx
    have hSb : S < Wb.heap.size := by omega
    have hWb : W.heap.size < Wb.heap.size := by omega
    obtain ⟨i4, hi4, hz40, hz41, hz42⟩ := info_parts info44
    refine wp_region_held_drew (S := (fun X => X.cell? ⟨W.heap.size, 0, none⟩ = some (.slice q.1.lo.a q.1.lo.n q.1.lo.c) ∧ X.cell? ⟨W.heap.size, 1, none⟩ = some (.slice q.1.hi.a q.1.hi.n q.1.hi.c) ∧ X.cell? ⟨W.heap.size, 2, none⟩ = some (.bool q.1.holds))) (by kernel_rfl) ?_ (fun hHeld => ?_)
    · simp [go_sem, *]
    refine wpAnyH_take (i := 0) (v := ?_) rfl (by kernel_rfl) (by kernel_rfl) (by kernel_rfl) (fun _ _ _ h => h) (Or.inl ⟨by rfl, ?_⟩) (by assumption) ?_
    rotate_left
    · intro w hSw; (try dsimp only at hSw); go_simp; (first | done | (with_reducible rfl))
    try simp only [Act.put, List.getElem_toArray, List.getElem_cons_succ, List.getElem_cons_zero, List.setIfInBounds_toArray, List.set_cons_zero, List.set_cons_succ]
    refine wpAnyH_take (i := 1) (v := ?_) rfl (by kernel_rfl) (by kernel_rfl) (by kernel_rfl) (fun _ _ _ h => h) (Or.inl ⟨by rfl, ?_⟩) (by assumption) ?_
    rotate_left
    · intro w hSw; (try dsimp only at hSw); go_simp; (first | done | (with_reducible rfl))
    try simp only [Act.put, List.getElem_toArray, List.getElem_cons_succ, List.getElem_cons_zero, List.setIfInBounds_toArray, List.set_cons_zero, List.set_cons_succ]
    refine wpAnyH_take (i := 2) (v := ?_) rfl (by kernel_rfl) (by kernel_rfl) (by kernel_rfl) (fun _ _ _ h => h) (Or.inl ⟨by rfl, ?_⟩) (by assumption) ?_
    rotate_left
    · intro w hSw; (try dsimp only at hSw); go_simp; (first | done | (with_reducible rfl))
    try simp only [Act.put, List.getElem_toArray, List.getElem_cons_succ, List.getElem_cons_zero, List.setIfInBounds_toArray, List.set_cons_zero, List.set_cons_succ]
    refine wpAnyH_take (i := 3) (v := ?_) rfl (by kernel_rfl) (by kernel_rfl) (by kernel_rfl) (fun _ _ _ h => h) (Or.inl ⟨by rfl, ?_⟩) (by assumption) ?_
    rotate_left
    · intro w hSw; (try dsimp only at hSw); go_simp; (first | done | (with_reducible rfl))
    try simp only [Act.put, List.getElem_toArray, List.getElem_cons_succ, List.getElem_cons_zero, List.setIfInBounds_toArray, List.set_cons_zero, List.set_cons_succ]
    refine wpAnyH_take (i := 5) (v := ?_) rfl (by kernel_rfl) (by kernel_rfl) (by kernel_rfl) (fun _ _ _ h => h) (Or.inl ⟨by rfl, ?_⟩) (by assumption) ?_
    rotate_left
    · intro w hSw; (try dsimp only at hSw); go_simp; (first | done | (with_reducible rfl))
    try simp only [Act.put, List.getElem_toArray, List.getElem_cons_succ, List.getElem_cons_zero, List.setIfInBounds_toArray, List.set_cons_zero, List.set_cons_succ]
    refine wpAnyH_ready (rs := [4, 6]) (by kernel_rfl) (by simp) ?_
    refine AllReadyH.cons rfl (fun K hK => ?_) (AllReadyH.cons rfl (fun K hK => ?_) AllReadyH.nil)
    · go_simp
      refine hK.out _ _ ?_ (fun hHeld => ?_)
      · simp [go_sem, *]
      clear hK K
      try simp only [Act.put, List.getElem_toArray, List.getElem_cons_succ, List.getElem_cons_zero, List.setIfInBounds_toArray, List.set_cons_zero, List.set_cons_succ]
      refine wpAnyH_ready (rs := [6]) (by kernel_rfl) (by simp) ?_
      refine AllReadyH.cons rfl (fun K hK => ?_) AllReadyH.nil
      go_simp
      refine hK.out _ _ ?_ (fun hHeld => ?_)
      · simp [go_sem, *]
      clear hK K
      try simp only [Act.put, List.getElem_toArray, List.getElem_cons_succ, List.getElem_cons_zero, List.setIfInBounds_toArray, List.set_cons_zero, List.set_cons_succ]
      refine wpAnyH_ready (rs := [7]) (by kernel_rfl) (by simp) ?_
      refine AllReadyH.cons rfl (fun K hK => ?_) AllReadyH.nil
      have HGa : Hid (SolvG (Wb.drew.alloc (.cells #[.slice q.1.lo.a q.1.lo.n q.1.lo.c, .slice q.1.hi.a q.1.hi.n q.1.hi.c, .bool q.1.holds] 44)) base S (.func (.func g) #[] cb) d o qd (q :: st).reverse (qd ++ q :: st)) := Lib.hid (HGb.out.below (by repeat (first | (with_reducible exact Below.refl _ _) | (with_reducible assumption) | ((with_reducible refine Below.setCell ?_ ?_ _); rotate_left; (focus (first | omega | (simp; omega) | (simp; done)))) | ((with_reducible refine Below.alloc ?_ ?_ _); rotate_left; (focus (first | omega | (simp; omega) | (simp; done)))) | (with_reducible refine Below.drew ?_))))
      refine step_append_sl rfl (.tmp 62) (.tmp 64) 26 rfl base 44 i4 _ 3 56 Try.underlying26 hi4 hz40 hz41 hz42 rfl (by decide) d.a d.n d.c _ (by simp [Act.eval, Act.put]) HGa.out.dec ⟨Wb.heap.size, 0, none⟩ 1 1 (bxL q.1) (by simp [Act.eval, Act.put]) rfl (cells_new0 _ _ _ _ (by simp)) (by simp [Value.oneCell']) ?_ ?_ ?_ ?_
      · have := H.out.dn; have e : maxLen = 9223372036854775807 := (by unfold maxLen; decide); rw [e]; omega
      · have := H.out.dn; omega
      · simp; omega
      intro u3 w3 ho3 hg3 hn3
      have HP : Hid (Rows w3 base (solR S (.func (.func g) #[] cb) d o :: bsR ⟨u3.a, d.n + 1, u3.c⟩ (qd ++ [(q.1, q.2)]) :: bsR o (q :: st).reverse :: (qd ++ q :: st).flatMap bxR)) := Lib.hid (SolvG.push1 (d' := ⟨u3.a, d.n + 1, u3.c⟩) HGa.out (q.1, q.2) (by simpa using ho3) hg3 hn3)
      have HL3 : Hid (Below base W w3) := Lib.hid (((HLb.out.drew).alloc (by simp; omega) _).grown hg3 (by simp; omega) (fun k hk => (HGa.out.dec.lt k hk).1))
      have s3 := hg3.size
      try simp at s3
      clear c0 c1 c2 fS
      obtain ⟨_, _, c0, c1, c2, fS⟩ := solR_cells HP.out
      have d0 : w3.cell? ⟨W.heap.size, 0, none⟩ = some (.slice q.1.lo.a q.1.lo.n q.1.lo.c) := hg3.cell (by simp [go_sem, *]) (fun e => nD e.symm)
      have d1 : w3.cell? ⟨W.heap.size, 1, none⟩ = some (.slice q.1.hi.a q.1.hi.n q.1.hi.c) := hg3.cell (by simp [go_sem, *]) (fun e => nD e.symm)
      have d2 : w3.cell? ⟨W.heap.size, 2, none⟩ = some (.bool q.1.holds) := hg3.cell (by simp [go_sem, *]) (fun e => nD e.symm)
      clear ho3 hg3 hn3 b0 b1 b2 fbx
      have hS3 : S < w3.heap.size := by omega
      refine hK.out _ _ ?_ (fun hHeld => ?_)
      · simp [go_sem, *]
      clear hK K
      try simp only [Act.put, List.getElem_toArray, List.getElem_cons_succ, List.getElem_cons_zero, List.setIfInBounds_toArray, List.set_cons_zero, List.set_cons_succ]
      refine wpAnyH_take (i := 8) (v := ?_) rfl (by kernel_rfl) (by kernel_rfl) (by kernel_rfl) (fun _ _ _ h => h) (Or.inl ⟨by rfl, ?_⟩) (by assumption) ?_
      rotate_left
      · intro w hSw; (try dsimp only at hSw); go_simp; (first | done | (with_reducible rfl))
      try simp only [Act.put, List.getElem_toArray, List.getElem_cons_succ, List.getElem_cons_zero, List.setIfInBounds_toArray, List.set_cons_zero, List.set_cons_succ]
      refine wpAnyH_take (i := 9) (v := ?_) rfl (by kernel_rfl) (by kernel_rfl) (by kernel_rfl) (fun _ _ _ h => h) (Or.inl ⟨by rfl, ?_⟩) (by assumption) ?_
      rotate_left
      · intro w hSw; (try dsimp only at hSw); go_simp; (first | done | (with_reducible rfl))
      try simp only [Act.put, List.getElem_toArray, List.getElem_cons_succ, List.getElem_cons_zero, List.setIfInBounds_toArray, List.set_cons_zero, List.set_cons_succ]
      refine wpAnyH_ready (rs := [10]) (by kernel_rfl) (by simp) ?_
      refine AllReadyH.cons rfl (fun K hK => ?_) AllReadyH.nil
      go_simp
      refine hK.out _ _ ?_ (fun hHeld => ?_)
      · simp [go_sem, *]
      clear hK K
      try simp only [Act.put, List.getElem_toArray, List.getElem_cons_succ, List.getElem_cons_zero, List.setIfInBounds_toArray, List.set_cons_zero, List.set_cons_succ]
      refine wpAnyH_done (by kernel_rfl) ?_ _
      have HQ : Hid (SolvG (w3.setCell ⟨S, 1, none⟩ (.slice u3.a (d.n + 1) u3.c)) base S (.func (.func g) #[] cb) ⟨u3.a, d.n + 1, u3.c⟩ o (qd ++ [(q.1, q.2)]) (q :: st).reverse (qd ++ q :: st)) := Lib.hid (SolvG.set1 (d' := ⟨u3.a, d.n + 1, u3.c⟩) HP.out)
      have HL4 : Hid (Below base W (w3.setCell ⟨S, 1, none⟩ (.slice u3.a (d.n + 1) u3.c))) := Lib.hid (HL3.out.setCell hS1 _)
      clear c0 c1 c2 fS HP HL3 d0 d1 d2
      obtain ⟨_, _, c0, c1, c2, fS⟩ := HQ.out.sol
      have hsl := head26 H.out.opn (i := st.length) (by rw [HON.out]; omega)
      generalize w3.setCell ⟨S, 1, none⟩ (.slice u3.a (d.n + 1) u3.c) = w4 at HQ HL4 c0 c1 c2 fS ⊢
      go_wp2_with fail
      go_ret
      exact ⟨rfl, HL4.out.setCell hS1 _, _, _, SolvG.decided HQ.out rfl⟩
    · go_simp
      refine hK.out _ _ ?_ (fun hHeld => ?_)
      · simp [go_sem, *]
      clear hK K
      try simp only [Act.put, List.getElem_toArray, List.getElem_cons_succ, List.getElem_cons_zero, List.setIfInBounds_toArray, List.set_cons_zero, List.set_cons_succ]
      refine wpAnyH_ready (rs := [4]) (by kernel_rfl) (by simp) ?_
      refine AllReadyH.cons rfl (fun K hK => ?_) AllReadyH.nil
      go_simp
      refine hK.out _ _ ?_ (fun hHeld => ?_)
      · simp [go_sem, *]
      clear hK K
      try simp only [Act.put, List.getElem_toArray, List.getElem_cons_succ, List.getElem_cons_zero, List.setIfInBounds_toArray, List.set_cons_zero, List.set_cons_succ]
      refine wpAnyH_ready (rs := [7]) (by kernel_rfl) (by simp) ?_
      refine AllReadyH.cons rfl (fun K hK => ?_) AllReadyH.nil
      have HGa : Hid (SolvG (Wb.drew.alloc (.cells #[.slice q.1.lo.a q.1.lo.n q.1.lo.c, .slice q.1.hi.a q.1.hi.n q.1.hi.c, .bool q.1.holds] 44)) base S (.func (.func g) #[] cb) d o qd (q :: st).reverse (qd ++ q :: st)) := Lib.hid (HGb.out.below (by repeat (first | (with_reducible exact Below.refl _ _) | (with_reducible assumption) | ((with_reducible refine Below.setCell ?_ ?_ _); rotate_left; (focus (first | omega | (simp; omega) | (simp; done)))) | ((with_reducible refine Below.alloc ?_ ?_ _); rotate_left; (focus (first | omega | (simp; omega) | (simp; done)))) | (with_reducible refine Below.drew ?_))))
      refine step_append_sl rfl (.tmp 62) (.tmp 64) 26 rfl base 44 i4 _ 3 56 Try.underlying26 hi4 hz40 hz41 hz42 rfl (by decide) d.a d.n d.c _ (by simp [Act.eval, Act.put]) HGa.out.dec ⟨Wb.heap.size, 0, none⟩ 1 1 (bxL q.1) (by simp [Act.eval, Act.put]) rfl (cells_new0 _ _ _ _ (by simp)) (by simp [Value.oneCell']) ?_ ?_ ?_ ?_
      · have := H.out.dn; have e : maxLen = 9223372036854775807 := (by unfold maxLen; decide); rw [e]; omega
      · have := H.out.dn; omega
      · simp; omega
      intro u3 w3 ho3 hg3 hn3
      have HP : Hid (Rows w3 base (solR S (.func (.func g) #[] cb) d o :: bsR ⟨u3.a, d.n + 1, u3.c⟩ (qd ++ [(q.1, q.2)]) :: bsR o (q :: st).reverse :: (qd ++ q :: st).flatMap bxR)) := Lib.hid (SolvG.push1 (d' := ⟨u3.a, d.n + 1, u3.c⟩) HGa.out (q.1, q.2) (by simpa using ho3) hg3 hn3)
      have HL3 : Hid (Below base W w3) := Lib.hid (((HLb.out.drew).alloc (by simp; omega) _).grown hg3 (by simp; omega) (fun k hk => (HGa.out.dec.lt k hk).1))
      have s3 := hg3.size
      try simp at s3
      clear c0 c1 c2 fS
      obtain ⟨_, _, c0, c1, c2, fS⟩ := solR_cells HP.out
      have d0 : w3.cell? ⟨W.heap.size, 0, none⟩ = some (.slice q.1.lo.a q.1.lo.n q.1.lo.c) := hg3.cell (by simp [go_sem, *]) (fun e => nD e.symm)
      have d1 : w3.cell? ⟨W.heap.size, 1, none⟩ = some (.slice q.1.hi.a q.1.hi.n q.1.hi.c) := hg3.cell (by simp [go_sem, *]) (fun e => nD e.symm)
      have d2 : w3.cell? ⟨W.heap.size, 2, none⟩ = some (.bool q.1.holds) := hg3.cell (by simp [go_sem, *]) (fun e => nD e.symm)
      clear ho3 hg3 hn3 b0 b1 b2 fbx
      have hS3 : S < w3.heap.size := by omega
      refine hK.out _ _ ?_ (fun hHeld => ?_)
      · simp [go_sem, *]
      clear hK K
      try simp only [Act.put, List.getElem_toArray, List.getElem_cons_succ, List.getElem_cons_zero, List.setIfInBounds_toArray, List.set_cons_zero, List.set_cons_succ]
      refine wpAnyH_take (i := 8) (v := ?_) rfl (by kernel_rfl) (by kernel_rfl) (by kernel_rfl) (fun _ _ _ h => h) (Or.inl ⟨by rfl, ?_⟩) (by assumption) ?_
      rotate_left
      · intro w hSw; (try dsimp only at hSw); go_simp; (first | done | (with_reducible rfl))
      try simp only [Act.put, List.getElem_toArray, List.getElem_cons_succ, List.getElem_cons_zero, List.setIfInBounds_toArray, List.set_cons_zero, List.set_cons_succ]
      refine wpAnyH_take (i := 9) (v := ?_) rfl (by kernel_rfl) (by kernel_rfl) (by kernel_rfl) (fun _ _ _ h => h) (Or.inl ⟨by rfl, ?_⟩) (by assumption) ?_
      rotate_left
      · intro w hSw; (try dsimp only at hSw); go_simp; (first | done | (with_reducible rfl))
      try simp only [Act.put, List.getElem_toArray, List.getElem_cons_succ, List.getElem_cons_zero, List.setIfInBounds_toArray, List.set_cons_zero, List.set_cons_succ]
      refine wpAnyH_ready (rs := [10]) (by kernel_rfl) (by simp) ?_
      refine AllReadyH.cons rfl (fun K hK => ?_) AllReadyH.nil
      go_simp
      refine hK.out _ _ ?_ (fun hHeld => ?_)
      · simp [go_sem, *]
      clear hK K
      try simp only [Act.put, List.getElem_toArray, List.getElem_cons_succ, List.getElem_cons_zero, List.setIfInBounds_toArray, List.set_cons_zero, List.set_cons_succ]
      refine wpAnyH_done (by kernel_rfl) ?_ _
      have HQ : Hid (SolvG (w3.setCell ⟨S, 1, none⟩ (.slice u3.a (d.n + 1) u3.c)) base S (.func (.func g) #[] cb) ⟨u3.a, d.n + 1, u3.c⟩ o (qd ++ [(q.1, q.2)]) (q :: st).reverse (qd ++ q :: st)) := Lib.hid (SolvG.set1 (d' := ⟨u3.a, d.n + 1, u3.c⟩) HP.out)
      have HL4 : Hid (Below base W (w3.setCell ⟨S, 1, none⟩ (.slice u3.a (d.n + 1) u3.c))) := Lib.hid (HL3.out.setCell hS1 _)
      clear c0 c1 c2 fS HP HL3 d0 d1 d2
      obtain ⟨_, _, c0, c1, c2, fS⟩ := HQ.out.sol
      have hsl := head26 H.out.opn (i := st.length) (by rw [HON.out]; omega)
      generalize w3.setCell ⟨S, 1, none⟩ (.slice u3.a (d.n + 1) u3.c) = w4 at HQ HL4 c0 c1 c2 fS ⊢
      go_wp2_with fail
      go_ret
      exact ⟨rfl, HL4.out.setCell hS1 _, _, _, SolvG.decided HQ.out rfl⟩
end Go.Proofs.Ytcncobhdfflelaa
