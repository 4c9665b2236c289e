/- The reference's Solve: its relation, how it begins, how it goes on. -/
import Derived.Test.YtcncobhdfflelaaGb
namespace Go.Proofs.Ytcncobhdfflelaa
open Go.RowKit

/-- a box whose rows are the call's own -/
structure BoxOwn (W : World) (base : Nat) (q : BxM) : Prop where
  lo : W.ownsRow base 3 1 (.slice q.1.lo.a q.1.lo.n q.1.lo.c) q.1.lo.n (ints q.2.1)
  hi : W.ownsRow base 3 1 (.slice q.1.hi.a q.1.hi.n q.1.hi.c) q.1.hi.n (ints q.2.2)
theorem BoxOwn.below {W W' : World} {base : Nat} {q : BxM} (h : BoxOwn W base q) (hb : Below W.heap.size W W') : BoxOwn W' base q := ⟨own_below h.lo hb, own_below h.hi hb⟩
theorem BoxOwn.rd {W : World} {base : Nat} {q : BxM} (h : BoxOwn W base q) : BoxRd W q := ⟨own_rd h.lo, own_rd h.hi⟩
/-- a row of boxes is written: the rows of ints stay -/
theorem BoxOwn.grown {W W' : World} {base base' n : Nat} {v : Value} {xs : List Value} {q : BxM} (h : BoxOwn W base q) (ho : W.ownsRow base' 44 3 v n xs) (hg : W.grownBy W' v.ownBlock) : BoxOwn W' base q :=
  ⟨h.lo.kept hg (own_apart h.lo ho (by decide)), h.hi.kept hg (own_apart h.hi ho (by decide))⟩
/-- the plain run between two rounds -/
structure RunRel (v : List Int → List Int → Int) (M n : Nat) (D : Bx.Dm) (R : List Bx.Box × Int) (k : Nat) (qd st : List BxM) : Prop where
  ms : Bx.meas M (qd.map plD) (st.map plS) ≤ k
  run : Bx.solveF v M k (qd.map plD) (st.map plS) = R
  ok : ∀ q ∈ st, OpenOk D n q
  len : qd.length + st.length ≤ M
section
variable {v : List Int → List Int → Int} {M n : Nat} {D : Bx.Dm} {R : List Bx.Box × Int} {k : Nat} {qd st : List BxM} {q : BxM}
theorem RunRel.pos (h : RunRel v M n D R k qd (q :: st)) : ∃ k', k = k' + 1 := by
  have := h.ms
  unfold Bx.meas at this
  rw [List.map_cons, List.length_cons] at this
  exact ⟨k - 1, by omega⟩
theorem RunRel.dec (h : RunRel v M n D R (k + 1) qd (q :: st)) (t : Bool) (hv : v q.2.1 q.2.2 = if t then 1 else 0) : RunRel v M n D R k (qd ++ [({ q.1 with holds := t }, q.2)]) st := by
  have h2 := h.run
  have h1 := h.ms
  have h3 := h.len
  unfold Bx.meas at h1
  simp only [List.map_cons, List.length_cons, List.length_map] at h1 h3
  rw [List.map_cons] at h2
  unfold Bx.solveF at h2
  refine ⟨?_, ?_, fun p hp => h.ok p (List.mem_cons_of_mem _ hp), by simp; omega⟩
  · unfold Bx.meas; simp only [List.length_map, List.length_append, List.length_cons, List.length_nil]; omega
  · rw [← h2]
    have e : List.map plD (qd ++ [({ q.1 with holds := t }, q.2)]) = List.map plD qd ++ [((plS q).1, (plS q).2, t)] := by rw [List.map_append]; rfl
    cases t with
    | true =>
      have hv1 : v q.2.1 q.2.2 = 1 := by simpa using hv
      rw [if_pos (show v (plS q).1 (plS q).2 = 1 from hv1), e]
    | false =>
      have hv0 : v q.2.1 q.2.2 = 0 := by simpa using hv
      rw [if_neg (show ¬ v (plS q).1 (plS q).2 = 1 from by show ¬ v q.2.1 q.2.2 = 1; rw [hv0]; decide), if_pos (show v (plS q).1 (plS q).2 = 0 from hv0), e]
theorem RunRel.bad (h : RunRel v M n D R (k + 1) qd (q :: st)) (h1 : v q.2.1 q.2.2 ≠ 1) (h0 : v q.2.1 q.2.2 ≠ 0) (hw : Bx.widest q.2.1 q.2.2 < 0) : R = ([], 16) := by
  have h2 := h.run
  rw [List.map_cons] at h2
  unfold Bx.solveF at h2
  rw [if_neg (by exact h1), if_neg (by exact h0), if_pos (by exact hw)] at h2
  exact h2.symm
theorem RunRel.full (h : RunRel v M n D R (k + 1) qd (q :: st)) (h1 : v q.2.1 q.2.2 ≠ 1) (h0 : v q.2.1 q.2.2 ≠ 0) (hw : ¬ Bx.widest q.2.1 q.2.2 < 0) (hm : M ≤ qd.length + (st.length + 1)) : R = ([], 3) := by
  have h2 := h.run
  rw [List.map_cons] at h2
  unfold Bx.solveF at h2
  rw [if_neg (by exact h1), if_neg (by exact h0), if_neg (by exact hw), if_pos (by simpa using hm)] at h2
  exact h2.symm
theorem RunRel.cut {q1 q2 : BxM} (h : RunRel v M n D R (k + 1) qd (q :: st)) (h1 : v q.2.1 q.2.2 ≠ 1) (h0 : v q.2.1 q.2.2 ≠ 0) (hw : ¬ Bx.widest q.2.1 q.2.2 < 0) (hm : ¬ M ≤ qd.length + (st.length + 1))
    (e1 : q1.2 = Bx.cutLo q.2 (Bx.wI q.2)) (e2 : q2.2 = Bx.cutHi q.2 (Bx.wI q.2)) (g1 : q1.1.holds = false) (g2 : q2.1.holds = false) (g3 : q1.1.lo.n = n) (g4 : q1.1.hi.n = n) (g5 : q2.1.lo.n = n) (g6 : q2.1.hi.n = n) : RunRel v M n D R k qd (q1 :: q2 :: st) := by
  have h2 := h.run
  have h3 := h.ms
  unfold Bx.meas at h3
  simp only [List.map_cons, List.length_cons, List.length_map] at h3
  have ok := h.ok q List.mem_cons_self
  rw [List.map_cons] at h2
  unfold Bx.solveF at h2
  rw [if_neg (by exact h1), if_neg (by exact h0), if_neg (by exact hw), if_neg (by simpa using hm)] at h2
  refine ⟨?_, ?_, fun p hp => ?_, by simp only [List.length_cons]; omega⟩
  · unfold Bx.meas; simp only [List.map_cons, List.length_map, List.length_cons]; omega
  · rw [← h2, List.map_cons, List.map_cons]
    show Bx.solveF v M k (qd.map plD) (q1.2 :: q2.2 :: st.map plS) = _
    rw [e1, e2]
    rfl
  · rcases List.mem_cons.1 hp with rfl | hp
    · exact ⟨by rw [e1]; exact ok.sub.cutLo hw, g1, g3, g4⟩
    · rcases List.mem_cons.1 hp with rfl | hp
      · exact ⟨by rw [e2]; exact ok.sub.cutHi hw, g2, g5, g6⟩
      · exact h.ok p (List.mem_cons_of_mem _ hp)
theorem RunRel.done (h : RunRel v M n D R k qd []) : R = (qd.map plD, 0) := by
  have h2 := h.run
  rw [← h2]
  cases k <;> rfl
end
/-- the reference's list of boxes between two rounds -/
structure RefRel (w W : World) (l : Sl) (qs : List BxM) : Prop where
  row : W.ownsRow w.heap.size 44 3 (.slice l.a l.n l.c) l.n ((qs.map (·.1)).flatMap bxL)
  own : ∀ q ∈ qs, BoxOwn W w.heap.size q
  bl : Below w.heap.size w W
theorem RefRel.below {w W W' : World} {l : Sl} {qs : List BxM} (h : RefRel w W l qs) (hb : Below W.heap.size W W') : RefRel w W' l qs := ⟨own_below h.row hb, fun q hq => (h.own q hq).below hb, Below.call h.bl hb⟩
theorem RefRel.n {w W : World} {l : Sl} {qs : List BxM} (h : RefRel w W l qs) : l.n = qs.length := by have := h.row.1; rw [boxes_len] at this; omega
theorem RefRel.post {w W : World} {l : Sl} {qs : List BxM} (h : RefRel w W l qs) : BxsAt W l (qs.map plD) :=
  ⟨⟨qs, own_rd h.row, fun q hq => ⟨(h.own q hq).rd.lo, (h.own q hq).rd.hi⟩, rfl⟩⟩
/-- the run of the whole reference, behind the early returns -/
def RefR (w : World) (v : List Int → List Int → Int) (M n : Nat) (D : Bx.Dm) (R : List Bx.Box × Int) (k : Nat) (l : Sl) (at_ : Nat) (W : World) : Prop := ∃ qd st, RefRel w W l (qd ++ st) ∧ RunRel v M n D R k qd st ∧ at_ = qd.length
/-- box i of the list is written over -/
theorem RefRel.put {w W : World} {l : Sl} {qd st : List BxM} {q : BxM} {g : Nat} {t : Bool} (h : RefRel w W l (qd ++ q :: st)) (hA : l.a = some ⟨g, 0, none⟩) :
    RefRel w (((W.setCell ⟨g, qd.length * 3, none⟩ (.slice q.1.lo.a q.1.lo.n q.1.lo.c)).setCell ⟨g, qd.length * 3 + 1, none⟩ (.slice q.1.hi.a q.1.hi.n q.1.hi.c)).setCell ⟨g, qd.length * 3 + 2, none⟩ (.bool t)) l (qd ++ [({ q.1 with holds := t }, q.2)] ++ st) := by
  have hr := h.row
  have hgb := row_base hr g (by rw [hA]; rfl)
  rw [hA] at hr
  have hi : ((qd ++ q :: st).map (·.1))[qd.length]? = some q.1 := by rw [List.getElem?_map, List.getElem?_append_right (Nat.le_refl _), Nat.sub_self]; rfl
  have s1 := own_store (enc := bxL) hr (fun _ => rfl) (i := qd.length) (j := 0) (v := .slice q.1.lo.a q.1.lo.n q.1.lo.c) (by decide) hi q.1 rfl
  rw [show ((qd ++ q :: st).map (·.1)).set qd.length q.1 = (qd ++ q :: st).map (·.1) from by
    obtain ⟨a, b⟩ := List.getElem?_eq_some_iff.1 hi; rw [← b]; exact List.set_getElem_self a] at s1
  have s2 := own_store (enc := bxL) s1 (fun _ => rfl) (i := qd.length) (j := 1) (v := .slice q.1.hi.a q.1.hi.n q.1.hi.c) (by decide) hi q.1 rfl
  rw [show ((qd ++ q :: st).map (·.1)).set qd.length q.1 = (qd ++ q :: st).map (·.1) from by
    obtain ⟨a, b⟩ := List.getElem?_eq_some_iff.1 hi; rw [← b]; exact List.set_getElem_self a] at s2
  have s3 := own_store (enc := bxL) s2 (fun _ => rfl) (i := qd.length) (j := 2) (v := .bool t) (by decide) hi { q.1 with holds := t } rfl
  have e : ((qd ++ q :: st).map (·.1)).set qd.length ({ q.1 with holds := t } : BxC) = List.map (fun p : BxM => p.1) (qd ++ [(({ q.1 with holds := t }, q.2) : BxM)] ++ st) := by
    rw [List.map_append, List.map_append, List.map_append, List.set_append_right _ _ (by simp)]
    simp
  rw [e] at s3
  have hne : ∀ (W : World) (p : BxM), BoxOwn W w.heap.size p → ∀ (n : Nat) (xs : List Value), W.ownsRow w.heap.size 44 3 (.slice (some ⟨g, 0, none⟩) n l.c) n xs → ∀ j x, BoxOwn (W.setCell ⟨g, j, none⟩ x) w.heap.size p := fun W p hp n xs ho j x => hp.grown ho (grown_set W g j x)
  refine ⟨by rw [hA]; exact s3, fun p hp => ?_, ((h.bl.setCell hgb _).setCell hgb _).setCell hgb _⟩
  have hp' : BoxOwn W w.heap.size p := by
    rcases List.mem_append.1 hp with hp | hp
    · rcases List.mem_append.1 hp with hp | hp
      · exact h.own p (List.mem_append.2 (.inl hp))
      · rw [List.mem_singleton] at hp
        subst hp
        have := h.own q (List.mem_append.2 (.inr List.mem_cons_self))
        exact ⟨this.lo, this.hi⟩
    · exact h.own p (List.mem_append.2 (.inr (List.mem_cons_of_mem _ hp)))
  exact hne _ p (hne _ p (hne _ p hp' _ _ hr _ _) _ _ s1 _ _) _ _ s2 _ _
/-- the list has been appended to (in place, or into new memory) -/
theorem RefRel.app {w W W' : World} {l l' : Sl} {qs' : List BxM} {m : Nat} {xs : List Value} (h : Below w.heap.size w W) (ho : W.ownsRow w.heap.size 44 3 (.slice l.a m l.c) m xs) (hown : W'.ownsRow w.heap.size 44 3 (.slice l'.a l'.n l'.c) l'.n ((qs'.map (·.1)).flatMap bxL)) (hg : W.grownBy W' (Value.slice l.a m l.c).ownBlock) (hq : ∀ q ∈ qs', BoxOwn W w.heap.size q) : RefRel w W' l' qs' :=
  ⟨hown, fun q hq' => (hq q hq').grown ho hg, h.grown hg h.size (fun k hk => row_base ho k hk)⟩
theorem flat_one (qs : List BxC) : ∀ x ∈ qs.flatMap bxL, x.oneCell' = true := fun x hx => by
  obtain ⟨r, _, hr⟩ := List.mem_flatMap.1 hx
  simp at hr
  rcases hr with rfl | rfl | rfl <;> rfl
theorem own_far {W W' : World} {base T k n : Nat} {v : Value} {xs : List Value} {r : Option Nat} (h : W.ownsRow base T k v n xs) (hg : W.grownBy W' r) (hr : ∀ g, r = some g → g < base) : W'.ownsRow base T k v n xs := by
  refine h.kept hg ?_
  by_cases e : v.ownBlock = none
  · exact .inl e
  · obtain ⟨g, hg'⟩ := Option.ne_none_iff_exists'.1 e
    refine .inr fun e' => ?_
    have := row_base h g hg'
    have := hr g (e'.symm.trans hg')
    omega
end Go.Proofs.Ytcncobhdfflelaa
