/- The solver in memory, and how its rows read. -/
import Derived.Test.YtcncobhdfflelaaMw
import Derived.Test.YtcncobhdfflelaaSp
import Derived.Test.YtcncobhdfflelaaBh
namespace Go.Proofs.Ytcncobhdfflelaa
open Go.RowKit

/-- a box in memory with what its rows hold -/
abbrev BxM := BxC × List Int × List Int
abbrev ints (l : List Int) : List Value := l.map (Value.int .i64)
def loR (q : BxM) : Row := ⟨3, 1, q.1.lo, ints q.2.1⟩
def hiR (q : BxM) : Row := ⟨3, 1, q.1.hi, ints q.2.2⟩
def bxR (q : BxM) : List Row := [loR q, hiR q]
def solR (S : Nat) (F : Value) (d o : Sl) : Row := ⟨56, 3, ⟨some ⟨S, 0, none⟩, 1, 1⟩, [F, .slice d.a d.n d.c, .slice o.a o.n o.c]⟩
def bsR (s : Sl) (qs : List BxM) : Row := ⟨44, 3, s, (qs.map (·.1)).flatMap bxL⟩
/-- the solver: its three words, the decided boxes, the open ones (the first is the last in memory) -/
def SolvAt (W : World) (base S : Nat) (F : Value) (d o : Sl) (qd st : List BxM) : Prop :=
  Rows W base (solR S F d o :: bsR d qd :: bsR o st.reverse :: (qd ++ st).flatMap bxR)
namespace Bx
/-- a box that contains points lies within a domain -/
structure Sub (D b : Dm) : Prop where
  l1 : b.1.length = D.1.length
  l2 : b.2.length = D.1.length
  in_ : ∀ (i : Nat) (a c x y : Int), D.1[i]? = some a → D.2[i]? = some c → b.1[i]? = some x → b.2[i]? = some y → a ≤ x ∧ x ≤ y ∧ y ≤ c
theorem Sub.cutLo {D b : Dm} (h : Sub D b) (hw : ¬ widest b.1 b.2 < 0) : Sub D (cutLo b (wI b)) := by
  obtain ⟨p, q, h1, h2, h3, _, h4⟩ := widest_pos hw
  refine ⟨h.l1, by unfold Bx.cutLo; simpa using h.l2, fun i a c x y ha hc hx hy => ?_⟩
  unfold Bx.cutLo at hx hy
  simp only at hx hy
  by_cases e : wI b = i
  · subst e
    have hl := (List.getElem?_eq_some_iff.1 h2).1
    rw [List.getElem?_set_self hl] at hy
    injection hy with hy
    have := h.in_ _ a c p q ha hc h1 h2
    have hm := mid_in h3
    rw [h1] at hx
    injection hx with hx
    omega
  · rw [List.getElem?_set_ne e] at hy
    exact h.in_ i a c x y ha hc hx hy
theorem Sub.cutHi {D b : Dm} (h : Sub D b) (hw : ¬ widest b.1 b.2 < 0) : Sub D (cutHi b (wI b)) := by
  obtain ⟨p, q, h1, h2, h3, _, h4⟩ := widest_pos hw
  refine ⟨by unfold Bx.cutHi; simpa using h.l1, h.l2, fun i a c x y ha hc hx hy => ?_⟩
  unfold Bx.cutHi at hx hy
  simp only at hx hy
  by_cases e : wI b = i
  · subst e
    have hl := (List.getElem?_eq_some_iff.1 h1).1
    rw [List.getElem?_set_self hl] at hx
    injection hx with hx
    have := h.in_ _ a c p q ha hc h1 h2
    have hm := mid_in h3
    rw [h2] at hy
    injection hy with hy
    omega
  · rw [List.getElem?_set_ne e] at hx
    exact h.in_ i a c x y ha hc hx hy
theorem Sub.small {D b : Dm} (h : Sub D b) (hl : D.2.length = D.1.length) (h1 : Small D.1) (h2 : Small D.2) : Small b.1 ∧ Small b.2 := by
  have key : ∀ i : Nat, i < b.1.length → ∃ a c x y : Int, b.1[i]? = some x ∧ b.2[i]? = some y ∧ -9007199254740992 ≤ a ∧ c ≤ 9007199254740992 ∧ a ≤ x ∧ x ≤ y ∧ y ≤ c := fun i hi => by
    have e1 := h.l1
    have e2 := h.l2
    have q1 : D.1[i]? = some (D.1[i]'(by omega)) := List.getElem?_eq_getElem _
    have q2 : D.2[i]? = some (D.2[i]'(by omega)) := List.getElem?_eq_getElem _
    have q3 : b.1[i]? = some (b.1[i]'(by omega)) := List.getElem?_eq_getElem _
    have q4 : b.2[i]? = some (b.2[i]'(by omega)) := List.getElem?_eq_getElem _
    have := h.in_ i _ _ _ _ q1 q2 q3 q4
    exact ⟨_, _, _, _, q3, q4, (h1 _ (List.mem_of_getElem? q1)).1, (h2 _ (List.mem_of_getElem? q2)).2, this⟩
  refine ⟨fun x hx => ?_, fun y hy => ?_⟩
  · obtain ⟨i, hi, rfl⟩ := List.getElem_of_mem hx
    obtain ⟨a, c, x', y', r1, r2, r3⟩ := key i hi
    rw [List.getElem?_eq_getElem hi] at r1
    injection r1 with r1
    omega
  · obtain ⟨i, hi, rfl⟩ := List.getElem_of_mem hy
    obtain ⟨a, c, x', y', r1, r2, r3⟩ := key i (by rw [h.l1, ← h.l2]; exact hi)
    rw [List.getElem?_eq_getElem hi] at r2
    injection r2 with r2
    omega
end Bx
theorem boxes_len (qs : List BxM) : ((qs.map (·.1)).flatMap bxL).length = qs.length * 3 := by
  induction qs with
  | nil => rfl
  | cons q qs ih => rw [List.map_cons, List.flatMap_cons, List.length_append, ih, List.length_cons]; simp only [List.length_cons, List.length_nil]; omega
section
variable {W W' : World} {base S : Nat} {F : Value} {d o : Sl} {qd st : List BxM} {q : BxM}
theorem SolvAt.keep (h : SolvAt W base S F d o qd st) (hb : Below W.heap.size W W') : SolvAt W' base S F d o qd st := Rows.keep h hb
theorem SolvAt.sol (h : SolvAt W base S F d o qd st) : base ≤ S ∧ S < W.heap.size ∧ W.cell? ⟨S, 0, none⟩ = some F ∧ W.cell? ⟨S, 1, none⟩ = some (.slice d.a d.n d.c) ∧ W.cell? ⟨S, 2, none⟩ = some (.slice o.a o.n o.c) ∧ (∀ j, W.frozen? ⟨S, j, none⟩ = false) := by
  have h1 : W.ownsRow base 56 3 (.slice (some ⟨S, 0, none⟩) 1 1) 1 [F, .slice d.a d.n d.c, .slice o.a o.n o.c] := h.own (solR S F d o) List.mem_cons_self
  have h2 := h1.lt S rfl
  exact ⟨h2.1, h2.2, h1.cellAt 0 (by decide), h1.cellAt 1 (by decide), h1.cellAt 2 (by decide), fun j => h1.frozenAt j⟩
theorem SolvAt.dec (h : SolvAt W base S F d o qd st) : W.ownsRow base 44 3 (.slice d.a d.n d.c) d.n ((qd.map (·.1)).flatMap bxL) := h.own (bsR d qd) (List.mem_cons_of_mem _ List.mem_cons_self)
theorem SolvAt.opn (h : SolvAt W base S F d o qd st) : W.ownsRow base 44 3 (.slice o.a o.n o.c) o.n ((st.reverse.map (·.1)).flatMap bxL) := h.own (bsR o st.reverse) (List.mem_cons_of_mem _ (List.mem_cons_of_mem _ List.mem_cons_self))
theorem SolvAt.dn (h : SolvAt W base S F d o qd st) : d.n = qd.length := by have := h.dec.1; rw [boxes_len] at this; omega
theorem SolvAt.on (h : SolvAt W base S F d o qd st) : o.n = st.length := by have := h.opn.1; rw [boxes_len, List.length_reverse] at this; omega
theorem SolvAt.row (h : SolvAt W base S F d o qd st) (hq : q ∈ qd ++ st) : W.ownsRow base 3 1 (.slice q.1.lo.a q.1.lo.n q.1.lo.c) q.1.lo.n (ints q.2.1) ∧ W.ownsRow base 3 1 (.slice q.1.hi.a q.1.hi.n q.1.hi.c) q.1.hi.n (ints q.2.2) := by
  have key : ∀ r ∈ bxR q, r.own W base := fun r hr => h.own r (List.mem_cons_of_mem _ (List.mem_cons_of_mem _ (List.mem_cons_of_mem _ (List.mem_flatMap.2 ⟨q, hq, hr⟩))))
  exact ⟨key (loR q) List.mem_cons_self, key (hiR q) (List.mem_cons_of_mem _ List.mem_cons_self)⟩
theorem SolvAt.lt (h : SolvAt W base S F d o qd st) {r : Row} (hr : r ∈ solR S F d o :: bsR d qd :: bsR o st.reverse :: (qd ++ st).flatMap bxR) {g : Nat} (hg : r.blk = some g) : base ≤ g ∧ g < W.heap.size := (h.own r hr).lt g hg
/-- a new box X of the call is written -/
theorem SolvAt.off (h : SolvAt W base S F d o qd st) {X : Nat} {v : Value} {j : Nat} (hX : ∀ r ∈ solR S F d o :: bsR d qd :: bsR o st.reverse :: (qd ++ st).flatMap bxR, r.blk ≠ some X) : SolvAt (W.setCell ⟨X, j, none⟩ v) base S F d o qd st :=
  Rows.off h (X := X) ⟨rfl, rfl, rfl, by simp, fun k _ hk => heap_setCell_other W _ k v (fun e => hk (by simp [e]))⟩ hX
/-- the last open box: where it lies -/
theorem SolvAt.last (h : SolvAt W base S F d o qd (q :: st)) : ∃ g, o.a = some ⟨g, 0, none⟩ ∧ base ≤ g ∧ g < W.heap.size ∧ g ≠ S ∧ o.n = st.length + 1 ∧ W.cell? ⟨g, st.length * 3, none⟩ = some (.slice q.1.lo.a q.1.lo.n q.1.lo.c) ∧ W.cell? ⟨g, st.length * 3 + 1, none⟩ = some (.slice q.1.hi.a q.1.hi.n q.1.hi.c) ∧ W.cell? ⟨g, st.length * 3 + 2, none⟩ = some (.bool q.1.holds) ∧ ∀ j, W.frozen? ⟨g, j, none⟩ = false := by
  have ho := h.opn
  have hn := h.on
  rw [List.length_cons] at hn
  obtain ⟨g, r, hA, h1, h2, h3, h4, h5⟩ := own_at ho (fun _ => rfl) (by decide) (i := st.length) (by omega)
  have hr : r = q.1 := by
    rw [List.reverse_cons, List.map_append, List.getElem?_append_right (by simp)] at h3
    simpa using h3.symm
  subst hr
  have hap := (List.pairwise_cons.1 h.ap).1 (bsR o (q :: st).reverse) (List.mem_cons_of_mem _ List.mem_cons_self)
  refine ⟨g, hA, h1, h2, fun e => ?_, hn, h4 0 _ rfl, h4 1 _ rfl, h4 2 _ rfl, h5⟩
  rcases hap with hap | hap
  · simp [Row.blk, Row.v, solR, Value.ownBlock] at hap
  · apply hap
    simp [Row.blk, Row.v, solR, bsR, Value.ownBlock, hA, e]
end
end Go.Proofs.Ytcncobhdfflelaa
