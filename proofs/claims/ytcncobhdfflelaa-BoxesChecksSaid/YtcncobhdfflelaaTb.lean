/- The loop of boxes.Solve: its relation, how it begins, how it goes on. -/
import Derived.Test.YtcncobhdfflelaaTa
import Derived.Deep.LoopGhost
namespace Go.Proofs.Ytcncobhdfflelaa
open Go.RowKit

theorem Rows.setLow {W : World} {base X j : Nat} {v : Value} {L : List Row} (h : Rows W base L) (hX : X < base) : Rows (W.setCell ⟨X, j, none⟩ v) base L :=
  Rows.off h (grown_set W X j v) (fun r hr e => by have := ((h.own r hr).lt X e).1; omega)
theorem Rows.cons {W : World} {base : Nat} {r : Row} {L : List Row} (h : Rows W base L) (hr : r.own W base) (hap : ∀ q ∈ L, Apart r q) : Rows W base (r :: L) := Rows.insA (L := []) h hr hap
theorem apart_of {r q : Row} (h : ∀ g, r.blk = some g → q.blk ≠ some g) : Apart r q := by
  by_cases e : r.blk = none
  · exact .inl e
  · obtain ⟨g, hg⟩ := Option.ne_none_iff_exists'.1 e
    exact .inr (fun e' => h g hg (e'.symm.trans hg))
theorem solv_start {v1 v2 v3 : World} {base n m : Nat} {u1 u2 : Sl} {lo hi : List Int} (F : Value) (hb : base ≤ v1.heap.size) (o1 : v2.ownsRow v1.heap.size 3 1 (.slice u1.a n u1.c) n (ints lo)) (h2 : Below v1.heap.size v1 v2)
    (o2 : v3.ownsRow v2.heap.size 3 1 (.slice u2.a m u2.c) m (ints hi)) (h3 : Below v2.heap.size v2 v3) :
    SolvAt ((v3.alloc (.cells #[.slice u1.a n u1.c, .slice u2.a m u2.c, .bool false] 44)).alloc (.cells #[F, .slice none 0 0, .slice (some ⟨v3.heap.size, 0, none⟩) 1 1] 56)) base (v3.heap.size + 1) F ⟨none, 0, 0⟩ ⟨some ⟨v3.heap.size, 0, none⟩, 1, 1⟩ [] [(⟨⟨u1.a, n, u1.c⟩, ⟨u2.a, m, u2.c⟩, false⟩, lo, hi)] := by
  have s2 := h2.size
  have s3 := h3.size
  obtain ⟨W, hW⟩ : ∃ W, W = (v3.alloc (.cells #[.slice u1.a n u1.c, .slice u2.a m u2.c, .bool false] 44)).alloc (.cells #[F, .slice none 0 0, .slice (some ⟨v3.heap.size, 0, none⟩) 1 1] 56) := ⟨_, rfl⟩
  obtain ⟨q, hq⟩ : ∃ q : BxM, q = (⟨⟨u1.a, n, u1.c⟩, ⟨u2.a, m, u2.c⟩, false⟩, lo, hi) := ⟨_, rfl⟩
  rw [← hW, ← hq]
  have hml : (1 : Nat) ≤ maxLen := by unfold maxLen; decide
  have r4 : (solR (v3.heap.size + 1) F ⟨none, 0, 0⟩ ⟨some ⟨v3.heap.size, 0, none⟩, 1, 1⟩).own W base := by
    rw [hW]
    have := World.ownsRow_lit (base := base) (e := 56) (size := 3) (v3.alloc (.cells #[.slice u1.a n u1.c, .slice u2.a m u2.c, .bool false] 44)) #[F, .slice none 0 0, .slice (some ⟨v3.heap.size, 0, none⟩) 1 1] 1 (by simp; omega) hml rfl
    simpa [Row.own, solR] using this
  have r3 : (bsR ⟨some ⟨v3.heap.size, 0, none⟩, 1, 1⟩ [q]).own W base := by
    rw [hW, hq]
    have := World.ownsRow_lit (base := base) (e := 44) (size := 3) v3 #[.slice u1.a n u1.c, .slice u2.a m u2.c, .bool false] 1 (by omega) hml rfl
    exact this.alloc _
  have r1 : (loR q).own W base := by rw [hW, hq]; exact (((own_lower (own_below o1 h3) hb).alloc _).alloc _)
  have r2 : (hiR q).own W base := by rw [hW, hq]; exact (((own_lower o2 (by omega)).alloc _).alloc _)
  have r0 : (bsR ⟨none, 0, 0⟩ []).own W base := World.ownsRow_nil _ _ _ _
  have b1 : ∀ g, (loR q).blk = some g → g < v2.heap.size := fun g hg => own_lt o1 (by rw [hq] at hg; exact hg)
  have b2 : ∀ g, (hiR q).blk = some g → v2.heap.size ≤ g ∧ g < v3.heap.size := fun g hg => by rw [hq] at hg; exact ⟨row_base o2 g hg, own_lt o2 hg⟩
  have b3 : (bsR ⟨some ⟨v3.heap.size, 0, none⟩, 1, 1⟩ [q]).blk = some v3.heap.size := rfl
  have b4 : (solR (v3.heap.size + 1) F ⟨none, 0, 0⟩ ⟨some ⟨v3.heap.size, 0, none⟩, 1, 1⟩).blk = some (v3.heap.size + 1) := rfl
  have b0 : (bsR ⟨none, 0, 0⟩ []).blk = none := rfl
  show Rows W base (solR (v3.heap.size + 1) F ⟨none, 0, 0⟩ ⟨some ⟨v3.heap.size, 0, none⟩, 1, 1⟩ :: bsR ⟨none, 0, 0⟩ [] :: bsR ⟨some ⟨v3.heap.size, 0, none⟩, 1, 1⟩ [q] :: [loR q, hiR q])
  have k1 : Rows W base [hiR q] := Rows.cons Rows.none_ r2 (fun q h => (List.not_mem_nil h).elim)
  have k2 : Rows W base [loR q, hiR q] := Rows.cons k1 r1 (fun p h => by
    rcases List.mem_cons.1 h with rfl | h
    · exact apart_of fun g h1 h2 => by have := b1 g h1; have := b2 g h2; omega
    · exact (List.not_mem_nil h).elim)
  have k3 := Rows.cons k2 r3 (fun p h => by
    refine apart_of fun g h1 h2 => ?_
    rw [b3] at h1
    injection h1 with h1
    rcases List.mem_cons.1 h with rfl | h
    · have := b1 g h2; omega
    · rcases List.mem_cons.1 h with rfl | h
      · have := b2 g h2; omega
      · exact (List.not_mem_nil h).elim)
  have k4 := Rows.cons k3 r0 (fun p h => .inl b0)
  exact Rows.cons k4 r4 (fun p h => by
    refine apart_of fun g h1 h2 => ?_
    rw [b4] at h1
    injection h1 with h1
    rcases List.mem_cons.1 h with rfl | h
    · rw [b0] at h2; cases h2
    · rcases List.mem_cons.1 h with rfl | h
      · rw [b3] at h2; injection h2 with h2; omega
      · rcases List.mem_cons.1 h with rfl | h
        · have := b1 g h2; omega
        · rcases List.mem_cons.1 h with rfl | h
          · have := b2 g h2; omega
          · exact (List.not_mem_nil h).elim)
def plD (q : BxM) : Bx.Box := (q.2.1, q.2.2, q.1.holds)
def plS (q : BxM) : Bx.Dm := q.2
theorem SolvAt.bxs {W : World} {base S : Nat} {F : Value} {d o : Sl} {qd st : List BxM} (h : SolvAt W base S F d o qd st) : BxsC W d (qd.map plD) := by
  refine ⟨⟨qd, own_rd h.dec, fun q hq => ?_, rfl⟩, own_cap h.dec⟩
  have := h.row (q := q) (List.mem_append.2 (.inl hq))
  exact ⟨own_rd this.1, own_rd this.2⟩
structure OpenOk (D : Bx.Dm) (n : Nat) (q : BxM) : Prop where
  sub : Bx.Sub D q.2
  h : q.1.holds = false
  n1 : q.1.lo.n = n
  n2 : q.1.hi.n = n
/-- between two rounds -/
structure SolveRel (w W0 : World) (S : Nat) (F : Value) (v : List Int → List Int → Int) (M n : Nat) (D : Bx.Dm) (R : List Bx.Box × Int) (k : Nat) (W : World) (d o : Sl) (qd st : List BxM) : Prop where
  at_ : SolvAt W (w.heap.size + 2) S F d o qd st
  bl : Below (w.heap.size + 2) W0 W
  ms : Bx.meas M (qd.map plD) (st.map plS) ≤ k
  run : Bx.solveF v M k (qd.map plD) (st.map plS) = R
  ok : ∀ q ∈ st, OpenOk D n q
  len : qd.length + st.length ≤ M
def SolveR (w W0 : World) (S : Nat) (F : Value) (v : List Int → List Int → Int) (M n : Nat) (D : Bx.Dm) (R : List Bx.Box × Int) (k : Nat) (W : World) : Prop := ∃ d o qd st, SolveRel w W0 S F v M n D R k W d o qd st
section
variable {w W0 W W' : World} {S : Nat} {F : Value} {v : List Int → List Int → Int} {M n : Nat} {D : Bx.Dm} {R : List Bx.Box × Int} {k : Nat} {d o d' o' : Sl} {qd st : List BxM} {q : BxM}
theorem SolveRel.pos (h : SolveRel w W0 S F v M n D R k W d o qd (q :: st)) : ∃ k', k = k' + 1 := by
  have := h.ms
  unfold Bx.meas at this
  rw [List.map_cons, List.length_cons] at this
  exact ⟨k - 1, by omega⟩
theorem SolveRel.dec (h : SolveRel w W0 S F v M n D R (k + 1) W d o qd (q :: st)) (t : Bool) (hv : v q.2.1 q.2.2 = if t then 1 else 0) (ha : SolvAt W' (w.heap.size + 2) S F d' o' (qd ++ [({ q.1 with holds := t }, q.2)]) st) (hb : Below (w.heap.size + 2) W W') :
    SolveR w W0 S F v M n D R k W' := by
  have h2 := h.run
  have h1 := h.ms
  have h3 := h.len
  unfold Bx.meas at h1
  simp only [List.map_cons, List.length_cons, List.length_map] at h1 h3
  rw [List.map_cons] at h2
  unfold Bx.solveF at h2
  refine ⟨d', o', _, st, ha, h.bl.trans hb, ?_, ?_, fun p hp => h.ok p (List.mem_cons_of_mem _ hp), by simp; omega⟩
  · unfold Bx.meas; simp only [List.length_map, List.length_append, List.length_cons, List.length_nil]; omega
  · rw [← h2]
    have e : List.map plD (qd ++ [({ q.1 with holds := t }, q.2)]) = List.map plD qd ++ [((plS q).1, (plS q).2, t)] := by rw [List.map_append]; rfl
    cases t with
    | true =>
      have hv1 : v q.2.1 q.2.2 = 1 := by simpa using hv
      rw [if_pos (show v (plS q).1 (plS q).2 = 1 from hv1), e]
    | false =>
      have hv0 : v q.2.1 q.2.2 = 0 := by simpa using hv
      rw [if_neg (show ¬ v (plS q).1 (plS q).2 = 1 from by show ¬ v q.2.1 q.2.2 = 1; rw [hv0]; decide), if_pos (show v (plS q).1 (plS q).2 = 0 from hv0), e]
theorem SolveRel.bad (h : SolveRel w W0 S F v M n D R (k + 1) W d o qd (q :: st)) (h1 : v q.2.1 q.2.2 ≠ 1) (h0 : v q.2.1 q.2.2 ≠ 0) (hw : Bx.widest q.2.1 q.2.2 < 0) : R = ([], 16) := by
  have h2 := h.run
  rw [List.map_cons] at h2
  unfold Bx.solveF at h2
  rw [if_neg (by exact h1), if_neg (by exact h0), if_pos (by exact hw)] at h2
  exact h2.symm
theorem SolveRel.full (h : SolveRel w W0 S F v M n D R (k + 1) W d o qd (q :: st)) (h1 : v q.2.1 q.2.2 ≠ 1) (h0 : v q.2.1 q.2.2 ≠ 0) (hw : ¬ Bx.widest q.2.1 q.2.2 < 0) (hm : M ≤ qd.length + (st.length + 1)) : R = ([], 3) := by
  have h2 := h.run
  rw [List.map_cons] at h2
  unfold Bx.solveF at h2
  rw [if_neg (by exact h1), if_neg (by exact h0), if_neg (by exact hw), if_pos (by simpa using hm)] at h2
  exact h2.symm
theorem SolveRel.cut (h : SolveRel w W0 S F v M n D R (k + 1) W d o qd (q :: st)) (h1 : v q.2.1 q.2.2 ≠ 1) (h0 : v q.2.1 q.2.2 ≠ 0) (hw : ¬ Bx.widest q.2.1 q.2.2 < 0) (hm : ¬ M ≤ qd.length + (st.length + 1))
    (hp : CutPost W (w.heap.size + 2) S F d qd st q W') : SolveR w W0 S F v M n D R k W' := by
  obtain ⟨hb, o', q1, q2, ha, e1, e2, g1, g2, g3, g4, g5, g6⟩ := hp
  have h2 := h.run
  have h3 := h.ms
  unfold Bx.meas at h3
  simp only [List.map_cons, List.length_cons, List.length_map] at h3
  have ok := h.ok q List.mem_cons_self
  rw [List.map_cons] at h2
  unfold Bx.solveF at h2
  rw [if_neg (by exact h1), if_neg (by exact h0), if_neg (by exact hw), if_neg (by simpa using hm)] at h2
  refine ⟨d, o', qd, q1 :: q2 :: st, ha, h.bl.trans hb, ?_, ?_, fun p hp => ?_, by simp only [List.length_cons]; omega⟩
  · unfold Bx.meas; simp only [List.map_cons, List.length_map, List.length_cons]; omega
  · rw [← h2, List.map_cons, List.map_cons]
    show Bx.solveF v M k (qd.map plD) (q1.2 :: q2.2 :: st.map plS) = _
    rw [e1, e2]
    rfl
  · rcases List.mem_cons.1 hp with rfl | hp
    · exact ⟨by rw [e1]; exact ok.sub.cutLo hw, g1, by rw [g3, ok.n1], by rw [g4, ok.n2]⟩
    · rcases List.mem_cons.1 hp with rfl | hp
      · exact ⟨by rw [e2]; exact ok.sub.cutHi hw, by rw [g2, ok.h], by rw [g5, ok.n1], by rw [g6, ok.n2]⟩
      · exact h.ok p (List.mem_cons_of_mem _ hp)
theorem SolveRel.done (h : SolveRel w W0 S F v M n D R k W d o qd []) : R = (qd.map plD, 0) := by
  have h2 := h.run
  rw [← h2]
  cases k <;> rfl
end
end Go.Proofs.Ytcncobhdfflelaa
