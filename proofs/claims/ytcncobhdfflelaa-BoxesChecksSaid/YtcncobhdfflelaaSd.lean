/- What a split makes of the solver's rows. -/
import Derived.Test.YtcncobhdfflelaaSc
namespace Go.Proofs.Ytcncobhdfflelaa
open Go.RowKit

/-- a new box Y and two new rows, before the box is written -/
structure Pre (W X : World) (Y n1 n2 : Nat) (u1 u2 : Sl) (xs ys : List Value) : Prop where
  bl : Below W.heap.size W X
  hY : W.heap.size ≤ Y
  bx : ∃ z0 z1 z2, BoxAt X Y [z0, z1, z2]
  o1 : X.ownsRow W.heap.size 3 1 (.slice u1.a n1 u1.c) n1 xs
  o2 : X.ownsRow W.heap.size 3 1 (.slice u2.a n2 u2.c) n2 ys
  ap : ∀ g, (Value.slice u1.a n1 u1.c).ownBlock = some g → (Value.slice u2.a n2 u2.c).ownBlock ≠ some g
  y1 : (Value.slice u1.a n1 u1.c).ownBlock ≠ some Y
  y2 : (Value.slice u2.a n2 u2.c).ownBlock ≠ some Y
section
variable {W v1 v2 : World} {n1 n2 : Nat} {u1 u2 : Sl} {xs ys : List Value} {z0 z1 z2 : Value}
theorem pre_a (o1 : v1.ownsRow (W.alloc (.cells #[z0, z1, z2] 44)).heap.size 3 1 (.slice u1.a n1 u1.c) n1 xs) (h1 : Below (W.alloc (.cells #[z0, z1, z2] 44)).heap.size (W.alloc (.cells #[z0, z1, z2] 44)) v1)
    (o2 : v2.ownsRow v1.heap.size 3 1 (.slice u2.a n2 u2.c) n2 ys) (h2 : Below v1.heap.size v1 v2) : Pre W v2 W.heap.size n1 n2 u1 u2 xs ys := by
  have s1 := h1.size
  have s2 := h2.size
  simp at s1
  have hb : Below W.heap.size W v1 := ((Below.refl _ _).alloc (Nat.le_refl _) _).trans (h1.mono (by simp))
  refine ⟨hb.trans (h2.mono (by omega)), Nat.le_refl _, ⟨z0, z1, z2, ((BoxAt.new W 44 [z0, z1, z2] _ rfl).call h1).call h2⟩, own_lower (own_below o1 h2) (by simp), own_lower o2 (by omega), fun g hg e => ?_, fun e => ?_, fun e => ?_⟩
  · have a := own_lt o1 hg
    have b := row_base o2 g e
    omega
  · have := row_base o1 _ e
    simp at this
    omega
  · have := row_base o2 _ e
    omega
theorem pre_d (o1 : v1.ownsRow (W.alloc (.cells #[z0, z1, z2] 44)).drew.heap.size 3 1 (.slice u1.a n1 u1.c) n1 xs) (h1 : Below (W.alloc (.cells #[z0, z1, z2] 44)).drew.heap.size (W.alloc (.cells #[z0, z1, z2] 44)).drew v1)
    (o2 : v2.ownsRow v1.heap.size 3 1 (.slice u2.a n2 u2.c) n2 ys) (h2 : Below v1.heap.size v1 v2) : Pre W v2 W.heap.size n1 n2 u1 u2 xs ys :=
  pre_a o1 (Below.trans (Below.refl _ _).drew h1) o2 h2
theorem pre_b (o1 : v1.ownsRow W.heap.size 3 1 (.slice u1.a n1 u1.c) n1 xs) (h1 : Below W.heap.size W v1)
    (o2 : v2.ownsRow (v1.alloc (.cells #[z0, z1, z2] 44)).heap.size 3 1 (.slice u2.a n2 u2.c) n2 ys) (h2 : Below (v1.alloc (.cells #[z0, z1, z2] 44)).heap.size (v1.alloc (.cells #[z0, z1, z2] 44)) v2) : Pre W v2 v1.heap.size n1 n2 u1 u2 xs ys := by
  have s1 := h1.size
  have s2 := h2.size
  simp at s2
  have hb : Below v1.heap.size v1 v2 := ((Below.refl _ _).alloc (Nat.le_refl _) _).trans (h2.mono (by simp))
  refine ⟨h1.trans (hb.mono (by omega)), s1, ⟨z0, z1, z2, (BoxAt.new v1 44 [z0, z1, z2] _ rfl).call h2⟩, own_below o1 hb, own_lower o2 (by simp; omega), fun g hg e => ?_, fun e => ?_, fun e => ?_⟩
  · have a := own_lt o1 hg
    have b := row_base o2 g e
    simp at b
    omega
  · have := own_lt o1 e
    omega
  · have := row_base o2 _ e
    simp at this
    omega
theorem pre_c (o1 : v1.ownsRow W.heap.size 3 1 (.slice u1.a n1 u1.c) n1 xs) (h1 : Below W.heap.size W v1)
    (o2 : v2.ownsRow v1.heap.size 3 1 (.slice u2.a n2 u2.c) n2 ys) (h2 : Below v1.heap.size v1 v2) : Pre W (v2.alloc (.cells #[z0, z1, z2] 44)) v2.heap.size n1 n2 u1 u2 xs ys := by
  have s1 := h1.size
  have s2 := h2.size
  have hb : Below W.heap.size W v2 := h1.trans (h2.mono s1)
  refine ⟨hb.alloc (by omega) _, by omega, ⟨z0, z1, z2, BoxAt.new v2 44 [z0, z1, z2] _ rfl⟩, own_lower ((own_below o1 h2).alloc _) (by omega), own_lower (o2.alloc _) (by omega), fun g hg e => ?_, fun e => ?_, fun e => ?_⟩
  · have a := own_lt o1 hg
    have b := row_base o2 g e
    omega
  · have := own_lt (own_below o1 h2) e
    omega
  · have := own_lt o2 e
    omega
/-- the box is written -/
structure NewBox (W X : World) (Y n1 n2 : Nat) (u1 u2 : Sl) (xs ys : List Value) (a b c : Value) : Prop where
  bl : Below W.heap.size W X
  hY : W.heap.size ≤ Y
  bx : BoxAt X Y [a, b, c]
  o1 : X.ownsRow W.heap.size 3 1 (.slice u1.a n1 u1.c) n1 xs
  o2 : X.ownsRow W.heap.size 3 1 (.slice u2.a n2 u2.c) n2 ys
  ap : ∀ g, (Value.slice u1.a n1 u1.c).ownBlock = some g → (Value.slice u2.a n2 u2.c).ownBlock ≠ some g
  y1 : (Value.slice u1.a n1 u1.c).ownBlock ≠ some Y
  y2 : (Value.slice u2.a n2 u2.c).ownBlock ≠ some Y
theorem Pre.store {X : World} {Y : Nat} (h : Pre W X Y n1 n2 u1 u2 xs ys) (a b c : Value) : NewBox W (((X.setCell ⟨Y, 0, none⟩ a).setCell ⟨Y, 1, none⟩ b).setCell ⟨Y, 2, none⟩ c) Y n1 n2 u1 u2 xs ys a b c := by
  obtain ⟨z0, z1, z2, hb⟩ := h.bx
  exact ⟨((h.bl.setCell h.hY _).setCell h.hY _).setCell h.hY _, h.hY, ((hb.set 0 a (by simp)).set 1 b (by simp)).set 2 c (by simp),
    own_set_other (own_set_other (own_set_other h.o1 _ _ h.y1) _ _ h.y1) _ _ h.y1, own_set_other (own_set_other (own_set_other h.o2 _ _ h.y2) _ _ h.y2) _ _ h.y2, h.ap, h.y1, h.y2⟩
theorem new_c {a b c : Value} (o1 : v1.ownsRow W.heap.size 3 1 (.slice u1.a n1 u1.c) n1 xs) (h1 : Below W.heap.size W v1)
    (o2 : v2.ownsRow v1.heap.size 3 1 (.slice u2.a n2 u2.c) n2 ys) (h2 : Below v1.heap.size v1 v2) : NewBox W (v2.alloc (.cells #[a, b, c] 44)) v2.heap.size n1 n2 u1 u2 xs ys a b c := by
  have h := pre_c (z0 := a) (z1 := b) (z2 := c) o1 h1 o2 h2
  exact ⟨h.bl, h.hY, BoxAt.new v2 44 [a, b, c] _ rfl, h.o1, h.o2, h.ap, h.y1, h.y2⟩
end
section
variable {W X : World} {base S Y : Nat} {F : Value} {d o o' : Sl} {B A : List BxM} {q q1 : BxM} {qd st : List BxM} {L M : List Row} {r : Row}
theorem Rows.insA (h : Rows W base (L ++ M)) (hr : r.own W base) (hap : ∀ q ∈ L ++ M, Apart r q) : Rows W base (L ++ r :: M) := by
  have h0 := List.pairwise_append.1 h.ap
  refine ⟨fun q hq => ?_, List.pairwise_append.2 ⟨h0.1, List.pairwise_cons.2 ⟨fun q hq => hap q (List.mem_append.2 (.inr hq)), h0.2.1⟩, fun a ha b hb => ?_⟩⟩
  · rcases List.mem_append.1 hq with hq | hq
    · exact h.own q (List.mem_append.2 (.inl hq))
    · rcases List.mem_cons.1 hq with rfl | hq
      · exact hr
      · exact h.own q (List.mem_append.2 (.inr hq))
  · rcases List.mem_cons.1 hb with rfl | hb
    · exact (hap a (List.mem_append.2 (.inl ha))).symm
    · exact h0.2.2 a ha b hb
theorem SolvG.fresh {n1 n2 : Nat} {u1 u2 : Sl} {lo hi : List Int} {a b c : Value} (h : SolvG W base S F d o qd B (qd ++ q :: st)) (hb : base ≤ W.heap.size) (hn : NewBox W X Y n1 n2 u1 u2 (ints lo) (ints hi) a b c) :
    SolvG X base S F d o qd B (qd ++ (⟨⟨u1.a, n1, u1.c⟩, ⟨u2.a, n2, u2.c⟩, false⟩, lo, hi) :: q :: st) := by
  have h1 := h.below hn.bl
  obtain ⟨p, hp⟩ : ∃ p : BxM, p = (⟨⟨u1.a, n1, u1.c⟩, ⟨u2.a, n2, u2.c⟩, false⟩, lo, hi) := ⟨_, rfl⟩
  rw [← hp]
  have p1 : (loR p).own X W.heap.size := by rw [hp]; exact hn.o1
  have p2 : (hiR p).own X W.heap.size := by rw [hp]; exact hn.o2
  have old : ∀ r ∈ solR S F d o :: bsR d qd :: bsR o B :: (qd ++ q :: st).flatMap bxR, ∀ g, r.blk = some g → g < W.heap.size := fun r hr g hg => ((h.own r hr).lt g hg).2
  have far : ∀ s : Row, s.own X W.heap.size → ∀ r ∈ solR S F d o :: bsR d qd :: bsR o B :: (qd ++ q :: st).flatMap bxR, Apart s r := fun s hs r hr => by
    by_cases e : s.blk = none
    · exact .inl e
    · obtain ⟨g, hg⟩ := Option.ne_none_iff_exists'.1 e
      refine .inr fun e' => ?_
      have a1 := row_base hs g hg
      have a2 := old r hr g (e'.symm.trans hg)
      omega
  have e1 : solR S F d o :: bsR d qd :: bsR o B :: (qd ++ q :: st).flatMap bxR = (solR S F d o :: bsR d qd :: bsR o B :: qd.flatMap bxR) ++ (q :: st).flatMap bxR := by simp [List.flatMap_append]
  have e2 : solR S F d o :: bsR d qd :: bsR o B :: (qd ++ p :: q :: st).flatMap bxR = (solR S F d o :: bsR d qd :: bsR o B :: qd.flatMap bxR) ++ loR p :: hiR p :: (q :: st).flatMap bxR := by simp [List.flatMap_append, bxR]
  unfold SolvG at h1 ⊢
  rw [e1] at h1 far
  rw [e2]
  refine Rows.insA (Rows.insA h1 (own_lower p2 hb) (far _ p2)) (own_lower p1 hb) fun r hr => ?_
  rcases List.mem_append.1 hr with hr | hr
  · exact far _ p1 r (List.mem_append.2 (.inl hr))
  · rcases List.mem_cons.1 hr with rfl | hr
    · by_cases e : (loR p).blk = none
      · exact .inl e
      · obtain ⟨g, hg⟩ := Option.ne_none_iff_exists'.1 e
        refine .inr fun e' => ?_
        have := hn.ap g (by rw [hp] at hg; exact hg)
        apply this
        rw [hp] at e' hg
        exact e'.symm.trans hg
    · exact far _ p1 r (List.mem_append.2 (.inr hr))
/-- an element of the first open box's upper row is written -/
theorem SolvG.setHi {g i : Nat} {m : Int} (h : SolvG W base S F d o qd B (qd ++ q1 :: q :: st)) (hA : q1.1.hi.a = some ⟨g, 0, none⟩) :
    SolvG (W.setCell ⟨g, i, none⟩ (.int .i64 m)) base S F d o qd B (qd ++ (q1.1, q1.2.1, q1.2.2.set i m) :: q :: st) := by
  have e1 : ∀ p : BxM, solR S F d o :: bsR d qd :: bsR o B :: (qd ++ p :: q :: st).flatMap bxR = (solR S F d o :: bsR d qd :: bsR o B :: (qd.flatMap bxR ++ [loR p])) ++ hiR p :: (q :: st).flatMap bxR := fun p => by simp [List.flatMap_append, bxR]
  unfold SolvG at h ⊢
  rw [e1] at h ⊢
  have ho : W.ownsRow base 3 1 (.slice q1.1.hi.a q1.1.hi.n q1.1.hi.c) q1.1.hi.n (ints q1.2.2) := h.own (hiR q1) (List.mem_append.2 (.inr List.mem_cons_self))
  rw [hA] at ho
  have hs := (ho.stored i (.int .i64 m)).1
  refine Rows.upd (r := hiR q1) (r' := hiR (q1.1, q1.2.1, q1.2.2.set i m)) h ?_ ?_ (fun g' hg' => .inl hg')
  · have : (hiR q1).blk = some g := by show (Value.slice q1.1.hi.a q1.1.hi.n q1.1.hi.c).ownBlock = some g; rw [hA]; rfl
    rw [this]; exact grown_set _ _ _ _
  · show (W.setCell ⟨g, i, none⟩ (.int .i64 m)).ownsRow base 3 1 (.slice q1.1.hi.a q1.1.hi.n q1.1.hi.c) q1.1.hi.n (ints (q1.2.2.set i m))
    rw [hA]; unfold ints; rw [List.map_set]; exact hs
/-- an element of the second open box's lower row is written -/
theorem SolvG.setLo {g i : Nat} {m : Int} (h : SolvG W base S F d o qd B (qd ++ q1 :: q :: st)) (hA : q.1.lo.a = some ⟨g, 0, none⟩) :
    SolvG (W.setCell ⟨g, i, none⟩ (.int .i64 m)) base S F d o qd B (qd ++ q1 :: (q.1, q.2.1.set i m, q.2.2) :: st) := by
  have e1 : ∀ p : BxM, solR S F d o :: bsR d qd :: bsR o B :: (qd ++ q1 :: p :: st).flatMap bxR = (solR S F d o :: bsR d qd :: bsR o B :: (qd.flatMap bxR ++ [loR q1, hiR q1])) ++ loR p :: hiR p :: st.flatMap bxR := fun p => by simp [List.flatMap_append, bxR]
  unfold SolvG at h ⊢
  rw [e1] at h ⊢
  have ho : W.ownsRow base 3 1 (.slice q.1.lo.a q.1.lo.n q.1.lo.c) q.1.lo.n (ints q.2.1) := h.own (loR q) (List.mem_append.2 (.inr List.mem_cons_self))
  rw [hA] at ho
  have hs := (ho.stored i (.int .i64 m)).1
  refine Rows.upd (r := loR q) (r' := loR (q.1, q.2.1.set i m, q.2.2)) h ?_ ?_ (fun g' hg' => .inl hg')
  · have : (loR q).blk = some g := by show (Value.slice q.1.lo.a q.1.lo.n q.1.lo.c).ownBlock = some g; rw [hA]; rfl
    rw [this]; exact grown_set _ _ _ _
  · show (W.setCell ⟨g, i, none⟩ (.int .i64 m)).ownsRow base 3 1 (.slice q.1.lo.a q.1.lo.n q.1.lo.c) q.1.lo.n (ints (q.2.1.set i m))
    rw [hA]; unfold ints; rw [List.map_set]; exact hs
/-- a cell of the open row is written with what it holds -/
theorem SolvG.same {g j : Nat} {u : Value} {C : List BxM} (h : SolvG W base S F d o A B C) (hA : o.a = some ⟨g, 0, none⟩) (hu : ((B.map (·.1)).flatMap bxL)[j]? = some u) : SolvG (W.setCell ⟨g, j, none⟩ u) base S F d o A B C := by
  have ho := h.opn
  have e : o.a = some ⟨g, 0, none⟩ := hA
  have hs : (W.setCell ⟨g, j, none⟩ u).ownsRow base 44 3 (.slice o.a o.n o.c) o.n ((B.map (·.1)).flatMap bxL) := by
    rw [e] at ho ⊢
    have := (ho.stored j u).1
    obtain ⟨h1, h2⟩ := List.getElem?_eq_some_iff.1 hu
    rw [show ((B.map (·.1)).flatMap bxL).set j u = (B.map (·.1)).flatMap bxL from by subst h2; exact List.set_getElem_self h1] at this
    exact this
  exact h.put2 (o' := o) B hs (by rw [e]; exact grown_set _ _ _ _) (fun g' hg' => .inl hg')
/-- a box is appended to the open ones -/
theorem SolvG.push2 {C : List BxM} (h : SolvG W base S F d o A B C) (q : BxM) (hd : X.ownsRow base 44 3 (.slice o'.a o'.n o'.c) o'.n (((B ++ [q]).map (·.1)).flatMap bxL)) (hg : W.grownBy X (Value.slice o.a o.n o.c).ownBlock) (hn : ∀ g, (Value.slice o'.a o'.n o'.c).ownBlock = some g → (Value.slice o.a o.n o.c).ownBlock = some g ∨ W.heap.size ≤ g) :
    Rows X base (solR S F d o :: bsR d A :: bsR o' (B ++ [q]) :: C.flatMap bxR) := h.put2 (B ++ [q]) hd hg hn
theorem SolvG.split {A' : List Int × List Int} (h : SolvG W base S F d o qd ((q :: st).reverse ++ [q1]) (qd ++ q1 :: (q.1, A') :: st)) : SolvAt W base S F d o qd (q1 :: (q.1, A') :: st) := by
  unfold SolvAt
  unfold SolvG at h
  have e : bsR o (q1 :: (q.1, A') :: st).reverse = bsR o ((q :: st).reverse ++ [q1]) := by simp [bsR]
  rw [e]
  exact h
theorem SolvG.neS {C : List BxM} (h : SolvG W base S F d o A B C) (hq : q ∈ C) : (Value.slice q.1.lo.a q.1.lo.n q.1.lo.c).ownBlock ≠ some S ∧ (Value.slice q.1.hi.a q.1.hi.n q.1.hi.c).ownBlock ≠ some S := by
  have key : ∀ r ∈ bxR q, r.blk ≠ some S := fun r hr e => by
    have := (List.pairwise_cons.1 h.ap).1 r (List.mem_cons_of_mem _ (List.mem_cons_of_mem _ (List.mem_flatMap.2 ⟨q, hq, hr⟩)))
    rcases this with h1 | h1
    · cases h1
    · exact h1 e.symm
  exact ⟨key (loR q) List.mem_cons_self, key (hiR q) (List.mem_cons_of_mem _ List.mem_cons_self)⟩
theorem NewBox.of_drew {n1 n2 : Nat} {u1 u2 : Sl} {xs ys : List Value} {a b c : Value} (h : NewBox W.drew X Y n1 n2 u1 u2 xs ys a b c) : NewBox W X Y n1 n2 u1 u2 xs ys a b c :=
  ⟨Below.trans (Below.refl _ _).drew h.bl, h.hY, h.bx, h.o1, h.o2, h.ap, h.y1, h.y2⟩
theorem last_cells (q : BxM) (st : List BxM) : (((q :: st).reverse.map (·.1)).flatMap bxL)[st.length * 3]? = some (.slice q.1.lo.a q.1.lo.n q.1.lo.c) ∧ (((q :: st).reverse.map (·.1)).flatMap bxL)[st.length * 3 + 1]? = some (.slice q.1.hi.a q.1.hi.n q.1.hi.c) ∧ (((q :: st).reverse.map (·.1)).flatMap bxL)[st.length * 3 + 2]? = some (.bool q.1.holds) := by
  have e : ((q :: st).reverse.map (·.1)).flatMap bxL = ((st.reverse.map (·.1)).flatMap bxL) ++ bxL q.1 := by simp [List.flatMap_append]
  have hl : ((st.reverse.map (·.1)).flatMap bxL).length = st.length * 3 := by rw [boxes_len, List.length_reverse]
  rw [e]
  refine ⟨?_, ?_, ?_⟩ <;> (rw [List.getElem?_append_right (by omega), hl]; simp)
/-- the solver has split its last open box -/
def CutPost (W : World) (base S : Nat) (F : Value) (d : Sl) (qd st : List BxM) (q : BxM) (w' : World) : Prop :=
  Below base W w' ∧ ∃ (o' : Sl) (q1 q2 : BxM), SolvAt w' base S F d o' qd (q1 :: q2 :: st) ∧ q1.2 = Bx.cutLo q.2 (Bx.wI q.2) ∧ q2.2 = Bx.cutHi q.2 (Bx.wI q.2) ∧ q1.1.holds = false ∧ q2.1.holds = q.1.holds ∧ q1.1.lo.n = q.1.lo.n ∧ q1.1.hi.n = q.1.hi.n ∧ q2.1.lo.n = q.1.lo.n ∧ q2.1.hi.n = q.1.hi.n
end
end Go.Proofs.Ytcncobhdfflelaa
