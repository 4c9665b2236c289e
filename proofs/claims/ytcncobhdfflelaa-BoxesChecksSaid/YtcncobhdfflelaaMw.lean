/- Memory words: rows of the call's own that are written, boxes, and lists of rows that lie apart. -/
import Derived.Test.YtcncobhdfflelaaAp2
import Derived.Laws.OwnMore
import Derived.Deep.RegionLawGrows
namespace Go.Proofs.Ytcncobhdfflelaa
open Go.RowKit

theorem cells_new (w : World) (t : TypeId) (cs : List Value) : ∀ j u, cs[j]? = some u → (w.alloc (.cells cs.toArray t)).cell? ((⟨w.heap.size, 0, none⟩ : Addr).add j) = some u := by
  intro j u hu
  have e : (⟨w.heap.size, 0, none⟩ : Addr).add j = ⟨w.heap.size, j, none⟩ := by unfold Addr.add; split <;> simp_all
  rw [e]
  show (match (w.heap.push (.cells cs.toArray t))[w.heap.size]? with | some (.cells c _ _) => if (none : Option Nat).isSome then none else c[j]? | _ => none) = some u
  simp [hu]
theorem own_at {α : Type} {w : World} {base T k n c : Nat} {A : Option Addr} {rs : List α} {enc : α → List Value} (h : w.ownsRow base T k (.slice A n c) n (rs.flatMap enc)) (hk : ∀ r, (enc r).length = k) (h0 : 0 < k) {i : Nat} (hi : i < n) :
    ∃ g r, A = some ⟨g, 0, none⟩ ∧ base ≤ g ∧ g < w.heap.size ∧ rs[i]? = some r ∧ (∀ j u, (enc r)[j]? = some u → w.cell? ⟨g, i * k + j, none⟩ = some u) ∧ ∀ j, w.frozen? ⟨g, j, none⟩ = false := by
  rcases h.2 with ⟨_, h'⟩ | ⟨g, cap, cur, hv, hb, hg, _⟩
  · omega
  · injection hv with hA _ hc
    subst hA hc
    obtain ⟨b, off, r, e1, e2, e3, e4⟩ := (own_rd h).at_ hk h0 hi
    simp only [Option.some.injEq, Addr.mk.injEq] at e1
    obtain ⟨rfl, rfl, _⟩ := e1
    refine ⟨g, r, rfl, hb, e2, e3, fun j u hu => ?_, fun j => h.frozenAt j⟩
    have := e4 j u hu
    simpa using this
theorem set_flatMap {α : Type} {enc : α → List Value} {k : Nat} (hk : ∀ r, (enc r).length = k) {j : Nat} {v : Value} (hj : j < k) {r' : α} : ∀ (rs : List α) (i : Nat) (r : α), rs[i]? = some r → enc r' = (enc r).set j v → (rs.flatMap enc).set (i * k + j) v = (rs.set i r').flatMap enc
  | [], i, r, h, _ => by simp at h
  | x :: rs, 0, r, h, he => by
    simp at h
    subst h
    rw [List.flatMap_cons, List.set_cons_zero, List.flatMap_cons, Nat.zero_mul, Nat.zero_add, List.set_append_left _ _ (by rw [hk]; exact hj), he]
  | x :: rs, i + 1, r, h, he => by
    rw [List.flatMap_cons, List.set_cons_succ, List.flatMap_cons, List.set_append_right _ _ (by rw [hk, Nat.succ_mul]; omega), hk, Nat.succ_mul]
    rw [show i * k + k + j - k = i * k + j by omega, set_flatMap hk hj rs i r (by simpa using h) he]
theorem own_store {α : Type} {w : World} {base T k n c g : Nat} {rs : List α} {enc : α → List Value} (h : w.ownsRow base T k (.slice (some ⟨g, 0, none⟩) n c) n (rs.flatMap enc)) (hk : ∀ r, (enc r).length = k) {i j : Nat} {v : Value} (hj : j < k) {r : α} (hr : rs[i]? = some r) (r' : α) (he : enc r' = (enc r).set j v) :
    (w.setCell ⟨g, i * k + j, none⟩ v).ownsRow base T k (.slice (some ⟨g, 0, none⟩) n c) n ((rs.set i r').flatMap enc) := by
  have := (h.stored (i * k + j) v).1
  rw [set_flatMap hk hj rs i r hr he] at this
  exact this
theorem Rd.holds {w : World} {B k n : Nat} {A : Option Addr} {xs : List Value} (h : Rd w B k A n xs) : ∀ b, A = some b → ∀ j u, xs[j]? = some u → w.cell? (b.add j) = some u := by
  intro b hA j u hu
  rcases Nat.eq_zero_or_pos n with h0 | h0
  · subst h0
    have hnil : xs = [] := List.eq_nil_of_length_eq_zero (by simpa using h.1)
    subst hnil
    simp at hu
  · obtain ⟨b', off, he, _, hc⟩ := h.2 h0
    rw [hA] at he
    injection he with he
    subst he
    have e : (⟨b', off, none⟩ : Addr).add j = ⟨b', off + j, none⟩ := by unfold Addr.add; split <;> simp_all
    rw [e]
    exact hc j u hu
theorem Rd.none0 {w : World} {B k n : Nat} {A : Option Addr} {xs : List Value} (h : Rd w B k A n xs) (hA : A = none) : n = 0 := by
  rcases Nat.eq_zero_or_pos n with h0 | h0
  · exact h0
  · obtain ⟨b, off, he, _⟩ := h.2 h0
    rw [hA] at he
    cases he
theorem Below.of_grown {w w' : World} (h : w.grownBy w' none) : Below w.heap.size w w' := ⟨h.os, h.tape, h.output, h.size, fun k hk => h.block k hk (by simp)⟩
theorem own_set_other {w : World} {base T k n : Nat} {v : Value} {xs : List Value} (h : w.ownsRow base T k v n xs) (p : Addr) (x : Value) (hne : v.ownBlock ≠ some p.block) : (w.setCell p x).ownsRow base T k v n xs :=
  h.kept (row := some p.block) ⟨rfl, rfl, rfl, by simp, fun j _ hj => heap_setCell_other w p j x (fun e => hj (by simp [e]))⟩ (.inr hne)
theorem own_below {w w' : World} {base T k n : Nat} {v : Value} {xs : List Value} (h : w.ownsRow base T k v n xs) (hb : Below w.heap.size w w') : w'.ownsRow base T k v n xs :=
  h.kept (row := none) ⟨hb.os, hb.tape, hb.output, hb.size, fun i hi _ => hb.block i hi⟩ (by cases v.ownBlock <;> simp)
theorem cells_new0 (w : World) (t : TypeId) (cs : List Value) (g : Nat) (hg : w.heap.size = g) : ∀ j u, cs[j]? = some u → (w.alloc (.cells cs.toArray t)).cell? ((⟨g, 0, none⟩ : Addr).add j) = some u := by
  subst hg
  exact cells_new w t cs
theorem own_cap {w : World} {base T k n c : Nat} {A : Option Addr} {xs : List Value} (h : w.ownsRow base T k (.slice A n c) n xs) : n ≤ c := by
  rcases h.2 with ⟨hv, h0⟩ | ⟨g, cap, cur, hv, _, _, hnc, _⟩
  · omega
  · injection hv with _ _ hc
    omega
theorem row_base {w : World} {base size n : Nat} {e : TypeId} {v : Value} {xs : List Value} (h : w.ownsRow base e size v n xs) : ∀ g, v.ownBlock = some g → base ≤ g := fun g hg => (h.lt g hg).1
theorem own_lower {w : World} {b0 base e k n : Nat} {v : Value} {xs : List Value} (h : w.ownsRow base e k v n xs) (hb : b0 ≤ base) : w.ownsRow b0 e k v n xs := by
  refine ⟨h.1, ?_⟩
  rcases h.2 with h1 | ⟨g, cap, cur, h1, h2, h3⟩
  · exact .inl h1
  · exact .inr ⟨g, cap, cur, h1, Nat.le_trans hb h2, h3⟩
theorem own_lt {w : World} {base e k n : Nat} {v : Value} {xs : List Value} (h : w.ownsRow base e k v n xs) {g : Nat} (hg : v.ownBlock = some g) : g < w.heap.size := by
  rcases h.2 with ⟨rfl, _⟩ | ⟨g', cap, cur, rfl, hb, hh, _⟩
  · simp [Value.ownBlock] at hg
  · simp [Value.ownBlock] at hg
    subst hg
    exact (Array.getElem?_eq_some_iff.1 hh).1
theorem own_apart {w : World} {base base' e e' k k' n n' : Nat} {v v' : Value} {xs xs' : List Value} (h : w.ownsRow base e k v n xs) (h' : w.ownsRow base' e' k' v' n' xs') (hne : e ≠ e') : v.ownBlock = none ∨ v.ownBlock ≠ v'.ownBlock := by
  rcases h.2 with ⟨rfl, _⟩ | ⟨g, cap, cur, rfl, _, hg, _⟩
  · exact .inl rfl
  · refine .inr fun hb => ?_
    rcases h'.2 with ⟨rfl, _⟩ | ⟨g', cap', cur', rfl, _, hg', _⟩
    · simp [Value.ownBlock] at hb
    · simp [Value.ownBlock] at hb
      subst hb
      rw [hg] at hg'
      injection hg' with hg'
      injection hg' with _ hg'
      exact hne hg'
/-- a box of the call's own: its cells, which may be written -/
def BoxAt (w : World) (b : Nat) (vs : List Value) : Prop := b < w.heap.size ∧ (∀ j v, vs[j]? = some v → w.cell? ⟨b, j, none⟩ = some v) ∧ ∀ j, w.frozen? ⟨b, j, none⟩ = false
section
variable {w w' : World} {b : Nat} {vs : List Value}
theorem BoxAt.of_block (h : BoxAt w b vs) (hs : w.heap.size ≤ w'.heap.size) (hb : w'.heap[b]? = w.heap[b]?) : BoxAt w' b vs :=
  ⟨Nat.lt_of_lt_of_le h.1 hs, fun j v hv => (World.cell?_of_block (a := ⟨b, j, none⟩) hb).trans (h.2.1 j v hv), fun j => (World.frozen?_of_block (a := ⟨b, j, none⟩) hb).trans (h.2.2 j)⟩
theorem BoxAt.kept {row : Option Nat} (h : BoxAt w b vs) (hg : w.grownBy w' row) (hne : some b ≠ row) : BoxAt w' b vs := h.of_block hg.size (hg.block b h.1 hne)
theorem BoxAt.below {C : Nat} (h : BoxAt w b vs) (hb : Below C w w') (hC : b < C) : BoxAt w' b vs := h.of_block hb.size (hb.block b hC)
theorem BoxAt.call (h : BoxAt w b vs) (hb : Below w.heap.size w w') : BoxAt w' b vs := h.below hb h.1
theorem BoxAt.alloc (h : BoxAt w b vs) (o : Obj) : BoxAt (w.alloc o) b vs := h.call ((Below.refl _ _).alloc (Nat.le_refl _) _)
theorem BoxAt.setOther (h : BoxAt w b vs) (p : Addr) (v : Value) (hne : p.block ≠ b) : BoxAt (w.setCell p v) b vs := h.of_block (by simp) (heap_setCell_other w p b v (fun e => hne e.symm))
theorem BoxAt.drew (h : BoxAt w b vs) : BoxAt w.drew b vs := h
theorem BoxAt.drewN (h : BoxAt w b vs) (m : Nat) : BoxAt (w.drewN m) b vs := h
end
theorem BoxAt.new (w : World) (t : TypeId) (vs : List Value) (b : Nat) (hb : w.heap.size = b) : BoxAt (w.alloc (.cells vs.toArray t)) b vs := by
  subst hb
  refine ⟨by simp, fun j v hv => ?_, fun j => by simp [go_sem]⟩
  have := cells_new w t vs j v hv
  have e : (⟨w.heap.size, 0, none⟩ : Addr).add j = ⟨w.heap.size, j, none⟩ := by unfold Addr.add; split <;> simp_all
  rwa [e] at this
theorem BoxAt.set {w : World} {b : Nat} {vs : List Value} (h : BoxAt w b vs) (j : Nat) (v : Value) (hj : j < vs.length) : BoxAt (w.setCell ⟨b, j, none⟩ v) b (vs.set j v) := by
  refine ⟨by simpa using h.1, fun i u hu => ?_, fun i => by simpa using h.2.2 i⟩
  by_cases e : j = i
  · subst e
    rw [List.getElem?_set_self hj] at hu
    injection hu with hu
    subst hu
    exact World.cell?_setCell_same' w _ _ (by rw [h.2.1 j _ (List.getElem?_eq_getElem hj)]; rfl)
  · rw [List.getElem?_set_ne e] at hu
    have hne : (⟨b, j, none⟩ : Addr) ≠ ⟨b, i, none⟩ := fun h => e (by injection h)
    refine Eq.trans ?_ (h.2.1 i u hu)
    first | exact World.cell?_setCell_other w _ _ _ hne | exact World.cell?_setCell_other w hne | exact World.cell?_setCell_other _ hne

/-- a row of the call's own: its type, its cells an element, its words, what it holds -/
structure Row where
  T : Nat
  k : Nat
  s : Sl
  xs : List Value
abbrev Row.v (r : Row) : Value := .slice r.s.a r.s.n r.s.c
def Row.blk (r : Row) : Option Nat := r.v.ownBlock
def Row.own (W : World) (base : Nat) (r : Row) : Prop := W.ownsRow base r.T r.k r.v r.s.n r.xs
def Apart (r q : Row) : Prop := r.blk = none ∨ r.blk ≠ q.blk
theorem Apart.symm {r q : Row} (h : Apart r q) : Apart q r := by
  unfold Apart at *
  rcases h with h | h
  · by_cases e : q.blk = none
    · exact .inl e
    · exact .inr (fun h' => e (h'.trans h))
  · exact .inr (Ne.symm h)
/-- rows that lie apart -/
structure Rows (W : World) (base : Nat) (L : List Row) : Prop where
  own : ∀ r ∈ L, r.own W base
  ap : L.Pairwise Apart
section
variable {W W' : World} {base : Nat} {A B L : List Row} {r r' : Row}
theorem Rows.keep (h : Rows W base L) (hb : Below W.heap.size W W') : Rows W' base L := ⟨fun q hq => own_below (h.own q hq) hb, h.ap⟩
theorem Rows.none_ : Rows W base [] := Rows.mk (fun _ hq => (List.not_mem_nil hq).elim) List.Pairwise.nil
/-- a row that is new -/
theorem Rows.ins (h : Rows W base (A ++ B)) (hb : Below W.heap.size W W') (hr : r.own W' base) (hn : ∀ g, r.blk = some g → W.heap.size ≤ g) : Rows W' base (A ++ r :: B) := by
  have key : ∀ q ∈ A ++ B, Apart r q := fun q hq => by
    by_cases e : r.blk = none
    · exact .inl e
    · refine .inr fun e' => ?_
      obtain ⟨g, hg⟩ := Option.ne_none_iff_exists'.1 e
      have h1 := hn g hg
      have h2 := own_lt (h.own q hq) (show q.v.ownBlock = some g from (e'.symm.trans hg))
      omega
  refine ⟨fun q hq => ?_, ?_⟩
  · rcases List.mem_append.1 hq with hq | hq
    · exact own_below (h.own q (List.mem_append.2 (.inl hq))) hb
    · rcases List.mem_cons.1 hq with rfl | hq
      · exact hr
      · exact own_below (h.own q (List.mem_append.2 (.inr hq))) hb
  · have h0 := List.pairwise_append.1 h.ap
    refine List.pairwise_append.2 ⟨h0.1, List.pairwise_cons.2 ⟨fun q hq => key q (List.mem_append.2 (.inr hq)), h0.2.1⟩, fun a ha b hb => ?_⟩
    rcases List.mem_cons.1 hb with rfl | hb
    · exact (key a (List.mem_append.2 (.inl ha))).symm
    · exact h0.2.2 a ha b hb
/-- one row is written, in place or into new memory; the others stay -/
theorem Rows.upd (h : Rows W base (A ++ r :: B)) (hg : W.grownBy W' r.blk) (hr : r'.own W' base) (hn : ∀ g, r'.blk = some g → r.blk = some g ∨ W.heap.size ≤ g) : Rows W' base (A ++ r' :: B) := by
  have h0 := List.pairwise_append.1 h.ap
  have h1 := List.pairwise_cons.1 h0.2.1
  have hap : ∀ q ∈ A ++ B, Apart q r := fun q hq => by
    rcases List.mem_append.1 hq with hq | hq
    · exact h0.2.2 q hq r List.mem_cons_self
    · exact (h1.1 q hq).symm
  have hold : ∀ q ∈ A ++ B, q.own W base := fun q hq => by
    rcases List.mem_append.1 hq with hq | hq
    · exact h.own q (List.mem_append.2 (.inl hq))
    · exact h.own q (List.mem_append.2 (.inr (List.mem_cons_of_mem _ hq)))
  have key : ∀ q ∈ A ++ B, Apart r' q := fun q hq => by
    by_cases e : r'.blk = none
    · exact .inl e
    · refine .inr fun e' => ?_
      obtain ⟨g, hg⟩ := Option.ne_none_iff_exists'.1 e
      have hq' : q.blk = some g := e'.symm.trans hg
      rcases hn g hg with h3 | h3
      · rcases hap q hq with h4 | h4
        · rw [h4] at hq'; cases hq'
        · exact h4 (hq'.trans h3.symm)
      · have h2 := own_lt (hold q hq) (show q.v.ownBlock = some g from hq')
        omega
  have hk : ∀ q ∈ A ++ B, q.own W' base := fun q hq => (hold q hq).kept hg (hap q hq)
  refine ⟨fun q hq => ?_, ?_⟩
  · rcases List.mem_append.1 hq with hq | hq
    · exact hk q (List.mem_append.2 (.inl hq))
    · rcases List.mem_cons.1 hq with rfl | hq
      · exact hr
      · exact hk q (List.mem_append.2 (.inr hq))
  · refine List.pairwise_append.2 ⟨h0.1, List.pairwise_cons.2 ⟨fun q hq => key q (List.mem_append.2 (.inr hq)), h1.2⟩, fun a ha b hb => ?_⟩
    rcases List.mem_cons.1 hb with rfl | hb
    · exact (key a (List.mem_append.2 (.inl ha))).symm
    · exact h0.2.2 a ha b (List.mem_cons_of_mem _ hb)
/-- nothing of the rows is written -/
theorem Rows.off (h : Rows W base L) {X : Nat} (hg : W.grownBy W' (some X)) (hX : ∀ q ∈ L, q.blk ≠ some X) : Rows W' base L := ⟨fun q hq => (h.own q hq).kept hg (.inr (hX q hq)), h.ap⟩
end
end Go.Proofs.Ytcncobhdfflelaa
