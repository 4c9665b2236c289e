/- What the steps of the solver make of its rows; the law of append inside a region. -/
import Derived.Test.YtcncobhdfflelaaSo
namespace Go.Proofs.Ytcncobhdfflelaa
open Go.RowKit

theorem run_append_sl {P : Program} (w : World) (base : Nat) (t ty e : TypeId) (i : TypeInfo) (z : Value) (size bytes : Nat) (ht : P.underlying t = some (.slice e)) (hi : P.info? e = some i) (hz : i.zero = some z)
    (hsize : i.size = size) (hby : i.bytes = bytes) (hzs : z.cells.size = size) (hsz : 0 < size)
    (A : Option Addr) (n cp : Nat) (xs : List Value) (hown : w.ownsRow base e size (.slice A n cp) n xs)
    (a : Addr) (m c : Nat) (news : List Value) (hl : news.length = m * size) (hnews : ∀ j u, news[j]? = some u → w.cell? (a.add j) = some u) (h1 : ∀ u ∈ news, u.oneCell' = true)
    (h63 : n + m ≤ maxLen) (hbytes : (n + m) * bytes ≤ 140737488355328) (hbase : base ≤ w.heap.size) :
    ∃ (u : Sl) (w' : World), (Builtin.append_ #[t, t] ty #[.slice A n cp, .slice (some a) m c]).run P w = .ok (.slice u.a (n + m) u.c) w' ∧ w'.ownsRow base e size (.slice u.a (n + m) u.c) (n + m) (xs ++ news) ∧ w.grownBy w' (Value.slice A n cp).ownBlock ∧
      ∀ g, (Value.slice u.a (n + m) u.c).ownBlock = some g → (Value.slice A n cp).ownBlock = some g ∨ w.heap.size ≤ g := by
  rcases hown.2 with ⟨hv, h0⟩ | ⟨g, cap, cur, hv, hb, hg, hnc, _⟩
  · injection hv with e1 e2 e3
    subst e1 e2 e3
    have hx : xs = [] := List.eq_nil_of_length_eq_zero (by have := hown.1; simpa using this)
    subst hx
    obtain ⟨v', w', hrun, r1, r2, _⟩ := run_append_own (P := P) w w.heap.size t ty e i z size bytes ht hi hz hsize hby hzs hsz (.slice none 0 0) 0 [] (World.ownsRow_nil w _ e size) a m c news hl hnews h1 h63 hbytes (Nat.le_refl _)
    obtain ⟨u, _, rfl, hlo⟩ := own_sl r1
    exact ⟨u, w', hrun, own_lower r1 hbase, r2, fun g hg => .inr (row_base r1 g hg)⟩
  · injection hv with e1 e2 e3
    subst e1 e3
    by_cases hr : n + m ≤ cp
    · obtain ⟨w', hrun, r1, r2⟩ := run_append_fits (P := P) w base t ty e i size ht hi hsize g n cp xs hown a m c news hl hnews h1 hr
      exact ⟨⟨some ⟨g, 0, none⟩, n + m, cp⟩, w', hrun, r1, r2, fun g' h => .inl h⟩
    · obtain ⟨v', w', hrun, r1, r2⟩ := run_append_arg_grows (P := P) w t ty e i z size bytes ht hi hz hsize hby hzs hsz ⟨g, 0, none⟩ n cp xs hown.1 (hown.cells rfl) a m c news hl hnews (by omega) h63 hbytes
      obtain ⟨u, _, rfl, hlo⟩ := own_sl r1
      exact ⟨u, w', hrun, own_lower r1 hbase, ⟨r2.os, r2.tape, r2.output, r2.size, fun k hk _ => r2.block k hk (by simp)⟩, fun g' hg' => .inr (row_base r1 g' hg')⟩
theorem step_append_sl {P : Program} {ops : Array Oper} {o : Oper} {a : Act} {w : World} {K : Act → World → Prop} {Q : Exit → Act → World → Prop} {E : Prop}
    (hg : o.guard = none) (s x : Operand) (t : TypeId) (hop : o.op = Op.call { callee := Callee.builtin Builtin.append, args := #[s, x], argTypes := #[t, t] })
    (base : Nat) (e : TypeId) (i : TypeInfo) (z : Value) (size bytes : Nat) (h1 : P.underlying t = some (.slice e)) (h2 : P.info? e = some i) (h3 : i.zero = some z) (h4 : i.size = size) (h5 : i.bytes = bytes) (h6 : z.cells.size = size) (h7 : 0 < size)
    (A : Option Addr) (n cp : Nat) (xs : List Value) (hs : a.eval s = .slice A n cp) (hown : w.ownsRow base e size (.slice A n cp) n xs)
    (ad : Addr) (m c : Nat) (news : List Value) (hx : a.eval x = .slice (some ad) m c) (hn : news.length = m * size) (hc : ∀ j u, news[j]? = some u → w.cell? (ad.add j) = some u) (h1c : ∀ u ∈ news, u.oneCell' = true)
    (b1 : n + m ≤ maxLen) (b2 : (n + m) * bytes ≤ 140737488355328) (hbase : base ≤ w.heap.size)
    (hK : ∀ (u : Sl) w', w'.ownsRow base e size (.slice u.a (n + m) u.c) (n + m) (xs ++ news) → w.grownBy w' (Value.slice A n cp).ownBlock → (∀ g, (Value.slice u.a (n + m) u.c).ownBlock = some g → (Value.slice A n cp).ownBlock = some g ∨ w.heap.size ≤ g) → K (a.put o.dst (.slice u.a (n + m) u.c)) w') :
    if Region.wanted o (yielded ops a.tmps) = true then Oper.wp P o a w K Q else E := by
  have hw : Region.wanted o (yielded ops a.tmps) = true := by simp [Region.wanted, hg]
  rw [if_pos hw]
  obtain ⟨u, w', hrun, r1, r2, r3⟩ := run_append_sl (P := P) w base t o.type e i z size bytes h1 h2 h3 h4 h5 h6 h7 A n cp xs hown ad m c news hn hc h1c b1 b2 hbase
  unfold Oper.wp
  simp [execOp, hop, resolve, invoke, builtin, hs, hx, hrun, Result.andThen]
  exact hK u w' r1 r2 r3

theorem own_take {w : World} {base T k n m c : Nat} {A : Option Addr} {xs : List Value} (h : w.ownsRow base T k (.slice A n c) n xs) (hm : m ≤ n) : w.ownsRow base T k (.slice A m c) m (xs.take (m * k)) := by
  refine ⟨?_, ?_⟩
  · rw [List.length_take, h.1]; exact Nat.min_eq_left (Nat.mul_le_mul_right _ hm)
  · rcases h.2 with ⟨hv, h0⟩ | ⟨g, cap, cur, hv, hb, hg, hnc, hcm, hs, ht⟩
    · injection hv with e1 e2 e3
      subst e1 e3
      have : m = 0 := by omega
      subst this
      exact .inl ⟨rfl, rfl⟩
    · injection hv with e1 e2 e3
      subst e1 e3
      refine .inr ⟨g, c, cur, rfl, hb, hg, by omega, hcm, hs, ?_⟩
      rw [← ht, List.take_take, Nat.min_eq_left (Nat.mul_le_mul_right _ hm)]
theorem Rows.drew {W : World} {base : Nat} {L : List Row} (h : Rows W base L) : Rows W.drew base L := Rows.mk h.own h.ap
theorem Rows.drewN {W : World} {base : Nat} {L : List Row} (h : Rows W base L) (n : Nat) : Rows (W.drewN n) base L := Rows.mk h.own h.ap
theorem info44 : (Try.prog.info? 44).map (fun i => (i.zero, i.size, i.bytes)) = some (some (.agg #[.slice none 0 0, .slice none 0 0, .bool false]), 3, 56) := by kernel_rfl
/-- the solver's rows, with the boxes of the two rows named apart -/
def SolvG (W : World) (base S : Nat) (F : Value) (d o : Sl) (A B C : List BxM) : Prop := Rows W base (solR S F d o :: bsR d A :: bsR o B :: C.flatMap bxR)
theorem grown_set (W : World) (g j : Nat) (v : Value) : W.grownBy (W.setCell ⟨g, j, none⟩ v) (some g) := ⟨rfl, rfl, rfl, by simp, fun k _ hk => heap_setCell_other W _ k v (fun e => hk (by simp [e]))⟩
section
variable {W W' : World} {base S : Nat} {F : Value} {d o d' o' : Sl} {A B C A' B' : List BxM} {q : BxM}
theorem SolvG.below (h : SolvG W base S F d o A B C) (hb : Below W.heap.size W W') : SolvG W' base S F d o A B C := Rows.keep h hb
theorem SolvG.sol (h : SolvG W base S F d o A B C) : base ≤ S ∧ S < W.heap.size ∧ W.cell? ⟨S, 0, none⟩ = some F ∧ W.cell? ⟨S, 1, none⟩ = some (.slice d.a d.n d.c) ∧ W.cell? ⟨S, 2, none⟩ = some (.slice o.a o.n o.c) ∧ (∀ j, W.frozen? ⟨S, j, none⟩ = false) := by
  have h1 : W.ownsRow base 56 3 (.slice (some ⟨S, 0, none⟩) 1 1) 1 [F, .slice d.a d.n d.c, .slice o.a o.n o.c] := h.own (solR S F d o) List.mem_cons_self
  have h2 := h1.lt S rfl
  exact ⟨h2.1, h2.2, h1.cellAt 0 (by decide), h1.cellAt 1 (by decide), h1.cellAt 2 (by decide), fun j => h1.frozenAt j⟩
theorem solR_cells {L : List Row} (h : Rows W base (solR S F d o :: L)) : base ≤ S ∧ S < W.heap.size ∧ W.cell? ⟨S, 0, none⟩ = some F ∧ W.cell? ⟨S, 1, none⟩ = some (.slice d.a d.n d.c) ∧ W.cell? ⟨S, 2, none⟩ = some (.slice o.a o.n o.c) ∧ (∀ j, W.frozen? ⟨S, j, none⟩ = false) := by
  have h1 : W.ownsRow base 56 3 (.slice (some ⟨S, 0, none⟩) 1 1) 1 [F, .slice d.a d.n d.c, .slice o.a o.n o.c] := h.own (solR S F d o) List.mem_cons_self
  have h2 := h1.lt S rfl
  exact ⟨h2.1, h2.2, h1.cellAt 0 (by decide), h1.cellAt 1 (by decide), h1.cellAt 2 (by decide), fun j => h1.frozenAt j⟩
theorem SolvG.row (h : SolvG W base S F d o A B C) (hq : q ∈ C) : W.ownsRow base 3 1 (.slice q.1.lo.a q.1.lo.n q.1.lo.c) q.1.lo.n (ints q.2.1) ∧ W.ownsRow base 3 1 (.slice q.1.hi.a q.1.hi.n q.1.hi.c) q.1.hi.n (ints q.2.2) := by
  have key : ∀ r ∈ bxR q, r.own W base := fun r hr => h.own r (List.mem_cons_of_mem _ (List.mem_cons_of_mem _ (List.mem_cons_of_mem _ (List.mem_flatMap.2 ⟨q, hq, hr⟩))))
  exact ⟨key (loR q) List.mem_cons_self, key (hiR q) (List.mem_cons_of_mem _ List.mem_cons_self)⟩
theorem SolvG.dec (h : SolvG W base S F d o A B C) : W.ownsRow base 44 3 (.slice d.a d.n d.c) d.n ((A.map (·.1)).flatMap bxL) := h.own (bsR d A) (List.mem_cons_of_mem _ List.mem_cons_self)
theorem SolvG.opn (h : SolvG W base S F d o A B C) : W.ownsRow base 44 3 (.slice o.a o.n o.c) o.n ((B.map (·.1)).flatMap bxL) := h.own (bsR o B) (List.mem_cons_of_mem _ (List.mem_cons_of_mem _ List.mem_cons_self))
theorem SolvG.apS (h : SolvG W base S F d o A B C) : (Value.slice d.a d.n d.c).ownBlock ≠ some S ∧ (Value.slice o.a o.n o.c).ownBlock ≠ some S := by
  have hp := (List.pairwise_cons.1 h.ap).1
  have h1 := hp (bsR d A) List.mem_cons_self
  have h2 := hp (bsR o B) (List.mem_cons_of_mem _ List.mem_cons_self)
  refine ⟨fun e => ?_, fun e => ?_⟩
  · rcases h1 with h1 | h1
    · cases h1
    · exact h1 e.symm
  · rcases h2 with h2 | h2
    · cases h2
    · exact h2 e.symm
/-- a block that was new in an older world is written -/
theorem SolvG.setNew {W0 : World} (h0 : SolvG W0 base S F d o A B C) (h : SolvG W base S F d o A B C) {X j : Nat} {v : Value} (hX : W0.heap.size ≤ X) : SolvG (W.setCell ⟨X, j, none⟩ v) base S F d o A B C :=
  Rows.off h (grown_set W X j v) (fun r hr e => by have := ((h0.own r hr).lt X e).2; omega)
/-- the solver's second word is written -/
theorem SolvG.set1 (h : Rows W base (solR S F d o :: bsR d' A :: bsR o B :: C.flatMap bxR)) : SolvG (W.setCell ⟨S, 1, none⟩ (.slice d'.a d'.n d'.c)) base S F d' o A B C := by
  have h1 : W.ownsRow base 56 3 (.slice (some ⟨S, 0, none⟩) 1 1) 1 [F, .slice d.a d.n d.c, .slice o.a o.n o.c] := h.own (solR S F d o) List.mem_cons_self
  exact Rows.upd (A := []) (r := solR S F d o) (r' := solR S F d' o) h (grown_set _ _ _ _) (h1.stored 1 (.slice d'.a d'.n d'.c)).1 (fun g hg => .inl hg)
theorem SolvG.set2 (h : Rows W base (solR S F d o :: bsR d A :: bsR o' B :: C.flatMap bxR)) : SolvG (W.setCell ⟨S, 2, none⟩ (.slice o'.a o'.n o'.c)) base S F d o' A B C := by
  have h1 : W.ownsRow base 56 3 (.slice (some ⟨S, 0, none⟩) 1 1) 1 [F, .slice d.a d.n d.c, .slice o.a o.n o.c] := h.own (solR S F d o) List.mem_cons_self
  exact Rows.upd (A := []) (r := solR S F d o) (r' := solR S F d o') h (grown_set _ _ _ _) (h1.stored 2 (.slice o'.a o'.n o'.c)).1 (fun g hg => .inl hg)
/-- a box is appended to the decided ones -/
theorem SolvG.push1 (h : SolvG W base S F d o A B C) (q : BxM) (hd : W'.ownsRow base 44 3 (.slice d'.a d'.n d'.c) d'.n (((A ++ [q]).map (·.1)).flatMap bxL)) (hg : W.grownBy W' (Value.slice d.a d.n d.c).ownBlock) (hn : ∀ g, (Value.slice d'.a d'.n d'.c).ownBlock = some g → (Value.slice d.a d.n d.c).ownBlock = some g ∨ W.heap.size ≤ g) :
    Rows W' base (solR S F d o :: bsR d' (A ++ [q]) :: bsR o B :: C.flatMap bxR) :=
  Rows.upd (A := [solR S F d o]) (r := bsR d A) (r' := bsR d' (A ++ [q])) h hg hd hn
/-- the open row is written, or written to new memory -/
theorem SolvG.put2 (h : SolvG W base S F d o A B C) (B' : List BxM) (hd : W'.ownsRow base 44 3 (.slice o'.a o'.n o'.c) o'.n ((B'.map (·.1)).flatMap bxL)) (hg : W.grownBy W' (Value.slice o.a o.n o.c).ownBlock) (hn : ∀ g, (Value.slice o'.a o'.n o'.c).ownBlock = some g → (Value.slice o.a o.n o.c).ownBlock = some g ∨ W.heap.size ≤ g) :
    Rows W' base (solR S F d o :: bsR d A :: bsR o' B' :: C.flatMap bxR) :=
  Rows.upd (A := [solR S F d o, bsR d A]) (r := bsR o B) (r' := bsR o' B') h hg hd hn
/-- the last open box is let go -/
theorem SolvG.pop (h : SolvG W base S F d o A (B ++ [q]) C) : Rows W base (solR S F d o :: bsR d A :: bsR ⟨o.a, B.length, o.c⟩ B :: C.flatMap bxR) := by
  have ho := h.opn
  have hl : o.n = B.length + 1 := by have := ho.1; rw [boxes_len] at this; simp at this; omega
  refine h.put2 (o' := ⟨o.a, B.length, o.c⟩) B ?_ (World.grownBy.refl _ _) (fun g hg => .inl ?_)
  · have := own_take ho (m := B.length) (by omega)
    have e : List.take (B.length * 3) (((B ++ [q]).map (·.1)).flatMap bxL) = (B.map (·.1)).flatMap bxL := by
      rw [List.map_append, List.flatMap_append, List.take_append_of_le_length (by rw [boxes_len]; exact Nat.le_refl _), List.take_of_length_le (by rw [boxes_len]; exact Nat.le_refl _)]
    rw [e] at this
    exact this
  · revert hg
    cases o.a <;> exact fun h => h
theorem SolvG.decided {qd st : List BxM} {q' : BxM} (h : SolvG W base S F d o (qd ++ [q']) (q :: st).reverse (qd ++ q :: st)) (hq : bxR q' = bxR q) :
    SolvAt (W.setCell ⟨S, 2, none⟩ (.slice o.a st.length o.c)) base S F d ⟨o.a, st.length, o.c⟩ (qd ++ [q']) st := by
  rw [List.reverse_cons] at h
  have h1 := h.pop
  have h2 := SolvG.set2 (o' := ⟨o.a, st.reverse.length, o.c⟩) h1
  have e : (qd ++ q :: st).flatMap bxR = ((qd ++ [q']) ++ st).flatMap bxR := by simp [List.flatMap_append, hq]
  unfold SolvG at h2
  rw [e, List.length_reverse] at h2
  exact h2
theorem own_num {w : World} {base n c i : Nat} {A : Option Addr} {xs : List Int} (h : w.ownsRow base 3 1 (.slice A n c) n (ints xs)) (hi : i < n) :
    ∃ (g : Nat) (x : Int), A = some ⟨g, 0, none⟩ ∧ base ≤ g ∧ g < w.heap.size ∧ xs[i]? = some x ∧ (∀ W, Sem.run Try.prog (Instr.indexAt 22 (.slice A n c) (.int .i64 (i : Int))) W = .ok (.pointer (some ⟨g, i, none⟩)) W) ∧ w.cell? ⟨g, i, none⟩ = some (.int .i64 x) ∧ ∀ j, w.frozen? ⟨g, j, none⟩ = false := by
  have e : ints xs = xs.flatMap fun x => [Value.int .i64 x] := by
    induction xs with
    | nil => rfl
    | cons x r ih =>
      clear h
      have ih' : ints r = r.flatMap fun x => [Value.int .i64 x] := by
        clear ih
        induction r with
        | nil => rfl
        | cons x r ih => rw [List.flatMap_cons, ← ih]; rfl
      rw [List.flatMap_cons, ← ih']; rfl
  rw [e] at h
  obtain ⟨g, x, hA, h1, h2, h3, h4, h5⟩ := own_at h (fun _ => rfl) (by decide) hi
  have h6 := h4 0 _ rfl
  simp only [Nat.mul_one, Nat.add_zero] at h6
  refine ⟨g, x, hA, h1, h2, h3, fun W => ?_, h6, h5⟩
  rw [hA]
  go_simp
theorem head26 {w : World} {base n c i : Nat} {A : Option Addr} {xs : List Value} (h : w.ownsRow base 44 3 (.slice A n c) n xs) (h0 : i < n) :
    ∀ W, Sem.run Try.prog (Instr.sliceAt 26 (.slice A n c) none (some (.int .i64 (i : Int))) none) W = .ok (.slice A i c) W := by
  have hc := own_cap h
  obtain ⟨b, off, rfl, hb, _⟩ := (own_rd h).2 (by omega)
  have h1 : i ≤ c := by omega
  intro W
  go_simp
end
end Go.Proofs.Ytcncobhdfflelaa
