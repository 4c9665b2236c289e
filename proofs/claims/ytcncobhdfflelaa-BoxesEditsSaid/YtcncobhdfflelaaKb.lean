/- The plain law and the memory words of BoxesEdits: rows of boxes, the rows that a region makes, appends inside a region; with. -/
import Derived.Test.YtcncobhdfflelaaId
namespace Go.Proofs.Ytcncobhdfflelaa
namespace Bx
theorem edits_law {v : List Int → List Int → Int} {lo hi : List Int} {r : List Box} (hp : Part v (lo, hi) r []) (hv : valid lo hi = true) {l : List Dm} {k : Nat} {b : Dm} (hl : r.map dm = l) (hb : l[k]? = some b) :
    b.1.length = lo.length ∧ b.2.length = lo.length ∧ Sub (lo, hi) b ∧ check lo hi (l.take k ++ l.drop (k + 1)) = false ∧ check lo hi (l ++ [b]) = false ∧
    (∀ (i : Nat) (y z : Int), b.2[i]? = some y → hi[i]? = some z → y < z → check lo hi (l.take k ++ l.drop (k + 1) ++ [(b.1, b.2.set i (y + 1))]) = false) ∧
    ∀ (i : Nat) (x y : Int), b.1[i]? = some x → b.2[i]? = some y → x ≠ y → check lo hi (l.take k ++ l.drop (k + 1) ++ [(b.1, b.2.set i x), (b.1.set i (x + 1), b.2)]) = true := by
  have h1 := hp.sub
  have h2 := hp.dis
  have h3 := hp.sum (fun _ => true)
  rw [List.append_nil, hl] at h1 h2 h3
  rw [cnt_true] at h3
  obtain ⟨hk, he⟩ := List.getElem?_eq_some_iff.1 hb
  have hs : l = l.take k ++ b :: l.drop (k + 1) := by
    rw [← he, ← List.drop_eq_getElem_cons hk, List.take_append_drop]
  have hmem : b ∈ l := List.mem_of_getElem? hb
  have sb := h1 b hmem
  have h1' := h1
  have h2' := h2
  have h3' := h3
  rw [hs] at h1' h2' h3'
  refine ⟨sb.l1, sb.l2, sb, check_less hv h1' h3', check_twice hv h1 hmem h3, fun i y z hy hz hlt => check_wide hv h1' h3' hy hz hlt, fun i x y hx hy hne => ?_⟩
  obtain ⟨_, hll, _⟩ := sub_self' hv
  have hxy := ((sb.self hll).in_ i x y x y hx hy hx hy).2.1
  exact check_halves hv h1' h3' h2' hx hy (by omega)
end Bx
open Go.RowKit

abbrev cellsB (qs : List BxM) : List Value := (qs.map (·.1)).flatMap bxL
theorem cellsB_append (a b : List BxM) : cellsB (a ++ b) = cellsB a ++ cellsB b := by simp [cellsB]
theorem flat_one' (qs : List BxM) : ∀ u ∈ cellsB qs, u.oneCell' = true := by
  intro u hu
  obtain ⟨b, _, hb⟩ := List.mem_flatMap.1 hu
  simp [bxL] at hb
  rcases hb with rfl | rfl | rfl <;> rfl
/-- a row of boxes whose bounds can be read -/
structure BRow (W : World) (u : Sl) (qs : List BxM) : Prop where
  rd : Rd W W.heap.size 3 u.a u.n (cellsB qs)
  el : ∀ q ∈ qs, BoxRd W q
section
variable {w W : World} {u : Sl} {qs : List BxM}
theorem BRow.up (h : BRow w u qs) (hb : Below w.heap.size w W) : BRow W u qs := ⟨h.rd.up hb, fun q hq => (h.el q hq).up hb⟩
theorem BRow.n (h : BRow w u qs) : qs.length = u.n := by have := h.rd.len (fun _ => rfl) (by omega); simpa using this
theorem FullAt.brow {bs : List Bx.Box} (h : FullAt w u bs) : ∃ qs, BRow w u qs ∧ qs.map plD = bs := by
  obtain ⟨qs, h1, h2, h3⟩ := h.ex
  exact ⟨qs, ⟨h1, h2⟩, h3⟩
theorem BRow.check (h : BRow w u qs) (A D : Option Addr) (n m c d : Nat) (lo hi : List Int) (hx : Rd w w.heap.size 1 A n (ints lo)) (hy : Rd w w.heap.size 1 D m (ints hi)) (hl : qs.length ≤ 900000) (r : Bool) (hr : Bx.check lo hi (qs.map (·.2)) = r) :
    Calls Try.prog 19 #[.slice A n c, .slice D m d, .slice u.a u.n u.c] w fun e w' => e = .returned (.bool r) ∧ Below w.heap.size w w' := by
  subst hr
  exact check19 A D n m c d lo hi u qs w hx hy h.rd h.el (by rw [← h.n]; exact hl)
/-- s[:k] and s[k+1:] of a row of boxes -/
theorem BRow.cut (h : BRow w u qs) {k : Nat} (hk : k < u.n) (hc : u.n ≤ u.c) :
    (∀ W, Sem.run Try.prog (Instr.sliceAt 26 (.slice u.a u.n u.c) none (some (.int .i64 (k : Int))) none) W = .ok (.slice u.a k u.c) W) ∧
    ∃ A' : Option Addr, (∀ W, Sem.run Try.prog (Instr.sliceAt 26 (.slice u.a u.n u.c) (some (.int .i64 ((k : Int) + 1))) none none) W = .ok (.slice A' (u.n - (k + 1)) (u.c - (k + 1))) W) ∧
      ∀ X, Below w.heap.size w X → Rd X X.heap.size 3 A' (u.n - (k + 1)) (cellsB (qs.drop (k + 1))) := by
  obtain ⟨A', t1, t2⟩ := tail26 h.rd hk hc
  have h1 : (k : Int) ≤ (u.n : Int) := by omega
  obtain ⟨b, off, hA, _, _⟩ := h.rd.2 (by omega)
  refine ⟨fun W => ?_, A', t1, fun X hX => ?_⟩
  · rw [hA]
    have h2 : k ≤ u.c := by omega
    go_simp
  · have := t2 X X.heap.size (h.rd.up hX)
    rw [flatMap_drop bxL 3 (fun _ => rfl)] at this
    rw [cellsB, List.map_drop]
    exact this
theorem BRow.take_ (h : BRow w u qs) {k : Nat} (hk : k ≤ u.n) : Rd w w.heap.size 3 u.a k (cellsB (qs.take k)) := by
  have := h.rd.take_ hk
  rw [flatMap_take bxL 3 (fun _ => rfl)] at this
  rw [cellsB, List.map_take]
  exact this
end

/-! the rows that a region makes -/
structure St (w0 W : World) (L : List Row) : Prop where
  rows : Rows W w0.heap.size L
  bl : Below w0.heap.size w0 W
section
variable {w0 W W' : World} {A B L : List Row} {r : Row}
theorem St.start (w : World) : St w w [] := ⟨Rows.none_, Below.refl _ _⟩
theorem St.drew (h : St w0 W L) : St w0 W.drew L := ⟨Rows.drew h.rows, h.bl.drew⟩
theorem St.at_ (h : St w0 W L) (i : Nat) (hr : L[i]? = some r) : W.ownsRow w0.heap.size r.T r.k r.v r.s.n r.xs := h.rows.own r (List.mem_of_getElem? hr)
theorem St.lit (h : St w0 W (A ++ B)) (T k n : Nat) (cs : List Value) (hl : cs.length = n * k) (hn : n ≤ 1000000) : St w0 (W.alloc (.cells cs.toArray T)) (A ++ ⟨T, k, ⟨some ⟨W.heap.size, 0, none⟩, n, n⟩, cs⟩ :: B) := by
  refine ⟨h.rows.ins ((Below.refl _ _).alloc (Nat.le_refl _) _) ?_ (fun g hg => ?_), h.bl.alloc h.bl.size _⟩
  · exact own_lower (World.ownsRow_lit (base := W.heap.size) (e := T) (size := k) W cs.toArray n (Nat.le_refl _) (by have e : maxLen = 9223372036854775807 := (by unfold maxLen; decide); rw [e]; omega) (by simpa using hl)) h.bl.size
  · simp [Row.blk, Value.ownBlock] at hg
    omega
theorem St.call {T k n : Nat} {u : Sl} {xs : List Value} (h : St w0 W (A ++ B)) (hb : Below W.heap.size W W') (ho : W'.ownsRow W.heap.size T k (.slice u.a n u.c) n xs) : St w0 W' (A ++ ⟨T, k, ⟨u.a, n, u.c⟩, xs⟩ :: B) :=
  ⟨h.rows.ins hb (own_lower ho h.bl.size) (fun g hg => row_base ho g hg), Below.call h.bl hb⟩
theorem St.app {r' : Row} (h : St w0 W (A ++ r :: B)) (hg : W.grownBy W' r.blk) (ho : r'.own W' w0.heap.size) (hn : ∀ g, r'.blk = some g → r.blk = some g ∨ W.heap.size ≤ g) : St w0 W' (A ++ r' :: B) :=
  ⟨h.rows.upd hg ho hn, h.bl.grown hg h.bl.size (fun k hk => row_base (h.rows.own r (List.mem_append.2 (.inr List.mem_cons_self))) k hk)⟩
end
/-- an append inside a region, whose source is nil or known cells -/
theorem step_append_rd {P : Program} {ops : Array Oper} {o : Oper} {a : Act} {w : World} {K : Act → World → Prop} {Q : Exit → Act → World → Prop} {E : Prop}
    (hg : o.guard = none) (s x : Operand) (t : TypeId) (hop : o.op = Op.call { callee := Callee.builtin Builtin.append, args := #[s, x], argTypes := #[t, t] })
    (base : Nat) (e : TypeId) (i : TypeInfo) (z : Value) (size bytes : Nat) (h1 : P.underlying t = some (.slice e)) (h2 : P.info? e = some i) (h3 : i.zero = some z) (h4 : i.size = size) (h5 : i.bytes = bytes) (h6 : z.cells.size = size) (h7 : 0 < size)
    (A : Option Addr) (n cp : Nat) (xs : List Value) (hs : a.eval s = .slice A n cp) (hown : w.ownsRow base e size (.slice A n cp) n xs)
    (B : Nat) (A0 : Option Addr) (m c : Nat) (news : List Value) (hx : a.eval x = .slice A0 m c) (hr : Rd w B size A0 m news) (h1c : ∀ u ∈ news, u.oneCell' = true)
    (b1 : n + m ≤ 1000000) (b2 : (n + m) * bytes ≤ 140737488355328) (hbase : base ≤ w.heap.size)
    (hK : ∀ (u : Sl) w', w'.ownsRow base e size (.slice u.a (n + m) u.c) (n + m) (xs ++ news) → w.grownBy w' (Value.slice A n cp).ownBlock → (∀ g, (Value.slice u.a (n + m) u.c).ownBlock = some g → (Value.slice A n cp).ownBlock = some g ∨ w.heap.size ≤ g) → K (a.put o.dst (.slice u.a (n + m) u.c)) w') :
    if Region.wanted o (yielded ops a.tmps) = true then Oper.wp P o a w K Q else E := by
  rcases A0 with _ | ad
  · have hm : m = 0 := hr.none0 rfl
    subst hm
    have hnil : news = [] := List.eq_nil_of_length_eq_zero (by simpa using hr.1)
    subst hnil
    have hw : Region.wanted o (yielded ops a.tmps) = true := by simp [Region.wanted, hg]
    rw [if_pos hw]
    have hrun := run_append_nothing (P := P) w base t o.type e i size h1 h2 (.slice A n cp) n xs hown c
    unfold Oper.wp
    simp [execOp, hop, resolve, invoke, builtin, hs, hx, hrun, Result.andThen]
    exact hK ⟨A, n, cp⟩ w (by simpa using hown) (World.grownBy.refl w _) (fun g hg => .inl (by simpa using hg))
  · exact step_append_sl hg s x t hop base e i z size bytes h1 h2 h3 h4 h5 h6 h7 A n cp xs hs hown ad m c news hx hr.1 (hr.holds ad rfl) h1c (by have e : maxLen = 9223372036854775807 := (by unfold maxLen; decide); rw [e]; omega) b2 hbase hK

set_option linter.unusedSimpArgs false in
set_option linter.unusedVariables false in
set_option maxRecDepth 100000 in
set_option maxHeartbeats 1600000 in
theorem with25 (xs : List Int) (A : Option Addr) (n c k : Nat) (x : Int) (w : World) (h : Rd w w.heap.size 1 A n (ints xs)) (hn : n ≤ 1000000) (hk : k < n) :
    Calls Try.prog 25 #[.slice A n c, .int .i64 (k : Int), .int .i64 x] w (OwnPost 3 1 n (ints (xs.set k x)) w) := by
  have H := Lib.hid h
  clear h
  obtain ⟨i3, hi3, hz30, hz31, hz32⟩ := info_parts info3'
  go_enter Try.func25, Try.ntmps25
  go_wp2_with (at_builtin; refine wpList_append_lit _ 3 rfl (.tmp 8) (.tmp 9) 22 rfl i3 _ 1 8 Try.underlying22 hi3 hz30 hz31 hz32 rfl (by decide) _ rfl (by simp) _ _ _ _ (ints xs) rfl H.out (Nat.le_refl _) (int_one xs) (by omega) (by omega) ?_; intro u1 v1 hr1 ho1 h1; have HO := Lib.hid ho1; have HB := Lib.hid h1; obtain ⟨g, hA, hg1, hg2, ⟨z, hc⟩, hf⟩ := own_int ho1 hk; have hix : ∀ W, Sem.run Try.prog (Instr.indexAt 22 (.slice u1.a n u1.c) (.int .i64 (k : Int))) W = .ok (.pointer (some ⟨g, k, none⟩)) W := (by intro W; rw [hA]; go_simp); have HA := Lib.hid hA; clear hr1 ho1 h1 hA)
  go_ret
  refine ⟨u1, rfl, ?_, HB.out.setCell hg1 _⟩
  have ho := HO.out
  rw [HA.out] at ho ⊢
  exact own_set1 ho x
end Go.Proofs.Ytcncobhdfflelaa
