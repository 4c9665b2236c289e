/- slices.swapRangeCmpFunc and rotateCmpFunc on a row of alarms. -/
import Derived.Test.YtjdjfjokniingaaMd
import Derived.Test.YtjdjfjokniingaaTa
import Derived.Lib.BufferOwn
import Derived.Lib.BufferWrite
namespace Go.Proofs.Ytjdjfjokniingaa
open Go.RowKit

abbrev putFly (W : World) (g o : Nat) (f : FlyC) : World := ((((((W.setCell ⟨g, o, none⟩ (.int .i64 f.x)).setCell ⟨g, o + 1, none⟩ (.int .i64 f.y)).setCell ⟨g, o + 2, none⟩ (.string f.path)).setCell ⟨g, o + 3, none⟩ (.string f.l.src)).setCell ⟨g, o + 4, none⟩ (.string f.l.msg)).setCell ⟨g, o + 5, none⟩ (.slice f.l.args.a f.l.args.n f.l.args.c)).setCell ⟨g, o + 6, none⟩ (.int .i64 f.l.sent)
theorem putFly_row {w : World} {B n c g i : Nat} {rs : List FlyC} (f : FlyC) (h : w.ownsRow B 47 7 (.slice (some ⟨g, 0, none⟩) n c) n (rs.flatMap flyL)) (hi : i < rs.length) : (putFly w g (i * 7) f).ownsRow B 47 7 (.slice (some ⟨g, 0, none⟩) n c) n ((rs.set i f).flatMap flyL) := by
  have gs : ∀ r : FlyC, (rs.set i r)[i]? = some r := fun r => by rw [List.getElem?_set_self hi]
  have h0 := own_store (i := i) (j := 0) (v := .int .i64 f.x) h (fun _ => rfl) (by omega) (List.getElem?_eq_getElem hi) ⟨f.x, rs[i].y, rs[i].path, rs[i].l⟩ rfl
  have h1 := own_store (i := i) (j := 1) (v := .int .i64 f.y) h0 (fun _ => rfl) (by omega) (gs _) ⟨f.x, f.y, rs[i].path, rs[i].l⟩ rfl
  rw [List.set_set] at h1
  have h2 := own_store (i := i) (j := 2) (v := .string f.path) h1 (fun _ => rfl) (by omega) (gs _) ⟨f.x, f.y, f.path, rs[i].l⟩ rfl
  rw [List.set_set] at h2
  have h3 := own_store (i := i) (j := 3) (v := .string f.l.src) h2 (fun _ => rfl) (by omega) (gs _) ⟨f.x, f.y, f.path, ⟨f.l.src, rs[i].l.msg, rs[i].l.args, rs[i].l.sent⟩⟩ rfl
  rw [List.set_set] at h3
  have h4 := own_store (i := i) (j := 4) (v := .string f.l.msg) h3 (fun _ => rfl) (by omega) (gs _) ⟨f.x, f.y, f.path, ⟨f.l.src, f.l.msg, rs[i].l.args, rs[i].l.sent⟩⟩ rfl
  rw [List.set_set] at h4
  have h5 := own_store (i := i) (j := 5) (v := .slice f.l.args.a f.l.args.n f.l.args.c) h4 (fun _ => rfl) (by omega) (gs _) ⟨f.x, f.y, f.path, ⟨f.l.src, f.l.msg, f.l.args, rs[i].l.sent⟩⟩ rfl
  rw [List.set_set] at h5
  have h6 := own_store (i := i) (j := 6) (v := .int .i64 f.l.sent) h5 (fun _ => rfl) (by omega) (gs _) f rfl
  rw [List.set_set] at h6
  exact h6
theorem putFly_grown {a w : World} {g : Nat} (h : a.grownBy w (some g)) (o : Nat) (f : FlyC) : a.grownBy (putFly w g o f) (some g) :=
  Lib.grownBy_setB (Lib.grownBy_setB (Lib.grownBy_setB (Lib.grownBy_setB (Lib.grownBy_setB (Lib.grownBy_setB (Lib.grownBy_setB h _ _) _ _) _ _) _ _) _ _) _ _) _ _

/-- the row in block g holds the alarms xs; since w0 only that block has been written -/
structure RowG (w0 : World) (B g c n : Nat) (xs : List FlyC) (w : World) : Prop where
  row : w.ownsRow B 47 7 (.slice (some ⟨g, 0, none⟩) n c) n (xs.flatMap flyL)
  gr : w0.grownBy w (some g)
  len : xs.length = n
section
variable {w0 w w' : World} {B g c n : Nat} {xs ys : List FlyC}
theorem RowG.start (h : w.ownsRow B 47 7 (.slice (some ⟨g, 0, none⟩) n c) n (xs.flatMap flyL)) : RowG w B g c n xs w := ⟨h, World.grownBy.refl _ _, (own_rd h).len (fun _ => rfl) (by omega)⟩
theorem RowG.below (h : RowG w0 B g c n xs w) (hb : Below w.heap.size w w') : RowG w0 B g c n xs w' := ⟨own_below h.row hb, Lib.grownBy_below h.gr hb, h.len⟩
theorem RowG.drew (h : RowG w0 B g c n xs w) : RowG w0 B g c n xs w.drew := ⟨h.row.drew, ⟨h.gr.os, h.gr.tape, h.gr.output, h.gr.size, h.gr.block⟩, h.len⟩
theorem RowG.trans (h : RowG w0 B g c n xs w) (k : RowG w B g c n ys w') : RowG w0 B g c n ys w' := ⟨k.row, Lib.grownBy_trans h.gr k.gr, k.len⟩
theorem RowG.at_ (h : RowG w0 B g c n xs w) {i : Nat} {f : FlyC} (hf : xs[i]? = some f) : (∀ j u, (flyL f)[j]? = some u → w.cell? ⟨g, i * 7 + j, none⟩ = some u) ∧ (∀ j, w.frozen? ⟨g, j, none⟩ = false) ∧ g < w.heap.size ∧ B ≤ g ∧ i < n := by
  have hi : i < n := by rw [← h.len]; exact (List.getElem?_eq_some_iff.1 hf).1
  obtain ⟨g', f', hg, h1, h2, h3, h4, h5⟩ := own_at h.row (fun _ => rfl) (by omega) (i := i) hi
  simp only [Option.some.injEq, Addr.mk.injEq, and_true] at hg
  subst hg
  rw [hf] at h3
  injection h3 with h3
  subst h3
  exact ⟨h4, h5, h2, h1, hi⟩
theorem set_mid {α : Type} (U : List α) (x y : α) (V : List α) : (U ++ x :: V).set U.length y = U ++ y :: V := by
  rw [List.set_append_right _ _ (Nat.le_refl _), Nat.sub_self, List.set_cons_zero]
theorem get_mid {α : Type} (U : List α) (x : α) (V : List α) : (U ++ x :: V)[U.length]? = some x := by
  rw [List.getElem?_append_right (Nat.le_refl _), Nat.sub_self]; rfl
theorem get_mid2 {α : Type} (U : List α) (x y : α) (V Z : List α) : (U ++ x :: (V ++ y :: Z))[U.length + 1 + V.length]? = some y := by
  have := get_mid (U ++ x :: V) y Z
  rw [List.append_assoc, List.cons_append, List.length_append, List.length_cons] at this
  rw [show U.length + 1 + V.length = U.length + (V.length + 1) by omega]
  exact this
theorem set_mid2 {α : Type} (U : List α) (x y z : α) (V Z : List α) : (U ++ x :: (V ++ y :: Z)).set (U.length + 1 + V.length) z = U ++ x :: (V ++ z :: Z) := by
  have := set_mid (U ++ x :: V) y z Z
  rw [List.append_assoc, List.append_assoc, List.cons_append, List.cons_append, List.length_append, List.length_cons] at this
  rw [show U.length + 1 + V.length = U.length + (V.length + 1) by omega]
  exact this
/-- two elements have been exchanged, the first one's place written first -/
theorem RowG.swap {U V Z : List FlyC} {x y : FlyC} (h : RowG w0 B g c n (U ++ x :: (V ++ y :: Z)) w) {p q : Nat} (hp : p = U.length) (hq : q = U.length + 1 + V.length) : RowG w0 B g c n (U ++ y :: (V ++ x :: Z)) (putFly (putFly w g (p * 7) y) g (q * 7) x) := by
  subst hp hq
  have h1 := putFly_row (i := U.length) y h.row (by simp)
  rw [set_mid] at h1
  have h2 := putFly_row (i := U.length + 1 + V.length) x h1 (by simp; omega)
  rw [set_mid2] at h2
  exact ⟨h2, putFly_grown (putFly_grown h.gr _ _) _ _, by have := h.len; simp at this ⊢; omega⟩
/-- the same, the second one's place written first -/
theorem RowG.swap' {U V Z : List FlyC} {x y : FlyC} (h : RowG w0 B g c n (U ++ x :: (V ++ y :: Z)) w) {p q : Nat} (hp : p = U.length) (hq : q = U.length + 1 + V.length) : RowG w0 B g c n (U ++ y :: (V ++ x :: Z)) (putFly (putFly w g (q * 7) x) g (p * 7) y) := by
  subst hp hq
  have h1 := putFly_row (i := U.length + 1 + V.length) x h.row (by simp; omega)
  rw [set_mid2] at h1
  have h2 := putFly_row (i := U.length) y h1 (by simp)
  rw [set_mid] at h2
  exact ⟨h2, putFly_grown (putFly_grown h.gr _ _) _ _, by have := h.len; simp at this ⊢; omega⟩
end
theorem drop_at {α : Type} {l : List α} {k : Nat} (h : k < l.length) : ∃ x, l[k]? = some x ∧ l.drop k = x :: l.drop (k + 1) ∧ l.take (k + 1) = l.take k ++ [x] := by
  refine ⟨l[k], List.getElem?_eq_getElem h, List.drop_eq_getElem_cons h, ?_⟩
  rw [List.take_add_one, List.getElem?_eq_getElem h]
  rfl

/-- the state of swapRange when t pairs have been exchanged -/
def sr {α : Type} (A P M Q C : List α) (t : Nat) : List α := A ++ (Q.take t ++ P.drop t) ++ M ++ (P.take t ++ Q.drop t) ++ C

theorem sr_step {α : Type} (A P M Q C : List α) (t : Nat) (h1 : t < P.length) (h2 : t < Q.length) : ∃ U x V y Z, sr A P M Q C t = U ++ x :: (V ++ y :: Z) ∧ sr A P M Q C (t + 1) = U ++ y :: (V ++ x :: Z) ∧ U.length = A.length + t ∧ U.length + 1 + V.length = A.length + P.length + M.length + t := by
  obtain ⟨x, hx, dx, tx⟩ := drop_at h1
  obtain ⟨y, hy, dy, ty⟩ := drop_at h2
  refine ⟨A ++ Q.take t, x, P.drop (t + 1) ++ M ++ P.take t, y, Q.drop (t + 1) ++ C, ?_, ?_, ?_, ?_⟩
  · unfold sr; rw [dx, dy]; simp
  · unfold sr; rw [tx, ty]; simp
  · simp; omega
  · simp; omega

set_option linter.unusedVariables false in
set_option linter.unusedSimpArgs false in
set_option maxRecDepth 100000 in
set_option maxHeartbeats 3200000 in
theorem swap123 (w0 : World) (g n c a b k B : Nat) (A P M Q C : List FlyC) (cm : Value) (w : World) (h : RowG w0 B g c n (A ++ P ++ M ++ Q ++ C) w) (ha : A.length = a) (hP : P.length = k) (hQ : Q.length = k) (hb : a + k + M.length = b) (hn : n ≤ 1000000) :
    Calls Try.prog 123 #[.slice (some ⟨g, 0, none⟩) n c, .int .i64 a, .int .i64 b, .int .i64 k, cm] w fun e w' => e = .returned (.tuple #[]) ∧ RowG w0 B g c n (A ++ Q ++ M ++ P ++ C) w' := by
  have H := Lib.hid h
  have hl : a + k + M.length + k + C.length = n := by have := h.len; simp at this; omega
  have HA := Lib.hid ha
  have HP := Lib.hid hP
  have HQ := Lib.hid hQ
  have hbk : b + k ≤ n := by omega
  have hak : a + k ≤ b := by omega
  have HB := Lib.hid hb
  clear h ha hP hQ hb hl
  go_enter Try.func123, Try.ntmps123
  go_wp2_with fail
  go_loopw [10] (fun i wr => ∃ t : Nat, t ≤ k ∧ i = .int .i64 t ∧ RowG w0 B g c n (sr A P M Q C t) wr) (fun i _ => k - (intOf i).toNat)
  case atStart => exact ⟨0, Nat.zero_le _, rfl, by simpa [sr] using H.out⟩
  case round =>
    obtain ⟨t, ht, rfl, hr⟩ := hrel
    by_cases hlt : t < k
    · obtain ⟨p, hp⟩ : ∃ p, p = a + t := ⟨_, rfl⟩
      obtain ⟨q, hq⟩ : ∃ q, q = b + t := ⟨_, rfl⟩
      have ep : IntKind.i64.wrap ((a : Int) + (t : Int)) = (p : Int) := by rw [IntWalk.i64_left, IntWalk.wrap64_in _ (by omega)]; omega
      have eq : IntKind.i64.wrap ((b : Int) + (t : Int)) = (q : Int) := by rw [IntWalk.i64_left, IntWalk.wrap64_in _ (by omega)]; omega
      have lp : p < n := by omega
      have lq : q < n := by omega
      have hpq : p ≠ q := by omega
      obtain ⟨U, f, V, f2, Z, e1, e2, hU, hV⟩ := sr_step A P M Q C t (by rw [HP.out]; exact hlt) (by rw [HQ.out]; exact hlt)
      rw [e1] at hr
      have pU : p = U.length := by rw [hU, HA.out]; exact hp
      have qV : q = U.length + 1 + V.length := by rw [hV, HA.out, HP.out, HB.out]; exact hq
      obtain ⟨hx, hfr, hgs, -, -⟩ := hr.at_ (i := p) (f := f) (by rw [pU]; exact get_mid _ _ _)
      obtain ⟨hy, -, -, -, -⟩ := hr.at_ (i := q) (f := f2) (by rw [qV]; exact get_mid2 _ _ _ _ _)
      have HS : Hid (RowG w0 B g c n (sr A P M Q C (t + 1)) (putFly (putFly wr g (p * 7) f2) g (q * 7) f)) := Lib.hid (by rw [e2]; exact hr.swap pU qV)
      have x0 : wr.cell? ⟨g, p * 7, none⟩ = some (.int .i64 f.x) := hx 0 _ rfl
      have x1 : wr.cell? ⟨g, p * 7 + 1, none⟩ = some (.int .i64 f.y) := hx 1 _ rfl
      have x2 : wr.cell? ⟨g, p * 7 + 2, none⟩ = some (.string f.path) := hx 2 _ rfl
      have x3 : wr.cell? ⟨g, p * 7 + 3, none⟩ = some (.string f.l.src) := hx 3 _ rfl
      have x4 : wr.cell? ⟨g, p * 7 + 4, none⟩ = some (.string f.l.msg) := hx 4 _ rfl
      have x5 : wr.cell? ⟨g, p * 7 + 5, none⟩ = some (.slice f.l.args.a f.l.args.n f.l.args.c) := hx 5 _ rfl
      have x6 : wr.cell? ⟨g, p * 7 + 6, none⟩ = some (.int .i64 f.l.sent) := hx 6 _ rfl
      have y0 : wr.cell? ⟨g, q * 7, none⟩ = some (.int .i64 f2.x) := hy 0 _ rfl
      have y1 : wr.cell? ⟨g, q * 7 + 1, none⟩ = some (.int .i64 f2.y) := hy 1 _ rfl
      have y2 : wr.cell? ⟨g, q * 7 + 2, none⟩ = some (.string f2.path) := hy 2 _ rfl
      have y3 : wr.cell? ⟨g, q * 7 + 3, none⟩ = some (.string f2.l.src) := hy 3 _ rfl
      have y4 : wr.cell? ⟨g, q * 7 + 4, none⟩ = some (.string f2.l.msg) := hy 4 _ rfl
      have y5 : wr.cell? ⟨g, q * 7 + 5, none⟩ = some (.slice f2.l.args.a f2.l.args.n f2.l.args.c) := hy 5 _ rfl
      have y6 : wr.cell? ⟨g, q * 7 + 6, none⟩ = some (.int .i64 f2.l.sent) := hy 6 _ rfl
      clear hx hy hp hq e1 e2 hr hU hV pU qV
      go_wp2_with fail
      refine wp_region_held_drew (S := (fun _ => True)) (by kernel_rfl) ?_ (fun hHeld => ?_)
      · trivial
      refine wpAnyH_take (i := 0) (v := ?_) rfl (by kernel_rfl) (by kernel_rfl) (by kernel_rfl) (fun _ _ _ h => h) (Or.inl ⟨by rfl, ?_⟩) (by assumption) ?_
      rotate_left
      · intro w hSw; (try dsimp only at hSw); go_simp; (first | done | (with_reducible rfl))
      try simp only [Act.put, List.getElem_toArray, List.getElem_cons_succ, List.getElem_cons_zero, List.setIfInBounds_toArray, List.set_cons_zero, List.set_cons_succ]
      refine wpAnyH_take (i := 1) (v := ?_) rfl (by kernel_rfl) (by kernel_rfl) (by kernel_rfl) (fun _ _ _ h => h) (Or.inl ⟨by rfl, ?_⟩) (by assumption) ?_
      rotate_left
      · intro w hSw; (try dsimp only at hSw); go_simp; (first | done | (with_reducible rfl))
      try simp only [Act.put, List.getElem_toArray, List.getElem_cons_succ, List.getElem_cons_zero, List.setIfInBounds_toArray, List.set_cons_zero, List.set_cons_succ]
      refine wpAnyH_take (i := 2) (v := ?_) rfl (by kernel_rfl) (by kernel_rfl) (by kernel_rfl) (fun _ _ _ h => h) (Or.inl ⟨by rfl, ?_⟩) (by assumption) ?_
      rotate_left
      · intro w hSw; (try dsimp only at hSw); go_simp; (first | done | (with_reducible rfl))
      try simp only [Act.put, List.getElem_toArray, List.getElem_cons_succ, List.getElem_cons_zero, List.setIfInBounds_toArray, List.set_cons_zero, List.set_cons_succ]
      refine wpAnyH_take (i := 3) (v := ?_) rfl (by kernel_rfl) (by kernel_rfl) (by kernel_rfl) (fun _ _ _ h => h) (Or.inl ⟨by rfl, ?_⟩) (by assumption) ?_
      rotate_left
      · intro w hSw; (try dsimp only at hSw); go_simp; (first | done | (with_reducible rfl))
      try simp only [Act.put, List.getElem_toArray, List.getElem_cons_succ, List.getElem_cons_zero, List.setIfInBounds_toArray, List.set_cons_zero, List.set_cons_succ]
      refine wpAnyH_take (i := 4) (v := ?_) rfl (by kernel_rfl) (by kernel_rfl) (by kernel_rfl) (fun _ _ _ h => h) (Or.inl ⟨by rfl, ?_⟩) (by assumption) ?_
      rotate_left
      · intro w hSw; (try dsimp only at hSw); go_simp; (first | done | (with_reducible rfl))
      try simp only [Act.put, List.getElem_toArray, List.getElem_cons_succ, List.getElem_cons_zero, List.setIfInBounds_toArray, List.set_cons_zero, List.set_cons_succ]
      refine wpAnyH_take (i := 5) (v := ?_) rfl (by kernel_rfl) (by kernel_rfl) (by kernel_rfl) (fun _ _ _ h => h) (Or.inl ⟨by rfl, ?_⟩) (by assumption) ?_
      rotate_left
      · intro w hSw; (try dsimp only at hSw); go_simp; (first | done | (with_reducible rfl))
      try simp only [Act.put, List.getElem_toArray, List.getElem_cons_succ, List.getElem_cons_zero, List.setIfInBounds_toArray, List.set_cons_zero, List.set_cons_succ]
      refine wpAnyH_take (i := 6) (v := ?_) rfl (by kernel_rfl) (by kernel_rfl) (by kernel_rfl) (fun _ _ _ h => h) (Or.inl ⟨by rfl, ?_⟩) (by assumption) ?_
      rotate_left
      · intro w hSw; (try dsimp only at hSw); go_simp; (first | done | (with_reducible rfl))
      try simp only [Act.put, List.getElem_toArray, List.getElem_cons_succ, List.getElem_cons_zero, List.setIfInBounds_toArray, List.set_cons_zero, List.set_cons_succ]
      refine wpAnyH_take (i := 7) (v := ?_) rfl (by kernel_rfl) (by kernel_rfl) (by kernel_rfl) (fun _ _ _ h => h) (Or.inl ⟨by rfl, ?_⟩) (by assumption) ?_
      rotate_left
      · intro w hSw; (try dsimp only at hSw); go_simp; (first | done | (with_reducible rfl))
      try simp only [Act.put, List.getElem_toArray, List.getElem_cons_succ, List.getElem_cons_zero, List.setIfInBounds_toArray, List.set_cons_zero, List.set_cons_succ]
      refine wpAnyH_take (i := 8) (v := ?_) rfl (by kernel_rfl) (by kernel_rfl) (by kernel_rfl) (fun _ _ _ h => h) (Or.inl ⟨by rfl, ?_⟩) (by assumption) ?_
      rotate_left
      · intro w hSw; (try dsimp only at hSw); go_simp; (first | done | (with_reducible rfl))
      try simp only [Act.put, List.getElem_toArray, List.getElem_cons_succ, List.getElem_cons_zero, List.setIfInBounds_toArray, List.set_cons_zero, List.set_cons_succ]
      refine wpAnyH_take (i := 9) (v := ?_) rfl (by kernel_rfl) (by kernel_rfl) (by kernel_rfl) (fun _ _ _ h => h) (Or.inl ⟨by rfl, ?_⟩) (by assumption) ?_
      rotate_left
      · intro w hSw; (try dsimp only at hSw); go_simp; (first | done | (with_reducible rfl))
      try simp only [Act.put, List.getElem_toArray, List.getElem_cons_succ, List.getElem_cons_zero, List.setIfInBounds_toArray, List.set_cons_zero, List.set_cons_succ]
      refine wpAnyH_take (i := 10) (v := ?_) rfl (by kernel_rfl) (by kernel_rfl) (by kernel_rfl) (fun _ _ _ h => h) (Or.inl ⟨by rfl, ?_⟩) (by assumption) ?_
      rotate_left
      · intro w hSw; (try dsimp only at hSw); go_simp; (first | done | (with_reducible rfl))
      try simp only [Act.put, List.getElem_toArray, List.getElem_cons_succ, List.getElem_cons_zero, List.setIfInBounds_toArray, List.set_cons_zero, List.set_cons_succ]
      refine wpAnyH_take (i := 11) (v := ?_) rfl (by kernel_rfl) (by kernel_rfl) (by kernel_rfl) (fun _ _ _ h => h) (Or.inl ⟨by rfl, ?_⟩) (by assumption) ?_
      rotate_left
      · intro w hSw; (try dsimp only at hSw); go_simp; (first | done | (with_reducible rfl))
      try simp only [Act.put, List.getElem_toArray, List.getElem_cons_succ, List.getElem_cons_zero, List.setIfInBounds_toArray, List.set_cons_zero, List.set_cons_succ]
      refine wpAnyH_take (i := 12) (v := ?_) rfl (by kernel_rfl) (by kernel_rfl) (by kernel_rfl) (fun _ _ _ h => h) (Or.inl ⟨by rfl, ?_⟩) (by assumption) ?_
      rotate_left
      · intro w hSw; (try dsimp only at hSw); go_simp; (first | done | (with_reducible rfl))
      try simp only [Act.put, List.getElem_toArray, List.getElem_cons_succ, List.getElem_cons_zero, List.setIfInBounds_toArray, List.set_cons_zero, List.set_cons_succ]
      refine wpAnyH_take (i := 14) (v := ?_) rfl (by kernel_rfl) (by kernel_rfl) (by kernel_rfl) (fun _ _ _ h => h) (Or.inl ⟨by rfl, ?_⟩) (by assumption) ?_
      rotate_left
      · intro w hSw; (try dsimp only at hSw); go_simp; (first | done | (with_reducible rfl))
      try simp only [Act.put, List.getElem_toArray, List.getElem_cons_succ, List.getElem_cons_zero, List.setIfInBounds_toArray, List.set_cons_zero, List.set_cons_succ]
      refine wpAnyH_take (i := 15) (v := ?_) rfl (by kernel_rfl) (by kernel_rfl) (by kernel_rfl) (fun _ _ _ h => h) (Or.inl ⟨by rfl, ?_⟩) (by assumption) ?_
      rotate_left
      · intro w hSw; (try dsimp only at hSw); go_simp; (first | done | (with_reducible rfl))
      try simp only [Act.put, List.getElem_toArray, List.getElem_cons_succ, List.getElem_cons_zero, List.setIfInBounds_toArray, List.set_cons_zero, List.set_cons_succ]
      refine wpAnyH_take (i := 16) (v := ?_) rfl (by kernel_rfl) (by kernel_rfl) (by kernel_rfl) (fun _ _ _ h => h) (Or.inl ⟨by rfl, ?_⟩) (by assumption) ?_
      rotate_left
      · intro w hSw; (try dsimp only at hSw); go_simp; (first | done | (with_reducible rfl))
      try simp only [Act.put, List.getElem_toArray, List.getElem_cons_succ, List.getElem_cons_zero, List.setIfInBounds_toArray, List.set_cons_zero, List.set_cons_succ]
      refine wpAnyH_take (i := 17) (v := ?_) rfl (by kernel_rfl) (by kernel_rfl) (by kernel_rfl) (fun _ _ _ h => h) (Or.inl ⟨by rfl, ?_⟩) (by assumption) ?_
      rotate_left
      · intro w hSw; (try dsimp only at hSw); go_simp; (first | done | (with_reducible rfl))
      try simp only [Act.put, List.getElem_toArray, List.getElem_cons_succ, List.getElem_cons_zero, List.setIfInBounds_toArray, List.set_cons_zero, List.set_cons_succ]
      refine wpAnyH_take (i := 18) (v := ?_) rfl (by kernel_rfl) (by kernel_rfl) (by kernel_rfl) (fun _ _ _ h => h) (Or.inl ⟨by rfl, ?_⟩) (by assumption) ?_
      rotate_left
      · intro w hSw; (try dsimp only at hSw); go_simp; (first | done | (with_reducible rfl))
      try simp only [Act.put, List.getElem_toArray, List.getElem_cons_succ, List.getElem_cons_zero, List.setIfInBounds_toArray, List.set_cons_zero, List.set_cons_succ]
      refine wpAnyH_ready (rs := [13, 19]) (by kernel_rfl) (by simp) ?_
      refine AllReadyH.cons rfl (fun K hK => ?_) (AllReadyH.cons rfl (fun K hK => ?_) AllReadyH.nil)
      · go_simp
        refine hK.out _ _ ?_ (fun hHeld => ?_)
        · trivial
        clear hK K
        try simp only [Act.put, List.getElem_toArray, List.getElem_cons_succ, List.getElem_cons_zero, List.setIfInBounds_toArray, List.set_cons_zero, List.set_cons_succ]
        refine wpAnyH_ready (rs := [19]) (by kernel_rfl) (by simp) ?_
        refine AllReadyH.cons rfl (fun K hK => ?_) AllReadyH.nil
        go_simp
        refine hK.out _ _ ?_ (fun hHeld => ?_)
        · trivial
        clear hK K
        try simp only [Act.put, List.getElem_toArray, List.getElem_cons_succ, List.getElem_cons_zero, List.setIfInBounds_toArray, List.set_cons_zero, List.set_cons_succ]
        refine wpAnyH_take (i := 20) (v := ?_) rfl (by kernel_rfl) (by kernel_rfl) (by kernel_rfl) (fun _ _ _ h => h) (Or.inl ⟨by rfl, ?_⟩) (by assumption) ?_
        rotate_left
        · intro w hSw; (try dsimp only at hSw); go_simp; (first | done | (with_reducible rfl))
        try simp only [Act.put, List.getElem_toArray, List.getElem_cons_succ, List.getElem_cons_zero, List.setIfInBounds_toArray, List.set_cons_zero, List.set_cons_succ]
        refine wpAnyH_ready (rs := [21]) (by kernel_rfl) (by simp) ?_
        refine AllReadyH.cons rfl (fun K hK => ?_) AllReadyH.nil
        go_simp
        refine hK.out _ _ ?_ (fun hHeld => ?_)
        · trivial
        clear hK K
        try simp only [Act.put, List.getElem_toArray, List.getElem_cons_succ, List.getElem_cons_zero, List.setIfInBounds_toArray, List.set_cons_zero, List.set_cons_succ]
        refine wpAnyH_take (i := 22) (v := ?_) rfl (by kernel_rfl) (by kernel_rfl) (by kernel_rfl) (fun _ _ _ h => h) (Or.inl ⟨by rfl, ?_⟩) (by assumption) ?_
        rotate_left
        · intro w hSw; (try dsimp only at hSw); go_simp; (first | done | (with_reducible rfl))
        try simp only [Act.put, List.getElem_toArray, List.getElem_cons_succ, List.getElem_cons_zero, List.setIfInBounds_toArray, List.set_cons_zero, List.set_cons_succ]
        refine wpAnyH_ready (rs := [23]) (by kernel_rfl) (by simp) ?_
        refine AllReadyH.cons rfl (fun K hK => ?_) AllReadyH.nil
        go_simp
        refine hK.out _ _ ?_ (fun hHeld => ?_)
        · trivial
        clear hK K
        try simp only [Act.put, List.getElem_toArray, List.getElem_cons_succ, List.getElem_cons_zero, List.setIfInBounds_toArray, List.set_cons_zero, List.set_cons_succ]
        refine wpAnyH_done (by kernel_rfl) ?_ _
        go_wp2_with fail
        go_roundw
        case rel => exact ⟨t + 1, by omega, by go_num, HS.out.drew⟩
        case measure => simp [intOf]; omega
      · go_simp
        refine hK.out _ _ ?_ (fun hHeld => ?_)
        · trivial
        clear hK K
        try simp only [Act.put, List.getElem_toArray, List.getElem_cons_succ, List.getElem_cons_zero, List.setIfInBounds_toArray, List.set_cons_zero, List.set_cons_succ]
        refine wpAnyH_ready (rs := [13]) (by kernel_rfl) (by simp) ?_
        refine AllReadyH.cons rfl (fun K hK => ?_) AllReadyH.nil
        go_simp
        refine hK.out _ _ ?_ (fun hHeld => ?_)
        · trivial
        clear hK K
        try simp only [Act.put, List.getElem_toArray, List.getElem_cons_succ, List.getElem_cons_zero, List.setIfInBounds_toArray, List.set_cons_zero, List.set_cons_succ]
        refine wpAnyH_take (i := 20) (v := ?_) rfl (by kernel_rfl) (by kernel_rfl) (by kernel_rfl) (fun _ _ _ h => h) (Or.inl ⟨by rfl, ?_⟩) (by assumption) ?_
        rotate_left
        · intro w hSw; (try dsimp only at hSw); go_simp; (first | done | (with_reducible rfl))
        try simp only [Act.put, List.getElem_toArray, List.getElem_cons_succ, List.getElem_cons_zero, List.setIfInBounds_toArray, List.set_cons_zero, List.set_cons_succ]
        refine wpAnyH_ready (rs := [21]) (by kernel_rfl) (by simp) ?_
        refine AllReadyH.cons rfl (fun K hK => ?_) AllReadyH.nil
        go_simp
        refine hK.out _ _ ?_ (fun hHeld => ?_)
        · trivial
        clear hK K
        try simp only [Act.put, List.getElem_toArray, List.getElem_cons_succ, List.getElem_cons_zero, List.setIfInBounds_toArray, List.set_cons_zero, List.set_cons_succ]
        refine wpAnyH_take (i := 22) (v := ?_) rfl (by kernel_rfl) (by kernel_rfl) (by kernel_rfl) (fun _ _ _ h => h) (Or.inl ⟨by rfl, ?_⟩) (by assumption) ?_
        rotate_left
        · intro w hSw; (try dsimp only at hSw); go_simp; (first | done | (with_reducible rfl))
        try simp only [Act.put, List.getElem_toArray, List.getElem_cons_succ, List.getElem_cons_zero, List.setIfInBounds_toArray, List.set_cons_zero, List.set_cons_succ]
        refine wpAnyH_ready (rs := [23]) (by kernel_rfl) (by simp) ?_
        refine AllReadyH.cons rfl (fun K hK => ?_) AllReadyH.nil
        go_simp
        refine hK.out _ _ ?_ (fun hHeld => ?_)
        · trivial
        clear hK K
        try simp only [Act.put, List.getElem_toArray, List.getElem_cons_succ, List.getElem_cons_zero, List.setIfInBounds_toArray, List.set_cons_zero, List.set_cons_succ]
        refine wpAnyH_done (by kernel_rfl) ?_ _
        go_wp2_with fail
        go_roundw
        case rel => exact ⟨t + 1, by omega, by go_num, HS.out.drew⟩
        case measure => simp [intOf]; omega
    · have et : t = k := by omega
      have HF : Hid (RowG w0 B g c n (A ++ Q ++ M ++ P ++ C) wr) := Lib.hid (by
        have e : sr A P M Q C k = A ++ Q ++ M ++ P ++ C := by
          unfold sr
          rw [List.take_of_length_le (by rw [HQ.out]; exact Nat.le_refl _), List.drop_eq_nil_of_le (by rw [HP.out]; exact Nat.le_refl _), List.take_of_length_le (by rw [HP.out]; exact Nat.le_refl _), List.drop_eq_nil_of_le (by rw [HQ.out]; exact Nat.le_refl _)]
          simp
        rw [et, e] at hr
        exact hr)
      clear hr et
      go_wp2_with fail
      go_end0
      exact ⟨rfl, HF.out⟩

end Go.Proofs.Ytjdjfjokniingaa
