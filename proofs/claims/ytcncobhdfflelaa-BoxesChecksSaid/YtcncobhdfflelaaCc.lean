/- The contracts of slices.Clone at boxes and boxes.meet. -/
import Derived.Test.YtcncobhdfflelaaCb
import Derived.Test.YtcncobhdfflelaaSc
namespace Go.Proofs.Ytcncobhdfflelaa
open Go.RowKit

set_option maxRecDepth 100000 in
set_option maxHeartbeats 800000 in
theorem clone60 (xs : List Value) (A : Option Addr) (n c : Nat) (w : World) (h : Rd w w.heap.size 3 A n xs) (h1 : ∀ u ∈ xs, u.oneCell' = true) (hn : n ≤ 1000000) :
    Calls Try.prog 60 #[.slice A n c] w (OwnPost 44 3 n xs w) := by
  cases A with
  | none =>
    have hn0 : n = 0 := by
      rcases Nat.eq_zero_or_pos n with h0 | h0
      · exact h0
      · obtain ⟨b, off, h, _⟩ := h.2 h0; cases h
    subst hn0
    have HX : Hid (xs = []) := Lib.hid (List.eq_nil_of_length_eq_zero (by simpa using h.1))
    clear h
    have hq : ∀ W, Sem.run Try.prog (binOp BinOp.eql 26 (.slice none 0 c) (.slice none 0 0)) W = .ok (.bool true) W := fun W => Lib.run_eql_slice_nil (P := Try.prog) W 26 44 none 0 c 0 0 Try.underlying26
    go_enter Try.func60, Try.ntmps60
    go_wp2
    go_ret
    refine ⟨⟨none, 0, 0⟩, rfl, ?_, Below.refl _ _⟩
    rw [HX.out]
    exact World.ownsRow_nil _ _ _ _
  | some ad =>
    have H := Lib.hid h
    have H1 := Lib.hid h1
    clear h h1
    obtain ⟨i3, hi3, hz30, hz31, hz32⟩ := info_parts info44
    have hq : ∀ W, Sem.run Try.prog (binOp BinOp.eql 26 (.slice (some ad) n c) (.slice none 0 0)) W = .ok (.bool false) W := fun W => Lib.run_eql_slice_nil (P := Try.prog) W 26 44 (some ad) n c 0 0 Try.underlying26
    go_enter Try.func60, Try.ntmps60
    go_wp2_with (at_builtin; refine wpList_append_lit _ 44 rfl (.tmp 5) (.tmp 6) 26 rfl i3 _ 3 56 Try.underlying26 hi3 hz30 hz31 hz32 rfl (by decide) _ rfl (by simp) _ _ _ _ xs rfl H.out (Nat.le_refl _) H1.out (by omega) (by omega) ?_; intro u1 v1 hr1 ho1 h1; have HO := Lib.hid ho1; have HB := Lib.hid h1; clear hr1 ho1 h1)
    go_ret
    exact ⟨u1, rfl, HO.out, HB.out⟩
namespace Bx
/-- whether two boxes meet, dimension by dimension -/
def meet : List Int → List Int → List Int → List Int → Bool
  | a :: al, b :: ah, c :: bl, d :: bh => !(decide (b < c)) && !(decide (d < a)) && meet al ah bl bh
  | _, _, _, _ => true
theorem meet_at {al ah bl bh : List Int} {k : Nat} {a b c d : Int} (h1 : al[k]? = some a) (h2 : ah[k]? = some b) (h3 : bl[k]? = some c) (h4 : bh[k]? = some d) :
    meet (al.drop k) (ah.drop k) (bl.drop k) (bh.drop k) = (!(decide (b < c)) && !(decide (d < a)) && meet (al.drop (k + 1)) (ah.drop (k + 1)) (bl.drop (k + 1)) (bh.drop (k + 1))) := by
  obtain ⟨e1, rfl⟩ := List.getElem?_eq_some_iff.1 h1
  obtain ⟨e2, rfl⟩ := List.getElem?_eq_some_iff.1 h2
  obtain ⟨e3, rfl⟩ := List.getElem?_eq_some_iff.1 h3
  obtain ⟨e4, rfl⟩ := List.getElem?_eq_some_iff.1 h4
  rw [List.drop_eq_getElem_cons e1, List.drop_eq_getElem_cons e2, List.drop_eq_getElem_cons e3, List.drop_eq_getElem_cons e4, meet]
theorem meet_end {al ah bl bh : List Int} {k : Nat} (h : al.length ≤ k) : meet (al.drop k) (ah.drop k) (bl.drop k) (bh.drop k) = true := by
  rw [List.drop_eq_nil_of_le h]
  rfl
end Bx

set_option linter.unusedSimpArgs false in
set_option linter.unusedVariables false in
set_option maxRecDepth 100000 in
set_option maxHeartbeats 3200000 in
theorem meet64 (x y : BxC) (al ah bl bh : List Int) (n : Nat) (w : World) (h1 : Rd w w.heap.size 1 x.lo.a x.lo.n (ints al)) (h2 : Rd w w.heap.size 1 x.hi.a x.hi.n (ints ah)) (h3 : Rd w w.heap.size 1 y.lo.a y.lo.n (ints bl)) (h4 : Rd w w.heap.size 1 y.hi.a y.hi.n (ints bh))
    (n1 : x.lo.n = n) (n2 : x.hi.n = n) (n3 : y.lo.n = n) (n4 : y.hi.n = n) (hn : n ≤ 1000000) :
    Calls Try.prog 64 #[bxV x, bxV y] w fun e w' => e = .returned (.bool (Bx.meet al ah bl bh)) ∧ Below w.heap.size w w' := by
  have H1 := Lib.hid h1
  have H2 := Lib.hid h2
  have H3 := Lib.hid h3
  have H4 := Lib.hid h4
  have HL := Lib.hid (show al.length = n by rw [← n1]; simpa using h1.1)
  have l1 : n ≤ x.lo.n := by omega
  have l1' : x.lo.n ≤ n := by omega
  have l2 : n ≤ x.hi.n := by omega
  have l3 : n ≤ y.lo.n := by omega
  have l4 : n ≤ y.hi.n := by omega
  clear h1 h2 h3 h4 n1 n2 n3 n4
  go_enter Try.func64, Try.ntmps64
  go_wp2_with fail
  go_loopw [9] (fun i W => ∃ k : Nat, k ≤ x.lo.n ∧ i = .int .i64 k ∧ Hid (Bx.meet (al.drop k) (ah.drop k) (bl.drop k) (bh.drop k) = Bx.meet al ah bl bh) ∧ Hid (Below (w.heap.size + 2) ((w.alloc (.cells #[.slice x.lo.a x.lo.n x.lo.c, .slice x.hi.a x.hi.n x.hi.c, .bool x.holds] 44)).alloc (.cells #[.slice y.lo.a y.lo.n y.lo.c, .slice y.hi.a y.hi.n y.hi.c, .bool y.holds] 44)) W)) (fun i _ => x.lo.n - (intOf i).toNat)
  case atStart => exact ⟨0, Nat.zero_le _, rfl, Lib.hid rfl, Lib.hid (Below.refl _ _)⟩
  case round =>
    obtain ⟨k, hk, rfl, HK, HB⟩ := hrel
    have HBW : Hid (Below w.heap.size w wr) := Lib.hid ((((Below.refl _ _).alloc (Nat.le_refl _) _).alloc (by simp) _).trans (HB.out.mono (by omega)))
    by_cases hlt : k < x.lo.n
    · obtain ⟨b1, o1, a, e1, ix1, c1, _, _⟩ := rd_int (H1.out.below HBW.out (Nat.le_refl _)) x.lo.c hlt
      obtain ⟨b2, o2, b, e2, ix2, c2, _, _⟩ := rd_int (H2.out.below HBW.out (Nat.le_refl _)) x.hi.c (show k < x.hi.n by omega)
      obtain ⟨b3, o3, c, e3, ix3, c3, _, _⟩ := rd_int (H3.out.below HBW.out (Nat.le_refl _)) y.lo.c (show k < y.lo.n by omega)
      obtain ⟨b4, o4, d, e4, ix4, c4, _, _⟩ := rd_int (H4.out.below HBW.out (Nat.le_refl _)) y.hi.c (show k < y.hi.n by omega)
      have HS := Lib.hid (Bx.meet_at e1 e2 e3 e4)
      have x0 : wr.cell? ⟨w.heap.size, 0, none⟩ = some (.slice x.lo.a x.lo.n x.lo.c) := (HB.out.cell (p := ⟨w.heap.size, 0, none⟩) (by show w.heap.size < w.heap.size + 2; omega)).trans (by simp [go_sem])
      have x1 : wr.cell? ⟨w.heap.size, 1, none⟩ = some (.slice x.hi.a x.hi.n x.hi.c) := (HB.out.cell (p := ⟨w.heap.size, 1, none⟩) (by show w.heap.size < w.heap.size + 2; omega)).trans (by simp [go_sem])
      have y0 : wr.cell? ⟨w.heap.size + 1, 0, none⟩ = some (.slice y.lo.a y.lo.n y.lo.c) := (HB.out.cell (p := ⟨w.heap.size + 1, 0, none⟩) (by show w.heap.size + 1 < w.heap.size + 2; omega)).trans (by simp [go_sem])
      have y1 : wr.cell? ⟨w.heap.size + 1, 1, none⟩ = some (.slice y.hi.a y.hi.n y.hi.c) := (HB.out.cell (p := ⟨w.heap.size + 1, 1, none⟩) (by show w.heap.size + 1 < w.heap.size + 2; omega)).trans (by simp [go_sem])
      clear e1 e2 e3 e4
      by_cases q1 : b < c
      · have HF : Hid (Bx.meet al ah bl bh = false) := Lib.hid (by rw [← HK.out, HS.out]; simp [q1])
        go_wp2_with fail
        go_quiet (fail)
        go_wp2_with fail
        go_ret
        exact ⟨ret_bool HF.out.symm, below_drewN HBW.out _⟩
      · have t3 : decide (b < c) = false := by simpa using q1
        by_cases q2 : d < a
        · have HF : Hid (Bx.meet al ah bl bh = false) := Lib.hid (by rw [← HK.out, HS.out]; simp [q2])
          go_wp2_with fail
          go_quiet (fail)
          go_wp2_with fail
          go_ret
          exact ⟨ret_bool HF.out.symm, below_drewN HBW.out _⟩
        · have t4 : decide (d < a) = false := by simpa using q2
          have HF : Hid (Bx.meet (al.drop (k + 1)) (ah.drop (k + 1)) (bl.drop (k + 1)) (bh.drop (k + 1)) = Bx.meet al ah bl bh) := Lib.hid (by rw [← HK.out, HS.out]; simp [q1, q2])
          go_wp2_with fail
          go_quiet (fail)
          go_wp2_with fail
          go_roundw
          case rel => exact ⟨k + 1, by omega, by go_num, HF, Lib.hid (below_drewN HB.out _)⟩
          case measure => simp [intOf]; omega
    · have HF : Hid (Bx.meet al ah bl bh = true) := Lib.hid (by rw [← HK.out, Bx.meet_end (by rw [HL.out]; omega)])
      go_wp2_with fail
      go_ret
      exact ⟨ret_bool HF.out.symm, HBW.out⟩
end Go.Proofs.Ytcncobhdfflelaa
