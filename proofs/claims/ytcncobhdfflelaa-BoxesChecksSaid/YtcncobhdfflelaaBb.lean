/- The contracts of slices.Clone at ints and boxes.widest. -/
import Derived.Test.YtcncobhdfflelaaBa
import Derived.Test.YtcncobhdfflelaaAp2
import Derived.Lib.SliceRun
namespace Go.Proofs.Ytcncobhdfflelaa
open Go.RowKit

/-- a row in new memory is handed back -/
def OwnPost (T k n : Nat) (xs : List Value) (w : World) (e : Ending) (w' : World) : Prop := ∃ u : Sl, e = .returned (.slice u.a n u.c) ∧ w'.ownsRow w.heap.size T k (.slice u.a n u.c) n xs ∧ Below w.heap.size w w'
theorem int_one (xs : List Int) : ∀ u ∈ xs.map (Value.int .i64), u.oneCell' = true := by
  intro u hu
  obtain ⟨a, _, rfl⟩ := List.mem_map.1 hu
  rfl
theorem info3' : (Try.prog.info? 3).map (fun i => (i.zero, i.size, i.bytes)) = some (some (.int .i64 0), 1, 8) := by kernel_rfl

set_option maxRecDepth 100000 in
set_option maxHeartbeats 800000 in
theorem clone35 (xs : List Int) (A : Option Addr) (n c : Nat) (w : World) (h : Rd w w.heap.size 1 A n (xs.map (Value.int .i64))) (hn : n ≤ 1000000) :
    Calls Try.prog 35 #[.slice A n c] w (OwnPost 3 1 n (xs.map (Value.int .i64)) w) := by
  cases A with
  | none =>
    have hn0 : n = 0 := by
      rcases Nat.eq_zero_or_pos n with h0 | h0
      · exact h0
      · obtain ⟨b, off, h, _⟩ := h.2 h0; cases h
    subst hn0
    have HX : Hid (xs.map (Value.int .i64) = []) := Lib.hid (List.eq_nil_of_length_eq_zero (by simpa using h.1))
    clear h
    have hq : ∀ W, Sem.run Try.prog (binOp BinOp.eql 22 (.slice none 0 c) (.slice none 0 0)) W = .ok (.bool true) W := fun W => Lib.run_eql_slice_nil (P := Try.prog) W 22 3 none 0 c 0 0 Try.underlying22
    go_enter Try.func35, Try.ntmps35
    go_wp2
    go_ret
    refine ⟨⟨none, 0, 0⟩, rfl, ?_, Below.refl _ _⟩
    rw [HX.out]
    exact World.ownsRow_nil _ _ _ _
  | some ad =>
    have H := Lib.hid h
    clear h
    obtain ⟨i3, hi3, hz30, hz31, hz32⟩ := info_parts info3'
    have hq : ∀ W, Sem.run Try.prog (binOp BinOp.eql 22 (.slice (some ad) n c) (.slice none 0 0)) W = .ok (.bool false) W := fun W => Lib.run_eql_slice_nil (P := Try.prog) W 22 3 (some ad) n c 0 0 Try.underlying22
    go_enter Try.func35, Try.ntmps35
    go_wp2_with (at_builtin; refine wpList_append_lit _ 3 rfl (.tmp 5) (.tmp 6) 22 rfl i3 _ 1 8 Try.underlying22 hi3 hz30 hz31 hz32 rfl (by decide) _ rfl (by simp) _ _ _ _ (xs.map (Value.int .i64)) rfl H.out (Nat.le_refl _) (int_one xs) (by omega) (by omega) ?_; intro u1 v1 hr1 ho1 h1; have HO := Lib.hid ho1; have HB := Lib.hid h1; clear hr1 ho1 h1)
    go_ret
    exact ⟨u1, rfl, HO.out, HB.out⟩

namespace Bx
/-- the widest of the dimensions from k on, against the best so far -/
def wide : List (Int × Int) → Nat → Int × Int → Int × Int
  | [], _, r => r
  | p :: l, k, r => wide l (k + 1) (if r.2 < p.2 - p.1 then ((k : Int), p.2 - p.1) else r)
def widest (lo hi : List Int) : Int := (wide (lo.zip hi) 0 (-1, 0)).1
def Small (l : List Int) : Prop := ∀ x ∈ l, -9007199254740992 ≤ x ∧ x ≤ 9007199254740992
end Bx
/-- a box in memory, without its rows -/
structure BxC where
  lo : Sl
  hi : Sl
  holds : Bool
abbrev bxV (b : BxC) : Value := .agg #[.slice b.lo.a b.lo.n b.lo.c, .slice b.hi.a b.hi.n b.hi.c, .bool b.holds]

set_option linter.unusedSimpArgs false in
set_option linter.unusedVariables false in
set_option maxRecDepth 100000 in
set_option maxHeartbeats 3200000 in
theorem widest57 (b : BxC) (lo hi : List Int) (w : World) (hx : Rd w w.heap.size 1 b.lo.a b.lo.n (lo.map (Value.int .i64))) (hy : Rd w w.heap.size 1 b.hi.a b.hi.n (hi.map (Value.int .i64))) (hnm : b.lo.n = b.hi.n) (hn : b.lo.n ≤ 1000000) (h1 : Bx.Small lo) (h2 : Bx.Small hi) :
    Calls Try.prog 57 #[bxV b] w fun e w' => e = .returned (.int .i64 (Bx.widest lo hi)) ∧ Below w.heap.size w w' := by
  have HX := Lib.hid hx
  have HY := Lib.hid hy
  have HL := Lib.hid (show lo.length = b.lo.n by simpa using hx.1)
  have HM := Lib.hid (show hi.length = b.lo.n by rw [hnm]; simpa using hy.1)
  have H1 := Lib.hid h1
  have H2 := Lib.hid h2
  have hlm : b.lo.n ≤ b.hi.n := by omega
  clear hx hy h1 h2 hnm
  go_enter Try.func57, Try.ntmps57
  go_wp2_with fail
  go_loopw [3, 4, 10] (fun r v i W => ∃ (k : Nat) (q : Int × Int), k ≤ b.lo.n ∧ i = .int .i64 k ∧ r = .int .i64 q.1 ∧ v = .int .i64 q.2 ∧ 0 ≤ q.2 ∧ q.2 ≤ 18014398509481984 ∧ Hid (Bx.wide ((lo.zip hi).drop k) k q = Bx.wide (lo.zip hi) 0 (-1, 0)) ∧ Hid (Below w.heap.size w W) ∧ W.cell? ⟨w.heap.size, 0, none⟩ = some (.slice b.lo.a b.lo.n b.lo.c) ∧ W.cell? ⟨w.heap.size, 1, none⟩ = some (.slice b.hi.a b.hi.n b.hi.c)) (fun _ _ i _ => b.lo.n - (intOf i).toNat)
  case atStart => exact ⟨0, (-1, 0), Nat.zero_le _, rfl, rfl, rfl, by decide, by decide, Lib.hid rfl, Lib.hid ((Below.refl _ _).alloc (Nat.le_refl _) _), by simp [go_sem], by simp [go_sem]⟩
  case round =>
    obtain ⟨k, ⟨q1, q2⟩, hk, rfl, rfl, rfl, hq1, hq2, HK, HB, c0, c1⟩ := hrel
    dsimp only at hq1 hq2
    by_cases hlt : k < b.lo.n
    · obtain ⟨b1, o1, x, ha, hix, hcx, _, _⟩ := rd_int (HX.out.below HB.out (Nat.le_refl _)) b.lo.c hlt
      obtain ⟨b2, o2, y, hb, hiy, hcy, _, _⟩ := rd_int (HY.out.below HB.out (Nat.le_refl _)) b.hi.c (show k < b.hi.n by omega)
      have HZ := Lib.hid (Bx.zip_at ha hb)
      have bx := H1.out x (List.mem_of_getElem? ha)
      have by' := H2.out y (List.mem_of_getElem? hb)
      clear ha hb
      obtain ⟨d, hd⟩ : ∃ d, d = y - x := ⟨_, rfl⟩
      have hw : IntKind.i64.wrap (y - x) = d := by rw [IntWalk.i64_left, IntWalk.wrap64_in _ (by omega)]; exact hd.symm
      have hw2 : wrap64 (y - x) = d := by rw [IntWalk.wrap64_in _ (by omega)]; exact hd.symm
      have hd2 : d ≤ 18014398509481984 := by omega
      have HD := Lib.hid hd
      clear hd
      by_cases g : q2 < d
      · have HF : Hid (Bx.wide ((lo.zip hi).drop (k + 1)) (k + 1) ((k : Int), d) = Bx.wide (lo.zip hi) 0 (-1, 0)) := Lib.hid (by rw [← HK.out, HZ.out, Bx.wide, ← HD.out, if_pos g])
        go_wp2_with fail
        go_quiet (fail)
        go_wp2_with fail
        go_roundw
        case rel => exact ⟨k + 1, ((k : Int), d), by omega, by go_num, rfl, rfl, by show 0 ≤ d; omega, hd2, HF, Lib.hid (below_drewN HB.out _), c0, c1⟩
        case measure => simp [intOf]; omega
      · have HF : Hid (Bx.wide ((lo.zip hi).drop (k + 1)) (k + 1) (q1, q2) = Bx.wide (lo.zip hi) 0 (-1, 0)) := Lib.hid (by rw [← HK.out, HZ.out, Bx.wide, ← HD.out, if_neg g])
        go_wp2_with fail
        go_quiet (fail)
        go_wp2_with fail
        go_roundw
        case rel => exact ⟨k + 1, (q1, q2), by omega, by go_num, rfl, rfl, hq1, hq2, HF, Lib.hid (below_drewN HB.out _), c0, c1⟩
        case measure => simp [intOf]; omega
    · have HF : Hid (Bx.widest lo hi = q1) := Lib.hid (by
        unfold Bx.widest
        rw [← HK.out, List.drop_eq_nil_of_le (by rw [List.length_zip, HL.out, HM.out]; omega)]
        rfl)
      go_wp2_with fail
      go_ret
      exact ⟨ret_int HF.out.symm, HB.out⟩
end Go.Proofs.Ytcncobhdfflelaa
