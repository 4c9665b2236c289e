/- The contract of the reference's Bounds. -/
import Derived.Test.YtcncobhdfflelaaBc
namespace Go.Proofs.Ytcncobhdfflelaa
open Go.RowKit

theorem prod_bound {k a : Int} (hk : -1000 ≤ k ∧ k ≤ 1000) (ha : -1000000 ≤ a ∧ a ≤ 1000000) : -1000000000 ≤ k * a ∧ k * a ≤ 1000000000 := by
  have h1 : k.natAbs ≤ 1000 := by omega
  have h2 : a.natAbs ≤ 1000000 := by omega
  have h3 : (k * a).natAbs ≤ 1000 * 1000000 := by rw [Int.natAbs_mul]; exact Nat.mul_le_mul h1 h2
  omega
namespace Bx
/-- the least and the greatest value of a linear condition's left side -/
def bounds : List Int → List Int → List Int → Int × Int → Int × Int
  | a :: lo, b :: hi, k :: cs, r => bounds lo hi cs (r.1 + min (k * a) (k * b), r.2 + max (k * a) (k * b))
  | _, _, _, r => r
theorem bounds_at {lo hi cs : List Int} {k : Nat} {a b c : Int} (r : Int × Int) (ha : lo[k]? = some a) (hb : hi[k]? = some b) (hc : cs[k]? = some c) :
    bounds (lo.drop k) (hi.drop k) (cs.drop k) r = bounds (lo.drop (k + 1)) (hi.drop (k + 1)) (cs.drop (k + 1)) (r.1 + min (c * a) (c * b), r.2 + max (c * a) (c * b)) := by
  obtain ⟨h1, rfl⟩ := List.getElem?_eq_some_iff.1 ha
  obtain ⟨h2, rfl⟩ := List.getElem?_eq_some_iff.1 hb
  obtain ⟨h3, rfl⟩ := List.getElem?_eq_some_iff.1 hc
  rw [List.drop_eq_getElem_cons h1, List.drop_eq_getElem_cons h2, List.drop_eq_getElem_cons h3, bounds]
theorem bounds_end {lo hi cs : List Int} {k : Nat} (r : Int × Int) (h : lo.length ≤ k ∨ hi.length ≤ k ∨ cs.length ≤ k) : bounds (lo.drop k) (hi.drop k) (cs.drop k) r = r := by
  rcases h with h | h | h
  · rw [List.drop_eq_nil_of_le h]; cases hi.drop k <;> cases cs.drop k <;> rfl
  · rw [List.drop_eq_nil_of_le h]; cases lo.drop k <;> cases cs.drop k <;> rfl
  · rw [List.drop_eq_nil_of_le h]; cases lo.drop k <;> cases hi.drop k <;> rfl
def Dom (l : List Int) : Prop := ∀ x ∈ l, -1000000 ≤ x ∧ x ≤ 1000000
def Cof (l : List Int) : Prop := ∀ x ∈ l, -1000 ≤ x ∧ x ≤ 1000
end Bx
/-- a linear condition in memory, without its row -/
structure LnC where
  cf : Sl
  bd : Int
abbrev lnV (c : LnC) : Value := .agg #[.slice c.cf.a c.cf.n c.cf.c, .int .i64 c.bd]
theorem ret_two {a b : Int} {r : Int × Int} (h : r = (a, b)) : Ending.returned (.tuple #[.int .i64 a, .int .i64 b]) = .returned (.tuple #[.int .i64 r.1, .int .i64 r.2]) := by rw [h]

set_option linter.unusedSimpArgs false in
set_option linter.unusedVariables false in
set_option maxRecDepth 100000 in
set_option maxHeartbeats 3200000 in
theorem bounds38 (e : LnC) (A B : Option Addr) (n m c d : Nat) (lo hi cs : List Int) (w : World) (hx : Rd w w.heap.size 1 A n (lo.map (Value.int .i64))) (hy : Rd w w.heap.size 1 B m (hi.map (Value.int .i64))) (hz : Rd w w.heap.size 1 e.cf.a e.cf.n (cs.map (Value.int .i64)))
    (hn : n ≤ 1000) (h1 : Bx.Dom lo) (h2 : Bx.Dom hi) (h3 : Bx.Cof cs) :
    Calls Try.prog 38 #[lnV e, .slice A n c, .slice B m d] w fun x w' => x = .returned (.tuple #[.int .i64 (Bx.bounds lo hi cs (0, 0)).1, .int .i64 (Bx.bounds lo hi cs (0, 0)).2]) ∧ Below w.heap.size w w' := by
  have HX := Lib.hid hx
  have HY := Lib.hid hy
  have HC := Lib.hid hz
  have HL := Lib.hid (show lo.length = n by simpa using hx.1)
  have HM := Lib.hid (show hi.length = m by simpa using hy.1)
  have HN := Lib.hid (show cs.length = e.cf.n by simpa using hz.1)
  have H1 := Lib.hid h1
  have H2 := Lib.hid h2
  have H3 := Lib.hid h3
  clear hx hy hz h1 h2 h3
  go_enter Try.func38, Try.ntmps38
  go_wp2_with fail
  go_loopw [8, 9, 10] (fun r v i W => ∃ (k : Nat) (q1 q2 : Int), k ≤ n ∧ i = .int .i64 k ∧ r = .int .i64 q1 ∧ v = .int .i64 q2 ∧ -1000000000 * k ≤ q1 ∧ q1 ≤ 1000000000 * k ∧ -1000000000 * k ≤ q2 ∧ q2 ≤ 1000000000 * k ∧ Hid (Bx.bounds (lo.drop k) (hi.drop k) (cs.drop k) (q1, q2) = Bx.bounds lo hi cs (0, 0)) ∧ Hid (Below w.heap.size w W) ∧ W.cell? ⟨w.heap.size, 0, none⟩ = some (.slice e.cf.a e.cf.n e.cf.c)) (fun _ _ i _ => n - (intOf i).toNat)
  case atStart => exact ⟨0, 0, 0, Nat.zero_le _, rfl, rfl, rfl, by decide, by decide, by decide, by decide, Lib.hid rfl, Lib.hid ((Below.refl _ _).alloc (Nat.le_refl _) _), by simp [go_sem]⟩
  case round =>
    obtain ⟨k, q1, q2, hk, rfl, rfl, rfl, a1, a2, a3, a4, HK, HB, c0⟩ := hrel
    have stop : ∀ h : n ≤ k ∨ m ≤ k ∨ e.cf.n ≤ k, Bx.bounds lo hi cs (0, 0) = (q1, q2) := fun h => by
      rw [← HK.out, Bx.bounds_end _ (by rw [HL.out, HM.out, HN.out]; exact h)]
    have ST := Lib.hid stop
    clear stop
    by_cases g1 : k < n
    · by_cases g2 : k < m
      · by_cases g3 : k < e.cf.n
        · obtain ⟨b1, o1, x, ha, hix, hcx, _, _⟩ := rd_int (HX.out.below HB.out (Nat.le_refl _)) c g1
          obtain ⟨b2, o2, y, hb, hiy, hcy, _, _⟩ := rd_int (HY.out.below HB.out (Nat.le_refl _)) d g2
          obtain ⟨b3, o3, z, hc, hiz, hcz, _, _⟩ := rd_int (HC.out.below HB.out (Nat.le_refl _)) e.cf.c g3
          have HZ := Lib.hid (Bx.bounds_at (q1, q2) ha hb hc)
          have px := prod_bound (H3.out z (List.mem_of_getElem? hc)) (H1.out x (List.mem_of_getElem? ha))
          have py := prod_bound (H3.out z (List.mem_of_getElem? hc)) (H2.out y (List.mem_of_getElem? hb))
          clear ha hb hc
          obtain ⟨p, hp⟩ : ∃ p, z * x = p := ⟨_, rfl⟩
          obtain ⟨q, hq⟩ : ∃ q, z * y = q := ⟨_, rfl⟩
          rw [hp] at px
          rw [hq] at py
          rw [hp, hq] at HZ
          have w1 : IntKind.i64.wrap (z * x) = p := by rw [hp, IntWalk.i64_left, IntWalk.wrap64_in _ (by omega)]
          have w2 : IntKind.i64.wrap (z * y) = q := by rw [hq, IntWalk.i64_left, IntWalk.wrap64_in _ (by omega)]
          clear hp hq
          by_cases hlt : p < q
          · have g4 : p ≤ q := by omega
            have g5 : ¬ q < p := by omega
            have g6 : ¬ q ≤ p := by omega
            rw [show min p q = p by omega, show max p q = q by omega] at HZ
            have w3 : IntKind.i64.wrap (q1 + p) = q1 + p := by rw [IntWalk.i64_left, IntWalk.wrap64_in _ (by omega)]
            have w4 : IntKind.i64.wrap (q2 + q) = q2 + q := by rw [IntWalk.i64_left, IntWalk.wrap64_in _ (by omega)]
            have m1 : -1000000000 * (k + 1 : Int) ≤ q1 + p ∧ q1 + p ≤ 1000000000 * (k + 1 : Int) := by omega
            have m2 : -1000000000 * (k + 1 : Int) ≤ q2 + q ∧ q2 + q ≤ 1000000000 * (k + 1 : Int) := by omega
            have M1 := Lib.hid m1
            have M2 := Lib.hid m2
            clear m1 m2
            go_wp2_with fail
            go_quiet (fail)
            go_wp2_with fail
            go_quiet (fail)
            go_wp2_with fail
            go_roundw
            case rel => exact ⟨k + 1, q1 + p, q2 + q, by omega, by go_num, rfl, rfl, by have := M1.out; omega, by have := M1.out; omega, by have := M2.out; omega, by have := M2.out; omega, Lib.hid (HZ.out.symm.trans HK.out), Lib.hid (below_drewN HB.out _), c0⟩
            case measure => simp [intOf]; omega
          · by_cases hgt : q < p
            · have g4 : q ≤ p := by omega
              have g6 : ¬ p ≤ q := by omega
              rw [show min p q = q by omega, show max p q = p by omega] at HZ
              have w3 : IntKind.i64.wrap (q1 + q) = q1 + q := by rw [IntWalk.i64_left, IntWalk.wrap64_in _ (by omega)]
              have w4 : IntKind.i64.wrap (q2 + p) = q2 + p := by rw [IntWalk.i64_left, IntWalk.wrap64_in _ (by omega)]
              have m1 : -1000000000 * (k + 1 : Int) ≤ q1 + q ∧ q1 + q ≤ 1000000000 * (k + 1 : Int) := by omega
              have m2 : -1000000000 * (k + 1 : Int) ≤ q2 + p ∧ q2 + p ≤ 1000000000 * (k + 1 : Int) := by omega
              have M1 := Lib.hid m1
              have M2 := Lib.hid m2
              clear m1 m2
              go_wp2_with fail
              go_quiet (fail)
              go_wp2_with fail
              go_quiet (fail)
              go_wp2_with fail
              go_roundw
              case rel => exact ⟨k + 1, q1 + q, q2 + p, by omega, by go_num, rfl, rfl, by have := M1.out; omega, by have := M1.out; omega, by have := M2.out; omega, by have := M2.out; omega, Lib.hid (HZ.out.symm.trans HK.out), Lib.hid (below_drewN HB.out _), c0⟩
              case measure => simp [intOf]; omega
            · obtain rfl : p = q := by omega
              rw [show min p p = p by omega, show max p p = p by omega] at HZ
              have w3 : IntKind.i64.wrap (q1 + p) = q1 + p := by rw [IntWalk.i64_left, IntWalk.wrap64_in _ (by omega)]
              have w4 : IntKind.i64.wrap (q2 + p) = q2 + p := by rw [IntWalk.i64_left, IntWalk.wrap64_in _ (by omega)]
              have m1 : -1000000000 * (k + 1 : Int) ≤ q1 + p ∧ q1 + p ≤ 1000000000 * (k + 1 : Int) := by omega
              have m2 : -1000000000 * (k + 1 : Int) ≤ q2 + p ∧ q2 + p ≤ 1000000000 * (k + 1 : Int) := by omega
              have M1 := Lib.hid m1
              have M2 := Lib.hid m2
              clear m1 m2
              go_wp2_with fail
              go_quiet (fail)
              go_wp2_with fail
              go_quiet (fail)
              go_wp2_with fail
              go_roundw
              case rel => exact ⟨k + 1, q1 + p, q2 + p, by omega, by go_num, rfl, rfl, by have := M1.out; omega, by have := M1.out; omega, by have := M2.out; omega, by have := M2.out; omega, Lib.hid (HZ.out.symm.trans HK.out), Lib.hid (below_drewN HB.out _), c0⟩
              case measure => simp [intOf]; omega
        · have HF := Lib.hid (ST.out (.inr (.inr (by omega))))
          go_wp2_with fail
          go_ret2
          exact ⟨ret_two HF.out, HB.out⟩
      · have HF := Lib.hid (ST.out (.inr (.inl (by omega))))
        go_wp2_with fail
        go_ret2
        exact ⟨ret_two HF.out, HB.out⟩
    · have HF := Lib.hid (ST.out (.inl (by omega)))
      go_wp2_with fail
      go_ret2
      exact ⟨ret_two HF.out, HB.out⟩
end Go.Proofs.Ytcncobhdfflelaa
