/- The contract of the law's value: the left side of a linear condition at a point. -/
import Derived.Test.YtcncobhdfflelaaId
namespace Go.Proofs.Ytcncobhdfflelaa
open Go.RowKit

set_option linter.unusedSimpArgs false in
set_option linter.unusedVariables false in
set_option maxRecDepth 100000 in
set_option maxHeartbeats 3200000 in
theorem value27 (e : LnC) (A : Option Addr) (n c : Nat) (p cs : List Int) (w : World) (hx : Rd w w.heap.size 1 A n (ints p)) (hz : Rd w w.heap.size 1 e.cf.a e.cf.n (ints cs))
    (hn : n ≤ 1000) (h1 : Bx.Dom p) (h3 : Bx.Cof cs) :
    Calls Try.prog 27 #[lnV e, .slice A n c] w fun x w' => x = .returned (.int .i64 (Bx.valF cs p 0)) ∧ Below w.heap.size w w' := by
  have HX := Lib.hid hx
  have HC := Lib.hid hz
  have HL := Lib.hid (show p.length = n by simpa using hx.1)
  have HN := Lib.hid (show cs.length = e.cf.n by simpa using hz.1)
  have H1 := Lib.hid h1
  have H3 := Lib.hid h3
  clear hx hz h1 h3
  go_enter Try.func27, Try.ntmps27
  go_wp2_with fail
  go_loopw [5, 6] (fun r i W => ∃ (k : Nat) (q : Int), k ≤ n ∧ i = .int .i64 k ∧ r = .int .i64 q ∧ -1000000000 * k ≤ q ∧ q ≤ 1000000000 * k ∧ Hid (Bx.valF (cs.drop k) (p.drop k) q = Bx.valF cs p 0) ∧ Hid (Below w.heap.size w W) ∧ W.cell? ⟨w.heap.size, 0, none⟩ = some (.slice e.cf.a e.cf.n e.cf.c)) (fun _ i _ => n - (intOf i).toNat)
  case atStart => exact ⟨0, 0, Nat.zero_le _, rfl, rfl, by decide, by decide, Lib.hid rfl, Lib.hid ((Below.refl _ _).alloc (Nat.le_refl _) _), by simp [go_sem]⟩
  case round =>
    obtain ⟨k, q, hk, rfl, rfl, a1, a2, HK, HB, c0⟩ := hrel
    by_cases g1 : k < n
    · by_cases g3 : k < e.cf.n
      · obtain ⟨b1, o1, x, ha, hix, hcx, _, _⟩ := rd_int (HX.out.below HB.out (Nat.le_refl _)) c g1
        obtain ⟨b3, o3, z, hc, hiz, hcz, _, _⟩ := rd_int (HC.out.below HB.out (Nat.le_refl _)) e.cf.c g3
        have HZ := Lib.hid (Bx.valF_at q hc ha)
        have px := prod_bound (H3.out z (List.mem_of_getElem? hc)) (H1.out x (List.mem_of_getElem? ha))
        clear ha hc
        obtain ⟨t, ht⟩ : ∃ t, z * x = t := ⟨_, rfl⟩
        rw [ht] at px
        rw [ht] at HZ
        have w1 : IntKind.i64.wrap (z * x) = t := by rw [ht, IntWalk.i64_left, IntWalk.wrap64_in _ (by omega)]
        clear ht
        have w3 : IntKind.i64.wrap (q + t) = q + t := by rw [IntWalk.i64_left, IntWalk.wrap64_in _ (by omega)]
        have M1 : Hid (-1000000000 * (k + 1 : Int) ≤ q + t ∧ q + t ≤ 1000000000 * (k + 1 : Int)) := Lib.hid (by omega)
        go_wp2_with fail
        go_quiet (fail)
        go_wp2_with fail
        go_roundw
        case rel => exact ⟨k + 1, q + t, by omega, by go_num, rfl, by have := M1.out; omega, by have := M1.out; omega, Lib.hid (HZ.out.symm.trans HK.out), Lib.hid (below_drewN HB.out _), c0⟩
        case measure => simp [intOf]; omega
      · have HF : Hid (Bx.valF cs p 0 = q) := Lib.hid (by rw [← HK.out, Bx.valF_end _ (.inl (by rw [HN.out]; omega))])
        go_wp2_with fail
        go_ret
        exact ⟨ret_int HF.out.symm, HB.out⟩
    · have HF : Hid (Bx.valF cs p 0 = q) := Lib.hid (by rw [← HK.out, Bx.valF_end _ (.inr (by rw [HL.out]; omega))])
      go_wp2_with fail
      go_ret
      exact ⟨ret_int HF.out.symm, HB.out⟩
end Go.Proofs.Ytcncobhdfflelaa
