/- The walk of MailPaths. -/
import Derived.Test.YtjdjfjokniingaaVf
import Derived.Test.YtjdjfjokniingaaPh
namespace Go.Proofs.Ytjdjfjokniingaa
open Go.RowKit

set_option linter.unusedSimpArgs false in
set_option linter.unusedVariables false in
set_option maxRecDepth 100000 in
set_option maxHeartbeats 16000000 in
theorem paths_walk (a b : ByteArray) (w : World) (ha : a.size ≤ maxLen) (hb : b.size ≤ maxLen) :
    Calls Try.prog 7 #[.string a, .string b] w fun e w' => e = .returned (.bool true) ∧ Below w.heap.size w w' := by
  have MA := Lib.hid ha
  have MB := Lib.hid hb
  clear ha hb
  go_enter Try.func7, Try.ntmps7
  go_wp2_with fail
  refine (small27 w).mono ?_
  rintro e w1 ⟨rfl, h1⟩
  have HB := Lib.hid h1
  clear h1
  cases ka : decide ((300 : Int) < (a.size : Int)) with
  | true =>
    go_wp2_with fail
    go_ret
    exact ⟨rfl, HB.out⟩
  | false =>
  cases kb : decide ((300 : Int) < (b.size : Int)) with
  | true =>
    go_wp2_with fail
    go_ret
    exact ⟨rfl, HB.out⟩
  | false =>
  have HA2 : Hid (a.size ≤ 1000000) := Lib.hid (by have := of_decide_eq_false ka; omega)
  have HB2 : Hid (b.size ≤ 1000000) := Lib.hid (by have := of_decide_eq_false kb; omega)
  obtain ⟨va, hva⟩ : ∃ x, (Ml.splitP a).isSome = x := ⟨_, rfl⟩
  obtain ⟨lab, hlab⟩ : ∃ x, Ml.lessP a b = x := ⟨_, rfl⟩
  have C1 := Lib.hid (fun W => valid28 a W MA.out)
  have C2 := Lib.hid (fun W => valid29 a W HA2.out)
  have C3 := Lib.hid (fun W => less30 a b W MA.out MB.out)
  have C4 := Lib.hid (fun W => less31 a b W HA2.out HB2.out)
  rw [hva] at C1 C2
  rw [hlab] at C3 C4
  clear hva hlab
  have q1 : (va == va) = true := by simp
  have q2 : (lab == lab) = true := by simp
  go_wp2_with fail
  refine (C1.out _).mono ?_
  rintro e w2 ⟨rfl, h1⟩
  replace HB := Lib.hid (HB.out.trans (h1.mono HB.out.size))
  clear h1
  go_wp2_with fail
  refine (C2.out _).mono ?_
  rintro e w3 ⟨rfl, h1⟩
  replace HB := Lib.hid (HB.out.trans (h1.mono HB.out.size))
  clear h1
  go_wp2_with fail
  refine (C3.out _).mono ?_
  rintro e w4 ⟨rfl, h1⟩
  replace HB := Lib.hid (HB.out.trans (h1.mono HB.out.size))
  clear h1
  go_wp2_with fail
  refine (C4.out _).mono ?_
  rintro e w5 ⟨rfl, h1⟩
  replace HB := Lib.hid (HB.out.trans (h1.mono HB.out.size))
  clear h1
  go_wp2_with fail
  go_ret
  exact ⟨rfl, HB.out⟩
end Go.Proofs.Ytjdjfjokniingaa
