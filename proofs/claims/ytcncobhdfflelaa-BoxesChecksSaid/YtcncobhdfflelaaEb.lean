/- The contract of boxes.Count. -/
import Derived.Test.YtcncobhdfflelaaEa
import Derived.Test.YtcncobhdfflelaaTd
namespace Go.Proofs.Ytcncobhdfflelaa
open Go.RowKit

namespace Bx
/-- the points of the boxes that hold, at most 2^53 -/
def countF : List Box → Int → Int
  | [], t => t
  | b :: l, t => countF l (if b.2.2 = true then min (t + (pts b.1 b.2.1 : Int)) 9007199254740992 else t)
end Bx
/-- boxes that can be read, with numbers of 64 bits -/
structure BoxRd6 (w : World) (q : BxM) : Prop where
  rd : BoxRd w q
  n : q.1.lo.n ≤ 1000000
  i1 : Bx.I64 q.2.1
  i2 : Bx.I64 q.2.2

set_option linter.unusedSimpArgs false in
set_option linter.unusedVariables false in
set_option maxRecDepth 100000 in
set_option maxHeartbeats 3200000 in
theorem count21 (u : Sl) (qs : List BxM) (w : World) (hu : Rd w w.heap.size 3 u.a u.n ((qs.map (·.1)).flatMap bxL)) (hq : ∀ q ∈ qs, BoxRd6 w q) (hun : u.n ≤ 1000000) :
    Calls Try.prog 21 #[.slice u.a u.n u.c] w fun e w' => e = .returned (.int .i64 (Bx.countF (qs.map plD) 0)) ∧ Below w.heap.size w w' := by
  have HU := Lib.hid hu
  have HQ := Lib.hid hq
  have HL := Lib.hid (show qs.length = u.n by have := hu.len (fun _ => rfl) (by omega); simpa using this)
  clear hu hq
  go_enter Try.func21, Try.ntmps21
  go_wp2_with fail
  go_loopw [3, 8] (fun t i W => ∃ (k : Nat) (T : Int), k ≤ u.n ∧ i = .int .i64 k ∧ t = .int .i64 T ∧ 0 ≤ T ∧ T ≤ 9007199254740992 ∧ Hid (Bx.countF ((qs.map plD).drop k) T = Bx.countF (qs.map plD) 0) ∧ Hid (Below w.heap.size w W)) (fun _ i _ => u.n - (intOf i).toNat)
  case atStart => exact ⟨0, 0, Nat.zero_le _, rfl, rfl, by decide, by decide, Lib.hid rfl, Lib.hid (Below.refl _ _)⟩
  case round =>
    obtain ⟨k, T, hk, rfl, rfl, hT0, hT1, HK, HB⟩ := hrel
    by_cases hlt : k < u.n
    · obtain ⟨b1, o1, q, hqi, hb1, hix1, x0, x1, x2⟩ := box_at (HU.out.up HB.out) u.c hlt
      have QR := Lib.hid (HQ.out q (List.mem_of_getElem? hqi))
      have hdk : (qs.map plD).drop k = plD q :: (qs.map plD).drop (k + 1) := by
        have h1 : (qs.map plD)[k]? = some (plD q) := by rw [List.getElem?_map, hqi]; rfl
        obtain ⟨h2, h3⟩ := List.getElem?_eq_some_iff.1 h1
        rw [List.drop_eq_getElem_cons h2, h3]
      have HZ : Hid (Bx.countF (qs.map plD) 0 = Bx.countF ((qs.map plD).drop (k + 1)) (if q.1.holds = true then min (T + (Bx.pts q.2.1 q.2.2 : Int)) 9007199254740992 else T)) := Lib.hid (by rw [← HK.out, hdk]; rfl)
      have CP := Lib.hid (fun (X : World) (hX : Below wr.heap.size wr X) => points51 q.1 q.2.1 q.2.2 X ((QR.out.rd.up HB.out).up hX).lo ((QR.out.rd.up HB.out).up hX).hi QR.out.n QR.out.i1 QR.out.i2)
      clear hqi hdk
      cases hh : q.1.holds with
      | true =>
        rw [hh] at x2 HZ
        obtain ⟨P, hP⟩ : ∃ P : Int, P = (Bx.pts q.2.1 q.2.2 : Int) := ⟨_, rfl⟩
        have hP1 : 0 ≤ P ∧ P ≤ 9007199254740992 := by rw [hP]; unfold Bx.pts; split <;> omega
        rw [← hP] at HZ CP
        have HH := Lib.hid hh
        rw [show bxV q.1 = .agg #[.slice q.1.lo.a q.1.lo.n q.1.lo.c, .slice q.1.hi.a q.1.hi.n q.1.hi.c, .bool true] from by show Value.agg #[.slice q.1.lo.a q.1.lo.n q.1.lo.c, .slice q.1.hi.a q.1.hi.n q.1.hi.c, .bool q.1.holds] = _; rw [hh]] at CP
        have hw1 : IntKind.i64.wrap (T + P) = T + P := by rw [IntWalk.i64_left, IntWalk.wrap64_in _ (by omega)]
        have hw2 : wrap64 (T + P) = T + P := by rw [IntWalk.wrap64_in _ (by omega)]
        obtain ⟨mn, hmn⟩ : ∃ mn, min (T + P) 9007199254740992 = mn := ⟨_, rfl⟩
        have hmn2 : 0 ≤ mn ∧ mn ≤ 9007199254740992 := by omega
        have HN : Hid (Bx.countF ((qs.map plD).drop (k + 1)) mn = Bx.countF (qs.map plD) 0) := Lib.hid (by rw [HZ.out, if_pos rfl, hmn])
        clear hh hP
        go_wp2_with fail
        refine (CP.out _ ((Below.refl _ _).alloc (Nat.le_refl _) _)).mono ?_
        rintro e w5 ⟨rfl, h5⟩
        have H5 : Hid (Below w.heap.size w w5) := Lib.hid (Below.call (HB.out.alloc HB.out.size _) h5)
        clear h5 CP
        go_wp2_with fail
        go_roundw
        case rel => exact ⟨k + 1, mn, by omega, by go_num, rfl, hmn2.1, hmn2.2, HN, H5⟩
        case measure => simp [intOf]; omega
      | false =>
        rw [hh] at x2 HZ
        have HN : Hid (Bx.countF ((qs.map plD).drop (k + 1)) T = Bx.countF (qs.map plD) 0) := Lib.hid (by rw [HZ.out]; rfl)
        clear hh CP
        go_wp2_with fail
        go_roundw
        case rel => exact ⟨k + 1, T, by omega, by go_num, rfl, hT0, hT1, HN, Lib.hid (HB.out.alloc HB.out.size _)⟩
        case measure => simp [intOf]; omega
    · have HF : Hid (Bx.countF (qs.map plD) 0 = T) := Lib.hid (by
        rw [← HK.out, List.drop_eq_nil_of_le (by rw [List.length_map, HL.out]; omega)]
        rfl)
      go_wp2_with fail
      go_ret
      exact ⟨ret_int HF.out.symm, HB.out⟩
end Go.Proofs.Ytcncobhdfflelaa
