/- Rows of boxes in memory; the contract of boxes.Holds. -/
import Derived.Test.YtcncobhdfflelaaBg
namespace Go.Proofs.Ytcncobhdfflelaa
open Go.RowKit

abbrev bxL (b : BxC) : List Value := [.slice b.lo.a b.lo.n b.lo.c, .slice b.hi.a b.hi.n b.hi.c, .bool b.holds]
/-- a row of boxes reads as plain boxes -/
structure BxsAt (w : World) (u : Sl) (bs : List (List Int × List Int × Bool)) : Prop where
  ex : ∃ qs : List (BxC × List Int × List Int), Rd w w.heap.size 3 u.a u.n ((qs.map (·.1)).flatMap bxL) ∧ (∀ q ∈ qs, Rd w w.heap.size 1 q.1.lo.a q.1.lo.n (q.2.1.map (Value.int .i64)) ∧ Rd w w.heap.size 1 q.1.hi.a q.1.hi.n (q.2.2.map (Value.int .i64))) ∧ qs.map (fun q => (q.2.1, q.2.2, q.1.holds)) = bs
theorem BxsAt.up {w W : World} {u : Sl} {bs : List (List Int × List Int × Bool)} (h : BxsAt w u bs) (hb : Below w.heap.size w W) : BxsAt W u bs := by
  obtain ⟨qs, h1, h2, h3⟩ := h.ex
  exact ⟨qs, h1.up hb, fun q hq => ⟨(h2 q hq).1.up hb, (h2 q hq).2.up hb⟩, h3⟩
namespace Bx
/-- the first box that contains a point -/
def holds (p : List Int) : List (List Int × List Int × Bool) → Bool × Bool
  | [] => (false, false)
  | b :: l => if contains b.1 b.2.1 p then (b.2.2, true) else holds p l
end Bx
theorem ret_bools {a b : Bool} {r : Bool × Bool} (h : r = (a, b)) : Ending.returned (.tuple #[.bool a, .bool b]) = .returned (.tuple #[.bool r.1, .bool r.2]) := by rw [h]

set_option linter.unusedSimpArgs false in
set_option linter.unusedVariables false in
set_option maxRecDepth 100000 in
set_option maxHeartbeats 3200000 in
theorem holds17 (u : Sl) (bs : List (List Int × List Int × Bool)) (A : Option Addr) (n c : Nat) (p : List Int) (w : World) (hu : BxsAt w u bs) (hz : Rd w w.heap.size 1 A n (p.map (Value.int .i64))) (hn : n ≤ 1000000) (hun : u.n ≤ 1000000) :
    Calls Try.prog 17 #[.slice u.a u.n u.c, .slice A n c] w fun e w' => e = .returned (.tuple #[.bool (Bx.holds p bs).1, .bool (Bx.holds p bs).2]) ∧ Below w.heap.size w w' := by
  obtain ⟨qs, hq1, hq2, hq3⟩ := hu.ex
  have CB := Lib.hid (fun (W : World) (hW : Below w.heap.size w W) (q : BxC × List Int × List Int) (hq : q ∈ qs) => contains43 q.1 A n c q.2.1 q.2.2 p W ((hq2 q hq).1.up hW) ((hq2 q hq).2.up hW) (hz.up hW) hn)
  have HU := Lib.hid hq1
  have HL := Lib.hid (show qs.length = u.n by have := hq1.len (fun _ => rfl) (by omega); simpa using this)
  have HQ3 := Lib.hid hq3
  clear hu hz hq1 hq2 hq3
  go_enter Try.func17, Try.ntmps17
  go_wp2_with fail
  go_loopw [10] (fun i W => ∃ k : Nat, k ≤ u.n ∧ i = .int .i64 k ∧ Hid (Bx.holds p (bs.drop k) = Bx.holds p bs) ∧ Hid (Below w.heap.size w W)) (fun i _ => u.n - (intOf i).toNat)
  case atStart => exact ⟨0, Nat.zero_le _, rfl, Lib.hid rfl, Lib.hid (Below.refl _ _)⟩
  case round =>
    obtain ⟨k, hk, rfl, HK, HB⟩ := hrel
    by_cases hlt : k < u.n
    · obtain ⟨b, off, e, hA, hb, hek, hc⟩ := HU.out.at_ (fun _ => rfl) (by omega) hlt
      have hkl : k < qs.length := by rw [HL.out]; exact hlt
      obtain ⟨q, hq⟩ : ∃ q, qs[k]? = some q := ⟨_, List.getElem?_eq_getElem hkl⟩
      have eq1 : q.1 = e := by rw [List.getElem?_map, hq] at hek; simpa using hek
      subst eq1
      have x0 : wr.cell? ⟨b, off + k * 3, none⟩ = some (.slice q.1.lo.a q.1.lo.n q.1.lo.c) := (HB.out.cell (p := ⟨b, off + k * 3, none⟩) hb).trans (hc 0 _ rfl)
      have x1 : wr.cell? ⟨b, off + k * 3 + 1, none⟩ = some (.slice q.1.hi.a q.1.hi.n q.1.hi.c) := (HB.out.cell (p := ⟨b, off + k * 3 + 1, none⟩) hb).trans (hc 1 _ rfl)
      have x2 : wr.cell? ⟨b, off + k * 3 + 2, none⟩ = some (.bool q.1.holds) := (HB.out.cell (p := ⟨b, off + k * 3 + 2, none⟩) hb).trans (hc 2 _ rfl)
      have hix : ∀ W : World, Sem.run Try.prog (Instr.indexAt 26 (.slice u.a u.n u.c) (.int .i64 (k : Int))) W = .ok (.pointer (some ⟨b, off + k * 3, none⟩)) W := by intro W; rw [hA]; go_simp
      have hck : bs.drop k = (q.2.1, q.2.2, q.1.holds) :: bs.drop (k + 1) := by
        have h1 : bs[k]? = some (q.2.1, q.2.2, q.1.holds) := by rw [← HQ3.out, List.getElem?_map, hq]; rfl
        obtain ⟨h2, h3⟩ := List.getElem?_eq_some_iff.1 h1
        rw [List.drop_eq_getElem_cons h2, h3]
      have HZ : Hid (Bx.holds p bs = if Bx.contains q.2.1 q.2.2 p then (q.1.holds, true) else Bx.holds p (bs.drop (k + 1))) := Lib.hid (by rw [← HK.out, hck, Bx.holds])
      have CQ := Lib.hid (fun (W : World) (hW : Below w.heap.size w W) => CB.out W hW q (List.mem_of_getElem? hq))
      have n1 : ¬ b = wr.heap.size := by have := HB.out.size; omega
      have n2 : b < wr.heap.size := by have := HB.out.size; omega
      have hsz := HB.out.size
      clear hA hek hc hck hq
      go_wp2_with fail
      refine (CQ.out _ (HB.out.alloc hsz _)).mono ?_
      rintro x w1 ⟨rfl, h1⟩
      have HB1 := Lib.hid (Below.call (HB.out.alloc hsz _) h1)
      obtain ⟨k0, kc, _⟩ := keepB h1 wr.heap.size (by simp)
      have y2 : w1.cell? ⟨wr.heap.size, 2, none⟩ = some (.bool q.1.holds) := (kc 2).trans (by simp [go_sem, *])
      clear h1 kc x0 x1 x2 CQ
      cases hct : Bx.contains q.2.1 q.2.2 p with
      | true =>
        have HF : Hid (Bx.holds p bs = (q.1.holds, true)) := Lib.hid (by rw [HZ.out, hct]; rfl)
        clear hct
        go_wp2_with fail
        go_ret2
        exact ⟨ret_bools HF.out, HB1.out⟩
      | false =>
        have HF : Hid (Bx.holds p (bs.drop (k + 1)) = Bx.holds p bs) := Lib.hid (by rw [HZ.out, hct]; rfl)
        clear hct
        go_wp2_with fail
        go_roundw
        case rel => exact ⟨k + 1, by omega, by go_num, HF, HB1⟩
        case measure => simp [intOf]; omega
    · have HF : Hid (Bx.holds p bs = (false, false)) := Lib.hid (by
        rw [← HK.out, List.drop_eq_nil_of_le (by rw [← HQ3.out, List.length_map, HL.out]; omega)]
        rfl)
      go_wp2_with fail
      go_ret2
      exact ⟨ret_bools HF.out, HB.out⟩
end Go.Proofs.Ytcncobhdfflelaa
