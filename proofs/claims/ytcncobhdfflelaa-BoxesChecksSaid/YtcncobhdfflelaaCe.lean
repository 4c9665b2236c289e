/- The contract of boxes.disjoint. -/
import Derived.Test.YtcncobhdfflelaaCd
namespace Go.Proofs.Ytcncobhdfflelaa
open Go.RowKit

/-- element i of a row of boxes -/
theorem box_at {w : World} {B n : Nat} {A : Option Addr} {qs : List BxM} (h : Rd w B 3 A n ((qs.map (·.1)).flatMap bxL)) (c : Nat) {i : Nat} (hi : i < n) :
    ∃ (b off : Nat) (q : BxM), qs[i]? = some q ∧ b < B ∧ (∀ W, Sem.run Try.prog (Instr.indexAt 26 (.slice A n c) (.int .i64 (i : Int))) W = .ok (.pointer (some ⟨b, off, none⟩)) W) ∧ w.cell? ⟨b, off, none⟩ = some (.slice q.1.lo.a q.1.lo.n q.1.lo.c) ∧ w.cell? ⟨b, off + 1, none⟩ = some (.slice q.1.hi.a q.1.hi.n q.1.hi.c) ∧ w.cell? ⟨b, off + 2, none⟩ = some (.bool q.1.holds) := by
  obtain ⟨b, off, e, hA, hb, hek, hc⟩ := h.at_ (fun _ => rfl) (by omega) hi
  have hl : qs.length = n := by have := h.len (fun _ => rfl) (by omega); simpa using this
  have hkl : i < qs.length := by omega
  obtain ⟨q, hq⟩ : ∃ q, qs[i]? = some q := ⟨_, List.getElem?_eq_getElem hkl⟩
  have eq1 : q.1 = e := by rw [List.getElem?_map, hq] at hek; simpa using hek
  subst eq1
  refine ⟨b, off + i * 3, q, hq, hb, fun W => ?_, hc 0 _ rfl, hc 1 _ rfl, hc 2 _ rfl⟩
  rw [hA]
  go_simp
/-- a box whose rows can be read, of n dimensions -/
structure BoxOk (w : World) (n : Nat) (q : BxM) : Prop where
  lo : Rd w w.heap.size 1 q.1.lo.a q.1.lo.n (ints q.2.1)
  hi : Rd w w.heap.size 1 q.1.hi.a q.1.hi.n (ints q.2.2)
  n1 : q.1.lo.n = n
  n2 : q.1.hi.n = n
theorem BoxOk.up {w W : World} {n : Nat} {q : BxM} (h : BoxOk w n q) (hb : Below w.heap.size w W) : BoxOk W n q := ⟨h.lo.up hb, h.hi.up hb, h.n1, h.n2⟩
theorem BoxOk.dims {w : World} {n : Nat} {q : BxM} (h : BoxOk w n q) : Bx.Dims n q.2 := ⟨by have := h.lo.1; rw [List.length_map] at this; rw [this, h.n1]; omega, by have := h.hi.1; rw [List.length_map] at this; rw [this, h.n2]; omega⟩

set_option linter.unusedSimpArgs false in
set_option linter.unusedVariables false in
set_option maxRecDepth 100000 in
set_option maxHeartbeats 3200000 in
theorem disjoint47_few (u : Sl) (qs : List BxM) (w : World) (hu : Rd w w.heap.size 3 u.a u.n ((qs.map (·.1)).flatMap bxL)) (hun : u.n < 2) :
    Calls Try.prog 47 #[.slice u.a u.n u.c] w fun e w' => e = .returned (.bool (Bx.disj (qs.map (·.2)))) ∧ Below w.heap.size w w' := by
  have hl : qs.length = u.n := by have := hu.len (fun _ => rfl) (by omega); simpa using this
  have HF : Hid (Bx.disj (qs.map (·.2)) = true) := Lib.hid (by
    match qs, hl with
    | [], _ => rfl
    | [q], _ => rfl
    | a :: b :: r, hl => simp at hl; omega)
  have t1 : decide ((u.n : Int) < 2) = true := by simp; omega
  clear hu hl
  go_enter Try.func47, Try.ntmps47
  go_wp2_with fail
  go_ret
  exact ⟨ret_bool HF.out.symm, Below.refl _ _⟩

set_option linter.unusedSimpArgs false in
set_option linter.unusedVariables false in
set_option maxRecDepth 100000 in
set_option maxHeartbeats 3200000 in
theorem disjoint47_zero (u : Sl) (qs : List BxM) (w : World) (hu : Rd w w.heap.size 3 u.a u.n ((qs.map (·.1)).flatMap bxL)) (hq : ∀ q ∈ qs, BoxOk w 0 q) (hun : 2 ≤ u.n) :
    Calls Try.prog 47 #[.slice u.a u.n u.c] w fun e w' => e = .returned (.bool (Bx.disj (qs.map (·.2)))) ∧ Below w.heap.size w w' := by
  have hl : qs.length = u.n := by have := hu.len (fun _ => rfl) (by omega); simpa using this
  have HF : Hid (Bx.disj (qs.map (·.2)) = false) := Lib.hid (by
    match qs, hl, hq with
    | [], hl, _ => simp at hl; omega
    | [q], hl, _ => simp at hl; omega
    | a :: b :: r, _, hq => exact Bx.disj_zero (hq a List.mem_cons_self).dims)
  obtain ⟨b, off, q, hqi, _, hix, c0, _, _⟩ := box_at hu u.c (show 0 < u.n by omega)
  have t2 : q.1.lo.n = 0 := (hq q (List.mem_of_getElem? hqi)).n1
  have t1 : decide ((u.n : Int) < 2) = false := by simp; omega
  rw [t2] at c0
  have hix0 : ∀ W, Sem.run Try.prog (Instr.indexAt 26 (.slice u.a u.n u.c) (.int .i64 0)) W = .ok (.pointer (some ⟨b, off, none⟩)) W := hix
  clear hu hl hq hqi t2 hix
  go_enter Try.func47, Try.ntmps47
  go_wp2_with fail
  go_ret
  exact ⟨ret_bool HF.out.symm, Below.refl _ _⟩
end Go.Proofs.Ytcncobhdfflelaa
