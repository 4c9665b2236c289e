/- The contracts of the small functions of package span and num that the span seat's statements call. -/
import Derived.Test.YtjdppnkmhgihnaaRows
import Derived.Test.YtjdppnkmhgihnaaPlain
import Derived.WalkKit
import Derived.WalkSpells
import Derived.WalkLawsBesides
import Derived.Lib.Hide
namespace Go.Proofs.Ytjdppnkmhgihnaa
open Go.RowKit

theorem bcell {W w1 : World} (hb : Below W.heap.size W w1) : (∀ b o, b < W.heap.size → w1.cell? ⟨b, o, none⟩ = W.cell? ⟨b, o, none⟩) ∧ (∀ b o, b < W.heap.size → w1.frozen? ⟨b, o, none⟩ = W.frozen? ⟨b, o, none⟩) :=
  ⟨fun b o h => hb.cell (p := ⟨b, o, none⟩) h, fun b o h => hb.frozen (p := ⟨b, o, none⟩) h⟩

theorem ret_bool {a b : Bool} (h : a = b) : Ending.returned (.bool a) = .returned (.bool b) := by rw [h]
theorem ret_int {k : IntKind} {a b : Int} (h : a = b) : Ending.returned (.int k a) = .returned (.int k b) := by rw [h]

set_option maxHeartbeats 400000 in
theorem right_any (l h : Int) (w : World) :
    Calls Try.prog 9 #[.agg #[.int .i64 l, .int .i64 h]] w fun e w' => e = .returned (.bool (Sp.right l h)) ∧ Below w.heap.size w w' := by
  go_enter Try.func9, Try.ntmps9
  go_wp2
  all_goals
    go_ret
    refine ⟨?_, (Below.refl _ _).alloc (Nat.le_refl _) _⟩
    simp [Sp.right, *]
    try omega

set_option maxHeartbeats 400000 in
theorem inRange_any (n : Int) (w : World) :
    Calls Try.prog 59 #[.int .i64 n] w fun e w' => e = .returned (.bool (Sp.inR n)) ∧ w = w' := by
  go_enter Try.func59, Try.ntmps59
  go_wp2
  all_goals
    go_ret
    refine ⟨?_, rfl⟩
    simp [Sp.inR, *]
    try omega

set_option maxHeartbeats 400000 in
theorem abs_any (n : Int) (w : World) (h1 : -9007199254740992 ≤ n) (h2 : n ≤ 9007199254740992) :
    Calls Try.prog 61 #[.int .i64 n] w fun e w' => e = .returned (.int .i64 (Sp.ab n)) ∧ w = w' := by
  go_enter Try.func61, Try.ntmps61
  go_wp2
  all_goals
    go_ret
    refine ⟨?_, rfl⟩
    simp [Sp.ab, *]
    try omega

set_option maxHeartbeats 400000 in
theorem hull_any (a : Int) (xs : List Int) (b : Nat) (w : World) (hb : b < w.heap.size) (hl : xs.length ≤ 100) (hc : ∀ k, k < xs.length → w.cell? ⟨b, k, none⟩ = some (.int .i64 (xs.getD k 0))) :
    Calls Try.prog 49 #[.int .i64 a, .slice (some ⟨b, 0, none⟩) xs.length xs.length] w fun e w' => e = .returned (.agg #[.int .i64 (Sp.hullLo a xs), .int .i64 (Sp.hullHi a xs)]) ∧ Below w.heap.size w w' := by
  have HC := Lib.hid hc
  clear hc
  go_enter Try.func49, Try.ntmps49
  go_wp2
  go_loopw [13] (fun i wr => ∃ k : Nat, k ≤ xs.length ∧ i = .int .i64 k ∧ wr = (w.alloc (.cells #[.int .i64 0, .int .i64 0] 23)).alloc (.cells #[.int .i64 (Sp.hullLo a (xs.take k)), .int .i64 (Sp.hullHi a (xs.take k))] 23)) (fun i _ => xs.length - (intOf i).toNat)
  case atStart => exact ⟨0, Nat.zero_le _, rfl, rfl⟩
  case round =>
    obtain ⟨k, hk, rfl, rfl⟩ := hrel
    by_cases hlt : k < xs.length
    · have hc := HC.out k hlt
      have e1 := Sp.hullLo_snoc a (xs.take k) (xs.getD k 0)
      have e2 := Sp.hullHi_snoc a (xs.take k) (xs.getD k 0)
      have e3 : xs.take (k+1) = xs.take k ++ [xs.getD k 0] := by
        rw [List.take_succ_eq_append_getElem hlt]; simp [hlt]
      rw [← e3] at e1 e2
      have E1 := Lib.hid e1
      have E2 := Lib.hid e2
      clear e1 e2 e3
      generalize xs.getD k 0 = x at *
      generalize Sp.hullLo a (xs.take k) = lo at *
      generalize Sp.hullHi a (xs.take k) = hi at *
      go_wp2
      go_roundw
      case rel => exact ⟨k + 1, by omega, by go_num, by rw [E1.out, E2.out]; rfl⟩
      case measure => simp [intOf]; omega
    · have ek : xs.take k = xs := List.take_of_length_le (by omega)
      rw [ek]
      clear ek
      go_wp2
      refine bodyPost_ret (v := .agg #[.int .i64 (Sp.hullLo a xs), .int .i64 (Sp.hullHi a xs)]) (by simp [results, Try.results49, go_sem]) rfl ⟨rfl, ?_⟩
      exact ((Below.refl _ _).alloc (Nat.le_refl _) _).alloc (by simp) _

set_option maxHeartbeats 400000 in
theorem hull_nil (a : Int) (w : World) :
    Calls Try.prog 49 #[.int .i64 a, .slice none 0 0] w fun e w' => e = .returned (.agg #[.int .i64 a, .int .i64 a]) ∧ Below w.heap.size w w' := by
  go_enter Try.func49, Try.ntmps49
  go_wp2
  refine wp_loop_rounds 1 ?_
  rw [rounds_succ]
  go_wp2
  refine bodyPost_ret (v := .agg #[.int .i64 a, .int .i64 a]) (by simp [results, Try.results49, go_sem]) rfl ⟨rfl, ?_⟩
  exact ((Below.refl _ _).alloc (Nat.le_refl _) _).alloc (by simp) _

set_option maxHeartbeats 400000 in
theorem fit_any (lo hi : Int) (w : World) :
    Calls Try.prog 48 #[.agg #[.int .i64 lo, .int .i64 hi]] w fun e w' => e = .returned (.tuple #[.agg #[.int .i64 (Sp.fit lo hi).lo, .int .i64 (Sp.fit lo hi).hi], .int .i64 (Sp.fit lo hi).f]) ∧ Below w.heap.size w w' := by
  go_enter Try.func48, Try.ntmps48
  go_wp2
  all_goals
    refine bodyPost_ret (v := .tuple #[.agg #[.int .i64 (Sp.fit lo hi).lo, .int .i64 (Sp.fit lo hi).hi], .int .i64 (Sp.fit lo hi).f]) (by unfold Sp.fit; repeat' split; all_goals first | (exfalso; omega) | simp [results, Try.results48, go_sem]) rfl ⟨rfl, ?_⟩
    exact ((Below.refl _ _).alloc (Nat.le_refl _) _).alloc (by simp) _
end Go.Proofs.Ytjdppnkmhgihnaa
