/- strings.Cut at ".". -/
import Derived.Test.YtjdjfjokniingaaMe
import Derived.Lib.Bytealg
import Derived.Lib.IndexLaws
namespace Go.Proofs.Ytjdjfjokniingaa
open Go.RowKit

set_option maxHeartbeats 1000000 in
set_option maxRecDepth 100000 in
theorem idx130 (s : ByteArray) (c : Int) (w : World) :
    Calls Try.prog 130 #[.string s, .int .u8 c] w fun e w' => e = .returned (.int .i64 (Lib.indexByte s.data.toList c.toNat.toUInt8)) ∧ w' = w := by
  go_enter Try.func130, Try.ntmps130
  go_wp2
  rw [run_callFunc_extern Try.func135 (by kernel_rfl) (by kernel_rfl) (by kernel_rfl) (e := Extern.BytealgIndexByte.indexByte) (by kernel_rfl), Lib.run_indexByteString]
  simp only [Result.andThen]
  rw [Oper.upon_value]
  go_wp2
  go_ret
  exact ⟨rfl, rfl⟩

/-- Where the first "." of s lies, or -1. -/
def Ml.dot (s : ByteArray) : Int := Lib.indexByte s.data.toList 46

set_option maxHeartbeats 1000000 in
set_option maxRecDepth 100000 in
theorem idx124 (s : ByteArray) (w : World) :
    Calls Try.prog 124 #[.string s, .string ⟨#[46]⟩] w fun e w' => e = .returned (.int .i64 (Ml.dot s)) ∧ w' = w := by
  go_enter Try.func124, Try.ntmps124
  by_cases hs : s = ⟨#[46]⟩
  · subst hs
    go_wp2
    go_ret
    exact ⟨rfl, rfl⟩
  · have h1 : ([46] == s.toList) = false := by
      rw [beq_eq_false_iff_ne]
      intro h
      apply hs
      rw [ByteArray.toList_eq] at h
      cases s with | mk d =>
      cases d with | mk l =>
      simp at h
      rw [h]
    go_wp2_with fail
    refine (idx130 _ _ _).mono ?_
    rintro e w' ⟨rfl, rfl⟩
    go_wp2
    go_ret
    exact ⟨rfl, rfl⟩

theorem Ml.dot_cases (s : ByteArray) : Ml.dot s = -1 ∨ ∃ k : Nat, Ml.dot s = k ∧ k < s.size := by
  have hge := Lib.indexByte_ge s.data.toList 46
  by_cases h : Ml.dot s = -1
  · exact .inl h
  · refine .inr ⟨(Ml.dot s).toNat, ?_, ?_⟩
    · unfold Ml.dot at h ⊢; omega
    · have h2 : Lib.indexByte s.data.toList 46 = ((Ml.dot s).toNat : Nat) := by unfold Ml.dot at h ⊢; omega
      have h3 := (Lib.indexByte_some h2).1
      have h4 := (List.getElem?_eq_some_iff.1 h3).1
      rw [Array.length_toList] at h4; exact h4

def Ml.cutV (s : ByteArray) : ByteArray × ByteArray × Bool :=
  if Ml.dot s = -1 then (s, ⟨#[]⟩, false) else (s.extract 0 (Ml.dot s).toNat, s.extract ((Ml.dot s).toNat + 1) s.size, true)

set_option maxHeartbeats 1000000 in
set_option maxRecDepth 100000 in
theorem cut112 (s : ByteArray) (w : World) (hs : s.size < 4294967281) :
    Calls Try.prog 112 #[.string s, .string ⟨#[46]⟩] w fun e w' => e = .returned (.tuple #[.string (Ml.cutV s).1, .string (Ml.cutV s).2.1, .bool (Ml.cutV s).2.2]) ∧ ∃ n, w' = w.drewN n := by
  rcases Ml.dot_cases s with hd | ⟨k, hd, hk⟩
  · go_enter Try.func112, Try.ntmps112
    go_wp2_with fail
    refine (idx124 _ _).mono ?_
    rintro e w' ⟨rfl, rfl⟩
    rw [hd]
    go_wp2_with fail
    go_ret3
    exact ⟨by simp [Ml.cutV, hd], 0, rfl⟩
  · have c1 : (0 : Int) ≤ ↑k := by omega
    have c2 : (↑k : Int) ≤ ↑s.size := by omega
    have c3 : (0 : Int) ≤ ↑k + 1 := by omega
    have c4 : (↑k + 1 : Int) ≤ ↑s.size := by omega
    have c5 : IntKind.i64.wrap ((k : Int) + 1) = (k : Int) + 1 := IntWalk.i64_in _ (by omega)
    have mixed : Try.prog.follows Departure.mixedOrders = true := by kernel_rfl
    go_enter Try.func112, Try.ntmps112
    go_wp2_with fail
    refine (idx124 _ _).mono ?_
    rintro e w' ⟨rfl, rfl⟩
    rw [hd]
    go_wp2_with fail
    go_region_o
    go_wp2
    go_ret3
    exact ⟨by simp [Ml.cutV, hd], 1, rfl⟩

set_option maxHeartbeats 1000000 in
set_option maxRecDepth 100000 in
theorem cut106 (s : ByteArray) (w : World) (hs : s.size < 4294967281) :
    Calls Try.prog 106 #[.string s, .string ⟨#[46]⟩] w fun e w' => e = .returned (.tuple #[.string (Ml.cutV s).1, .string (Ml.cutV s).2.1, .bool (Ml.cutV s).2.2]) ∧ ∃ n, w' = w.drewN n := by
  go_enter Try.func106, Try.ntmps106
  go_wp2_with fail
  refine (cut112 _ _ hs).mono ?_
  rintro e w' ⟨rfl, n, rfl⟩
  go_wp2_with fail
  go_ret3
  exact ⟨rfl, n, rfl⟩

end Go.Proofs.Ytjdjfjokniingaa
