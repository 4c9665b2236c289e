/- mail.components: the iterator over a path's components. -/
import Derived.Test.YtjdjfjokniingaaPc
namespace Go.Proofs.Ytjdjfjokniingaa
open Go.RowKit Go.Shelf
attribute [local go_sem] Oper.semAt_some

namespace Ml
/-- A text cut at its dots. -/
def splitD : List UInt8 → List (List UInt8)
  | [] => [[]]
  | c :: l => if c = 46 then [] :: splitD l else match splitD l with
    | [] => [[c]]
    | h :: t => (c :: h) :: t
theorem splitD_ne : ∀ l : List UInt8, splitD l ≠ []
  | [] => by simp [splitD]
  | c :: l => by
    rw [splitD]
    split
    · simp
    · split <;> simp
theorem splitD_miss : ∀ {l : List UInt8}, Lib.indexByte l 46 = -1 → splitD l = [l]
  | [], _ => rfl
  | c :: l, h => by
    rw [Lib.indexByte] at h
    by_cases hc : c = 46
    · subst hc; simp at h
    · have hb : (c == 46) = false := by simpa using hc
      rw [hb] at h
      by_cases h2 : Lib.indexByte l 46 = -1
      · rw [splitD, if_neg hc, splitD_miss h2]
      · have := Lib.indexByte_ge l 46
        simp [h2] at h
        omega
theorem splitD_hit : ∀ {l : List UInt8} {k : Nat}, Lib.indexByte l 46 = k → splitD l = l.take k :: splitD (l.drop (k + 1))
  | [], k, h => by simp [Lib.indexByte] at h
  | c :: l, k, h => by
    rw [Lib.indexByte] at h
    by_cases hc : c = 46
    · subst hc
      simp at h
      obtain rfl : k = 0 := by omega
      simp [splitD]
    · have hb : (c == 46) = false := by simpa using hc
      rw [hb] at h
      by_cases h2 : Lib.indexByte l 46 = -1
      · simp [h2] at h
      · have := Lib.indexByte_ge l 46
        simp [h2] at h
        obtain ⟨j, rfl⟩ : ∃ j, k = j + 1 := ⟨k - 1, by omega⟩
        rw [splitD, if_neg hc, splitD_hit (show Lib.indexByte l 46 = (j : Nat) by omega)]
        simp
def pnm (p : List UInt8) : Int × Bool := pnum p 0 9007199254740992
def comps (s : ByteArray) : List (Int × Bool) := (splitD s.data.toList).map pnm
theorem cut_more {s : ByteArray} (h : (cutV s).2.2 = true) : comps s = pnm (cutV s).1.data.toList :: comps (cutV s).2.1 ∧ (cutV s).2.1.size < s.size ∧ (cutV s).1.size ≤ s.size := by
  rcases dot_cases s with hd | ⟨k, hd, hk⟩
  · simp [cutV, hd] at h
  · have e : cutV s = (s.extract 0 k, s.extract (k + 1) s.size, true) := by simp [cutV, hd]
    rw [e]
    have hl : s.data.toList.length = s.size := Array.length_toList
    refine ⟨?_, ?_, ?_⟩
    · unfold comps
      rw [splitD_hit (show Lib.indexByte s.data.toList 46 = (k : Nat) from hd)]
      simp only [List.map_cons, ByteArray.data_extract, Array.toList_extract, List.extract_eq_take_drop, List.drop_zero]
      rw [List.take_of_length_le (i := s.size - (k + 1)) (by rw [List.length_drop, hl]; omega)]
      rfl
    · rw [ByteArray.size_extract]; omega
    · rw [ByteArray.size_extract]; omega
theorem cut_last {s : ByteArray} (h : (cutV s).2.2 = false) : comps s = [pnm (cutV s).1.data.toList] ∧ (cutV s).1.size ≤ s.size := by
  rcases dot_cases s with hd | ⟨k, hd, hk⟩
  · have e : cutV s = (s, ⟨#[]⟩, false) := by simp [cutV, hd]
    rw [e]
    refine ⟨?_, Nat.le_refl _⟩
    unfold comps
    rw [splitD_miss (show Lib.indexByte s.data.toList 46 = -1 from hd)]
    rfl
  · have e : cutV s = (s.extract 0 k, s.extract (k + 1) s.size, true) := by simp [cutV, hd]
    rw [e] at h; simp at h
theorem drop_cons {α : Type} {xs ys : List (α × Bool)} {y d : α × Bool} {k : Nat} (h : xs.drop k = y :: ys) : k < xs.length ∧ xs.getD k d = y ∧ xs.drop (k + 1) = ys := by
  have hk : k < xs.length := by
    by_cases hk : k < xs.length
    · exact hk
    · rw [List.drop_eq_nil_of_le (by omega)] at h; cases h
  rw [List.drop_eq_getElem_cons hk] at h
  injection h with h1 h2
  refine ⟨hk, ?_, h2⟩
  rw [List.getD_eq_getElem?_getD, List.getElem?_eq_getElem hk]
  exact h1
def boxLen (w : World) (B : Nat) : Nat := match w.cell? ⟨B, 0, none⟩ with
  | some (.string s) => s.size
  | _ => 0
def leftBox (B : Nat) (m : Value) (w : World) : Nat := match m with
  | .bool true => boxLen w B + 1
  | _ => 0
theorem leftBox_true {B : Nat} {w : World} {s : ByteArray} (h : w.heap[B]? = some (.cells #[.string s] 9 (0, 0))) : leftBox B (.bool true) w = s.size + 1 := by simp [leftBox, boxLen, cell_of_one h]
theorem leftBox_false {B : Nat} {w : World} : leftBox B (.bool false) w = 0 := rfl
end Ml

set_option linter.unusedSimpArgs false in
set_option linter.unusedVariables false in
set_option maxHeartbeats 8000000 in
set_option maxRecDepth 1000000 in
theorem comps105 (n B : Nat) (path : ByteArray) (w : World) (hp : path.size ≤ 200) (hB : w.heap[B]? = some (.cells #[.string path] 9 (0, 0))) :
    SeqBox n 105 #[.pointer (some ⟨B, 0, none⟩)] (fun k => #[.int .i64 ((Ml.comps path).getD k (0, false)).1, .bool ((Ml.comps path).getD k (0, false)).2]) (Ml.comps path).length B w := by
  intro l J Jx W hW hJb hJs hY h0
  have hBW : W.heap[B]? = some (.cells #[.string path] 9 (0, 0)) := (hW.block _ (lt_of_block hB)).trans hB
  clear hB hW
  refine callsIn_of_wp Try.func105 rfl trivial ?_ rfl
  simp only [Try.ntmps105, List.size_toArray, List.length_cons, List.length_nil, Nat.reduceAdd, Nat.reduceSub, Array.replicate_succ, Array.replicate_zero, List.push_toArray, List.append_toArray, List.nil_append, List.cons_append]
  gi_wp2
  gi_loopw [3] (fun m wr => (∃ (k : Nat) (cur : ByteArray), m = .bool true ∧ wr.heap[B]? = some (.cells #[.string cur] 9 (0, 0)) ∧ cur.size ≤ 200 ∧ Hid ((Ml.comps path).drop k = Ml.comps cur) ∧ J k wr) ∨ (m = .bool false ∧ J (Ml.comps path).length wr)) (fun m wr => Ml.leftBox B m wr)
  case atStart => exact .inl ⟨0, path, rfl, hBW, hp, Lib.hid rfl, h0⟩
  case round =>
    rcases hrel with ⟨k, cur, rfl, hb, hcs, HD, hJ⟩ | ⟨rfl, hJ⟩
    · have hb0 := hb
      have hc := cell_of_one hb
      have hf := free_of_one hb
      gi_wp2_with fail
      refine ⟨trivial, fun h => absurd h (by simp [Fence.wide]), (callsIn_wide.2 (cut106 cur wr (by omega))).mono ?_⟩
      rintro e w1 ⟨rfl, m1, hw1⟩
      have hbe : Below wr.heap.size wr w1 := by rw [hw1]; exact below_drewN (Below.refl _ _) _
      have hb1 : w1.heap[B]? = some (.cells #[.string cur] 9 (0, 0)) := (hbe.block _ (lt_of_block hb)).trans hb
      have hJ1 := hJb _ _ _ hJ hbe
      clear hJ hb hc hf hw1 hbe
      have hc := cell_of_one hb1
      have hf := free_of_one hb1
      obtain ⟨hd, tl, more, hcut⟩ : ∃ hd tl more, Ml.cutV cur = (hd, tl, more) := ⟨_, _, _, rfl⟩
      have hN : hd.size ≤ 200 ∧ k < (Ml.comps path).length ∧ (Ml.comps path).getD k (0, false) = Ml.pnm hd.data.toList ∧ (more = true → (Ml.comps path).drop (k + 1) = Ml.comps tl ∧ tl.size < cur.size) ∧ (more = false → k + 1 = (Ml.comps path).length) := by
        cases more with
        | true =>
          have h := Ml.cut_more (s := cur) (by rw [hcut])
          rw [hcut] at h
          obtain ⟨h1, h2, h3⟩ := h
          have h4 := HD.out
          rw [h1] at h4
          obtain ⟨h5, h6, h7⟩ := Ml.drop_cons h4
          exact ⟨by simp at h3; omega, h5, h6, fun _ => ⟨h7, h2⟩, fun h => by cases h⟩
        | false =>
          have h := Ml.cut_last (s := cur) (by rw [hcut])
          rw [hcut] at h
          obtain ⟨h1, h3⟩ := h
          have h4 := HD.out
          rw [h1] at h4
          obtain ⟨h5, h6, h7⟩ := Ml.drop_cons h4
          refine ⟨by simp at h3; omega, h5, h6, fun h => (by cases h), fun _ => ?_⟩
          have := List.drop_eq_nil_iff.1 h7
          omega
      obtain ⟨hhs, hkN, hget, hmo, hla⟩ := hN
      have HG := Lib.hid hget
      have HM := Lib.hid hmo
      have HLA := Lib.hid hla
      clear hget hmo hla
      gi_wp2_with fail
      refine ⟨trivial, fun h => absurd h (by simp [Fence.wide]), (callsIn_wide.2 (parse107 hd 0 9007199254740992 _ (by omega) (by decide) (by decide))).mono ?_⟩
      rintro e w3 ⟨rfl, hbe⟩
      have hb2 := one_setCell (u := .string tl) hb1
      have hJ2 := hJs _ _ (.string tl) hJ1
      have hb3 := (hbe.block _ (lt_of_block hb2)).trans hb2
      have hJ3 := hJb _ _ _ hJ2 hbe
      clear hb1 hb2 hJ1 hJ2 hbe hc hf
      obtain ⟨fn, tmps, assign, body, hy, hR⟩ := hY k w3 hkN hJ3
      rw [HG.out] at hy
      dsimp only [Ml.pnm] at hy
      gi_wp2_with fail
      refine ⟨fun h => absurd h (by simp [Fence.wide]), hR.mono ?_⟩
      rintro e w4 (⟨rfl, hJ4, hb4⟩ | ⟨rfl, hJx⟩)
      · have hb5 := hb4.trans hb3
        clear hJ3 hb3 hb4 hy hR
        gi_wp2_with fail
        go_roundw
        case rel =>
          cases more with
          | true => exact .inl ⟨k + 1, tl, rfl, hb5, by have := (HM.out rfl).2; omega, Lib.hid (HM.out rfl).1, hJ4⟩
          | false => exact .inr ⟨rfl, by rw [← HLA.out rfl]; exact hJ4⟩
        case measure =>
          cases more with
          | true => rw [Ml.leftBox_true hb5, Ml.leftBox_true hb0]; have := (HM.out rfl).2; omega
          | false => rw [Ml.leftBox_false, Ml.leftBox_true hb0]; omega
      · gi_wp2_with fail
        refine bodyPost_ret (results_none rfl _ _ _) rfl ?_
        exact ⟨⟨_, rfl⟩, .inr hJx⟩
    · gi_wp2
      go_end0
      exact ⟨⟨_, rfl⟩, .inl hJ⟩
end Go.Proofs.Ytjdjfjokniingaa
