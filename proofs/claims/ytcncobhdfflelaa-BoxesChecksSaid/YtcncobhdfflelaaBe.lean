/- The contract of the reference's Verdict. -/
import Derived.Test.YtcncobhdfflelaaBd
namespace Go.Proofs.Ytcncobhdfflelaa
open Go.RowKit

abbrev lnL (c : LnC) : List Value := [.slice c.cf.a c.cf.n c.cf.c, .int .i64 c.bd]
namespace Bx
/-- the verdict of a conjunction of linear conditions -/
def verd (lo hi : List Int) : List (List Int × Int) → Int → Int
  | [], v => v
  | c :: l, v => if c.2 < (bounds lo hi c.1 (0, 0)).1 then 0 else verd lo hi l (if c.2 < (bounds lo hi c.1 (0, 0)).2 then -1 else v)
end Bx
/-- a row of linear conditions in memory -/
structure LnsAt (w : World) (u : Sl) (cs : List (List Int × Int)) : Prop where
  ex : ∃ qs : List (LnC × List Int), Rd w w.heap.size 2 u.a u.n ((qs.map (·.1)).flatMap lnL) ∧ (∀ q ∈ qs, Rd w w.heap.size 1 q.1.cf.a q.1.cf.n (q.2.map (Value.int .i64)) ∧ Bx.Cof q.2) ∧ qs.map (fun q => (q.2, q.1.bd)) = cs
theorem Rd.up {w W : World} {k n : Nat} {A : Option Addr} {xs : List Value} (h : Rd w w.heap.size k A n xs) (hb : Below w.heap.size w W) : Rd W W.heap.size k A n xs := (h.below hb (Nat.le_refl _)).more hb.size
theorem LnsAt.up {w W : World} {u : Sl} {cs : List (List Int × Int)} (h : LnsAt w u cs) (hb : Below w.heap.size w W) : LnsAt W u cs := by
  obtain ⟨qs, h1, h2, h3⟩ := h.ex
  exact ⟨qs, h1.up hb, fun q hq => ⟨(h2 q hq).1.up hb, (h2 q hq).2⟩, h3⟩

set_option linter.unusedSimpArgs false in
set_option linter.unusedVariables false in
set_option maxRecDepth 100000 in
set_option maxHeartbeats 3200000 in
theorem verdict13 (u : Sl) (cs : List (List Int × Int)) (A B : Option Addr) (n m c d : Nat) (lo hi : List Int) (w : World) (hu : LnsAt w u cs) (hx : Rd w w.heap.size 1 A n (lo.map (Value.int .i64))) (hy : Rd w w.heap.size 1 B m (hi.map (Value.int .i64)))
    (hn : n ≤ 1000) (hun : u.n ≤ 1000000) (h1 : Bx.Dom lo) (h2 : Bx.Dom hi) :
    Calls Try.prog 13 #[.slice u.a u.n u.c, .slice A n c, .slice B m d] w fun x w' => x = .returned (.int .i64 (Bx.verd lo hi cs 1)) ∧ Below w.heap.size w w' := by
  obtain ⟨qs, hq1, hq2, hq3⟩ := hu.ex
  have CB := Lib.hid (fun (W : World) (hW : Below w.heap.size w W) (q : LnC × List Int) (hq : q ∈ qs) => bounds38 q.1 A B n m c d lo hi q.2 W (hx.up hW) (hy.up hW) ((hq2 q hq).1.up hW) hn h1 h2 (hq2 q hq).2)
  have HU := Lib.hid hq1
  have HL := Lib.hid (show qs.length = u.n by have := hq1.len (fun _ => rfl) (by omega); simpa using this)
  have HQ3 := Lib.hid hq3
  clear hu hx hy hq1 hq2 hq3 h1 h2
  go_enter Try.func13, Try.ntmps13
  go_wp2_with fail
  go_loopw [7, 8] (fun r i W => ∃ (k : Nat) (v : Int), k ≤ u.n ∧ i = .int .i64 k ∧ r = .int .i64 v ∧ Hid (Bx.verd lo hi (cs.drop k) v = Bx.verd lo hi cs 1) ∧ Hid (Below w.heap.size w W)) (fun _ i _ => u.n - (intOf i).toNat)
  case atStart => exact ⟨0, 1, Nat.zero_le _, rfl, rfl, Lib.hid rfl, Lib.hid (Below.refl _ _)⟩
  case round =>
    obtain ⟨k, v, hk, rfl, rfl, HK, HB⟩ := hrel
    by_cases hlt : k < u.n
    · obtain ⟨b, off, e, hA, hb, hek, hc⟩ := HU.out.at_ (fun _ => rfl) (by omega) hlt
      have hkl : k < qs.length := by rw [HL.out]; exact hlt
      obtain ⟨q, hq⟩ : ∃ q, qs[k]? = some q := ⟨_, List.getElem?_eq_getElem hkl⟩
      have eq1 : q.1 = e := by rw [List.getElem?_map, hq] at hek; simpa using hek
      subst eq1
      have x0 : wr.cell? ⟨b, off + k * 2, none⟩ = some (.slice q.1.cf.a q.1.cf.n q.1.cf.c) := (HB.out.cell (p := ⟨b, off + k * 2, none⟩) hb).trans (hc 0 _ rfl)
      have x1 : wr.cell? ⟨b, off + k * 2 + 1, none⟩ = some (.int .i64 q.1.bd) := (HB.out.cell (p := ⟨b, off + k * 2 + 1, none⟩) hb).trans (hc 1 _ rfl)
      have hix : ∀ W : World, Sem.run Try.prog (Instr.indexAt 23 (.slice u.a u.n u.c) (.int .i64 (k : Int))) W = .ok (.pointer (some ⟨b, off + k * 2, none⟩)) W := by intro W; rw [hA]; go_simp
      have hck : cs.drop k = (q.2, q.1.bd) :: cs.drop (k + 1) := by
        have h1 : cs[k]? = some (q.2, q.1.bd) := by rw [← HQ3.out, List.getElem?_map, hq]; rfl
        obtain ⟨h2, h3⟩ := List.getElem?_eq_some_iff.1 h1
        rw [List.drop_eq_getElem_cons h2, h3]
      have HC := Lib.hid hc
      have HZ : Hid (Bx.verd lo hi cs 1 = if q.1.bd < (Bx.bounds lo hi q.2 (0, 0)).1 then 0 else Bx.verd lo hi (cs.drop (k + 1)) (if q.1.bd < (Bx.bounds lo hi q.2 (0, 0)).2 then -1 else v)) := Lib.hid (by rw [← HK.out, hck, Bx.verd])
      have CQ := Lib.hid (CB.out wr HB.out q (List.mem_of_getElem? hq))
      clear hA hek hc hck hq
      go_wp2_with fail
      refine CQ.out.mono ?_
      rintro x w1 ⟨rfl, h1⟩
      have HB1 := Lib.hid (HB.out.trans (h1.mono HB.out.size))
      clear h1 CQ x0 x1
      have x1 : w1.cell? ⟨b, off + k * 2 + 1, none⟩ = some (.int .i64 q.1.bd) := (HB1.out.cell (p := ⟨b, off + k * 2 + 1, none⟩) hb).trans (HC.out 1 _ rfl)
      obtain ⟨p1, p2, hp⟩ : ∃ p1 p2, Bx.bounds lo hi q.2 (0, 0) = (p1, p2) := ⟨_, _, rfl⟩
      rw [hp] at HZ ⊢
      clear hp
      dsimp only at HZ ⊢
      by_cases g1 : q.1.bd < p1
      · have HF : Hid (Bx.verd lo hi cs 1 = 0) := Lib.hid (by rw [HZ.out, if_pos g1])
        go_wp2_with fail
        go_ret
        exact ⟨ret_int HF.out.symm, HB1.out⟩
      · by_cases g2 : q.1.bd < p2
        · have HF : Hid (Bx.verd lo hi (cs.drop (k + 1)) (-1) = Bx.verd lo hi cs 1) := Lib.hid (by rw [HZ.out, if_neg g1, if_pos g2])
          go_wp2_with fail
          go_roundw
          case rel => exact ⟨k + 1, -1, by omega, by go_num, rfl, HF, HB1⟩
          case measure => simp [intOf]; omega
        · have HF : Hid (Bx.verd lo hi (cs.drop (k + 1)) v = Bx.verd lo hi cs 1) := Lib.hid (by rw [HZ.out, if_neg g1, if_neg g2])
          go_wp2_with fail
          go_roundw
          case rel => exact ⟨k + 1, v, by omega, by go_num, rfl, HF, HB1⟩
          case measure => simp [intOf]; omega
    · have HF : Hid (Bx.verd lo hi cs 1 = v) := Lib.hid (by
        rw [← HK.out, List.drop_eq_nil_of_le (by rw [← HQ3.out, List.length_map, HL.out]; omega)]
        rfl)
      go_wp2_with fail
      go_ret
      exact ⟨ret_int HF.out.symm, HB.out⟩
end Go.Proofs.Ytcncobhdfflelaa
