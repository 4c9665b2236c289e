/- The contract of retroactref20.insert. -/
import Derived.Test.YtjdjfjokniingaaSg
import Derived.Test.YtjdjfjokniingaaAp
namespace Go.Proofs.Ytjdjfjokniingaa
open Go.RowKit

namespace Sy
/-- how many channels stand before c in an ascending list -/
def pos (cs : List (Int × Int)) (c : Int × Int) : Nat := (cs.takeWhile fun x => chLt x c).length
def ins (cs : List (Int × Int)) (c : Int × Int) : List (Int × Int) := if cs[pos cs c]? = some c then cs else cs.take (pos cs c) ++ c :: cs.drop (pos cs c)
theorem pos_le (cs : List (Int × Int)) (c : Int × Int) : pos cs c ≤ cs.length := by
  unfold pos
  exact (List.takeWhile_prefix _).length_le
/-- k is the place where the search stops -/
theorem pos_of {cs : List (Int × Int)} {c : Int × Int} {k : Nat} (h : ∀ j x, j < k → cs[j]? = some x → chLt x c = true) (hk : k ≤ cs.length) (hs : ∀ x, cs[k]? = some x → chLt x c = false) : pos cs c = k := by
  induction cs generalizing k with
  | nil => simp at hk; subst hk; rfl
  | cons y r ih =>
    cases k with
    | zero =>
      have := hs y rfl
      simp [pos, this]
    | succ k =>
      have h0 := h 0 y (by omega) rfl
      have := ih (k := k) (fun j x hj hx => h (j + 1) x (by omega) (by simpa using hx)) (by simp at hk; omega) (fun x hx => hs x (by simpa using hx))
      simp [pos, h0] at this ⊢
      exact this
end Sy

theorem ml_le : 140737488355328 ≤ maxLen := by decide
theorem actn_one (l : List ActnC) : ∀ u ∈ l.flatMap actnL, u.oneCell' = true := by
  intro u hu
  obtain ⟨a, _, ha⟩ := List.mem_flatMap.1 hu
  simp [actnL] at ha
  rcases ha with rfl | rfl | rfl <;> rfl
theorem row_len {w : World} {base e k n n' : Nat} {v : Value} {xs xs' : List Value} (h : w.ownsRow base e k v n xs) (hn : n = n') (hx : xs = xs') : w.ownsRow base e k v n' xs' := by subst hn hx; exact h

set_option maxRecDepth 100000 in
set_option maxHeartbeats 1600000 in
theorem insert_some (base g cap : Nat) (cs : List (Int × Int)) (c : Int × Int) (w : World) (hr : w.ownsRow base 81 3 (.slice (some ⟨g, 0, none⟩) cs.length cap) cs.length ((cs.map Sy.chanOf).flatMap actnL)) (hb : base ≤ w.heap.size) (hn : (cs.length + 1) * 32 ≤ 140737488351232) :
    Calls Try.prog 93 #[.slice (some ⟨g, 0, none⟩) cs.length cap, .int .i64 c.1, .int .i64 c.2] w fun e w' => ∃ v, e = .returned v ∧ w'.ownsRow base 81 3 v (Sy.ins cs c).length (((Sy.ins cs c).map Sy.chanOf).flatMap actnL) ∧ Below w.heap.size w w' := by
  have hgs : g < w.heap.size := (hr.lt g rfl).2
  have hcap : cs.length ≤ cap ∧ cap ≤ maxLen := by
    rcases hr.2 with ⟨h0, _⟩ | ⟨g', cap', cur, hv, _, _, h1, h2, _⟩
    · cases h0
    · injection hv with _ _ h3; subst h3; exact ⟨h1, h2⟩
  have hcell : ∀ (k : Nat) (x : Int × Int), cs[k]? = some x → w.cell? ⟨g, k * 3 + 1, none⟩ = some (.int .i64 x.1) ∧ w.cell? ⟨g, k * 3 + 2, none⟩ = some (.int .i64 x.2) := by
    intro k x hx
    have := (rd_own hr).at_ (i := k) (fun _ => rfl) (by omega) (List.getElem?_eq_some_iff.1 hx).1
    obtain ⟨b, off, r, h1, _, h2, h3⟩ := this
    simp only [Option.some.injEq, Addr.mk.injEq] at h1
    obtain ⟨rfl, rfl, _⟩ := h1
    rw [List.getElem?_map, hx] at h2
    simp at h2
    subst h2
    have e1 := h3 1 _ rfl
    have e2 := h3 2 _ rfl
    rw [Nat.zero_add] at e1 e2
    exact And.intro e1 e2
  obtain ⟨hcap1, hcap2⟩ := hcap
  have hcap3 : cap ≤ 9223372036854775807 := hcap2
  clear hcap2
  have HC := Lib.hid hcell
  have HR := Lib.hid hr
  clear hcell hr
  go_enter Try.func93, Try.ntmps93
  go_wp2
  go_loop [7] (fun i => ∃ k : Nat, k ≤ cs.length ∧ i = .int .i64 k ∧ Hid (∀ j x, j < k → cs[j]? = some x → Sy.chLt x c = true)) (fun i => cs.length - (intOf i).toNat)
  case atStart => exact ⟨0, Nat.zero_le _, rfl, fun j x hj => absurd hj (by omega)⟩
  case round =>
    obtain ⟨k, hk, rfl, HJ⟩ := hrel
    by_cases hlt : k < cs.length
    · obtain ⟨x, hx⟩ : ∃ x, cs[k]? = some x := ⟨cs[k], List.getElem?_eq_getElem hlt⟩
      obtain ⟨c1, c2⟩ := HC.out k x hx
      have HX := Lib.hid hx
      clear hx
      cases hc : Sy.chLt x c with
      | true =>
        have HN := Lib.hid (show ∀ j y, j < k + 1 → cs[j]? = some y → Sy.chLt y c = true from fun j y hj hy => by
          by_cases h : j < k
          · exact HJ.out j y h hy
          · have : j = k := by omega
            subst this
            rw [HX.out] at hy
            injection hy with hy
            rw [← hy]; exact hc)
        cases t1 : decide (x.1 < c.1) with
        | true =>
          clear hc
          go_wp2
          go_round
          case rel => exact ⟨k + 1, by omega, by go_num, HN⟩
          case measure => simp [intOf]; omega
        | false =>
          have t2 : (x.1 == c.1) = true := by simp [Sy.chLt] at hc t1; simp; omega
          have t3 : decide (x.2 < c.2) = true := by simp [Sy.chLt] at hc t1; simp; omega
          clear hc
          go_wp2
          go_round
          case rel => exact ⟨k + 1, by omega, by go_num, HN⟩
          case measure => simp [intOf]; omega
      | false =>
        have hpos : Sy.pos cs c = k := Sy.pos_of HJ.out hk (fun y hy => by rw [HX.out] at hy; injection hy with hy; rw [← hy]; exact hc)
        have HP := Lib.hid hpos
        have t1 : decide (x.1 < c.1) = false := by simp [Sy.chLt] at hc ⊢; omega
        cases t2 : (x.1 == c.1) with
        | false =>
          clear hc hpos
          have hkc : k < cap := by omega
          have hkc1 : k ≤ cap := by omega
          have hkc2 : ¬ cap = k := by omega
          have hne : ¬ (cs[Sy.pos cs c]? = some c) := by rw [HP.out, HX.out]; intro h; injection h with h; rw [h] at t2; simp at t2
          have hfin : Sy.ins cs c = cs.take k ++ c :: cs.drop k := by rw [Sy.ins, if_neg hne, HP.out]
          have HFIN := Lib.hid hfin
          clear hfin hne
          obtain ⟨i0, hi, hz0, hz1, hz2⟩ := info_parts info81
          have e1 := Lib.hid (Nat.le_trans (show 0 + k ≤ 140737488355328 by omega) ml_le)
          have e2 := Lib.hid (Nat.le_trans (Nat.mul_le_mul_right 32 (show 0 + k ≤ cs.length + 1 by omega)) (Nat.le_trans hn (show 140737488351232 ≤ 140737488355328 by decide)))
          have e3 := Lib.hid (Nat.le_trans (show 0 + k + 1 ≤ 140737488355328 by omega) ml_le)
          have e4 := Lib.hid (Nat.le_trans (Nat.mul_le_mul_right 32 (show 0 + k + 1 ≤ cs.length + 1 by omega)) (Nat.le_trans hn (show 140737488351232 ≤ 140737488355328 by decide)))
          have e5 := Lib.hid (Nat.le_trans (show 0 + k + 1 + (cs.length - k) ≤ 140737488355328 by omega) ml_le)
          have e6 := Lib.hid (Nat.le_trans (Nat.mul_le_mul_right 32 (show 0 + k + 1 + (cs.length - k) ≤ cs.length + 1 by omega)) (Nat.le_trans hn (show 140737488351232 ≤ 140737488355328 by decide)))
          have hrd := rd_own HR.out
          have HT := Lib.hid (hrd.take_ (m := k) (by omega))
          have HD := Lib.hid (hrd.drop_ (m := k) (by omega))
          rw [flatMap_take actnL 3 (fun _ => rfl), ← List.map_take] at HT
          rw [flatMap_drop actnL 3 (fun _ => rfl), ← List.map_drop] at HD
          clear hrd
          go_wp2_with (first
            | (at_builtin; refine wpList_append_rd _ rfl (.tmp 65) (.tmp 68) 85 rfl w.heap.size 81 i0 _ 3 32 Try.underlying85 hi hz0 hz1 hz2 rfl (by decide) (.slice (some ⟨w.heap.size, 0, none⟩) 0 0) 0 [] rfl (World.ownsRow_lit w #[] 0 (Nat.le_refl _) (by unfold maxLen; omega) rfl) w.heap.size _ _ _ (((cs.take k).map Sy.chanOf).flatMap actnL) rfl (HT.out.below ((Below.refl _ _).alloc (Nat.le_refl _) _) (Nat.le_refl _)) (actn_one _) e1.out e2.out (by simp) ?_; intro v1 w1 ho1 hg1; have b1 := Lib.hid (((Below.refl w.heap.size w).alloc (Nat.le_refl _) (.cells #[] 81)).grown hg1 (by simp) (fun q hq => by simp [Value.ownBlock] at hq; omega)); have HO1 := Lib.hid ho1; have hs1 := b1.out.size; clear ho1 hg1)
            | (at_builtin; refine wpList_append_own _ rfl (.tmp 70) (.tmp 74) 85 rfl w.heap.size 81 i0 _ 3 32 Try.underlying85 hi hz0 hz1 hz2 rfl (by decide) _ _ _ rfl (HO1.out.alloc _) ⟨w1.heap.size, 0, none⟩ 1 1 [.string ⟨#[]⟩, .int .i64 c.1, .int .i64 c.2] rfl rfl (cells_new _ _ _) (by simp [Value.oneCell']) e3.out e4.out (Nat.le_trans hs1 (by simp)) ?_; intro v2 w2 ho2 hg2 _; have b2 := Lib.hid ((b1.out.alloc hs1 _).grown hg2 (Nat.le_trans hs1 (by simp)) (row_base HO1.out)); have HO2 := Lib.hid ho2; have hs2 := b2.out.size; clear ho2 hg2)
            | (at_builtin; refine wpList_append_rd _ rfl (.tmp 76) (.tmp 79) 85 rfl w.heap.size 81 i0 _ 3 32 Try.underlying85 hi hz0 hz1 hz2 rfl (by decide) _ _ _ rfl HO2.out w.heap.size _ _ _ (((cs.drop k).map Sy.chanOf).flatMap actnL) rfl (by have := HD.out.below b2.out (Nat.le_refl _); simpa using this) (actn_one _) e5.out e6.out hs2 ?_; intro v3 w3 ho3 hg3; have b3 := Lib.hid (b2.out.grown hg3 hs2 (row_base HO2.out)); have HO3 := Lib.hid ho3; clear ho3 hg3))
          go_ret
          exact ⟨v3, rfl, by rw [HFIN.out]; exact row_mono (row_len HO3.out (by simp; omega) (by simp [Sy.chanOf])) hb, b3.out⟩
        | true =>
          have t3 : decide (x.2 < c.2) = false := by simp [Sy.chLt] at hc t2 ⊢; omega
          cases t4 : (x.2 == c.2) with
          | true =>
            have hxc : x = c := Prod.ext (by simpa using t2) (by simpa using t4)
            have hfin : Sy.ins cs c = cs := by rw [Sy.ins, if_pos (by rw [HP.out, HX.out, hxc])]
            have HFIN := Lib.hid hfin
            clear hfin hxc hc hpos
            go_wp2_with fail
            go_ret
            exact ⟨_, rfl, by rw [HFIN.out]; exact HR.out, Below.refl _ _⟩
          | false =>
            clear hc hpos
            have hkc : k < cap := by omega
            have hkc1 : k ≤ cap := by omega
            have hkc2 : ¬ cap = k := by omega
            have hne : ¬ (cs[Sy.pos cs c]? = some c) := by rw [HP.out, HX.out]; intro h; injection h with h; rw [h] at t4; simp at t4
            have hfin : Sy.ins cs c = cs.take k ++ c :: cs.drop k := by rw [Sy.ins, if_neg hne, HP.out]
            have HFIN := Lib.hid hfin
            clear hfin hne
            obtain ⟨i0, hi, hz0, hz1, hz2⟩ := info_parts info81
            have e1 := Lib.hid (Nat.le_trans (show 0 + k ≤ 140737488355328 by omega) ml_le)
            have e2 := Lib.hid (Nat.le_trans (Nat.mul_le_mul_right 32 (show 0 + k ≤ cs.length + 1 by omega)) (Nat.le_trans hn (show 140737488351232 ≤ 140737488355328 by decide)))
            have e3 := Lib.hid (Nat.le_trans (show 0 + k + 1 ≤ 140737488355328 by omega) ml_le)
            have e4 := Lib.hid (Nat.le_trans (Nat.mul_le_mul_right 32 (show 0 + k + 1 ≤ cs.length + 1 by omega)) (Nat.le_trans hn (show 140737488351232 ≤ 140737488355328 by decide)))
            have e5 := Lib.hid (Nat.le_trans (show 0 + k + 1 + (cs.length - k) ≤ 140737488355328 by omega) ml_le)
            have e6 := Lib.hid (Nat.le_trans (Nat.mul_le_mul_right 32 (show 0 + k + 1 + (cs.length - k) ≤ cs.length + 1 by omega)) (Nat.le_trans hn (show 140737488351232 ≤ 140737488355328 by decide)))
            have hrd := rd_own HR.out
            have HT := Lib.hid (hrd.take_ (m := k) (by omega))
            have HD := Lib.hid (hrd.drop_ (m := k) (by omega))
            rw [flatMap_take actnL 3 (fun _ => rfl), ← List.map_take] at HT
            rw [flatMap_drop actnL 3 (fun _ => rfl), ← List.map_drop] at HD
            clear hrd
            go_wp2_with (first
              | (at_builtin; refine wpList_append_rd _ rfl (.tmp 65) (.tmp 68) 85 rfl w.heap.size 81 i0 _ 3 32 Try.underlying85 hi hz0 hz1 hz2 rfl (by decide) (.slice (some ⟨w.heap.size, 0, none⟩) 0 0) 0 [] rfl (World.ownsRow_lit w #[] 0 (Nat.le_refl _) (by unfold maxLen; omega) rfl) w.heap.size _ _ _ (((cs.take k).map Sy.chanOf).flatMap actnL) rfl (HT.out.below ((Below.refl _ _).alloc (Nat.le_refl _) _) (Nat.le_refl _)) (actn_one _) e1.out e2.out (by simp) ?_; intro v1 w1 ho1 hg1; have b1 := Lib.hid (((Below.refl w.heap.size w).alloc (Nat.le_refl _) (.cells #[] 81)).grown hg1 (by simp) (fun q hq => by simp [Value.ownBlock] at hq; omega)); have HO1 := Lib.hid ho1; have hs1 := b1.out.size; clear ho1 hg1)
              | (at_builtin; refine wpList_append_own _ rfl (.tmp 70) (.tmp 74) 85 rfl w.heap.size 81 i0 _ 3 32 Try.underlying85 hi hz0 hz1 hz2 rfl (by decide) _ _ _ rfl (HO1.out.alloc _) ⟨w1.heap.size, 0, none⟩ 1 1 [.string ⟨#[]⟩, .int .i64 c.1, .int .i64 c.2] rfl rfl (cells_new _ _ _) (by simp [Value.oneCell']) e3.out e4.out (Nat.le_trans hs1 (by simp)) ?_; intro v2 w2 ho2 hg2 _; have b2 := Lib.hid ((b1.out.alloc hs1 _).grown hg2 (Nat.le_trans hs1 (by simp)) (row_base HO1.out)); have HO2 := Lib.hid ho2; have hs2 := b2.out.size; clear ho2 hg2)
              | (at_builtin; refine wpList_append_rd _ rfl (.tmp 76) (.tmp 79) 85 rfl w.heap.size 81 i0 _ 3 32 Try.underlying85 hi hz0 hz1 hz2 rfl (by decide) _ _ _ rfl HO2.out w.heap.size _ _ _ (((cs.drop k).map Sy.chanOf).flatMap actnL) rfl (by have := HD.out.below b2.out (Nat.le_refl _); simpa using this) (actn_one _) e5.out e6.out hs2 ?_; intro v3 w3 ho3 hg3; have b3 := Lib.hid (b2.out.grown hg3 hs2 (row_base HO2.out)); have HO3 := Lib.hid ho3; clear ho3 hg3))
            go_ret
            exact ⟨v3, rfl, by rw [HFIN.out]; exact row_mono (row_len HO3.out (by simp; omega) (by simp [Sy.chanOf])) hb, b3.out⟩
    · have hpos : Sy.pos cs c = k := Sy.pos_of HJ.out hk (fun y hy => by rw [List.getElem?_eq_none (by omega)] at hy; cases hy)
      have HP := Lib.hid hpos
      clear hpos
      have HE := Lib.hid (show ∀ (W : World) (A : Option Addr), Rd W w.heap.size 3 A (cs.length - k) (((cs.drop k).map Sy.chanOf).flatMap actnL) from fun W A => by
        rw [show cs.length - k = 0 by omega, List.drop_of_length_le (by omega)]; exact Rd.none_)
      have hkc1 : k ≤ cap := by omega
      have hne : ¬ (cs[Sy.pos cs c]? = some c) := by rw [HP.out, List.getElem?_eq_none (by omega)]; simp
      have hfin : Sy.ins cs c = cs.take k ++ c :: cs.drop k := by rw [Sy.ins, if_neg hne, HP.out]
      have HFIN := Lib.hid hfin
      clear hfin hne
      obtain ⟨i0, hi, hz0, hz1, hz2⟩ := info_parts info81
      have e1 := Lib.hid (Nat.le_trans (show 0 + k ≤ 140737488355328 by omega) ml_le)
      have e2 := Lib.hid (Nat.le_trans (Nat.mul_le_mul_right 32 (show 0 + k ≤ cs.length + 1 by omega)) (Nat.le_trans hn (show 140737488351232 ≤ 140737488355328 by decide)))
      have e3 := Lib.hid (Nat.le_trans (show 0 + k + 1 ≤ 140737488355328 by omega) ml_le)
      have e4 := Lib.hid (Nat.le_trans (Nat.mul_le_mul_right 32 (show 0 + k + 1 ≤ cs.length + 1 by omega)) (Nat.le_trans hn (show 140737488351232 ≤ 140737488355328 by decide)))
      have e5 := Lib.hid (Nat.le_trans (show 0 + k + 1 + (cs.length - k) ≤ 140737488355328 by omega) ml_le)
      have e6 := Lib.hid (Nat.le_trans (Nat.mul_le_mul_right 32 (show 0 + k + 1 + (cs.length - k) ≤ cs.length + 1 by omega)) (Nat.le_trans hn (show 140737488351232 ≤ 140737488355328 by decide)))
      have hrd := rd_own HR.out
      have HT := Lib.hid (hrd.take_ (m := k) (by omega))
      have HD := Lib.hid (hrd.drop_ (m := k) (by omega))
      rw [flatMap_take actnL 3 (fun _ => rfl), ← List.map_take] at HT
      rw [flatMap_drop actnL 3 (fun _ => rfl), ← List.map_drop] at HD
      clear hrd
      go_wp2_with (first
        | (at_builtin; refine wpList_append_rd _ rfl (.tmp 65) (.tmp 68) 85 rfl w.heap.size 81 i0 _ 3 32 Try.underlying85 hi hz0 hz1 hz2 rfl (by decide) (.slice (some ⟨w.heap.size, 0, none⟩) 0 0) 0 [] rfl (World.ownsRow_lit w #[] 0 (Nat.le_refl _) (by unfold maxLen; omega) rfl) w.heap.size _ _ _ (((cs.take k).map Sy.chanOf).flatMap actnL) rfl (HT.out.below ((Below.refl _ _).alloc (Nat.le_refl _) _) (Nat.le_refl _)) (actn_one _) e1.out e2.out (by simp) ?_; intro v1 w1 ho1 hg1; have b1 := Lib.hid (((Below.refl w.heap.size w).alloc (Nat.le_refl _) (.cells #[] 81)).grown hg1 (by simp) (fun q hq => by simp [Value.ownBlock] at hq; omega)); have HO1 := Lib.hid ho1; have hs1 := b1.out.size; clear ho1 hg1)
        | (at_builtin; refine wpList_append_own _ rfl (.tmp 70) (.tmp 74) 85 rfl w.heap.size 81 i0 _ 3 32 Try.underlying85 hi hz0 hz1 hz2 rfl (by decide) _ _ _ rfl (HO1.out.alloc _) ⟨w1.heap.size, 0, none⟩ 1 1 [.string ⟨#[]⟩, .int .i64 c.1, .int .i64 c.2] rfl rfl (cells_new _ _ _) (by simp [Value.oneCell']) e3.out e4.out (Nat.le_trans hs1 (by simp)) ?_; intro v2 w2 ho2 hg2 _; have b2 := Lib.hid ((b1.out.alloc hs1 _).grown hg2 (Nat.le_trans hs1 (by simp)) (row_base HO1.out)); have HO2 := Lib.hid ho2; have hs2 := b2.out.size; clear ho2 hg2)
        | (at_builtin; refine wpList_append_rd _ rfl (.tmp 76) (.tmp 79) 85 rfl w.heap.size 81 i0 _ 3 32 Try.underlying85 hi hz0 hz1 hz2 rfl (by decide) _ _ _ rfl HO2.out w.heap.size _ _ _ (((cs.drop k).map Sy.chanOf).flatMap actnL) rfl (HE.out _ _) (actn_one _) e5.out e6.out hs2 ?_; intro v3 w3 ho3 hg3; have b3 := Lib.hid (b2.out.grown hg3 hs2 (row_base HO2.out)); have HO3 := Lib.hid ho3; clear ho3 hg3))
      all_goals
        go_ret
        exact ⟨v3, rfl, by rw [HFIN.out]; exact row_mono (row_len HO3.out (by simp; omega) (by simp [Sy.chanOf])) hb, b3.out⟩

set_option maxRecDepth 100000 in
set_option maxHeartbeats 1600000 in
theorem insert_nil (c : Int × Int) (w : World) :
    Calls Try.prog 93 #[.slice none 0 0, .int .i64 c.1, .int .i64 c.2] w fun e w' => ∃ v, e = .returned v ∧ w'.ownsRow w.heap.size 81 3 v 1 (actnL (Sy.chanOf c)) ∧ Below w.heap.size w w' := by
  obtain ⟨i0, hi, hz0, hz1, hz2⟩ := info_parts info81
  have e1 := Lib.hid (show 0 + 0 ≤ maxLen by decide)
  have e2 := Lib.hid (show (0 + 0) * 32 ≤ 140737488355328 by decide)
  have e3 := Lib.hid (show 0 + 0 + 1 ≤ maxLen by decide)
  have e4 := Lib.hid (show (0 + 0 + 1) * 32 ≤ 140737488355328 by decide)
  have e5 := Lib.hid (show 0 + 0 + 1 + 0 ≤ maxLen by decide)
  have e6 := Lib.hid (show (0 + 0 + 1 + 0) * 32 ≤ 140737488355328 by decide)
  go_enter Try.func93, Try.ntmps93
  go_wp2
  refine wp_loop_rounds 1 ?_
  rw [rounds_succ]
  go_wp2_with (first
    | (at_builtin; refine wpList_append_rd _ rfl (.tmp 65) (.tmp 68) 85 rfl w.heap.size 81 i0 _ 3 32 Try.underlying85 hi hz0 hz1 hz2 rfl (by decide) (.slice (some ⟨w.heap.size, 0, none⟩) 0 0) 0 [] rfl (World.ownsRow_lit w #[] 0 (Nat.le_refl _) (by decide) rfl) w.heap.size _ _ _ [] rfl Rd.none_ (by simp) e1.out e2.out (by simp) ?_; intro v1 w1 ho1 hg1; have b1 := Lib.hid (((Below.refl w.heap.size w).alloc (Nat.le_refl _) (.cells #[] 81)).grown hg1 (by simp) (fun q hq => by simp [Value.ownBlock] at hq; omega)); have HO1 := Lib.hid ho1; have hs1 := b1.out.size; clear ho1 hg1)
    | (at_builtin; refine wpList_append_own _ rfl (.tmp 70) (.tmp 74) 85 rfl w.heap.size 81 i0 _ 3 32 Try.underlying85 hi hz0 hz1 hz2 rfl (by decide) _ _ _ rfl (HO1.out.alloc _) ⟨w1.heap.size, 0, none⟩ 1 1 [.string ⟨#[]⟩, .int .i64 c.1, .int .i64 c.2] rfl rfl (cells_new _ _ _) (by simp [Value.oneCell']) e3.out e4.out (Nat.le_trans hs1 (by simp)) ?_; intro v2 w2 ho2 hg2 _; have b2 := Lib.hid ((b1.out.alloc hs1 _).grown hg2 (Nat.le_trans hs1 (by simp)) (row_base HO1.out)); have HO2 := Lib.hid ho2; have hs2 := b2.out.size; clear ho2 hg2)
    | (at_builtin; refine wpList_append_rd _ rfl (.tmp 76) (.tmp 79) 85 rfl w.heap.size 81 i0 _ 3 32 Try.underlying85 hi hz0 hz1 hz2 rfl (by decide) _ _ _ rfl HO2.out w.heap.size _ _ _ [] rfl Rd.none_ (by simp) e5.out e6.out hs2 ?_; intro v3 w3 ho3 hg3; have b3 := Lib.hid (b2.out.grown hg3 hs2 (row_base HO2.out)); have HO3 := Lib.hid ho3; clear ho3 hg3))
  go_ret
  exact ⟨v3, rfl, row_len HO3.out (by simp) (by simp [Sy.chanOf]), b3.out⟩

theorem insert_any (base : Nat) (v : Value) (cs : List (Int × Int)) (c : Int × Int) (w : World) (hr : w.ownsRow base 81 3 v cs.length ((cs.map Sy.chanOf).flatMap actnL)) (hb : base ≤ w.heap.size) (hn : (cs.length + 1) * 32 ≤ 140737488351232) :
    Calls Try.prog 93 #[v, .int .i64 c.1, .int .i64 c.2] w fun e w' => ∃ v', e = .returned v' ∧ w'.ownsRow base 81 3 v' (Sy.ins cs c).length (((Sy.ins cs c).map Sy.chanOf).flatMap actnL) ∧ Below w.heap.size w w' := by
  rcases hr.2 with ⟨rfl, h0⟩ | ⟨g, cap, cur, rfl, _⟩
  · have hcs : cs = [] := List.eq_nil_of_length_eq_zero h0
    subst hcs
    exact (insert_nil c w).mono fun e w' ⟨v, he, hv, hb'⟩ => ⟨v, he, row_mono (row_len hv (by simp [Sy.ins, Sy.pos]) (by simp [Sy.ins, Sy.pos])) hb, hb'⟩
  · exact insert_some base g cap cs c w hr hb hn
end Go.Proofs.Ytjdjfjokniingaa
