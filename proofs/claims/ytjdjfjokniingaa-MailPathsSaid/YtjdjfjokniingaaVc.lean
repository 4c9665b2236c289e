/- The contract of the reference's Parse. -/
import Derived.Test.YtjdjfjokniingaaVb
namespace Go.Proofs.Ytjdjfjokniingaa
open Go.RowKit

namespace Ml
theorem rtail_none {neg : Bool} {s D : List UInt8} {low high : Int} (h : pfold D 0 = none) : rtail neg s D low high = (0, false) := by simp [rtail, h]
theorem rtail_some {neg : Bool} {s D : List UInt8} {low high n m : Int} (h : pfold D 0 = some n) (hm : m = if neg then n else -n) (hn : ¬ (neg = false ∧ n = -9223372036854775808)) : rtail neg s D low high = if txt m ≠ s ∨ m < low ∨ high < m then (0, false) else (m, true) := by
  subst hm
  unfold rtail
  rw [h]
  simp only
  rw [if_neg hn]
theorem rtail_least {s D : List UInt8} {low high : Int} (h : pfold D 0 = some (-9223372036854775808)) : rtail false s D low high = (0, false) := by simp [rtail, h]
end Ml
theorem ret_pair {R : Int × Bool} {x : Int} {y : Bool} (h : R = (x, y)) : Ending.returned (.tuple #[.int .i64 x, .bool y]) = .returned (.tuple #[.int .i64 R.1, .bool R.2]) := by rw [h]
set_option linter.unusedSimpArgs false in
set_option linter.unusedVariables false in
set_option maxRecDepth 100000 in
set_option maxHeartbeats 6400000 in
theorem parse97 (s : ByteArray) (low high : Int) (w : World) (hs : s.size ≤ 1000000) :
    Calls Try.prog 97 #[.string s, .int .i64 low, .int .i64 high] w fun e w' => e = .returned (.tuple #[.int .i64 (Ml.rnum s.data.toList low high).1, .bool (Ml.rnum s.data.toList low high).2]) ∧ Below w.heap.size w w' := by
  obtain ⟨R, HR⟩ : ∃ R, Hid (R = Ml.rnum s.data.toList low high) := ⟨_, Lib.hid rfl⟩
  rw [← HR.out]
  go_enter Try.func97, Try.ntmps97
  by_cases h0 : 0 < s.size
  · obtain ⟨c0, l0, hcl⟩ : ∃ c0 l0, s.data.toList = c0 :: l0 := by
      cases h : s.data.toList with
      | nil =>
        have := congrArg List.length h
        rw [Array.length_toList] at this
        have h2 : s.size = 0 := this
        omega
      | cons c l => exact ⟨c, l, rfl⟩
    have hsl : s.size = l0.length + 1 := by
      have := congrArg List.length hcl
      rw [Array.length_toList] at this
      simpa using this
    have hc0 : s[0]'h0 = c0 := by
      have : s.data.toList[0]? = some c0 := by rw [hcl]; rfl
      rw [Array.getElem?_toList] at this
      have h2 := (Array.getElem?_eq_some_iff.1 this).2
      simpa [ByteArray.getElem_eq_getElem_data] using h2
    by_cases hm : ((s[0]'h0).toNat : Int) = 45
    · have hm1 : c0 = 45 := by
        rw [hc0] at hm
        apply UInt8.toNat_inj.1
        have : (45 : UInt8).toNat = 45 := rfl
        omega
      obtain ⟨D, HD⟩ : ∃ D, s.extract 1 s.size = D := ⟨_, rfl⟩
      have hDl : D.data.toList = l0 := by
        rw [← HD, ByteArray.data_extract, Array.toList_extract, List.extract_eq_take_drop, hcl]
        simp only [List.drop_succ_cons, List.drop_zero]
        apply List.take_of_length_le
        omega
      have hsl1 : ∀ W, Sem.run Try.prog (Instr.sliceAt 9 (.string s) (some (.int .i64 1)) none none) W = .ok (.string D) W := by
        intro W
        have hb : (1 : Int) ≤ s.size := by omega
        rw [← HD]
        simp [go_sem, Try.underlying9, hb]
      have hDs : D.size ≤ 1000000 := by
        have := congrArg List.length hDl
        rw [Array.length_toList] at this
        have h2 : D.size = l0.length := this
        omega
      have HT : Hid (R = Ml.rtail true s.data.toList D.data.toList low high) := Lib.hid (by rw [HR.out, hDl, hcl, Ml.rnum, if_pos hm1])
      clear HD hDl hcl hc0 hsl
      go_wp2_with fail
      go_loopw [11, 12] (fun vn vi wr => ∃ (k : Nat) (r : Int), k ≤ D.size ∧ vi = .int .i64 k ∧ vn = .int .i64 r ∧ -9223372036854775808 ≤ r ∧ r ≤ 0 ∧ Hid (Ml.pfold (D.data.toList.drop k) r = Ml.pfold D.data.toList 0) ∧ Below w.heap.size w wr) (fun _ vi _ => D.size - (intOf vi).toNat)
      case atStart => exact ⟨0, 0, Nat.zero_le _, rfl, rfl, by omega, by omega, Lib.hid rfl, Below.refl _ _⟩
      case round =>
        obtain ⟨k, r, hk, rfl, rfl, hr1, hr2, HF, hB⟩ := hrel
        have HB := Lib.hid hB
        clear hB
        by_cases hlt : k < D.size
        · obtain ⟨c, hc⟩ : ∃ c : Nat, (D[k]'hlt).toNat = c := ⟨_, rfl⟩
          have HP := Lib.hid (Ml.pfold_at D k r hlt c hc)
          have hc9 : c < 256 := by rw [← hc]; exact UInt8.toNat_lt _
          have hbad : Hid (¬ (48 ≤ (c : Int) ∧ (c : Int) ≤ 57 ∧ Int.tdiv (-9223372036854775808 + ((c : Int) - 48)) 10 ≤ r) → R = (0, false)) := Lib.hid (fun h => by
            rw [HT.out]
            refine Ml.rtail_none ?_
            rw [← HF.out, HP.out, if_neg h])
          by_cases h48 : (c : Int) < 48
          · go_wp2_with fail
            go_ret2
            exact ⟨ret_pair (hbad.out (by omega)), HB.out⟩
          · have h48' : 48 ≤ (c : Int) := by omega
            by_cases h57 : 9 < (c : Int) - 48
            · go_wp2_with fail
              go_ret2
              exact ⟨ret_pair (hbad.out (by omega)), HB.out⟩
            · have h57' : (c : Int) - 48 ≤ 9 := by omega
              have h00 : 0 ≤ (c : Int) - 48 := by omega
              by_cases hq : r < Int.tdiv (-9223372036854775808 + ((c : Int) - 48)) 10
              · have hbq := hbad.out (fun h => absurd h.2.2 (by omega))
                have HBQ := Lib.hid hbq
                clear hbq
                go_wp2_with fail
                go_ret2
                exact ⟨ret_pair HBQ.out, HB.out⟩
              · have hq' : Int.tdiv (-9223372036854775808 + ((c : Int) - 48)) 10 ≤ r := by omega
                have hge := Ml.quo_step c r h48' (by omega) hq'
                have HN : Hid (Ml.pfold (D.data.toList.drop (k + 1)) (r * 10 - ((c : Int) - 48)) = Ml.pfold D.data.toList 0) := Lib.hid (by
                  have h := HP.out
                  rw [if_pos ⟨h48', by omega, hq'⟩, HF.out] at h
                  exact h.symm)
                obtain ⟨r', hr'⟩ : ∃ r', r' = r * 10 - ((c : Int) - 48) := ⟨_, rfl⟩
                have ew : IntKind.i64.wrap (IntKind.i64.wrap (10 * r) - ((c : Int) - 48)) = r' := by rw [IntWalk.i64_left, IntWalk.i64_left, IntWalk.wrap64_in (10 * r) (by omega), IntWalk.wrap64_in _ (by omega)]; omega
                have ew2 : wrap64 (wrap64 (10 * r) - ((c : Int) - 48)) = r' := by rw [IntWalk.wrap64_in (10 * r) (by omega), IntWalk.wrap64_in _ (by omega)]; omega
                rw [← hr'] at HN hge
                have hr0 : r' ≤ 0 := by omega
                clear hr' hbad HP
                go_wp2_with fail
                go_roundw
                case rel => exact ⟨k + 1, r', by omega, by go_num, by first | rfl | (rw [ew2]), hge, hr0, HN, HB.out⟩
                case measure => simp [intOf]; omega
        · have hend : Ml.pfold D.data.toList 0 = some r := by
            rw [← HF.out, List.drop_eq_nil_of_le (by rw [Array.length_toList]; exact Nat.le_of_not_lt hlt)]; rfl
          have HE := Lib.hid hend
          clear hend HF
          obtain ⟨m, hm⟩ : ∃ m, m = r := ⟨_, rfl⟩
          have HX : Hid (R = if Ml.txt m ≠ s.data.toList ∨ m < low ∨ high < m then (0, false) else (m, true)) := Lib.hid (by rw [HT.out]; exact Ml.rtail_some HE.out (by simpa using hm) (fun h => by simp at h))
          have hm1 : -9223372036854775808 ≤ m := by omega
          have hm2 : m ≤ 9223372036854775807 := by omega
          subst hm
          go_wp2_with fail
          refine (text_any m hm1 hm2 _).mono ?_
          rintro e v1 ⟨t, rfl, ht, hb⟩
          replace HB := Lib.hid (Below.call HB.out hb)
          have HTX := Lib.hid ht
          clear ht hb
          by_cases htt : t = s
          · have y1 := str_yes htt
            have hts : Ml.txt m = s.data.toList := by rw [← HTX.out, htt]
            have HTS := Lib.hid hts
            clear htt hts
            by_cases hlo : m < low
            · have HQ : Hid (R = (0, false)) := Lib.hid (by rw [HX.out, if_pos (.inr (.inl hlo))])
              go_wp2_with fail
              go_ret2
              exact ⟨ret_pair HQ.out, HB.out⟩
            · by_cases hhi : high < m
              · have HQ : Hid (R = (0, false)) := Lib.hid (by rw [HX.out, if_pos (.inr (.inr hhi))])
                go_wp2_with fail
                go_ret2
                exact ⟨ret_pair HQ.out, HB.out⟩
              · have HQ : Hid (R = (m, true)) := Lib.hid (by rw [HX.out, if_neg (fun h => by rcases h with h | h | h; exact h HTS.out; exact hlo h; exact hhi h)])
                go_wp2_with fail
                go_ret2
                exact ⟨ret_pair HQ.out, HB.out⟩
          · have y1 := str_no htt
            have HQ : Hid (R = (0, false)) := Lib.hid (by rw [HX.out, if_pos (.inl (fun h => htt (ByteArray.ext (Array.toList_inj.1 (HTX.out.trans h)))))])
            clear htt
            go_wp2_with fail
            go_ret2
            exact ⟨ret_pair HQ.out, HB.out⟩
    · have HT : Hid (R = Ml.rtail false s.data.toList s.data.toList low high) := Lib.hid (by
        rw [HR.out, hcl, Ml.rnum, if_neg]
        rintro rfl
        rw [hc0] at hm
        exact hm rfl)
      clear hcl hc0 hsl
      go_wp2_with fail
      go_loopw [11, 12] (fun vn vi wr => ∃ (k : Nat) (r : Int), k ≤ s.size ∧ vi = .int .i64 k ∧ vn = .int .i64 r ∧ -9223372036854775808 ≤ r ∧ r ≤ 0 ∧ Hid (Ml.pfold (s.data.toList.drop k) r = Ml.pfold s.data.toList 0) ∧ Below w.heap.size w wr) (fun _ vi _ => s.size - (intOf vi).toNat)
      case atStart => exact ⟨0, 0, Nat.zero_le _, rfl, rfl, by omega, by omega, Lib.hid rfl, Below.refl _ _⟩
      case round =>
        obtain ⟨k, r, hk, rfl, rfl, hr1, hr2, HF, hB⟩ := hrel
        have HB := Lib.hid hB
        clear hB
        by_cases hlt : k < s.size
        · obtain ⟨c, hc⟩ : ∃ c : Nat, (s[k]'hlt).toNat = c := ⟨_, rfl⟩
          have HP := Lib.hid (Ml.pfold_at s k r hlt c hc)
          have hc9 : c < 256 := by rw [← hc]; exact UInt8.toNat_lt _
          have hbad : Hid (¬ (48 ≤ (c : Int) ∧ (c : Int) ≤ 57 ∧ Int.tdiv (-9223372036854775808 + ((c : Int) - 48)) 10 ≤ r) → R = (0, false)) := Lib.hid (fun h => by
            rw [HT.out]
            refine Ml.rtail_none ?_
            rw [← HF.out, HP.out, if_neg h])
          by_cases h48 : (c : Int) < 48
          · go_wp2_with fail
            go_ret2
            exact ⟨ret_pair (hbad.out (by omega)), HB.out⟩
          · have h48' : 48 ≤ (c : Int) := by omega
            by_cases h57 : 9 < (c : Int) - 48
            · go_wp2_with fail
              go_ret2
              exact ⟨ret_pair (hbad.out (by omega)), HB.out⟩
            · have h57' : (c : Int) - 48 ≤ 9 := by omega
              have h00 : 0 ≤ (c : Int) - 48 := by omega
              by_cases hq : r < Int.tdiv (-9223372036854775808 + ((c : Int) - 48)) 10
              · have hbq := hbad.out (fun h => absurd h.2.2 (by omega))
                have HBQ := Lib.hid hbq
                clear hbq
                go_wp2_with fail
                go_ret2
                exact ⟨ret_pair HBQ.out, HB.out⟩
              · have hq' : Int.tdiv (-9223372036854775808 + ((c : Int) - 48)) 10 ≤ r := by omega
                have hge := Ml.quo_step c r h48' (by omega) hq'
                have HN : Hid (Ml.pfold (s.data.toList.drop (k + 1)) (r * 10 - ((c : Int) - 48)) = Ml.pfold s.data.toList 0) := Lib.hid (by
                  have h := HP.out
                  rw [if_pos ⟨h48', by omega, hq'⟩, HF.out] at h
                  exact h.symm)
                obtain ⟨r', hr'⟩ : ∃ r', r' = r * 10 - ((c : Int) - 48) := ⟨_, rfl⟩
                have ew : IntKind.i64.wrap (IntKind.i64.wrap (10 * r) - ((c : Int) - 48)) = r' := by rw [IntWalk.i64_left, IntWalk.i64_left, IntWalk.wrap64_in (10 * r) (by omega), IntWalk.wrap64_in _ (by omega)]; omega
                have ew2 : wrap64 (wrap64 (10 * r) - ((c : Int) - 48)) = r' := by rw [IntWalk.wrap64_in (10 * r) (by omega), IntWalk.wrap64_in _ (by omega)]; omega
                rw [← hr'] at HN hge
                have hr0 : r' ≤ 0 := by omega
                clear hr' hbad HP
                go_wp2_with fail
                refine ⟨⟨u6, u7, .int .i64 r', .int .i64 ((k : Int) + 1), ⟨k + 1, by omega, by go_num, r', rfl, hge, hr0, HN, HB.out⟩, rfl, rfl, rfl, rfl⟩, ?_⟩
                simp [intOf]
                omega
        · have hend : Ml.pfold s.data.toList 0 = some r := by
            rw [← HF.out, List.drop_eq_nil_of_le (by rw [Array.length_toList]; exact Nat.le_of_not_lt hlt)]; rfl
          have HE := Lib.hid hend
          clear hend HF
          by_cases hmin : r = -9223372036854775808
          · have HX : Hid (R = (0, false)) := Lib.hid (by rw [HT.out]; exact Ml.rtail_least (by rw [← hmin]; exact HE.out))
            subst hmin
            go_wp2_with fail
            go_ret2
            exact ⟨ret_pair HX.out, HB.out⟩
          have hminb : (r == -9223372036854775808) = false := by simp [hmin]
          obtain ⟨m, hm⟩ : ∃ m, m = -r := ⟨_, rfl⟩
          have ew : IntKind.i64.wrap (-r) = m := by rw [IntWalk.i64_left, IntWalk.wrap64_in _ (by omega)]; exact hm.symm
          have HX : Hid (R = if Ml.txt m ≠ s.data.toList ∨ m < low ∨ high < m then (0, false) else (m, true)) := Lib.hid (by rw [HT.out]; exact Ml.rtail_some HE.out (by simpa using hm) (fun h => hmin h.2))
          have hm1 : -9223372036854775808 ≤ m := by omega
          have hm2 : m ≤ 9223372036854775807 := by omega
          clear hm
          go_wp2_with fail
          refine (text_any m hm1 hm2 _).mono ?_
          rintro e v1 ⟨t, rfl, ht, hb⟩
          replace HB := Lib.hid (Below.call HB.out hb)
          have HTX := Lib.hid ht
          clear ht hb
          by_cases htt : t = s
          · have y1 := str_yes htt
            have hts : Ml.txt m = s.data.toList := by rw [← HTX.out, htt]
            have HTS := Lib.hid hts
            clear htt hts
            by_cases hlo : m < low
            · have HQ : Hid (R = (0, false)) := Lib.hid (by rw [HX.out, if_pos (.inr (.inl hlo))])
              go_wp2_with fail
              go_ret2
              exact ⟨ret_pair HQ.out, HB.out⟩
            · by_cases hhi : high < m
              · have HQ : Hid (R = (0, false)) := Lib.hid (by rw [HX.out, if_pos (.inr (.inr hhi))])
                go_wp2_with fail
                go_ret2
                exact ⟨ret_pair HQ.out, HB.out⟩
              · have HQ : Hid (R = (m, true)) := Lib.hid (by rw [HX.out, if_neg (fun h => by rcases h with h | h | h; exact h HTS.out; exact hlo h; exact hhi h)])
                go_wp2_with fail
                go_ret2
                exact ⟨ret_pair HQ.out, HB.out⟩
          · have y1 := str_no htt
            have HQ : Hid (R = (0, false)) := Lib.hid (by rw [HX.out, if_pos (.inl (fun h => htt (ByteArray.ext (Array.toList_inj.1 (HTX.out.trans h)))))])
            clear htt
            go_wp2_with fail
            go_ret2
            exact ⟨ret_pair HQ.out, HB.out⟩
  · have hnil : s.data.toList = [] := List.eq_nil_of_length_eq_zero (by rw [Array.length_toList]; show s.size = 0; omega)
    have HT : Hid (R = Ml.rtail false s.data.toList s.data.toList low high) := Lib.hid (by rw [HR.out, hnil, Ml.rnum])
    clear hnil
    go_wp2_with fail
    go_loopw [11, 12] (fun vn vi wr => ∃ (k : Nat) (r : Int), k ≤ s.size ∧ vi = .int .i64 k ∧ vn = .int .i64 r ∧ -9223372036854775808 ≤ r ∧ r ≤ 0 ∧ Hid (Ml.pfold (s.data.toList.drop k) r = Ml.pfold s.data.toList 0) ∧ Below w.heap.size w wr) (fun _ vi _ => s.size - (intOf vi).toNat)
    case atStart => exact ⟨0, 0, Nat.zero_le _, rfl, rfl, by omega, by omega, Lib.hid rfl, Below.refl _ _⟩
    case round =>
      obtain ⟨k, r, hk, rfl, rfl, hr1, hr2, HF, hB⟩ := hrel
      have HB := Lib.hid hB
      clear hB
      by_cases hlt : k < s.size
      · exact absurd hlt (by omega)
      · have hend : Ml.pfold s.data.toList 0 = some r := by
          rw [← HF.out, List.drop_eq_nil_of_le (by rw [Array.length_toList]; exact Nat.le_of_not_lt hlt)]; rfl
        have HE := Lib.hid hend
        clear hend HF
        by_cases hmin : r = -9223372036854775808
        · have HX : Hid (R = (0, false)) := Lib.hid (by rw [HT.out]; exact Ml.rtail_least (by rw [← hmin]; exact HE.out))
          subst hmin
          go_wp2_with fail
          go_ret2
          exact ⟨ret_pair HX.out, HB.out⟩
        have hminb : (r == -9223372036854775808) = false := by simp [hmin]
        obtain ⟨m, hm⟩ : ∃ m, m = -r := ⟨_, rfl⟩
        have ew : IntKind.i64.wrap (-r) = m := by rw [IntWalk.i64_left, IntWalk.wrap64_in _ (by omega)]; exact hm.symm
        have HX : Hid (R = if Ml.txt m ≠ s.data.toList ∨ m < low ∨ high < m then (0, false) else (m, true)) := Lib.hid (by rw [HT.out]; exact Ml.rtail_some HE.out (by simpa using hm) (fun h => hmin h.2))
        have hm1 : -9223372036854775808 ≤ m := by omega
        have hm2 : m ≤ 9223372036854775807 := by omega
        clear hm
        go_wp2_with fail
        refine (text_any m hm1 hm2 _).mono ?_
        rintro e v1 ⟨t, rfl, ht, hb⟩
        replace HB := Lib.hid (Below.call HB.out hb)
        have HTX := Lib.hid ht
        clear ht hb
        by_cases htt : t = s
        · have y1 := str_yes htt
          have hts : Ml.txt m = s.data.toList := by rw [← HTX.out, htt]
          have HTS := Lib.hid hts
          clear htt hts
          by_cases hlo : m < low
          · have HQ : Hid (R = (0, false)) := Lib.hid (by rw [HX.out, if_pos (.inr (.inl hlo))])
            go_wp2_with fail
            go_ret2
            exact ⟨ret_pair HQ.out, HB.out⟩
          · by_cases hhi : high < m
            · have HQ : Hid (R = (0, false)) := Lib.hid (by rw [HX.out, if_pos (.inr (.inr hhi))])
              go_wp2_with fail
              go_ret2
              exact ⟨ret_pair HQ.out, HB.out⟩
            · have HQ : Hid (R = (m, true)) := Lib.hid (by rw [HX.out, if_neg (fun h => by rcases h with h | h | h; exact h HTS.out; exact hlo h; exact hhi h)])
              go_wp2_with fail
              go_ret2
              exact ⟨ret_pair HQ.out, HB.out⟩
        · have y1 := str_no htt
          have HQ : Hid (R = (0, false)) := Lib.hid (by rw [HX.out, if_pos (.inl (fun h => htt (ByteArray.ext (Array.toList_inj.1 (HTX.out.trans h)))))])
          clear htt
          go_wp2_with fail
          go_ret2
          exact ⟨ret_pair HQ.out, HB.out⟩
end Go.Proofs.Ytjdjfjokniingaa
