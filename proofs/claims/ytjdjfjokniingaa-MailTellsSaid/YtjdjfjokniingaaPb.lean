/- num.Parse. -/
import Derived.Test.YtjdjfjokniingaaPa
import Derived.Lib.OthersKept
namespace Go.Proofs.Ytjdjfjokniingaa
open Go.RowKit

namespace Ml
/-- The loop of Parse: the negated number of the digits so far, or none. -/
def pfold : List UInt8 → Int → Option Int
  | [], n => some n
  | c :: l, n => if 48 ≤ (c.toNat : Int) ∧ (c.toNat : Int) ≤ 57 ∧ Int.tdiv (-9223372036854775808 + ((c.toNat : Int) - 48)) 10 ≤ n then pfold l (n * 10 - ((c.toNat : Int) - 48)) else none
def pfin (m low high : Int) : Int × Bool := if m < low ∨ high < m then (0, false) else (m, true)
def ptail (neg : Bool) (D : List UInt8) (low high : Int) : Int × Bool :=
  match pfold D 0 with
  | none => (0, false)
  | some n => if neg then pfin n low high else if n = -9223372036854775808 then (0, false) else pfin (-n) low high
def pnum (s : List UInt8) (low high : Int) : Int × Bool :=
  match s with
  | [] => (0, false)
  | c :: l => if c = 45 then (match l with | [] => (0, false) | d :: _ => if d = 48 then (0, false) else ptail true l low high)
    else if c = 48 ∧ l ≠ [] then (0, false) else ptail false (c :: l) low high

theorem ptail_none {neg : Bool} {D : List UInt8} {low high : Int} (h : pfold D 0 = none) : ptail neg D low high = (0, false) := by simp [ptail, h]
theorem ptail_neg {D : List UInt8} {low high n : Int} (h : pfold D 0 = some n) : ptail true D low high = pfin n low high := by simp [ptail, h]
theorem ptail_min {D : List UInt8} {low high : Int} (h : pfold D 0 = some (-9223372036854775808)) : ptail false D low high = (0, false) := by simp [ptail, h]
theorem ptail_pos {D : List UInt8} {low high n : Int} (h : pfold D 0 = some n) (hn : ¬ n = -9223372036854775808) : ptail false D low high = pfin (-n) low high := by simp [ptail, h, hn]
theorem pfin_lo {m low high : Int} (h : m < low) : pfin m low high = (0, false) := by simp [pfin, h]
theorem pfin_hi {m low high : Int} (h : high < m) : pfin m low high = (0, false) := by simp [pfin, h]
theorem pfin_in {m low high : Int} (h : ¬ m < low) (h' : ¬ high < m) : pfin m low high = (m, true) := by simp [pfin, h, h']
theorem drop_all (s : ByteArray) : s.data.toList.drop s.size = [] := by
  apply List.drop_eq_nil_of_le
  rw [Array.length_toList]
  exact Nat.le_refl _
theorem pfold_at (s : ByteArray) (pos : Nat) (n : Int) (h : pos < s.size) (c : Nat) (hc : (s[pos]'h).toNat = c) :
    pfold (s.data.toList.drop pos) n = if 48 ≤ (c : Int) ∧ (c : Int) ≤ 57 ∧ Int.tdiv (-9223372036854775808 + ((c : Int) - 48)) 10 ≤ n then pfold (s.data.toList.drop (pos + 1)) (n * 10 - ((c : Int) - 48)) else none := by
  have hl : pos < s.data.toList.length := by rw [Array.length_toList]; exact h
  rw [List.drop_eq_getElem_cons hl, pfold]
  have e : s.data.toList[pos].toNat = c := by rw [← hc]; simp [ByteArray.getElem_eq_getElem_data]
  rw [e]
theorem head_of (D : ByteArray) (he : D.toList.isEmpty = false) : ∃ d0 l1, D.data.toList = d0 :: l1 ∧ ∃ h : 0 < D.size, D[0]'h = d0 := by
  rw [ByteArray.toList_eq] at he
  cases h : D.data.toList with
  | nil => rw [h] at he; simp at he
  | cons c l =>
    have h0 : 0 < D.size := by
      have := congrArg List.length h
      rw [Array.length_toList] at this
      have h2 : D.size = (c :: l).length := this
      simp at h2
      omega
    refine ⟨c, l, rfl, h0, ?_⟩
    have : D.data.toList[0]? = some c := by rw [h]; rfl
    rw [Array.getElem?_toList] at this
    have h2 := (Array.getElem?_eq_some_iff.1 this).2
    simpa [ByteArray.getElem_eq_getElem_data] using h2
theorem quo_step (c : Nat) (n : Int) : 48 ≤ (c : Int) → (c : Int) ≤ 57 → Int.tdiv (-9223372036854775808 + ((c : Int) - 48)) 10 ≤ n → -9223372036854775808 ≤ n * 10 - ((c : Int) - 48) := by
  intro h1 h2 h3
  have e : (-9223372036854775808 + ((c : Int) - 48)) = -(9223372036854775808 - ((c : Int) - 48)) := by omega
  rw [e, Int.neg_tdiv, Int.tdiv_eq_ediv_of_nonneg (by omega)] at h3
  omega
end Ml

set_option linter.unusedSimpArgs false in
set_option linter.unusedVariables false in
set_option maxHeartbeats 8000000 in
set_option maxRecDepth 1000000 in
theorem parse107 (s : ByteArray) (low high : Int) (w : World) (hs : s.size < 4294967281) (hl : (Lit.int .i64 low).wf = true) (hh : (Lit.int .i64 high).wf = true) :
    Calls Try.prog 107 #[.string s, .int .i64 low, .int .i64 high] w fun e w' => e = .returned (.tuple #[.int .i64 (Ml.pnum s.data.toList low high).1, .bool (Ml.pnum s.data.toList low high).2]) ∧ Below w.heap.size w w' := by
  obtain ⟨R, HR⟩ : ∃ R, Hid (R = Ml.pnum s.data.toList low high) := ⟨_, Lib.hid rfl⟩
  rw [← HR.out]
  go_enter Try.func107, Try.ntmps107
  by_cases he : s.toList.isEmpty = true
  · go_wp2
    go_ret2
    have : s.data.toList = [] := by simpa [ByteArray.toList_eq] using he
    exact ⟨by rw [HR.out, this]; rfl, Below.refl _ _⟩
  · have he : s.toList.isEmpty = false := by simpa using he
    obtain ⟨c0, l0, hcl⟩ : ∃ c0 l0, s.data.toList = c0 :: l0 := by
      rw [ByteArray.toList_eq] at he
      cases h : s.data.toList with
      | nil => rw [h] at he; simp at he
      | cons c l => exact ⟨c, l, rfl⟩
    have hsl : s.size = l0.length + 1 := by
      have := congrArg List.length hcl
      rw [Array.length_toList] at this
      simpa using this
    have h0 : 0 < s.size := by omega
    have hc0 : s[0] = c0 := by
      have : s.data.toList[0]? = some c0 := by rw [hcl]; rfl
      rw [Array.getElem?_toList] at this
      have h2 := (Array.getElem?_eq_some_iff.1 this).2
      simpa [ByteArray.getElem_eq_getElem_data] using h2
    by_cases hm : ((s[0]'h0).toNat : Int) = 45
    · have hm1 : c0 = 45 := by
        rw [hc0] at hm
        apply UInt8.toNat_inj.1
        have : (45 : UInt8).toNat = 45 := rfl
        omega
      obtain ⟨D, HD⟩ : ∃ D, s.extract 1 s.size = D := ⟨_, rfl⟩
      have hDl : D.data.toList = l0 := by
        rw [← HD, ByteArray.data_extract, Array.toList_extract, List.extract_eq_take_drop, hcl]
        simp only [List.drop_succ_cons, List.drop_zero]
        apply List.take_of_length_le
        omega
      have hDs : D.size < 4294967281 := by
        have := congrArg List.length hDl
        rw [Array.length_toList] at this
        have h2 : D.size = l0.length := this
        omega
      have hsl1 : ∀ W, Sem.run Try.prog (Instr.sliceAt 9 (.string s) (some (.int .i64 1)) none none) W = .ok (.string D) W := by
        intro W
        have hb : (1 : Int) ≤ s.size := by omega
        rw [← HD]
        simp [go_sem, Try.underlying9, hb]
      clear HD
      have HDL := Lib.hid hDl
      have HCL := Lib.hid hcl
      clear hDl hcl hc0
      have hs48 : (s.toList == [48]) = false := by
        rw [ByteArray.toList_eq, HCL.out, hm1]; rfl
      by_cases hDe : D.toList.isEmpty = true
      · go_wp2_with fail
        go_ret2
        have : l0 = [] := by rw [← HDL.out]; simpa [ByteArray.toList_eq] using hDe
        exact ⟨by rw [HR.out, HCL.out, hm1, this]; rfl, Below.refl _ _⟩
      have hDe : D.toList.isEmpty = false := by simpa using hDe
      obtain ⟨d0, l1, hdl, hd0s, hd0⟩ := Ml.head_of D hDe
      by_cases hd : ((D[0]'hd0s).toNat : Int) = 48
      · have HDL2 := Lib.hid hdl
        have hd1 : d0 = 48 := by
          rw [hd0] at hd
          apply UInt8.toNat_inj.1
          have : (48 : UInt8).toNat = 48 := rfl
          omega
        clear hdl hd0
        go_wp2_with fail
        go_ret2
        exact ⟨by rw [HR.out, HCL.out, hm1, ← HDL.out, HDL2.out, hd1]; rfl, Below.refl _ _⟩
      have hR : R = Ml.ptail true D.data.toList low high := by
        have hd1 : ¬ d0 = 48 := by
          rintro rfl
          rw [hd0] at hd
          exact hd rfl
        rw [HR.out, HCL.out, hm1, ← HDL.out, hdl]
        simp [Ml.pnum, hd1]
      clear HR hdl hd0
      have HR := Lib.hid hR
      clear hR
      go_wp2_with fail

      go_loopw [10] (fun n wr => ∃ (pos : Nat) (nv : Int), n = .int .i64 nv ∧ pos ≤ D.size ∧ -9223372036854775808 ≤ nv ∧ nv ≤ 0 ∧ Hid (Ml.pfold (D.data.toList.drop pos) nv = Ml.pfold D.data.toList 0) ∧ wr.heap[w.heap.size]? = some (.stringIter D pos) ∧ Below w.heap.size w wr) (fun _ wr => D.size - wr.iterPos w.heap.size)
      case atStart =>
        exact ⟨0, 0, rfl, Nat.zero_le _, by omega, by omega, Lib.hid rfl, World.iter_heap w D 0, (Below.refl _ w).alloc (Nat.le_refl _) _⟩
      case round =>
        obtain ⟨pos, nv, rfl, hp, hn1, hn2, HF, hit, hbw⟩ := hrel
        have hsz : w.heap.size < wr.heap.size := (Array.getElem?_eq_some_iff.1 hit).1
        by_cases hlt : pos < D.size
        · have hbw2 := Lib.below_iterAt hbw (k := w.heap.size) (Nat.le_refl _) D (pos + (Utf8.decode D pos).2)
          by_cases ha : (D[pos]'hlt).toNat < 128
          · have hit2 := Lib.iterAt_heap wr w.heap.size D pos (pos + 1) hit
            have hbw3 := Lib.below_iterAt hbw (k := w.heap.size) (Nat.le_refl _) D (pos + 1)
            have hnx : ∀ ty, (Instr.next (.pointer (some ⟨w.heap.size, 0, none⟩)) true ty).run Try.prog wr = _ := fun ty => Lib.run_next_ascii_at wr w.heap.size D pos ty hit hlt ha
            obtain ⟨c, hc⟩ : ∃ c : Nat, (D[pos]'hlt).toNat = c := ⟨_, rfl⟩
            rw [hc] at hnx ha
            have hstep := Ml.pfold_at D pos nv hlt c hc
            by_cases h48 : 48 ≤ (c : Int) ∧ (c : Int) ≤ 57
            · obtain ⟨h48, h57⟩ := h48
              have hq := Ml.quo_step c nv
              have HQ := Lib.hid hq
              clear hq
              by_cases hov : Int.tdiv (-9223372036854775808 + ((c : Int) - 48)) 10 ≤ nv
              · have hw1 := HQ.out h48 h57 hov
                have hno : ¬ nv < Int.tdiv (-9223372036854775808 + ((c : Int) - 48)) 10 := by omega
                have HS := Lib.hid hstep
                clear hstep
                go_wp2_with fail
                go_roundw
                case rel =>
                  refine ⟨pos + 1, nv * 10 - ((c : Int) - 48), rfl, by omega, by omega, by omega, Lib.hid ?_, hit2, hbw3⟩
                  rw [← HF.out, HS.out, if_pos ⟨h48, h57, hov⟩]
                case measure =>
                  simp only [World.iterPos, hit2, hit]
                  omega
              · have hyes : nv < Int.tdiv (-9223372036854775808 + ((c : Int) - 48)) 10 := by omega
                have HS := Lib.hid hstep
                clear hstep
                go_wp2_with fail
                go_ret2
                refine ⟨?_, hbw3⟩
                have hz : Ml.pfold D.data.toList 0 = none := by rw [← HF.out, HS.out, if_neg (fun h => by omega)]
                rw [show R = (0, false) from by rw [HR.out, Ml.ptail_none hz]]; rfl
            · have HS := Lib.hid hstep
              clear hstep
              have hz : Ml.pfold D.data.toList 0 = none := by rw [← HF.out, HS.out, if_neg (fun h => h48 ⟨h.1, h.2.1⟩)]
              have HZ := Lib.hid hz
              clear hz
              by_cases hlo : (c : Int) < 48
              · go_wp2_with fail
                go_ret2
                exact ⟨by rw [show R = (0, false) from by rw [HR.out, Ml.ptail_none HZ.out]]; rfl, hbw3⟩
              · have hhi : (57 : Int) < c := by omega
                go_wp2_with fail
                go_ret2
                exact ⟨by rw [show R = (0, false) from by rw [HR.out, Ml.ptail_none HZ.out]]; rfl, hbw3⟩
          · have hnx : ∀ ty, (Instr.next (.pointer (some ⟨w.heap.size, 0, none⟩)) true ty).run Try.prog wr = _ := fun ty => Lib.run_next_any_at wr w.heap.size D pos ty hit hlt
            have hh := (decode_high D pos hlt (by omega)).1
            have hz : Ml.pfold D.data.toList 0 = none := by
              rw [← HF.out, Ml.pfold_at D pos nv hlt _ rfl, if_neg (fun h => by omega)]
            have HZ := Lib.hid hz
            clear hz
            obtain ⟨r, hr⟩ : ∃ r : Nat, (Utf8.decode D pos).1 = r := ⟨_, rfl⟩
            rw [hr] at hnx hh
            have hr1 : ¬ (r : Int) < 48 := by omega
            have hr2 : (57 : Int) < r := by omega
            go_wp2_with fail
            go_ret2
            exact ⟨by rw [show R = (0, false) from by rw [HR.out, Ml.ptail_none HZ.out]]; rfl, hbw2⟩
        · have hpe : pos = D.size := by omega
          have hz : Ml.pfold D.data.toList 0 = some nv := by
            rw [← HF.out, hpe, Ml.drop_all]; rfl
          have HZ := Lib.hid hz
          clear hz
          have hnx : ∀ ty, (Instr.next (.pointer (some ⟨w.heap.size, 0, none⟩)) true ty).run Try.prog wr = _ := fun ty => Lib.run_next_end_at wr w.heap.size D pos ty hit hlt
          by_cases hlow : nv < low
          · go_wp2_with fail
            go_ret2
            exact ⟨by rw [show R = (0, false) from by rw [HR.out, Ml.ptail_neg HZ.out, Ml.pfin_lo hlow]]; rfl, hbw⟩
          · by_cases hhig : high < nv
            · go_wp2_with fail
              go_ret2
              exact ⟨by rw [show R = (0, false) from by rw [HR.out, Ml.ptail_neg HZ.out, Ml.pfin_hi hhig]]; rfl, hbw⟩
            · go_wp2_with fail
              go_ret2
              exact ⟨by rw [show R = (nv, true) from by rw [HR.out, Ml.ptail_neg HZ.out, Ml.pfin_in (by omega) (by omega)]]; rfl, hbw⟩
    · have hm1 : ¬ c0 = 45 := by
        rintro rfl
        rw [hc0] at hm
        exact hm rfl
      have HCL := Lib.hid hcl
      clear hcl
      by_cases h48 : ((s[0]'h0).toNat : Int) = 48
      · have hc1 : c0 = 48 := by
          rw [hc0] at h48
          apply UInt8.toNat_inj.1
          have : (48 : UInt8).toNat = 48 := rfl
          omega
        clear hc0
        by_cases hz : (s.toList == [48]) = true
        · have hR : R = Ml.ptail false s.data.toList low high := by
            rw [ByteArray.toList_eq] at hz
            rw [HR.out, beq_iff_eq.1 hz]
            rfl
          clear HR
          have HR := Lib.hid hR
          clear hR
          go_wp2_with fail

          go_loopw [10] (fun n wr => ∃ (pos : Nat) (nv : Int), n = .int .i64 nv ∧ pos ≤ s.size ∧ -9223372036854775808 ≤ nv ∧ nv ≤ 0 ∧ Hid (Ml.pfold (s.data.toList.drop pos) nv = Ml.pfold s.data.toList 0) ∧ wr.heap[w.heap.size]? = some (.stringIter s pos) ∧ Below w.heap.size w wr) (fun _ wr => s.size - wr.iterPos w.heap.size)
          case atStart =>
            exact ⟨0, 0, rfl, Nat.zero_le _, by omega, by omega, Lib.hid rfl, World.iter_heap w s 0, (Below.refl _ w).alloc (Nat.le_refl _) _⟩
          case round =>
            obtain ⟨pos, nv, rfl, hp, hn1, hn2, HF, hit, hbw⟩ := hrel
            have hsz : w.heap.size < wr.heap.size := (Array.getElem?_eq_some_iff.1 hit).1
            by_cases hlt : pos < s.size
            · have hbw2 := Lib.below_iterAt hbw (k := w.heap.size) (Nat.le_refl _) s (pos + (Utf8.decode s pos).2)
              by_cases ha : (s[pos]'hlt).toNat < 128
              · have hit2 := Lib.iterAt_heap wr w.heap.size s pos (pos + 1) hit
                have hbw3 := Lib.below_iterAt hbw (k := w.heap.size) (Nat.le_refl _) s (pos + 1)
                have hnx : ∀ ty, (Instr.next (.pointer (some ⟨w.heap.size, 0, none⟩)) true ty).run Try.prog wr = _ := fun ty => Lib.run_next_ascii_at wr w.heap.size s pos ty hit hlt ha
                obtain ⟨c, hc⟩ : ∃ c : Nat, (s[pos]'hlt).toNat = c := ⟨_, rfl⟩
                rw [hc] at hnx ha
                have hstep := Ml.pfold_at s pos nv hlt c hc
                by_cases h48 : 48 ≤ (c : Int) ∧ (c : Int) ≤ 57
                · obtain ⟨h48, h57⟩ := h48
                  have hq := Ml.quo_step c nv
                  have HQ := Lib.hid hq
                  clear hq
                  by_cases hov : Int.tdiv (-9223372036854775808 + ((c : Int) - 48)) 10 ≤ nv
                  · have hw1 := HQ.out h48 h57 hov
                    have hno : ¬ nv < Int.tdiv (-9223372036854775808 + ((c : Int) - 48)) 10 := by omega
                    have HS := Lib.hid hstep
                    clear hstep
                    go_wp2_with fail
                    go_roundw
                    case rel =>
                      refine ⟨pos + 1, nv * 10 - ((c : Int) - 48), rfl, by omega, by omega, by omega, Lib.hid ?_, hit2, hbw3⟩
                      rw [← HF.out, HS.out, if_pos ⟨h48, h57, hov⟩]
                    case measure =>
                      simp only [World.iterPos, hit2, hit]
                      omega
                  · have hyes : nv < Int.tdiv (-9223372036854775808 + ((c : Int) - 48)) 10 := by omega
                    have HS := Lib.hid hstep
                    clear hstep
                    go_wp2_with fail
                    go_ret2
                    refine ⟨?_, hbw3⟩
                    have hz : Ml.pfold s.data.toList 0 = none := by rw [← HF.out, HS.out, if_neg (fun h => by omega)]
                    rw [show R = (0, false) from by rw [HR.out, Ml.ptail_none hz]]; rfl
                · have HS := Lib.hid hstep
                  clear hstep
                  have hz : Ml.pfold s.data.toList 0 = none := by rw [← HF.out, HS.out, if_neg (fun h => h48 ⟨h.1, h.2.1⟩)]
                  have HZ := Lib.hid hz
                  clear hz
                  by_cases hlo : (c : Int) < 48
                  · go_wp2_with fail
                    go_ret2
                    exact ⟨by rw [show R = (0, false) from by rw [HR.out, Ml.ptail_none HZ.out]]; rfl, hbw3⟩
                  · have hhi : (57 : Int) < c := by omega
                    go_wp2_with fail
                    go_ret2
                    exact ⟨by rw [show R = (0, false) from by rw [HR.out, Ml.ptail_none HZ.out]]; rfl, hbw3⟩
              · have hnx : ∀ ty, (Instr.next (.pointer (some ⟨w.heap.size, 0, none⟩)) true ty).run Try.prog wr = _ := fun ty => Lib.run_next_any_at wr w.heap.size s pos ty hit hlt
                have hh := (decode_high s pos hlt (by omega)).1
                have hz : Ml.pfold s.data.toList 0 = none := by
                  rw [← HF.out, Ml.pfold_at s pos nv hlt _ rfl, if_neg (fun h => by omega)]
                have HZ := Lib.hid hz
                clear hz
                obtain ⟨r, hr⟩ : ∃ r : Nat, (Utf8.decode s pos).1 = r := ⟨_, rfl⟩
                rw [hr] at hnx hh
                have hr1 : ¬ (r : Int) < 48 := by omega
                have hr2 : (57 : Int) < r := by omega
                go_wp2_with fail
                go_ret2
                exact ⟨by rw [show R = (0, false) from by rw [HR.out, Ml.ptail_none HZ.out]]; rfl, hbw2⟩
            · have hpe : pos = s.size := by omega
              have hz : Ml.pfold s.data.toList 0 = some nv := by
                rw [← HF.out, hpe, Ml.drop_all]; rfl
              have HZ := Lib.hid hz
              clear hz
              have hnx : ∀ ty, (Instr.next (.pointer (some ⟨w.heap.size, 0, none⟩)) true ty).run Try.prog wr = _ := fun ty => Lib.run_next_end_at wr w.heap.size s pos ty hit hlt
              by_cases hmin : nv = -9223372036854775808
              · subst hmin
                go_wp2_with fail
                go_ret2
                exact ⟨by rw [show R = (0, false) from by rw [HR.out, Ml.ptail_min HZ.out]]; rfl, hbw⟩
              · have hneg : IntKind.i64.wrap (-nv) = -nv := IntWalk.i64_in _ (by omega)
                by_cases hlow : -nv < low
                · go_wp2_with fail
                  go_ret2
                  exact ⟨by rw [show R = (0, false) from by rw [HR.out, Ml.ptail_pos HZ.out hmin, Ml.pfin_lo hlow]]; rfl, hbw⟩
                · by_cases hhig : high < -nv
                  · go_wp2_with fail
                    go_ret2
                    exact ⟨by rw [show R = (0, false) from by rw [HR.out, Ml.ptail_pos HZ.out hmin, Ml.pfin_hi hhig]]; rfl, hbw⟩
                  · go_wp2_with fail
                    go_ret2
                    exact ⟨by rw [show R = (-nv, true) from by rw [HR.out, Ml.ptail_pos HZ.out hmin, Ml.pfin_in (by omega) (by omega)]]; rfl, hbw⟩
    
        · have hz : (s.toList == [48]) = false := by simpa using hz
          have hne : l0 ≠ [] := by
            rintro rfl
            rw [ByteArray.toList_eq, HCL.out, hc1] at hz
            simp at hz
          go_wp2_with fail
          go_ret2
          exact ⟨by rw [HR.out, HCL.out, hc1]; simp [Ml.pnum, hne], Below.refl _ _⟩
      have hR : R = Ml.ptail false s.data.toList low high := by
        have hd1 : ¬ c0 = 48 := by
          rintro rfl
          rw [hc0] at h48
          exact h48 rfl
        rw [HR.out, HCL.out]
        simp [Ml.pnum, hm1, hd1]
      clear HR hc0
      have HR := Lib.hid hR
      clear hR
      go_wp2_with fail

      go_loopw [10] (fun n wr => ∃ (pos : Nat) (nv : Int), n = .int .i64 nv ∧ pos ≤ s.size ∧ -9223372036854775808 ≤ nv ∧ nv ≤ 0 ∧ Hid (Ml.pfold (s.data.toList.drop pos) nv = Ml.pfold s.data.toList 0) ∧ wr.heap[w.heap.size]? = some (.stringIter s pos) ∧ Below w.heap.size w wr) (fun _ wr => s.size - wr.iterPos w.heap.size)
      case atStart =>
        exact ⟨0, 0, rfl, Nat.zero_le _, by omega, by omega, Lib.hid rfl, World.iter_heap w s 0, (Below.refl _ w).alloc (Nat.le_refl _) _⟩
      case round =>
        obtain ⟨pos, nv, rfl, hp, hn1, hn2, HF, hit, hbw⟩ := hrel
        have hsz : w.heap.size < wr.heap.size := (Array.getElem?_eq_some_iff.1 hit).1
        by_cases hlt : pos < s.size
        · have hbw2 := Lib.below_iterAt hbw (k := w.heap.size) (Nat.le_refl _) s (pos + (Utf8.decode s pos).2)
          by_cases ha : (s[pos]'hlt).toNat < 128
          · have hit2 := Lib.iterAt_heap wr w.heap.size s pos (pos + 1) hit
            have hbw3 := Lib.below_iterAt hbw (k := w.heap.size) (Nat.le_refl _) s (pos + 1)
            have hnx : ∀ ty, (Instr.next (.pointer (some ⟨w.heap.size, 0, none⟩)) true ty).run Try.prog wr = _ := fun ty => Lib.run_next_ascii_at wr w.heap.size s pos ty hit hlt ha
            obtain ⟨c, hc⟩ : ∃ c : Nat, (s[pos]'hlt).toNat = c := ⟨_, rfl⟩
            rw [hc] at hnx ha
            have hstep := Ml.pfold_at s pos nv hlt c hc
            by_cases h48 : 48 ≤ (c : Int) ∧ (c : Int) ≤ 57
            · obtain ⟨h48, h57⟩ := h48
              have hq := Ml.quo_step c nv
              have HQ := Lib.hid hq
              clear hq
              by_cases hov : Int.tdiv (-9223372036854775808 + ((c : Int) - 48)) 10 ≤ nv
              · have hw1 := HQ.out h48 h57 hov
                have hno : ¬ nv < Int.tdiv (-9223372036854775808 + ((c : Int) - 48)) 10 := by omega
                have HS := Lib.hid hstep
                clear hstep
                go_wp2_with fail
                go_roundw
                case rel =>
                  refine ⟨pos + 1, nv * 10 - ((c : Int) - 48), rfl, by omega, by omega, by omega, Lib.hid ?_, hit2, hbw3⟩
                  rw [← HF.out, HS.out, if_pos ⟨h48, h57, hov⟩]
                case measure =>
                  simp only [World.iterPos, hit2, hit]
                  omega
              · have hyes : nv < Int.tdiv (-9223372036854775808 + ((c : Int) - 48)) 10 := by omega
                have HS := Lib.hid hstep
                clear hstep
                go_wp2_with fail
                go_ret2
                refine ⟨?_, hbw3⟩
                have hz : Ml.pfold s.data.toList 0 = none := by rw [← HF.out, HS.out, if_neg (fun h => by omega)]
                rw [show R = (0, false) from by rw [HR.out, Ml.ptail_none hz]]; rfl
            · have HS := Lib.hid hstep
              clear hstep
              have hz : Ml.pfold s.data.toList 0 = none := by rw [← HF.out, HS.out, if_neg (fun h => h48 ⟨h.1, h.2.1⟩)]
              have HZ := Lib.hid hz
              clear hz
              by_cases hlo : (c : Int) < 48
              · go_wp2_with fail
                go_ret2
                exact ⟨by rw [show R = (0, false) from by rw [HR.out, Ml.ptail_none HZ.out]]; rfl, hbw3⟩
              · have hhi : (57 : Int) < c := by omega
                go_wp2_with fail
                go_ret2
                exact ⟨by rw [show R = (0, false) from by rw [HR.out, Ml.ptail_none HZ.out]]; rfl, hbw3⟩
          · have hnx : ∀ ty, (Instr.next (.pointer (some ⟨w.heap.size, 0, none⟩)) true ty).run Try.prog wr = _ := fun ty => Lib.run_next_any_at wr w.heap.size s pos ty hit hlt
            have hh := (decode_high s pos hlt (by omega)).1
            have hz : Ml.pfold s.data.toList 0 = none := by
              rw [← HF.out, Ml.pfold_at s pos nv hlt _ rfl, if_neg (fun h => by omega)]
            have HZ := Lib.hid hz
            clear hz
            obtain ⟨r, hr⟩ : ∃ r : Nat, (Utf8.decode s pos).1 = r := ⟨_, rfl⟩
            rw [hr] at hnx hh
            have hr1 : ¬ (r : Int) < 48 := by omega
            have hr2 : (57 : Int) < r := by omega
            go_wp2_with fail
            go_ret2
            exact ⟨by rw [show R = (0, false) from by rw [HR.out, Ml.ptail_none HZ.out]]; rfl, hbw2⟩
        · have hpe : pos = s.size := by omega
          have hz : Ml.pfold s.data.toList 0 = some nv := by
            rw [← HF.out, hpe, Ml.drop_all]; rfl
          have HZ := Lib.hid hz
          clear hz
          have hnx : ∀ ty, (Instr.next (.pointer (some ⟨w.heap.size, 0, none⟩)) true ty).run Try.prog wr = _ := fun ty => Lib.run_next_end_at wr w.heap.size s pos ty hit hlt
          by_cases hmin : nv = -9223372036854775808
          · subst hmin
            go_wp2_with fail
            go_ret2
            exact ⟨by rw [show R = (0, false) from by rw [HR.out, Ml.ptail_min HZ.out]]; rfl, hbw⟩
          · have hneg : IntKind.i64.wrap (-nv) = -nv := IntWalk.i64_in _ (by omega)
            by_cases hlow : -nv < low
            · go_wp2_with fail
              go_ret2
              exact ⟨by rw [show R = (0, false) from by rw [HR.out, Ml.ptail_pos HZ.out hmin, Ml.pfin_lo hlow]]; rfl, hbw⟩
            · by_cases hhig : high < -nv
              · go_wp2_with fail
                go_ret2
                exact ⟨by rw [show R = (0, false) from by rw [HR.out, Ml.ptail_pos HZ.out hmin, Ml.pfin_hi hhig]]; rfl, hbw⟩
              · go_wp2_with fail
                go_ret2
                exact ⟨by rw [show R = (-nv, true) from by rw [HR.out, Ml.ptail_pos HZ.out hmin, Ml.pfin_in (by omega) (by omega)]]; rfl, hbw⟩
end Go.Proofs.Ytjdjfjokniingaa
