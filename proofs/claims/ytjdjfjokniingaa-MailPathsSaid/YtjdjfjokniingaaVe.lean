/- The contracts of the reference's parts and Valid. -/
import Derived.Test.YtjdjfjokniingaaVd
import Derived.Test.YtjdjfjokniingaaVc
namespace Go.Proofs.Ytjdjfjokniingaa
open Go.RowKit

/-- a row of ints and a bool are handed back -/
def PartsPost (s : ByteArray) (w : World) (e : Ending) (w' : World) : Prop :=
  Below w.heap.size w w' ∧ ∃ v, (∃ ok, e = .returned (.tuple #[v, .bool ok]) ∧ ok = (Ml.splitP s).isSome) ∧ w'.ownsRow w.heap.size 3 1 v ((Ml.splitP s).getD []).length (((Ml.splitP s).getD []).map (Value.int .i64))
theorem parts_none {s : ByteArray} {w W : World} (h : Ml.splitP s = none) (hb : Below w.heap.size w W) : PartsPost s w (.returned (.tuple #[.slice none 0 0, .bool false])) W :=
  ⟨hb, _, ⟨_, rfl, by rw [h]; rfl⟩, by rw [h]; exact World.ownsRow_nil _ _ _ _⟩
theorem parts_some {s : ByteArray} {w W : World} {acc : List Int} {v : Value} (h : Ml.splitP s = some acc) (hb : Below w.heap.size w W) (hr : W.ownsRow w.heap.size 3 1 v acc.length (acc.map (Value.int .i64))) : PartsPost s w (.returned (.tuple #[v, .bool true])) W :=
  ⟨hb, v, ⟨_, rfl, by rw [h]; rfl⟩, by rw [h]; exact hr⟩
/-- what the loop of parts keeps -/
def PaRel (s : ByteArray) (w : World) (row f i : Value) (W : World) : Prop :=
  ∃ (k fr : Nat) (acc : List Int), i = .int .i64 k ∧ f = .int .i64 fr ∧ fr ≤ k ∧ k ≤ s.size + 1 ∧ acc.length ≤ k ∧ Ml.PartsI s k fr acc ∧ W.ownsRow w.heap.size 3 1 row acc.length (acc.map (Value.int .i64)) ∧ Below w.heap.size w W
theorem PaRel.skip {s : ByteArray} {w W : World} {row : Value} {k fr : Nat} {acc : List Int} {i' : Value} (hi : i' = .int .i64 ((k + 1 : Nat) : Int)) (hf : fr ≤ k) (hlt : k < s.size) (hl : acc.length ≤ k) (hp : Ml.PartsI s k fr acc) (hc : (s[k]'hlt).toNat ≠ 46) (hr : W.ownsRow w.heap.size 3 1 row acc.length (acc.map (Value.int .i64))) (hb : Below w.heap.size w W) :
    PaRel s w row (.int .i64 fr) i' W :=
  ⟨k + 1, fr, acc, hi, rfl, by omega, by omega, by omega, Ml.partsI_skip hp hlt hc, hr, hb⟩
theorem PaRel.add {s : ByteArray} {w W : World} {row : Value} {k : Nat} {acc : List Int} {n : Int} {f' i' : Value} (hi : i' = .int .i64 ((k + 1 : Nat) : Int)) (hf' : f' = .int .i64 ((k + 1 : Nat) : Int)) (hk : k ≤ s.size) (hl : acc.length ≤ k) (hp : Ml.PartsI s (k + 1) (k + 1) (acc ++ [n])) (hr : W.ownsRow w.heap.size 3 1 row (acc.length + 1) (acc.map (Value.int .i64) ++ [.int .i64 n])) (hb : Below w.heap.size w W) :
    PaRel s w row f' i' W :=
  ⟨k + 1, k + 1, acc ++ [n], hi, hf', by omega, by omega, by simp; omega, hp, by rw [List.length_append, List.map_append]; exact hr, hb⟩

set_option linter.unusedSimpArgs false in
set_option linter.unusedVariables false in
set_option maxRecDepth 100000 in
set_option maxHeartbeats 4000000 in
theorem parts71 (s : ByteArray) (w : World) (hs : s.size ≤ 1000000) : Calls Try.prog 71 #[.string s] w (PartsPost s w) := by
  by_cases hlong : 200 < s.size
  · have hl2 : (200 : Int) < s.size := by omega
    have HN : Hid (Ml.splitP s = none) := Lib.hid (by simp [Ml.splitP, hlong])
    go_enter Try.func71, Try.ntmps71
    go_wp2_with fail
    go_ret2
    exact parts_none HN.out (Below.refl _ _)
  · have hl2 : ¬ (200 : Int) < s.size := by omega
    have HN : Hid (Ml.splitP s = Ml.accP (Ml.comps s) []) := Lib.hid (by simp [Ml.splitP, hlong])
    obtain ⟨i0, hi, hz0, hz1, hz2⟩ := info_parts info3'
    clear hlong
    go_enter Try.func71, Try.ntmps71
    go_wp2_with fail
    go_loopw [4, 5, 6] (PaRel s w) (fun _ _ vi _ => s.size + 1 - (intOf vi).toNat)
    case atStart => exact ⟨0, 0, [], rfl, rfl, Nat.le_refl _, Nat.zero_le _, Nat.zero_le _, Ml.partsI_start s, World.ownsRow_nil _ _ _ _, Below.refl _ _⟩
    case round =>
      obtain ⟨k, fr, acc, rfl, rfl, hfr, hk, hal, hp, hrow, hB⟩ := hrel
      obtain ⟨L, hL⟩ : ∃ L, acc.length = L := ⟨_, rfl⟩
      have HA : Hid (acc.length ≤ k) := Lib.hid hal
      rw [hL] at hrow hal
      obtain ⟨ao, cap, rfl⟩ := row_shape hrow
      have HL := Lib.hid hL
      have HP := Lib.hid hp
      have HR := Lib.hid hrow
      have HB := Lib.hid hB
      have hsz := hB.size
      clear hp hrow hB hL
      by_cases hgt : s.size < k
      · have hq : ¬ (k : Int) ≤ (s.size : Int) := by omega
        have HD := Lib.hid (HN.out.trans (Ml.partsI_done HP.out hgt))
        clear hgt
        go_wp2_with fail
        go_ret2
        exact parts_some HD.out HB.out (by rw [HL.out]; exact HR.out)
      · have hq : (k : Int) ≤ (s.size : Int) := by omega
        have hk2 : k ≤ s.size := by omega
        have key : ∀ hcase : ((k < s.size) → (∃ h : k < s.size, (s[k]'h).toNat = 46)), ∀ (n : Int) (ok : Bool), Ml.pnm (s.extract fr k).data.toList = (n, ok) → if ok = false ∨ (L = 0 ∧ n ≠ 0) then Ml.splitP s = none else Ml.PartsI s (k + 1) (k + 1) (acc ++ [n]) := by
          intro hcase n ok he
          have h := Ml.partsI_piece HP.out hfr hk2 (fun h => (hcase h).2) n ok he
          have e : acc = [] ↔ L = 0 := by rw [← HL.out]; exact List.length_eq_zero_iff.symm
          simp only [e] at h
          rw [← HN.out] at h
          exact h
        have KEY := Lib.hid key
        clear key
        by_cases hlt : k < s.size
        · obtain ⟨c, hc⟩ : ∃ c : Nat, (s[k]'hlt).toNat = c := ⟨_, rfl⟩
          by_cases h46 : c = 46
          · subst h46
            have HC : Hid ((s[k]'hlt).toNat = 46) := Lib.hid hc
            obtain ⟨D, hD⟩ : ∃ D, s.extract fr k = D := ⟨_, rfl⟩
            obtain ⟨n, ok, he⟩ : ∃ n ok, Ml.pnm D.data.toList = (n, ok) := ⟨_, _, rfl⟩
            have HK := Lib.hid (KEY.out (fun _ => ⟨hlt, HC.out⟩) n ok (by rw [hD]; exact he))
            have HQ : Hid (Ml.rnum D.data.toList 0 9007199254740992 = (n, ok)) := Lib.hid (by rw [Ml.rnum_eq]; exact he)
            have hDs : D.size ≤ 1000000 := by rw [← hD, ByteArray.size_extract]; omega
            have hsl : ∀ W, Sem.run Try.prog (Instr.sliceAt 9 (.string s) (some (.int .i64 (fr : Int))) (some (.int .i64 (k : Int))) none) W = .ok (.string D) W := by
              intro W
              have hb1 : (fr : Int) ≤ k := by omega
              rw [← hD]
              simp [go_sem, Try.underlying9, hb1, hq]
            clear hD he
            go_wp2_with fail
            refine (parse97 D 0 9007199254740992 wr hDs).mono ?_
            rintro e w1 ⟨rfl, h1⟩
            rw [HQ.out]
            dsimp only
            have z1 := h1.size
            have HB1 := Lib.hid (HB.out.trans (h1.mono hsz))
            have HR1 := Lib.hid (own_below HR.out h1)
            clear h1 hsl
            cases ok with
            | false =>
              have HZ := Lib.hid (show Ml.splitP s = none by have h := HK.out; rw [if_pos (.inl rfl)] at h; exact h)
              go_wp2_with fail
              go_ret2
              exact parts_none HZ.out HB1.out
            | true =>
              by_cases h0 : L = 0
              · subst h0
                by_cases hn : n = 0
                · subst hn
                  have HZ := Lib.hid (show Ml.PartsI s (k + 1) (k + 1) (acc ++ [0]) by have h := HK.out; rw [if_neg (by simp)] at h; exact h)
                  go_wp2_with (at_builtin; refine wpList_append_own _ rfl (.tmp 47) (.tmp 49) 100 rfl w.heap.size 3 i0 (.int .i64 0) 1 8 Try.underlying100 hi hz0 hz1 hz2 rfl (by decide) _ _ _ rfl (HR1.out.alloc _) ⟨w1.heap.size, 0, none⟩ 1 1 [.int .i64 0] rfl rfl (cell_one_new _ _ _) (by simp [Value.oneCell']) (by rw [ml_val]; omega) (by omega) (by simp; omega) ?_; intro v' w3 ho hgr _; have HO := Lib.hid ho; have HG := Lib.hid hgr; clear ho hgr)
                  go_roundw
                  case rel => exact PaRel.add (by go_num) (by go_num) hk2 HA.out HZ.out (by rw [HL.out]; exact HO.out) ((HB1.out.alloc (by omega) _).grown HG.out (by simp; omega) (row_base HR1.out))
                  case measure => simp [intOf]; omega
                · have HZ := Lib.hid (show Ml.splitP s = none by have h := HK.out; rw [if_pos (.inr ⟨rfl, hn⟩)] at h; exact h)
                  have tn : (n != 0) = true := by simp [hn]
                  go_wp2_with fail
                  go_ret2
                  exact parts_none HZ.out HB1.out
              · have HZ := Lib.hid (show Ml.PartsI s (k + 1) (k + 1) (acc ++ [n]) by have h := HK.out; rw [if_neg (by simp [h0])] at h; exact h)
                have tl : ((L : Int) == 0) = false := by simp [h0]
                go_wp2_with (at_builtin; refine wpList_append_own _ rfl (.tmp 47) (.tmp 49) 100 rfl w.heap.size 3 i0 (.int .i64 0) 1 8 Try.underlying100 hi hz0 hz1 hz2 rfl (by decide) _ _ _ rfl (HR1.out.alloc _) ⟨w1.heap.size, 0, none⟩ 1 1 [.int .i64 n] rfl rfl (cell_one_new _ _ _) (by simp [Value.oneCell']) (by rw [ml_val]; omega) (by omega) (by simp; omega) ?_; intro v' w3 ho hgr _; have HO := Lib.hid ho; have HG := Lib.hid hgr; clear ho hgr)
                go_roundw
                case rel => exact PaRel.add (by go_num) (by go_num) hk2 HA.out HZ.out (by rw [HL.out]; exact HO.out) ((HB1.out.alloc (by omega) _).grown HG.out (by simp; omega) (row_base HR1.out))
                case measure => simp [intOf]; omega
          · have t1 : ((c : Int) != 46) = true := by simp; omega
            have HC : Hid ((s[k]'hlt).toNat ≠ 46) := Lib.hid (by rw [hc]; exact h46)
            clear h46
            go_wp2_with fail
            go_roundw
            case rel => exact PaRel.skip (by go_num) hfr hlt HA.out HP.out HC.out (by rw [HL.out]; exact HR.out) HB.out
            case measure => simp [intOf]; omega
        · obtain ⟨D, hD⟩ : ∃ D, s.extract fr k = D := ⟨_, rfl⟩
          obtain ⟨n, ok, he⟩ : ∃ n ok, Ml.pnm D.data.toList = (n, ok) := ⟨_, _, rfl⟩
          have HK := Lib.hid (KEY.out (fun h => absurd h hlt) n ok (by rw [hD]; exact he))
          have HQ : Hid (Ml.rnum D.data.toList 0 9007199254740992 = (n, ok)) := Lib.hid (by rw [Ml.rnum_eq]; exact he)
          have hDs : D.size ≤ 1000000 := by rw [← hD, ByteArray.size_extract]; omega
          have hsl : ∀ W, Sem.run Try.prog (Instr.sliceAt 9 (.string s) (some (.int .i64 (fr : Int))) (some (.int .i64 (k : Int))) none) W = .ok (.string D) W := by
            intro W
            have hb1 : (fr : Int) ≤ k := by omega
            rw [← hD]
            simp [go_sem, Try.underlying9, hb1, hq]
          clear hD he
          go_wp2_with fail
          refine (parse97 D 0 9007199254740992 wr hDs).mono ?_
          rintro e w1 ⟨rfl, h1⟩
          rw [HQ.out]
          dsimp only
          have z1 := h1.size
          have HB1 := Lib.hid (HB.out.trans (h1.mono hsz))
          have HR1 := Lib.hid (own_below HR.out h1)
          clear h1 hsl
          cases ok with
          | false =>
            have HZ := Lib.hid (show Ml.splitP s = none by have h := HK.out; rw [if_pos (.inl rfl)] at h; exact h)
            go_wp2_with fail
            go_ret2
            exact parts_none HZ.out HB1.out
          | true =>
            by_cases h0 : L = 0
            · subst h0
              by_cases hn : n = 0
              · subst hn
                have HZ := Lib.hid (show Ml.PartsI s (k + 1) (k + 1) (acc ++ [0]) by have h := HK.out; rw [if_neg (by simp)] at h; exact h)
                go_wp2_with (at_builtin; refine wpList_append_own _ rfl (.tmp 47) (.tmp 49) 100 rfl w.heap.size 3 i0 (.int .i64 0) 1 8 Try.underlying100 hi hz0 hz1 hz2 rfl (by decide) _ _ _ rfl (HR1.out.alloc _) ⟨w1.heap.size, 0, none⟩ 1 1 [.int .i64 0] rfl rfl (cell_one_new _ _ _) (by simp [Value.oneCell']) (by rw [ml_val]; omega) (by omega) (by simp; omega) ?_; intro v' w3 ho hgr _; have HO := Lib.hid ho; have HG := Lib.hid hgr; clear ho hgr)
                go_roundw
                case rel => exact PaRel.add (by go_num) (by go_num) hk2 HA.out HZ.out (by rw [HL.out]; exact HO.out) ((HB1.out.alloc (by omega) _).grown HG.out (by simp; omega) (row_base HR1.out))
                case measure => simp [intOf]; omega
              · have HZ := Lib.hid (show Ml.splitP s = none by have h := HK.out; rw [if_pos (.inr ⟨rfl, hn⟩)] at h; exact h)
                have tn : (n != 0) = true := by simp [hn]
                go_wp2_with fail
                go_ret2
                exact parts_none HZ.out HB1.out
            · have HZ := Lib.hid (show Ml.PartsI s (k + 1) (k + 1) (acc ++ [n]) by have h := HK.out; rw [if_neg (by simp [h0])] at h; exact h)
              have tl : ((L : Int) == 0) = false := by simp [h0]
              go_wp2_with (at_builtin; refine wpList_append_own _ rfl (.tmp 47) (.tmp 49) 100 rfl w.heap.size 3 i0 (.int .i64 0) 1 8 Try.underlying100 hi hz0 hz1 hz2 rfl (by decide) _ _ _ rfl (HR1.out.alloc _) ⟨w1.heap.size, 0, none⟩ 1 1 [.int .i64 n] rfl rfl (cell_one_new _ _ _) (by simp [Value.oneCell']) (by rw [ml_val]; omega) (by omega) (by simp; omega) ?_; intro v' w3 ho hgr _; have HO := Lib.hid ho; have HG := Lib.hid hgr; clear ho hgr)
              go_roundw
              case rel => exact PaRel.add (by go_num) (by go_num) hk2 HA.out HZ.out (by rw [HL.out]; exact HO.out) ((HB1.out.alloc (by omega) _).grown HG.out (by simp; omega) (row_base HR1.out))
              case measure => simp [intOf]; omega

end Go.Proofs.Ytjdjfjokniingaa
