/- The contracts of the reference's Find and reachable. -/
import Derived.Test.YtjdjfjokniingaaMa
namespace Go.Proofs.Ytjdjfjokniingaa
open Go.RowKit

set_option maxRecDepth 100000 in
set_option maxHeartbeats 800000 in
theorem find45 (s : SysC) (ls : List LiveC) (p : ByteArray) (w : World) (hac : Rd w w.heap.size 9 s.actors.a s.actors.n (ls.flatMap liveL)) (hbn : s.actors.n ≤ 9223372036854775807) :
    Calls Try.prog 45 #[sysV s, .string p] w fun e w' => e = .returned (.tuple #[.int .i64 ((Ml.find (ls.map (·.path)) p).getD 0 : Nat), .bool (Ml.find (ls.map (·.path)) p).isSome]) ∧ Below w.heap.size w w' := by
  have HA := Lib.hid hac
  have HL := Lib.hid (hac.len (fun _ => rfl) (by omega))
  clear hac
  go_enter Try.func45, Try.ntmps45
  go_wp2
  go_loop [6] (fun i => ∃ k : Nat, k ≤ s.actors.n ∧ i = .int .i64 k ∧ Hid (∀ j q, j < k → (ls.map (·.path))[j]? = some q → q ≠ p)) (fun i => s.actors.n - (intOf i).toNat)
  case atStart => exact ⟨0, Nat.zero_le _, rfl, fun j a hj => absurd hj (by omega)⟩
  case round =>
    obtain ⟨k, hk, rfl, HJ⟩ := hrel
    by_cases hlt : k < s.actors.n
    · obtain ⟨b, off, a, hA, hb, hak, hc⟩ := HA.out.at_ (fun _ => rfl) (by omega) hlt
      have c0 : w.cell? ⟨b, off + k * 9, none⟩ = some (.string a.path) := hc 0 _ rfl
      have hix : ∀ W : World, Sem.run Try.prog (Instr.indexAt 23 (.slice s.actors.a s.actors.n s.actors.c) (.int .i64 (k : Int))) W = .ok (.pointer (some ⟨b, off + k * 9, none⟩)) W := by intro W; rw [hA]; go_simp
      have HAK := Lib.hid (show (ls.map (·.path))[k]? = some a.path by rw [List.getElem?_map, hak]; rfl)
      clear hA hak hc
      have n1 : ¬ b = w.heap.size := by omega
      by_cases hp : a.path = p
      · have te := str_yes hp
        have HF : Hid (Ml.find (ls.map (·.path)) p = some k) := Ml.find_some (by rw [HAK.out, hp]) HJ.out
        clear hp
        go_wp2_with fail
        go_ret2
        exact ⟨ret_find HF.out, (Below.refl _ _).alloc (Nat.le_refl _) _⟩
      · have te := str_no hp
        have HN := Lib.hid (show ∀ j q, j < k + 1 → (ls.map (·.path))[j]? = some q → q ≠ p from fun j q hj hq => by
          by_cases h : j < k
          · exact HJ.out j q h hq
          · have : j = k := by omega
            subst this
            rw [HAK.out] at hq
            injection hq with hq
            rw [← hq]; exact hp)
        clear hp
        go_wp2_with fail
        go_round
        case rel => exact ⟨k + 1, by omega, by go_num, HN⟩
        case measure => simp [intOf]; omega
    · have HF : Hid (Ml.find (ls.map (·.path)) p = none) := Ml.find_none fun j q hq => HJ.out j q (by have h1 := (List.getElem?_eq_some_iff.1 hq).1; have h2 := HL.out; simp at h1; omega) hq
      go_wp2_with fail
      go_ret2
      exact ⟨ret_find0 HF.out, (Below.refl _ _).alloc (Nat.le_refl _) _⟩

set_option maxRecDepth 100000 in
set_option maxHeartbeats 1600000 in
theorem reach77 (s : SysC) (ls : List LiveC) (ups : List Bool) (p : ByteArray) (w : World) (hup : Rd w w.heap.size 1 s.up.a s.up.n (ups.map .bool)) (hac : Rd w w.heap.size 9 s.actors.a s.actors.n (ls.flatMap liveL)) (hbn : s.actors.n ≤ 9223372036854775807) (hbu : s.up.n ≤ 9223372036854775807) :
    Calls Try.prog 77 #[sysV s, .string p] w (ReachPost (Ml.reach ups ls p) w) := by
  have C := Lib.hid (fun (W : World) (hW : Below w.heap.size w W) => find45 s ls p W ((hac.below hW (Nat.le_refl _)).more hW.size) hbn)
  have HA := Lib.hid hac
  have HU := Lib.hid hup
  have HL := Lib.hid (hac.len (fun _ => rfl) (by omega))
  have HLU := Lib.hid (show ups.length = s.up.n by have := hup.1; simpa using this)
  clear hac hup
  cases hf : Ml.find (ls.map (·.path)) p with
  | none =>
    have HR : Hid (Ml.reach ups ls p = none) := Lib.hid (by unfold Ml.reach; rw [hf]; rfl)
    rw [hf] at C
    clear hf
    go_enter Try.func77, Try.ntmps77
    go_wp2_with fail
    refine (C.out _ ((Below.refl _ _).alloc (Nat.le_refl _) _)).mono ?_
    rintro e v1 ⟨rfl, h1⟩
    have z1 := h1.size
    simp at z1
    have HB := Lib.hid (Below.call (w := w) ((Below.refl _ _).alloc (Nat.le_refl _) _) h1)
    clear h1
    go_wp2_with fail
    go_ret2
    exact reachPost_no 0 HR.out HB.out
  | some i =>
    obtain ⟨hp, _⟩ := Ml.find_spec hf
    have hi : i < s.actors.n := by
      have h1 := (List.getElem?_eq_some_iff.1 hp).1
      have h2 := HL.out
      simp at h1; omega
    obtain ⟨b, off, a, hA, hb, hak, hc⟩ := HA.out.at_ (fun _ => rfl) (by omega) hi
    have HR : Hid (Ml.reach ups ls p = if Ml.okA ups a then some i else none) := Lib.hid (by unfold Ml.reach; rw [hf]; simp [Option.filter, hak])
    rw [hf] at C
    have c2 : w.cell? ⟨b, off + i * 9 + 2, none⟩ = some (.int .i64 a.node) := hc 2 _ rfl
    have c7 : w.cell? ⟨b, off + i * 9 + 7, none⟩ = some (.bool a.stopped) := hc 7 _ rfl
    have hix : ∀ W : World, Sem.run Try.prog (Instr.indexAt 23 (.slice s.actors.a s.actors.n s.actors.c) (.int .i64 (i : Int))) W = .ok (.pointer (some ⟨b, off + i * 9, none⟩)) W := by intro W; rw [hA]; go_simp
    clear hA hak hc hp hf
    go_enter Try.func77, Try.ntmps77
    go_wp2_with fail
    refine (C.out _ ((Below.refl _ _).alloc (Nat.le_refl _) _)).mono ?_
    rintro e v1 ⟨rfl, h1⟩
    have z1 := h1.size
    simp at z1
    have HB := Lib.hid (Below.call (w := w) ((Below.refl _ _).alloc (Nat.le_refl _) _) h1)
    obtain ⟨g0, kc, kf⟩ := keepB h1 w.heap.size (by simp)
    have q0 : v1.cell? ⟨w.heap.size, 0, none⟩ = some (.slice s.up.a s.up.n s.up.c) := (kc 0).trans (by simp [go_sem])
    have q4 : v1.cell? ⟨w.heap.size, 4, none⟩ = some (.slice s.actors.a s.actors.n s.actors.c) := (kc 4).trans (by simp [go_sem])
    clear kc kf
    have d2 : v1.cell? ⟨b, off + i * 9 + 2, none⟩ = some (.int .i64 a.node) := (HB.out.cell (p := ⟨b, off + i * 9 + 2, none⟩) hb).trans c2
    have d7 : v1.cell? ⟨b, off + i * 9 + 7, none⟩ = some (.bool a.stopped) := (HB.out.cell (p := ⟨b, off + i * 9 + 7, none⟩) hb).trans c7
    clear h1 c2 c7
    cases k1 : a.stopped with
    | true =>
      have HN : Hid (Ml.reach ups ls p = none) := Lib.hid (by rw [HR.out]; simp [Ml.okA, k1])
      rw [k1] at d7
      clear k1
      go_wp2_with fail
      go_ret2
      exact reachPost_no 0 HN.out HB.out
    | false =>
    rw [k1] at d7
    cases k2 : decide (0 ≤ a.node) with
    | false =>
      have HN : Hid (Ml.reach ups ls p = none) := Lib.hid (by rw [HR.out]; simp only [Ml.okA, Ml.up, k1, k2]; simp)
      clear k1
      go_wp2_with fail
      go_quiet (fail)
      go_wp2_with fail
      go_ret2
      exact reachPost_no i HN.out (below_drewN HB.out _)
    | true =>
    cases k3 : decide (a.node < (s.up.n : Int)) with
    | false =>
      have HN : Hid (Ml.reach ups ls p = none) := Lib.hid (by rw [HR.out]; simp only [Ml.okA, Ml.up, k1, k2, HLU.out, k3]; simp)
      clear k1
      go_wp2_with fail
      go_quiet (fail)
      go_wp2_with fail
      go_ret2
      exact reachPost_no i HN.out (below_drewN HB.out _)
    | true =>
    obtain ⟨nd, hnd⟩ : ∃ nd : Nat, a.node = (nd : Int) := ⟨a.node.toNat, by simp at k2; omega⟩
    have hnl : nd < s.up.n := by simp [hnd] at k3; omega
    obtain ⟨b2, o2, hA2, hb2, hc2⟩ := HU.out.2 (by omega)
    obtain ⟨u, hu⟩ : ∃ u, ups[nd]? = some u := ⟨ups[nd]'(by rw [HLU.out]; exact hnl), List.getElem?_eq_getElem _⟩
    have x0 : v1.cell? ⟨b2, o2 + nd, none⟩ = some (.bool u) := (HB.out.cell (p := ⟨b2, o2 + nd, none⟩) hb2).trans (hc2 nd _ (by simp [hu]))
    have hix2 : ∀ W : World, Sem.run Try.prog (Instr.indexAt 22 (.slice s.up.a s.up.n s.up.c) (.int .i64 (nd : Int))) W = .ok (.pointer (some ⟨b2, o2 + nd, none⟩)) W := by intro W; rw [hA2]; go_simp
    have HN : Hid (Ml.reach ups ls p = if u then some i else none) := Lib.hid (by rw [HR.out]; simp only [Ml.okA, Ml.up, k1, k2, HLU.out, k3]; simp [hnd, hu])
    rw [hnd] at d2 k2 k3
    clear k1 hA2 hc2 hu hnd
    cases u with
    | false =>
      go_wp2_with fail
      go_quiet (fail)
      go_wp2_with fail
      go_ret2
      exact reachPost_no i HN.out (below_drewN HB.out _)
    | true =>
      go_wp2_with fail
      go_quiet (fail)
      go_wp2_with fail
      go_ret2
      exact reachPost_yes i HN.out (below_drewN HB.out _)
end Go.Proofs.Ytjdjfjokniingaa
