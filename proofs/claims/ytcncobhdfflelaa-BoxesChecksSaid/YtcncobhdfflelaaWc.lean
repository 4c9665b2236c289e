/- The contract of words.plus. -/
import Derived.Test.YtcncobhdfflelaaWb
namespace Go.Proofs.Ytcncobhdfflelaa
open Go.RowKit

/-- between two rounds of plus -/
structure PlusRel (w wr : World) (ws vs : List Nat) (k : Nat) (c : Nat) (us : List Nat) : Prop where
  len : us.length = 15
  wd : Bx.Wd us
  hc : c ≤ 1
  dr : us.drop k = ws.drop k
  vl : Bx.val (us.take k) + 18446744073709551616 ^ k * c = Bx.val (ws.take k) + Bx.val (vs.take k)
  bx : BoxAt wr w.heap.size (us.map u64V)
  by_ : BoxAt wr (w.heap.size + 1) (vs.map u64V)
  rs : BoxAt wr (w.heap.size + 1 + 1) (List.replicate 15 (u64V 0))
  bl : Below w.heap.size w wr
theorem PlusRel.drewN {w wr : World} {ws vs us : List Nat} {k c : Nat} (h : PlusRel w wr ws vs k c us) : PlusRel w wr.drew ws vs k c us := ⟨h.len, h.wd, h.hc, h.dr, h.vl, h.bx, h.by_, h.rs, h.bl.drew⟩
theorem PlusRel.step {w wr : World} {ws vs us : List Nat} {k c x y s q : Nat} (h : PlusRel w wr ws vs k c us) (hk : k < 15) (hwl : ws.length = 15) (hvl : vs.length = 15) (hx : us[k]? = some x) (hy : vs[k]? = some y)
    (hs : s = (x + y + c) % 18446744073709551616) (hq : q = (x + y + c) / 18446744073709551616) (hq1 : q ≤ 1) : PlusRel w (wr.setCell ⟨w.heap.size, k, none⟩ (u64V s)) ws vs (k + 1) q (us.set k s) := by
  have hku : k < us.length := by rw [h.len]; exact hk
  have hkw : k < ws.length := by omega
  have hkv : k < vs.length := by omega
  have ex : us[k] = x := by rw [List.getElem?_eq_getElem hku] at hx; injection hx
  have ey : vs[k] = y := by rw [List.getElem?_eq_getElem hkv] at hy; injection hy
  have ew : ws[k] = x := by rw [← ex]; exact (drop_get h.dr hkw hku).symm
  have hd : us.drop (k + 1) = ws.drop (k + 1) := by
    have h1 := List.drop_eq_getElem_cons hkw
    have h2 := List.drop_eq_getElem_cons hku
    have := h.dr
    rw [h1, h2] at this
    injection this
  refine ⟨by simpa using h.len, wd_set h.wd (by omega), hq1, by rw [List.drop_set_of_lt (by omega)]; exact hd, ?_, ?_, h.by_.setOther _ _ (by show w.heap.size ≠ w.heap.size + 1; omega), h.rs.setOther _ _ (by show w.heap.size ≠ w.heap.size + 1 + 1; omega), h.bl.setCell (Nat.le_refl _) _⟩
  · have h0 := h.vl
    rw [Bx.val_set hku, Bx.val_take hkw, Bx.val_take hkv, ew, ey, Nat.pow_succ]
    have e1 : s + 18446744073709551616 * q = x + y + c := by omega
    generalize 18446744073709551616 ^ k = P at h0 ⊢
    have e2 : P * s + P * 18446744073709551616 * q = P * x + P * y + P * c := by
      rw [Nat.mul_assoc, ← Nat.mul_add, e1, Nat.mul_add, Nat.mul_add]
    omega
  · rw [List.map_set]
    exact h.bx.set k _ (by simpa using hku)
theorem PlusRel.done {w wr : World} {ws vs us : List Nat} {c : Nat} (h : PlusRel w wr ws vs 15 c us) (hwl : ws.length = 15) (hvl : vs.length = 15) : Bx.val us = (Bx.val ws + Bx.val vs) % 18446744073709551616 ^ 15 := by
  have h1 := h.vl
  rw [List.take_of_length_le (by rw [h.len]; exact Nat.le_refl _), List.take_of_length_le (by rw [hwl]; exact Nat.le_refl _), List.take_of_length_le (by rw [hvl]; exact Nat.le_refl _)] at h1
  have h2 := Bx.val_lt h.wd
  rw [h.len] at h2
  rw [← h1, Nat.add_mul_mod_self_left, Nat.mod_eq_of_lt h2]

set_option linter.unusedSimpArgs false in
set_option linter.unusedVariables false in
set_option maxRecDepth 100000 in
set_option maxHeartbeats 3200000 in
theorem plus45 (ws vs : List Nat) (N : Nat) (w : World) (hl : ws.length = 15) (hw : Bx.Wd ws) (hl2 : vs.length = 15) (hw2 : Bx.Wd vs) (hN : (Bx.val ws + Bx.val vs) % 18446744073709551616 ^ 15 = N) :
    Calls Try.prog 45 #[wV ws, wV vs] w (WordsPost N w) := by
  obtain ⟨a0, a1, a2, a3, a4, a5, a6, a7, a8, a9, a10, a11, a12, a13, a14, hws⟩ := list15 hl
  obtain ⟨d0, d1, d2, d3, d4, d5, d6, d7, d8, d9, d10, d11, d12, d13, d14, hvs⟩ := list15 hl2
  have HWS := Lib.hid hws
  have HVS := Lib.hid hvs
  have HNN := Lib.hid hN
  have HL := Lib.hid hl
  have HW := Lib.hid hw
  have HL2 := Lib.hid hl2
  have HW2 := Lib.hid hw2
  have e0 : wV ws = .agg #[u64V a0, u64V a1, u64V a2, u64V a3, u64V a4, u64V a5, u64V a6, u64V a7, u64V a8, u64V a9, u64V a10, u64V a11, u64V a12, u64V a13, u64V a14] := by rw [hws]; rfl
  have e1 : wV vs = .agg #[u64V d0, u64V d1, u64V d2, u64V d3, u64V d4, u64V d5, u64V d6, u64V d7, u64V d8, u64V d9, u64V d10, u64V d11, u64V d12, u64V d13, u64V d14] := by rw [hvs]; rfl
  rw [e0, e1]
  clear e0 e1 hws hvs hl hw hl2 hw2 hN
  go_enter Try.func45, Try.ntmps45
  go_wp2_with fail
  go_loopw [5, 7] (fun r i W => ∃ (k c : Nat) (us : List Nat), k ≤ 15 ∧ i = .int .i64 k ∧ r = .int .u64 c ∧ Hid (PlusRel w W ws vs k c us)) (fun _ i _ => 15 - (intOf i).toNat)
  case atStart =>
    refine ⟨0, 0, ws, by omega, rfl, rfl, Lib.hid ⟨HL.out, HW.out, by omega, rfl, by simp [Bx.val], ?_, ?_, ?_, (((Below.refl _ _).alloc (Nat.le_refl _) _).alloc (by simp) _).alloc (by simp; omega) _⟩⟩
    · rw [HWS.out]
      exact ((BoxAt.new w 65 _ _ rfl).alloc _).alloc _
    · rw [HVS.out]
      exact (BoxAt.new _ 65 _ _ (by simp)).alloc _
    · exact BoxAt.new _ 65 (List.replicate 15 (u64V 0)) _ (by simp)
  case round =>
    obtain ⟨k, c, us, hk, rfl, rfl, HR⟩ := hrel
    by_cases hlt : k < 15
    · have hlt' : (k : Int) < 15 := by omega
      have hku : k < us.length := by rw [HR.out.len]; exact hlt
      have hkv : k < vs.length := by rw [HL2.out]; exact hlt
      obtain ⟨x, hx⟩ : ∃ x, us[k]? = some x := ⟨_, List.getElem?_eq_getElem hku⟩
      obtain ⟨y, hy⟩ : ∃ y, vs[k]? = some y := ⟨_, List.getElem?_eq_getElem hkv⟩
      have hx2 : x < 18446744073709551616 := HR.out.wd x (List.mem_of_getElem? hx)
      have hy2 : y < 18446744073709551616 := HW2.out y (List.mem_of_getElem? hy)
      have c0 : wr.cell? ⟨w.heap.size, k, none⟩ = some (.int .u64 (x : Int)) := HR.out.bx.2.1 k _ (by rw [List.getElem?_map, hx]; rfl)
      have f0 : wr.frozen? ⟨w.heap.size, k, none⟩ = false := HR.out.bx.2.2 k
      have c1 : wr.cell? ⟨w.heap.size + 1, k, none⟩ = some (.int .u64 (y : Int)) := HR.out.by_.2.1 k _ (by rw [List.getElem?_map, hy]; rfl)
      have hix : ∀ W, Sem.run Try.prog (Instr.indexAt 65 (.pointer (some ⟨w.heap.size, 0, none⟩)) (.int .i64 (k : Int))) W = .ok (.pointer (some ⟨w.heap.size, k, none⟩)) W := by
        intro W
        go_simp
      have hix2 : ∀ W, Sem.run Try.prog (Instr.indexAt 65 (.pointer (some ⟨w.heap.size + 1, 0, none⟩)) (.int .i64 (k : Int))) W = .ok (.pointer (some ⟨w.heap.size + 1, k, none⟩)) W := by
        intro W
        go_simp
      obtain ⟨s, hs⟩ : ∃ s, s = (x + y + c) % 18446744073709551616 := ⟨_, rfl⟩
      obtain ⟨q, hq⟩ : ∃ q, q = (x + y + c) / 18446744073709551616 := ⟨_, rfl⟩
      have hc := HR.out.hc
      have hadd : ∀ W, Sem.run Try.prog (callFunc 58 #[.int .u64 (x : Int), .int .u64 (y : Int), .int .u64 (c : Int)]) W = .ok (.value (.tuple #[.int .u64 (s : Int), .int .u64 (q : Int)])) W := fun W => by
        have := add58 x y c hc W
        rw [← hs, ← hq] at this
        exact this
      have HN := Lib.hid ((HR.out.drewN).step hlt HL.out HL2.out hx hy hs hq (by omega))
      clear hs hq hx hy hc hx2 hy2
      go_wp2_with fail
      refine wp_region_held_drew (S := (fun _ => True)) (by kernel_rfl) ?_ (fun hHeld => ?_)
      · trivial
      refine wpAnyH_take (i := 0) (v := ?_) rfl (by kernel_rfl) (by kernel_rfl) (by kernel_rfl) (fun _ _ _ h => h) (Or.inl ⟨by rfl, ?_⟩) (by assumption) ?_
      rotate_left
      · intro w hSw; (try dsimp only at hSw); go_simp; (first | done | (with_reducible rfl))
      try simp only [Act.put, List.getElem_toArray, List.getElem_cons_succ, List.getElem_cons_zero, List.setIfInBounds_toArray, List.set_cons_zero, List.set_cons_succ]
      refine wpAnyH_take (i := 1) (v := ?_) rfl (by kernel_rfl) (by kernel_rfl) (by kernel_rfl) (fun _ _ _ h => h) (Or.inl ⟨by rfl, ?_⟩) (by assumption) ?_
      rotate_left
      · intro w hSw; (try dsimp only at hSw); go_simp; (first | done | (with_reducible rfl))
      try simp only [Act.put, List.getElem_toArray, List.getElem_cons_succ, List.getElem_cons_zero, List.setIfInBounds_toArray, List.set_cons_zero, List.set_cons_succ]
      refine wpAnyH_take (i := 2) (v := ?_) rfl (by kernel_rfl) (by kernel_rfl) (by kernel_rfl) (fun _ _ _ h => h) (Or.inl ⟨by rfl, ?_⟩) (by assumption) ?_
      rotate_left
      · intro w hSw; (try dsimp only at hSw); go_simp; (first | done | (with_reducible rfl))
      try simp only [Act.put, List.getElem_toArray, List.getElem_cons_succ, List.getElem_cons_zero, List.setIfInBounds_toArray, List.set_cons_zero, List.set_cons_succ]
      refine wpAnyH_take (i := 4) (v := ?_) rfl (by kernel_rfl) (by kernel_rfl) (by kernel_rfl) (fun _ _ _ h => h) (Or.inl ⟨by rfl, ?_⟩) (by assumption) ?_
      rotate_left
      · intro w hSw; (try dsimp only at hSw); go_simp; (first | done | (with_reducible rfl))
      try simp only [Act.put, List.getElem_toArray, List.getElem_cons_succ, List.getElem_cons_zero, List.setIfInBounds_toArray, List.set_cons_zero, List.set_cons_succ]
      refine wpAnyH_take (i := 5) (v := ?_) rfl (by kernel_rfl) (by kernel_rfl) (by kernel_rfl) (fun _ _ _ h => h) (Or.inl ⟨by rfl, ?_⟩) (by assumption) ?_
      rotate_left
      · intro w hSw; (try dsimp only at hSw); go_simp; (first | done | (with_reducible rfl))
      try simp only [Act.put, List.getElem_toArray, List.getElem_cons_succ, List.getElem_cons_zero, List.setIfInBounds_toArray, List.set_cons_zero, List.set_cons_succ]
      refine wpAnyH_take (i := 7) (v := ?_) rfl (by kernel_rfl) (by kernel_rfl) (by kernel_rfl) (fun _ _ _ h => h) (Or.inl ⟨by rfl, ?_⟩) (by assumption) ?_
      rotate_left
      · intro w hSw; (try dsimp only at hSw); go_simp; (first | done | (with_reducible rfl))
      try simp only [Act.put, List.getElem_toArray, List.getElem_cons_succ, List.getElem_cons_zero, List.setIfInBounds_toArray, List.set_cons_zero, List.set_cons_succ]
      refine wpAnyH_ready (rs := [3, 6]) (by kernel_rfl) (by simp) ?_
      refine AllReadyH.cons rfl (fun K hK => ?_) (AllReadyH.cons rfl (fun K hK => ?_) AllReadyH.nil)
      · go_simp
        refine hK.out _ _ ?_ (fun hHeld => ?_)
        · trivial
        clear hK K
        try simp only [Act.put, List.getElem_toArray, List.getElem_cons_succ, List.getElem_cons_zero, List.setIfInBounds_toArray, List.set_cons_zero, List.set_cons_succ]
        refine wpAnyH_ready (rs := [6]) (by kernel_rfl) (by simp) ?_
        refine AllReadyH.cons rfl (fun K hK => ?_) AllReadyH.nil
        go_simp
        refine hK.out _ _ ?_ (fun hHeld => ?_)
        · trivial
        clear hK K
        try simp only [Act.put, List.getElem_toArray, List.getElem_cons_succ, List.getElem_cons_zero, List.setIfInBounds_toArray, List.set_cons_zero, List.set_cons_succ]
        refine wpAnyH_take (i := 8) (v := ?_) rfl (by kernel_rfl) (by kernel_rfl) (by kernel_rfl) (fun _ _ _ h => h) (Or.inl ⟨by rfl, ?_⟩) (by assumption) ?_
        rotate_left
        · intro w hSw; (try dsimp only at hSw); go_simp; (first | done | (with_reducible rfl))
        try simp only [Act.put, List.getElem_toArray, List.getElem_cons_succ, List.getElem_cons_zero, List.setIfInBounds_toArray, List.set_cons_zero, List.set_cons_succ]
        refine wpAnyH_take (i := 9) (v := ?_) rfl (by kernel_rfl) (by kernel_rfl) (by kernel_rfl) (fun _ _ _ h => h) (Or.inl ⟨by rfl, ?_⟩) (by assumption) ?_
        rotate_left
        · intro w hSw; (try dsimp only at hSw); go_simp; (first | done | (with_reducible rfl))
        try simp only [Act.put, List.getElem_toArray, List.getElem_cons_succ, List.getElem_cons_zero, List.setIfInBounds_toArray, List.set_cons_zero, List.set_cons_succ]
        refine wpAnyH_take (i := 10) (v := ?_) rfl (by kernel_rfl) (by kernel_rfl) (by kernel_rfl) (fun _ _ _ h => h) (Or.inl ⟨by rfl, ?_⟩) (by assumption) ?_
        rotate_left
        · intro w hSw; (try dsimp only at hSw); go_simp; (first | done | (with_reducible rfl))
        try simp only [Act.put, List.getElem_toArray, List.getElem_cons_succ, List.getElem_cons_zero, List.setIfInBounds_toArray, List.set_cons_zero, List.set_cons_succ]
        refine wpAnyH_take (i := 11) (v := ?_) rfl (by kernel_rfl) (by kernel_rfl) (by kernel_rfl) (fun _ _ _ h => h) (Or.inl ⟨by rfl, ?_⟩) (by assumption) ?_
        rotate_left
        · intro w hSw; (try dsimp only at hSw); go_simp; (first | done | (with_reducible rfl))
        try simp only [Act.put, List.getElem_toArray, List.getElem_cons_succ, List.getElem_cons_zero, List.setIfInBounds_toArray, List.set_cons_zero, List.set_cons_succ]
        refine wpAnyH_take (i := 12) (v := ?_) rfl (by kernel_rfl) (by kernel_rfl) (by kernel_rfl) (fun _ _ _ h => h) (Or.inl ⟨by rfl, ?_⟩) (by assumption) ?_
        rotate_left
        · intro w hSw; (try dsimp only at hSw); go_simp; (first | done | (with_reducible rfl))
        try simp only [Act.put, List.getElem_toArray, List.getElem_cons_succ, List.getElem_cons_zero, List.setIfInBounds_toArray, List.set_cons_zero, List.set_cons_succ]
        refine wpAnyH_ready (rs := [13]) (by kernel_rfl) (by simp) ?_
        refine AllReadyH.cons rfl (fun K hK => ?_) AllReadyH.nil
        go_simp
        refine hK.out _ _ ?_ (fun hHeld => ?_)
        · trivial
        clear hK K
        try simp only [Act.put, List.getElem_toArray, List.getElem_cons_succ, List.getElem_cons_zero, List.setIfInBounds_toArray, List.set_cons_zero, List.set_cons_succ]
        refine wpAnyH_take (i := 14) (v := ?_) rfl (by kernel_rfl) (by kernel_rfl) (by kernel_rfl) (fun _ _ _ h => h) (Or.inl ⟨by rfl, ?_⟩) (by assumption) ?_
        rotate_left
        · intro w hSw; (try dsimp only at hSw); go_simp; (first | done | (with_reducible rfl))
        try simp only [Act.put, List.getElem_toArray, List.getElem_cons_succ, List.getElem_cons_zero, List.setIfInBounds_toArray, List.set_cons_zero, List.set_cons_succ]
        refine wpAnyH_done (by kernel_rfl) ?_ _
        go_wp2_with fail
        go_roundw
        case rel => exact ⟨k + 1, q, us.set k s, by omega, by go_num, rfl, HN⟩
        case measure => simp [intOf]; omega
      · go_simp
        refine hK.out _ _ ?_ (fun hHeld => ?_)
        · trivial
        clear hK K
        try simp only [Act.put, List.getElem_toArray, List.getElem_cons_succ, List.getElem_cons_zero, List.setIfInBounds_toArray, List.set_cons_zero, List.set_cons_succ]
        refine wpAnyH_ready (rs := [3]) (by kernel_rfl) (by simp) ?_
        refine AllReadyH.cons rfl (fun K hK => ?_) AllReadyH.nil
        go_simp
        refine hK.out _ _ ?_ (fun hHeld => ?_)
        · trivial
        clear hK K
        try simp only [Act.put, List.getElem_toArray, List.getElem_cons_succ, List.getElem_cons_zero, List.setIfInBounds_toArray, List.set_cons_zero, List.set_cons_succ]
        refine wpAnyH_take (i := 8) (v := ?_) rfl (by kernel_rfl) (by kernel_rfl) (by kernel_rfl) (fun _ _ _ h => h) (Or.inl ⟨by rfl, ?_⟩) (by assumption) ?_
        rotate_left
        · intro w hSw; (try dsimp only at hSw); go_simp; (first | done | (with_reducible rfl))
        try simp only [Act.put, List.getElem_toArray, List.getElem_cons_succ, List.getElem_cons_zero, List.setIfInBounds_toArray, List.set_cons_zero, List.set_cons_succ]
        refine wpAnyH_take (i := 9) (v := ?_) rfl (by kernel_rfl) (by kernel_rfl) (by kernel_rfl) (fun _ _ _ h => h) (Or.inl ⟨by rfl, ?_⟩) (by assumption) ?_
        rotate_left
        · intro w hSw; (try dsimp only at hSw); go_simp; (first | done | (with_reducible rfl))
        try simp only [Act.put, List.getElem_toArray, List.getElem_cons_succ, List.getElem_cons_zero, List.setIfInBounds_toArray, List.set_cons_zero, List.set_cons_succ]
        refine wpAnyH_take (i := 10) (v := ?_) rfl (by kernel_rfl) (by kernel_rfl) (by kernel_rfl) (fun _ _ _ h => h) (Or.inl ⟨by rfl, ?_⟩) (by assumption) ?_
        rotate_left
        · intro w hSw; (try dsimp only at hSw); go_simp; (first | done | (with_reducible rfl))
        try simp only [Act.put, List.getElem_toArray, List.getElem_cons_succ, List.getElem_cons_zero, List.setIfInBounds_toArray, List.set_cons_zero, List.set_cons_succ]
        refine wpAnyH_take (i := 11) (v := ?_) rfl (by kernel_rfl) (by kernel_rfl) (by kernel_rfl) (fun _ _ _ h => h) (Or.inl ⟨by rfl, ?_⟩) (by assumption) ?_
        rotate_left
        · intro w hSw; (try dsimp only at hSw); go_simp; (first | done | (with_reducible rfl))
        try simp only [Act.put, List.getElem_toArray, List.getElem_cons_succ, List.getElem_cons_zero, List.setIfInBounds_toArray, List.set_cons_zero, List.set_cons_succ]
        refine wpAnyH_take (i := 12) (v := ?_) rfl (by kernel_rfl) (by kernel_rfl) (by kernel_rfl) (fun _ _ _ h => h) (Or.inl ⟨by rfl, ?_⟩) (by assumption) ?_
        rotate_left
        · intro w hSw; (try dsimp only at hSw); go_simp; (first | done | (with_reducible rfl))
        try simp only [Act.put, List.getElem_toArray, List.getElem_cons_succ, List.getElem_cons_zero, List.setIfInBounds_toArray, List.set_cons_zero, List.set_cons_succ]
        refine wpAnyH_ready (rs := [13]) (by kernel_rfl) (by simp) ?_
        refine AllReadyH.cons rfl (fun K hK => ?_) AllReadyH.nil
        go_simp
        refine hK.out _ _ ?_ (fun hHeld => ?_)
        · trivial
        clear hK K
        try simp only [Act.put, List.getElem_toArray, List.getElem_cons_succ, List.getElem_cons_zero, List.setIfInBounds_toArray, List.set_cons_zero, List.set_cons_succ]
        refine wpAnyH_take (i := 14) (v := ?_) rfl (by kernel_rfl) (by kernel_rfl) (by kernel_rfl) (fun _ _ _ h => h) (Or.inl ⟨by rfl, ?_⟩) (by assumption) ?_
        rotate_left
        · intro w hSw; (try dsimp only at hSw); go_simp; (first | done | (with_reducible rfl))
        try simp only [Act.put, List.getElem_toArray, List.getElem_cons_succ, List.getElem_cons_zero, List.setIfInBounds_toArray, List.set_cons_zero, List.set_cons_succ]
        refine wpAnyH_done (by kernel_rfl) ?_ _
        go_wp2_with fail
        go_roundw
        case rel => exact ⟨k + 1, q, us.set k s, by omega, by go_num, rfl, HN⟩
        case measure => simp [intOf]; omega
    · have hk15 : k = 15 := by omega
      subst hk15
      have hlt' : ¬ ((15 : Int) < 15) := by omega
      obtain ⟨b0, b1, b2, b3, b4, b5, b6, b7, b8, b9, b10, b11, b12, b13, b14, hus⟩ := list15 HR.out.len
      have HD := Lib.hid (HR.out.done HL.out HL2.out)
      have BX : Hid (BoxAt wr w.heap.size [u64V b0, u64V b1, u64V b2, u64V b3, u64V b4, u64V b5, u64V b6, u64V b7, u64V b8, u64V b9, u64V b10, u64V b11, u64V b12, u64V b13, u64V b14]) := Lib.hid (by have := HR.out.bx; rw [hus] at this; exact this)
      have HUS := Lib.hid hus
      have RS := Lib.hid HR.out.rs
      clear hus
      have x0 : wr.cell? ⟨w.heap.size, 0, none⟩ = some (u64V b0) := BX.out.2.1 0 _ rfl
      have z0 : wr.cell? ⟨w.heap.size + 1 + 1, 0, none⟩ = some (u64V 0) := RS.out.2.1 0 _ rfl
      have y0 : wr.frozen? ⟨w.heap.size + 1 + 1, 0, none⟩ = false := RS.out.2.2 0
      have x1 : wr.cell? ⟨w.heap.size, 1, none⟩ = some (u64V b1) := BX.out.2.1 1 _ rfl
      have z1 : wr.cell? ⟨w.heap.size + 1 + 1, 1, none⟩ = some (u64V 0) := RS.out.2.1 1 _ rfl
      have y1 : wr.frozen? ⟨w.heap.size + 1 + 1, 1, none⟩ = false := RS.out.2.2 1
      have x2 : wr.cell? ⟨w.heap.size, 2, none⟩ = some (u64V b2) := BX.out.2.1 2 _ rfl
      have z2 : wr.cell? ⟨w.heap.size + 1 + 1, 2, none⟩ = some (u64V 0) := RS.out.2.1 2 _ rfl
      have y2 : wr.frozen? ⟨w.heap.size + 1 + 1, 2, none⟩ = false := RS.out.2.2 2
      have x3 : wr.cell? ⟨w.heap.size, 3, none⟩ = some (u64V b3) := BX.out.2.1 3 _ rfl
      have z3 : wr.cell? ⟨w.heap.size + 1 + 1, 3, none⟩ = some (u64V 0) := RS.out.2.1 3 _ rfl
      have y3 : wr.frozen? ⟨w.heap.size + 1 + 1, 3, none⟩ = false := RS.out.2.2 3
      have x4 : wr.cell? ⟨w.heap.size, 4, none⟩ = some (u64V b4) := BX.out.2.1 4 _ rfl
      have z4 : wr.cell? ⟨w.heap.size + 1 + 1, 4, none⟩ = some (u64V 0) := RS.out.2.1 4 _ rfl
      have y4 : wr.frozen? ⟨w.heap.size + 1 + 1, 4, none⟩ = false := RS.out.2.2 4
      have x5 : wr.cell? ⟨w.heap.size, 5, none⟩ = some (u64V b5) := BX.out.2.1 5 _ rfl
      have z5 : wr.cell? ⟨w.heap.size + 1 + 1, 5, none⟩ = some (u64V 0) := RS.out.2.1 5 _ rfl
      have y5 : wr.frozen? ⟨w.heap.size + 1 + 1, 5, none⟩ = false := RS.out.2.2 5
      have x6 : wr.cell? ⟨w.heap.size, 6, none⟩ = some (u64V b6) := BX.out.2.1 6 _ rfl
      have z6 : wr.cell? ⟨w.heap.size + 1 + 1, 6, none⟩ = some (u64V 0) := RS.out.2.1 6 _ rfl
      have y6 : wr.frozen? ⟨w.heap.size + 1 + 1, 6, none⟩ = false := RS.out.2.2 6
      have x7 : wr.cell? ⟨w.heap.size, 7, none⟩ = some (u64V b7) := BX.out.2.1 7 _ rfl
      have z7 : wr.cell? ⟨w.heap.size + 1 + 1, 7, none⟩ = some (u64V 0) := RS.out.2.1 7 _ rfl
      have y7 : wr.frozen? ⟨w.heap.size + 1 + 1, 7, none⟩ = false := RS.out.2.2 7
      have x8 : wr.cell? ⟨w.heap.size, 8, none⟩ = some (u64V b8) := BX.out.2.1 8 _ rfl
      have z8 : wr.cell? ⟨w.heap.size + 1 + 1, 8, none⟩ = some (u64V 0) := RS.out.2.1 8 _ rfl
      have y8 : wr.frozen? ⟨w.heap.size + 1 + 1, 8, none⟩ = false := RS.out.2.2 8
      have x9 : wr.cell? ⟨w.heap.size, 9, none⟩ = some (u64V b9) := BX.out.2.1 9 _ rfl
      have z9 : wr.cell? ⟨w.heap.size + 1 + 1, 9, none⟩ = some (u64V 0) := RS.out.2.1 9 _ rfl
      have y9 : wr.frozen? ⟨w.heap.size + 1 + 1, 9, none⟩ = false := RS.out.2.2 9
      have x10 : wr.cell? ⟨w.heap.size, 10, none⟩ = some (u64V b10) := BX.out.2.1 10 _ rfl
      have z10 : wr.cell? ⟨w.heap.size + 1 + 1, 10, none⟩ = some (u64V 0) := RS.out.2.1 10 _ rfl
      have y10 : wr.frozen? ⟨w.heap.size + 1 + 1, 10, none⟩ = false := RS.out.2.2 10
      have x11 : wr.cell? ⟨w.heap.size, 11, none⟩ = some (u64V b11) := BX.out.2.1 11 _ rfl
      have z11 : wr.cell? ⟨w.heap.size + 1 + 1, 11, none⟩ = some (u64V 0) := RS.out.2.1 11 _ rfl
      have y11 : wr.frozen? ⟨w.heap.size + 1 + 1, 11, none⟩ = false := RS.out.2.2 11
      have x12 : wr.cell? ⟨w.heap.size, 12, none⟩ = some (u64V b12) := BX.out.2.1 12 _ rfl
      have z12 : wr.cell? ⟨w.heap.size + 1 + 1, 12, none⟩ = some (u64V 0) := RS.out.2.1 12 _ rfl
      have y12 : wr.frozen? ⟨w.heap.size + 1 + 1, 12, none⟩ = false := RS.out.2.2 12
      have x13 : wr.cell? ⟨w.heap.size, 13, none⟩ = some (u64V b13) := BX.out.2.1 13 _ rfl
      have z13 : wr.cell? ⟨w.heap.size + 1 + 1, 13, none⟩ = some (u64V 0) := RS.out.2.1 13 _ rfl
      have y13 : wr.frozen? ⟨w.heap.size + 1 + 1, 13, none⟩ = false := RS.out.2.2 13
      have x14 : wr.cell? ⟨w.heap.size, 14, none⟩ = some (u64V b14) := BX.out.2.1 14 _ rfl
      have z14 : wr.cell? ⟨w.heap.size + 1 + 1, 14, none⟩ = some (u64V 0) := RS.out.2.1 14 _ rfl
      have y14 : wr.frozen? ⟨w.heap.size + 1 + 1, 14, none⟩ = false := RS.out.2.2 14
      go_wp2_with fail
      have BF := put15_box b0 b1 b2 b3 b4 b5 b6 b7 b8 b9 b10 b11 b12 b13 b14 RS.out (by simp)
      have HBF := Lib.hid (put15_below b0 b1 b2 b3 b4 b5 b6 b7 b8 b9 b10 b11 b12 b13 b14 HR.out.bl (show w.heap.size ≤ w.heap.size + 1 + 1 by omega))
      obtain ⟨wf, hwf⟩ : ∃ W, W = put15 wr (w.heap.size + 1 + 1) b0 b1 b2 b3 b4 b5 b6 b7 b8 b9 b10 b11 b12 b13 b14 := ⟨_, rfl⟩
      rw [← hwf] at BF HBF
      clear x0 z0 y0 x1 z1 y1 x2 z2 y2 x3 z3 y3 x4 z4 y4 x5 z5 y5 x6 z6 y6 x7 z7 y7 x8 z8 y8 x9 z9 y9 x10 z10 y10 x11 z11 y11 x12 z12 y12 x13 z13 y13 x14 z14 y14
      have y0 : wf.cell? ⟨w.heap.size + 1 + 1, 0, none⟩ = some (u64V b0) := BF.2.1 0 _ rfl
      have y1 : wf.cell? ⟨w.heap.size + 1 + 1, 1, none⟩ = some (u64V b1) := BF.2.1 1 _ rfl
      have y2 : wf.cell? ⟨w.heap.size + 1 + 1, 2, none⟩ = some (u64V b2) := BF.2.1 2 _ rfl
      have y3 : wf.cell? ⟨w.heap.size + 1 + 1, 3, none⟩ = some (u64V b3) := BF.2.1 3 _ rfl
      have y4 : wf.cell? ⟨w.heap.size + 1 + 1, 4, none⟩ = some (u64V b4) := BF.2.1 4 _ rfl
      have y5 : wf.cell? ⟨w.heap.size + 1 + 1, 5, none⟩ = some (u64V b5) := BF.2.1 5 _ rfl
      have y6 : wf.cell? ⟨w.heap.size + 1 + 1, 6, none⟩ = some (u64V b6) := BF.2.1 6 _ rfl
      have y7 : wf.cell? ⟨w.heap.size + 1 + 1, 7, none⟩ = some (u64V b7) := BF.2.1 7 _ rfl
      have y8 : wf.cell? ⟨w.heap.size + 1 + 1, 8, none⟩ = some (u64V b8) := BF.2.1 8 _ rfl
      have y9 : wf.cell? ⟨w.heap.size + 1 + 1, 9, none⟩ = some (u64V b9) := BF.2.1 9 _ rfl
      have y10 : wf.cell? ⟨w.heap.size + 1 + 1, 10, none⟩ = some (u64V b10) := BF.2.1 10 _ rfl
      have y11 : wf.cell? ⟨w.heap.size + 1 + 1, 11, none⟩ = some (u64V b11) := BF.2.1 11 _ rfl
      have y12 : wf.cell? ⟨w.heap.size + 1 + 1, 12, none⟩ = some (u64V b12) := BF.2.1 12 _ rfl
      have y13 : wf.cell? ⟨w.heap.size + 1 + 1, 13, none⟩ = some (u64V b13) := BF.2.1 13 _ rfl
      have y14 : wf.cell? ⟨w.heap.size + 1 + 1, 14, none⟩ = some (u64V b14) := BF.2.1 14 _ rfl
      have HBFX := Lib.hid BF
      clear BF
      rw [show (((((((((((((((wr.setCell ⟨w.heap.size + 1 + 1, 0, none⟩ (.int .u64 (b0 : Int))).setCell ⟨w.heap.size + 1 + 1, 1, none⟩ (.int .u64 (b1 : Int))).setCell ⟨w.heap.size + 1 + 1, 2, none⟩ (.int .u64 (b2 : Int))).setCell ⟨w.heap.size + 1 + 1, 3, none⟩ (.int .u64 (b3 : Int))).setCell ⟨w.heap.size + 1 + 1, 4, none⟩ (.int .u64 (b4 : Int))).setCell ⟨w.heap.size + 1 + 1, 5, none⟩ (.int .u64 (b5 : Int))).setCell ⟨w.heap.size + 1 + 1, 6, none⟩ (.int .u64 (b6 : Int))).setCell ⟨w.heap.size + 1 + 1, 7, none⟩ (.int .u64 (b7 : Int))).setCell ⟨w.heap.size + 1 + 1, 8, none⟩ (.int .u64 (b8 : Int))).setCell ⟨w.heap.size + 1 + 1, 9, none⟩ (.int .u64 (b9 : Int))).setCell ⟨w.heap.size + 1 + 1, 10, none⟩ (.int .u64 (b10 : Int))).setCell ⟨w.heap.size + 1 + 1, 11, none⟩ (.int .u64 (b11 : Int))).setCell ⟨w.heap.size + 1 + 1, 12, none⟩ (.int .u64 (b12 : Int))).setCell ⟨w.heap.size + 1 + 1, 13, none⟩ (.int .u64 (b13 : Int))).setCell ⟨w.heap.size + 1 + 1, 14, none⟩ (.int .u64 (b14 : Int))) = wf from hwf.symm]
      clear hwf
      refine bodyPost_ret (v := wV us) ?_ rfl ⟨us, rfl, HR.out.len, HR.out.wd, HD.out.trans HNN.out, HBF.out⟩
      rw [HUS.out]
      simp [results, Try.results45, go_sem, wV, *]
end Go.Proofs.Ytcncobhdfflelaa
