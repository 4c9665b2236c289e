/- The contract of the reference's Text. -/
import Derived.Test.YtjdjfjokniingaaVa
import Derived.Laws.BytesArg
namespace Go.Proofs.Ytjdjfjokniingaa
open Go.RowKit

theorem conv1 (V : Int) (W : World) (b : Nat) (h : W.cell? ⟨b, 0, none⟩ = some (.int .u8 V)) : Sem.run Try.prog (convert 150 9 (.slice (some ⟨b, 0, none⟩) 1 1)) W = .ok (.string (strOfNums [V])) W :=
  run_convert_bytes_arg W 150 5 Try.underlying150 Try.underlying5 b 0 1 1 [V] rfl (fun i hi => by
    have : i = 0 := by omega
    subst this
    exact h) 9 Try.underlying9
/-- a string that holds these bytes -/
def TextPost (l : List UInt8) (w : World) (e : Ending) (w' : World) : Prop := ∃ s : ByteArray, e = .returned (.string s) ∧ s.data.toList = l ∧ Below w.heap.size w w'
theorem digit_of {x : Int} {d : Nat} (h : x = 48 + (d : Int)) (_ : d < 10) : (strOfNums [x]).data.toList = [UInt8.ofNat (48 + d)] := by
  subst h
  rw [strOfNums_data]
  simp only [List.map_cons, List.map_nil, List.cons.injEq, and_true]
  congr 1
theorem digs_len : ∀ m : Nat, (Ml.digs m).length ≤ m / 10 + 1 := by
  intro m
  induction m using Nat.strongRecOn with
  | _ m ih =>
  by_cases h : m < 10
  · rw [Ml.digs_lt h]; simp
  · rw [Ml.digs_ge h, List.length_append, List.length_singleton]
    have := ih (m / 10) (by omega)
    omega
theorem cat_ok {s : ByteArray} {z : Int} {d : Nat} (hs : s.data.toList = Ml.txt z) (h1 : -9223372036854775808 ≤ z) (h2 : z ≤ 9223372036854775808) : ¬ 9223372036854775807 < s.size + (strOfNums [48 + (d : Int)]).size := by
  have e : s.size = (Ml.txt z).length := by rw [← hs, Array.length_toList]; rfl
  have h3 := digs_len z.natAbs
  rw [e, strOfNums_size]
  unfold Ml.txt
  split
  · simp; omega
  · simp; omega
theorem below_one (w : World) (o : Obj) : Below w.heap.size w (w.alloc o) := (Below.refl _ w).alloc (Nat.le_refl _) _
set_option linter.unusedSimpArgs false in
set_option linter.unusedVariables false in
set_option maxRecDepth 100000 in
set_option maxHeartbeats 3200000 in
theorem text_small_neg (m : Nat) (h0 : 0 < m) (h1 : m < 10) (w : World) : Calls Try.prog 108 #[.int .i64 (-(m : Int))] w (TextPost (Ml.txt (-(m : Int))) w) := by
  have t1 : decide (-(m : Int) < 0) = true := by simp; omega
  have t2 : decide ((-10 : Int) < -(m : Int)) = true := by simp; omega
  obtain ⟨z, hz⟩ : ∃ z : Int, z = -(m : Int) := ⟨_, rfl⟩
  have hv : wrap64 (48 - z) % 256 = 48 + (m : Int) := by rw [IntWalk.wrap64_in _ (by omega)]; omega
  have HV := Lib.hid hv
  rw [← hz] at t1 t2 ⊢
  have HZ := Lib.hid hz
  clear hz hv
  have hcv := conv1 (wrap64 (48 - z) % 256)
  go_enter Try.func108, Try.ntmps108
  go_wp2_with fail
  go_ret
  refine ⟨_, rfl, ?_, below_one _ _⟩
  rw [HZ.out, Ml.txt_neg h0, Ml.digs_lt h1, ByteArray.data_append, Array.toList_append, ← HZ.out, digit_of HV.out h1]
  rfl
set_option linter.unusedSimpArgs false in
set_option linter.unusedVariables false in
set_option maxRecDepth 100000 in
set_option maxHeartbeats 3200000 in
theorem text_small_nat (m : Nat) (h1 : m < 10) (w : World) : Calls Try.prog 108 #[.int .i64 (m : Int)] w (TextPost (Ml.txt (m : Int)) w) := by
  have t1 : decide ((m : Int) < 0) = false := by simp
  have t2 : decide ((m : Int) < 10) = true := by simp; omega
  have hv : wrap64 (48 + (m : Int)) % 256 = 48 + (m : Int) := by rw [IntWalk.wrap64_in _ (by omega)]; omega
  have HV := Lib.hid hv
  have H1 := Lib.hid h1
  clear hv h1
  have hcv := conv1 (wrap64 (48 + (m : Int)) % 256)
  go_enter Try.func108, Try.ntmps108
  go_wp2_with fail
  trace_state
  go_ret
  refine ⟨_, rfl, ?_, below_one _ _⟩
  rw [Ml.txt_nat, Ml.digs_lt H1.out, digit_of HV.out H1.out]
set_option linter.unusedSimpArgs false in
set_option linter.unusedVariables false in
set_option maxRecDepth 100000 in
set_option maxHeartbeats 3200000 in
theorem text_big_nat (m : Nat) (h0 : 10 ≤ m) (h1 : m ≤ 9223372036854775807) (ih : ∀ (W : World), Calls Try.prog 108 #[.int .i64 ((m / 10 : Nat) : Int)] W (TextPost (Ml.txt ((m / 10 : Nat) : Int)) W)) (w : World) : Calls Try.prog 108 #[.int .i64 (m : Int)] w (TextPost (Ml.txt (m : Int)) w) := by
  have t1 : decide ((m : Int) < 0) = false := by simp
  have t2 : decide ((m : Int) < 10) = false := by simp; omega
  have eq1 : IntKind.i64.wrap ((m : Int) / 10) = ((m / 10 : Nat) : Int) := by rw [IntWalk.i64_left, IntWalk.wrap64_in _ (by omega)]; omega
  have er1 : (m : Int).tmod 10 = ((m % 10 : Nat) : Int) := by rw [Int.tmod_eq_emod_of_nonneg (by omega)]; omega
  have ew1 : IntKind.u8.wrap (IntKind.i64.wrap (48 + ((m % 10 : Nat) : Int))) = 48 + ((m % 10 : Nat) : Int) := by rw [IntWalk.i64_left, IntWalk.wrap64_in _ (by omega)]; simp [IntKind.wrap, IntKind.bits, IntKind.signed]; omega
  obtain ⟨d, hd⟩ : ∃ d, d = m % 10 := ⟨_, rfl⟩
  obtain ⟨p, hp⟩ : ∃ p, p = m / 10 := ⟨_, rfl⟩
  rw [← hd] at er1 ew1
  rw [← hp] at eq1 ih
  have hd10 : d < 10 := by omega
  have hp9 : p ≤ 1000000000000000000 := by omega
  have HD := Lib.hid hd
  have HP := Lib.hid hp
  have IH := Lib.hid ih
  clear hd hp ih
  have hcv := conv1 (48 + (d : Int))
  go_enter Try.func108, Try.ntmps108
  go_wp2_with fail
  refine wp_region_held_drew (S := (fun _ => True)) (by kernel_rfl) ?_ (fun hHeld => ?_)
  · trivial
  refine wpAnyH_take (i := 0) (v := ?_) rfl (by kernel_rfl) (by kernel_rfl) (by kernel_rfl) (fun _ _ _ h => h) (Or.inl ⟨by rfl, ?_⟩) (by assumption) ?_
  rotate_left
  · intro w hSw; (try dsimp only at hSw); go_simp; (first | done | (with_reducible rfl))
  try simp only [Act.put, List.getElem_toArray, List.getElem_cons_succ, List.getElem_cons_zero, List.setIfInBounds_toArray, List.set_cons_zero, List.set_cons_succ]
  refine wpAnyH_take (i := 1) (v := ?_) rfl (by kernel_rfl) (by kernel_rfl) (by kernel_rfl) (fun _ _ _ h => h) (Or.inl ⟨by rfl, ?_⟩) (by assumption) ?_
  rotate_left
  · intro w hSw; (try dsimp only at hSw); go_simp; (first | done | (with_reducible rfl))
  try simp only [Act.put, List.getElem_toArray, List.getElem_cons_succ, List.getElem_cons_zero, List.setIfInBounds_toArray, List.set_cons_zero, List.set_cons_succ]
  refine wpAnyH_take (i := 3) (v := ?_) rfl (by kernel_rfl) (by kernel_rfl) (by kernel_rfl) (fun _ _ _ h => h) (Or.inl ⟨by rfl, ?_⟩) (by assumption) ?_
  rotate_left
  · intro w hSw; (try dsimp only at hSw); go_simp; (first | done | (with_reducible rfl))
  try simp only [Act.put, List.getElem_toArray, List.getElem_cons_succ, List.getElem_cons_zero, List.setIfInBounds_toArray, List.set_cons_zero, List.set_cons_succ]
  refine wpAnyH_take (i := 4) (v := ?_) rfl (by kernel_rfl) (by kernel_rfl) (by kernel_rfl) (fun _ _ _ h => h) (Or.inl ⟨by rfl, ?_⟩) (by assumption) ?_
  rotate_left
  · intro w hSw; (try dsimp only at hSw); go_simp; (first | done | (with_reducible rfl))
  try simp only [Act.put, List.getElem_toArray, List.getElem_cons_succ, List.getElem_cons_zero, List.setIfInBounds_toArray, List.set_cons_zero, List.set_cons_succ]
  refine wpAnyH_take (i := 5) (v := ?_) rfl (by kernel_rfl) (by kernel_rfl) (by kernel_rfl) (fun _ _ _ h => h) (Or.inl ⟨by rfl, ?_⟩) (by assumption) ?_
  rotate_left
  · intro w hSw; (try dsimp only at hSw); go_simp; (first | done | (with_reducible rfl))
  try simp only [Act.put, List.getElem_toArray, List.getElem_cons_succ, List.getElem_cons_zero, List.setIfInBounds_toArray, List.set_cons_zero, List.set_cons_succ]
  refine wpAnyH_take (i := 6) (v := ?_) rfl (by kernel_rfl) (by kernel_rfl) (by kernel_rfl) (fun _ _ _ h => h) (Or.inl ⟨by rfl, ?_⟩) (by assumption) ?_
  rotate_left
  · intro w hSw; (try dsimp only at hSw); go_simp; (first | done | (with_reducible rfl))
  try simp only [Act.put, List.getElem_toArray, List.getElem_cons_succ, List.getElem_cons_zero, List.setIfInBounds_toArray, List.set_cons_zero, List.set_cons_succ]
  refine wpAnyH_ready (rs := [2, 7]) (by kernel_rfl) (by simp) ?_
  refine AllReadyH.cons rfl (fun K hK => ?_) (AllReadyH.cons rfl (fun K hK => ?_) AllReadyH.nil)
  · go_simp
    refine (IH.out _).mono ?_
    rintro e v1 ⟨s1, rfl, hs1, hb1⟩
    have hcat := cat_ok (d := d) hs1 (by omega) (by omega)
    refine hK.out _ _ ?_ (fun hHeld => ?_)
    · trivial
    clear hK K
    try simp only [Act.put, List.getElem_toArray, List.getElem_cons_succ, List.getElem_cons_zero, List.setIfInBounds_toArray, List.set_cons_zero, List.set_cons_succ]
    have hz1 := hb1.size
    refine wpAnyH_ready (rs := [7]) (by kernel_rfl) (by simp) ?_
    refine AllReadyH.cons rfl (fun K hK => ?_) AllReadyH.nil
    go_simp
    refine hK.out _ _ ?_ (fun hHeld => ?_)
    · trivial
    clear hK K
    try simp only [Act.put, List.getElem_toArray, List.getElem_cons_succ, List.getElem_cons_zero, List.setIfInBounds_toArray, List.set_cons_zero, List.set_cons_succ]
    refine wpAnyH_ready (rs := [8]) (by kernel_rfl) (by simp) ?_
    refine AllReadyH.cons rfl (fun K hK => ?_) AllReadyH.nil
    go_simp
    refine hK.out _ _ ?_ (fun hHeld => ?_)
    · trivial
    clear hK K
    try simp only [Act.put, List.getElem_toArray, List.getElem_cons_succ, List.getElem_cons_zero, List.setIfInBounds_toArray, List.set_cons_zero, List.set_cons_succ]
    refine wpAnyH_take (i := 9) (v := ?_) rfl (by kernel_rfl) (by kernel_rfl) (by kernel_rfl) (fun _ _ _ h => h) (Or.inl ⟨by rfl, ?_⟩) (by assumption) ?_
    rotate_left
    · intro w hSw; (try dsimp only at hSw); go_simp; (first | done | (with_reducible rfl))
    try simp only [Act.put, List.getElem_toArray, List.getElem_cons_succ, List.getElem_cons_zero, List.setIfInBounds_toArray, List.set_cons_zero, List.set_cons_succ]
    refine wpAnyH_take (i := 10) (v := ?_) rfl (by kernel_rfl) (by kernel_rfl) (by kernel_rfl) (fun _ _ _ h => h) (Or.inl ⟨by rfl, ?_⟩) (by assumption) ?_
    rotate_left
    · intro w hSw; (try dsimp only at hSw); go_simp; (first | done | (with_reducible rfl))
    try simp only [Act.put, List.getElem_toArray, List.getElem_cons_succ, List.getElem_cons_zero, List.setIfInBounds_toArray, List.set_cons_zero, List.set_cons_succ]
    refine wpAnyH_done (by kernel_rfl) ?_ _
    go_wp2_with fail
    go_ret
    refine ⟨_, rfl, ?_, (Below.call (w := w) (Below.refl _ _).drew hb1).alloc (by simp at hz1; omega) _⟩
    rw [ByteArray.data_append, Array.toList_append, hs1, digit_of rfl hd10, HP.out, HD.out, Ml.txt_nat, Ml.txt_nat, Ml.digs_ge (m := m) (by omega)]
  · go_simp
    refine hK.out _ _ ?_ (fun hHeld => ?_)
    · trivial
    clear hK K
    try simp only [Act.put, List.getElem_toArray, List.getElem_cons_succ, List.getElem_cons_zero, List.setIfInBounds_toArray, List.set_cons_zero, List.set_cons_succ]
    refine wpAnyH_ready (rs := [2, 8]) (by kernel_rfl) (by simp) ?_
    refine AllReadyH.cons rfl (fun K hK => ?_) (AllReadyH.cons rfl (fun K hK => ?_) AllReadyH.nil)
    · go_simp
      refine (IH.out _).mono ?_
      rintro e v1 ⟨s1, rfl, hs1, hb1⟩
      have hcat := cat_ok (d := d) hs1 (by omega) (by omega)
      refine hK.out _ _ ?_ (fun hHeld => ?_)
      · trivial
      clear hK K
      try simp only [Act.put, List.getElem_toArray, List.getElem_cons_succ, List.getElem_cons_zero, List.setIfInBounds_toArray, List.set_cons_zero, List.set_cons_succ]
      have hz1 := hb1.size
      have k0 : v1.cell? ⟨w.heap.size, 0, none⟩ = some (.int .u8 (48 + (d : Int))) := (hb1.cell (p := ⟨w.heap.size, 0, none⟩) (by simp)).trans (by simp [go_sem, *])
      refine wpAnyH_ready (rs := [8]) (by kernel_rfl) (by simp) ?_
      refine AllReadyH.cons rfl (fun K hK => ?_) AllReadyH.nil
      go_simp
      refine hK.out _ _ ?_ (fun hHeld => ?_)
      · trivial
      clear hK K
      try simp only [Act.put, List.getElem_toArray, List.getElem_cons_succ, List.getElem_cons_zero, List.setIfInBounds_toArray, List.set_cons_zero, List.set_cons_succ]
      refine wpAnyH_take (i := 9) (v := ?_) rfl (by kernel_rfl) (by kernel_rfl) (by kernel_rfl) (fun _ _ _ h => h) (Or.inl ⟨by rfl, ?_⟩) (by assumption) ?_
      rotate_left
      · intro w hSw; (try dsimp only at hSw); go_simp; (first | done | (with_reducible rfl))
      try simp only [Act.put, List.getElem_toArray, List.getElem_cons_succ, List.getElem_cons_zero, List.setIfInBounds_toArray, List.set_cons_zero, List.set_cons_succ]
      refine wpAnyH_take (i := 10) (v := ?_) rfl (by kernel_rfl) (by kernel_rfl) (by kernel_rfl) (fun _ _ _ h => h) (Or.inl ⟨by rfl, ?_⟩) (by assumption) ?_
      rotate_left
      · intro w hSw; (try dsimp only at hSw); go_simp; (first | done | (with_reducible rfl))
      try simp only [Act.put, List.getElem_toArray, List.getElem_cons_succ, List.getElem_cons_zero, List.setIfInBounds_toArray, List.set_cons_zero, List.set_cons_succ]
      refine wpAnyH_done (by kernel_rfl) ?_ _
      go_wp2_with fail
      go_ret
      refine ⟨_, rfl, ?_, Below.call (w := w) (((Below.refl _ _).drew).alloc (Nat.le_refl _) _) hb1⟩
      rw [ByteArray.data_append, Array.toList_append, hs1, digit_of rfl hd10, HP.out, HD.out, Ml.txt_nat, Ml.txt_nat, Ml.digs_ge (m := m) (by omega)]
    · go_simp
      refine hK.out _ _ ?_ (fun hHeld => ?_)
      · trivial
      clear hK K
      try simp only [Act.put, List.getElem_toArray, List.getElem_cons_succ, List.getElem_cons_zero, List.setIfInBounds_toArray, List.set_cons_zero, List.set_cons_succ]
      refine wpAnyH_ready (rs := [2]) (by kernel_rfl) (by simp) ?_
      refine AllReadyH.cons rfl (fun K hK => ?_) AllReadyH.nil
      go_simp
      refine (IH.out _).mono ?_
      rintro e v1 ⟨s1, rfl, hs1, hb1⟩
      have hcat := cat_ok (d := d) hs1 (by omega) (by omega)
      refine hK.out _ _ ?_ (fun hHeld => ?_)
      · trivial
      clear hK K
      try simp only [Act.put, List.getElem_toArray, List.getElem_cons_succ, List.getElem_cons_zero, List.setIfInBounds_toArray, List.set_cons_zero, List.set_cons_succ]
      have hz1 := hb1.size
      refine wpAnyH_take (i := 9) (v := ?_) rfl (by kernel_rfl) (by kernel_rfl) (by kernel_rfl) (fun _ _ _ h => h) (Or.inl ⟨by rfl, ?_⟩) (by assumption) ?_
      rotate_left
      · intro w hSw; (try dsimp only at hSw); go_simp; (first | done | (with_reducible rfl))
      try simp only [Act.put, List.getElem_toArray, List.getElem_cons_succ, List.getElem_cons_zero, List.setIfInBounds_toArray, List.set_cons_zero, List.set_cons_succ]
      refine wpAnyH_take (i := 10) (v := ?_) rfl (by kernel_rfl) (by kernel_rfl) (by kernel_rfl) (fun _ _ _ h => h) (Or.inl ⟨by rfl, ?_⟩) (by assumption) ?_
      rotate_left
      · intro w hSw; (try dsimp only at hSw); go_simp; (first | done | (with_reducible rfl))
      try simp only [Act.put, List.getElem_toArray, List.getElem_cons_succ, List.getElem_cons_zero, List.setIfInBounds_toArray, List.set_cons_zero, List.set_cons_succ]
      refine wpAnyH_done (by kernel_rfl) ?_ _
      go_wp2_with fail
      go_ret
      refine ⟨_, rfl, ?_, Below.call (w := w) (((Below.refl _ _).drew).alloc (Nat.le_refl _) _) hb1⟩
      rw [ByteArray.data_append, Array.toList_append, hs1, digit_of rfl hd10, HP.out, HD.out, Ml.txt_nat, Ml.txt_nat, Ml.digs_ge (m := m) (by omega)]
set_option linter.unusedSimpArgs false in
set_option linter.unusedVariables false in
set_option maxRecDepth 100000 in
set_option maxHeartbeats 3200000 in
theorem text_big_neg (m : Nat) (h0 : 10 ≤ m) (h1 : m ≤ 9223372036854775808) (ih : ∀ (W : World), Calls Try.prog 108 #[.int .i64 (-((m / 10 : Nat) : Int))] W (TextPost (Ml.txt (-((m / 10 : Nat) : Int))) W)) (w : World) : Calls Try.prog 108 #[.int .i64 (-(m : Int))] w (TextPost (Ml.txt (-(m : Int))) w) := by
  obtain ⟨d, hd⟩ : ∃ d, d = m % 10 := ⟨_, rfl⟩
  obtain ⟨p, hp⟩ : ∃ p, p = m / 10 := ⟨_, rfl⟩
  obtain ⟨z, hz⟩ : ∃ z : Int, z = -(m : Int) := ⟨_, rfl⟩
  obtain ⟨zp, hzp⟩ : ∃ z : Int, z = -(p : Int) := ⟨_, rfl⟩
  obtain ⟨zd, hzd⟩ : ∃ z : Int, z = -(d : Int) := ⟨_, rfl⟩
  have hq : (m : Int).tdiv 10 = (p : Int) := by rw [Int.tdiv_eq_ediv_of_nonneg (by omega)]; omega
  have hr : (m : Int).tmod 10 = (d : Int) := by rw [Int.tmod_eq_emod_of_nonneg (by omega)]; omega
  have t1 : decide (z < 0) = true := by simp; omega
  have t2 : decide ((-10 : Int) < z) = false := by simp; omega
  have eq1 : IntKind.i64.wrap (z.tdiv 10) = zp := by rw [hz, Int.neg_tdiv, hq, IntWalk.i64_left, IntWalk.wrap64_in _ (by omega), hzp]
  have er1 : z.tmod 10 = zd := by rw [hz, Int.neg_tmod, hr, hzd]
  have ew0 : IntKind.i64.wrap (48 - zd) = 48 + (d : Int) := by rw [IntWalk.i64_left, IntWalk.wrap64_in _ (by omega)]; omega
  have ew1 : IntKind.u8.wrap (48 + (d : Int)) = 48 + (d : Int) := by simp [IntKind.wrap, IntKind.bits, IntKind.signed]; omega
  rw [← hp, ← hzp] at ih
  rw [← hz]
  have hzp9 : -1000000000000000000 ≤ zp ∧ zp ≤ 0 := by omega
  have HZ := Lib.hid hz
  have HZP := Lib.hid hzp
  have HZD := Lib.hid hzd
  clear hq hr hz hzp hzd
  have hd10 : d < 10 := by omega
  have hp9 : p ≤ 1000000000000000000 := by omega
  have HD := Lib.hid hd
  have HP := Lib.hid hp
  have IH := Lib.hid ih
  clear hd hp ih
  have hcv := conv1 (48 + (d : Int))
  go_enter Try.func108, Try.ntmps108
  go_wp2_with fail
  refine wp_region_held_drew (S := (fun _ => True)) (by kernel_rfl) ?_ (fun hHeld => ?_)
  · trivial
  refine wpAnyH_take (i := 0) (v := ?_) rfl (by kernel_rfl) (by kernel_rfl) (by kernel_rfl) (fun _ _ _ h => h) (Or.inl ⟨by rfl, ?_⟩) (by assumption) ?_
  rotate_left
  · intro w hSw; (try dsimp only at hSw); go_simp; (first | done | (with_reducible rfl))
  try simp only [Act.put, List.getElem_toArray, List.getElem_cons_succ, List.getElem_cons_zero, List.setIfInBounds_toArray, List.set_cons_zero, List.set_cons_succ]
  refine wpAnyH_take (i := 1) (v := ?_) rfl (by kernel_rfl) (by kernel_rfl) (by kernel_rfl) (fun _ _ _ h => h) (Or.inl ⟨by rfl, ?_⟩) (by assumption) ?_
  rotate_left
  · intro w hSw; (try dsimp only at hSw); go_simp; (first | done | (with_reducible rfl))
  try simp only [Act.put, List.getElem_toArray, List.getElem_cons_succ, List.getElem_cons_zero, List.setIfInBounds_toArray, List.set_cons_zero, List.set_cons_succ]
  refine wpAnyH_take (i := 3) (v := ?_) rfl (by kernel_rfl) (by kernel_rfl) (by kernel_rfl) (fun _ _ _ h => h) (Or.inl ⟨by rfl, ?_⟩) (by assumption) ?_
  rotate_left
  · intro w hSw; (try dsimp only at hSw); go_simp; (first | done | (with_reducible rfl))
  try simp only [Act.put, List.getElem_toArray, List.getElem_cons_succ, List.getElem_cons_zero, List.setIfInBounds_toArray, List.set_cons_zero, List.set_cons_succ]
  refine wpAnyH_take (i := 4) (v := ?_) rfl (by kernel_rfl) (by kernel_rfl) (by kernel_rfl) (fun _ _ _ h => h) (Or.inl ⟨by rfl, ?_⟩) (by assumption) ?_
  rotate_left
  · intro w hSw; (try dsimp only at hSw); go_simp; (first | done | (with_reducible rfl))
  try simp only [Act.put, List.getElem_toArray, List.getElem_cons_succ, List.getElem_cons_zero, List.setIfInBounds_toArray, List.set_cons_zero, List.set_cons_succ]
  refine wpAnyH_take (i := 5) (v := ?_) rfl (by kernel_rfl) (by kernel_rfl) (by kernel_rfl) (fun _ _ _ h => h) (Or.inl ⟨by rfl, ?_⟩) (by assumption) ?_
  rotate_left
  · intro w hSw; (try dsimp only at hSw); go_simp; (first | done | (with_reducible rfl))
  try simp only [Act.put, List.getElem_toArray, List.getElem_cons_succ, List.getElem_cons_zero, List.setIfInBounds_toArray, List.set_cons_zero, List.set_cons_succ]
  refine wpAnyH_take (i := 6) (v := ?_) rfl (by kernel_rfl) (by kernel_rfl) (by kernel_rfl) (fun _ _ _ h => h) (Or.inl ⟨by rfl, ?_⟩) (by assumption) ?_
  rotate_left
  · intro w hSw; (try dsimp only at hSw); go_simp; (first | done | (with_reducible rfl))
  try simp only [Act.put, List.getElem_toArray, List.getElem_cons_succ, List.getElem_cons_zero, List.setIfInBounds_toArray, List.set_cons_zero, List.set_cons_succ]
  refine wpAnyH_ready (rs := [2, 7]) (by kernel_rfl) (by simp) ?_
  refine AllReadyH.cons rfl (fun K hK => ?_) (AllReadyH.cons rfl (fun K hK => ?_) AllReadyH.nil)
  · go_simp
    refine (IH.out _).mono ?_
    rintro e v1 ⟨s1, rfl, hs1, hb1⟩
    have hcat := cat_ok (d := d) hs1 (by omega) (by omega)
    refine hK.out _ _ ?_ (fun hHeld => ?_)
    · trivial
    clear hK K
    try simp only [Act.put, List.getElem_toArray, List.getElem_cons_succ, List.getElem_cons_zero, List.setIfInBounds_toArray, List.set_cons_zero, List.set_cons_succ]
    have hz1 := hb1.size
    refine wpAnyH_ready (rs := [7]) (by kernel_rfl) (by simp) ?_
    refine AllReadyH.cons rfl (fun K hK => ?_) AllReadyH.nil
    go_simp
    refine hK.out _ _ ?_ (fun hHeld => ?_)
    · trivial
    clear hK K
    try simp only [Act.put, List.getElem_toArray, List.getElem_cons_succ, List.getElem_cons_zero, List.setIfInBounds_toArray, List.set_cons_zero, List.set_cons_succ]
    refine wpAnyH_ready (rs := [8]) (by kernel_rfl) (by simp) ?_
    refine AllReadyH.cons rfl (fun K hK => ?_) AllReadyH.nil
    go_simp
    refine hK.out _ _ ?_ (fun hHeld => ?_)
    · trivial
    clear hK K
    try simp only [Act.put, List.getElem_toArray, List.getElem_cons_succ, List.getElem_cons_zero, List.setIfInBounds_toArray, List.set_cons_zero, List.set_cons_succ]
    refine wpAnyH_take (i := 9) (v := ?_) rfl (by kernel_rfl) (by kernel_rfl) (by kernel_rfl) (fun _ _ _ h => h) (Or.inl ⟨by rfl, ?_⟩) (by assumption) ?_
    rotate_left
    · intro w hSw; (try dsimp only at hSw); go_simp; (first | done | (with_reducible rfl))
    try simp only [Act.put, List.getElem_toArray, List.getElem_cons_succ, List.getElem_cons_zero, List.setIfInBounds_toArray, List.set_cons_zero, List.set_cons_succ]
    refine wpAnyH_take (i := 10) (v := ?_) rfl (by kernel_rfl) (by kernel_rfl) (by kernel_rfl) (fun _ _ _ h => h) (Or.inl ⟨by rfl, ?_⟩) (by assumption) ?_
    rotate_left
    · intro w hSw; (try dsimp only at hSw); go_simp; (first | done | (with_reducible rfl))
    try simp only [Act.put, List.getElem_toArray, List.getElem_cons_succ, List.getElem_cons_zero, List.setIfInBounds_toArray, List.set_cons_zero, List.set_cons_succ]
    refine wpAnyH_done (by kernel_rfl) ?_ _
    go_wp2_with fail
    go_ret
    refine ⟨_, rfl, ?_, (Below.call (w := w) (Below.refl _ _).drew hb1).alloc (by simp at hz1; omega) _⟩
    rw [ByteArray.data_append, Array.toList_append, hs1, digit_of rfl hd10, HZ.out, HZP.out, HP.out, HD.out, Ml.txt_neg (by omega), Ml.txt_neg (by omega), Ml.digs_ge (m := m) (by omega)]; rfl
  · go_simp
    refine hK.out _ _ ?_ (fun hHeld => ?_)
    · trivial
    clear hK K
    try simp only [Act.put, List.getElem_toArray, List.getElem_cons_succ, List.getElem_cons_zero, List.setIfInBounds_toArray, List.set_cons_zero, List.set_cons_succ]
    refine wpAnyH_ready (rs := [2, 8]) (by kernel_rfl) (by simp) ?_
    refine AllReadyH.cons rfl (fun K hK => ?_) (AllReadyH.cons rfl (fun K hK => ?_) AllReadyH.nil)
    · go_simp
      refine (IH.out _).mono ?_
      rintro e v1 ⟨s1, rfl, hs1, hb1⟩
      have hcat := cat_ok (d := d) hs1 (by omega) (by omega)
      refine hK.out _ _ ?_ (fun hHeld => ?_)
      · trivial
      clear hK K
      try simp only [Act.put, List.getElem_toArray, List.getElem_cons_succ, List.getElem_cons_zero, List.setIfInBounds_toArray, List.set_cons_zero, List.set_cons_succ]
      have hz1 := hb1.size
      have k0 : v1.cell? ⟨w.heap.size, 0, none⟩ = some (.int .u8 (48 + (d : Int))) := (hb1.cell (p := ⟨w.heap.size, 0, none⟩) (by simp)).trans (by simp [go_sem, *])
      refine wpAnyH_ready (rs := [8]) (by kernel_rfl) (by simp) ?_
      refine AllReadyH.cons rfl (fun K hK => ?_) AllReadyH.nil
      go_simp
      refine hK.out _ _ ?_ (fun hHeld => ?_)
      · trivial
      clear hK K
      try simp only [Act.put, List.getElem_toArray, List.getElem_cons_succ, List.getElem_cons_zero, List.setIfInBounds_toArray, List.set_cons_zero, List.set_cons_succ]
      refine wpAnyH_take (i := 9) (v := ?_) rfl (by kernel_rfl) (by kernel_rfl) (by kernel_rfl) (fun _ _ _ h => h) (Or.inl ⟨by rfl, ?_⟩) (by assumption) ?_
      rotate_left
      · intro w hSw; (try dsimp only at hSw); go_simp; (first | done | (with_reducible rfl))
      try simp only [Act.put, List.getElem_toArray, List.getElem_cons_succ, List.getElem_cons_zero, List.setIfInBounds_toArray, List.set_cons_zero, List.set_cons_succ]
      refine wpAnyH_take (i := 10) (v := ?_) rfl (by kernel_rfl) (by kernel_rfl) (by kernel_rfl) (fun _ _ _ h => h) (Or.inl ⟨by rfl, ?_⟩) (by assumption) ?_
      rotate_left
      · intro w hSw; (try dsimp only at hSw); go_simp; (first | done | (with_reducible rfl))
      try simp only [Act.put, List.getElem_toArray, List.getElem_cons_succ, List.getElem_cons_zero, List.setIfInBounds_toArray, List.set_cons_zero, List.set_cons_succ]
      refine wpAnyH_done (by kernel_rfl) ?_ _
      go_wp2_with fail
      go_ret
      refine ⟨_, rfl, ?_, Below.call (w := w) (((Below.refl _ _).drew).alloc (Nat.le_refl _) _) hb1⟩
      rw [ByteArray.data_append, Array.toList_append, hs1, digit_of rfl hd10, HZ.out, HZP.out, HP.out, HD.out, Ml.txt_neg (by omega), Ml.txt_neg (by omega), Ml.digs_ge (m := m) (by omega)]; rfl
    · go_simp
      refine hK.out _ _ ?_ (fun hHeld => ?_)
      · trivial
      clear hK K
      try simp only [Act.put, List.getElem_toArray, List.getElem_cons_succ, List.getElem_cons_zero, List.setIfInBounds_toArray, List.set_cons_zero, List.set_cons_succ]
      refine wpAnyH_ready (rs := [2]) (by kernel_rfl) (by simp) ?_
      refine AllReadyH.cons rfl (fun K hK => ?_) AllReadyH.nil
      go_simp
      refine (IH.out _).mono ?_
      rintro e v1 ⟨s1, rfl, hs1, hb1⟩
      have hcat := cat_ok (d := d) hs1 (by omega) (by omega)
      refine hK.out _ _ ?_ (fun hHeld => ?_)
      · trivial
      clear hK K
      try simp only [Act.put, List.getElem_toArray, List.getElem_cons_succ, List.getElem_cons_zero, List.setIfInBounds_toArray, List.set_cons_zero, List.set_cons_succ]
      have hz1 := hb1.size
      refine wpAnyH_take (i := 9) (v := ?_) rfl (by kernel_rfl) (by kernel_rfl) (by kernel_rfl) (fun _ _ _ h => h) (Or.inl ⟨by rfl, ?_⟩) (by assumption) ?_
      rotate_left
      · intro w hSw; (try dsimp only at hSw); go_simp; (first | done | (with_reducible rfl))
      try simp only [Act.put, List.getElem_toArray, List.getElem_cons_succ, List.getElem_cons_zero, List.setIfInBounds_toArray, List.set_cons_zero, List.set_cons_succ]
      refine wpAnyH_take (i := 10) (v := ?_) rfl (by kernel_rfl) (by kernel_rfl) (by kernel_rfl) (fun _ _ _ h => h) (Or.inl ⟨by rfl, ?_⟩) (by assumption) ?_
      rotate_left
      · intro w hSw; (try dsimp only at hSw); go_simp; (first | done | (with_reducible rfl))
      try simp only [Act.put, List.getElem_toArray, List.getElem_cons_succ, List.getElem_cons_zero, List.setIfInBounds_toArray, List.set_cons_zero, List.set_cons_succ]
      refine wpAnyH_done (by kernel_rfl) ?_ _
      go_wp2_with fail
      go_ret
      refine ⟨_, rfl, ?_, Below.call (w := w) (((Below.refl _ _).drew).alloc (Nat.le_refl _) _) hb1⟩
      rw [ByteArray.data_append, Array.toList_append, hs1, digit_of rfl hd10, HZ.out, HZP.out, HP.out, HD.out, Ml.txt_neg (by omega), Ml.txt_neg (by omega), Ml.digs_ge (m := m) (by omega)]; rfl
theorem text108 : ∀ (N : Nat) (m : Nat), m < N → (m ≤ 9223372036854775807 → ∀ w : World, Calls Try.prog 108 #[.int .i64 (m : Int)] w (TextPost (Ml.txt (m : Int)) w)) ∧ (0 < m → m ≤ 9223372036854775808 → ∀ w : World, Calls Try.prog 108 #[.int .i64 (-(m : Int))] w (TextPost (Ml.txt (-(m : Int))) w)) := by
  intro N
  induction N with
  | zero => intro m h; omega
  | succ N ih =>
    intro m hm
    refine ⟨fun hb w => ?_, fun h0 hb w => ?_⟩
    · by_cases h : m < 10
      · exact text_small_nat m h w
      · exact text_big_nat m (by omega) hb (fun W => (ih (m / 10) (by omega)).1 (by omega) W) w
    · by_cases h : m < 10
      · exact text_small_neg m h0 h w
      · exact text_big_neg m (by omega) hb (fun W => (ih (m / 10) (by omega)).2 (by omega) (by omega) W) w
theorem text_any (n : Int) (h1 : -9223372036854775808 ≤ n) (h2 : n ≤ 9223372036854775807) (w : World) : Calls Try.prog 108 #[.int .i64 n] w (TextPost (Ml.txt n) w) := by
  rcases Int.lt_or_le n 0 with h | h
  · have := (text108 (n.natAbs + 1) n.natAbs (by omega)).2 (by omega) (by omega) w
    rwa [show -((n.natAbs : Nat) : Int) = n by omega] at this
  · have := (text108 (n.natAbs + 1) n.natAbs (by omega)).1 (by omega) w
    rwa [show ((n.natAbs : Nat) : Int) = n by omega] at this
end Go.Proofs.Ytjdjfjokniingaa
