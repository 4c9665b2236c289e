/- The contract of the reference's Send. -/
import Derived.Test.YtjdjfjokniingaaXd
namespace Go.Proofs.Ytjdjfjokniingaa
open Go.RowKit

set_option linter.unusedSimpArgs false in
set_option linter.unusedVariables false in
set_option maxRecDepth 100000 in
set_option maxHeartbeats 6400000 in
theorem send36_none {P : Nat → Prop} (s : SysC) (σ : PS) (x : Int) (p : ByteArray) (l : LetC) (w : World) (h : SysR P w s σ) (hna : s.actors.n ≤ 1000000) (hnu : s.up.n ≤ 9223372036854775807) (hr : Ml.reachP σ p = none) :
    Calls Try.prog 36 #[sysV s, .int .i64 x, .string p, letV l] w (SysPost P (Ml.send σ x p l) w) := by
  have HP : Hid (Ml.send σ x p l = (Ml.lost σ, false)) := Lib.hid (by unfold Ml.send; rw [hr])
  obtain ⟨qs, hq1, hq2, hq3⟩ := h.ac
  have C := Lib.hid (fun (W : World) (hW : Below w.heap.size w W) => reach77 s (qs.map (·.1)) σ.ups p W (h.up.up hW) (hq1.up hW) (by omega) hnu)
  rw [Ml.reach_eq σ.ups qs σ hq3 rfl p, hr] at C
  have H := Lib.hid h
  clear h hr hq1 hq2 hq3
  have BS0 : Hid (BoxAt (((w.alloc (.cells (sysL s).toArray 28)).alloc (.cells (letL l).toArray 34)).alloc (.cells (sysL sysZ).toArray 28)) w.heap.size (sysL s)) := Lib.hid (((BoxAt.new w 28 (sysL s) _ rfl).alloc _).alloc _)
  have BL0 : Hid (BoxAt (((w.alloc (.cells (sysL s).toArray 28)).alloc (.cells (letL l).toArray 34)).alloc (.cells (sysL sysZ).toArray 28)) (w.heap.size + 1) (letL l)) := Lib.hid ((BoxAt.new _ 34 (letL l) _ (by simp)).alloc _)
  have BZ0 : Hid (BoxAt (((w.alloc (.cells (sysL s).toArray 28)).alloc (.cells (letL l).toArray 34)).alloc (.cells (sysL sysZ).toArray 28)) (w.heap.size + 1 + 1) (sysL sysZ)) := Lib.hid (BoxAt.new _ 28 (sysL sysZ) _ (by simp))
  have B0 : Hid (Below w.heap.size w (((w.alloc (.cells (sysL s).toArray 28)).alloc (.cells (letL l).toArray 34)).alloc (.cells (sysL sysZ).toArray 28))) := Lib.hid (by repeat (first | (with_reducible exact Below.refl _ _) | (with_reducible assumption) | ((with_reducible refine Below.setCell ?_ ?_ _); rotate_left; (focus (first | omega | (simp; omega) | (simp; done)))) | ((with_reducible refine Below.alloc ?_ ?_ _); rotate_left; (focus (first | omega | (simp; omega) | (simp; done)))) | (with_reducible refine Below.drew ?_)))
  obtain ⟨v0, hv0⟩ : ∃ W, W = (((w.alloc (.cells (sysL s).toArray 28)).alloc (.cells (letL l).toArray 34)).alloc (.cells (sysL sysZ).toArray 28)) := ⟨_, rfl⟩
  have hz0 : v0.heap.size = w.heap.size + 1 + 1 + 1 := by rw [hv0]; simp
  rw [← hv0] at BS0 BL0 BZ0 B0
  go_enter Try.func36, Try.ntmps36
  go_wp2_with fail
  refine (C.out _ (by have h := B0.out; rw [hv0] at h; exact h)).mono ?_
  rintro e v1 ⟨i, rfl, _, h1⟩
  have H1 : Hid (Below v0.heap.size v0 v1) := Lib.hid (by rw [hv0]; exact h1)
  clear h1 hv0
  have hz1 := H1.out.size
  have B1 := Lib.hid (Below.call B0.out H1.out)
  have BS1 := Lib.hid (BS0.out.call H1.out)
  have BL1 := Lib.hid (BL0.out.call H1.out)
  have BZ1 := Lib.hid (BZ0.out.call H1.out)
  clear BS0 BL0 BZ0
  obtain ⟨c0, c1, c2, c3, c4, c5, c6, c7, c8⟩ := sbox_cells BS1.out
  obtain ⟨f0, f1, f2, f3, f4, f5, f6, f7, f8⟩ := sbox_free BS1.out
  obtain ⟨z0, z1, z2, z3, z4, z5, z6, z7, z8⟩ := sbox_cells BZ1.out
  obtain ⟨y0, y1, y2, y3, y4, y5, y6, y7, y8⟩ := sbox_free BZ1.out
  go_wp2_with fail
  obtain ⟨Wf, hWf⟩ : ∃ W, W = putSys (v1.setCell ⟨w.heap.size, 8, none⟩ (.int .i64 (wrap64 (s.dead + 1)))) (w.heap.size + 1 + 1) { s with dead := wrap64 (s.dead + 1) } := ⟨_, rfl⟩
  have hBf : Below w.heap.size w Wf := by rw [hWf]; exact putSys_below (B1.out.setCell (Nat.le_refl _) _) (by omega)
  refine bodyPost_ret (v := .tuple #[sysV { s with dead := wrap64 (s.dead + 1) }, .bool false]) ?_ rfl ?_
  · simp [results, Try.results36, go_sem, *]
  · rw [hWf] at hBf; exact sysPost HP.out ((H.out.below hBf).mono (fun b hb => .inl hb)).lost hBf

set_option linter.unusedSimpArgs false in
set_option linter.unusedVariables false in
set_option maxRecDepth 100000 in
set_option maxHeartbeats 6400000 in
theorem send36_some {P : Nat → Prop} (s : SysC) (σ : PS) (x : Int) (p : ByteArray) (l : LetC) (w : World) (h : SysR P w s σ) (hna : s.actors.n ≤ 1000000) (hnu : s.up.n ≤ 9223372036854775807) (hnf : s.flights.n ≤ 1000000) (i : Nat) (hr : Ml.reachP σ p = some i) (a : LiveC) (ms : List LetC) (qs : List (LiveC × List LetC)) (hq1 : Rd w w.heap.size 9 s.actors.a s.actors.n ((qs.map (·.1)).flatMap liveL)) (hq3 : qs.map plOf = σ.acts) (hqi : qs[i]? = some (a, ms)) :
    Calls Try.prog 36 #[sysV s, .int .i64 x, .string p, letV l] w (SysPost P (Ml.send σ x p l) w) := by
  have hai : σ.acts[i]? = some (plOf (a, ms)) := by rw [← hq3, List.getElem?_map, hqi]; rfl
  have hnd : Ml.nodeOf σ i = a.node := by unfold Ml.nodeOf; rw [hai]; rfl
  have HP : Hid (Ml.send σ x p l = if a.node = x then Ml.post σ p l else if Ml.chan σ.fls x a.node < 1024 then ({ σ with fls := σ.fls ++ [⟨x, a.node, p, l⟩] }, true) else (Ml.lost σ, false)) := Lib.hid (by unfold Ml.send; rw [hr]; simp only [hnd])
  have C := Lib.hid (fun (W : World) (hW : Below w.heap.size w W) => reach77 s (qs.map (·.1)) σ.ups p W (h.up.up hW) (hq1.up hW) (by omega) hnu)
  rw [Ml.reach_eq σ.ups qs σ hq3 rfl p, hr] at C
  have hil : i < s.actors.n := by
    have h1 := hq1.len (fun _ => rfl) (by omega)
    have h2 := (List.getElem?_eq_some_iff.1 hqi).1
    simp at h1; omega
  obtain ⟨b, off, a', hA, hb, hak, hc⟩ := hq1.at_ (fun _ => rfl) (by omega) hil
  have ea : a' = a := by rw [List.getElem?_map, hqi] at hak; simpa using hak.symm
  subst ea
  have hix : ∀ W : World, Sem.run Try.prog (Instr.indexAt 23 (.slice s.actors.a s.actors.n s.actors.c) (.int .i64 (i : Int))) W = .ok (.pointer (some ⟨b, off + i * 9, none⟩)) W := by intro W; rw [hA]; go_simp
  have HC := Lib.hid hc
  have CP := Lib.hid (fun (W : World) (hW : Below w.heap.size w W) => post34 s σ p l W (h.low.below hW) hna hnu)
  have HF := Lib.hid h.fl
  have HL := Lib.hid (h.fl.len (fun _ => rfl) (by omega))
  have H := Lib.hid h
  obtain ⟨i6, hi6, hz60, hz61, hz62⟩ := info_parts info66
  clear h hr hq1 hq3 hqi hA hak hc hai hnd
  have BS0 : Hid (BoxAt (((w.alloc (.cells (sysL s).toArray 28)).alloc (.cells (letL l).toArray 34)).alloc (.cells (sysL sysZ).toArray 28)) w.heap.size (sysL s)) := Lib.hid (((BoxAt.new w 28 (sysL s) _ rfl).alloc _).alloc _)
  have BL0 : Hid (BoxAt (((w.alloc (.cells (sysL s).toArray 28)).alloc (.cells (letL l).toArray 34)).alloc (.cells (sysL sysZ).toArray 28)) (w.heap.size + 1) (letL l)) := Lib.hid ((BoxAt.new _ 34 (letL l) _ (by simp)).alloc _)
  have BZ0 : Hid (BoxAt (((w.alloc (.cells (sysL s).toArray 28)).alloc (.cells (letL l).toArray 34)).alloc (.cells (sysL sysZ).toArray 28)) (w.heap.size + 1 + 1) (sysL sysZ)) := Lib.hid (BoxAt.new _ 28 (sysL sysZ) _ (by simp))
  have B0 : Hid (Below w.heap.size w (((w.alloc (.cells (sysL s).toArray 28)).alloc (.cells (letL l).toArray 34)).alloc (.cells (sysL sysZ).toArray 28))) := Lib.hid (by repeat (first | (with_reducible exact Below.refl _ _) | (with_reducible assumption) | ((with_reducible refine Below.setCell ?_ ?_ _); rotate_left; (focus (first | omega | (simp; omega) | (simp; done)))) | ((with_reducible refine Below.alloc ?_ ?_ _); rotate_left; (focus (first | omega | (simp; omega) | (simp; done)))) | (with_reducible refine Below.drew ?_)))
  obtain ⟨v0, hv0⟩ : ∃ W, W = (((w.alloc (.cells (sysL s).toArray 28)).alloc (.cells (letL l).toArray 34)).alloc (.cells (sysL sysZ).toArray 28)) := ⟨_, rfl⟩
  have hz0 : v0.heap.size = w.heap.size + 1 + 1 + 1 := by rw [hv0]; simp
  rw [← hv0] at BS0 BL0 BZ0 B0
  go_enter Try.func36, Try.ntmps36
  go_wp2_with fail
  refine (C.out _ (by have h := B0.out; rw [hv0] at h; exact h)).mono ?_
  rintro e v1 ⟨i', rfl, hi', h1⟩
  obtain rfl := hi' i rfl
  clear hi'
  have H1 : Hid (Below v0.heap.size v0 v1) := Lib.hid (by rw [hv0]; exact h1)
  clear h1 hv0
  have hz1 := H1.out.size
  have B1 := Lib.hid (Below.call B0.out H1.out)
  have BS1 := Lib.hid (BS0.out.call H1.out)
  have BL1 := Lib.hid (BL0.out.call H1.out)
  have BZ1 := Lib.hid (BZ0.out.call H1.out)
  clear BS0 BL0 BZ0
  obtain ⟨c0, c1, c2, c3, c4, c5, c6, c7, c8⟩ := sbox_cells BS1.out
  obtain ⟨f0, f1, f2, f3, f4, f5, f6, f7, f8⟩ := sbox_free BS1.out
  obtain ⟨nd, hnd⟩ : ∃ nd, a'.node = nd := ⟨_, rfl⟩
  rw [hnd] at HP
  have x2 : v1.cell? ⟨b, off + i' * 9 + 2, none⟩ = some (.int .i64 nd) := by rw [← hnd]; exact (B1.out.cell (p := ⟨b, off + i' * 9 + 2, none⟩) hb).trans (HC.out 2 _ rfl)
  clear hnd HC
  obtain ⟨l0, l1, l2, l3⟩ := let_cells BL1.out
  by_cases e1 : nd = x
  · have t1 : (nd == x) = true := by simp [e1]
    have HQ : Hid (Ml.send σ x p l = Ml.post σ p l) := Lib.hid (by rw [HP.out, if_pos e1])
    clear e1 HP
    go_wp2_with fail
    refine (CP.out _ B1.out).mono ?_
    rintro e v2 ⟨s1, rfl, hs, h2⟩
    obtain ⟨τ, ok, hpo⟩ : ∃ τ ok, Ml.post σ p l = (τ, ok) := ⟨_, _, rfl⟩
    rw [hpo] at HQ hs ⊢
    have HS := Lib.hid hs
    have H2 := Lib.hid h2
    have B2 := Lib.hid (Below.call B1.out h2)
    have BZ2 := Lib.hid (BZ1.out.call h2)
    have hz2 := h2.size
    clear hpo hs h2 c0 c1 c2 c3 c4 c5 c6 c7 c8 f0 f1 f2 f3 f4 f5 f6 f7 f8 l0 l1 l2 l3
    obtain ⟨z0, z1, z2, z3, z4, z5, z6, z7, z8⟩ := sbox_cells BZ2.out
    obtain ⟨y0, y1, y2, y3, y4, y5, y6, y7, y8⟩ := sbox_free BZ2.out
    go_wp2_with fail
    obtain ⟨Wf, hWf⟩ : ∃ W, W = putSys v2 (w.heap.size + 1 + 1) s1 := ⟨_, rfl⟩
    have hBf : Below w.heap.size w Wf := by rw [hWf]; exact putSys_below B2.out (by omega)
    have hS := HS.out.boxed (R := w.heap.size + 1 + 1) (Wf := Wf) (by omega) (by omega) (by rw [hWf]; exact putSys_off _ _ _)
    refine bodyPost_ret (v := .tuple #[sysV s1, .bool ok]) ?_ rfl ?_
    · simp [results, Try.results36, go_sem, *]
    · rw [hWf] at hS hBf; exact sysPost HQ.out hS hBf
  · have t1 : (nd == x) = false := by simp [e1]
    replace HP : Hid (Ml.send σ x p l = if Ml.chan σ.fls x nd < 1024 then ({ σ with fls := σ.fls ++ [⟨x, nd, p, l⟩] }, true) else (Ml.lost σ, false)) := Lib.hid (by rw [HP.out, if_neg e1])
    clear e1
    go_wp2_with fail
    go_loop [13, 14] (fun c i => ∃ k : Nat, k ≤ s.flights.n ∧ i = .int .i64 k ∧ c = .int .i64 (Ml.chan (σ.fls.take k) x nd : Nat)) (fun _ i => s.flights.n - (intOf i).toNat)
    case atStart => exact ⟨0, Nat.zero_le _, rfl, rfl⟩
    case round =>
      obtain ⟨k, hk, rfl, rfl⟩ := hrel
      by_cases hlt : k < s.flights.n
      · obtain ⟨b', off', f, hA, hb', hfk, hc⟩ := HF.out.at_ (fun _ => rfl) (by omega) hlt
        have d0 : v1.cell? ⟨b', off' + k * 7, none⟩ = some (.int .i64 f.x) := (B1.out.cell (p := ⟨b', off' + k * 7, none⟩) hb').trans (hc 0 _ rfl)
        have d1 : v1.cell? ⟨b', off' + k * 7 + 1, none⟩ = some (.int .i64 f.y) := (B1.out.cell (p := ⟨b', off' + k * 7 + 1, none⟩) hb').trans (hc 1 _ rfl)
        have hix2 : ∀ W : World, Sem.run Try.prog (Instr.indexAt 24 (.slice s.flights.a s.flights.n s.flights.c) (.int .i64 (k : Int))) W = .ok (.pointer (some ⟨b', off' + k * 7, none⟩)) W := by intro W; rw [hA]; go_simp
        have HFK := Lib.hid (take_snoc' _ k f hfk)
        clear hA hfk hc
        have hle := Ml.chan_le (σ.fls.take k) x nd
        have hle2 : (σ.fls.take k).length ≤ k := by simp; omega
        by_cases k1 : f.x = x
        · have t2 : (f.x == x) = true := by simp [k1]
          by_cases k2 : f.y = nd
          · have t3 : (f.y == nd) = true := by simp [k2]
            have HN : Hid (Ml.chan (σ.fls.take (k + 1)) x nd = Ml.chan (σ.fls.take k) x nd + 1) := Lib.hid (by rw [HFK.out, Ml.chan_snoc]; simp [Ml.onCh, k1, k2])
            clear k1 k2
            go_wp2_with fail
            go_round
            case rel => exact ⟨k + 1, by omega, by go_num, by rw [HN.out]; go_num⟩
            case measure => simp [intOf]; omega
          · have t3 : (f.y == nd) = false := by simp [k2]
            have HN : Hid (Ml.chan (σ.fls.take (k + 1)) x nd = Ml.chan (σ.fls.take k) x nd) := Lib.hid (by rw [HFK.out, Ml.chan_snoc]; simp [Ml.onCh, k2])
            clear k1 k2
            go_wp2_with fail
            go_round
            case rel => exact ⟨k + 1, by omega, by go_num, by rw [HN.out]⟩
            case measure => simp [intOf]; omega
        · have t2 : (f.x == x) = false := by simp [k1]
          have HN : Hid (Ml.chan (σ.fls.take (k + 1)) x nd = Ml.chan (σ.fls.take k) x nd) := Lib.hid (by rw [HFK.out, Ml.chan_snoc]; simp [Ml.onCh, k1])
          clear k1
          go_wp2_with fail
          go_round
          case rel => exact ⟨k + 1, by omega, by go_num, by rw [HN.out]⟩
          case measure => simp [intOf]; omega
      · have HE : Hid (σ.fls.take k = σ.fls) := Lib.hid (List.take_of_length_le (by have := HL.out; omega))
        rw [HE.out]
        obtain ⟨ch, hch⟩ : ∃ ch, Ml.chan σ.fls x nd = ch := ⟨_, rfl⟩
        rw [hch] at HP ⊢
        clear hch
        by_cases hfull : 1024 ≤ ch
        · have hq : (1024 : Int) ≤ (ch : Int) := by omega
          replace HP : Hid (Ml.send σ x p l = (Ml.lost σ, false)) := Lib.hid (by rw [HP.out, if_neg (by omega)])
          clear hfull
          obtain ⟨z0, z1, z2, z3, z4, z5, z6, z7, z8⟩ := sbox_cells BZ1.out
          obtain ⟨y0, y1, y2, y3, y4, y5, y6, y7, y8⟩ := sbox_free BZ1.out
          go_wp2_with fail
          obtain ⟨Wf, hWf⟩ : ∃ W, W = putSys (v1.setCell ⟨w.heap.size, 8, none⟩ (.int .i64 (wrap64 (s.dead + 1)))) (w.heap.size + 1 + 1) { s with dead := wrap64 (s.dead + 1) } := ⟨_, rfl⟩
          have hBf : Below w.heap.size w Wf := by rw [hWf]; exact putSys_below (B1.out.setCell (Nat.le_refl _) _) (by omega)
          refine bodyPost_ret (v := .tuple #[sysV { s with dead := wrap64 (s.dead + 1) }, .bool false]) ?_ rfl ?_
          · simp [results, Try.results36, go_sem, *]
          · rw [hWf] at hBf; exact sysPost HP.out ((H.out.below hBf).mono (fun b hb => .inl hb)).lost hBf
        · have hq : ¬ (1024 : Int) ≤ (ch : Int) := by omega
          replace HP : Hid (Ml.send σ x p l = ({ σ with fls := σ.fls ++ [⟨x, nd, p, l⟩] }, true)) := Lib.hid (by rw [HP.out, if_pos (by omega)])
          clear hfull
          have k0 : w.heap.size < v1.heap.size := BS1.out.1
          have k1 : w.heap.size + 1 < v1.heap.size := BL1.out.1
          have k2 : w.heap.size + 1 + 1 < v1.heap.size := BZ1.out.1
          go_wp2_with (first
            | (at_builtin; refine wpList_append_lit _ 66 rfl (.tmp 78) (.tmp 80) 24 rfl i6 _ 7 96 Try.underlying24 hi6 hz60 hz61 hz62 rfl (by decide) _ rfl (by simp) _ _ _ _ (σ.fls.flatMap flyL) rfl (HF.out.up B1.out) (Nat.le_refl _) (fly_one _) (by omega) (by omega) ?_; intro u v2 hr2 ho2 h2; have HO2 := Lib.hid ho2; have H2 := Lib.hid h2; clear ho2 hr2 h2; have hz2 := H2.out.size; have B2 := Lib.hid (Below.call B1.out H2.out); have BS2 := Lib.hid (BS1.out.call H2.out); have BL2 := Lib.hid (BL1.out.call H2.out); have BZ2 := Lib.hid (BZ1.out.call H2.out); clear c0 c1 c2 c3 c4 c5 c6 c7 c8 f0 f1 f2 f3 f4 f5 f6 f7 f8 l0 l1 l2 l3; obtain ⟨l0, l1, l2, l3⟩ := let_cells BL2.out)
            | (at_builtin; refine wpList_append_own _ rfl (.tmp 82) (.tmp 88) 24 rfl v1.heap.size 66 i6 _ 7 96 Try.underlying24 hi6 hz60 hz61 hz62 rfl (by decide) (.slice u.a s.flights.n u.c) s.flights.n (σ.fls.flatMap flyL) rfl (HO2.out.alloc _) ⟨v2.heap.size, 0, none⟩ 1 1 (flyL ⟨x, nd, p, l⟩) rfl rfl (cells_new _ _ _) (by simp [Value.oneCell']) (by rw [ml_val]; omega) (by omega) (by first | omega | (simp; omega) | (simp; done)) ?_; intro v' v3 ho hgr _; obtain ⟨m, _, rfl, _⟩ := own_sl ho; have HO3 := Lib.hid ho; have BS3 := Lib.hid ((BS2.out.alloc _).kept_row (HO2.out.alloc _) (by omega) hgr); have BZ3 := Lib.hid ((BZ2.out.alloc _).kept_row (HO2.out.alloc _) (by omega) hgr); have B3 : Hid (Below w.heap.size w v3) := Lib.hid ((B2.out.alloc (by omega) _).grown hgr (by first | omega | (simp; omega) | (simp; done)) (fun q hq => by have := row_base (HO2.out.alloc (.cells #[] 66)) q hq; omega)); have hz3 := B3.out.size; clear ho hgr BS2 BL2 BZ2 l0 l1 l2 l3; obtain ⟨c0, c1, c2, c3, c4, c5, c6, c7, c8⟩ := sbox_cells BS3.out; obtain ⟨f0, f1, f2, f3, f4, f5, f6, f7, f8⟩ := sbox_free BS3.out; obtain ⟨z0, z1, z2, z3, z4, z5, z6, z7, z8⟩ := sbox_cells BZ3.out; obtain ⟨y0, y1, y2, y3, y4, y5, y6, y7, y8⟩ := sbox_free BZ3.out))
          obtain ⟨Wf, hWf⟩ : ∃ W, W = putSys (v3.setCell ⟨w.heap.size, 5, none⟩ (.slice m.a (s.flights.n + 1) m.c)) (w.heap.size + 1 + 1) { s with flights := ⟨m.a, s.flights.n + 1, m.c⟩ } := ⟨_, rfl⟩
          have hBf : Below w.heap.size w Wf := by rw [hWf]; exact putSys_below (B3.out.setCell (Nat.le_refl _) _) (by omega)
          have ho : v3.ownsRow v1.heap.size 66 7 (.slice m.a (s.flights.n + 1) m.c) (s.flights.n + 1) ((σ.fls ++ [(⟨x, nd, p, l⟩ : FlyC)]).flatMap flyL) := by simpa using HO3.out
          have hS := sysR_flown (R := w.heap.size + 1 + 1) H.out hBf (own_set_other ho ⟨w.heap.size, 5, none⟩ (.slice m.a (s.flights.n + 1) m.c) (own_ne (R := w.heap.size) ho (by omega))) (by omega) (by omega) (by rw [hWf]; exact putSys_off _ _ _)
          refine bodyPost_ret (v := .tuple #[sysV { s with flights := ⟨m.a, s.flights.n + 1, m.c⟩ }, .bool true]) ?_ rfl ?_
          · simp [results, Try.results36, go_sem, *]
          · rw [hWf] at hS hBf; exact sysPost HP.out hS hBf

theorem send36 {P : Nat → Prop} (s : SysC) (σ : PS) (x : Int) (p : ByteArray) (l : LetC) (w : World) (h : SysR P w s σ) (hna : s.actors.n ≤ 1000000) (hnu : s.up.n ≤ 9223372036854775807) (hnf : s.flights.n ≤ 1000000) :
    Calls Try.prog 36 #[sysV s, .int .i64 x, .string p, letV l] w (SysPost P (Ml.send σ x p l) w) := by
  cases hr : Ml.reachP σ p with
  | none => exact send36_none s σ x p l w h hna hnu hr
  | some i =>
    obtain ⟨qs, hq1, hq2, hq3⟩ := h.ac
    have hf : Ml.find (σ.acts.map (·.path)) p = some i := Ml.reachP_find hr
    have hi : i < qs.length := by
      have := (List.getElem?_eq_some_iff.1 (Ml.find_spec hf).1).1
      rw [← hq3] at this
      simpa using this
    obtain ⟨q, hqi⟩ : ∃ q, qs[i]? = some q := ⟨_, List.getElem?_eq_getElem hi⟩
    exact send36_some s σ x p l w h hna hnu hnf i hr q.1 q.2 qs hq1 hq3 hqi
end Go.Proofs.Ytjdjfjokniingaa
