/- The walk of BoxesEdits. -/
import Derived.Test.YtcncobhdfflelaaKe
namespace Go.Proofs.Ytcncobhdfflelaa
open Go.RowKit

set_option linter.unusedSimpArgs false in
set_option linter.unusedVariables false in
set_option maxRecDepth 100000 in
set_option maxHeartbeats 6400000 in
theorem edits6 (A D : Option Addr) (n m c d : Nat) (lo hi : List Int) (u : Sl) (qs : List LnM) (z0 z1 : Nat) (w : World) (hx : Rd w w.heap.size 1 A n (ints lo)) (hy : Rd w w.heap.size 1 D m (ints hi)) (hu : LnsRd w u qs) (hz0 : z0 < 65536) (hz1 : z1 < 256) :
    Calls Try.prog 6 #[.slice A n c, .slice D m d, .slice u.a u.n u.c, .int .u16 (z0 : Int), .int .u8 (z1 : Int)] w fun e w' => e = .returned (.bool true) ∧ Below w.heap.size w w' := by
  have hmf : ∀ (fn : Fn) (first cap : Array Value) (w : World), (Instr.makeFunc fn first cap).run Try.prog w = .ok (.func fn first cap) w := fun _ _ _ _ => rfl
  have HL := Lib.hid (show lo.length = n by simpa using hx.1)
  have HM := Lib.hid (show hi.length = m by simpa using hy.1)
  have HX := Lib.hid hx
  have HY := Lib.hid hy
  have HU := Lib.hid hu
  clear hx hy hu
  obtain ⟨i4, hi4, hz40, hz41, hz42⟩ := info_parts info44
  go_enter Try.func6, Try.ntmps6
  go_wp2_with fail
  refine (small9 _).mono ?_
  rintro e v1 ⟨rfl, h1⟩
  have hB1 : Below w.heap.size w v1 := Below.call (w := w) (by repeat (first | (with_reducible exact Below.refl _ _) | (with_reducible assumption) | ((with_reducible refine Below.setCell ?_ ?_ _); rotate_left; (focus (first | omega | (simp; omega) | (simp; done)))) | ((with_reducible refine Below.alloc ?_ ?_ _); rotate_left; (focus (first | omega | (simp; omega) | (simp; done)))) | (with_reducible refine Below.drew ?_))) h1
  have hz1' := h1.size
  simp at hz1'
  have k1 : v1.cell? ⟨w.heap.size, 0, none⟩ = some (.slice u.a u.n u.c) := (h1.cell (p := ⟨w.heap.size, 0, none⟩) (by simp)).trans (by simp [go_sem])
  have HB1 := Lib.hid hB1
  clear h1 hB1
  have CP := Lib.hid (plain10 A D n m c d lo hi u qs v1 (HX.out.up HB1.out) (HY.out.up HB1.out) (HU.out.up HB1.out))
  obtain ⟨pl, hpl⟩ : ∃ pl, Bx.plainB lo hi (qs.map lnP) = pl := ⟨_, rfl⟩
  rw [hpl] at CP
  have HPL := Lib.hid hpl
  clear hpl
  go_wp2_with fail
  refine CP.out.mono ?_
  rintro e v2 ⟨rfl, h2⟩
  have k2 : v2.cell? ⟨w.heap.size, 0, none⟩ = some (.slice u.a u.n u.c) := (h2.cell (p := ⟨w.heap.size, 0, none⟩) (by show w.heap.size < v1.heap.size; omega)).trans k1
  have hz2 : w.heap.size < v2.heap.size := by have := h2.size; omega
  have HB2 := Lib.hid (Below.call HB1.out h2)
  clear h2 CP k1 hz1'
  cases pl with
  | false =>
    go_wp2_with fail
    go_ret
    exact ⟨rfl, HB2.out⟩
  | true =>
    obtain ⟨p1, p2, p3, p4, p5, p6⟩ := Bx.plainB_spec HPL.out
    have hun : u.n ≤ 4 := by rw [List.length_map, HU.out.len] at p3; exact p3
    have hn4 : n ≤ 4 := by have := HL.out; omega
    have HP4 := Lib.hid p4
    have HP5 := Lib.hid p5
    have LA := Lib.hid ((HU.out.up HB2.out).at_ (fun c hc => (p6 c hc).2))
    have CS : Hid (∀ (X : World), Below v2.heap.size v2 X → Calls Try.prog 11 #[.slice A n c, .slice D m d, .func (.func 24) #[] #[.pointer (some ⟨w.heap.size, 0, none⟩)], .int .i64 100] X (SolvePost (Bx.solve (fun a b => Bx.verd a b (qs.map lnP) 1) lo hi 100) X)) := Lib.hid (fun X hX =>
      solve11 A D n m c d lo hi 24 _ _ 100 X ((HX.out.up HB2.out).up hX) ((HY.out.up HB2.out).up hX) eg24 (fun hv => verd24 (D := (lo, hi)) (Nat.lt_of_lt_of_le hz2 hX.size) ((hX.cell (p := ⟨w.heap.size, 0, none⟩) hz2).trans k2) (LA.out.up hX) (by omega) ((Bx.sub_self' hv).2.1) (by show lo.length ≤ 1000; have := HL.out; omega) HP4.out HP5.out))
    have LAW := Lib.hid (Bx.solve_cases lo hi (qs.map lnP) 100)
    clear p1 p2 p3 p4 p5 p6 LA
    go_wp2_with fail
    rcases LAW.out with r1 | r1 | r1 | ⟨r, r1, hv, hp, hrl⟩
    · rw [r1] at CS
      clear r1 LAW
      refine (CS.out _ (by repeat (first | (with_reducible exact Below.refl _ _) | (with_reducible assumption) | ((with_reducible refine Below.setCell ?_ ?_ _); rotate_left; (focus (first | omega | (simp; omega) | (simp; done)))) | ((with_reducible refine Below.alloc ?_ ?_ _); rotate_left; (focus (first | omega | (simp; omega) | (simp; done)))) | (with_reducible refine Below.drew ?_)))).mono ?_
      rintro e v3 ⟨u3, rfl, hx3, h3⟩
      have s3 : Below v2.heap.size v2 v3 := Below.call (w := v2) (by repeat (first | (with_reducible exact Below.refl _ _) | (with_reducible assumption) | ((with_reducible refine Below.setCell ?_ ?_ _); rotate_left; (focus (first | omega | (simp; omega) | (simp; done)))) | ((with_reducible refine Below.alloc ?_ ?_ _); rotate_left; (focus (first | omega | (simp; omega) | (simp; done)))) | (with_reducible refine Below.drew ?_))) h3
      have HB3 := Lib.hid (Below.call HB2.out s3)
      clear h3 hx3 CS s3
      go_wp2_with fail
      go_ret
      exact ⟨rfl, HB3.out⟩
    · rw [r1] at CS
      clear r1 LAW
      refine (CS.out _ (by repeat (first | (with_reducible exact Below.refl _ _) | (with_reducible assumption) | ((with_reducible refine Below.setCell ?_ ?_ _); rotate_left; (focus (first | omega | (simp; omega) | (simp; done)))) | ((with_reducible refine Below.alloc ?_ ?_ _); rotate_left; (focus (first | omega | (simp; omega) | (simp; done)))) | (with_reducible refine Below.drew ?_)))).mono ?_
      rintro e v3 ⟨u3, rfl, hx3, h3⟩
      have s3 : Below v2.heap.size v2 v3 := Below.call (w := v2) (by repeat (first | (with_reducible exact Below.refl _ _) | (with_reducible assumption) | ((with_reducible refine Below.setCell ?_ ?_ _); rotate_left; (focus (first | omega | (simp; omega) | (simp; done)))) | ((with_reducible refine Below.alloc ?_ ?_ _); rotate_left; (focus (first | omega | (simp; omega) | (simp; done)))) | (with_reducible refine Below.drew ?_))) h3
      have HB3 := Lib.hid (Below.call HB2.out s3)
      clear h3 hx3 CS s3
      go_wp2_with fail
      go_ret
      exact ⟨rfl, HB3.out⟩
    · rw [r1] at CS
      clear r1 LAW
      refine (CS.out _ (by repeat (first | (with_reducible exact Below.refl _ _) | (with_reducible assumption) | ((with_reducible refine Below.setCell ?_ ?_ _); rotate_left; (focus (first | omega | (simp; omega) | (simp; done)))) | ((with_reducible refine Below.alloc ?_ ?_ _); rotate_left; (focus (first | omega | (simp; omega) | (simp; done)))) | (with_reducible refine Below.drew ?_)))).mono ?_
      rintro e v3 ⟨u3, rfl, hx3, h3⟩
      have s3 : Below v2.heap.size v2 v3 := Below.call (w := v2) (by repeat (first | (with_reducible exact Below.refl _ _) | (with_reducible assumption) | ((with_reducible refine Below.setCell ?_ ?_ _); rotate_left; (focus (first | omega | (simp; omega) | (simp; done)))) | ((with_reducible refine Below.alloc ?_ ?_ _); rotate_left; (focus (first | omega | (simp; omega) | (simp; done)))) | (with_reducible refine Below.drew ?_))) h3
      have HB3 := Lib.hid (Below.call HB2.out s3)
      clear h3 hx3 CS s3
      go_wp2_with fail
      go_ret
      exact ⟨rfl, HB3.out⟩
    · rw [r1] at CS
      have HP := Lib.hid hp
      have HV := Lib.hid hv
      have HRL : Hid (r.length ≤ 100) := Lib.hid (by have h : Bx.lim 100 = 100 := (by decide); omega)
      clear r1 hv hp hrl LAW
      refine (CS.out _ (by repeat (first | (with_reducible exact Below.refl _ _) | (with_reducible assumption) | ((with_reducible refine Below.setCell ?_ ?_ _); rotate_left; (focus (first | omega | (simp; omega) | (simp; done)))) | ((with_reducible refine Below.alloc ?_ ?_ _); rotate_left; (focus (first | omega | (simp; omega) | (simp; done)))) | (with_reducible refine Below.drew ?_)))).mono ?_
      rintro e v3 ⟨u3, rfl, hx3, h3⟩
      have s3 : Below v2.heap.size v2 v3 := Below.call (w := v2) (by repeat (first | (with_reducible exact Below.refl _ _) | (with_reducible assumption) | ((with_reducible refine Below.setCell ?_ ?_ _); rotate_left; (focus (first | omega | (simp; omega) | (simp; done)))) | ((with_reducible refine Below.alloc ?_ ?_ _); rotate_left; (focus (first | omega | (simp; omega) | (simp; done)))) | (with_reducible refine Below.drew ?_))) h3
      have HB3 := Lib.hid (Below.call HB2.out s3)
      have hcap := hx3.cap
      obtain ⟨bm, hbr, hbm⟩ := hx3.full.brow
      have HBR := Lib.hid hbr
      have hbm' : bm.map plD = r := hbm
      have HBM := Lib.hid hbm'
      have hN : u3.n ≤ 100 := by rw [← hbr.n]; have := HRL.out; rw [← hbm', List.length_map] at this; exact this
      have HN := Lib.hid hbr.n
      clear h3 hx3 CS s3 k2 hz2 hbr hbm hbm' HRL hun
      by_cases g1 : u3.n = 0
      · have t1 : ((u3.n : Int) == 0) = true := by simp; omega
        go_wp2_with fail
        go_ret
        exact ⟨rfl, HB3.out⟩
      · have t1 : ((u3.n : Int) == 0) = false := by simp; omega
        by_cases g2 : n = 0
        · have t2 : ((n : Int) == 0) = true := by simp; omega
          go_wp2_with fail
          go_ret
          exact ⟨rfl, HB3.out⟩
        · have t2 : ((n : Int) == 0) = false := by simp; omega
          go_upto_region 9 with (fail)
          obtain ⟨k, hk⟩ : ∃ k : Nat, z0 % u3.n = k := ⟨_, rfl⟩
          obtain ⟨i, hi⟩ : ∃ i : Nat, z1 % n = i := ⟨_, rfl⟩
          have hk1 : ((z0 : Int) % (u3.n : Int)) = (k : Int) := by rw [← hk]; exact (Int.natCast_emod z0 u3.n).symm
          have hi1 : ((z1 : Int) % (n : Int)) = (i : Int) := by rw [← hi]; exact (Int.natCast_emod z1 n).symm
          have hkl : k < u3.n := by rw [← hk]; exact Nat.mod_lt _ (by omega)
          have hil : i < n := by rw [← hi]; exact Nat.mod_lt _ (by omega)
          rw [hk1, hi1]
          clear hk hi hk1 hi1 hz0 hz1
          obtain ⟨hsl1, A', hsl2, hrd⟩ := HBR.out.cut hkl hcap
          obtain ⟨N2, hN2⟩ : ∃ N2, u3.n - (k + 1) = N2 := ⟨_, rfl⟩
          rw [hN2] at hsl2 hrd
          have hN3 : k + N2 ≤ 100 := by omega
          have HTL := Lib.hid hrd
          have hwk : IntKind.i64.wrap ((k : Int) + 1) = (k : Int) + 1 := by rw [IntWalk.i64_left, IntWalk.wrap64_in _ (by omega)]
          clear hN2 hrd
          go_cut [16] (fun s16 X => ∃ u6 : Sl, s16 = .slice u6.a u6.n u6.c ∧ u6.n ≤ 200 ∧ Hid (BRow X u6 (bm.take k ++ bm.drop (k + 1))) ∧ Hid (Below v3.heap.size v3 X))
          case first =>
            refine wp_region_held_drew (S := (fun _ => True)) (by kernel_rfl) ?_ (fun hHeld => ?_)
            · trivial
            have rT0 := (St.start v3).drew
            generalize v3.drew = rv0 at rT0 hHeld ⊢
            have rS0 := Lib.hid (rT0)
            have rb0 := rS0.out.bl.size
            clear rT0
            refine wpAnyH_take (i := 1) (v := ?_) rfl (by kernel_rfl) (by kernel_rfl) (by kernel_rfl) (fun _ _ _ h => h) (Or.inl ⟨by rfl, ?_⟩) (by assumption) ?_
            rotate_left
            · intro w hSw; (try dsimp only at hSw); go_simp; (first | done | (with_reducible rfl))
            try simp only [Act.put, List.getElem_toArray, List.getElem_cons_succ, List.getElem_cons_zero, List.setIfInBounds_toArray, List.set_cons_zero, List.set_cons_succ]
            refine wpAnyH_take (i := 2) (v := ?_) rfl (by kernel_rfl) (by kernel_rfl) (by kernel_rfl) (fun _ _ _ h => h) (Or.inl ⟨by rfl, ?_⟩) (by assumption) ?_
            rotate_left
            · intro w hSw; (try dsimp only at hSw); go_simp; (first | done | (with_reducible rfl))
            try simp only [Act.put, List.getElem_toArray, List.getElem_cons_succ, List.getElem_cons_zero, List.setIfInBounds_toArray, List.set_cons_zero, List.set_cons_succ]
            refine wpAnyH_take (i := 3) (v := ?_) rfl (by kernel_rfl) (by kernel_rfl) (by kernel_rfl) (fun _ _ _ h => h) (Or.inl ⟨by rfl, ?_⟩) (by assumption) ?_
            rotate_left
            · intro w hSw; (try dsimp only at hSw); go_simp; (first | done | (with_reducible rfl))
            try simp only [Act.put, List.getElem_toArray, List.getElem_cons_succ, List.getElem_cons_zero, List.setIfInBounds_toArray, List.set_cons_zero, List.set_cons_succ]
            refine wpAnyH_take (i := 5) (v := ?_) rfl (by kernel_rfl) (by kernel_rfl) (by kernel_rfl) (fun _ _ _ h => h) (Or.inl ⟨by rfl, ?_⟩) (by assumption) ?_
            rotate_left
            · intro w hSw; (try dsimp only at hSw); go_simp; (first | done | (with_reducible rfl))
            try simp only [Act.put, List.getElem_toArray, List.getElem_cons_succ, List.getElem_cons_zero, List.setIfInBounds_toArray, List.set_cons_zero, List.set_cons_succ]
            refine wpAnyH_take (i := 6) (v := ?_) rfl (by kernel_rfl) (by kernel_rfl) (by kernel_rfl) (fun _ _ _ h => h) (Or.inl ⟨by rfl, ?_⟩) (by assumption) ?_
            rotate_left
            · intro w hSw; (try dsimp only at hSw); go_simp; (first | done | (with_reducible rfl))
            try simp only [Act.put, List.getElem_toArray, List.getElem_cons_succ, List.getElem_cons_zero, List.setIfInBounds_toArray, List.set_cons_zero, List.set_cons_succ]
            refine wpAnyH_take (i := 7) (v := ?_) rfl (by kernel_rfl) (by kernel_rfl) (by kernel_rfl) (fun _ _ _ h => h) (Or.inl ⟨by rfl, ?_⟩) (by assumption) ?_
            rotate_left
            · intro w hSw; (try dsimp only at hSw); go_simp; (first | done | (with_reducible rfl))
            try simp only [Act.put, List.getElem_toArray, List.getElem_cons_succ, List.getElem_cons_zero, List.setIfInBounds_toArray, List.set_cons_zero, List.set_cons_succ]
            refine wpAnyH_take (i := 8) (v := ?_) rfl (by kernel_rfl) (by kernel_rfl) (by kernel_rfl) (fun _ _ _ h => h) (Or.inl ⟨by rfl, ?_⟩) (by assumption) ?_
            rotate_left
            · intro w hSw; (try dsimp only at hSw); go_simp; (first | done | (with_reducible rfl))
            try simp only [Act.put, List.getElem_toArray, List.getElem_cons_succ, List.getElem_cons_zero, List.setIfInBounds_toArray, List.set_cons_zero, List.set_cons_succ]
            refine wpAnyH_ready (rs := [0]) (by kernel_rfl) (by simp) ?_
            refine AllReadyH.cons rfl (fun K hK => ?_) AllReadyH.nil
            go_simp
            obtain ⟨rv1, hrv1⟩ : ∃ v, v = rv0.alloc (.cells #[] 44) := ⟨_, rfl⟩
            have rT1 : St v3 rv1 ([] ++ (⟨44, 3, ⟨some ⟨rv0.heap.size, 0, none⟩, 0, 0⟩, []⟩ : Row) :: []) := by rw [hrv1]; exact St.lit (A := []) (B := []) rS0.out 44 3 0 [] rfl (by decide)
            try rw [← hrv1]
            clear hrv1
            have rS1 := Lib.hid (rT1)
            have rb1 := rS1.out.bl.size
            clear rT1
            refine hK.out _ _ ?_ (fun hHeld => ?_)
            · trivial
            clear hK K
            try simp only [Act.put, List.getElem_toArray, List.getElem_cons_succ, List.getElem_cons_zero, List.setIfInBounds_toArray, List.set_cons_zero, List.set_cons_succ]
            refine wpAnyH_ready (rs := [4]) (by kernel_rfl) (by simp) ?_
            refine AllReadyH.cons rfl (fun K hK => ?_) AllReadyH.nil
            have rO2 : rv1.ownsRow v3.heap.size 44 3 (.slice (some ⟨rv0.heap.size, 0, none⟩) 0 0) 0 ([]) := rS1.out.at_ 0 rfl
            refine step_append_rd rfl (.tmp 58) (.tmp 61) 26 rfl v3.heap.size 44 i4 _ 3 56 Try.underlying26 hi4 hz40 hz41 hz42 rfl (by decide) ((some ⟨rv0.heap.size, 0, none⟩)) (0) (0) ([]) (by simp [Act.eval, Act.put]) rO2 rv1.heap.size (u3.a) (k) (u3.c) (cellsB (bm.take k)) (by simp [Act.eval, Act.put]) ((HBR.out.up rS1.out.bl).take_ (Nat.le_of_lt hkl)) (flat_one' _) (by omega) (by omega) rS1.out.bl.size ?_
            intro ru2 rv2 ro2 rg2 rn2
            have rT2 : St v3 rv2 ([] ++ (⟨44, 3, ⟨ru2.a, k, ru2.c⟩, cellsB (bm.take k)⟩ : Row) :: []) := St.app (A := []) (B := []) rS1.out rg2 (by have h := ro2; simp only [Nat.zero_add, List.nil_append] at h; exact h) (by have h := rn2; simp only [Nat.zero_add] at h; exact h)
            have rS2 := Lib.hid (rT2)
            have rb2 := rS2.out.bl.size
            clear rT2 rO2 ro2 rg2 rn2
            refine hK.out _ _ ?_ (fun hHeld => ?_)
            · trivial
            clear hK K
            try simp only [Act.put, List.getElem_toArray, List.getElem_cons_succ, List.getElem_cons_zero, List.setIfInBounds_toArray, List.set_cons_zero, List.set_cons_succ]
            refine wpAnyH_ready (rs := [9]) (by kernel_rfl) (by simp) ?_
            refine AllReadyH.cons rfl (fun K hK => ?_) AllReadyH.nil
            have rO3 : rv2.ownsRow v3.heap.size 44 3 (.slice ru2.a k ru2.c) k (cellsB (bm.take k)) := rS2.out.at_ 0 rfl
            refine step_append_rd rfl (.tmp 62) (.tmp 66) 26 rfl v3.heap.size 44 i4 _ 3 56 Try.underlying26 hi4 hz40 hz41 hz42 rfl (by decide) (ru2.a) (k) (ru2.c) (cellsB (bm.take k)) (by simp [Act.eval, Act.put]) rO3 rv2.heap.size (A') (N2) ((u3.c - (k + 1))) (cellsB (bm.drop (k + 1))) (by simp [Act.eval, Act.put]) (HTL.out _ rS2.out.bl) (flat_one' _) (by omega) (by omega) rS2.out.bl.size ?_
            intro ru3 rv3 ro3 rg3 rn3
            have rT3 : St v3 rv3 ([] ++ (⟨44, 3, ⟨ru3.a, k + N2, ru3.c⟩, cellsB (bm.take k ++ bm.drop (k + 1))⟩ : Row) :: []) := St.app (A := []) (B := []) rS2.out rg3 (by have h := ro3; rw [← cellsB_append] at h; exact h) (by have h := rn3; skip; exact h)
            have rS3 := Lib.hid (rT3)
            have rb3 := rS3.out.bl.size
            clear rT3 rO3 ro3 rg3 rn3
            refine hK.out _ _ ?_ (fun hHeld => ?_)
            · trivial
            clear hK K
            try simp only [Act.put, List.getElem_toArray, List.getElem_cons_succ, List.getElem_cons_zero, List.setIfInBounds_toArray, List.set_cons_zero, List.set_cons_succ]
            refine wpAnyH_take (i := 10) (v := ?_) rfl (by kernel_rfl) (by kernel_rfl) (by kernel_rfl) (fun _ _ _ h => h) (Or.inl ⟨by rfl, ?_⟩) (by assumption) ?_
            rotate_left
            · intro w hSw; (try dsimp only at hSw); go_simp; (first | done | (with_reducible rfl))
            try simp only [Act.put, List.getElem_toArray, List.getElem_cons_succ, List.getElem_cons_zero, List.setIfInBounds_toArray, List.set_cons_zero, List.set_cons_succ]
            refine wpAnyH_done (by kernel_rfl) ?_ _
            go_wp2_with fail
            go_meet
            exact ⟨⟨ru3.a, k + N2, ru3.c⟩, rfl, by show k + N2 ≤ 200; omega, Lib.hid ⟨own_rd (rS3.out.at_ 0 rfl), fun q hq => (HBR.out.el q ((List.mem_append.1 hq).elim List.mem_of_mem_take List.mem_of_mem_drop)).up rS3.out.bl⟩, Lib.hid rS3.out.bl⟩
          case rest =>
            obtain ⟨u6, rfl, hu6, HLS, HB6⟩ := hcut
            obtain ⟨wa, rfl⟩ : ∃ W, W = wc := ⟨wc, rfl⟩
            have HBRa := Lib.hid (HBR.out.up HB6.out)
            obtain ⟨lb, lf, q, hq, hlb, ixl, x0, x1, x2⟩ := box_at HBRa.out.rd u3.c hkl
            have LAW := Lib.hid (Bx.edits_law HP.out HV.out (l := bm.map (·.2)) (k := k) (b := q.2) (by rw [← HBM.out, List.map_map]; rfl) (by rw [List.getElem?_map, hq]; rfl))
            have HBQ := Lib.hid (HBRa.out.el q (List.mem_of_getElem? hq))
            have X0 := Lib.hid x0
            have X1 := Lib.hid x1
            have X2 := Lib.hid x2
            clear hq
            go_upto_region 10 with (fail)
            go_cut [17] (fun s17 X => ∃ u7 : Sl, s17 = .slice u7.a u7.n u7.c ∧ u7.n ≤ 200 ∧ Hid (BRow X u7 (bm ++ [q])) ∧ Hid (Below wa.heap.size wa X))
            case first =>
              refine wp_region_held_drew (S := (fun X => X.cell? ⟨lb, lf, none⟩ = some (.slice q.1.lo.a q.1.lo.n q.1.lo.c) ∧ X.cell? ⟨lb, lf + 1, none⟩ = some (.slice q.1.hi.a q.1.hi.n q.1.hi.c) ∧ X.cell? ⟨lb, lf + 2, none⟩ = some (.bool q.1.holds))) (by kernel_rfl) ?_ (fun hHeld => ?_)
              · simp [go_sem, *]
              have rT0 := (St.start wa).drew
              generalize wa.drew = rv0 at rT0 hHeld ⊢
              have rS0 := Lib.hid (rT0)
              have rc0_0 := (rS0.out.bl.cell (p := ⟨lb, lf, none⟩) hlb).trans X0.out
              have rc0_1 := (rS0.out.bl.cell (p := ⟨lb, lf + 1, none⟩) hlb).trans X1.out
              have rc0_2 := (rS0.out.bl.cell (p := ⟨lb, lf + 2, none⟩) hlb).trans X2.out
              have rb0 := rS0.out.bl.size
              clear rT0
              refine wpAnyH_take (i := 1) (v := ?_) rfl (by kernel_rfl) (by kernel_rfl) (by kernel_rfl) (fun _ _ _ h => h) (Or.inl ⟨by rfl, ?_⟩) (by assumption) ?_
              rotate_left
              · intro w hSw; (try dsimp only at hSw); go_simp; (first | done | (with_reducible rfl))
              try simp only [Act.put, List.getElem_toArray, List.getElem_cons_succ, List.getElem_cons_zero, List.setIfInBounds_toArray, List.set_cons_zero, List.set_cons_succ]
              refine wpAnyH_take (i := 3) (v := ?_) rfl (by kernel_rfl) (by kernel_rfl) (by kernel_rfl) (fun _ _ _ h => h) (Or.inl ⟨by rfl, ?_⟩) (by assumption) ?_
              rotate_left
              · intro w hSw; (try dsimp only at hSw); go_simp; (first | done | (with_reducible rfl))
              try simp only [Act.put, List.getElem_toArray, List.getElem_cons_succ, List.getElem_cons_zero, List.setIfInBounds_toArray, List.set_cons_zero, List.set_cons_succ]
              refine wpAnyH_take (i := 4) (v := ?_) rfl (by kernel_rfl) (by kernel_rfl) (by kernel_rfl) (fun _ _ _ h => h) (Or.inl ⟨by rfl, ?_⟩) (by assumption) ?_
              rotate_left
              · intro w hSw; (try dsimp only at hSw); go_simp; (first | done | (with_reducible rfl))
              try simp only [Act.put, List.getElem_toArray, List.getElem_cons_succ, List.getElem_cons_zero, List.setIfInBounds_toArray, List.set_cons_zero, List.set_cons_succ]
              refine wpAnyH_take (i := 5) (v := ?_) rfl (by kernel_rfl) (by kernel_rfl) (by kernel_rfl) (fun _ _ _ h => h) (Or.inl ⟨by rfl, ?_⟩) (by assumption) ?_
              rotate_left
              · intro w hSw; (try dsimp only at hSw); go_simp; (first | done | (with_reducible rfl))
              try simp only [Act.put, List.getElem_toArray, List.getElem_cons_succ, List.getElem_cons_zero, List.setIfInBounds_toArray, List.set_cons_zero, List.set_cons_succ]
              refine wpAnyH_take (i := 6) (v := ?_) rfl (by kernel_rfl) (by kernel_rfl) (by kernel_rfl) (fun _ _ _ h => h) (Or.inl ⟨by rfl, ?_⟩) (by assumption) ?_
              rotate_left
              · intro w hSw; (try dsimp only at hSw); go_simp; (first | done | (with_reducible rfl))
              try simp only [Act.put, List.getElem_toArray, List.getElem_cons_succ, List.getElem_cons_zero, List.setIfInBounds_toArray, List.set_cons_zero, List.set_cons_succ]
              refine wpAnyH_ready (rs := [0, 7]) (by kernel_rfl) (by simp) ?_
              refine AllReadyH.cons rfl (fun K hK => ?_) (AllReadyH.cons rfl (fun K hK => ?_) AllReadyH.nil)
              · go_simp
                obtain ⟨rv1, hrv1⟩ : ∃ v, v = rv0.alloc (.cells #[] 44) := ⟨_, rfl⟩
                have rT1 : St wa rv1 ([] ++ (⟨44, 3, ⟨some ⟨rv0.heap.size, 0, none⟩, 0, 0⟩, []⟩ : Row) :: []) := by rw [hrv1]; exact St.lit (A := []) (B := []) rS0.out 44 3 0 [] rfl (by decide)
                try rw [← hrv1]
                clear hrv1
                have rS1 := Lib.hid (rT1)
                have rc1_0 := (rS1.out.bl.cell (p := ⟨lb, lf, none⟩) hlb).trans X0.out
                have rc1_1 := (rS1.out.bl.cell (p := ⟨lb, lf + 1, none⟩) hlb).trans X1.out
                have rc1_2 := (rS1.out.bl.cell (p := ⟨lb, lf + 2, none⟩) hlb).trans X2.out
                have rb1 := rS1.out.bl.size
                clear rT1
                refine hK.out _ _ ?_ (fun hHeld => ?_)
                · simp [go_sem, *]
                clear hK K
                try simp only [Act.put, List.getElem_toArray, List.getElem_cons_succ, List.getElem_cons_zero, List.setIfInBounds_toArray, List.set_cons_zero, List.set_cons_succ]
                refine wpAnyH_ready (rs := [2, 7]) (by kernel_rfl) (by simp) ?_
                refine AllReadyH.cons rfl (fun K hK => ?_) (AllReadyH.cons rfl (fun K hK => ?_) AllReadyH.nil)
                · have rO2 : rv1.ownsRow wa.heap.size 44 3 (.slice (some ⟨rv0.heap.size, 0, none⟩) 0 0) 0 ([]) := rS1.out.at_ 0 rfl
                  refine step_append_rd rfl (.tmp 68) (.tmp 69) 26 rfl wa.heap.size 44 i4 _ 3 56 Try.underlying26 hi4 hz40 hz41 hz42 rfl (by decide) ((some ⟨rv0.heap.size, 0, none⟩)) (0) (0) ([]) (by simp [Act.eval, Act.put]) rO2 rv1.heap.size (u3.a) (u3.n) (u3.c) (cellsB bm) (by simp [Act.eval, Act.put]) ((HBRa.out.up rS1.out.bl).rd) (flat_one' _) (by omega) (by omega) rS1.out.bl.size ?_
                  intro ru2 rv2 ro2 rg2 rn2
                  have rT2 : St wa rv2 ([] ++ (⟨44, 3, ⟨ru2.a, u3.n, ru2.c⟩, cellsB bm⟩ : Row) :: []) := St.app (A := []) (B := []) rS1.out rg2 (by have h := ro2; simp only [Nat.zero_add, List.nil_append] at h; exact h) (by have h := rn2; simp only [Nat.zero_add] at h; exact h)
                  have rS2 := Lib.hid (rT2)
                  have rc2_0 := (rS2.out.bl.cell (p := ⟨lb, lf, none⟩) hlb).trans X0.out
                  have rc2_1 := (rS2.out.bl.cell (p := ⟨lb, lf + 1, none⟩) hlb).trans X1.out
                  have rc2_2 := (rS2.out.bl.cell (p := ⟨lb, lf + 2, none⟩) hlb).trans X2.out
                  have rb2 := rS2.out.bl.size
                  clear rT2 rO2 ro2 rg2 rn2
                  refine hK.out _ _ ?_ (fun hHeld => ?_)
                  · simp [go_sem, *]
                  clear hK K
                  try simp only [Act.put, List.getElem_toArray, List.getElem_cons_succ, List.getElem_cons_zero, List.setIfInBounds_toArray, List.set_cons_zero, List.set_cons_succ]
                  refine wpAnyH_ready (rs := [7]) (by kernel_rfl) (by simp) ?_
                  refine AllReadyH.cons rfl (fun K hK => ?_) AllReadyH.nil
                  go_simp
                  obtain ⟨rv3, hrv3⟩ : ∃ v, v = rv2.alloc (.cells #[.slice q.1.lo.a q.1.lo.n q.1.lo.c, .slice q.1.hi.a q.1.hi.n q.1.hi.c, .bool q.1.holds] 44) := ⟨_, rfl⟩
                  have rT3 : St wa rv3 ([(⟨44, 3, ⟨ru2.a, u3.n, ru2.c⟩, cellsB bm⟩ : Row)] ++ (⟨44, 3, ⟨some ⟨rv2.heap.size, 0, none⟩, 1, 1⟩, [.slice q.1.lo.a q.1.lo.n q.1.lo.c, .slice q.1.hi.a q.1.hi.n q.1.hi.c, .bool q.1.holds]⟩ : Row) :: []) := by rw [hrv3]; exact St.lit (A := [(⟨44, 3, ⟨ru2.a, u3.n, ru2.c⟩, cellsB bm⟩ : Row)]) (B := []) rS2.out 44 3 1 [.slice q.1.lo.a q.1.lo.n q.1.lo.c, .slice q.1.hi.a q.1.hi.n q.1.hi.c, .bool q.1.holds] rfl (by decide)
                  try rw [← hrv3]
                  clear hrv3
                  have rS3 := Lib.hid (rT3)
                  have rc3_0 := (rS3.out.bl.cell (p := ⟨lb, lf, none⟩) hlb).trans X0.out
                  have rc3_1 := (rS3.out.bl.cell (p := ⟨lb, lf + 1, none⟩) hlb).trans X1.out
                  have rc3_2 := (rS3.out.bl.cell (p := ⟨lb, lf + 2, none⟩) hlb).trans X2.out
                  have rb3 := rS3.out.bl.size
                  clear rT3
                  refine hK.out _ _ ?_ (fun hHeld => ?_)
                  · simp [go_sem, *]
                  clear hK K
                  try simp only [Act.put, List.getElem_toArray, List.getElem_cons_succ, List.getElem_cons_zero, List.setIfInBounds_toArray, List.set_cons_zero, List.set_cons_succ]
                  refine wpAnyH_ready (rs := [8]) (by kernel_rfl) (by simp) ?_
                  refine AllReadyH.cons rfl (fun K hK => ?_) AllReadyH.nil
                  have rO4 : rv3.ownsRow wa.heap.size 44 3 (.slice ru2.a u3.n ru2.c) u3.n (cellsB bm) := rS3.out.at_ 0 rfl
                  refine step_append_rd rfl (.tmp 70) (.tmp 75) 26 rfl wa.heap.size 44 i4 _ 3 56 Try.underlying26 hi4 hz40 hz41 hz42 rfl (by decide) (ru2.a) (u3.n) (ru2.c) (cellsB bm) (by simp [Act.eval, Act.put]) rO4 rv3.heap.size ((some ⟨rv2.heap.size, 0, none⟩)) (1) (1) (cellsB [q]) (by simp [Act.eval, Act.put]) (own_rd (rS3.out.at_ 1 rfl)) (flat_one' _) (by omega) (by omega) rS3.out.bl.size ?_
                  intro ru4 rv4 ro4 rg4 rn4
                  have rT4 : St wa rv4 ([] ++ (⟨44, 3, ⟨ru4.a, u3.n + 1, ru4.c⟩, cellsB (bm ++ [q])⟩ : Row) :: [(⟨44, 3, ⟨some ⟨rv2.heap.size, 0, none⟩, 1, 1⟩, [.slice q.1.lo.a q.1.lo.n q.1.lo.c, .slice q.1.hi.a q.1.hi.n q.1.hi.c, .bool q.1.holds]⟩ : Row)]) := St.app (A := []) (B := [(⟨44, 3, ⟨some ⟨rv2.heap.size, 0, none⟩, 1, 1⟩, [.slice q.1.lo.a q.1.lo.n q.1.lo.c, .slice q.1.hi.a q.1.hi.n q.1.hi.c, .bool q.1.holds]⟩ : Row)]) rS3.out rg4 (by have h := ro4; rw [← cellsB_append] at h; exact h) (by have h := rn4; skip; exact h)
                  have rS4 := Lib.hid (rT4)
                  have rc4_0 := (rS4.out.bl.cell (p := ⟨lb, lf, none⟩) hlb).trans X0.out
                  have rc4_1 := (rS4.out.bl.cell (p := ⟨lb, lf + 1, none⟩) hlb).trans X1.out
                  have rc4_2 := (rS4.out.bl.cell (p := ⟨lb, lf + 2, none⟩) hlb).trans X2.out
                  have rb4 := rS4.out.bl.size
                  clear rT4 rO4 ro4 rg4 rn4
                  refine hK.out _ _ ?_ (fun hHeld => ?_)
                  · simp [go_sem, *]
                  clear hK K
                  try simp only [Act.put, List.getElem_toArray, List.getElem_cons_succ, List.getElem_cons_zero, List.setIfInBounds_toArray, List.set_cons_zero, List.set_cons_succ]
                  refine wpAnyH_take (i := 9) (v := ?_) rfl (by kernel_rfl) (by kernel_rfl) (by kernel_rfl) (fun _ _ _ h => h) (Or.inl ⟨by rfl, ?_⟩) (by assumption) ?_
                  rotate_left
                  · intro w hSw; (try dsimp only at hSw); go_simp; (first | done | (with_reducible rfl))
                  try simp only [Act.put, List.getElem_toArray, List.getElem_cons_succ, List.getElem_cons_zero, List.setIfInBounds_toArray, List.set_cons_zero, List.set_cons_succ]
                  refine wpAnyH_done (by kernel_rfl) ?_ _
                  go_wp2_with fail
                  go_meet
                  exact ⟨⟨ru4.a, u3.n + 1, ru4.c⟩, rfl, by show u3.n + 1 ≤ 200; omega, Lib.hid ⟨own_rd (rS4.out.at_ 0 rfl), fun p hp => ((List.mem_append.1 hp).elim (fun h => HBRa.out.el p h) (fun h => by rw [List.mem_singleton] at h; subst h; exact HBQ.out)).up rS4.out.bl⟩, Lib.hid rS4.out.bl⟩
                · go_simp
                  obtain ⟨rv2, hrv2⟩ : ∃ v, v = rv1.alloc (.cells #[.slice q.1.lo.a q.1.lo.n q.1.lo.c, .slice q.1.hi.a q.1.hi.n q.1.hi.c, .bool q.1.holds] 44) := ⟨_, rfl⟩
                  have rT2 : St wa rv2 ([(⟨44, 3, ⟨some ⟨rv0.heap.size, 0, none⟩, 0, 0⟩, []⟩ : Row)] ++ (⟨44, 3, ⟨some ⟨rv1.heap.size, 0, none⟩, 1, 1⟩, [.slice q.1.lo.a q.1.lo.n q.1.lo.c, .slice q.1.hi.a q.1.hi.n q.1.hi.c, .bool q.1.holds]⟩ : Row) :: []) := by rw [hrv2]; exact St.lit (A := [(⟨44, 3, ⟨some ⟨rv0.heap.size, 0, none⟩, 0, 0⟩, []⟩ : Row)]) (B := []) rS1.out 44 3 1 [.slice q.1.lo.a q.1.lo.n q.1.lo.c, .slice q.1.hi.a q.1.hi.n q.1.hi.c, .bool q.1.holds] rfl (by decide)
                  try rw [← hrv2]
                  clear hrv2
                  have rS2 := Lib.hid (rT2)
                  have rc2_0 := (rS2.out.bl.cell (p := ⟨lb, lf, none⟩) hlb).trans X0.out
                  have rc2_1 := (rS2.out.bl.cell (p := ⟨lb, lf + 1, none⟩) hlb).trans X1.out
                  have rc2_2 := (rS2.out.bl.cell (p := ⟨lb, lf + 2, none⟩) hlb).trans X2.out
                  have rb2 := rS2.out.bl.size
                  clear rT2
                  refine hK.out _ _ ?_ (fun hHeld => ?_)
                  · simp [go_sem, *]
                  clear hK K
                  try simp only [Act.put, List.getElem_toArray, List.getElem_cons_succ, List.getElem_cons_zero, List.setIfInBounds_toArray, List.set_cons_zero, List.set_cons_succ]
                  refine wpAnyH_ready (rs := [2]) (by kernel_rfl) (by simp) ?_
                  refine AllReadyH.cons rfl (fun K hK => ?_) AllReadyH.nil
                  have rO3 : rv2.ownsRow wa.heap.size 44 3 (.slice (some ⟨rv0.heap.size, 0, none⟩) 0 0) 0 ([]) := rS2.out.at_ 0 rfl
                  refine step_append_rd rfl (.tmp 68) (.tmp 69) 26 rfl wa.heap.size 44 i4 _ 3 56 Try.underlying26 hi4 hz40 hz41 hz42 rfl (by decide) ((some ⟨rv0.heap.size, 0, none⟩)) (0) (0) ([]) (by simp [Act.eval, Act.put]) rO3 rv2.heap.size (u3.a) (u3.n) (u3.c) (cellsB bm) (by simp [Act.eval, Act.put]) ((HBRa.out.up rS2.out.bl).rd) (flat_one' _) (by omega) (by omega) rS2.out.bl.size ?_
                  intro ru3 rv3 ro3 rg3 rn3
                  have rT3 : St wa rv3 ([] ++ (⟨44, 3, ⟨ru3.a, u3.n, ru3.c⟩, cellsB bm⟩ : Row) :: [(⟨44, 3, ⟨some ⟨rv1.heap.size, 0, none⟩, 1, 1⟩, [.slice q.1.lo.a q.1.lo.n q.1.lo.c, .slice q.1.hi.a q.1.hi.n q.1.hi.c, .bool q.1.holds]⟩ : Row)]) := St.app (A := []) (B := [(⟨44, 3, ⟨some ⟨rv1.heap.size, 0, none⟩, 1, 1⟩, [.slice q.1.lo.a q.1.lo.n q.1.lo.c, .slice q.1.hi.a q.1.hi.n q.1.hi.c, .bool q.1.holds]⟩ : Row)]) rS2.out rg3 (by have h := ro3; simp only [Nat.zero_add, List.nil_append] at h; exact h) (by have h := rn3; simp only [Nat.zero_add] at h; exact h)
                  have rS3 := Lib.hid (rT3)
                  have rc3_0 := (rS3.out.bl.cell (p := ⟨lb, lf, none⟩) hlb).trans X0.out
                  have rc3_1 := (rS3.out.bl.cell (p := ⟨lb, lf + 1, none⟩) hlb).trans X1.out
                  have rc3_2 := (rS3.out.bl.cell (p := ⟨lb, lf + 2, none⟩) hlb).trans X2.out
                  have rb3 := rS3.out.bl.size
                  clear rT3 rO3 ro3 rg3 rn3
                  refine hK.out _ _ ?_ (fun hHeld => ?_)
                  · simp [go_sem, *]
                  clear hK K
                  try simp only [Act.put, List.getElem_toArray, List.getElem_cons_succ, List.getElem_cons_zero, List.setIfInBounds_toArray, List.set_cons_zero, List.set_cons_succ]
                  refine wpAnyH_ready (rs := [8]) (by kernel_rfl) (by simp) ?_
                  refine AllReadyH.cons rfl (fun K hK => ?_) AllReadyH.nil
                  have rO4 : rv3.ownsRow wa.heap.size 44 3 (.slice ru3.a u3.n ru3.c) u3.n (cellsB bm) := rS3.out.at_ 0 rfl
                  refine step_append_rd rfl (.tmp 70) (.tmp 75) 26 rfl wa.heap.size 44 i4 _ 3 56 Try.underlying26 hi4 hz40 hz41 hz42 rfl (by decide) (ru3.a) (u3.n) (ru3.c) (cellsB bm) (by simp [Act.eval, Act.put]) rO4 rv3.heap.size ((some ⟨rv1.heap.size, 0, none⟩)) (1) (1) (cellsB [q]) (by simp [Act.eval, Act.put]) (own_rd (rS3.out.at_ 1 rfl)) (flat_one' _) (by omega) (by omega) rS3.out.bl.size ?_
                  intro ru4 rv4 ro4 rg4 rn4
                  have rT4 : St wa rv4 ([] ++ (⟨44, 3, ⟨ru4.a, u3.n + 1, ru4.c⟩, cellsB (bm ++ [q])⟩ : Row) :: [(⟨44, 3, ⟨some ⟨rv1.heap.size, 0, none⟩, 1, 1⟩, [.slice q.1.lo.a q.1.lo.n q.1.lo.c, .slice q.1.hi.a q.1.hi.n q.1.hi.c, .bool q.1.holds]⟩ : Row)]) := St.app (A := []) (B := [(⟨44, 3, ⟨some ⟨rv1.heap.size, 0, none⟩, 1, 1⟩, [.slice q.1.lo.a q.1.lo.n q.1.lo.c, .slice q.1.hi.a q.1.hi.n q.1.hi.c, .bool q.1.holds]⟩ : Row)]) rS3.out rg4 (by have h := ro4; rw [← cellsB_append] at h; exact h) (by have h := rn4; skip; exact h)
                  have rS4 := Lib.hid (rT4)
                  have rc4_0 := (rS4.out.bl.cell (p := ⟨lb, lf, none⟩) hlb).trans X0.out
                  have rc4_1 := (rS4.out.bl.cell (p := ⟨lb, lf + 1, none⟩) hlb).trans X1.out
                  have rc4_2 := (rS4.out.bl.cell (p := ⟨lb, lf + 2, none⟩) hlb).trans X2.out
                  have rb4 := rS4.out.bl.size
                  clear rT4 rO4 ro4 rg4 rn4
                  refine hK.out _ _ ?_ (fun hHeld => ?_)
                  · simp [go_sem, *]
                  clear hK K
                  try simp only [Act.put, List.getElem_toArray, List.getElem_cons_succ, List.getElem_cons_zero, List.setIfInBounds_toArray, List.set_cons_zero, List.set_cons_succ]
                  refine wpAnyH_take (i := 9) (v := ?_) rfl (by kernel_rfl) (by kernel_rfl) (by kernel_rfl) (fun _ _ _ h => h) (Or.inl ⟨by rfl, ?_⟩) (by assumption) ?_
                  rotate_left
                  · intro w hSw; (try dsimp only at hSw); go_simp; (first | done | (with_reducible rfl))
                  try simp only [Act.put, List.getElem_toArray, List.getElem_cons_succ, List.getElem_cons_zero, List.setIfInBounds_toArray, List.set_cons_zero, List.set_cons_succ]
                  refine wpAnyH_done (by kernel_rfl) ?_ _
                  go_wp2_with fail
                  go_meet
                  exact ⟨⟨ru4.a, u3.n + 1, ru4.c⟩, rfl, by show u3.n + 1 ≤ 200; omega, Lib.hid ⟨own_rd (rS4.out.at_ 0 rfl), fun p hp => ((List.mem_append.1 hp).elim (fun h => HBRa.out.el p h) (fun h => by rw [List.mem_singleton] at h; subst h; exact HBQ.out)).up rS4.out.bl⟩, Lib.hid rS4.out.bl⟩
              · go_simp
                obtain ⟨rv1, hrv1⟩ : ∃ v, v = rv0.alloc (.cells #[.slice q.1.lo.a q.1.lo.n q.1.lo.c, .slice q.1.hi.a q.1.hi.n q.1.hi.c, .bool q.1.holds] 44) := ⟨_, rfl⟩
                have rT1 : St wa rv1 ([] ++ (⟨44, 3, ⟨some ⟨rv0.heap.size, 0, none⟩, 1, 1⟩, [.slice q.1.lo.a q.1.lo.n q.1.lo.c, .slice q.1.hi.a q.1.hi.n q.1.hi.c, .bool q.1.holds]⟩ : Row) :: []) := by rw [hrv1]; exact St.lit (A := []) (B := []) rS0.out 44 3 1 [.slice q.1.lo.a q.1.lo.n q.1.lo.c, .slice q.1.hi.a q.1.hi.n q.1.hi.c, .bool q.1.holds] rfl (by decide)
                try rw [← hrv1]
                clear hrv1
                have rS1 := Lib.hid (rT1)
                have rc1_0 := (rS1.out.bl.cell (p := ⟨lb, lf, none⟩) hlb).trans X0.out
                have rc1_1 := (rS1.out.bl.cell (p := ⟨lb, lf + 1, none⟩) hlb).trans X1.out
                have rc1_2 := (rS1.out.bl.cell (p := ⟨lb, lf + 2, none⟩) hlb).trans X2.out
                have rb1 := rS1.out.bl.size
                clear rT1
                refine hK.out _ _ ?_ (fun hHeld => ?_)
                · simp [go_sem, *]
                clear hK K
                try simp only [Act.put, List.getElem_toArray, List.getElem_cons_succ, List.getElem_cons_zero, List.setIfInBounds_toArray, List.set_cons_zero, List.set_cons_succ]
                refine wpAnyH_ready (rs := [0]) (by kernel_rfl) (by simp) ?_
                refine AllReadyH.cons rfl (fun K hK => ?_) AllReadyH.nil
                go_simp
                obtain ⟨rv2, hrv2⟩ : ∃ v, v = rv1.alloc (.cells #[] 44) := ⟨_, rfl⟩
                have rT2 : St wa rv2 ([] ++ (⟨44, 3, ⟨some ⟨rv1.heap.size, 0, none⟩, 0, 0⟩, []⟩ : Row) :: [(⟨44, 3, ⟨some ⟨rv0.heap.size, 0, none⟩, 1, 1⟩, [.slice q.1.lo.a q.1.lo.n q.1.lo.c, .slice q.1.hi.a q.1.hi.n q.1.hi.c, .bool q.1.holds]⟩ : Row)]) := by rw [hrv2]; exact St.lit (A := []) (B := [(⟨44, 3, ⟨some ⟨rv0.heap.size, 0, none⟩, 1, 1⟩, [.slice q.1.lo.a q.1.lo.n q.1.lo.c, .slice q.1.hi.a q.1.hi.n q.1.hi.c, .bool q.1.holds]⟩ : Row)]) rS1.out 44 3 0 [] rfl (by decide)
                try rw [← hrv2]
                clear hrv2
                have rS2 := Lib.hid (rT2)
                have rc2_0 := (rS2.out.bl.cell (p := ⟨lb, lf, none⟩) hlb).trans X0.out
                have rc2_1 := (rS2.out.bl.cell (p := ⟨lb, lf + 1, none⟩) hlb).trans X1.out
                have rc2_2 := (rS2.out.bl.cell (p := ⟨lb, lf + 2, none⟩) hlb).trans X2.out
                have rb2 := rS2.out.bl.size
                clear rT2
                refine hK.out _ _ ?_ (fun hHeld => ?_)
                · simp [go_sem, *]
                clear hK K
                try simp only [Act.put, List.getElem_toArray, List.getElem_cons_succ, List.getElem_cons_zero, List.setIfInBounds_toArray, List.set_cons_zero, List.set_cons_succ]
                refine wpAnyH_ready (rs := [2]) (by kernel_rfl) (by simp) ?_
                refine AllReadyH.cons rfl (fun K hK => ?_) AllReadyH.nil
                have rO3 : rv2.ownsRow wa.heap.size 44 3 (.slice (some ⟨rv1.heap.size, 0, none⟩) 0 0) 0 ([]) := rS2.out.at_ 0 rfl
                refine step_append_rd rfl (.tmp 68) (.tmp 69) 26 rfl wa.heap.size 44 i4 _ 3 56 Try.underlying26 hi4 hz40 hz41 hz42 rfl (by decide) ((some ⟨rv1.heap.size, 0, none⟩)) (0) (0) ([]) (by simp [Act.eval, Act.put]) rO3 rv2.heap.size (u3.a) (u3.n) (u3.c) (cellsB bm) (by simp [Act.eval, Act.put]) ((HBRa.out.up rS2.out.bl).rd) (flat_one' _) (by omega) (by omega) rS2.out.bl.size ?_
                intro ru3 rv3 ro3 rg3 rn3
                have rT3 : St wa rv3 ([] ++ (⟨44, 3, ⟨ru3.a, u3.n, ru3.c⟩, cellsB bm⟩ : Row) :: [(⟨44, 3, ⟨some ⟨rv0.heap.size, 0, none⟩, 1, 1⟩, [.slice q.1.lo.a q.1.lo.n q.1.lo.c, .slice q.1.hi.a q.1.hi.n q.1.hi.c, .bool q.1.holds]⟩ : Row)]) := St.app (A := []) (B := [(⟨44, 3, ⟨some ⟨rv0.heap.size, 0, none⟩, 1, 1⟩, [.slice q.1.lo.a q.1.lo.n q.1.lo.c, .slice q.1.hi.a q.1.hi.n q.1.hi.c, .bool q.1.holds]⟩ : Row)]) rS2.out rg3 (by have h := ro3; simp only [Nat.zero_add, List.nil_append] at h; exact h) (by have h := rn3; simp only [Nat.zero_add] at h; exact h)
                have rS3 := Lib.hid (rT3)
                have rc3_0 := (rS3.out.bl.cell (p := ⟨lb, lf, none⟩) hlb).trans X0.out
                have rc3_1 := (rS3.out.bl.cell (p := ⟨lb, lf + 1, none⟩) hlb).trans X1.out
                have rc3_2 := (rS3.out.bl.cell (p := ⟨lb, lf + 2, none⟩) hlb).trans X2.out
                have rb3 := rS3.out.bl.size
                clear rT3 rO3 ro3 rg3 rn3
                refine hK.out _ _ ?_ (fun hHeld => ?_)
                · simp [go_sem, *]
                clear hK K
                try simp only [Act.put, List.getElem_toArray, List.getElem_cons_succ, List.getElem_cons_zero, List.setIfInBounds_toArray, List.set_cons_zero, List.set_cons_succ]
                refine wpAnyH_ready (rs := [8]) (by kernel_rfl) (by simp) ?_
                refine AllReadyH.cons rfl (fun K hK => ?_) AllReadyH.nil
                have rO4 : rv3.ownsRow wa.heap.size 44 3 (.slice ru3.a u3.n ru3.c) u3.n (cellsB bm) := rS3.out.at_ 0 rfl
                refine step_append_rd rfl (.tmp 70) (.tmp 75) 26 rfl wa.heap.size 44 i4 _ 3 56 Try.underlying26 hi4 hz40 hz41 hz42 rfl (by decide) (ru3.a) (u3.n) (ru3.c) (cellsB bm) (by simp [Act.eval, Act.put]) rO4 rv3.heap.size ((some ⟨rv0.heap.size, 0, none⟩)) (1) (1) (cellsB [q]) (by simp [Act.eval, Act.put]) (own_rd (rS3.out.at_ 1 rfl)) (flat_one' _) (by omega) (by omega) rS3.out.bl.size ?_
                intro ru4 rv4 ro4 rg4 rn4
                have rT4 : St wa rv4 ([] ++ (⟨44, 3, ⟨ru4.a, u3.n + 1, ru4.c⟩, cellsB (bm ++ [q])⟩ : Row) :: [(⟨44, 3, ⟨some ⟨rv0.heap.size, 0, none⟩, 1, 1⟩, [.slice q.1.lo.a q.1.lo.n q.1.lo.c, .slice q.1.hi.a q.1.hi.n q.1.hi.c, .bool q.1.holds]⟩ : Row)]) := St.app (A := []) (B := [(⟨44, 3, ⟨some ⟨rv0.heap.size, 0, none⟩, 1, 1⟩, [.slice q.1.lo.a q.1.lo.n q.1.lo.c, .slice q.1.hi.a q.1.hi.n q.1.hi.c, .bool q.1.holds]⟩ : Row)]) rS3.out rg4 (by have h := ro4; rw [← cellsB_append] at h; exact h) (by have h := rn4; skip; exact h)
                have rS4 := Lib.hid (rT4)
                have rc4_0 := (rS4.out.bl.cell (p := ⟨lb, lf, none⟩) hlb).trans X0.out
                have rc4_1 := (rS4.out.bl.cell (p := ⟨lb, lf + 1, none⟩) hlb).trans X1.out
                have rc4_2 := (rS4.out.bl.cell (p := ⟨lb, lf + 2, none⟩) hlb).trans X2.out
                have rb4 := rS4.out.bl.size
                clear rT4 rO4 ro4 rg4 rn4
                refine hK.out _ _ ?_ (fun hHeld => ?_)
                · simp [go_sem, *]
                clear hK K
                try simp only [Act.put, List.getElem_toArray, List.getElem_cons_succ, List.getElem_cons_zero, List.setIfInBounds_toArray, List.set_cons_zero, List.set_cons_succ]
                refine wpAnyH_take (i := 9) (v := ?_) rfl (by kernel_rfl) (by kernel_rfl) (by kernel_rfl) (fun _ _ _ h => h) (Or.inl ⟨by rfl, ?_⟩) (by assumption) ?_
                rotate_left
                · intro w hSw; (try dsimp only at hSw); go_simp; (first | done | (with_reducible rfl))
                try simp only [Act.put, List.getElem_toArray, List.getElem_cons_succ, List.getElem_cons_zero, List.setIfInBounds_toArray, List.set_cons_zero, List.set_cons_succ]
                refine wpAnyH_done (by kernel_rfl) ?_ _
                go_wp2_with fail
                go_meet
                exact ⟨⟨ru4.a, u3.n + 1, ru4.c⟩, rfl, by show u3.n + 1 ≤ 200; omega, Lib.hid ⟨own_rd (rS4.out.at_ 0 rfl), fun p hp => ((List.mem_append.1 hp).elim (fun h => HBRa.out.el p h) (fun h => by rw [List.mem_singleton] at h; subst h; exact HBQ.out)).up rS4.out.bl⟩, Lib.hid rS4.out.bl⟩
            case rest =>
              obtain ⟨u7, rfl, hu7, HTW, HB7⟩ := hcut
              obtain ⟨wb, rfl⟩ : ∃ W, W = wc := ⟨wc, rfl⟩
              have HLSb := Lib.hid (HLS.out.up HB7.out)
              have HBB := Lib.hid (Below.call HB3.out (Below.call HB6.out HB7.out))
              have l1 : q.1.lo.n = n := by have h1 := LAW.out.1; have h2 := HBQ.out.lo.1; rw [List.length_map] at h2; have := HL.out; omega
              have l2 : q.1.hi.n = n := by have h1 := LAW.out.2.1; have h2 := HBQ.out.hi.1; rw [List.length_map] at h2; have := HL.out; omega
              have t3 : ((q.1.lo.n : Int) != (n : Int)) = false := by rw [l1]; simp
              have t4 : ((q.1.hi.n : Int) != (n : Int)) = false := by rw [l2]; simp
              have L1 := Lib.hid l1
              have L2 := Lib.hid l2
              have y0 := (HB7.out.cell (p := ⟨lb, lf, none⟩) hlb).trans x0
              have y1 := (HB7.out.cell (p := ⟨lb, lf + 1, none⟩) hlb).trans x1
              have y2 := (HB7.out.cell (p := ⟨lb, lf + 2, none⟩) hlb).trans x2
              have hlb2 : lb < wb.heap.size := by have := HB7.out.size; omega
              have HBQb := Lib.hid (HBQ.out.up HB7.out)
              have hlen : bm.length ≤ 100 := by rw [HN.out]; exact hN
              have CA := Lib.hid (HLSb.out.check A D n m c d lo hi (HX.out.up HBB.out) (HY.out.up HBB.out) (by rw [List.length_append, List.length_take, List.length_drop]; omega) false (by rw [List.map_append, List.map_take, List.map_drop]; exact LAW.out.2.2.2.1))
              have CB := Lib.hid (fun (X : World) (hX : Below wb.heap.size wb X) => (HTW.out.up hX).check A D n m c d lo hi ((HX.out.up HBB.out).up hX) ((HY.out.up HBB.out).up hX) (by rw [List.length_append, List.length_singleton]; omega) false (by rw [List.map_append]; exact LAW.out.2.2.2.2.1))
              clear l1 l2 x0 x1 x2 X0 X1 X2 HB3 HB6 HLS HBRa HBQ
              go_wp2_with fail
              (with_reducible refine CA.out.mono ?_)
              rintro e w8 ⟨rfl, h8⟩
              have H8 := Lib.hid h8
              clear h8 CA
              go_wp2_with fail
              (with_reducible refine (CB.out _ H8.out).mono ?_)
              rintro e w9 ⟨rfl, h9⟩
              have H9 := Lib.hid (Below.call H8.out h9)
              have v0 := (H9.out.cell (p := ⟨lb, lf, none⟩) hlb2).trans y0
              have v1' := (H9.out.cell (p := ⟨lb, lf + 1, none⟩) hlb2).trans y1
              have v2' := (H9.out.cell (p := ⟨lb, lf + 2, none⟩) hlb2).trans y2
              have hlb3 : lb < w9.heap.size := by have := H9.out.size; omega
              clear h9 CB H8 y0 y1 y2 HTW hu7
              go_upto_region 14 with (fail)
              have BX0 : Hid (BoxAt (w9.alloc (.cells #[.slice q.1.lo.a q.1.lo.n q.1.lo.c, .slice q.1.hi.a q.1.hi.n q.1.hi.c, .bool q.1.holds] 44)) w9.heap.size (bxL q.1)) := Lib.hid (BoxAt.new w9 44 (bxL q.1) _ rfl)
              have HBw : Hid (Below wb.heap.size wb (w9.alloc (.cells #[.slice q.1.lo.a q.1.lo.n q.1.lo.c, .slice q.1.hi.a q.1.hi.n q.1.hi.c, .bool q.1.holds] 44))) := Lib.hid (H9.out.alloc H9.out.size _)
              obtain ⟨B, hB⟩ : ∃ B, B = w9.heap.size := ⟨_, rfl⟩
              rw [← hB] at BX0 ⊢
              generalize w9.alloc (.cells #[.slice q.1.lo.a q.1.lo.n q.1.lo.c, .slice q.1.hi.a q.1.hi.n q.1.hi.c, .bool q.1.holds] 44) = wx at BX0 HBw ⊢
              clear hB H9 v0 v1' v2' hlb3
              have hil1 : i < q.1.lo.n := by rw [L1.out]; exact hil
              have hil2 : i < q.1.hi.n := by rw [L2.out]; exact hil
              obtain ⟨pb1, po1, x, ex, ix1, cx, hpb1, _⟩ := rd_int HBQb.out.lo q.1.lo.c hil1
              obtain ⟨pb2, po2, y, ey, ix2, cy, hpb2, _⟩ := rd_int HBQb.out.hi q.1.hi.c hil2
              have hmm : m = n := by have h1 := (Bx.sub_self' HV.out).2.1; have := HL.out; have := HM.out; omega
              obtain ⟨zb, zo, z, ez, iz, cz, hzb, _⟩ := rd_int (HY.out.up HBB.out) d (by rw [hmm]; exact hil)
              have HEX := Lib.hid ex
              have HEY := Lib.hid ey
              have HEZ := Lib.hid ez
              have HMM := Lib.hid hmm
              have CX := Lib.hid cx
              have CY := Lib.hid cy
              have CZ := Lib.hid cz
              have HLSX := Lib.hid (HLSb.out.up HBw.out)
              have HBQX := Lib.hid (HBQb.out.up HBw.out)
              have hXb : B < wx.heap.size := BX0.out.1
              have hwx := HBw.out.size
              have BXc := BX0.out.2.1
              have q0 : wx.cell? ⟨B, 0, none⟩ = some (.slice q.1.lo.a q.1.lo.n q.1.lo.c) := BXc 0 _ rfl
              have q1 : wx.cell? ⟨B, 1, none⟩ = some (.slice q.1.hi.a q.1.hi.n q.1.hi.c) := BXc 1 _ rfl
              have q2 : wx.cell? ⟨pb2, po2, none⟩ = some (.int .i64 y) := (HBw.out.cell (p := ⟨pb2, po2, none⟩) hpb2).trans cy
              have q3 : wx.cell? ⟨zb, zo, none⟩ = some (.int .i64 z) := (HBw.out.cell (p := ⟨zb, zo, none⟩) hzb).trans cz
              have q4 : wx.cell? ⟨pb1, po1, none⟩ = some (.int .i64 x) := (HBw.out.cell (p := ⟨pb1, po1, none⟩) hpb1).trans cx
              have HQ0 := Lib.hid q0
              have HQ1 := Lib.hid q1
              have HQ2 := Lib.hid q2
              have HQ4 := Lib.hid q4
              have hpx2 : pb2 < wx.heap.size := by omega
              have hpx1 : pb1 < wx.heap.size := by omega
              have hbx : -1000000 ≤ x ∧ x ≤ 1000000 ∧ -1000000 ≤ y ∧ y ≤ 1000000 := by
                obtain ⟨d1, d2⟩ := LAW.out.2.2.1.dom (Bx.sub_self' HV.out).2.1 HP4.out HP5.out
                have a1 := d1 x (List.mem_of_getElem? ex)
                have a2 := d2 y (List.mem_of_getElem? ey)
                omega
              obtain ⟨hx1, hx2, hy1, hy2⟩ := hbx
              clear ex ey ez hmm cx cy cz BXc BX0
              go_quiet (fail)
              go_upto_if 122 with (fail)
              go_cut [] (fun X => Hid (Below wx.heap.size wx X))
              case first =>
                generalize hwd : wx.drewN _ = wd
                have HD : Hid (Below wx.heap.size wx wd) := Lib.hid (by rw [← hwd]; exact below_drewN (Below.refl _ _) _)
                clear hwd q0 q1 q2 q3 q4
                by_cases gy : y < z
                · have t5 : decide (y < z) = true := by simpa using gy
                  go_upto_region 15 with (fail)
                  have GY := Lib.hid gy
                  clear gy
                  have hxd : B < wd.heap.size := by have := HD.out.size; omega
                  have hpd2 : pb2 < wd.heap.size := by have := HD.out.size; omega
                  have e0 := (HD.out.cell (p := ⟨B, 0, none⟩) hXb).trans HQ0.out
                  have e1 := (HD.out.cell (p := ⟨B, 1, none⟩) hXb).trans HQ1.out
                  have e2 := (HD.out.cell (p := ⟨pb2, po2, none⟩) hpx2).trans HQ2.out
                  have E0 := Lib.hid e0
                  have E1 := Lib.hid e1
                  have E2 := Lib.hid e2
                  have hyw : IntKind.i64.wrap (y + 1) = y + 1 := by rw [IntWalk.i64_left, IntWalk.wrap64_in _ (by omega)]
                  have HLSD := Lib.hid (HLSX.out.up HD.out)
                  have HBQD := Lib.hid (HBQX.out.up HD.out)
                  have CW1 := Lib.hid (fun (X : World) (hX : Below wd.heap.size wd X) => with25 q.2.2 q.1.hi.a q.1.hi.n q.1.hi.c i (y + 1) X (HBQD.out.hi.up hX) (by rw [L2.out]; omega) hil2)
                  go_cut [19] (fun s19 X => ∃ u9 : Sl, s19 = .slice u9.a u9.n u9.c ∧ u9.n ≤ 300 ∧ Hid (∃ qw : BxM, qw.2 = (q.2.1, q.2.2.set i (y + 1)) ∧ BRow X u9 (bm.take k ++ bm.drop (k + 1) ++ [qw])) ∧ Hid (Below wd.heap.size wd X))
                  case first =>
                    refine edits_r15 wd B pb2 po2 k i u6 bm q y hu6 hxd hpd2 E0 E1 E2 ix2 hyw HLSD HBQD CW1 _ ?_ _ _ _ _ _ _ _ _ _ _ _ _ _ _ _ _ _ _ _ _ _ _ _ _ _ _ _ _ _ _ _ _ _ _ _ _ _ _ _ _ _ _ _ _ _ _ _ _ _ _ _ _ _ _ _ _ _ _ _ _ _ _ _ _ _ _ _ _ _ _ _ _ _ _ _ _ _ _ _ _ _ _ _ _ _ _ _ _ _ _ _ _ _ _ _ _ _ _ _ _ _ _ _ _ _ _ _ _ _ _ _ _ _ _ _ _ _ _ _ _ _ _ _ _ _ _ _ _ _ _ _ _ _ _ _ _ _ _ _ _ _ _ _ _ _ _ _ _ _ _ _ _ _ _ _ _ _ _ _ _ _ _ _ _ _ _ _ _ _ _ _ _ _ _ _ _ _ _ _ _ _ _ _ _ _ _ _ _ _ _ _ (Lib.hid ?_)
                    · first | exact then_panic body_panic | exact then_panic (then_panic body_panic) | exact body_panic
                    intro d123 d124 d125 d126 d127 d128 d129 d130 d131 d132 d133 d134 d135 d136 d137 d138 d139 d140 X u9 hu9 hr9 hb9
                    dsimp only
                    go_wp2_with fail
                    go_meet
                    exact ⟨u9, rfl, hu9, hr9, hb9⟩
                  case rest =>
                    obtain ⟨u9, rfl, hu9, HWD, HB9⟩ := hcut
                    obtain ⟨qw, hqw, hwd⟩ := HWD.out
                    have HBC := Lib.hid (Below.call HBB.out (Below.call HBw.out (Below.call HD.out HB9.out)))
                    have CC := Lib.hid (hwd.check A D n m c d lo hi (HX.out.up HBC.out) (HY.out.up HBC.out) (by rw [List.length_append, List.length_append, List.length_take, List.length_drop, List.length_singleton]; omega) false (by
                      have h := LAW.out.2.2.2.2.2.1 i y z HEY.out HEZ.out GY.out
                      rw [List.map_append, List.map_append, List.map_take, List.map_drop, List.map_cons, List.map_nil, hqw]
                      exact h))
                    clear hqw hwd e0 e1 e2 E0 E1 E2 CW1
                    go_wp2_with fail
                    (with_reducible refine CC.out.mono ?_)
                    rintro e wy ⟨rfl, hy9⟩
                    have HBY := Lib.hid (Below.call HD.out (Below.call HB9.out hy9))
                    clear hy9 CC
                    go_wp2_with fail
                    go_meet
                    exact HBY
                · have t5 : decide (y < z) = false := by simpa using gy
                  go_wp2_with fail
                  go_meet
                  exact HD
              case rest =>
                clear q0 q1 q2 q3 q4
                have HD := hcut
                clear hcut
                obtain ⟨wd, rfl⟩ : ∃ W, W = wc := ⟨wc, rfl⟩
                have hxd : B < wd.heap.size := by have := HD.out.size; omega
                have hpd2 : pb2 < wd.heap.size := by have := HD.out.size; omega
                have hpd1 : pb1 < wd.heap.size := by have := HD.out.size; omega
                have e0 := (HD.out.cell (p := ⟨B, 0, none⟩) hXb).trans HQ0.out
                have e1 := (HD.out.cell (p := ⟨B, 1, none⟩) hXb).trans HQ1.out
                have e2 := (HD.out.cell (p := ⟨pb2, po2, none⟩) hpx2).trans HQ2.out
                have e3 := (HD.out.cell (p := ⟨pb1, po1, none⟩) hpx1).trans HQ4.out
                have E0 := Lib.hid e0
                have E1 := Lib.hid e1
                have E3 := Lib.hid e3
                have HLSD := Lib.hid (HLSX.out.up HD.out)
                have HBQD := Lib.hid (HBQX.out.up HD.out)
                by_cases gx : x = y
                · have t6 : (x == y) = true := by simpa using gx
                  clear gx
                  go_upto_region 18 with (fail)
                  go_quiet (fail)
                  go_wp2_with fail
                  go_ret
                  exact ⟨rfl, below_drewN (Below.call HBB.out (Below.call HBw.out HD.out)) _⟩
                · have t6 : (x == y) = false := by simpa using gx
                  go_upto_region 18 with (fail)
                  have GX := Lib.hid gx
                  clear gx
                  go_quiet (fail)
                  go_upto_region 20 with (fail)
                  generalize hwf : wd.drewN _ = wf
                  have HF : Hid (Below wd.heap.size wd wf) := Lib.hid (by rw [← hwf]; exact below_drewN (Below.refl _ _) _)
                  have f0 := (HF.out.cell (p := ⟨B, 0, none⟩) hxd).trans e0
                  have f1 := (HF.out.cell (p := ⟨B, 1, none⟩) hxd).trans e1
                  have f3 := (HF.out.cell (p := ⟨pb1, po1, none⟩) hpd1).trans e3
                  have F0 := Lib.hid f0
                  have F1 := Lib.hid f1
                  have F3 := Lib.hid f3
                  have hxf : B < wf.heap.size := by have := HF.out.size; omega
                  have hpf1 : pb1 < wf.heap.size := by have := HF.out.size; omega
                  have hxw : IntKind.i64.wrap (x + 1) = x + 1 := by rw [IntWalk.i64_left, IntWalk.wrap64_in _ (by omega)]
                  have HLSF := Lib.hid (HLSD.out.up HF.out)
                  have HBQF := Lib.hid (HBQD.out.up HF.out)
                  have CW1 := Lib.hid (fun (X : World) (hX : Below wf.heap.size wf X) => with25 q.2.2 q.1.hi.a q.1.hi.n q.1.hi.c i x X (HBQF.out.hi.up hX) (by rw [L2.out]; omega) hil2)
                  have CW2 := Lib.hid (fun (X : World) (hX : Below wf.heap.size wf X) => with25 q.2.1 q.1.lo.a q.1.lo.n q.1.lo.c i (x + 1) X (HBQF.out.lo.up hX) (by rw [L1.out]; omega) hil1)
                  clear hwf e0 e1 e2 e3
                  go_cut [20] (fun s20 X => ∃ u9 : Sl, s20 = .slice u9.a u9.n u9.c ∧ u9.n ≤ 300 ∧ Hid (∃ qv qw : BxM, qv.2 = (q.2.1, q.2.2.set i x) ∧ qw.2 = (q.2.1.set i (x + 1), q.2.2) ∧ BRow X u9 (bm.take k ++ bm.drop (k + 1) ++ [qv, qw])) ∧ Hid (Below wf.heap.size wf X))
                  case first =>
                    refine edits_r20 wf B pb1 po1 k i u6 bm q x hu6 hxf hpf1 F0 F1 F3 ix1 hxw HLSF HBQF CW1 CW2 _ ?_ _ _ _ _ _ _ _ _ _ _ _ _ _ _ _ _ _ _ _ _ _ _ _ _ _ _ _ _ _ _ _ _ _ _ _ _ _ _ _ _ _ _ _ _ _ _ _ _ _ _ _ _ _ _ _ _ _ _ _ _ _ _ _ _ _ _ _ _ _ _ _ _ _ _ _ _ _ _ _ _ _ _ _ _ _ _ _ _ _ _ _ _ _ _ _ _ _ _ _ _ _ _ _ _ _ _ _ _ _ _ _ _ _ _ _ _ _ _ _ _ _ _ _ _ _ _ _ _ _ _ _ _ _ _ _ _ _ _ _ _ _ _ _ _ _ _ _ _ _ _ _ _ _ _ _ _ _ _ _ _ _ _ _ _ _ _ _ _ _ _ _ _ _ _ _ _ _ _ _ _ _ _ _ _ _ _ _ _ _ _ _ (Lib.hid ?_)
                    · first | exact then_panic body_panic | exact then_panic (then_panic body_panic) | exact body_panic
                    intro d157 d158 d159 d160 d161 d162 d163 d164 d165 d166 d167 d168 d169 d170 d171 d172 d173 d174 d175 d176 d177 d178 d179 d180 d181 d182 d183 d184 d185 d186 X u9 hu9 hr9 hb9
                    dsimp only
                    go_wp2_with fail
                    go_meet
                    exact ⟨u9, rfl, hu9, hr9, hb9⟩
                  case rest =>
                    obtain ⟨u9, rfl, hu9, HWD, HB9⟩ := hcut
                    obtain ⟨qv, qw, hqv, hqw, hwd⟩ := HWD.out
                    have HBC := Lib.hid (Below.call HBB.out (Below.call HBw.out (Below.call HD.out (Below.call HF.out HB9.out))))
                    have CC := Lib.hid (hwd.check A D n m c d lo hi (HX.out.up HBC.out) (HY.out.up HBC.out) (by rw [List.length_append, List.length_append, List.length_take, List.length_drop]; simp; omega) true (by
                      have h := LAW.out.2.2.2.2.2.2 i x y HEX.out HEY.out GX.out
                      rw [List.map_append, List.map_append, List.map_take, List.map_drop, List.map_cons, List.map_cons, List.map_nil, hqv, hqw]
                      exact h))
                    clear hqv hqw hwd f0 f1 f3 F0 F1 F3 CW1 CW2
                    go_wp2_with fail
                    (with_reducible refine CC.out.mono ?_)
                    rintro e wy ⟨rfl, hy9⟩
                    have HBY := Lib.hid (Below.call HBC.out hy9)
                    clear hy9 CC
                    go_wp2_with fail
                    go_ret
                    exact ⟨rfl, HBY.out⟩
end Go.Proofs.Ytcncobhdfflelaa
