/- The contract of the law's verdict by spans. -/
import Derived.Test.YtcncobhdfflelaaNa
import Derived.Test.YtcncobhdfflelaaSo
namespace Go.Proofs.Ytcncobhdfflelaa
open Go.RowKit

namespace Sp
theorem product_in {k x : Int} (hk : -1000 ≤ k ∧ k ≤ 1000) (hx : -1000000 ≤ x ∧ x ≤ 1000000) : product k x = k * x := by
  have p := prod_bound hk hx
  have e : mulOk k x = true := by
    simp [mulOk, inR]
    omega
  unfold product
  rw [if_pos e]
theorem mul_pt {k a b : Int} (hk : -1000 ≤ k ∧ k ≤ 1000) (ha : -1000000 ≤ a ∧ a ≤ 1000000) (hb : -1000000 ≤ b ∧ b ≤ 1000000) (hab : a ≤ b) : mul k k a b = ⟨min (k * a) (k * b), max (k * a) (k * b), 0⟩ := by
  have pa := prod_bound hk ha
  have pb := prod_bound hk hb
  have r1 : right k k = true := by simp [right]; omega
  have r2 : right a b = true := by simp [right]; omega
  unfold mul
  rw [r1, r2, product_in hk ha, product_in hk hb]
  generalize k * a = x at pa ⊢
  generalize k * b = y at pb ⊢
  simp only [Bool.and_self, if_true, hullLo, hullHi, mn, mx]
  by_cases h : x < y
  · simp only [h, show ¬ y < x by omega, show ¬ x < x by omega, show ¬ y < y by omega, if_true, if_false]
    rw [fit, if_neg (by omega), if_neg (by omega), show min x y = x by omega, show max x y = y by omega]
  · by_cases h2 : y < x
    · simp only [h, h2, show ¬ x < x by omega, show ¬ y < y by omega, if_true, if_false]
      rw [fit, if_neg (by omega), if_neg (by omega), show min x y = y by omega, show max x y = x by omega]
    · have e : x = y := by omega
      subst e
      simp only [show ¬ x < x by omega, if_false]
      rw [fit, if_neg (by omega), if_neg (by omega), show min x x = x by omega, show max x x = x by omega]
theorem add_in {a b x y : Int} (h1 : -1000000000000000 ≤ a) (h2 : a ≤ b) (h3 : b ≤ 1000000000000000) (k1 : -1000000000000000 ≤ x) (k2 : x ≤ y) (k3 : y ≤ 1000000000000000) : add a b x y = ⟨a + x, b + y, 0⟩ := by
  have r1 : right a b = true := by simp [right]; omega
  have r2 : right x y = true := by simp [right]; omega
  unfold add
  rw [r1, r2]
  simp only [Bool.and_self, if_true, hullLo, hullHi, mn, mx]
  by_cases h : a + x < b + y
  · simp only [h, show ¬ b + y < a + x by omega, if_true, if_false]
    rw [fit, if_neg (by omega), if_neg (by omega)]
  · have e : b + y = a + x := by omega
    rw [e]
    simp only [show ¬ a + x < a + x by omega, if_false]
    rw [fit, if_neg (by omega), if_neg (by omega)]
end Sp
theorem box_two {w : World} {X : Nat} {a b : Value} (x y : Value) (h : BoxAt w X [a, b]) : BoxAt ((w.setCell ⟨X, 0, none⟩ x).setCell ⟨X, 1, none⟩ y) X [x, y] := (h.set 0 x (by simp)).set 1 y (by simp)

set_option linter.unusedSimpArgs false in
set_option linter.unusedVariables false in
set_option maxRecDepth 100000 in
set_option maxHeartbeats 6400000 in
theorem verdict29 (u : Sl) (cs : List (List Int × Int)) (A B : Option Addr) (n c d : Nat) (lo hi : List Int) (w : World) (hu : LnsAt w u cs) (hx : Rd w w.heap.size 1 A n (lo.map (Value.int .i64))) (hy : Rd w w.heap.size 1 B n (hi.map (Value.int .i64)))
    (hn : n ≤ 1000) (hun : u.n ≤ 1000000) (h1 : Bx.Dom lo) (h2 : Bx.Dom hi) (hle : ∀ (i : Nat) (x y : Int), lo[i]? = some x → hi[i]? = some y → x ≤ y) :
    Calls Try.prog 29 #[.slice u.a u.n u.c, .slice A n c, .slice B n d] w fun x w' => x = .returned (.int .i64 (Bx.verd lo hi cs 1)) ∧ Below w.heap.size w w' := by
  obtain ⟨qs, hq1, hq2, hq3⟩ := hu.ex
  have HU := Lib.hid hq1
  have HX := Lib.hid hx
  have HY := Lib.hid hy
  have HQ := Lib.hid hq2
  have HLO := Lib.hid (show lo.length = n by simpa using hx.1)
  have HHI := Lib.hid (show hi.length = n by simpa using hy.1)
  have HL := Lib.hid (show qs.length = u.n by have := hq1.len (fun _ => rfl) (by omega); simpa using this)
  have HQ3 := Lib.hid hq3
  have H1 := Lib.hid h1
  have H2 := Lib.hid h2
  have HLE := Lib.hid hle
  clear hu hx hy hq1 hq2 hq3 h1 h2 hle
  go_enter Try.func29, Try.ntmps29
  go_wp2_with fail
  go_loopw [7, 8] (fun r i W => ∃ (k : Nat) (v : Int), k ≤ u.n ∧ i = .int .i64 k ∧ r = .int .i64 v ∧ Hid (Bx.verd lo hi (cs.drop k) v = Bx.verd lo hi cs 1) ∧ Hid (Below w.heap.size w W)) (fun _ i _ => u.n - (intOf i).toNat)
  case atStart => exact ⟨0, 1, Nat.zero_le _, rfl, rfl, Lib.hid rfl, Lib.hid (Below.refl _ _)⟩
  case round =>
    obtain ⟨k, v, hk, rfl, rfl, HK, HB⟩ := hrel
    obtain ⟨wa, rfl⟩ : ∃ W, W = wr := ⟨wr, rfl⟩
    by_cases hlt : k < u.n
    · obtain ⟨b, off, e, hA, hb, hek, hc⟩ := HU.out.at_ (fun _ => rfl) (by omega) hlt
      have hkl : k < qs.length := by rw [HL.out]; exact hlt
      obtain ⟨q, hq⟩ : ∃ q, qs[k]? = some q := ⟨_, List.getElem?_eq_getElem hkl⟩
      have eq1 : q.1 = e := by rw [List.getElem?_map, hq] at hek; simpa using hek
      subst eq1
      have hix : ∀ W : World, Sem.run Try.prog (Instr.indexAt 23 (.slice u.a u.n u.c) (.int .i64 (k : Int))) W = .ok (.pointer (some ⟨b, off + k * 2, none⟩)) W := by intro W; rw [hA]; go_simp
      have hck : cs.drop k = (q.2, q.1.bd) :: cs.drop (k + 1) := by
        have h1 : cs[k]? = some (q.2, q.1.bd) := by rw [← HQ3.out, List.getElem?_map, hq]; rfl
        obtain ⟨h2, h3⟩ := List.getElem?_eq_some_iff.1 h1
        rw [List.drop_eq_getElem_cons h2, h3]
      have HC := Lib.hid hc
      have HZ : Hid (Bx.verd lo hi cs 1 = if q.1.bd < (Bx.bounds lo hi q.2 (0, 0)).1 then 0 else Bx.verd lo hi (cs.drop (k + 1)) (if q.1.bd < (Bx.bounds lo hi q.2 (0, 0)).2 then -1 else v)) := Lib.hid (by rw [← HK.out, hck, Bx.verd])
      have HQK := Lib.hid (HQ.out q (List.mem_of_getElem? hq))
      have HCL := Lib.hid (show q.2.length = q.1.cf.n by have := HQK.out.1.1; simpa using this)
      clear hA hek hc hck hq
      have y0 : wa.cell? ⟨b, off + k * 2, none⟩ = some (.slice q.1.cf.a q.1.cf.n q.1.cf.c) := (HB.out.cell (p := ⟨b, off + k * 2, none⟩) hb).trans (HC.out 0 _ rfl)
      obtain ⟨o, ho⟩ : ∃ o, o = off + k * 2 := ⟨_, rfl⟩
      rw [← ho] at hix
      have HC0 : Hid (w.cell? ⟨b, o, none⟩ = some (.slice q.1.cf.a q.1.cf.n q.1.cf.c)) := Lib.hid (by rw [ho]; exact HC.out 0 _ rfl)
      have HC1 : Hid (w.cell? ⟨b, o + 1, none⟩ = some (.int .i64 q.1.bd)) := Lib.hid (by rw [ho]; exact HC.out 1 _ rfl)
      clear y0 HC ho
      have hwa := HB.out.size
      go_wp2_with fail
      have BX0 : Hid (BoxAt (wa.alloc (.cells #[.int .i64 0, .int .i64 0] 70)) wa.heap.size [.int .i64 0, .int .i64 0]) := Lib.hid (BoxAt.new wa 70 [.int .i64 0, .int .i64 0] _ rfl)
      have HB0 : Hid (Below w.heap.size w (wa.alloc (.cells #[.int .i64 0, .int .i64 0] 70))) := Lib.hid (HB.out.alloc hwa _)
      obtain ⟨SB, hSB⟩ : ∃ SB, SB = wa.heap.size := ⟨_, rfl⟩
      rw [← hSB] at BX0 ⊢
      have hSW : w.heap.size ≤ SB := by omega
      generalize wa.alloc (.cells #[.int .i64 0, .int .i64 0] 70) = wb at BX0 HB0 ⊢
      clear hSB hwa HB
      go_loopw [10] (fun kv W => ∃ (j : Nat) (s1 s2 : Int), j ≤ n ∧ kv = .int .i64 j ∧ -1000000000 * j ≤ s1 ∧ s1 ≤ s2 ∧ s2 ≤ 1000000000 * j ∧ Hid (Bx.bounds (lo.drop j) (hi.drop j) (q.2.drop j) (s1, s2) = Bx.bounds lo hi q.2 (0, 0)) ∧ Hid (BoxAt W SB [.int .i64 s1, .int .i64 s2]) ∧ Hid (Below w.heap.size w W)) (fun kv _ => n - (intOf kv).toNat)
      case atStart => exact ⟨0, 0, 0, Nat.zero_le _, rfl, by decide, by decide, by decide, Lib.hid rfl, BX0, HB0⟩
      case round =>
        clear BX0 HB0
        obtain ⟨j, s1, s2, hj, rfl, a1, a2, a3, HJ, BX, HB⟩ := hrel
        obtain ⟨wi, rfl⟩ : ∃ W, W = wr := ⟨wr, rfl⟩
        have y0 : wi.cell? ⟨b, o, none⟩ = some (.slice q.1.cf.a q.1.cf.n q.1.cf.c) := (HB.out.cell (p := ⟨b, o, none⟩) hb).trans HC0.out
        have hbi : b < wi.heap.size := by have := HB.out.size; omega
        have hwi := HB.out.size
        have hSi : SB < wi.heap.size := BX.out.1
        have hSf : wi.frozen? ⟨SB, 0, none⟩ = false := BX.out.2.2 0
        have hSg : wi.frozen? ⟨SB, 1, none⟩ = false := BX.out.2.2 1
        have c0 : wi.cell? ⟨SB, 0, none⟩ = some (.int .i64 s1) := BX.out.2.1 0 _ rfl
        have c1 : wi.cell? ⟨SB, 1, none⟩ = some (.int .i64 s2) := BX.out.2.1 1 _ rfl
        by_cases gg : j < n ∧ j < q.1.cf.n
        · obtain ⟨g1, g3⟩ := gg
          obtain ⟨b1, o1, x, ha, hia, hca, hb1, _⟩ := rd_int (HX.out.up HB.out) c g1
          obtain ⟨b2, o2, y, hbb, hiy, hcy, hb2, _⟩ := rd_int (HY.out.up HB.out) d g1
          obtain ⟨b3, o3, z, hcc, hiz, hcz, hb3, _⟩ := rd_int (HQK.out.1.up HB.out) q.1.cf.c g3
          have HZJ := Lib.hid (Bx.bounds_at (s1, s2) ha hbb hcc)
          have bz := HQK.out.2 z (List.mem_of_getElem? hcc)
          have bx := H1.out x (List.mem_of_getElem? ha)
          have bY := H2.out y (List.mem_of_getElem? hbb)
          have hxy := HLE.out _ _ _ ha hbb
          have px := prod_bound bz bx
          have py := prod_bound bz bY
          have hm := Sp.mul_pt bz bx bY hxy
          clear ha hbb hcc bz bx bY hxy
          obtain ⟨p, hp⟩ : ∃ p, min (z * x) (z * y) = p := ⟨_, rfl⟩
          obtain ⟨t, ht⟩ : ∃ t, max (z * x) (z * y) = t := ⟨_, rfl⟩
          have bp : -1000000000 ≤ p ∧ p ≤ t ∧ t ≤ 1000000000 := by omega
          rw [hp, ht] at hm HZJ
          clear hp ht px py
          obtain ⟨bp1, bp2, bp3⟩ := bp
          have CM : Hid (∀ X : World, Calls Try.prog 53 #[.agg #[.int .i64 z, .int .i64 z], .agg #[.int .i64 x, .int .i64 y]] X fun e w' => e = .returned (.tuple #[.agg #[.int .i64 p, .int .i64 t], .int .i64 0]) ∧ Below X.heap.size X w') := Lib.hid (fun X => by have h := mul_any z z x y X; rw [hm] at h; exact h)
          have CA : Hid (∀ X : World, Calls Try.prog 54 #[.agg #[.int .i64 s1, .int .i64 s2], .agg #[.int .i64 p, .int .i64 t]] X fun e w' => e = .returned (.tuple #[.agg #[.int .i64 (s1 + p), .int .i64 (s2 + t)], .int .i64 0]) ∧ Below X.heap.size X w') := Lib.hid (fun X => by have h := add_any s1 s2 p t X; rw [Sp.add_in (by omega) a2 (by omega) (by omega) bp2 (by omega)] at h; exact h)
          have HN1 : Hid (-1000000000 * ((j + 1 : Nat) : Int) ≤ s1 + p ∧ s1 + p ≤ s2 + t ∧ s2 + t ≤ 1000000000 * ((j + 1 : Nat) : Int)) := Lib.hid (by omega)
          clear hm
          go_upto_region 9 with (fail)
          go_cut [11, 12] (fun s11 s12 X => ∃ XB : Nat, s11 = .pointer (some ⟨XB, 0, none⟩) ∧ s12 = .int .i64 0 ∧ wi.heap.size ≤ XB ∧ Hid (BoxAt X XB [.int .i64 p, .int .i64 t]) ∧ Hid (Below wi.heap.size wi X))
          case first =>
            go_region_held3 (fun Z => Z.cell? ⟨b, o, none⟩ = some (.slice q.1.cf.a q.1.cf.n q.1.cf.c) ∧ Z.cell? ⟨b3, o3, none⟩ = some (.int .i64 z) ∧ Z.cell? ⟨b1, o1, none⟩ = some (.int .i64 x) ∧ Z.cell? ⟨b2, o2, none⟩ = some (.int .i64 y)) (simp [go_sem, *])
              (first
                | (go_at_call 53; (with_reducible refine (CM.out _).mono ?_); rintro e w9 ⟨rfl, h9⟩; have H9 : Hid (Below wi.heap.size wi w9) := Lib.hid (Below.call (by repeat (first | (with_reducible exact Below.refl _ _) | (with_reducible assumption) | ((with_reducible refine Below.setCell ?_ ?_ _); rotate_left; (focus (first | omega | (simp; omega) | (simp; done)))) | ((with_reducible refine Below.alloc ?_ ?_ _); rotate_left; (focus (first | omega | (simp; omega) | (simp; done)))) | (with_reducible refine Below.drew ?_))) h9); have z9 := h9.size; (try simp at z9); obtain ⟨k1, k2, k3⟩ := keepB h9 b (by first | omega | (simp; omega)); obtain ⟨l1, l2, l3⟩ := keepB h9 b1 (by first | omega | (simp; omega)); obtain ⟨m1, m2, m3⟩ := keepB h9 b2 (by first | omega | (simp; omega)); obtain ⟨n1, n2, n3⟩ := keepB h9 b3 (by first | omega | (simp; omega)); (try have NB : Hid (BoxAt w9 wi.heap.size [.int .i64 0, .int .i64 0]) := Lib.hid (BoxAt.call (BoxAt.drew (BoxAt.new wi 70 [.int .i64 0, .int .i64 0] _ rfl)) h9)); (try have nb1 := NB.out.1); (try have nb2 := NB.out.2.1 0 _ rfl); (try have nb3 := NB.out.2.1 1 _ rfl); (try have nb4 := NB.out.2.2 0); (try have nb5 := NB.out.2.2 1); clear h9))
            · go_wp2_with fail
              go_meet
              exact ⟨w9.heap.size, rfl, rfl, H9.out.size, Lib.hid (BoxAt.new w9 70 [.int .i64 p, .int .i64 t] _ rfl), Lib.hid (H9.out.alloc H9.out.size _)⟩
            · go_wp2_with fail
              go_meet
              exact ⟨wi.heap.size, rfl, rfl, Nat.le_refl _, Lib.hid (box_two _ _ NB.out), Lib.hid ((H9.out.setCell (Nat.le_refl _) _).setCell (Nat.le_refl _) _)⟩
          case rest =>
            clear y0 hca hcy hcz c0 c1 hSf hSg hia hiy hiz CM
            obtain ⟨XB, rfl, rfl, hXB, BXX, HX9⟩ := hcut
            obtain ⟨wx, rfl⟩ : ∃ W, W = wc := ⟨wc, rfl⟩
            have BXS := Lib.hid (BX.out.call HX9.out)
            have hx9 := HX9.out.size
            have d0 : wx.cell? ⟨SB, 0, none⟩ = some (.int .i64 s1) := BXS.out.2.1 0 _ rfl
            have d1 : wx.cell? ⟨SB, 1, none⟩ = some (.int .i64 s2) := BXS.out.2.1 1 _ rfl
            have hXl : XB < wx.heap.size := BXX.out.1
            have e0 : wx.cell? ⟨XB, 0, none⟩ = some (.int .i64 p) := BXX.out.2.1 0 _ rfl
            have e1 : wx.cell? ⟨XB, 1, none⟩ = some (.int .i64 t) := BXX.out.2.1 1 _ rfl
            go_wp2_with fail
            (with_reducible refine (CA.out _).mono ?_)
            rintro e wy ⟨rfl, hy9⟩
            have BXY := Lib.hid (BXS.out.call hy9)
            have HY9 := Lib.hid (Below.call HB.out (Below.call HX9.out hy9))
            have hyz := hy9.size
            have f0 : wy.cell? ⟨SB, 0, none⟩ = some (.int .i64 s1) := BXY.out.2.1 0 _ rfl
            have f1 : wy.cell? ⟨SB, 1, none⟩ = some (.int .i64 s2) := BXY.out.2.1 1 _ rfl
            have f2 : wy.frozen? ⟨SB, 0, none⟩ = false := BXY.out.2.2 0
            have f3 : wy.frozen? ⟨SB, 1, none⟩ = false := BXY.out.2.2 1
            have hSy : SB < wy.heap.size := BXY.out.1
            clear hy9 d0 d1 e0 e1 CA
            go_wp2_with fail
            exact ⟨⟨j + 1, s1 + p, s2 + t, g1, rfl, HN1.out.1, HN1.out.2.1, HN1.out.2.2, Lib.hid (HZJ.out.symm.trans HJ.out), Lib.hid ((box_two _ _ BXY.out).alloc _), Lib.hid (((HY9.out.setCell hSW _).setCell hSW _).alloc (Nat.le_trans HY9.out.size (by simp)) _)⟩, by simp [intOf]; omega⟩
        · have HF : Hid (Bx.bounds lo hi q.2 (0, 0) = (s1, s2)) := Lib.hid (by rw [← HJ.out, Bx.bounds_end _ (by rw [HLO.out, HHI.out, HCL.out]; omega)])
          have y1 : wi.cell? ⟨b, o + 1, none⟩ = some (.int .i64 q.1.bd) := (HB.out.cell (p := ⟨b, o + 1, none⟩) hb).trans HC1.out
          have CL : Hid (∀ X : World, Calls Try.prog 55 #[.agg #[.int .i64 s1, .int .i64 s2], .agg #[.int .i64 q.1.bd, .int .i64 q.1.bd]] X fun e w' => e = .returned (.int .i64 (Sp.lessEq s1 s2 q.1.bd q.1.bd)) ∧ Below X.heap.size X w') := Lib.hid (fun X => lessEq_any s1 s2 q.1.bd q.1.bd X)
          rw [HF.out] at HZ
          have hor : (¬ j < n) ∨ (j < n ∧ ¬ j < q.1.cf.n) := by omega
          rcases hor with g1 | ⟨g1, g3⟩
          · by_cases q1 : s2 ≤ q.1.bd
            · have hl : Sp.lessEq s1 s2 q.1.bd q.1.bd = 1 := by simp [Sp.lessEq, q1]
              have HG : Hid (Bx.verd lo hi (cs.drop (k + 1)) v = Bx.verd lo hi cs 1) := Lib.hid (by rw [HZ.out, if_neg (show ¬ q.1.bd < s1 by omega), if_neg (show ¬ q.1.bd < s2 by omega)])
              rw [hl] at CL
              clear hl q1
              go_wp2_with fail
              go_region_held3 (fun Z => Z.cell? ⟨b, o + 1, none⟩ = some (.int .i64 q.1.bd) ∧ Z.cell? ⟨SB, 0, none⟩ = some (.int .i64 s1) ∧ Z.cell? ⟨SB, 1, none⟩ = some (.int .i64 s2)) (simp [go_sem, *])
                (first
                  | (go_at_call 55; (with_reducible refine (CL.out _).mono ?_); rintro e w9 ⟨rfl, h9⟩; have H9 : Hid (Below wi.heap.size wi w9) := Lib.hid (Below.call (by repeat (first | (with_reducible exact Below.refl _ _) | (with_reducible assumption) | ((with_reducible refine Below.setCell ?_ ?_ _); rotate_left; (focus (first | omega | (simp; omega) | (simp; done)))) | ((with_reducible refine Below.alloc ?_ ?_ _); rotate_left; (focus (first | omega | (simp; omega) | (simp; done)))) | (with_reducible refine Below.drew ?_))) h9); have z9 := h9.size; (try simp at z9); obtain ⟨k1, k2, k3⟩ := keepB h9 b (by first | omega | (simp; omega)); obtain ⟨r1, r2, r3⟩ := keepB h9 SB (by first | omega | (simp; omega)); clear h9))
              go_wp2_with fail
              go_roundw
              case rel => exact ⟨k + 1, v, by omega, by go_num, rfl, HG, Lib.hid (Below.call HB.out H9.out)⟩
              case measure => simp [intOf]; omega
            · by_cases q2 : q.1.bd < s1
              · have hl : Sp.lessEq s1 s2 q.1.bd q.1.bd = 0 := by simp [Sp.lessEq, q1, q2]
                have HG : Hid (Bx.verd lo hi cs 1 = 0) := Lib.hid (by rw [HZ.out, if_pos q2])
                rw [hl] at CL
                clear hl q1 q2
                go_wp2_with fail
                go_region_held3 (fun Z => Z.cell? ⟨b, o + 1, none⟩ = some (.int .i64 q.1.bd) ∧ Z.cell? ⟨SB, 0, none⟩ = some (.int .i64 s1) ∧ Z.cell? ⟨SB, 1, none⟩ = some (.int .i64 s2)) (simp [go_sem, *])
                  (first
                    | (go_at_call 55; (with_reducible refine (CL.out _).mono ?_); rintro e w9 ⟨rfl, h9⟩; have H9 : Hid (Below wi.heap.size wi w9) := Lib.hid (Below.call (by repeat (first | (with_reducible exact Below.refl _ _) | (with_reducible assumption) | ((with_reducible refine Below.setCell ?_ ?_ _); rotate_left; (focus (first | omega | (simp; omega) | (simp; done)))) | ((with_reducible refine Below.alloc ?_ ?_ _); rotate_left; (focus (first | omega | (simp; omega) | (simp; done)))) | (with_reducible refine Below.drew ?_))) h9); have z9 := h9.size; (try simp at z9); obtain ⟨k1, k2, k3⟩ := keepB h9 b (by first | omega | (simp; omega)); obtain ⟨r1, r2, r3⟩ := keepB h9 SB (by first | omega | (simp; omega)); clear h9))
                go_wp2_with fail
                go_ret
                exact ⟨ret_int HG.out.symm, Below.call HB.out H9.out⟩
              · have hl : Sp.lessEq s1 s2 q.1.bd q.1.bd = -1 := by simp [Sp.lessEq, q1, q2]
                have HG : Hid (Bx.verd lo hi (cs.drop (k + 1)) (-1) = Bx.verd lo hi cs 1) := Lib.hid (by rw [HZ.out, if_neg q2, if_pos (show q.1.bd < s2 by omega)])
                rw [hl] at CL
                clear hl q1 q2
                go_wp2_with fail
                go_region_held3 (fun Z => Z.cell? ⟨b, o + 1, none⟩ = some (.int .i64 q.1.bd) ∧ Z.cell? ⟨SB, 0, none⟩ = some (.int .i64 s1) ∧ Z.cell? ⟨SB, 1, none⟩ = some (.int .i64 s2)) (simp [go_sem, *])
                  (first
                    | (go_at_call 55; (with_reducible refine (CL.out _).mono ?_); rintro e w9 ⟨rfl, h9⟩; have H9 : Hid (Below wi.heap.size wi w9) := Lib.hid (Below.call (by repeat (first | (with_reducible exact Below.refl _ _) | (with_reducible assumption) | ((with_reducible refine Below.setCell ?_ ?_ _); rotate_left; (focus (first | omega | (simp; omega) | (simp; done)))) | ((with_reducible refine Below.alloc ?_ ?_ _); rotate_left; (focus (first | omega | (simp; omega) | (simp; done)))) | (with_reducible refine Below.drew ?_))) h9); have z9 := h9.size; (try simp at z9); obtain ⟨k1, k2, k3⟩ := keepB h9 b (by first | omega | (simp; omega)); obtain ⟨r1, r2, r3⟩ := keepB h9 SB (by first | omega | (simp; omega)); clear h9))
                go_wp2_with fail
                go_roundw
                case rel => exact ⟨k + 1, -1, by omega, by go_num, rfl, HG, Lib.hid (Below.call HB.out H9.out)⟩
                case measure => simp [intOf]; omega
          · by_cases q1 : s2 ≤ q.1.bd
            · have hl : Sp.lessEq s1 s2 q.1.bd q.1.bd = 1 := by simp [Sp.lessEq, q1]
              have HG : Hid (Bx.verd lo hi (cs.drop (k + 1)) v = Bx.verd lo hi cs 1) := Lib.hid (by rw [HZ.out, if_neg (show ¬ q.1.bd < s1 by omega), if_neg (show ¬ q.1.bd < s2 by omega)])
              rw [hl] at CL
              clear hl q1
              go_wp2_with fail
              go_region_held3 (fun Z => Z.cell? ⟨b, o + 1, none⟩ = some (.int .i64 q.1.bd) ∧ Z.cell? ⟨SB, 0, none⟩ = some (.int .i64 s1) ∧ Z.cell? ⟨SB, 1, none⟩ = some (.int .i64 s2)) (simp [go_sem, *])
                (first
                  | (go_at_call 55; (with_reducible refine (CL.out _).mono ?_); rintro e w9 ⟨rfl, h9⟩; have H9 : Hid (Below wi.heap.size wi w9) := Lib.hid (Below.call (by repeat (first | (with_reducible exact Below.refl _ _) | (with_reducible assumption) | ((with_reducible refine Below.setCell ?_ ?_ _); rotate_left; (focus (first | omega | (simp; omega) | (simp; done)))) | ((with_reducible refine Below.alloc ?_ ?_ _); rotate_left; (focus (first | omega | (simp; omega) | (simp; done)))) | (with_reducible refine Below.drew ?_))) h9); have z9 := h9.size; (try simp at z9); obtain ⟨k1, k2, k3⟩ := keepB h9 b (by first | omega | (simp; omega)); obtain ⟨r1, r2, r3⟩ := keepB h9 SB (by first | omega | (simp; omega)); clear h9))
              go_wp2_with fail
              go_roundw
              case rel => exact ⟨k + 1, v, by omega, by go_num, rfl, HG, Lib.hid (Below.call HB.out H9.out)⟩
              case measure => simp [intOf]; omega
            · by_cases q2 : q.1.bd < s1
              · have hl : Sp.lessEq s1 s2 q.1.bd q.1.bd = 0 := by simp [Sp.lessEq, q1, q2]
                have HG : Hid (Bx.verd lo hi cs 1 = 0) := Lib.hid (by rw [HZ.out, if_pos q2])
                rw [hl] at CL
                clear hl q1 q2
                go_wp2_with fail
                go_region_held3 (fun Z => Z.cell? ⟨b, o + 1, none⟩ = some (.int .i64 q.1.bd) ∧ Z.cell? ⟨SB, 0, none⟩ = some (.int .i64 s1) ∧ Z.cell? ⟨SB, 1, none⟩ = some (.int .i64 s2)) (simp [go_sem, *])
                  (first
                    | (go_at_call 55; (with_reducible refine (CL.out _).mono ?_); rintro e w9 ⟨rfl, h9⟩; have H9 : Hid (Below wi.heap.size wi w9) := Lib.hid (Below.call (by repeat (first | (with_reducible exact Below.refl _ _) | (with_reducible assumption) | ((with_reducible refine Below.setCell ?_ ?_ _); rotate_left; (focus (first | omega | (simp; omega) | (simp; done)))) | ((with_reducible refine Below.alloc ?_ ?_ _); rotate_left; (focus (first | omega | (simp; omega) | (simp; done)))) | (with_reducible refine Below.drew ?_))) h9); have z9 := h9.size; (try simp at z9); obtain ⟨k1, k2, k3⟩ := keepB h9 b (by first | omega | (simp; omega)); obtain ⟨r1, r2, r3⟩ := keepB h9 SB (by first | omega | (simp; omega)); clear h9))
                go_wp2_with fail
                go_ret
                exact ⟨ret_int HG.out.symm, Below.call HB.out H9.out⟩
              · have hl : Sp.lessEq s1 s2 q.1.bd q.1.bd = -1 := by simp [Sp.lessEq, q1, q2]
                have HG : Hid (Bx.verd lo hi (cs.drop (k + 1)) (-1) = Bx.verd lo hi cs 1) := Lib.hid (by rw [HZ.out, if_neg q2, if_pos (show q.1.bd < s2 by omega)])
                rw [hl] at CL
                clear hl q1 q2
                go_wp2_with fail
                go_region_held3 (fun Z => Z.cell? ⟨b, o + 1, none⟩ = some (.int .i64 q.1.bd) ∧ Z.cell? ⟨SB, 0, none⟩ = some (.int .i64 s1) ∧ Z.cell? ⟨SB, 1, none⟩ = some (.int .i64 s2)) (simp [go_sem, *])
                  (first
                    | (go_at_call 55; (with_reducible refine (CL.out _).mono ?_); rintro e w9 ⟨rfl, h9⟩; have H9 : Hid (Below wi.heap.size wi w9) := Lib.hid (Below.call (by repeat (first | (with_reducible exact Below.refl _ _) | (with_reducible assumption) | ((with_reducible refine Below.setCell ?_ ?_ _); rotate_left; (focus (first | omega | (simp; omega) | (simp; done)))) | ((with_reducible refine Below.alloc ?_ ?_ _); rotate_left; (focus (first | omega | (simp; omega) | (simp; done)))) | (with_reducible refine Below.drew ?_))) h9); have z9 := h9.size; (try simp at z9); obtain ⟨k1, k2, k3⟩ := keepB h9 b (by first | omega | (simp; omega)); obtain ⟨r1, r2, r3⟩ := keepB h9 SB (by first | omega | (simp; omega)); clear h9))
                go_wp2_with fail
                go_roundw
                case rel => exact ⟨k + 1, -1, by omega, by go_num, rfl, HG, Lib.hid (Below.call HB.out H9.out)⟩
                case measure => simp [intOf]; omega
    · have HF : Hid (Bx.verd lo hi cs 1 = v) := Lib.hid (by rw [← HK.out, List.drop_eq_nil_of_le (by rw [← HQ3.out, List.length_map, HL.out]; omega)]; rfl)
      go_wp2_with fail
      go_ret
      exact ⟨ret_int HF.out.symm, HB.out⟩
end Go.Proofs.Ytcncobhdfflelaa
