/- The contract of the reference's Same. -/
import Derived.Test.YtcncobhdfflelaaEb
namespace Go.Proofs.Ytcncobhdfflelaa
open Go.RowKit

set_option linter.unusedSimpArgs false in
set_option linter.unusedVariables false in
set_option maxRecDepth 100000 in
set_option maxHeartbeats 6400000 in
theorem same15 (u v : Sl) (qs rs : List BxM) (w : World) (hu : Rd w w.heap.size 3 u.a u.n ((qs.map (·.1)).flatMap bxL)) (hq : ∀ q ∈ qs, BoxRd w q ∧ q.1.lo.n ≤ 1000000 ∧ q.1.hi.n ≤ 1000000)
    (hv : Rd w w.heap.size 3 v.a v.n ((rs.map (·.1)).flatMap bxL)) (hr : ∀ q ∈ rs, BoxRd w q) (hun : u.n ≤ 1000000) :
    Calls Try.prog 15 #[.slice u.a u.n u.c, .slice v.a v.n v.c] w fun e w' => e = .returned (.bool (decide (qs.map plD = rs.map plD))) ∧ Below w.heap.size w w' := by
  have HU := Lib.hid hu
  have HV := Lib.hid hv
  have HQ := Lib.hid hq
  have HR := Lib.hid hr
  have HL := Lib.hid (show qs.length = u.n by have := hu.len (fun _ => rfl) (by omega); simpa using this)
  have HM := Lib.hid (show rs.length = v.n by have := hv.len (fun _ => rfl) (by omega); simpa using this)
  clear hu hq hv hr
  by_cases hnm : u.n = v.n
  · have t1 : ((u.n : Int) != (v.n : Int)) = false := by simp [hnm]
    have hle : u.n ≤ v.n := by omega
    have HNM := Lib.hid hnm
    clear hnm
    go_enter Try.func15, Try.ntmps15
    go_wp2_with fail
    go_loopw [5] (fun i W => ∃ k : Nat, k ≤ u.n ∧ i = .int .i64 k ∧ Hid (decide ((qs.map plD).drop k = (rs.map plD).drop k) = decide (qs.map plD = rs.map plD)) ∧ Hid (Below w.heap.size w W)) (fun i _ => u.n - (intOf i).toNat)
    case atStart => exact ⟨0, Nat.zero_le _, rfl, Lib.hid rfl, Lib.hid (Below.refl _ _)⟩
    case round =>
      obtain ⟨k, hk, rfl, HK, HB⟩ := hrel
      by_cases hlt : k < u.n
      · obtain ⟨b1, o1, q, hqi, hb1, hix1, x0, x1, x2⟩ := box_at (HU.out.up HB.out) u.c hlt
        obtain ⟨b2, o2, r, hri, hb2, hix2, y0, y1, y2⟩ := box_at (HV.out.up HB.out) v.c (show k < v.n by omega)
        have QR := Lib.hid (HQ.out q (List.mem_of_getElem? hqi))
        have RR := Lib.hid (HR.out r (List.mem_of_getElem? hri))
        have hd1 : (qs.map plD).drop k = plD q :: (qs.map plD).drop (k + 1) := by
          have h1 : (qs.map plD)[k]? = some (plD q) := by rw [List.getElem?_map, hqi]; rfl
          obtain ⟨h2, h3⟩ := List.getElem?_eq_some_iff.1 h1
          rw [List.drop_eq_getElem_cons h2, h3]
        have hd2 : (rs.map plD).drop k = plD r :: (rs.map plD).drop (k + 1) := by
          have h1 : (rs.map plD)[k]? = some (plD r) := by rw [List.getElem?_map, hri]; rfl
          obtain ⟨h2, h3⟩ := List.getElem?_eq_some_iff.1 h1
          rw [List.drop_eq_getElem_cons h2, h3]
        have HNO : Hid (plD q ≠ plD r → decide (qs.map plD = rs.map plD) = false) := Lib.hid (fun h => by
          rw [← HK.out, hd1, hd2, decide_eq_false_iff_not]; intro e; injection e with e1 e2; exact h e1)
        have HYES : Hid (plD q = plD r → decide ((qs.map plD).drop (k + 1) = (rs.map plD).drop (k + 1)) = decide (qs.map plD = rs.map plD)) := Lib.hid (fun h => by
          rw [← HK.out, hd1, hd2, h]; simp only [List.cons.injEq, true_and])
        have CI := Lib.hid (fun (X : World) (hX : Below wr.heap.size wr X) => ints42 q.1.lo.a r.1.lo.a q.1.lo.n r.1.lo.n q.1.lo.c r.1.lo.c q.2.1 r.2.1 X ((QR.out.1.up HB.out).up hX).lo ((RR.out.up HB.out).up hX).lo QR.out.2.1)
        have CJ := Lib.hid (fun (X : World) (hX : Below wr.heap.size wr X) => ints42 q.1.hi.a r.1.hi.a q.1.hi.n r.1.hi.n q.1.hi.c r.1.hi.c q.2.2 r.2.2 X ((QR.out.1.up HB.out).up hX).hi ((RR.out.up HB.out).up hX).hi QR.out.2.2)
        obtain ⟨h1, hh1⟩ : ∃ h1, q.1.holds = h1 := ⟨_, rfl⟩
        obtain ⟨h2, hh2⟩ : ∃ h2, r.1.holds = h2 := ⟨_, rfl⟩
        rw [hh1] at x2
        rw [hh2] at y2
        have KC : Hid (∀ X : World, Below wr.heap.size wr X → X.cell? ⟨b1, o1, none⟩ = some (.slice q.1.lo.a q.1.lo.n q.1.lo.c) ∧ X.cell? ⟨b1, o1 + 1, none⟩ = some (.slice q.1.hi.a q.1.hi.n q.1.hi.c) ∧ X.cell? ⟨b1, o1 + 2, none⟩ = some (.bool h1) ∧ X.cell? ⟨b2, o2, none⟩ = some (.slice r.1.lo.a r.1.lo.n r.1.lo.c) ∧ X.cell? ⟨b2, o2 + 1, none⟩ = some (.slice r.1.hi.a r.1.hi.n r.1.hi.c) ∧ X.cell? ⟨b2, o2 + 2, none⟩ = some (.bool h2)) :=
          Lib.hid (fun X hX => ⟨(hX.cell (p := ⟨b1, o1, none⟩) hb1).trans x0, (hX.cell (p := ⟨b1, o1 + 1, none⟩) hb1).trans x1, (hX.cell (p := ⟨b1, o1 + 2, none⟩) hb1).trans x2, (hX.cell (p := ⟨b2, o2, none⟩) hb2).trans y0, (hX.cell (p := ⟨b2, o2 + 1, none⟩) hb2).trans y1, (hX.cell (p := ⟨b2, o2 + 2, none⟩) hb2).trans y2⟩)
        have HH1 := Lib.hid hh1
        have HH2 := Lib.hid hh2
        clear hqi hri hd1 hd2 hh1 hh2 x0 x1 x2 y0 y1 y2
        go_wp2_with fail
        by_cases g1 : h1 = h2
        · have t3 : (h1 != h2) = false := by simp [g1]
          have HG1 := Lib.hid g1
          by_cases g2 : q.2.1 = r.2.1
          · have e2 : decide (q.2.1 = r.2.1) = true := by simpa using g2
            rw [e2] at CI
            by_cases g3 : q.2.2 = r.2.2
            · have e3 : decide (q.2.2 = r.2.2) = true := by simpa using g3
              rw [e3] at CJ
              have HF := Lib.hid (HYES.out (by unfold plD; rw [g2, g3, HH1.out, HH2.out, g1]))
              clear g1 g2 g3 e2 e3
              refine quiet_start (fun X => Below wr.heap.size wr X) (by kernel_rfl) (by kernel_rfl) ?_ ?_
              · exact (Below.refl _ _).drew
              refine quiet_value_plain (.slice u.a u.n u.c) rfl ?_ ?_
              · intro wx hx; obtain ⟨z0, z1, z2, z3, z4, z5⟩ := KC.out wx hx; go_simp; try (exact HG1.out)
              try simp only [Act.put, List.getElem_toArray, List.getElem_cons_succ, List.getElem_cons_zero, List.setIfInBounds_toArray, List.set_cons_zero, List.set_cons_succ]
              refine quiet_value_plain (.int .i64 (k : Int)) rfl ?_ ?_
              · intro wx hx; obtain ⟨z0, z1, z2, z3, z4, z5⟩ := KC.out wx hx; go_simp; try (exact HG1.out)
              try simp only [Act.put, List.getElem_toArray, List.getElem_cons_succ, List.getElem_cons_zero, List.setIfInBounds_toArray, List.set_cons_zero, List.set_cons_succ]
              refine quiet_value_plain (.pointer (some ⟨b1, o1, none⟩)) rfl ?_ ?_
              · intro wx hx; obtain ⟨z0, z1, z2, z3, z4, z5⟩ := KC.out wx hx; go_simp; try (exact HG1.out)
              try simp only [Act.put, List.getElem_toArray, List.getElem_cons_succ, List.getElem_cons_zero, List.setIfInBounds_toArray, List.set_cons_zero, List.set_cons_succ]
              refine quiet_value_plain (.pointer (some ⟨b1, o1 + 2, none⟩)) rfl ?_ ?_
              · intro wx hx; obtain ⟨z0, z1, z2, z3, z4, z5⟩ := KC.out wx hx; go_simp; try (exact HG1.out)
              try simp only [Act.put, List.getElem_toArray, List.getElem_cons_succ, List.getElem_cons_zero, List.setIfInBounds_toArray, List.set_cons_zero, List.set_cons_succ]
              refine quiet_value_plain (.bool h1) rfl ?_ ?_
              · intro wx hx; obtain ⟨z0, z1, z2, z3, z4, z5⟩ := KC.out wx hx; go_simp; try (exact HG1.out)
              try simp only [Act.put, List.getElem_toArray, List.getElem_cons_succ, List.getElem_cons_zero, List.setIfInBounds_toArray, List.set_cons_zero, List.set_cons_succ]
              refine quiet_value_plain (.slice v.a v.n v.c) rfl ?_ ?_
              · intro wx hx; obtain ⟨z0, z1, z2, z3, z4, z5⟩ := KC.out wx hx; go_simp; try (exact HG1.out)
              try simp only [Act.put, List.getElem_toArray, List.getElem_cons_succ, List.getElem_cons_zero, List.setIfInBounds_toArray, List.set_cons_zero, List.set_cons_succ]
              refine quiet_value_plain (.int .i64 (k : Int)) rfl ?_ ?_
              · intro wx hx; obtain ⟨z0, z1, z2, z3, z4, z5⟩ := KC.out wx hx; go_simp; try (exact HG1.out)
              try simp only [Act.put, List.getElem_toArray, List.getElem_cons_succ, List.getElem_cons_zero, List.setIfInBounds_toArray, List.set_cons_zero, List.set_cons_succ]
              refine quiet_value_plain (.pointer (some ⟨b2, o2, none⟩)) rfl ?_ ?_
              · intro wx hx; obtain ⟨z0, z1, z2, z3, z4, z5⟩ := KC.out wx hx; go_simp; try (exact HG1.out)
              try simp only [Act.put, List.getElem_toArray, List.getElem_cons_succ, List.getElem_cons_zero, List.setIfInBounds_toArray, List.set_cons_zero, List.set_cons_succ]
              refine quiet_value_plain (.pointer (some ⟨b2, o2 + 2, none⟩)) rfl ?_ ?_
              · intro wx hx; obtain ⟨z0, z1, z2, z3, z4, z5⟩ := KC.out wx hx; go_simp; try (exact HG1.out)
              try simp only [Act.put, List.getElem_toArray, List.getElem_cons_succ, List.getElem_cons_zero, List.setIfInBounds_toArray, List.set_cons_zero, List.set_cons_succ]
              refine quiet_value_plain (.bool h2) rfl ?_ ?_
              · intro wx hx; obtain ⟨z0, z1, z2, z3, z4, z5⟩ := KC.out wx hx; go_simp; try (exact HG1.out)
              try simp only [Act.put, List.getElem_toArray, List.getElem_cons_succ, List.getElem_cons_zero, List.setIfInBounds_toArray, List.set_cons_zero, List.set_cons_succ]
              refine quiet_value_plain (.bool false) rfl ?_ ?_
              · intro wx hx; obtain ⟨z0, z1, z2, z3, z4, z5⟩ := KC.out wx hx; go_simp; try (exact HG1.out)
              try simp only [Act.put, List.getElem_toArray, List.getElem_cons_succ, List.getElem_cons_zero, List.setIfInBounds_toArray, List.set_cons_zero, List.set_cons_succ]
              refine quiet_value_plain (.bool false) rfl ?_ ?_
              · intro wx hx; obtain ⟨z0, z1, z2, z3, z4, z5⟩ := KC.out wx hx; go_simp; try (exact HG1.out)
              try simp only [Act.put, List.getElem_toArray, List.getElem_cons_succ, List.getElem_cons_zero, List.setIfInBounds_toArray, List.set_cons_zero, List.set_cons_succ]
              refine quiet_value (.slice u.a u.n u.c) (by go_simp) ?_ ?_
              · intro wx hx; obtain ⟨z0, z1, z2, z3, z4, z5⟩ := KC.out wx hx; go_simp; try (exact HG1.out)
              try simp only [Act.put, List.getElem_toArray, List.getElem_cons_succ, List.getElem_cons_zero, List.setIfInBounds_toArray, List.set_cons_zero, List.set_cons_succ]
              refine quiet_value (.int .i64 (k : Int)) (by go_simp) ?_ ?_
              · intro wx hx; obtain ⟨z0, z1, z2, z3, z4, z5⟩ := KC.out wx hx; go_simp; try (exact HG1.out)
              try simp only [Act.put, List.getElem_toArray, List.getElem_cons_succ, List.getElem_cons_zero, List.setIfInBounds_toArray, List.set_cons_zero, List.set_cons_succ]
              refine quiet_value (.pointer (some ⟨b1, o1, none⟩)) (by go_simp) ?_ ?_
              · intro wx hx; obtain ⟨z0, z1, z2, z3, z4, z5⟩ := KC.out wx hx; go_simp; try (exact HG1.out)
              try simp only [Act.put, List.getElem_toArray, List.getElem_cons_succ, List.getElem_cons_zero, List.setIfInBounds_toArray, List.set_cons_zero, List.set_cons_succ]
              refine quiet_value (.pointer (some ⟨b1, o1, none⟩)) (by go_simp) ?_ ?_
              · intro wx hx; obtain ⟨z0, z1, z2, z3, z4, z5⟩ := KC.out wx hx; go_simp; try (exact HG1.out)
              try simp only [Act.put, List.getElem_toArray, List.getElem_cons_succ, List.getElem_cons_zero, List.setIfInBounds_toArray, List.set_cons_zero, List.set_cons_succ]
              refine quiet_value (.slice q.1.lo.a q.1.lo.n q.1.lo.c) (by go_simp) ?_ ?_
              · intro wx hx; obtain ⟨z0, z1, z2, z3, z4, z5⟩ := KC.out wx hx; go_simp; try (exact HG1.out)
              try simp only [Act.put, List.getElem_toArray, List.getElem_cons_succ, List.getElem_cons_zero, List.setIfInBounds_toArray, List.set_cons_zero, List.set_cons_succ]
              refine quiet_value (.slice v.a v.n v.c) (by go_simp) ?_ ?_
              · intro wx hx; obtain ⟨z0, z1, z2, z3, z4, z5⟩ := KC.out wx hx; go_simp; try (exact HG1.out)
              try simp only [Act.put, List.getElem_toArray, List.getElem_cons_succ, List.getElem_cons_zero, List.setIfInBounds_toArray, List.set_cons_zero, List.set_cons_succ]
              refine quiet_value (.int .i64 (k : Int)) (by go_simp) ?_ ?_
              · intro wx hx; obtain ⟨z0, z1, z2, z3, z4, z5⟩ := KC.out wx hx; go_simp; try (exact HG1.out)
              try simp only [Act.put, List.getElem_toArray, List.getElem_cons_succ, List.getElem_cons_zero, List.setIfInBounds_toArray, List.set_cons_zero, List.set_cons_succ]
              refine quiet_value (.pointer (some ⟨b2, o2, none⟩)) (by go_simp) ?_ ?_
              · intro wx hx; obtain ⟨z0, z1, z2, z3, z4, z5⟩ := KC.out wx hx; go_simp; try (exact HG1.out)
              try simp only [Act.put, List.getElem_toArray, List.getElem_cons_succ, List.getElem_cons_zero, List.setIfInBounds_toArray, List.set_cons_zero, List.set_cons_succ]
              refine quiet_value (.pointer (some ⟨b2, o2, none⟩)) (by go_simp) ?_ ?_
              · intro wx hx; obtain ⟨z0, z1, z2, z3, z4, z5⟩ := KC.out wx hx; go_simp; try (exact HG1.out)
              try simp only [Act.put, List.getElem_toArray, List.getElem_cons_succ, List.getElem_cons_zero, List.setIfInBounds_toArray, List.set_cons_zero, List.set_cons_succ]
              refine quiet_value (.slice r.1.lo.a r.1.lo.n r.1.lo.c) (by go_simp) ?_ ?_
              · intro wx hx; obtain ⟨z0, z1, z2, z3, z4, z5⟩ := KC.out wx hx; go_simp; try (exact HG1.out)
              try simp only [Act.put, List.getElem_toArray, List.getElem_cons_succ, List.getElem_cons_zero, List.setIfInBounds_toArray, List.set_cons_zero, List.set_cons_succ]
              refine quiet_call (.bool true) 42 #[.slice q.1.lo.a q.1.lo.n q.1.lo.c, .slice r.1.lo.a r.1.lo.n r.1.lo.c] (by go_simp) ?_ ?_ ?_
              · intro wx hx; go_simp; try (exact ⟨rfl, rfl⟩)
              · intro wx hx; refine (CI.out wx hx).mono ?_; rintro e x ⟨rfl, hx2⟩; exact ⟨rfl, Below.call hx hx2⟩
              try simp only [Act.put, List.getElem_toArray, List.getElem_cons_succ, List.getElem_cons_zero, List.setIfInBounds_toArray, List.set_cons_zero, List.set_cons_succ]
              refine quiet_value (.bool false) (by go_simp) ?_ ?_
              · intro wx hx; obtain ⟨z0, z1, z2, z3, z4, z5⟩ := KC.out wx hx; go_simp; try (exact HG1.out)
              try simp only [Act.put, List.getElem_toArray, List.getElem_cons_succ, List.getElem_cons_zero, List.setIfInBounds_toArray, List.set_cons_zero, List.set_cons_succ]
              refine quiet_value_plain (.bool false) rfl ?_ ?_
              · intro wx hx; obtain ⟨z0, z1, z2, z3, z4, z5⟩ := KC.out wx hx; go_simp; try (exact HG1.out)
              try simp only [Act.put, List.getElem_toArray, List.getElem_cons_succ, List.getElem_cons_zero, List.setIfInBounds_toArray, List.set_cons_zero, List.set_cons_succ]
              refine quiet_value_plain (.bool false) rfl ?_ ?_
              · intro wx hx; obtain ⟨z0, z1, z2, z3, z4, z5⟩ := KC.out wx hx; go_simp; try (exact HG1.out)
              try simp only [Act.put, List.getElem_toArray, List.getElem_cons_succ, List.getElem_cons_zero, List.setIfInBounds_toArray, List.set_cons_zero, List.set_cons_succ]
              refine quiet_value (.slice u.a u.n u.c) (by go_simp) ?_ ?_
              · intro wx hx; obtain ⟨z0, z1, z2, z3, z4, z5⟩ := KC.out wx hx; go_simp; try (exact HG1.out)
              try simp only [Act.put, List.getElem_toArray, List.getElem_cons_succ, List.getElem_cons_zero, List.setIfInBounds_toArray, List.set_cons_zero, List.set_cons_succ]
              refine quiet_value (.int .i64 (k : Int)) (by go_simp) ?_ ?_
              · intro wx hx; obtain ⟨z0, z1, z2, z3, z4, z5⟩ := KC.out wx hx; go_simp; try (exact HG1.out)
              try simp only [Act.put, List.getElem_toArray, List.getElem_cons_succ, List.getElem_cons_zero, List.setIfInBounds_toArray, List.set_cons_zero, List.set_cons_succ]
              refine quiet_value (.pointer (some ⟨b1, o1, none⟩)) (by go_simp) ?_ ?_
              · intro wx hx; obtain ⟨z0, z1, z2, z3, z4, z5⟩ := KC.out wx hx; go_simp; try (exact HG1.out)
              try simp only [Act.put, List.getElem_toArray, List.getElem_cons_succ, List.getElem_cons_zero, List.setIfInBounds_toArray, List.set_cons_zero, List.set_cons_succ]
              refine quiet_value (.pointer (some ⟨b1, o1 + 1, none⟩)) (by go_simp) ?_ ?_
              · intro wx hx; obtain ⟨z0, z1, z2, z3, z4, z5⟩ := KC.out wx hx; go_simp; try (exact HG1.out)
              try simp only [Act.put, List.getElem_toArray, List.getElem_cons_succ, List.getElem_cons_zero, List.setIfInBounds_toArray, List.set_cons_zero, List.set_cons_succ]
              refine quiet_value (.slice q.1.hi.a q.1.hi.n q.1.hi.c) (by go_simp) ?_ ?_
              · intro wx hx; obtain ⟨z0, z1, z2, z3, z4, z5⟩ := KC.out wx hx; go_simp; try (exact HG1.out)
              try simp only [Act.put, List.getElem_toArray, List.getElem_cons_succ, List.getElem_cons_zero, List.setIfInBounds_toArray, List.set_cons_zero, List.set_cons_succ]
              refine quiet_value (.slice v.a v.n v.c) (by go_simp) ?_ ?_
              · intro wx hx; obtain ⟨z0, z1, z2, z3, z4, z5⟩ := KC.out wx hx; go_simp; try (exact HG1.out)
              try simp only [Act.put, List.getElem_toArray, List.getElem_cons_succ, List.getElem_cons_zero, List.setIfInBounds_toArray, List.set_cons_zero, List.set_cons_succ]
              refine quiet_value (.int .i64 (k : Int)) (by go_simp) ?_ ?_
              · intro wx hx; obtain ⟨z0, z1, z2, z3, z4, z5⟩ := KC.out wx hx; go_simp; try (exact HG1.out)
              try simp only [Act.put, List.getElem_toArray, List.getElem_cons_succ, List.getElem_cons_zero, List.setIfInBounds_toArray, List.set_cons_zero, List.set_cons_succ]
              refine quiet_value (.pointer (some ⟨b2, o2, none⟩)) (by go_simp) ?_ ?_
              · intro wx hx; obtain ⟨z0, z1, z2, z3, z4, z5⟩ := KC.out wx hx; go_simp; try (exact HG1.out)
              try simp only [Act.put, List.getElem_toArray, List.getElem_cons_succ, List.getElem_cons_zero, List.setIfInBounds_toArray, List.set_cons_zero, List.set_cons_succ]
              refine quiet_value (.pointer (some ⟨b2, o2 + 1, none⟩)) (by go_simp) ?_ ?_
              · intro wx hx; obtain ⟨z0, z1, z2, z3, z4, z5⟩ := KC.out wx hx; go_simp; try (exact HG1.out)
              try simp only [Act.put, List.getElem_toArray, List.getElem_cons_succ, List.getElem_cons_zero, List.setIfInBounds_toArray, List.set_cons_zero, List.set_cons_succ]
              refine quiet_value (.slice r.1.hi.a r.1.hi.n r.1.hi.c) (by go_simp) ?_ ?_
              · intro wx hx; obtain ⟨z0, z1, z2, z3, z4, z5⟩ := KC.out wx hx; go_simp; try (exact HG1.out)
              try simp only [Act.put, List.getElem_toArray, List.getElem_cons_succ, List.getElem_cons_zero, List.setIfInBounds_toArray, List.set_cons_zero, List.set_cons_succ]
              refine quiet_call (.bool true) 42 #[.slice q.1.hi.a q.1.hi.n q.1.hi.c, .slice r.1.hi.a r.1.hi.n r.1.hi.c] (by go_simp) ?_ ?_ ?_
              · intro wx hx; go_simp; try (exact ⟨rfl, rfl⟩)
              · intro wx hx; refine (CJ.out wx hx).mono ?_; rintro e x ⟨rfl, hx2⟩; exact ⟨rfl, Below.call hx hx2⟩
              try simp only [Act.put, List.getElem_toArray, List.getElem_cons_succ, List.getElem_cons_zero, List.setIfInBounds_toArray, List.set_cons_zero, List.set_cons_succ]
              refine quiet_value (.bool false) (by go_simp) ?_ ?_
              · intro wx hx; obtain ⟨z0, z1, z2, z3, z4, z5⟩ := KC.out wx hx; go_simp; try (exact HG1.out)
              try simp only [Act.put, List.getElem_toArray, List.getElem_cons_succ, List.getElem_cons_zero, List.setIfInBounds_toArray, List.set_cons_zero, List.set_cons_succ]
              refine quiet_value_plain (.bool false) rfl ?_ ?_
              · intro wx hx; obtain ⟨z0, z1, z2, z3, z4, z5⟩ := KC.out wx hx; go_simp; try (exact HG1.out)
              try simp only [Act.put, List.getElem_toArray, List.getElem_cons_succ, List.getElem_cons_zero, List.setIfInBounds_toArray, List.set_cons_zero, List.set_cons_succ]
              with_reducible refine wpQuiet_nil ?_
              intro W2 hW2
              go_wp2_with fail
              go_roundw
              case rel => exact ⟨k + 1, by omega, by go_num, HF, Lib.hid (Below.call HB.out hW2)⟩
              case measure => simp [intOf]; omega
            · have e3 : decide (q.2.2 = r.2.2) = false := by simpa using g3
              rw [e3] at CJ
              have HF := Lib.hid (HNO.out (by unfold plD; intro e; injection e with e1 e2; injection e2 with e3 e4; exact g3 e3))
              clear g1 g2 g3 e2 e3
              refine quiet_start (fun X => Below wr.heap.size wr X) (by kernel_rfl) (by kernel_rfl) ?_ ?_
              · exact (Below.refl _ _).drew
              refine quiet_value_plain (.slice u.a u.n u.c) rfl ?_ ?_
              · intro wx hx; obtain ⟨z0, z1, z2, z3, z4, z5⟩ := KC.out wx hx; go_simp; try (exact HG1.out)
              try simp only [Act.put, List.getElem_toArray, List.getElem_cons_succ, List.getElem_cons_zero, List.setIfInBounds_toArray, List.set_cons_zero, List.set_cons_succ]
              refine quiet_value_plain (.int .i64 (k : Int)) rfl ?_ ?_
              · intro wx hx; obtain ⟨z0, z1, z2, z3, z4, z5⟩ := KC.out wx hx; go_simp; try (exact HG1.out)
              try simp only [Act.put, List.getElem_toArray, List.getElem_cons_succ, List.getElem_cons_zero, List.setIfInBounds_toArray, List.set_cons_zero, List.set_cons_succ]
              refine quiet_value_plain (.pointer (some ⟨b1, o1, none⟩)) rfl ?_ ?_
              · intro wx hx; obtain ⟨z0, z1, z2, z3, z4, z5⟩ := KC.out wx hx; go_simp; try (exact HG1.out)
              try simp only [Act.put, List.getElem_toArray, List.getElem_cons_succ, List.getElem_cons_zero, List.setIfInBounds_toArray, List.set_cons_zero, List.set_cons_succ]
              refine quiet_value_plain (.pointer (some ⟨b1, o1 + 2, none⟩)) rfl ?_ ?_
              · intro wx hx; obtain ⟨z0, z1, z2, z3, z4, z5⟩ := KC.out wx hx; go_simp; try (exact HG1.out)
              try simp only [Act.put, List.getElem_toArray, List.getElem_cons_succ, List.getElem_cons_zero, List.setIfInBounds_toArray, List.set_cons_zero, List.set_cons_succ]
              refine quiet_value_plain (.bool h1) rfl ?_ ?_
              · intro wx hx; obtain ⟨z0, z1, z2, z3, z4, z5⟩ := KC.out wx hx; go_simp; try (exact HG1.out)
              try simp only [Act.put, List.getElem_toArray, List.getElem_cons_succ, List.getElem_cons_zero, List.setIfInBounds_toArray, List.set_cons_zero, List.set_cons_succ]
              refine quiet_value_plain (.slice v.a v.n v.c) rfl ?_ ?_
              · intro wx hx; obtain ⟨z0, z1, z2, z3, z4, z5⟩ := KC.out wx hx; go_simp; try (exact HG1.out)
              try simp only [Act.put, List.getElem_toArray, List.getElem_cons_succ, List.getElem_cons_zero, List.setIfInBounds_toArray, List.set_cons_zero, List.set_cons_succ]
              refine quiet_value_plain (.int .i64 (k : Int)) rfl ?_ ?_
              · intro wx hx; obtain ⟨z0, z1, z2, z3, z4, z5⟩ := KC.out wx hx; go_simp; try (exact HG1.out)
              try simp only [Act.put, List.getElem_toArray, List.getElem_cons_succ, List.getElem_cons_zero, List.setIfInBounds_toArray, List.set_cons_zero, List.set_cons_succ]
              refine quiet_value_plain (.pointer (some ⟨b2, o2, none⟩)) rfl ?_ ?_
              · intro wx hx; obtain ⟨z0, z1, z2, z3, z4, z5⟩ := KC.out wx hx; go_simp; try (exact HG1.out)
              try simp only [Act.put, List.getElem_toArray, List.getElem_cons_succ, List.getElem_cons_zero, List.setIfInBounds_toArray, List.set_cons_zero, List.set_cons_succ]
              refine quiet_value_plain (.pointer (some ⟨b2, o2 + 2, none⟩)) rfl ?_ ?_
              · intro wx hx; obtain ⟨z0, z1, z2, z3, z4, z5⟩ := KC.out wx hx; go_simp; try (exact HG1.out)
              try simp only [Act.put, List.getElem_toArray, List.getElem_cons_succ, List.getElem_cons_zero, List.setIfInBounds_toArray, List.set_cons_zero, List.set_cons_succ]
              refine quiet_value_plain (.bool h2) rfl ?_ ?_
              · intro wx hx; obtain ⟨z0, z1, z2, z3, z4, z5⟩ := KC.out wx hx; go_simp; try (exact HG1.out)
              try simp only [Act.put, List.getElem_toArray, List.getElem_cons_succ, List.getElem_cons_zero, List.setIfInBounds_toArray, List.set_cons_zero, List.set_cons_succ]
              refine quiet_value_plain (.bool false) rfl ?_ ?_
              · intro wx hx; obtain ⟨z0, z1, z2, z3, z4, z5⟩ := KC.out wx hx; go_simp; try (exact HG1.out)
              try simp only [Act.put, List.getElem_toArray, List.getElem_cons_succ, List.getElem_cons_zero, List.setIfInBounds_toArray, List.set_cons_zero, List.set_cons_succ]
              refine quiet_value_plain (.bool false) rfl ?_ ?_
              · intro wx hx; obtain ⟨z0, z1, z2, z3, z4, z5⟩ := KC.out wx hx; go_simp; try (exact HG1.out)
              try simp only [Act.put, List.getElem_toArray, List.getElem_cons_succ, List.getElem_cons_zero, List.setIfInBounds_toArray, List.set_cons_zero, List.set_cons_succ]
              refine quiet_value (.slice u.a u.n u.c) (by go_simp) ?_ ?_
              · intro wx hx; obtain ⟨z0, z1, z2, z3, z4, z5⟩ := KC.out wx hx; go_simp; try (exact HG1.out)
              try simp only [Act.put, List.getElem_toArray, List.getElem_cons_succ, List.getElem_cons_zero, List.setIfInBounds_toArray, List.set_cons_zero, List.set_cons_succ]
              refine quiet_value (.int .i64 (k : Int)) (by go_simp) ?_ ?_
              · intro wx hx; obtain ⟨z0, z1, z2, z3, z4, z5⟩ := KC.out wx hx; go_simp; try (exact HG1.out)
              try simp only [Act.put, List.getElem_toArray, List.getElem_cons_succ, List.getElem_cons_zero, List.setIfInBounds_toArray, List.set_cons_zero, List.set_cons_succ]
              refine quiet_value (.pointer (some ⟨b1, o1, none⟩)) (by go_simp) ?_ ?_
              · intro wx hx; obtain ⟨z0, z1, z2, z3, z4, z5⟩ := KC.out wx hx; go_simp; try (exact HG1.out)
              try simp only [Act.put, List.getElem_toArray, List.getElem_cons_succ, List.getElem_cons_zero, List.setIfInBounds_toArray, List.set_cons_zero, List.set_cons_succ]
              refine quiet_value (.pointer (some ⟨b1, o1, none⟩)) (by go_simp) ?_ ?_
              · intro wx hx; obtain ⟨z0, z1, z2, z3, z4, z5⟩ := KC.out wx hx; go_simp; try (exact HG1.out)
              try simp only [Act.put, List.getElem_toArray, List.getElem_cons_succ, List.getElem_cons_zero, List.setIfInBounds_toArray, List.set_cons_zero, List.set_cons_succ]
              refine quiet_value (.slice q.1.lo.a q.1.lo.n q.1.lo.c) (by go_simp) ?_ ?_
              · intro wx hx; obtain ⟨z0, z1, z2, z3, z4, z5⟩ := KC.out wx hx; go_simp; try (exact HG1.out)
              try simp only [Act.put, List.getElem_toArray, List.getElem_cons_succ, List.getElem_cons_zero, List.setIfInBounds_toArray, List.set_cons_zero, List.set_cons_succ]
              refine quiet_value (.slice v.a v.n v.c) (by go_simp) ?_ ?_
              · intro wx hx; obtain ⟨z0, z1, z2, z3, z4, z5⟩ := KC.out wx hx; go_simp; try (exact HG1.out)
              try simp only [Act.put, List.getElem_toArray, List.getElem_cons_succ, List.getElem_cons_zero, List.setIfInBounds_toArray, List.set_cons_zero, List.set_cons_succ]
              refine quiet_value (.int .i64 (k : Int)) (by go_simp) ?_ ?_
              · intro wx hx; obtain ⟨z0, z1, z2, z3, z4, z5⟩ := KC.out wx hx; go_simp; try (exact HG1.out)
              try simp only [Act.put, List.getElem_toArray, List.getElem_cons_succ, List.getElem_cons_zero, List.setIfInBounds_toArray, List.set_cons_zero, List.set_cons_succ]
              refine quiet_value (.pointer (some ⟨b2, o2, none⟩)) (by go_simp) ?_ ?_
              · intro wx hx; obtain ⟨z0, z1, z2, z3, z4, z5⟩ := KC.out wx hx; go_simp; try (exact HG1.out)
              try simp only [Act.put, List.getElem_toArray, List.getElem_cons_succ, List.getElem_cons_zero, List.setIfInBounds_toArray, List.set_cons_zero, List.set_cons_succ]
              refine quiet_value (.pointer (some ⟨b2, o2, none⟩)) (by go_simp) ?_ ?_
              · intro wx hx; obtain ⟨z0, z1, z2, z3, z4, z5⟩ := KC.out wx hx; go_simp; try (exact HG1.out)
              try simp only [Act.put, List.getElem_toArray, List.getElem_cons_succ, List.getElem_cons_zero, List.setIfInBounds_toArray, List.set_cons_zero, List.set_cons_succ]
              refine quiet_value (.slice r.1.lo.a r.1.lo.n r.1.lo.c) (by go_simp) ?_ ?_
              · intro wx hx; obtain ⟨z0, z1, z2, z3, z4, z5⟩ := KC.out wx hx; go_simp; try (exact HG1.out)
              try simp only [Act.put, List.getElem_toArray, List.getElem_cons_succ, List.getElem_cons_zero, List.setIfInBounds_toArray, List.set_cons_zero, List.set_cons_succ]
              refine quiet_call (.bool true) 42 #[.slice q.1.lo.a q.1.lo.n q.1.lo.c, .slice r.1.lo.a r.1.lo.n r.1.lo.c] (by go_simp) ?_ ?_ ?_
              · intro wx hx; go_simp; try (exact ⟨rfl, rfl⟩)
              · intro wx hx; refine (CI.out wx hx).mono ?_; rintro e x ⟨rfl, hx2⟩; exact ⟨rfl, Below.call hx hx2⟩
              try simp only [Act.put, List.getElem_toArray, List.getElem_cons_succ, List.getElem_cons_zero, List.setIfInBounds_toArray, List.set_cons_zero, List.set_cons_succ]
              refine quiet_value (.bool false) (by go_simp) ?_ ?_
              · intro wx hx; obtain ⟨z0, z1, z2, z3, z4, z5⟩ := KC.out wx hx; go_simp; try (exact HG1.out)
              try simp only [Act.put, List.getElem_toArray, List.getElem_cons_succ, List.getElem_cons_zero, List.setIfInBounds_toArray, List.set_cons_zero, List.set_cons_succ]
              refine quiet_value_plain (.bool false) rfl ?_ ?_
              · intro wx hx; obtain ⟨z0, z1, z2, z3, z4, z5⟩ := KC.out wx hx; go_simp; try (exact HG1.out)
              try simp only [Act.put, List.getElem_toArray, List.getElem_cons_succ, List.getElem_cons_zero, List.setIfInBounds_toArray, List.set_cons_zero, List.set_cons_succ]
              refine quiet_value_plain (.bool false) rfl ?_ ?_
              · intro wx hx; obtain ⟨z0, z1, z2, z3, z4, z5⟩ := KC.out wx hx; go_simp; try (exact HG1.out)
              try simp only [Act.put, List.getElem_toArray, List.getElem_cons_succ, List.getElem_cons_zero, List.setIfInBounds_toArray, List.set_cons_zero, List.set_cons_succ]
              refine quiet_value (.slice u.a u.n u.c) (by go_simp) ?_ ?_
              · intro wx hx; obtain ⟨z0, z1, z2, z3, z4, z5⟩ := KC.out wx hx; go_simp; try (exact HG1.out)
              try simp only [Act.put, List.getElem_toArray, List.getElem_cons_succ, List.getElem_cons_zero, List.setIfInBounds_toArray, List.set_cons_zero, List.set_cons_succ]
              refine quiet_value (.int .i64 (k : Int)) (by go_simp) ?_ ?_
              · intro wx hx; obtain ⟨z0, z1, z2, z3, z4, z5⟩ := KC.out wx hx; go_simp; try (exact HG1.out)
              try simp only [Act.put, List.getElem_toArray, List.getElem_cons_succ, List.getElem_cons_zero, List.setIfInBounds_toArray, List.set_cons_zero, List.set_cons_succ]
              refine quiet_value (.pointer (some ⟨b1, o1, none⟩)) (by go_simp) ?_ ?_
              · intro wx hx; obtain ⟨z0, z1, z2, z3, z4, z5⟩ := KC.out wx hx; go_simp; try (exact HG1.out)
              try simp only [Act.put, List.getElem_toArray, List.getElem_cons_succ, List.getElem_cons_zero, List.setIfInBounds_toArray, List.set_cons_zero, List.set_cons_succ]
              refine quiet_value (.pointer (some ⟨b1, o1 + 1, none⟩)) (by go_simp) ?_ ?_
              · intro wx hx; obtain ⟨z0, z1, z2, z3, z4, z5⟩ := KC.out wx hx; go_simp; try (exact HG1.out)
              try simp only [Act.put, List.getElem_toArray, List.getElem_cons_succ, List.getElem_cons_zero, List.setIfInBounds_toArray, List.set_cons_zero, List.set_cons_succ]
              refine quiet_value (.slice q.1.hi.a q.1.hi.n q.1.hi.c) (by go_simp) ?_ ?_
              · intro wx hx; obtain ⟨z0, z1, z2, z3, z4, z5⟩ := KC.out wx hx; go_simp; try (exact HG1.out)
              try simp only [Act.put, List.getElem_toArray, List.getElem_cons_succ, List.getElem_cons_zero, List.setIfInBounds_toArray, List.set_cons_zero, List.set_cons_succ]
              refine quiet_value (.slice v.a v.n v.c) (by go_simp) ?_ ?_
              · intro wx hx; obtain ⟨z0, z1, z2, z3, z4, z5⟩ := KC.out wx hx; go_simp; try (exact HG1.out)
              try simp only [Act.put, List.getElem_toArray, List.getElem_cons_succ, List.getElem_cons_zero, List.setIfInBounds_toArray, List.set_cons_zero, List.set_cons_succ]
              refine quiet_value (.int .i64 (k : Int)) (by go_simp) ?_ ?_
              · intro wx hx; obtain ⟨z0, z1, z2, z3, z4, z5⟩ := KC.out wx hx; go_simp; try (exact HG1.out)
              try simp only [Act.put, List.getElem_toArray, List.getElem_cons_succ, List.getElem_cons_zero, List.setIfInBounds_toArray, List.set_cons_zero, List.set_cons_succ]
              refine quiet_value (.pointer (some ⟨b2, o2, none⟩)) (by go_simp) ?_ ?_
              · intro wx hx; obtain ⟨z0, z1, z2, z3, z4, z5⟩ := KC.out wx hx; go_simp; try (exact HG1.out)
              try simp only [Act.put, List.getElem_toArray, List.getElem_cons_succ, List.getElem_cons_zero, List.setIfInBounds_toArray, List.set_cons_zero, List.set_cons_succ]
              refine quiet_value (.pointer (some ⟨b2, o2 + 1, none⟩)) (by go_simp) ?_ ?_
              · intro wx hx; obtain ⟨z0, z1, z2, z3, z4, z5⟩ := KC.out wx hx; go_simp; try (exact HG1.out)
              try simp only [Act.put, List.getElem_toArray, List.getElem_cons_succ, List.getElem_cons_zero, List.setIfInBounds_toArray, List.set_cons_zero, List.set_cons_succ]
              refine quiet_value (.slice r.1.hi.a r.1.hi.n r.1.hi.c) (by go_simp) ?_ ?_
              · intro wx hx; obtain ⟨z0, z1, z2, z3, z4, z5⟩ := KC.out wx hx; go_simp; try (exact HG1.out)
              try simp only [Act.put, List.getElem_toArray, List.getElem_cons_succ, List.getElem_cons_zero, List.setIfInBounds_toArray, List.set_cons_zero, List.set_cons_succ]
              refine quiet_call (.bool false) 42 #[.slice q.1.hi.a q.1.hi.n q.1.hi.c, .slice r.1.hi.a r.1.hi.n r.1.hi.c] (by go_simp) ?_ ?_ ?_
              · intro wx hx; go_simp; try (exact ⟨rfl, rfl⟩)
              · intro wx hx; refine (CJ.out wx hx).mono ?_; rintro e x ⟨rfl, hx2⟩; exact ⟨rfl, Below.call hx hx2⟩
              try simp only [Act.put, List.getElem_toArray, List.getElem_cons_succ, List.getElem_cons_zero, List.setIfInBounds_toArray, List.set_cons_zero, List.set_cons_succ]
              refine quiet_value (.bool true) (by go_simp) ?_ ?_
              · intro wx hx; obtain ⟨z0, z1, z2, z3, z4, z5⟩ := KC.out wx hx; go_simp; try (exact HG1.out)
              try simp only [Act.put, List.getElem_toArray, List.getElem_cons_succ, List.getElem_cons_zero, List.setIfInBounds_toArray, List.set_cons_zero, List.set_cons_succ]
              refine quiet_value_plain (.bool true) rfl ?_ ?_
              · intro wx hx; obtain ⟨z0, z1, z2, z3, z4, z5⟩ := KC.out wx hx; go_simp; try (exact HG1.out)
              try simp only [Act.put, List.getElem_toArray, List.getElem_cons_succ, List.getElem_cons_zero, List.setIfInBounds_toArray, List.set_cons_zero, List.set_cons_succ]
              with_reducible refine wpQuiet_nil ?_
              intro W2 hW2
              have HW2 := Lib.hid hW2
              clear hW2
              go_wp2_with fail
              go_ret
              exact ⟨ret_bool HF.out.symm, Below.call HB.out HW2.out⟩
          · have e2 : decide (q.2.1 = r.2.1) = false := by simpa using g2
            rw [e2] at CI
            have HF := Lib.hid (HNO.out (by unfold plD; intro e; injection e with e1 e2; exact g2 e1))
            clear g1 g2 e2
            refine quiet_start (fun X => Below wr.heap.size wr X) (by kernel_rfl) (by kernel_rfl) ?_ ?_
            · exact (Below.refl _ _).drew
            refine quiet_value_plain (.slice u.a u.n u.c) rfl ?_ ?_
            · intro wx hx; obtain ⟨z0, z1, z2, z3, z4, z5⟩ := KC.out wx hx; go_simp; try (exact HG1.out)
            try simp only [Act.put, List.getElem_toArray, List.getElem_cons_succ, List.getElem_cons_zero, List.setIfInBounds_toArray, List.set_cons_zero, List.set_cons_succ]
            refine quiet_value_plain (.int .i64 (k : Int)) rfl ?_ ?_
            · intro wx hx; obtain ⟨z0, z1, z2, z3, z4, z5⟩ := KC.out wx hx; go_simp; try (exact HG1.out)
            try simp only [Act.put, List.getElem_toArray, List.getElem_cons_succ, List.getElem_cons_zero, List.setIfInBounds_toArray, List.set_cons_zero, List.set_cons_succ]
            refine quiet_value_plain (.pointer (some ⟨b1, o1, none⟩)) rfl ?_ ?_
            · intro wx hx; obtain ⟨z0, z1, z2, z3, z4, z5⟩ := KC.out wx hx; go_simp; try (exact HG1.out)
            try simp only [Act.put, List.getElem_toArray, List.getElem_cons_succ, List.getElem_cons_zero, List.setIfInBounds_toArray, List.set_cons_zero, List.set_cons_succ]
            refine quiet_value_plain (.pointer (some ⟨b1, o1 + 2, none⟩)) rfl ?_ ?_
            · intro wx hx; obtain ⟨z0, z1, z2, z3, z4, z5⟩ := KC.out wx hx; go_simp; try (exact HG1.out)
            try simp only [Act.put, List.getElem_toArray, List.getElem_cons_succ, List.getElem_cons_zero, List.setIfInBounds_toArray, List.set_cons_zero, List.set_cons_succ]
            refine quiet_value_plain (.bool h1) rfl ?_ ?_
            · intro wx hx; obtain ⟨z0, z1, z2, z3, z4, z5⟩ := KC.out wx hx; go_simp; try (exact HG1.out)
            try simp only [Act.put, List.getElem_toArray, List.getElem_cons_succ, List.getElem_cons_zero, List.setIfInBounds_toArray, List.set_cons_zero, List.set_cons_succ]
            refine quiet_value_plain (.slice v.a v.n v.c) rfl ?_ ?_
            · intro wx hx; obtain ⟨z0, z1, z2, z3, z4, z5⟩ := KC.out wx hx; go_simp; try (exact HG1.out)
            try simp only [Act.put, List.getElem_toArray, List.getElem_cons_succ, List.getElem_cons_zero, List.setIfInBounds_toArray, List.set_cons_zero, List.set_cons_succ]
            refine quiet_value_plain (.int .i64 (k : Int)) rfl ?_ ?_
            · intro wx hx; obtain ⟨z0, z1, z2, z3, z4, z5⟩ := KC.out wx hx; go_simp; try (exact HG1.out)
            try simp only [Act.put, List.getElem_toArray, List.getElem_cons_succ, List.getElem_cons_zero, List.setIfInBounds_toArray, List.set_cons_zero, List.set_cons_succ]
            refine quiet_value_plain (.pointer (some ⟨b2, o2, none⟩)) rfl ?_ ?_
            · intro wx hx; obtain ⟨z0, z1, z2, z3, z4, z5⟩ := KC.out wx hx; go_simp; try (exact HG1.out)
            try simp only [Act.put, List.getElem_toArray, List.getElem_cons_succ, List.getElem_cons_zero, List.setIfInBounds_toArray, List.set_cons_zero, List.set_cons_succ]
            refine quiet_value_plain (.pointer (some ⟨b2, o2 + 2, none⟩)) rfl ?_ ?_
            · intro wx hx; obtain ⟨z0, z1, z2, z3, z4, z5⟩ := KC.out wx hx; go_simp; try (exact HG1.out)
            try simp only [Act.put, List.getElem_toArray, List.getElem_cons_succ, List.getElem_cons_zero, List.setIfInBounds_toArray, List.set_cons_zero, List.set_cons_succ]
            refine quiet_value_plain (.bool h2) rfl ?_ ?_
            · intro wx hx; obtain ⟨z0, z1, z2, z3, z4, z5⟩ := KC.out wx hx; go_simp; try (exact HG1.out)
            try simp only [Act.put, List.getElem_toArray, List.getElem_cons_succ, List.getElem_cons_zero, List.setIfInBounds_toArray, List.set_cons_zero, List.set_cons_succ]
            refine quiet_value_plain (.bool false) rfl ?_ ?_
            · intro wx hx; obtain ⟨z0, z1, z2, z3, z4, z5⟩ := KC.out wx hx; go_simp; try (exact HG1.out)
            try simp only [Act.put, List.getElem_toArray, List.getElem_cons_succ, List.getElem_cons_zero, List.setIfInBounds_toArray, List.set_cons_zero, List.set_cons_succ]
            refine quiet_value_plain (.bool false) rfl ?_ ?_
            · intro wx hx; obtain ⟨z0, z1, z2, z3, z4, z5⟩ := KC.out wx hx; go_simp; try (exact HG1.out)
            try simp only [Act.put, List.getElem_toArray, List.getElem_cons_succ, List.getElem_cons_zero, List.setIfInBounds_toArray, List.set_cons_zero, List.set_cons_succ]
            refine quiet_value (.slice u.a u.n u.c) (by go_simp) ?_ ?_
            · intro wx hx; obtain ⟨z0, z1, z2, z3, z4, z5⟩ := KC.out wx hx; go_simp; try (exact HG1.out)
            try simp only [Act.put, List.getElem_toArray, List.getElem_cons_succ, List.getElem_cons_zero, List.setIfInBounds_toArray, List.set_cons_zero, List.set_cons_succ]
            refine quiet_value (.int .i64 (k : Int)) (by go_simp) ?_ ?_
            · intro wx hx; obtain ⟨z0, z1, z2, z3, z4, z5⟩ := KC.out wx hx; go_simp; try (exact HG1.out)
            try simp only [Act.put, List.getElem_toArray, List.getElem_cons_succ, List.getElem_cons_zero, List.setIfInBounds_toArray, List.set_cons_zero, List.set_cons_succ]
            refine quiet_value (.pointer (some ⟨b1, o1, none⟩)) (by go_simp) ?_ ?_
            · intro wx hx; obtain ⟨z0, z1, z2, z3, z4, z5⟩ := KC.out wx hx; go_simp; try (exact HG1.out)
            try simp only [Act.put, List.getElem_toArray, List.getElem_cons_succ, List.getElem_cons_zero, List.setIfInBounds_toArray, List.set_cons_zero, List.set_cons_succ]
            refine quiet_value (.pointer (some ⟨b1, o1, none⟩)) (by go_simp) ?_ ?_
            · intro wx hx; obtain ⟨z0, z1, z2, z3, z4, z5⟩ := KC.out wx hx; go_simp; try (exact HG1.out)
            try simp only [Act.put, List.getElem_toArray, List.getElem_cons_succ, List.getElem_cons_zero, List.setIfInBounds_toArray, List.set_cons_zero, List.set_cons_succ]
            refine quiet_value (.slice q.1.lo.a q.1.lo.n q.1.lo.c) (by go_simp) ?_ ?_
            · intro wx hx; obtain ⟨z0, z1, z2, z3, z4, z5⟩ := KC.out wx hx; go_simp; try (exact HG1.out)
            try simp only [Act.put, List.getElem_toArray, List.getElem_cons_succ, List.getElem_cons_zero, List.setIfInBounds_toArray, List.set_cons_zero, List.set_cons_succ]
            refine quiet_value (.slice v.a v.n v.c) (by go_simp) ?_ ?_
            · intro wx hx; obtain ⟨z0, z1, z2, z3, z4, z5⟩ := KC.out wx hx; go_simp; try (exact HG1.out)
            try simp only [Act.put, List.getElem_toArray, List.getElem_cons_succ, List.getElem_cons_zero, List.setIfInBounds_toArray, List.set_cons_zero, List.set_cons_succ]
            refine quiet_value (.int .i64 (k : Int)) (by go_simp) ?_ ?_
            · intro wx hx; obtain ⟨z0, z1, z2, z3, z4, z5⟩ := KC.out wx hx; go_simp; try (exact HG1.out)
            try simp only [Act.put, List.getElem_toArray, List.getElem_cons_succ, List.getElem_cons_zero, List.setIfInBounds_toArray, List.set_cons_zero, List.set_cons_succ]
            refine quiet_value (.pointer (some ⟨b2, o2, none⟩)) (by go_simp) ?_ ?_
            · intro wx hx; obtain ⟨z0, z1, z2, z3, z4, z5⟩ := KC.out wx hx; go_simp; try (exact HG1.out)
            try simp only [Act.put, List.getElem_toArray, List.getElem_cons_succ, List.getElem_cons_zero, List.setIfInBounds_toArray, List.set_cons_zero, List.set_cons_succ]
            refine quiet_value (.pointer (some ⟨b2, o2, none⟩)) (by go_simp) ?_ ?_
            · intro wx hx; obtain ⟨z0, z1, z2, z3, z4, z5⟩ := KC.out wx hx; go_simp; try (exact HG1.out)
            try simp only [Act.put, List.getElem_toArray, List.getElem_cons_succ, List.getElem_cons_zero, List.setIfInBounds_toArray, List.set_cons_zero, List.set_cons_succ]
            refine quiet_value (.slice r.1.lo.a r.1.lo.n r.1.lo.c) (by go_simp) ?_ ?_
            · intro wx hx; obtain ⟨z0, z1, z2, z3, z4, z5⟩ := KC.out wx hx; go_simp; try (exact HG1.out)
            try simp only [Act.put, List.getElem_toArray, List.getElem_cons_succ, List.getElem_cons_zero, List.setIfInBounds_toArray, List.set_cons_zero, List.set_cons_succ]
            refine quiet_call (.bool false) 42 #[.slice q.1.lo.a q.1.lo.n q.1.lo.c, .slice r.1.lo.a r.1.lo.n r.1.lo.c] (by go_simp) ?_ ?_ ?_
            · intro wx hx; go_simp; try (exact ⟨rfl, rfl⟩)
            · intro wx hx; refine (CI.out wx hx).mono ?_; rintro e x ⟨rfl, hx2⟩; exact ⟨rfl, Below.call hx hx2⟩
            try simp only [Act.put, List.getElem_toArray, List.getElem_cons_succ, List.getElem_cons_zero, List.setIfInBounds_toArray, List.set_cons_zero, List.set_cons_succ]
            refine quiet_value (.bool true) (by go_simp) ?_ ?_
            · intro wx hx; obtain ⟨z0, z1, z2, z3, z4, z5⟩ := KC.out wx hx; go_simp; try (exact HG1.out)
            try simp only [Act.put, List.getElem_toArray, List.getElem_cons_succ, List.getElem_cons_zero, List.setIfInBounds_toArray, List.set_cons_zero, List.set_cons_succ]
            refine quiet_value_plain (.bool true) rfl ?_ ?_
            · intro wx hx; obtain ⟨z0, z1, z2, z3, z4, z5⟩ := KC.out wx hx; go_simp; try (exact HG1.out)
            try simp only [Act.put, List.getElem_toArray, List.getElem_cons_succ, List.getElem_cons_zero, List.setIfInBounds_toArray, List.set_cons_zero, List.set_cons_succ]
            refine quiet_value_plain (.bool true) rfl ?_ ?_
            · intro wx hx; obtain ⟨z0, z1, z2, z3, z4, z5⟩ := KC.out wx hx; go_simp; try (exact HG1.out)
            try simp only [Act.put, List.getElem_toArray, List.getElem_cons_succ, List.getElem_cons_zero, List.setIfInBounds_toArray, List.set_cons_zero, List.set_cons_succ]
            with_reducible refine quiet_skip ?_ ?_
            · go_simp
            try simp only [Act.put, List.getElem_toArray, List.getElem_cons_succ, List.getElem_cons_zero, List.setIfInBounds_toArray, List.set_cons_zero, List.set_cons_succ]
            with_reducible refine quiet_skip ?_ ?_
            · go_simp
            try simp only [Act.put, List.getElem_toArray, List.getElem_cons_succ, List.getElem_cons_zero, List.setIfInBounds_toArray, List.set_cons_zero, List.set_cons_succ]
            with_reducible refine quiet_skip ?_ ?_
            · go_simp
            try simp only [Act.put, List.getElem_toArray, List.getElem_cons_succ, List.getElem_cons_zero, List.setIfInBounds_toArray, List.set_cons_zero, List.set_cons_succ]
            with_reducible refine quiet_skip ?_ ?_
            · go_simp
            try simp only [Act.put, List.getElem_toArray, List.getElem_cons_succ, List.getElem_cons_zero, List.setIfInBounds_toArray, List.set_cons_zero, List.set_cons_succ]
            with_reducible refine quiet_skip ?_ ?_
            · go_simp
            try simp only [Act.put, List.getElem_toArray, List.getElem_cons_succ, List.getElem_cons_zero, List.setIfInBounds_toArray, List.set_cons_zero, List.set_cons_succ]
            with_reducible refine quiet_skip ?_ ?_
            · go_simp
            try simp only [Act.put, List.getElem_toArray, List.getElem_cons_succ, List.getElem_cons_zero, List.setIfInBounds_toArray, List.set_cons_zero, List.set_cons_succ]
            with_reducible refine quiet_skip ?_ ?_
            · go_simp
            try simp only [Act.put, List.getElem_toArray, List.getElem_cons_succ, List.getElem_cons_zero, List.setIfInBounds_toArray, List.set_cons_zero, List.set_cons_succ]
            with_reducible refine quiet_skip ?_ ?_
            · go_simp
            try simp only [Act.put, List.getElem_toArray, List.getElem_cons_succ, List.getElem_cons_zero, List.setIfInBounds_toArray, List.set_cons_zero, List.set_cons_succ]
            with_reducible refine quiet_skip ?_ ?_
            · go_simp
            try simp only [Act.put, List.getElem_toArray, List.getElem_cons_succ, List.getElem_cons_zero, List.setIfInBounds_toArray, List.set_cons_zero, List.set_cons_succ]
            with_reducible refine quiet_skip ?_ ?_
            · go_simp
            try simp only [Act.put, List.getElem_toArray, List.getElem_cons_succ, List.getElem_cons_zero, List.setIfInBounds_toArray, List.set_cons_zero, List.set_cons_succ]
            with_reducible refine quiet_skip ?_ ?_
            · go_simp
            try simp only [Act.put, List.getElem_toArray, List.getElem_cons_succ, List.getElem_cons_zero, List.setIfInBounds_toArray, List.set_cons_zero, List.set_cons_succ]
            with_reducible refine quiet_skip ?_ ?_
            · go_simp
            try simp only [Act.put, List.getElem_toArray, List.getElem_cons_succ, List.getElem_cons_zero, List.setIfInBounds_toArray, List.set_cons_zero, List.set_cons_succ]
            refine quiet_value_plain (.bool true) rfl ?_ ?_
            · intro wx hx; obtain ⟨z0, z1, z2, z3, z4, z5⟩ := KC.out wx hx; go_simp; try (exact HG1.out)
            try simp only [Act.put, List.getElem_toArray, List.getElem_cons_succ, List.getElem_cons_zero, List.setIfInBounds_toArray, List.set_cons_zero, List.set_cons_succ]
            with_reducible refine wpQuiet_nil ?_
            intro W2 hW2
            have HW2 := Lib.hid hW2
            clear hW2
            go_wp2_with fail
            go_ret
            exact ⟨ret_bool HF.out.symm, Below.call HB.out HW2.out⟩
        · have t3 : (h1 != h2) = true := by simpa using g1
          have HG1 := Lib.hid g1
          have HF := Lib.hid (HNO.out (by unfold plD; intro e; injection e with e1 e2; injection e2 with e3 e4; rw [HH1.out, HH2.out] at e4; exact g1 e4))
          clear g1
          refine quiet_start (fun X => Below wr.heap.size wr X) (by kernel_rfl) (by kernel_rfl) ?_ ?_
          · exact (Below.refl _ _).drew
          refine quiet_value_plain (.slice u.a u.n u.c) rfl ?_ ?_
          · intro wx hx; obtain ⟨z0, z1, z2, z3, z4, z5⟩ := KC.out wx hx; go_simp; try (exact HG1.out)
          try simp only [Act.put, List.getElem_toArray, List.getElem_cons_succ, List.getElem_cons_zero, List.setIfInBounds_toArray, List.set_cons_zero, List.set_cons_succ]
          refine quiet_value_plain (.int .i64 (k : Int)) rfl ?_ ?_
          · intro wx hx; obtain ⟨z0, z1, z2, z3, z4, z5⟩ := KC.out wx hx; go_simp; try (exact HG1.out)
          try simp only [Act.put, List.getElem_toArray, List.getElem_cons_succ, List.getElem_cons_zero, List.setIfInBounds_toArray, List.set_cons_zero, List.set_cons_succ]
          refine quiet_value_plain (.pointer (some ⟨b1, o1, none⟩)) rfl ?_ ?_
          · intro wx hx; obtain ⟨z0, z1, z2, z3, z4, z5⟩ := KC.out wx hx; go_simp; try (exact HG1.out)
          try simp only [Act.put, List.getElem_toArray, List.getElem_cons_succ, List.getElem_cons_zero, List.setIfInBounds_toArray, List.set_cons_zero, List.set_cons_succ]
          refine quiet_value_plain (.pointer (some ⟨b1, o1 + 2, none⟩)) rfl ?_ ?_
          · intro wx hx; obtain ⟨z0, z1, z2, z3, z4, z5⟩ := KC.out wx hx; go_simp; try (exact HG1.out)
          try simp only [Act.put, List.getElem_toArray, List.getElem_cons_succ, List.getElem_cons_zero, List.setIfInBounds_toArray, List.set_cons_zero, List.set_cons_succ]
          refine quiet_value_plain (.bool h1) rfl ?_ ?_
          · intro wx hx; obtain ⟨z0, z1, z2, z3, z4, z5⟩ := KC.out wx hx; go_simp; try (exact HG1.out)
          try simp only [Act.put, List.getElem_toArray, List.getElem_cons_succ, List.getElem_cons_zero, List.setIfInBounds_toArray, List.set_cons_zero, List.set_cons_succ]
          refine quiet_value_plain (.slice v.a v.n v.c) rfl ?_ ?_
          · intro wx hx; obtain ⟨z0, z1, z2, z3, z4, z5⟩ := KC.out wx hx; go_simp; try (exact HG1.out)
          try simp only [Act.put, List.getElem_toArray, List.getElem_cons_succ, List.getElem_cons_zero, List.setIfInBounds_toArray, List.set_cons_zero, List.set_cons_succ]
          refine quiet_value_plain (.int .i64 (k : Int)) rfl ?_ ?_
          · intro wx hx; obtain ⟨z0, z1, z2, z3, z4, z5⟩ := KC.out wx hx; go_simp; try (exact HG1.out)
          try simp only [Act.put, List.getElem_toArray, List.getElem_cons_succ, List.getElem_cons_zero, List.setIfInBounds_toArray, List.set_cons_zero, List.set_cons_succ]
          refine quiet_value_plain (.pointer (some ⟨b2, o2, none⟩)) rfl ?_ ?_
          · intro wx hx; obtain ⟨z0, z1, z2, z3, z4, z5⟩ := KC.out wx hx; go_simp; try (exact HG1.out)
          try simp only [Act.put, List.getElem_toArray, List.getElem_cons_succ, List.getElem_cons_zero, List.setIfInBounds_toArray, List.set_cons_zero, List.set_cons_succ]
          refine quiet_value_plain (.pointer (some ⟨b2, o2 + 2, none⟩)) rfl ?_ ?_
          · intro wx hx; obtain ⟨z0, z1, z2, z3, z4, z5⟩ := KC.out wx hx; go_simp; try (exact HG1.out)
          try simp only [Act.put, List.getElem_toArray, List.getElem_cons_succ, List.getElem_cons_zero, List.setIfInBounds_toArray, List.set_cons_zero, List.set_cons_succ]
          refine quiet_value_plain (.bool h2) rfl ?_ ?_
          · intro wx hx; obtain ⟨z0, z1, z2, z3, z4, z5⟩ := KC.out wx hx; go_simp; try (exact HG1.out)
          try simp only [Act.put, List.getElem_toArray, List.getElem_cons_succ, List.getElem_cons_zero, List.setIfInBounds_toArray, List.set_cons_zero, List.set_cons_succ]
          refine quiet_value_plain (.bool true) rfl ?_ ?_
          · intro wx hx; obtain ⟨z0, z1, z2, z3, z4, z5⟩ := KC.out wx hx; go_simp; try (exact HG1.out)
          try simp only [Act.put, List.getElem_toArray, List.getElem_cons_succ, List.getElem_cons_zero, List.setIfInBounds_toArray, List.set_cons_zero, List.set_cons_succ]
          refine quiet_value_plain (.bool true) rfl ?_ ?_
          · intro wx hx; obtain ⟨z0, z1, z2, z3, z4, z5⟩ := KC.out wx hx; go_simp; try (exact HG1.out)
          try simp only [Act.put, List.getElem_toArray, List.getElem_cons_succ, List.getElem_cons_zero, List.setIfInBounds_toArray, List.set_cons_zero, List.set_cons_succ]
          with_reducible refine quiet_skip ?_ ?_
          · go_simp
          try simp only [Act.put, List.getElem_toArray, List.getElem_cons_succ, List.getElem_cons_zero, List.setIfInBounds_toArray, List.set_cons_zero, List.set_cons_succ]
          with_reducible refine quiet_skip ?_ ?_
          · go_simp
          try simp only [Act.put, List.getElem_toArray, List.getElem_cons_succ, List.getElem_cons_zero, List.setIfInBounds_toArray, List.set_cons_zero, List.set_cons_succ]
          with_reducible refine quiet_skip ?_ ?_
          · go_simp
          try simp only [Act.put, List.getElem_toArray, List.getElem_cons_succ, List.getElem_cons_zero, List.setIfInBounds_toArray, List.set_cons_zero, List.set_cons_succ]
          with_reducible refine quiet_skip ?_ ?_
          · go_simp
          try simp only [Act.put, List.getElem_toArray, List.getElem_cons_succ, List.getElem_cons_zero, List.setIfInBounds_toArray, List.set_cons_zero, List.set_cons_succ]
          with_reducible refine quiet_skip ?_ ?_
          · go_simp
          try simp only [Act.put, List.getElem_toArray, List.getElem_cons_succ, List.getElem_cons_zero, List.setIfInBounds_toArray, List.set_cons_zero, List.set_cons_succ]
          with_reducible refine quiet_skip ?_ ?_
          · go_simp
          try simp only [Act.put, List.getElem_toArray, List.getElem_cons_succ, List.getElem_cons_zero, List.setIfInBounds_toArray, List.set_cons_zero, List.set_cons_succ]
          with_reducible refine quiet_skip ?_ ?_
          · go_simp
          try simp only [Act.put, List.getElem_toArray, List.getElem_cons_succ, List.getElem_cons_zero, List.setIfInBounds_toArray, List.set_cons_zero, List.set_cons_succ]
          with_reducible refine quiet_skip ?_ ?_
          · go_simp
          try simp only [Act.put, List.getElem_toArray, List.getElem_cons_succ, List.getElem_cons_zero, List.setIfInBounds_toArray, List.set_cons_zero, List.set_cons_succ]
          with_reducible refine quiet_skip ?_ ?_
          · go_simp
          try simp only [Act.put, List.getElem_toArray, List.getElem_cons_succ, List.getElem_cons_zero, List.setIfInBounds_toArray, List.set_cons_zero, List.set_cons_succ]
          with_reducible refine quiet_skip ?_ ?_
          · go_simp
          try simp only [Act.put, List.getElem_toArray, List.getElem_cons_succ, List.getElem_cons_zero, List.setIfInBounds_toArray, List.set_cons_zero, List.set_cons_succ]
          with_reducible refine quiet_skip ?_ ?_
          · go_simp
          try simp only [Act.put, List.getElem_toArray, List.getElem_cons_succ, List.getElem_cons_zero, List.setIfInBounds_toArray, List.set_cons_zero, List.set_cons_succ]
          with_reducible refine quiet_skip ?_ ?_
          · go_simp
          try simp only [Act.put, List.getElem_toArray, List.getElem_cons_succ, List.getElem_cons_zero, List.setIfInBounds_toArray, List.set_cons_zero, List.set_cons_succ]
          refine quiet_value_plain (.bool true) rfl ?_ ?_
          · intro wx hx; obtain ⟨z0, z1, z2, z3, z4, z5⟩ := KC.out wx hx; go_simp; try (exact HG1.out)
          try simp only [Act.put, List.getElem_toArray, List.getElem_cons_succ, List.getElem_cons_zero, List.setIfInBounds_toArray, List.set_cons_zero, List.set_cons_succ]
          refine quiet_value_plain (.bool true) rfl ?_ ?_
          · intro wx hx; obtain ⟨z0, z1, z2, z3, z4, z5⟩ := KC.out wx hx; go_simp; try (exact HG1.out)
          try simp only [Act.put, List.getElem_toArray, List.getElem_cons_succ, List.getElem_cons_zero, List.setIfInBounds_toArray, List.set_cons_zero, List.set_cons_succ]
          with_reducible refine quiet_skip ?_ ?_
          · go_simp
          try simp only [Act.put, List.getElem_toArray, List.getElem_cons_succ, List.getElem_cons_zero, List.setIfInBounds_toArray, List.set_cons_zero, List.set_cons_succ]
          with_reducible refine quiet_skip ?_ ?_
          · go_simp
          try simp only [Act.put, List.getElem_toArray, List.getElem_cons_succ, List.getElem_cons_zero, List.setIfInBounds_toArray, List.set_cons_zero, List.set_cons_succ]
          with_reducible refine quiet_skip ?_ ?_
          · go_simp
          try simp only [Act.put, List.getElem_toArray, List.getElem_cons_succ, List.getElem_cons_zero, List.setIfInBounds_toArray, List.set_cons_zero, List.set_cons_succ]
          with_reducible refine quiet_skip ?_ ?_
          · go_simp
          try simp only [Act.put, List.getElem_toArray, List.getElem_cons_succ, List.getElem_cons_zero, List.setIfInBounds_toArray, List.set_cons_zero, List.set_cons_succ]
          with_reducible refine quiet_skip ?_ ?_
          · go_simp
          try simp only [Act.put, List.getElem_toArray, List.getElem_cons_succ, List.getElem_cons_zero, List.setIfInBounds_toArray, List.set_cons_zero, List.set_cons_succ]
          with_reducible refine quiet_skip ?_ ?_
          · go_simp
          try simp only [Act.put, List.getElem_toArray, List.getElem_cons_succ, List.getElem_cons_zero, List.setIfInBounds_toArray, List.set_cons_zero, List.set_cons_succ]
          with_reducible refine quiet_skip ?_ ?_
          · go_simp
          try simp only [Act.put, List.getElem_toArray, List.getElem_cons_succ, List.getElem_cons_zero, List.setIfInBounds_toArray, List.set_cons_zero, List.set_cons_succ]
          with_reducible refine quiet_skip ?_ ?_
          · go_simp
          try simp only [Act.put, List.getElem_toArray, List.getElem_cons_succ, List.getElem_cons_zero, List.setIfInBounds_toArray, List.set_cons_zero, List.set_cons_succ]
          with_reducible refine quiet_skip ?_ ?_
          · go_simp
          try simp only [Act.put, List.getElem_toArray, List.getElem_cons_succ, List.getElem_cons_zero, List.setIfInBounds_toArray, List.set_cons_zero, List.set_cons_succ]
          with_reducible refine quiet_skip ?_ ?_
          · go_simp
          try simp only [Act.put, List.getElem_toArray, List.getElem_cons_succ, List.getElem_cons_zero, List.setIfInBounds_toArray, List.set_cons_zero, List.set_cons_succ]
          with_reducible refine quiet_skip ?_ ?_
          · go_simp
          try simp only [Act.put, List.getElem_toArray, List.getElem_cons_succ, List.getElem_cons_zero, List.setIfInBounds_toArray, List.set_cons_zero, List.set_cons_succ]
          with_reducible refine quiet_skip ?_ ?_
          · go_simp
          try simp only [Act.put, List.getElem_toArray, List.getElem_cons_succ, List.getElem_cons_zero, List.setIfInBounds_toArray, List.set_cons_zero, List.set_cons_succ]
          refine quiet_value_plain (.bool true) rfl ?_ ?_
          · intro wx hx; obtain ⟨z0, z1, z2, z3, z4, z5⟩ := KC.out wx hx; go_simp; try (exact HG1.out)
          try simp only [Act.put, List.getElem_toArray, List.getElem_cons_succ, List.getElem_cons_zero, List.setIfInBounds_toArray, List.set_cons_zero, List.set_cons_succ]
          with_reducible refine wpQuiet_nil ?_
          intro W2 hW2
          have HW2 := Lib.hid hW2
          clear hW2
          go_wp2_with fail
          go_ret
          exact ⟨ret_bool HF.out.symm, Below.call HB.out HW2.out⟩
      · have HF : Hid (decide (qs.map plD = rs.map plD) = true) := Lib.hid (by
          rw [← HK.out, List.drop_eq_nil_of_le (by rw [List.length_map, HL.out]; omega), List.drop_eq_nil_of_le (by rw [List.length_map, HM.out, ← HNM.out]; omega)]
          rfl)
        go_wp2_with fail
        go_ret
        exact ⟨ret_bool HF.out.symm, HB.out⟩
  · have t1 : ((u.n : Int) != (v.n : Int)) = true := by simp; omega
    have HF : Hid (decide (qs.map plD = rs.map plD) = false) := Lib.hid (by
      rw [decide_eq_false_iff_not]; intro e; apply hnm
      rw [← HL.out, ← HM.out, ← List.length_map (f := plD), e, List.length_map])
    clear hnm
    go_enter Try.func15, Try.ntmps15
    go_wp2_with fail
    go_ret
    exact ⟨ret_bool HF.out.symm, Below.refl _ _⟩
end Go.Proofs.Ytcncobhdfflelaa
