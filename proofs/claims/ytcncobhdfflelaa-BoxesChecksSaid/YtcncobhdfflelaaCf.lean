/- The contract of boxes.disjoint: the sort and the loops. -/
import Derived.Test.YtcncobhdfflelaaCe
namespace Go.Proofs.Ytcncobhdfflelaa
open Go.RowKit

theorem mem_list (w : World) (n : Nat) (hn : n ≤ 1000000) : ∀ qs : List BxM, (∀ q ∈ qs, BoxOk w n q) → ∃ ds : List (MemB w), ds.map (·.1) = qs
  | [], _ => ⟨[], rfl⟩
  | q :: qs, h => by
    obtain ⟨ds, hd⟩ := mem_list w n hn qs (fun p hp => h p (List.mem_cons_of_mem _ hp))
    have hq := h q List.mem_cons_self
    exact ⟨⟨q, hq.lo, hq.hi, by rw [hq.n1]; exact hn⟩ :: ds, congrArg (q :: ·) hd⟩
theorem enc_list {w : World} (ds : List (MemB w)) : ds.flatMap (encB w) = ((ds.map (·.1)).map (·.1)).flatMap bxL := by
  rw [List.map_map, List.flatMap_map]
  rfl
abbrev boxB (W : World) (b : BxC) : World := W.alloc (.cells #[.slice b.lo.a b.lo.n b.lo.c, .slice b.hi.a b.hi.n b.hi.c, .bool b.holds] 44)
/-- behind clone and sort: the same boxes in another order -/
structure Sorted (w W : World) (n : Nat) (u v : Sl) (qs rs : List BxM) : Prop where
  perm : rs.Perm qs
  srt : (rs.map (·.2)).Pairwise (fun b c => ¬ Bx.cmpL c.1 b.1 < 0)
  rd : Rd W W.heap.size 3 v.a u.n ((rs.map (·.1)).flatMap bxL)
  cap : u.n ≤ v.c
  bl : Below w.heap.size w W
  ok : ∀ q ∈ rs, BoxOk W n q
  len : rs.length = u.n

/-- between two rounds of the outer loop -/
structure OutRel (w W0 W : World) (rs : List BxM) (k : Nat) : Prop where
  bl : Below W0.heap.size W0 W
  ds : Bx.disj ((rs.map (·.2)).drop k) = Bx.disj (rs.map (·.2))

set_option linter.unusedSimpArgs false in
set_option linter.unusedVariables false in
set_option maxRecDepth 100000 in
set_option maxHeartbeats 3200000 in
theorem disjoint47_main (u : Sl) (qs : List BxM) (n : Nat) (w : World) (hu : Rd w w.heap.size 3 u.a u.n ((qs.map (·.1)).flatMap bxL)) (hq : ∀ q ∈ qs, BoxOk w (n + 1) q) (hn : n ≤ 1000) (hun : 2 ≤ u.n) (hun2 : u.n ≤ 1000000) :
    Calls Try.prog 47 #[.slice u.a u.n u.c] w fun e w' => e = .returned (.bool (Bx.disj (qs.map (·.2)))) ∧ Below w.heap.size w w' := by
  have hl : qs.length = u.n := by have := hu.len (fun _ => rfl) (by omega); simpa using this
  obtain ⟨b, off, q, hqi, _, hix, c0, _, _⟩ := box_at hu u.c (show 0 < u.n by omega)
  have t2 : q.1.lo.n = n + 1 := (hq q (List.mem_of_getElem? hqi)).n1
  rw [t2] at c0
  have t1 : decide ((u.n : Int) < 2) = false := by simp; omega
  have t3 : (((n + 1 : Nat) : Int) == 0) = false := by simp; omega
  have hix0 : ∀ W, Sem.run Try.prog (Instr.indexAt 26 (.slice u.a u.n u.c) (.int .i64 0)) W = .ok (.pointer (some ⟨b, off, none⟩)) W := hix
  have CL := Lib.hid (clone60 _ u.a u.n u.c w hu (fun x hx => by obtain ⟨r, _, hr⟩ := List.mem_flatMap.1 hx; simp at hr; rcases hr with rfl | rfl | rfl <;> rfl) hun2)
  obtain ⟨ds, hds⟩ := mem_list w (n + 1) (by omega) qs hq
  have HDS := Lib.hid hds
  have HL := Lib.hid hl
  have HQ := Lib.hid hq
  clear hl hq hqi t2 hix hds hu
  go_enter Try.func47, Try.ntmps47
  go_wp2_with fail
  refine CL.out.mono ?_
  rintro e v1 ⟨v, rfl, o1, h1⟩
  have SO : Hid (Calls Try.prog 61 #[.slice v.a u.n v.c, .func (.func 62) #[] #[]] v1 fun e w' => e = .returned (.tuple #[]) ∧ ∃ rs, Sorted w w' (n + 1) u v qs rs) := Lib.hid (by
    rcases o1.2 with ⟨_, h0⟩ | ⟨g, cap, cur, hv, _⟩
    · omega
    · injection hv with hA hn' hc'
      have hdl : ds.length = u.n := by rw [← HL.out, ← HDS.out, List.length_map]
      have e1 : ds.flatMap (encB w) = (qs.map (·.1)).flatMap bxL := by rw [enc_list, HDS.out]
      rw [hA, ← hdl]
      rw [hA, ← e1, ← hdl] at o1
      refine (sort61 w v1 h1 ds g v.c o1 (by omega)).mono fun e w' ⟨he, d', hp, hs, ho, hb⟩ => ⟨he, d'.map (·.1), ?_⟩
      have hpm : (d'.map (·.1)).Perm qs := by rw [← HDS.out]; exact hp.map _
      refine ⟨hpm, ?_, ?_, ?_, hb, fun q hq => (HQ.out q (hpm.mem_iff.1 hq)).up hb, ?_⟩
      · rw [List.map_map, List.pairwise_map]
        exact hs
      · rw [hA, ← hdl, ← enc_list]; exact own_rd ho
      · rw [← hdl]; exact own_cap o1
      · rw [hpm.length_eq, HL.out])
  clear CL o1 h1 HDS ds c0 hix0
  go_wp2_with fail
  refine SO.out.mono ?_
  rintro e w2 ⟨rfl, rs, hS⟩
  have HS := Lib.hid hS
  clear hS SO
  go_wp2_with fail
  go_loopw [23] (fun i W => ∃ k : Nat, k ≤ u.n ∧ i = .int .i64 k ∧ Hid (OutRel w w2 W rs k)) (fun i _ => u.n - (intOf i).toNat)
  case atStart => exact ⟨0, Nat.zero_le _, rfl, Lib.hid ⟨Below.refl _ _, rfl⟩⟩
  case round =>
    obtain ⟨wo, rfl⟩ : ∃ W, W = wr := ⟨wr, rfl⟩
    obtain ⟨k, hk, rfl, HR⟩ := hrel
    by_cases hlt : k < u.n
    · obtain ⟨b1, o1, a, ha, hb1, hix1, x0, x1, x2⟩ := box_at (HS.out.rd.up HR.out.bl) v.c hlt
      obtain ⟨A', hsl, hrd⟩ := tail26 HS.out.rd hlt HS.out.cap
      have HA := Lib.hid ha
      have HRD := Lib.hid hrd
      have hwr : IntKind.i64.wrap ((k : Int) + 1) = (k : Int) + 1 := by rw [IntWalk.i64_left, IntWalk.wrap64_in _ (by omega)]
      clear ha hrd
      obtain ⟨M, hM⟩ : ∃ M, u.n - (k + 1) = M := ⟨_, rfl⟩
      rw [hM] at hsl HRD
      have hMk : M + (k + 1) = u.n := by omega
      have HT : Hid (Rd w2 w2.heap.size 3 A' M (((rs.drop (k + 1)).map (·.1)).flatMap bxL)) := Lib.hid (by
        have := HRD.out w2 w2.heap.size HS.out.rd
        rw [flatMap_drop bxL 3 (fun _ => rfl), ← List.map_drop] at this
        exact this)
      have hdk : (rs.map (·.2)).drop k = a.2 :: (rs.map (·.2)).drop (k + 1) := by
        have h1 : (rs.map (·.2))[k]? = some a.2 := by rw [List.getElem?_map, HA.out]; rfl
        obtain ⟨h2, h3⟩ := List.getElem?_eq_some_iff.1 h1
        rw [List.drop_eq_getElem_cons h2, h3]
      have hdims : ∀ b ∈ rs.map (·.2), Bx.Dims (n + 1) b := fun b hb => by obtain ⟨q, hq, rfl⟩ := List.mem_map.1 hb; exact (HS.out.ok q hq).dims
      have DST : Hid (Bx.disj (qs.map (·.2)) = (Bx.scan a.2 ((rs.map (·.2)).drop (k + 1)) && Bx.disj ((rs.map (·.2)).drop (k + 1)))) := Lib.hid (by
        rw [← Bx.disj_perm (n := n + 1) (HS.out.perm.map (·.2)) hdims, ← HR.out.ds, hdk]
        exact Bx.disj_step (hdims a.2 (List.mem_map.2 ⟨a, List.mem_of_getElem? HA.out, rfl⟩)) (fun b hb => hdims b (List.mem_of_mem_drop hb)) (List.Pairwise.sublist (List.drop_sublist _ _) HS.out.srt))
      have DSN : Hid (Bx.scan a.2 ((rs.map (·.2)).drop (k + 1)) = true → Bx.disj ((rs.map (·.2)).drop (k + 1)) = Bx.disj (rs.map (·.2))) := Lib.hid (fun h => by
        rw [Bx.disj_perm (n := n + 1) (HS.out.perm.map (·.2)) hdims, DST.out, h, Bool.true_and])
      have DSF : Hid (Bx.scan a.2 ((rs.map (·.2)).drop (k + 1)) = false → Bx.disj (qs.map (·.2)) = false) := Lib.hid (fun h => by rw [DST.out, h, Bool.false_and])
      have OKA := Lib.hid (HS.out.ok a (List.mem_of_getElem? HA.out))
      have BO : Hid (Below w2.heap.size w2 (boxB wo a.1)) := Lib.hid (HR.out.bl.alloc HR.out.bl.size _)
      clear hM hdk hdims HRD
      go_wp2_with fail
      go_loopw [33] (fun i W => ∃ j : Nat, j ≤ M ∧ i = .int .i64 j ∧ Hid (Bx.scan a.2 (((rs.map (·.2)).drop (k + 1)).drop j) = Bx.scan a.2 ((rs.map (·.2)).drop (k + 1))) ∧ Hid (Below (wo.heap.size + 1) (boxB wo a.1) W)) (fun i _ => M - (intOf i).toNat)
      case atStart => exact ⟨0, Nat.zero_le _, rfl, Lib.hid rfl, Lib.hid (Below.refl _ _)⟩
      case round =>
        obtain ⟨wi, rfl⟩ : ∃ W, W = wr := ⟨wr, rfl⟩
        obtain ⟨j, hj, rfl, HK, HI⟩ := hrel
        have hwi := HI.out.size
        simp at hwi
        have BW : Hid (Below w2.heap.size w2 wi) := Lib.hid (BO.out.trans (HI.out.mono (by have := HR.out.bl.size; omega)))
        by_cases hlj : j < M
        · obtain ⟨b2, o2, c, hc, hb2, hix2, y0, y1, y2⟩ := box_at (HT.out.up BW.out) (v.c - (k + 1)) hlj
          have hcr : c ∈ rs := List.mem_of_mem_drop (List.mem_of_getElem? hc)
          have OKC := Lib.hid ((HS.out.ok c hcr).up BW.out)
          have OKAi := Lib.hid (OKA.out.up BW.out)
          obtain ⟨b3, o3, x, hx, hix3, z3, hb3, hxl⟩ := rd_int OKC.out.lo c.1.lo.c (show 0 < c.1.lo.n by rw [OKC.out.n1]; omega)
          obtain ⟨b4, o4, y, hy, hix4, z4, hb4, hyl⟩ := rd_int OKAi.out.hi a.1.hi.c (show 0 < a.1.hi.n by rw [OKAi.out.n2]; omega)
          have hix3' : ∀ W, Sem.run Try.prog (Instr.indexAt 22 (.slice c.1.lo.a c.1.lo.n c.1.lo.c) (.int .i64 0)) W = .ok (.pointer (some ⟨b3, o3, none⟩)) W := hix3
          have hix4' : ∀ W, Sem.run Try.prog (Instr.indexAt 22 (.slice a.1.hi.a a.1.hi.n a.1.hi.c) (.int .i64 0)) W = .ok (.pointer (some ⟨b4, o4, none⟩)) W := hix4
          have hcd : ((rs.map (·.2)).drop (k + 1)).drop j = c.2 :: ((rs.map (·.2)).drop (k + 1)).drop (j + 1) := by
            have h1 : ((rs.map (·.2)).drop (k + 1))[j]? = some c.2 := by rw [← List.map_drop, List.getElem?_map, hc]; rfl
            obtain ⟨h2, h3⟩ := List.getElem?_eq_some_iff.1 h1
            rw [List.drop_eq_getElem_cons h2, h3]
          have HZ : Hid (Bx.scan a.2 ((rs.map (·.2)).drop (k + 1)) = if y < x then true else if Bx.meetD a.2 c.2 then false else Bx.scan a.2 (((rs.map (·.2)).drop (k + 1)).drop (j + 1))) := Lib.hid (by
            rw [← HK.out, hcd, Bx.scan]
            have e1 : Bx.at0 a.2.2 0 = y := by unfold Bx.at0; rw [hy]; rfl
            have e2 : Bx.at0 c.2.1 0 = x := by unfold Bx.at0; rw [hx]; rfl
            rw [e1, e2])
          have a0 : wi.cell? ⟨wo.heap.size, 0, none⟩ = some (.slice a.1.lo.a a.1.lo.n a.1.lo.c) := (HI.out.cell (p := ⟨wo.heap.size, 0, none⟩) (Nat.lt_succ_self _)).trans (by simp [boxB, go_sem])
          have a1 : wi.cell? ⟨wo.heap.size, 1, none⟩ = some (.slice a.1.hi.a a.1.hi.n a.1.hi.c) := (HI.out.cell (p := ⟨wo.heap.size, 1, none⟩) (Nat.lt_succ_self _)).trans (by simp [boxB, go_sem])
          have a2 : wi.cell? ⟨wo.heap.size, 2, none⟩ = some (.bool a.1.holds) := (HI.out.cell (p := ⟨wo.heap.size, 2, none⟩) (Nat.lt_succ_self _)).trans (by simp [boxB, go_sem])
          have CM := Lib.hid (fun (X : World) (hX : Below wi.heap.size wi X) => meet64 a.1 c.1 a.2.1 a.2.2 c.2.1 c.2.2 (n + 1) X (OKAi.out.up hX).lo (OKAi.out.up hX).hi (OKC.out.up hX).lo (OKC.out.up hX).hi OKAi.out.n1 OKAi.out.n2 OKC.out.n1 OKC.out.n2 (by omega))
          have m1 : wo.heap.size < wi.heap.size := by omega
          have h3s : b3 < wi.heap.size := hb3
          have h4s : b4 < wi.heap.size := hb4
          clear hc hcr hx hy hxl hyl hcd hix3 hix4
          by_cases q1 : y < x
          · have HF : Hid (Bx.scan a.2 ((rs.map (·.2)).drop (k + 1)) = true) := Lib.hid (by rw [HZ.out, if_pos q1])
            go_wp2_with fail
            go_quiet (fail)
            go_wp2_with fail
            go_roundw
            case rel => exact ⟨k + 1, by omega, by go_num, Lib.hid ⟨below_drewN (BW.out.alloc BW.out.size _) _, DSN.out HF.out⟩⟩
            case measure => simp [intOf]; omega
          · have t5 : decide (y < x) = false := by simpa using q1
            have Q1 := Lib.hid q1
            go_wp2_with fail
            go_quiet (fail)
            go_wp2_with fail
            refine (CM.out _ (below_drewN ((Below.refl _ _).alloc (Nat.le_refl _) _) _)).mono ?_
            rintro e w5 ⟨rfl, h5⟩
            have H5 : Hid (Below wi.heap.size wi w5) := Lib.hid (Below.call (below_drewN ((Below.refl _ _).alloc (Nat.le_refl _) _) _) h5)
            clear h5 CM
            cases hm : Bx.meet a.2.1 a.2.2 c.2.1 c.2.2 with
            | true =>
              have HF : Hid (Bx.disj (qs.map (·.2)) = false) := Lib.hid (DSF.out (by rw [HZ.out, if_neg (Int.not_lt.2 Q1.out)]; unfold Bx.meetD; rw [hm]; rfl))
              clear hm
              go_wp2_with fail
              go_ret
              exact ⟨ret_bool HF.out.symm, Below.call HS.out.bl (Below.call BW.out H5.out)⟩
            | false =>
              have HF : Hid (Bx.scan a.2 (((rs.map (·.2)).drop (k + 1)).drop (j + 1)) = Bx.scan a.2 ((rs.map (·.2)).drop (k + 1))) := Lib.hid (by rw [HZ.out, if_neg (Int.not_lt.2 Q1.out)]; unfold Bx.meetD; rw [hm]; rfl)
              clear hm
              go_wp2_with fail
              go_roundw
              case rel => exact ⟨j + 1, by omega, by go_num, HF, Lib.hid (HI.out.trans (H5.out.mono hwi))⟩
              case measure => simp [intOf]; omega
        · have HF : Hid (Bx.scan a.2 ((rs.map (·.2)).drop (k + 1)) = true) := Lib.hid (by
            rw [← HK.out, List.drop_eq_nil_of_le (by rw [List.length_drop, List.length_map, HS.out.len]; omega)]
            rfl)
          go_wp2_with fail
          go_roundw
          case rel => exact ⟨k + 1, by omega, by go_num, Lib.hid ⟨BW.out, DSN.out HF.out⟩⟩
          case measure => simp [intOf]; omega
    · have HF : Hid (Bx.disj (qs.map (·.2)) = true) := Lib.hid (by
        rw [← Bx.disj_perm (n := n + 1) (HS.out.perm.map (·.2)) (fun b hb => by obtain ⟨q, hq, rfl⟩ := List.mem_map.1 hb; exact (HS.out.ok q hq).dims), ← HR.out.ds, List.drop_eq_nil_of_le (by rw [List.length_map, HS.out.len]; omega)]
        rfl)
      go_wp2_with fail
      go_ret
      exact ⟨ret_bool HF.out.symm, Below.call HS.out.bl HR.out.bl⟩

theorem disjoint47 (u : Sl) (qs : List BxM) (n : Nat) (w : World) (hu : Rd w w.heap.size 3 u.a u.n ((qs.map (·.1)).flatMap bxL)) (hq : ∀ q ∈ qs, BoxOk w n q) (hn : n ≤ 1000) (hun2 : u.n ≤ 1000000) :
    Calls Try.prog 47 #[.slice u.a u.n u.c] w fun e w' => e = .returned (.bool (Bx.disj (qs.map (·.2)))) ∧ Below w.heap.size w w' := by
  by_cases h : u.n < 2
  · exact disjoint47_few u qs w hu h
  · cases n with
    | zero => exact disjoint47_zero u qs w hu hq (by omega)
    | succ n => exact disjoint47_main u qs n w hu hq (by omega) (by omega) hun2
end Go.Proofs.Ytcncobhdfflelaa
