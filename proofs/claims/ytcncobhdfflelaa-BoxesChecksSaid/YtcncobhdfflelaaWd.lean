/- The contract of boxes.volume. -/
import Derived.Test.YtcncobhdfflelaaWc
import Derived.Test.YtcncobhdfflelaaSo
namespace Go.Proofs.Ytcncobhdfflelaa
open Go.RowKit

theorem put15_other {W : World} {X Y : Nat} {vs : List Value} (b0 b1 b2 b3 b4 b5 b6 b7 b8 b9 b10 b11 b12 b13 b14 : Nat) (h : BoxAt W Y vs) (hn : X ≠ Y) : BoxAt (put15 W X b0 b1 b2 b3 b4 b5 b6 b7 b8 b9 b10 b11 b12 b13 b14) Y vs := ((((((((((((((h.setOther _ _ hn).setOther _ _ hn).setOther _ _ hn).setOther _ _ hn).setOther _ _ hn).setOther _ _ hn).setOther _ _ hn).setOther _ _ hn).setOther _ _ hn).setOther _ _ hn).setOther _ _ hn).setOther _ _ hn).setOther _ _ hn).setOther _ _ hn).setOther _ _ hn
namespace Bx
/-- the number of points of a box, dimension by dimension -/
def volF : List (Int × Int) → Nat
  | [] => 1
  | p :: l => (p.2 - p.1 + 1).toNat * volF l
def vol (lo hi : List Int) : Nat := volF (lo.zip hi)
theorem volF_append (l m : List (Int × Int)) : volF (l ++ m) = volF l * volF m := by
  induction l with
  | nil => simp [volF]
  | cons p l ih => simp only [List.cons_append, volF, ih, Nat.mul_assoc]
end Bx
/-- between two rounds of volume -/
structure VolRel (w wr : World) (lo hi : List Int) (k : Nat) (us : List Nat) : Prop where
  len : us.length = 15
  wd : Bx.Wd us
  vl : Bx.val us = Bx.volF ((lo.zip hi).take k) % 18446744073709551616 ^ 15
  bx : BoxAt wr (w.heap.size + 1) (us.map u64V)
  rs : BoxAt wr w.heap.size (List.replicate 15 (u64V 0))
  bl : Below w.heap.size w wr
theorem VolRel.drew {w wr : World} {lo hi : List Int} {us : List Nat} {k : Nat} (h : VolRel w wr lo hi k us) : VolRel w wr.drew lo hi k us := ⟨h.len, h.wd, h.vl, h.bx, h.rs, h.bl.drew⟩

set_option linter.unusedSimpArgs false in
set_option linter.unusedVariables false in
set_option maxRecDepth 100000 in
set_option maxHeartbeats 3200000 in
theorem volume46 (A B : Option Addr) (n c d : Nat) (lo hi : List Int) (N : Nat) (w : World) (hx : Rd w w.heap.size 1 A n (ints lo)) (hy : Rd w w.heap.size 1 B n (ints hi)) (hn : n ≤ 1000) (hin : ∀ (i : Nat) (x y : Int), lo[i]? = some x → hi[i]? = some y → -9007199254740992 ≤ x ∧ x ≤ y ∧ y ≤ 9007199254740992)
    (hN : Bx.vol lo hi % 18446744073709551616 ^ 15 = N) :
    Calls Try.prog 46 #[.slice A n c, .slice B n d] w (WordsPost N w) := by
  have HNN := Lib.hid hN
  have HX := Lib.hid hx
  have HY := Lib.hid hy
  have HL := Lib.hid (show lo.length = n by simpa using hx.1)
  have HM := Lib.hid (show hi.length = n by simpa using hy.1)
  have HIN := Lib.hid hin
  clear hx hy hin hN
  go_enter Try.func46, Try.ntmps46
  go_wp2_with fail
  go_loopw [10] (fun i W => ∃ (k : Nat) (us : List Nat), k ≤ n ∧ i = .int .i64 k ∧ Hid (VolRel w W lo hi k us)) (fun i _ => n - (intOf i).toNat)
  case atStart =>
    refine ⟨0, [1, 0, 0, 0, 0, 0, 0, 0, 0, 0, 0, 0, 0, 0, 0], by omega, rfl, Lib.hid ⟨rfl, fun a ha => by simp at ha; omega, by rw [List.take_zero]; decide, ?_, ?_, ?_⟩⟩
    · exact BoxAt.new _ 65 [u64V 1, u64V 0, u64V 0, u64V 0, u64V 0, u64V 0, u64V 0, u64V 0, u64V 0, u64V 0, u64V 0, u64V 0, u64V 0, u64V 0, u64V 0] _ (by simp)
    · exact (BoxAt.new w 65 (List.replicate 15 (u64V 0)) _ rfl).alloc _
    · exact ((Below.refl _ _).alloc (Nat.le_refl _) _).alloc (by simp) _
  case round =>
    obtain ⟨k, us, hk, rfl, HR⟩ := hrel
    obtain ⟨b0, b1, b2, b3, b4, b5, b6, b7, b8, b9, b10, b11, b12, b13, b14, hus⟩ := list15 HR.out.len
    have HUS := Lib.hid hus
    have ewv : wV us = .agg #[u64V b0, u64V b1, u64V b2, u64V b3, u64V b4, u64V b5, u64V b6, u64V b7, u64V b8, u64V b9, u64V b10, u64V b11, u64V b12, u64V b13, u64V b14] := by rw [hus]; rfl
    clear hus
    by_cases hlt : k < n
    · obtain ⟨p1, o1, x, ha, hix, hcx, hp1, _⟩ := rd_int (HX.out.below HR.out.bl (Nat.le_refl _)) c hlt
      obtain ⟨p2, o2, y, hb, hiy, hcy, hp2, _⟩ := rd_int (HY.out.below HR.out.bl (Nat.le_refl _)) d hlt
      have hxy := HIN.out k x y ha hb
      obtain ⟨dd, hdd⟩ : ∃ dd : Nat, y - x = (dd : Int) := ⟨(y - x).toNat, by omega⟩
      have w1 : IntKind.i64.wrap (y - x) = (dd : Int) := by rw [hdd, IntWalk.i64_left, IntWalk.wrap64_in _ (by omega)]
      have w1' : wrap64 (y - x) = (dd : Int) := by rw [hdd, IntWalk.wrap64_in _ (by omega)]
      have w2 : IntKind.u64.wrap (dd : Int) = (dd : Int) := by rw [IntKind.wrap_u64]; omega
      have w3 : IntKind.u64.wrap ((dd : Int) + 1) = ((dd + 1 : Nat) : Int) := by rw [IntKind.wrap_u64]; omega
      have hz := HR.out.bx.1
      have HN : Hid (Bx.val us * (dd + 1) % 18446744073709551616 ^ 15 = Bx.volF ((lo.zip hi).take (k + 1)) % 18446744073709551616 ^ 15) := Lib.hid (by
        have hz := Bx.zip_at ha hb
        have e : (lo.zip hi).take (k + 1) = (lo.zip hi).take k ++ [(x, y)] := by
          have hk' : k < (lo.zip hi).length := by rw [List.length_zip, HL.out, HM.out]; omega
          rw [List.take_succ_eq_append_getElem hk']
          rw [List.drop_eq_getElem_cons hk'] at hz
          injection hz with hz1 hz2
          rw [hz1]
        rw [e, Bx.volF_append, HR.out.vl, Nat.mod_mul_mod]
        congr 2
        simp only [Bx.volF, Nat.mul_one]
        omega)
      have CT := Lib.hid (fun (X : World) (hX : VolRel w X lo hi k us) => times59 us (dd + 1) _ X hX.len hX.wd (by omega) rfl)
      rw [ewv] at CT
      clear ewv ha hb hxy hdd
      have BX : Hid (BoxAt wr (w.heap.size + 1) [u64V b0, u64V b1, u64V b2, u64V b3, u64V b4, u64V b5, u64V b6, u64V b7, u64V b8, u64V b9, u64V b10, u64V b11, u64V b12, u64V b13, u64V b14]) := Lib.hid (by have := HR.out.bx; rw [HUS.out] at this; exact this)
      have x0 : wr.cell? ⟨w.heap.size + 1, 0, none⟩ = some (u64V b0) := BX.out.2.1 0 _ rfl
      have x1 : wr.cell? ⟨w.heap.size + 1, 1, none⟩ = some (u64V b1) := BX.out.2.1 1 _ rfl
      have x2 : wr.cell? ⟨w.heap.size + 1, 2, none⟩ = some (u64V b2) := BX.out.2.1 2 _ rfl
      have x3 : wr.cell? ⟨w.heap.size + 1, 3, none⟩ = some (u64V b3) := BX.out.2.1 3 _ rfl
      have x4 : wr.cell? ⟨w.heap.size + 1, 4, none⟩ = some (u64V b4) := BX.out.2.1 4 _ rfl
      have x5 : wr.cell? ⟨w.heap.size + 1, 5, none⟩ = some (u64V b5) := BX.out.2.1 5 _ rfl
      have x6 : wr.cell? ⟨w.heap.size + 1, 6, none⟩ = some (u64V b6) := BX.out.2.1 6 _ rfl
      have x7 : wr.cell? ⟨w.heap.size + 1, 7, none⟩ = some (u64V b7) := BX.out.2.1 7 _ rfl
      have x8 : wr.cell? ⟨w.heap.size + 1, 8, none⟩ = some (u64V b8) := BX.out.2.1 8 _ rfl
      have x9 : wr.cell? ⟨w.heap.size + 1, 9, none⟩ = some (u64V b9) := BX.out.2.1 9 _ rfl
      have x10 : wr.cell? ⟨w.heap.size + 1, 10, none⟩ = some (u64V b10) := BX.out.2.1 10 _ rfl
      have x11 : wr.cell? ⟨w.heap.size + 1, 11, none⟩ = some (u64V b11) := BX.out.2.1 11 _ rfl
      have x12 : wr.cell? ⟨w.heap.size + 1, 12, none⟩ = some (u64V b12) := BX.out.2.1 12 _ rfl
      have x13 : wr.cell? ⟨w.heap.size + 1, 13, none⟩ = some (u64V b13) := BX.out.2.1 13 _ rfl
      have x14 : wr.cell? ⟨w.heap.size + 1, 14, none⟩ = some (u64V b14) := BX.out.2.1 14 _ rfl
      go_wp2_with fail
      refine wp_region_held_drew (S := (fun X => X.cell? ⟨p1, o1, none⟩ = some (.int .i64 x) ∧ X.cell? ⟨p2, o2, none⟩ = some (.int .i64 y))) (by kernel_rfl) ?_ (fun hHeld => ?_)
      · simp [go_sem, *]
      refine wpAnyH_take (i := 1) (v := ?_) rfl (by kernel_rfl) (by kernel_rfl) (by kernel_rfl) (fun _ _ _ h => h) (Or.inl ⟨by rfl, ?_⟩) (by assumption) ?_
      rotate_left
      · intro w hSw; (try dsimp only at hSw); go_simp; (first | done | (with_reducible rfl))
      try simp only [Act.put, List.getElem_toArray, List.getElem_cons_succ, List.getElem_cons_zero, List.setIfInBounds_toArray, List.set_cons_zero, List.set_cons_succ]
      refine wpAnyH_take (i := 2) (v := ?_) rfl (by kernel_rfl) (by kernel_rfl) (by kernel_rfl) (fun _ _ _ h => h) (Or.inl ⟨by rfl, ?_⟩) (by assumption) ?_
      rotate_left
      · intro w hSw; (try dsimp only at hSw); go_simp; (first | done | (with_reducible rfl))
      try simp only [Act.put, List.getElem_toArray, List.getElem_cons_succ, List.getElem_cons_zero, List.setIfInBounds_toArray, List.set_cons_zero, List.set_cons_succ]
      refine wpAnyH_take (i := 3) (v := ?_) rfl (by kernel_rfl) (by kernel_rfl) (by kernel_rfl) (fun _ _ _ h => h) (Or.inl ⟨by rfl, ?_⟩) (by assumption) ?_
      rotate_left
      · intro w hSw; (try dsimp only at hSw); go_simp; (first | done | (with_reducible rfl))
      try simp only [Act.put, List.getElem_toArray, List.getElem_cons_succ, List.getElem_cons_zero, List.setIfInBounds_toArray, List.set_cons_zero, List.set_cons_succ]
      refine wpAnyH_take (i := 4) (v := ?_) rfl (by kernel_rfl) (by kernel_rfl) (by kernel_rfl) (fun _ _ _ h => h) (Or.inl ⟨by rfl, ?_⟩) (by assumption) ?_
      rotate_left
      · intro w hSw; (try dsimp only at hSw); go_simp; (first | done | (with_reducible rfl))
      try simp only [Act.put, List.getElem_toArray, List.getElem_cons_succ, List.getElem_cons_zero, List.setIfInBounds_toArray, List.set_cons_zero, List.set_cons_succ]
      refine wpAnyH_take (i := 5) (v := ?_) rfl (by kernel_rfl) (by kernel_rfl) (by kernel_rfl) (fun _ _ _ h => h) (Or.inl ⟨by rfl, ?_⟩) (by assumption) ?_
      rotate_left
      · intro w hSw; (try dsimp only at hSw); go_simp; (first | done | (with_reducible rfl))
      try simp only [Act.put, List.getElem_toArray, List.getElem_cons_succ, List.getElem_cons_zero, List.setIfInBounds_toArray, List.set_cons_zero, List.set_cons_succ]
      refine wpAnyH_take (i := 6) (v := ?_) rfl (by kernel_rfl) (by kernel_rfl) (by kernel_rfl) (fun _ _ _ h => h) (Or.inl ⟨by rfl, ?_⟩) (by assumption) ?_
      rotate_left
      · intro w hSw; (try dsimp only at hSw); go_simp; (first | done | (with_reducible rfl))
      try simp only [Act.put, List.getElem_toArray, List.getElem_cons_succ, List.getElem_cons_zero, List.setIfInBounds_toArray, List.set_cons_zero, List.set_cons_succ]
      refine wpAnyH_take (i := 7) (v := ?_) rfl (by kernel_rfl) (by kernel_rfl) (by kernel_rfl) (fun _ _ _ h => h) (Or.inl ⟨by rfl, ?_⟩) (by assumption) ?_
      rotate_left
      · intro w hSw; (try dsimp only at hSw); go_simp; (first | done | (with_reducible rfl))
      try simp only [Act.put, List.getElem_toArray, List.getElem_cons_succ, List.getElem_cons_zero, List.setIfInBounds_toArray, List.set_cons_zero, List.set_cons_succ]
      refine wpAnyH_take (i := 8) (v := ?_) rfl (by kernel_rfl) (by kernel_rfl) (by kernel_rfl) (fun _ _ _ h => h) (Or.inl ⟨by rfl, ?_⟩) (by assumption) ?_
      rotate_left
      · intro w hSw; (try dsimp only at hSw); go_simp; (first | done | (with_reducible rfl))
      try simp only [Act.put, List.getElem_toArray, List.getElem_cons_succ, List.getElem_cons_zero, List.setIfInBounds_toArray, List.set_cons_zero, List.set_cons_succ]
      refine wpAnyH_take (i := 9) (v := ?_) rfl (by kernel_rfl) (by kernel_rfl) (by kernel_rfl) (fun _ _ _ h => h) (Or.inl ⟨by rfl, ?_⟩) (by assumption) ?_
      rotate_left
      · intro w hSw; (try dsimp only at hSw); go_simp; (first | done | (with_reducible rfl))
      try simp only [Act.put, List.getElem_toArray, List.getElem_cons_succ, List.getElem_cons_zero, List.setIfInBounds_toArray, List.set_cons_zero, List.set_cons_succ]
      refine wpAnyH_take (i := 10) (v := ?_) rfl (by kernel_rfl) (by kernel_rfl) (by kernel_rfl) (fun _ _ _ h => h) (Or.inl ⟨by rfl, ?_⟩) (by assumption) ?_
      rotate_left
      · intro w hSw; (try dsimp only at hSw); go_simp; (first | done | (with_reducible rfl))
      try simp only [Act.put, List.getElem_toArray, List.getElem_cons_succ, List.getElem_cons_zero, List.setIfInBounds_toArray, List.set_cons_zero, List.set_cons_succ]
      refine wpAnyH_take (i := 11) (v := ?_) rfl (by kernel_rfl) (by kernel_rfl) (by kernel_rfl) (fun _ _ _ h => h) (Or.inl ⟨by rfl, ?_⟩) (by assumption) ?_
      rotate_left
      · intro w hSw; (try dsimp only at hSw); go_simp; (first | done | (with_reducible rfl))
      try simp only [Act.put, List.getElem_toArray, List.getElem_cons_succ, List.getElem_cons_zero, List.setIfInBounds_toArray, List.set_cons_zero, List.set_cons_succ]
      refine wpAnyH_ready (rs := [0]) (by kernel_rfl) (by simp) ?_
      refine AllReadyH.cons rfl (fun K hK => ?_) AllReadyH.nil
      go_simp
      refine hK.out _ _ ?_ (fun hHeld => ?_)
      · simp [go_sem, *]
      clear hK K
      try simp only [Act.put, List.getElem_toArray, List.getElem_cons_succ, List.getElem_cons_zero, List.setIfInBounds_toArray, List.set_cons_zero, List.set_cons_succ]
      refine wpAnyH_ready (rs := [12]) (by kernel_rfl) (by simp) ?_
      refine AllReadyH.cons rfl (fun K hK => ?_) AllReadyH.nil
      go_simp
      refine (CT.out _ (VolRel.drew HR.out)).mono ?_
      rintro e v2 ⟨es, rfl, he1, he2, he3, h2⟩
      have HE := Lib.hid (And.intro he1 (And.intro he2 he3))
      obtain ⟨e0, e1, e2, e3, e4, e5, e6, e7, e8, e9, e10, e11, e12, e13, e14, hes⟩ := list15 he1
      have HES := Lib.hid hes
      have ewv : wV es = .agg #[u64V e0, u64V e1, u64V e2, u64V e3, u64V e4, u64V e5, u64V e6, u64V e7, u64V e8, u64V e9, u64V e10, u64V e11, u64V e12, u64V e13, u64V e14] := by rw [hes]; rfl
      rw [ewv]
      clear ewv hes he1 he2 he3
      have HV : Hid (Bx.val es = Bx.volF ((lo.zip hi).take (k + 1)) % 18446744073709551616 ^ 15) := Lib.hid (by rw [HE.out.2.2, ← HN.out])
      have z2 := h2.size
      try simp at z2
      have k1 : v2.cell? ⟨p1, o1, none⟩ = some (.int .i64 x) := (h2.cell (p := ⟨p1, o1, none⟩) (by show p1 < _; simp; omega)).trans (by simp [go_sem, *])
      have k2 : v2.cell? ⟨p2, o2, none⟩ = some (.int .i64 y) := (h2.cell (p := ⟨p2, o2, none⟩) (by show p2 < _; simp; omega)).trans (by simp [go_sem, *])
      have RS2 : Hid (BoxAt v2 (w.heap.size + 1) (us.map u64V)) := Lib.hid (HR.out.bx.drew.call h2)
      have RR2 : Hid (BoxAt v2 w.heap.size (List.replicate 15 (u64V 0))) := Lib.hid (HR.out.rs.drew.call h2)
      have HB2 : Hid (Below w.heap.size w v2) := Lib.hid (Below.call HR.out.bl.drew h2)
      have RS3 : Hid (BoxAt v2 (w.heap.size + 1) [u64V b0, u64V b1, u64V b2, u64V b3, u64V b4, u64V b5, u64V b6, u64V b7, u64V b8, u64V b9, u64V b10, u64V b11, u64V b12, u64V b13, u64V b14]) := Lib.hid (by have := RS2.out; rw [HUS.out] at this; exact this)
      clear h2
      have s0 : v2.cell? ⟨w.heap.size + 1, 0, none⟩ = some (u64V b0) := RS3.out.2.1 0 _ rfl
      have s1 : v2.cell? ⟨w.heap.size + 1, 1, none⟩ = some (u64V b1) := RS3.out.2.1 1 _ rfl
      have s2 : v2.cell? ⟨w.heap.size + 1, 2, none⟩ = some (u64V b2) := RS3.out.2.1 2 _ rfl
      have s3 : v2.cell? ⟨w.heap.size + 1, 3, none⟩ = some (u64V b3) := RS3.out.2.1 3 _ rfl
      have s4 : v2.cell? ⟨w.heap.size + 1, 4, none⟩ = some (u64V b4) := RS3.out.2.1 4 _ rfl
      have s5 : v2.cell? ⟨w.heap.size + 1, 5, none⟩ = some (u64V b5) := RS3.out.2.1 5 _ rfl
      have s6 : v2.cell? ⟨w.heap.size + 1, 6, none⟩ = some (u64V b6) := RS3.out.2.1 6 _ rfl
      have s7 : v2.cell? ⟨w.heap.size + 1, 7, none⟩ = some (u64V b7) := RS3.out.2.1 7 _ rfl
      have s8 : v2.cell? ⟨w.heap.size + 1, 8, none⟩ = some (u64V b8) := RS3.out.2.1 8 _ rfl
      have s9 : v2.cell? ⟨w.heap.size + 1, 9, none⟩ = some (u64V b9) := RS3.out.2.1 9 _ rfl
      have s10 : v2.cell? ⟨w.heap.size + 1, 10, none⟩ = some (u64V b10) := RS3.out.2.1 10 _ rfl
      have s11 : v2.cell? ⟨w.heap.size + 1, 11, none⟩ = some (u64V b11) := RS3.out.2.1 11 _ rfl
      have s12 : v2.cell? ⟨w.heap.size + 1, 12, none⟩ = some (u64V b12) := RS3.out.2.1 12 _ rfl
      have s13 : v2.cell? ⟨w.heap.size + 1, 13, none⟩ = some (u64V b13) := RS3.out.2.1 13 _ rfl
      have s14 : v2.cell? ⟨w.heap.size + 1, 14, none⟩ = some (u64V b14) := RS3.out.2.1 14 _ rfl
      have y0 : v2.frozen? ⟨w.heap.size + 1, 0, none⟩ = false := RS3.out.2.2 0
      have y1 : v2.frozen? ⟨w.heap.size + 1, 1, none⟩ = false := RS3.out.2.2 1
      have y2 : v2.frozen? ⟨w.heap.size + 1, 2, none⟩ = false := RS3.out.2.2 2
      have y3 : v2.frozen? ⟨w.heap.size + 1, 3, none⟩ = false := RS3.out.2.2 3
      have y4 : v2.frozen? ⟨w.heap.size + 1, 4, none⟩ = false := RS3.out.2.2 4
      have y5 : v2.frozen? ⟨w.heap.size + 1, 5, none⟩ = false := RS3.out.2.2 5
      have y6 : v2.frozen? ⟨w.heap.size + 1, 6, none⟩ = false := RS3.out.2.2 6
      have y7 : v2.frozen? ⟨w.heap.size + 1, 7, none⟩ = false := RS3.out.2.2 7
      have y8 : v2.frozen? ⟨w.heap.size + 1, 8, none⟩ = false := RS3.out.2.2 8
      have y9 : v2.frozen? ⟨w.heap.size + 1, 9, none⟩ = false := RS3.out.2.2 9
      have y10 : v2.frozen? ⟨w.heap.size + 1, 10, none⟩ = false := RS3.out.2.2 10
      have y11 : v2.frozen? ⟨w.heap.size + 1, 11, none⟩ = false := RS3.out.2.2 11
      have y12 : v2.frozen? ⟨w.heap.size + 1, 12, none⟩ = false := RS3.out.2.2 12
      have y13 : v2.frozen? ⟨w.heap.size + 1, 13, none⟩ = false := RS3.out.2.2 13
      have y14 : v2.frozen? ⟨w.heap.size + 1, 14, none⟩ = false := RS3.out.2.2 14
      clear x0 x1 x2 x3 x4 x5 x6 x7 x8 x9 x10 x11 x12 x13 x14
      refine hK.out _ _ ?_ (fun hHeld => ?_)
      · simp [go_sem, *]
      clear hK K
      try simp only [Act.put, List.getElem_toArray, List.getElem_cons_succ, List.getElem_cons_zero, List.setIfInBounds_toArray, List.set_cons_zero, List.set_cons_succ]
      refine wpAnyH_ready (rs := [13]) (by kernel_rfl) (by simp) ?_
      refine AllReadyH.cons rfl (fun K hK => ?_) AllReadyH.nil
      go_simp
      refine hK.out _ _ ?_ (fun hHeld => ?_)
      · simp [go_sem, *]
      clear hK K
      try simp only [Act.put, List.getElem_toArray, List.getElem_cons_succ, List.getElem_cons_zero, List.setIfInBounds_toArray, List.set_cons_zero, List.set_cons_succ]
      refine wpAnyH_done (by kernel_rfl) ?_ _
      have BF := put15_box e0 e1 e2 e3 e4 e5 e6 e7 e8 e9 e10 e11 e12 e13 e14 RS2.out (by simpa using HR.out.len)
      have HBF := Lib.hid (put15_below e0 e1 e2 e3 e4 e5 e6 e7 e8 e9 e10 e11 e12 e13 e14 HB2.out (show w.heap.size ≤ w.heap.size + 1 by omega))
      have BRF : Hid (BoxAt (put15 v2 (w.heap.size + 1) e0 e1 e2 e3 e4 e5 e6 e7 e8 e9 e10 e11 e12 e13 e14) w.heap.size (List.replicate 15 (u64V 0))) := Lib.hid (put15_other e0 e1 e2 e3 e4 e5 e6 e7 e8 e9 e10 e11 e12 e13 e14 RR2.out (by omega))
      have HNX := Lib.hid (show VolRel w (put15 v2 (w.heap.size + 1) e0 e1 e2 e3 e4 e5 e6 e7 e8 e9 e10 e11 e12 e13 e14) lo hi (k + 1) es from ⟨HE.out.1, HE.out.2.1, HV.out, by rw [HES.out]; exact BF, BRF.out, HBF.out⟩)
      clear BF
      clear s0 y0 s1 y1 s2 y2 s3 y3 s4 y4 s5 y5 s6 y6 s7 y7 s8 y8 s9 y9 s10 y10 s11 y11 s12 y12 s13 y13 s14 y14
      go_wp2_with fail
      go_roundw
      case rel => exact ⟨k + 1, es, by omega, by go_num, HNX⟩
      case measure => simp [intOf]; omega
    · have HD : Hid (Bx.val us = N) := Lib.hid (by
        rw [HR.out.vl, ← HNN.out, List.take_of_length_le (by rw [List.length_zip, HL.out, HM.out]; omega)]; rfl)
      clear ewv
      have BX : Hid (BoxAt wr (w.heap.size + 1) [u64V b0, u64V b1, u64V b2, u64V b3, u64V b4, u64V b5, u64V b6, u64V b7, u64V b8, u64V b9, u64V b10, u64V b11, u64V b12, u64V b13, u64V b14]) := Lib.hid (by have := HR.out.bx; rw [HUS.out] at this; exact this)
      have x0 : wr.cell? ⟨w.heap.size + 1, 0, none⟩ = some (u64V b0) := BX.out.2.1 0 _ rfl
      have z0 : wr.cell? ⟨w.heap.size, 0, none⟩ = some (u64V 0) := HR.out.rs.2.1 0 _ rfl
      have y0 : wr.frozen? ⟨w.heap.size, 0, none⟩ = false := HR.out.rs.2.2 0
      have x1 : wr.cell? ⟨w.heap.size + 1, 1, none⟩ = some (u64V b1) := BX.out.2.1 1 _ rfl
      have z1 : wr.cell? ⟨w.heap.size, 1, none⟩ = some (u64V 0) := HR.out.rs.2.1 1 _ rfl
      have y1 : wr.frozen? ⟨w.heap.size, 1, none⟩ = false := HR.out.rs.2.2 1
      have x2 : wr.cell? ⟨w.heap.size + 1, 2, none⟩ = some (u64V b2) := BX.out.2.1 2 _ rfl
      have z2 : wr.cell? ⟨w.heap.size, 2, none⟩ = some (u64V 0) := HR.out.rs.2.1 2 _ rfl
      have y2 : wr.frozen? ⟨w.heap.size, 2, none⟩ = false := HR.out.rs.2.2 2
      have x3 : wr.cell? ⟨w.heap.size + 1, 3, none⟩ = some (u64V b3) := BX.out.2.1 3 _ rfl
      have z3 : wr.cell? ⟨w.heap.size, 3, none⟩ = some (u64V 0) := HR.out.rs.2.1 3 _ rfl
      have y3 : wr.frozen? ⟨w.heap.size, 3, none⟩ = false := HR.out.rs.2.2 3
      have x4 : wr.cell? ⟨w.heap.size + 1, 4, none⟩ = some (u64V b4) := BX.out.2.1 4 _ rfl
      have z4 : wr.cell? ⟨w.heap.size, 4, none⟩ = some (u64V 0) := HR.out.rs.2.1 4 _ rfl
      have y4 : wr.frozen? ⟨w.heap.size, 4, none⟩ = false := HR.out.rs.2.2 4
      have x5 : wr.cell? ⟨w.heap.size + 1, 5, none⟩ = some (u64V b5) := BX.out.2.1 5 _ rfl
      have z5 : wr.cell? ⟨w.heap.size, 5, none⟩ = some (u64V 0) := HR.out.rs.2.1 5 _ rfl
      have y5 : wr.frozen? ⟨w.heap.size, 5, none⟩ = false := HR.out.rs.2.2 5
      have x6 : wr.cell? ⟨w.heap.size + 1, 6, none⟩ = some (u64V b6) := BX.out.2.1 6 _ rfl
      have z6 : wr.cell? ⟨w.heap.size, 6, none⟩ = some (u64V 0) := HR.out.rs.2.1 6 _ rfl
      have y6 : wr.frozen? ⟨w.heap.size, 6, none⟩ = false := HR.out.rs.2.2 6
      have x7 : wr.cell? ⟨w.heap.size + 1, 7, none⟩ = some (u64V b7) := BX.out.2.1 7 _ rfl
      have z7 : wr.cell? ⟨w.heap.size, 7, none⟩ = some (u64V 0) := HR.out.rs.2.1 7 _ rfl
      have y7 : wr.frozen? ⟨w.heap.size, 7, none⟩ = false := HR.out.rs.2.2 7
      have x8 : wr.cell? ⟨w.heap.size + 1, 8, none⟩ = some (u64V b8) := BX.out.2.1 8 _ rfl
      have z8 : wr.cell? ⟨w.heap.size, 8, none⟩ = some (u64V 0) := HR.out.rs.2.1 8 _ rfl
      have y8 : wr.frozen? ⟨w.heap.size, 8, none⟩ = false := HR.out.rs.2.2 8
      have x9 : wr.cell? ⟨w.heap.size + 1, 9, none⟩ = some (u64V b9) := BX.out.2.1 9 _ rfl
      have z9 : wr.cell? ⟨w.heap.size, 9, none⟩ = some (u64V 0) := HR.out.rs.2.1 9 _ rfl
      have y9 : wr.frozen? ⟨w.heap.size, 9, none⟩ = false := HR.out.rs.2.2 9
      have x10 : wr.cell? ⟨w.heap.size + 1, 10, none⟩ = some (u64V b10) := BX.out.2.1 10 _ rfl
      have z10 : wr.cell? ⟨w.heap.size, 10, none⟩ = some (u64V 0) := HR.out.rs.2.1 10 _ rfl
      have y10 : wr.frozen? ⟨w.heap.size, 10, none⟩ = false := HR.out.rs.2.2 10
      have x11 : wr.cell? ⟨w.heap.size + 1, 11, none⟩ = some (u64V b11) := BX.out.2.1 11 _ rfl
      have z11 : wr.cell? ⟨w.heap.size, 11, none⟩ = some (u64V 0) := HR.out.rs.2.1 11 _ rfl
      have y11 : wr.frozen? ⟨w.heap.size, 11, none⟩ = false := HR.out.rs.2.2 11
      have x12 : wr.cell? ⟨w.heap.size + 1, 12, none⟩ = some (u64V b12) := BX.out.2.1 12 _ rfl
      have z12 : wr.cell? ⟨w.heap.size, 12, none⟩ = some (u64V 0) := HR.out.rs.2.1 12 _ rfl
      have y12 : wr.frozen? ⟨w.heap.size, 12, none⟩ = false := HR.out.rs.2.2 12
      have x13 : wr.cell? ⟨w.heap.size + 1, 13, none⟩ = some (u64V b13) := BX.out.2.1 13 _ rfl
      have z13 : wr.cell? ⟨w.heap.size, 13, none⟩ = some (u64V 0) := HR.out.rs.2.1 13 _ rfl
      have y13 : wr.frozen? ⟨w.heap.size, 13, none⟩ = false := HR.out.rs.2.2 13
      have x14 : wr.cell? ⟨w.heap.size + 1, 14, none⟩ = some (u64V b14) := BX.out.2.1 14 _ rfl
      have z14 : wr.cell? ⟨w.heap.size, 14, none⟩ = some (u64V 0) := HR.out.rs.2.1 14 _ rfl
      have y14 : wr.frozen? ⟨w.heap.size, 14, none⟩ = false := HR.out.rs.2.2 14
      go_wp2_with fail
      have BF := put15_box b0 b1 b2 b3 b4 b5 b6 b7 b8 b9 b10 b11 b12 b13 b14 HR.out.rs (by simp)
      have HBF := Lib.hid (put15_below b0 b1 b2 b3 b4 b5 b6 b7 b8 b9 b10 b11 b12 b13 b14 HR.out.bl (Nat.le_refl _))
      obtain ⟨wf, hwf⟩ : ∃ W, W = put15 wr w.heap.size b0 b1 b2 b3 b4 b5 b6 b7 b8 b9 b10 b11 b12 b13 b14 := ⟨_, rfl⟩
      rw [← hwf] at BF HBF
      clear x0 z0 y0 x1 z1 y1 x2 z2 y2 x3 z3 y3 x4 z4 y4 x5 z5 y5 x6 z6 y6 x7 z7 y7 x8 z8 y8 x9 z9 y9 x10 z10 y10 x11 z11 y11 x12 z12 y12 x13 z13 y13 x14 z14 y14
      have y0 : wf.cell? ⟨w.heap.size, 0, none⟩ = some (u64V b0) := BF.2.1 0 _ rfl
      have y1 : wf.cell? ⟨w.heap.size, 1, none⟩ = some (u64V b1) := BF.2.1 1 _ rfl
      have y2 : wf.cell? ⟨w.heap.size, 2, none⟩ = some (u64V b2) := BF.2.1 2 _ rfl
      have y3 : wf.cell? ⟨w.heap.size, 3, none⟩ = some (u64V b3) := BF.2.1 3 _ rfl
      have y4 : wf.cell? ⟨w.heap.size, 4, none⟩ = some (u64V b4) := BF.2.1 4 _ rfl
      have y5 : wf.cell? ⟨w.heap.size, 5, none⟩ = some (u64V b5) := BF.2.1 5 _ rfl
      have y6 : wf.cell? ⟨w.heap.size, 6, none⟩ = some (u64V b6) := BF.2.1 6 _ rfl
      have y7 : wf.cell? ⟨w.heap.size, 7, none⟩ = some (u64V b7) := BF.2.1 7 _ rfl
      have y8 : wf.cell? ⟨w.heap.size, 8, none⟩ = some (u64V b8) := BF.2.1 8 _ rfl
      have y9 : wf.cell? ⟨w.heap.size, 9, none⟩ = some (u64V b9) := BF.2.1 9 _ rfl
      have y10 : wf.cell? ⟨w.heap.size, 10, none⟩ = some (u64V b10) := BF.2.1 10 _ rfl
      have y11 : wf.cell? ⟨w.heap.size, 11, none⟩ = some (u64V b11) := BF.2.1 11 _ rfl
      have y12 : wf.cell? ⟨w.heap.size, 12, none⟩ = some (u64V b12) := BF.2.1 12 _ rfl
      have y13 : wf.cell? ⟨w.heap.size, 13, none⟩ = some (u64V b13) := BF.2.1 13 _ rfl
      have y14 : wf.cell? ⟨w.heap.size, 14, none⟩ = some (u64V b14) := BF.2.1 14 _ rfl
      have HBFX := Lib.hid BF
      clear BF
      rw [show (((((((((((((((wr.setCell ⟨w.heap.size, 0, none⟩ (.int .u64 (b0 : Int))).setCell ⟨w.heap.size, 1, none⟩ (.int .u64 (b1 : Int))).setCell ⟨w.heap.size, 2, none⟩ (.int .u64 (b2 : Int))).setCell ⟨w.heap.size, 3, none⟩ (.int .u64 (b3 : Int))).setCell ⟨w.heap.size, 4, none⟩ (.int .u64 (b4 : Int))).setCell ⟨w.heap.size, 5, none⟩ (.int .u64 (b5 : Int))).setCell ⟨w.heap.size, 6, none⟩ (.int .u64 (b6 : Int))).setCell ⟨w.heap.size, 7, none⟩ (.int .u64 (b7 : Int))).setCell ⟨w.heap.size, 8, none⟩ (.int .u64 (b8 : Int))).setCell ⟨w.heap.size, 9, none⟩ (.int .u64 (b9 : Int))).setCell ⟨w.heap.size, 10, none⟩ (.int .u64 (b10 : Int))).setCell ⟨w.heap.size, 11, none⟩ (.int .u64 (b11 : Int))).setCell ⟨w.heap.size, 12, none⟩ (.int .u64 (b12 : Int))).setCell ⟨w.heap.size, 13, none⟩ (.int .u64 (b13 : Int))).setCell ⟨w.heap.size, 14, none⟩ (.int .u64 (b14 : Int))) = wf from hwf.symm]
      clear hwf
      refine bodyPost_ret (v := wV us) ?_ rfl ⟨us, rfl, HR.out.len, HR.out.wd, HD.out, HBF.out⟩
      rw [HUS.out]
      simp [results, Try.results46, go_sem, wV, *]
end Go.Proofs.Ytcncobhdfflelaa
