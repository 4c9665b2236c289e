/- The contract of timer.copies. -/
import Derived.Test.YtjdjfjokniingaaUb
import Derived.OwnWalk
namespace Go.Proofs.Ytjdjfjokniingaa
open Go.RowKit

theorem own_in {w : World} {base e k n : Nat} {v : Value} {xs : List Value} (h : w.ownsRow base e k v n xs) {g : Nat} (hg : v.ownBlock = some g) : g < w.heap.size := by
  rcases h.2 with ⟨rfl, _⟩ | ⟨g', cap, cur, rfl, hb, hh, _⟩
  · simp [Value.ownBlock] at hg
  · simp [Value.ownBlock] at hg
    subst hg
    exact (Array.getElem?_eq_some_iff.1 hh).1
theorem below_new (w : World) (o : Obj) : Below w.heap.size w (w.alloc o) := (Below.refl _ w).alloc (Nat.le_refl _) _
theorem take_one {α : Type} {l : List α} {k : Nat} {m : α} (h : l[k]? = some m) : l.take (k + 1) = l.take k ++ [m] := by
  rw [List.take_add_one, h]; rfl
theorem made_flat (zs : List Value) (k : Nat) (hk : zs.length = k) : ∀ n, (madeCells zs.toArray (n * k)).toList = (List.replicate n zs).flatten
  | 0 => by simp [madeCells]
  | n + 1 => by
    have ih := made_flat zs k hk n
    have e : (madeCells zs.toArray ((n + 1) * k)).toList = (madeCells zs.toArray (n * k)).toList ++ zs := by
      unfold madeCells
      rw [Nat.succ_mul]
      simp only [Array.toList_map, Array.toList_range]
      rw [List.range_add, List.map_append, List.map_map]
      congr 1
      apply List.ext_getElem
      · simp [hk]
      · intro i h1 h2
        simp at h1
        have h3 : (n * k + i) % k = i := by rw [Nat.mul_comm, Nat.mul_add_mod]; exact Nat.mod_eq_of_lt h1
        have h2' : i < zs.length := h2
        simp only [List.getElem_map, Function.comp, List.getElem_range, List.size_toArray, hk, h3]
        rw [getElem!_pos zs.toArray i (by simpa using h2')]
        simp
    rw [e, ih, List.replicate_succ', List.flatten_append]
    simp
abbrev valZ : Tr × Sl := (.node 0 ⟨#[]⟩ 0 0 ⟨#[]⟩ [], ⟨none, 0, 0⟩)
theorem info126 : (Try.prog.info? 126).map (fun i => (i.zero, i.size, i.bytes)) = some (some (.agg #[.int .i64 0, .string ⟨#[]⟩, .int .i64 0, .int .i64 0, .string ⟨#[]⟩, .slice none 0 0]), 6, 80) := by kernel_rfl
theorem made_vals (n : Nat) : (madeCells (Value.agg #[.int .i64 0, .string ⟨#[]⟩, .int .i64 0, .int .i64 0, .string ⟨#[]⟩, .slice none 0 0]).cells (n * 6)).toList = (List.replicate n valZ).flatMap valL := by
  have h := made_flat (valL valZ) 6 rfl n
  rw [List.flatMap_def, List.map_replicate]
  exact h

abbrev putVal (W : World) (g o : Nat) (p : Tr × Sl) : World := (((((W.setCell ⟨g, o, none⟩ (.int .i64 p.1.kind)).setCell ⟨g, o + 1, none⟩ (.string p.1.t)).setCell ⟨g, o + 2, none⟩ (.int .i64 p.1.n)).setCell ⟨g, o + 3, none⟩ (.int .i64 p.1.m)).setCell ⟨g, o + 4, none⟩ (.string p.1.s)).setCell ⟨g, o + 5, none⟩ (.slice p.2.a p.2.n p.2.c)
theorem putVal_row {w : World} {B n c g i : Nat} {rs : List (Tr × Sl)} (p : Tr × Sl) (h : w.ownsRow B 126 6 (.slice (some ⟨g, 0, none⟩) n c) n (rs.flatMap valL)) (hi : i < rs.length) : (putVal w g (i * 6) p).ownsRow B 126 6 (.slice (some ⟨g, 0, none⟩) n c) n ((rs.set i p).flatMap valL) := by
  have gs : ∀ r : Tr × Sl, (rs.set i r)[i]? = some r := fun r => by rw [List.getElem?_set_self hi]
  obtain ⟨r, hr⟩ : ∃ r, rs[i]? = some r := ⟨_, List.getElem?_eq_getElem hi⟩
  have h0 := own_store (i := i) (j := 0) (v := .int .i64 p.1.kind) h (fun _ => rfl) (by omega) hr (.node p.1.kind r.1.t r.1.n r.1.m r.1.s r.1.l, r.2) rfl
  have h1 := own_store (i := i) (j := 1) (v := .string p.1.t) h0 (fun _ => rfl) (by omega) (gs _) (.node p.1.kind p.1.t r.1.n r.1.m r.1.s r.1.l, r.2) rfl
  rw [List.set_set] at h1
  have h2 := own_store (i := i) (j := 2) (v := .int .i64 p.1.n) h1 (fun _ => rfl) (by omega) (gs _) (.node p.1.kind p.1.t p.1.n r.1.m r.1.s r.1.l, r.2) rfl
  rw [List.set_set] at h2
  have h3 := own_store (i := i) (j := 3) (v := .int .i64 p.1.m) h2 (fun _ => rfl) (by omega) (gs _) (.node p.1.kind p.1.t p.1.n p.1.m r.1.s r.1.l, r.2) rfl
  rw [List.set_set] at h3
  have h4 := own_store (i := i) (j := 4) (v := .string p.1.s) h3 (fun _ => rfl) (by omega) (gs _) (.node p.1.kind p.1.t p.1.n p.1.m p.1.s r.1.l, r.2) rfl
  rw [List.set_set] at h4
  have h5 := own_store (i := i) (j := 5) (v := .slice p.2.a p.2.n p.2.c) h4 (fun _ => rfl) (by omega) (gs _) p rfl
  rw [List.set_set] at h5
  exact h5
theorem putVal_off (W : World) (g o : Nat) (p : Tr × Sl) : Off g W (putVal W g o p) := ((((((Off.refl g W).set _ _).set _ _).set _ _).set _ _).set _ _).set _ _
theorem putVal_below {B : Nat} {a W : World} (h : Below B a W) {g : Nat} (hg : B ≤ g) (o : Nat) (p : Tr × Sl) : Below B a (putVal W g o p) :=
  (((((h.setCell hg _).setCell hg _).setCell hg _).setCell hg _).setCell hg _).setCell hg _

/-- k elements have been copied into the row in block w.heap.size -/
structure CpRel (w : World) (ts : List Tr) (d k : Nat) (wr : World) : Prop where
  b : Below w.heap.size w wr
  row : ∃ ps : List (Tr × Sl), ps.map (·.1) = ts.take k ∧ wr.ownsRow w.heap.size 126 6 (.slice (some ⟨w.heap.size, 0, none⟩) ts.length ts.length) ts.length ((ps ++ List.replicate (ts.length - k) valZ).flatMap valL) ∧ ∀ p ∈ ps, p.2.n = p.1.l.length ∧ RdP (fun b => w.heap.size < b) wr NV d p.1.l p.2.a
theorem CpRel.size {w : World} {ts : List Tr} {d k : Nat} {wr : World} (h : CpRel w ts d k wr) : w.heap.size < wr.heap.size := by
  obtain ⟨ps, _, hr, _⟩ := h.row
  exact own_in hr (g := w.heap.size) rfl
theorem CpRel.step {w : World} {ts : List Tr} {d k : Nat} {wr w1 : World} {x : Tr} {u : Sl} {v : Value} {o : Obj} (h : CpRel w ts d k wr) (hk : ts[k]? = some x) (hb1 : Below (wr.alloc o).heap.size (wr.alloc o) w1) (hu : RdP (fun b => (wr.alloc o).heap.size ≤ b) w1 NV d x.l u.a) :
    CpRel w ts d (k + 1) (putVal (w1.setCell ⟨wr.heap.size, 5, none⟩ v) w.heap.size (k * 6) (x, ⟨u.a, x.l.length, u.c⟩)) := by
  have hs := h.size
  obtain ⟨hb, ps, hm, hrow, hch⟩ := h
  have hkl : k < ts.length := (List.getElem?_eq_some_iff.1 hk).1
  have hl : ps.length = k := by have := congrArg List.length hm; simp at this; omega
  have hB1 : Below w.heap.size w w1 := Below.call (hb.alloc (by omega) _) hb1
  have hs1 := hb1.size
  simp at hs1
  have r1 := own_below (hrow.alloc o) hb1
  have r2 := own_set_other r1 ⟨wr.heap.size, 5, none⟩ v (by simp [Value.ownBlock]; omega)
  have r3 := putVal_row (i := k) (x, ⟨u.a, x.l.length, u.c⟩) r2 (by simp; omega)
  have e : (ps ++ List.replicate (ts.length - k) valZ).set k (x, ⟨u.a, x.l.length, u.c⟩) = (ps ++ [(x, ⟨u.a, x.l.length, u.c⟩)]) ++ List.replicate (ts.length - (k + 1)) valZ := by
    rw [show ts.length - k = (ts.length - (k + 1)) + 1 by omega, List.replicate_succ, ← hl, set_mid, List.append_assoc]
    rfl
  rw [e] at r3
  have off1 : Off wr.heap.size w1 (w1.setCell ⟨wr.heap.size, 5, none⟩ v) := (Off.refl _ _).set _ _
  have off2 := putVal_off (w1.setCell ⟨wr.heap.size, 5, none⟩ v) w.heap.size (k * 6) (x, ⟨u.a, x.l.length, u.c⟩)
  have hk2 : ∀ b o, b ≠ wr.heap.size → b ≠ w.heap.size → (putVal (w1.setCell ⟨wr.heap.size, 5, none⟩ v) w.heap.size (k * 6) (x, ⟨u.a, x.l.length, u.c⟩)).cell? ⟨b, o, none⟩ = w1.cell? ⟨b, o, none⟩ := fun b o h1 h2 => (off2.2 b o h2).trans (off1.2 b o h1)
  have hsz : w1.heap.size ≤ (putVal (w1.setCell ⟨wr.heap.size, 5, none⟩ v) w.heap.size (k * 6) (x, ⟨u.a, x.l.length, u.c⟩)).heap.size := Nat.le_of_eq (by rw [off2.1, off1.1])
  refine ⟨putVal_below (hB1.setCell (by show w.heap.size ≤ wr.heap.size; omega) _) (Nat.le_refl _) _ _, ps ++ [(x, ⟨u.a, x.l.length, u.c⟩)], ?_, r3, fun p hp => ?_⟩
  · rw [List.map_append, hm, take_one hk]; rfl
  · rcases List.mem_append.1 hp with hp | hp
    · refine ⟨(hch p hp).1, ?_⟩
      have q := RdP.low _ _ _ (hch p hp).2
      have q2 := RdP.below hb1 _ _ _ (RdP.below (below_new wr o) _ _ _ q)
      refine RdP.mono (fun b hb => hb.1) _ _ _ (RdP.stay (fun b o hb => hk2 b o (by omega) (by omega)) hsz _ _ _ q2)
    · rw [List.mem_singleton] at hp
      subst hp
      refine ⟨rfl, ?_⟩
      refine RdP.mono (fun b hb => ?_) _ _ _ (RdP.stay (fun b o hb => hk2 b o ?_ ?_) hsz _ _ _ hu)
      · simp at hb; omega
      · simp at hb; omega
      · simp at hb; omega

set_option maxRecDepth 100000 in
set_option maxHeartbeats 800000 in
theorem copies_nil (A : Option Addr) (c : Nat) (w : World) : Calls Try.prog 58 #[.slice A 0 c] w fun e w' => e = .returned (.slice none 0 0) ∧ w' = w := by
  go_enter Try.func58, Try.ntmps58
  go_wp2
  go_ret
  exact ⟨rfl, rfl⟩

/-- what copies hands back: the same trees, in memory of its own -/
def CpPost (w : World) (d : Nat) (ts : List Tr) (e : Ending) (w' : World) : Prop := ∃ u : Sl, e = .returned (.slice u.a ts.length u.c) ∧ RdP (fun b => w.heap.size ≤ b) w' NV d ts u.a ∧ Below w.heap.size w w'
set_option linter.unusedSimpArgs false in
set_option linter.unusedVariables false in
set_option maxRecDepth 100000 in
set_option maxHeartbeats 3200000 in
theorem copies58 : ∀ (d : Nat) (ts : List Tr) (A : Option Addr) (c : Nat) (w : World), RdV w w.heap.size NV d ts A → Calls Try.prog 58 #[.slice A ts.length c] w (CpPost w d ts) := by
  intro d
  induction d with
  | zero =>
    intro ts A c w h
    cases h
    exact (copies_nil A c w).mono fun e w' ⟨h1, h2⟩ => by subst h2; exact ⟨⟨none, 0, 0⟩, h1, RdP.nil_, Below.refl _ _⟩
  | succ d ih =>
  intro ts A c w h
  rcases Nat.eq_zero_or_pos ts.length with h0 | h0
  · have hn : ts = [] := List.eq_nil_of_length_eq_zero h0
    subst hn
    exact (copies_nil A c w).mono fun e w' ⟨h1, h2⟩ => by subst h2; exact ⟨⟨none, 0, 0⟩, h1, RdP.nil_, Below.refl _ _⟩
  have HM : ts.length ≤ 1759218604441 := h.len
  have hne : ¬ ts.length = 0 := by omega
  have H := Lib.hid h
  have IH := Lib.hid ih
  clear h ih
  obtain ⟨i0, hi, hz0, hz1, hz2⟩ := info_parts info126
  go_enter Try.func58, Try.ntmps58
  go_wp2_with (at_make; refine wpList_make_full _ rfl _ _ 32 rfl w.heap.size 126 i0 _ 6 Try.underlying32 hi hz0 hz1 .i64 .i64 _ _ ts.length rfl rfl rfl rfl (by rw [hz2]; omega) (by rw [ml_val]; omega) (Nat.le_refl _) ?_; intro w0 hown0 hgr0; rw [made_vals] at hown0)
  have C0 : Hid (CpRel w ts d 0 w0) := Lib.hid ⟨Below.of_grown hgr0, [], rfl, by simpa using hown0, by simp⟩
  clear hown0 hgr0
  go_loopw [14] (fun i wr => ∃ k : Nat, k ≤ ts.length ∧ i = .int .i64 k ∧ CpRel w ts d k wr) (fun i _ => ts.length - (intOf i).toNat)
  case atStart => exact ⟨0, Nat.zero_le _, rfl, C0.out⟩
  case round =>
    clear C0
    obtain ⟨k, hk, rfl, hC⟩ := hrel
    have hsz := hC.size
    have CR := Lib.hid hC
    by_cases hlt : k < ts.length
    · obtain ⟨b, off, x, v, d', hx, hA, hb, ed, hvn, hvr, hcl⟩ := H.out.at_ hlt
      have ed' : d' = d := by omega
      subst ed'
      have x0 : wr.cell? ⟨b, off + k * 6, none⟩ = some (.int .i64 x.kind) := (hC.b.cell (p := ⟨b, off + k * 6, none⟩) hb).trans (hcl 0 _ rfl)
      have x1 : wr.cell? ⟨b, off + k * 6 + 1, none⟩ = some (.string x.t) := (hC.b.cell (p := ⟨b, off + k * 6 + 1, none⟩) hb).trans (hcl 1 _ rfl)
      have x2 : wr.cell? ⟨b, off + k * 6 + 2, none⟩ = some (.int .i64 x.n) := (hC.b.cell (p := ⟨b, off + k * 6 + 2, none⟩) hb).trans (hcl 2 _ rfl)
      have x3 : wr.cell? ⟨b, off + k * 6 + 3, none⟩ = some (.int .i64 x.m) := (hC.b.cell (p := ⟨b, off + k * 6 + 3, none⟩) hb).trans (hcl 3 _ rfl)
      have x4 : wr.cell? ⟨b, off + k * 6 + 4, none⟩ = some (.string x.s) := (hC.b.cell (p := ⟨b, off + k * 6 + 4, none⟩) hb).trans (hcl 4 _ rfl)
      have x5 : wr.cell? ⟨b, off + k * 6 + 5, none⟩ = some (.slice v.a x.l.length v.c) := by rw [← hvn]; exact (hC.b.cell (p := ⟨b, off + k * 6 + 5, none⟩) hb).trans (hcl 5 _ rfl)
      have hix : ∀ W : World, Sem.run Try.prog (Instr.indexAt 32 (.slice A ts.length c) (.int .i64 (k : Int))) W = .ok (.pointer (some ⟨b, off + k * 6, none⟩)) W := by intro W; rw [hA]; go_simp
      have HX := Lib.hid hx
      have HV : Hid (RdV wr wr.heap.size NV d' x.l v.a) := Lib.hid (hvr.below hC.b)
      obtain ⟨ps, hm, hrow, hch⟩ := hC.row
      have hpl : ps.length = k := by have := congrArg List.length hm; simp at this; omega
      have y : ∀ j, j < 6 → ∃ q, wr.cell? ⟨w.heap.size, k * 6 + j, none⟩ = some q := fun j hj => by
        obtain ⟨g, r, e1, _, _, e4, e5, _⟩ := own_at hrow (fun _ => rfl) (by omega) (i := k) hlt
        simp only [Option.some.injEq, Addr.mk.injEq] at e1
        obtain ⟨rfl, _⟩ := e1
        exact ⟨_, e5 j _ (List.getElem?_eq_getElem (by show j < 6; omega))⟩
      have hfr : ∀ j, wr.frozen? ⟨w.heap.size, j, none⟩ = false := fun j => by
        obtain ⟨g, r, e1, _, _, e4, e5, e6⟩ := own_at hrow (fun _ => rfl) (by omega) (i := k) hlt
        simp only [Option.some.injEq, Addr.mk.injEq] at e1
        obtain ⟨rfl, _⟩ := e1
        exact e6 j
      obtain ⟨q0, y0⟩ : ∃ q, wr.cell? ⟨w.heap.size, k * 6, none⟩ = some q := y 0 (by omega)
      obtain ⟨q1, y1⟩ := y 1 (by omega)
      obtain ⟨q2, y2⟩ := y 2 (by omega)
      obtain ⟨q3, y3⟩ := y 3 (by omega)
      obtain ⟨q4, y4⟩ := y 4 (by omega)
      obtain ⟨q5, y5⟩ := y 5 (by omega)
      clear hA hx hcl hvn hvr ed hC hm hrow hch y hpl
      have n1 : ¬ b = wr.heap.size := by omega
      have n2 : b < wr.heap.size := by omega
      have n3 : ¬ w.heap.size = wr.heap.size := by omega
      have n4 : ¬ wr.heap.size = w.heap.size := by omega
      go_wp2_with fail
      refine (IH.out x.l v.a v.c _ (HV.out.below (below_new wr _))).mono ?_
      rintro e w1 ⟨u, rfl, hu, h1⟩
      have HU := Lib.hid hu
      have HH := Lib.hid h1
      have z1 := h1.size
      simp at z1
      obtain ⟨g0, kc, kf⟩ := keepB h1 wr.heap.size (by simp)
      have c0 : w1.cell? ⟨wr.heap.size, 0, none⟩ = some (.int .i64 x.kind) := (kc 0).trans (by simp [go_sem, *])
      have c1 : w1.cell? ⟨wr.heap.size, 1, none⟩ = some (.string x.t) := (kc 1).trans (by simp [go_sem, *])
      have c2 : w1.cell? ⟨wr.heap.size, 2, none⟩ = some (.int .i64 x.n) := (kc 2).trans (by simp [go_sem, *])
      have c3 : w1.cell? ⟨wr.heap.size, 3, none⟩ = some (.int .i64 x.m) := (kc 3).trans (by simp [go_sem, *])
      have c4 : w1.cell? ⟨wr.heap.size, 4, none⟩ = some (.string x.s) := (kc 4).trans (by simp [go_sem, *])
      have c5 : w1.cell? ⟨wr.heap.size, 5, none⟩ = some (.slice v.a x.l.length v.c) := (kc 5).trans (by simp [go_sem, *])
      have f5 : w1.frozen? ⟨wr.heap.size, 5, none⟩ = false := (kf 5).trans (by simp [go_sem, *])
      obtain ⟨g1, rc, rf⟩ := keepB h1 w.heap.size (by simp; omega)
      have d0 : w1.cell? ⟨w.heap.size, k * 6, none⟩ = some q0 := (rc _).trans (by simp [go_sem, *])
      have d1 : w1.cell? ⟨w.heap.size, k * 6 + 1, none⟩ = some q1 := (rc _).trans (by simp [go_sem, *])
      have d2 : w1.cell? ⟨w.heap.size, k * 6 + 2, none⟩ = some q2 := (rc _).trans (by simp [go_sem, *])
      have d3 : w1.cell? ⟨w.heap.size, k * 6 + 3, none⟩ = some q3 := (rc _).trans (by simp [go_sem, *])
      have d4 : w1.cell? ⟨w.heap.size, k * 6 + 4, none⟩ = some q4 := (rc _).trans (by simp [go_sem, *])
      have d5 : w1.cell? ⟨w.heap.size, k * 6 + 5, none⟩ = some q5 := (rc _).trans (by simp [go_sem, *])
      have hf1 : ∀ j, w1.frozen? ⟨w.heap.size, j, none⟩ = false := fun j => (rf j).trans (((below_new wr _).frozen (p := ⟨w.heap.size, j, none⟩) hsz).trans (hfr j))
      clear hu h1 kc kf rc rf x0 x1 x2 x3 x4 x5 y0 y1 y2 y3 y4 y5 hfr hix
      go_wp2_with fail
      go_roundw
      case rel => exact ⟨k + 1, by omega, by go_num, CR.out.step HX.out HH.out HU.out⟩
      case measure => simp [intOf]; omega
    · have hke : k = ts.length := by omega
      subst hke
      go_wp2_with fail
      go_ret
      obtain ⟨ps, hm, hrow, hch⟩ := CR.out.row
      rw [List.take_length] at hm
      have hpl : ps.length = ts.length := by rw [← hm]; simp
      rw [Nat.sub_self, List.replicate_zero, List.append_nil] at hrow
      refine ⟨⟨some ⟨w.heap.size, 0, none⟩, ts.length, ts.length⟩, rfl, ⟨ps, hm, by rw [hpl]; exact H.out.len, ?_, ?_, ?_⟩, CR.out.b⟩
      · rw [hpl]; exact own_rd hrow
      · intro q hq _
        injection hq with hq
        subst hq
        exact Nat.le_refl _
      · exact fun p hp => ⟨(hch p hp).1, RdP.mono (fun b hb => by omega) _ _ _ (hch p hp).2⟩
/-- copies of a slice that reads as trees -/
theorem copies_any {P : Nat → Prop} (l : Sl) (ts : List Tr) (w : World) (h : VR P w l ts) :
    Calls Try.prog 58 #[.slice l.a l.n l.c] w fun e w' => ∃ u : Sl, e = .returned (.slice u.a u.n u.c) ∧ VR (fun b => w.heap.size ≤ b) w' u ts ∧ Below w.heap.size w w' := by
  obtain ⟨d, hd⟩ := h.tr
  rw [← h.len]
  exact (copies58 d ts l.a l.c w (RdP.rdv _ _ _ hd)).mono fun e w' ⟨u, h1, h2, h3⟩ => ⟨⟨u.a, ts.length, u.c⟩, h1, ⟨rfl, d, h2⟩, h3⟩
end Go.Proofs.Ytjdjfjokniingaa
