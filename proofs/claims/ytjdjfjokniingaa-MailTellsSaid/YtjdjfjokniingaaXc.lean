/- The contract of the reference's Post. -/
import Derived.Test.YtjdjfjokniingaaXb
namespace Go.Proofs.Ytjdjfjokniingaa
open Go.RowKit

theorem let_cells {W : World} {B : Nat} {l : LetC} (h : BoxAt W B (letL l)) : W.cell? ⟨B, 0, none⟩ = some (.string l.src) ∧ W.cell? ⟨B, 1, none⟩ = some (.string l.msg) ∧ W.cell? ⟨B, 2, none⟩ = some (.slice l.args.a l.args.n l.args.c) ∧ W.cell? ⟨B, 3, none⟩ = some (.int .i64 l.sent) :=
  ⟨h.2.1 0 _ rfl, h.2.1 1 _ rfl, h.2.1 2 _ rfl, h.2.1 3 _ rfl⟩
/-- an actor's mail has been replaced in a copy of the row -/
theorem sysR_with {P : Nat → Prop} {w Wf : World} {s : SysC} {σ : PS} {qs : List (LiveC × List LetC)} {i : Nat} {a : LiveC} {ms ms' : List LetC} {u m : Sl} (f : List LetC → List LetC) (hf : f ms = ms') (H : SysR P w s σ) (HQ2 : ∀ q ∈ qs, MailAt P w q.1 q.2) (HQ3 : qs.map plOf = σ.acts) (HQI : qs[i]? = some (a, ms)) (hB : Below w.heap.size w Wf)
    (hr : Rd Wf Wf.heap.size 9 u.a s.actors.n (((qs.map (·.1)).set i { a with mail := m }).flatMap liveL)) (hu : ∀ g, u.a.map (·.block) = some g → w.heap.size ≤ g) (hm : Rd Wf Wf.heap.size 4 m.a m.n (ms'.flatMap letL)) (hmc : m.n ≤ m.c) (hml : ∀ g, m.a.map (·.block) = some g → w.heap.size ≤ g) :
    SysR (fun b => P b ∨ w.heap.size ≤ b) Wf { s with actors := ⟨u.a, s.actors.n, u.c⟩ } (Ml.mailed σ i f) := by
  have h := (H.below hB).mono (Q := fun b => P b ∨ w.heap.size ≤ b) (fun b hb => .inl hb)
  have hL : ∀ (A : Option Addr) (n : Nat), (∀ g, A.map (·.block) = some g → w.heap.size ≤ g) → Loc (fun b => P b ∨ w.heap.size ≤ b) A n := fun A n hA q hq _ => .inr (hA q.block (by rw [hq]; rfl))
  refine { h with ac := ?_, la := hL _ _ hu }
  exact acts_mailed (m := m) f hf HQI HQ3 hr ⟨hm, hmc, hL _ _ hml⟩ (fun q hq => ((HQ2 q hq).below hB).mono (fun b hb => .inl hb))
theorem own_block {w : World} {base T k n c : Nat} {A : Option Addr} {xs : List Value} (h : w.ownsRow base T k (.slice A n c) n xs) : ∀ g, A.map (·.block) = some g → base ≤ g := fun g hg => by
  cases A with
  | none => cases hg
  | some q => exact row_base h g (by simpa [Value.ownBlock] using hg)

set_option linter.unusedSimpArgs false in
set_option linter.unusedVariables false in
set_option maxRecDepth 100000 in
set_option maxHeartbeats 6400000 in
theorem post34_none {P : Nat → Prop} (s : SysC) (σ : PS) (p : ByteArray) (l : LetC) (w : World) (h : SysR P w s σ) (hna : s.actors.n ≤ 1000000) (hnu : s.up.n ≤ 9223372036854775807) (hr : Ml.reachP σ p = none) :
    Calls Try.prog 34 #[sysV s, .string p, letV l] w (SysPost P (Ml.post σ p l) w) := by
  have HP : Hid (Ml.post σ p l = (Ml.lost σ, false)) := Lib.hid (by unfold Ml.post; rw [hr])
  obtain ⟨qs, hq1, hq2, hq3⟩ := h.ac
  have C := Lib.hid (fun (W : World) (hW : Below w.heap.size w W) => reach77 s (qs.map (·.1)) σ.ups p W (h.up.up hW) (hq1.up hW) (by omega) hnu)
  rw [Ml.reach_eq σ.ups qs σ hq3 rfl p, hr] at C
  have H := Lib.hid h
  clear h hr hq1 hq2 hq3
  have BS0 : Hid (BoxAt (((w.alloc (.cells (sysL s).toArray 28)).alloc (.cells (letL l).toArray 34)).alloc (.cells (sysL sysZ).toArray 28)) w.heap.size (sysL s)) := Lib.hid (((BoxAt.new w 28 (sysL s) _ rfl).alloc _).alloc _)
  have BL0 : Hid (BoxAt (((w.alloc (.cells (sysL s).toArray 28)).alloc (.cells (letL l).toArray 34)).alloc (.cells (sysL sysZ).toArray 28)) (w.heap.size + 1) (letL l)) := Lib.hid ((BoxAt.new _ 34 (letL l) _ (by simp)).alloc _)
  have BZ0 : Hid (BoxAt (((w.alloc (.cells (sysL s).toArray 28)).alloc (.cells (letL l).toArray 34)).alloc (.cells (sysL sysZ).toArray 28)) (w.heap.size + 1 + 1) (sysL sysZ)) := Lib.hid (BoxAt.new _ 28 (sysL sysZ) _ (by simp))
  have B0 : Hid (Below w.heap.size w (((w.alloc (.cells (sysL s).toArray 28)).alloc (.cells (letL l).toArray 34)).alloc (.cells (sysL sysZ).toArray 28))) := Lib.hid (by repeat (first | (with_reducible exact Below.refl _ _) | (with_reducible assumption) | ((with_reducible refine Below.setCell ?_ ?_ _); rotate_left; (focus (first | omega | (simp; omega) | (simp; done)))) | ((with_reducible refine Below.alloc ?_ ?_ _); rotate_left; (focus (first | omega | (simp; omega) | (simp; done)))) | (with_reducible refine Below.drew ?_)))
  obtain ⟨v0, hv0⟩ : ∃ W, W = (((w.alloc (.cells (sysL s).toArray 28)).alloc (.cells (letL l).toArray 34)).alloc (.cells (sysL sysZ).toArray 28)) := ⟨_, rfl⟩
  have hz0 : v0.heap.size = w.heap.size + 1 + 1 + 1 := by rw [hv0]; simp
  rw [← hv0] at BS0 BL0 BZ0 B0
  go_enter Try.func34, Try.ntmps34
  go_wp2_with fail
  refine (C.out _ (by have h := B0.out; rw [hv0] at h; exact h)).mono ?_
  rintro e v1 ⟨i, rfl, _, h1⟩
  have H1 : Hid (Below v0.heap.size v0 v1) := Lib.hid (by rw [hv0]; exact h1)
  clear h1 hv0
  have hz1 := H1.out.size
  have B1 := Lib.hid (Below.call B0.out H1.out)
  have BS1 := Lib.hid (BS0.out.call H1.out)
  have BL1 := Lib.hid (BL0.out.call H1.out)
  have BZ1 := Lib.hid (BZ0.out.call H1.out)
  clear BS0 BL0 BZ0
  obtain ⟨c0, c1, c2, c3, c4, c5, c6, c7, c8⟩ := sbox_cells BS1.out
  obtain ⟨f0, f1, f2, f3, f4, f5, f6, f7, f8⟩ := sbox_free BS1.out
  obtain ⟨z0, z1, z2, z3, z4, z5, z6, z7, z8⟩ := sbox_cells BZ1.out
  obtain ⟨y0, y1, y2, y3, y4, y5, y6, y7, y8⟩ := sbox_free BZ1.out
  go_wp2_with fail
  obtain ⟨Wf, hWf⟩ : ∃ W, W = putSys (v1.setCell ⟨w.heap.size, 8, none⟩ (.int .i64 (wrap64 (s.dead + 1)))) (w.heap.size + 1 + 1) { s with dead := wrap64 (s.dead + 1) } := ⟨_, rfl⟩
  have hBf : Below w.heap.size w Wf := by rw [hWf]; exact putSys_below (B1.out.setCell (Nat.le_refl _) _) (by omega)
  refine bodyPost_ret (v := .tuple #[sysV { s with dead := wrap64 (s.dead + 1) }, .bool false]) ?_ rfl ?_
  · simp [results, Try.results34, go_sem, *]
  · rw [hWf] at hBf; exact sysPost HP.out ((H.out.below hBf).mono (fun b hb => .inl hb)).lost hBf

set_option linter.unusedSimpArgs false in
set_option linter.unusedVariables false in
set_option maxRecDepth 100000 in
set_option maxHeartbeats 6400000 in
theorem post34_full {P : Nat → Prop} (s : SysC) (σ : PS) (p : ByteArray) (l : LetC) (w : World) (h : SysR P w s σ) (hna : s.actors.n ≤ 1000000) (hnu : s.up.n ≤ 9223372036854775807) (i : Nat) (hr : Ml.reachP σ p = some i) (a : LiveC) (ms : List LetC) (qs : List (LiveC × List LetC)) (hq1 : Rd w w.heap.size 9 s.actors.a s.actors.n ((qs.map (·.1)).flatMap liveL)) (hq2 : ∀ q ∈ qs, MailAt P w q.1 q.2) (hq3 : qs.map plOf = σ.acts) (hqi : qs[i]? = some (a, ms)) (hm : 1024 ≤ a.mail.n) :
    Calls Try.prog 34 #[sysV s, .string p, letV l] w (SysPost P (Ml.post σ p l) w) := by
  have hms : ms.length = a.mail.n := (hq2 _ (List.mem_of_getElem? hqi)).rd.len (fun _ => rfl) (by omega)
  have hai : σ.acts[i]? = some (plOf (a, ms)) := by rw [← hq3, List.getElem?_map, hqi]; rfl
  have HP : Hid (Ml.post σ p l = (Ml.lost σ, false)) := Lib.hid (by unfold Ml.post; rw [hr]; simp only [hai]; rw [if_neg (by simp [plOf, hms]; omega)])
  have C := Lib.hid (fun (W : World) (hW : Below w.heap.size w W) => reach77 s (qs.map (·.1)) σ.ups p W (h.up.up hW) (hq1.up hW) (by omega) hnu)
  rw [Ml.reach_eq σ.ups qs σ hq3 rfl p, hr] at C
  have hil : i < s.actors.n := by
    have h1 := hq1.len (fun _ => rfl) (by omega)
    have h2 := (List.getElem?_eq_some_iff.1 hqi).1
    simp at h1; omega
  obtain ⟨b, off, a', hA, hb, hak, hc⟩ := hq1.at_ (fun _ => rfl) (by omega) hil
  have ea : a' = a := by rw [List.getElem?_map, hqi] at hak; simpa using hak.symm
  subst ea
  have hix : ∀ W : World, Sem.run Try.prog (Instr.indexAt 23 (.slice s.actors.a s.actors.n s.actors.c) (.int .i64 (i : Int))) W = .ok (.pointer (some ⟨b, off + i * 9, none⟩)) W := by intro W; rw [hA]; go_simp
  have HC := Lib.hid hc
  have hq : (1024 : Int) ≤ (a'.mail.n : Int) := by omega
  have H := Lib.hid h
  clear h hr hq1 hq2 hq3 hqi hA hak hc hms hai hm
  have BS0 : Hid (BoxAt (((w.alloc (.cells (sysL s).toArray 28)).alloc (.cells (letL l).toArray 34)).alloc (.cells (sysL sysZ).toArray 28)) w.heap.size (sysL s)) := Lib.hid (((BoxAt.new w 28 (sysL s) _ rfl).alloc _).alloc _)
  have BL0 : Hid (BoxAt (((w.alloc (.cells (sysL s).toArray 28)).alloc (.cells (letL l).toArray 34)).alloc (.cells (sysL sysZ).toArray 28)) (w.heap.size + 1) (letL l)) := Lib.hid ((BoxAt.new _ 34 (letL l) _ (by simp)).alloc _)
  have BZ0 : Hid (BoxAt (((w.alloc (.cells (sysL s).toArray 28)).alloc (.cells (letL l).toArray 34)).alloc (.cells (sysL sysZ).toArray 28)) (w.heap.size + 1 + 1) (sysL sysZ)) := Lib.hid (BoxAt.new _ 28 (sysL sysZ) _ (by simp))
  have B0 : Hid (Below w.heap.size w (((w.alloc (.cells (sysL s).toArray 28)).alloc (.cells (letL l).toArray 34)).alloc (.cells (sysL sysZ).toArray 28))) := Lib.hid (by repeat (first | (with_reducible exact Below.refl _ _) | (with_reducible assumption) | ((with_reducible refine Below.setCell ?_ ?_ _); rotate_left; (focus (first | omega | (simp; omega) | (simp; done)))) | ((with_reducible refine Below.alloc ?_ ?_ _); rotate_left; (focus (first | omega | (simp; omega) | (simp; done)))) | (with_reducible refine Below.drew ?_)))
  obtain ⟨v0, hv0⟩ : ∃ W, W = (((w.alloc (.cells (sysL s).toArray 28)).alloc (.cells (letL l).toArray 34)).alloc (.cells (sysL sysZ).toArray 28)) := ⟨_, rfl⟩
  have hz0 : v0.heap.size = w.heap.size + 1 + 1 + 1 := by rw [hv0]; simp
  rw [← hv0] at BS0 BL0 BZ0 B0
  go_enter Try.func34, Try.ntmps34
  go_wp2_with fail
  refine (C.out _ (by have h := B0.out; rw [hv0] at h; exact h)).mono ?_
  rintro e v1 ⟨i', rfl, hi', h1⟩
  obtain rfl := hi' i rfl
  clear hi'
  have H1 : Hid (Below v0.heap.size v0 v1) := Lib.hid (by rw [hv0]; exact h1)
  clear h1 hv0
  have hz1 := H1.out.size
  have B1 := Lib.hid (Below.call B0.out H1.out)
  have BS1 := Lib.hid (BS0.out.call H1.out)
  have BL1 := Lib.hid (BL0.out.call H1.out)
  have BZ1 := Lib.hid (BZ0.out.call H1.out)
  clear BS0 BL0 BZ0
  obtain ⟨c0, c1, c2, c3, c4, c5, c6, c7, c8⟩ := sbox_cells BS1.out
  obtain ⟨f0, f1, f2, f3, f4, f5, f6, f7, f8⟩ := sbox_free BS1.out
  have x8 : v1.cell? ⟨b, off + i' * 9 + 8, none⟩ = some (.slice a'.mail.a a'.mail.n a'.mail.c) := (B1.out.cell (p := ⟨b, off + i' * 9 + 8, none⟩) hb).trans (HC.out 8 _ rfl)
  obtain ⟨z0, z1, z2, z3, z4, z5, z6, z7, z8⟩ := sbox_cells BZ1.out
  obtain ⟨y0, y1, y2, y3, y4, y5, y6, y7, y8⟩ := sbox_free BZ1.out
  go_wp2_with fail
  obtain ⟨Wf, hWf⟩ : ∃ W, W = putSys (v1.setCell ⟨w.heap.size, 8, none⟩ (.int .i64 (wrap64 (s.dead + 1)))) (w.heap.size + 1 + 1) { s with dead := wrap64 (s.dead + 1) } := ⟨_, rfl⟩
  have hBf : Below w.heap.size w Wf := by rw [hWf]; exact putSys_below (B1.out.setCell (Nat.le_refl _) _) (by omega)
  refine bodyPost_ret (v := .tuple #[sysV { s with dead := wrap64 (s.dead + 1) }, .bool false]) ?_ rfl ?_
  · simp [results, Try.results34, go_sem, *]
  · rw [hWf] at hBf; exact sysPost HP.out ((H.out.below hBf).mono (fun b hb => .inl hb)).lost hBf

set_option linter.unusedSimpArgs false in
set_option linter.unusedVariables false in
set_option maxRecDepth 100000 in
set_option maxHeartbeats 6400000 in
theorem post34_room {P : Nat → Prop} (s : SysC) (σ : PS) (p : ByteArray) (l : LetC) (w : World) (h : SysR P w s σ) (hna : s.actors.n ≤ 1000000) (hnu : s.up.n ≤ 9223372036854775807) (i : Nat) (hr : Ml.reachP σ p = some i) (a : LiveC) (ms : List LetC) (qs : List (LiveC × List LetC)) (hq1 : Rd w w.heap.size 9 s.actors.a s.actors.n ((qs.map (·.1)).flatMap liveL)) (hq2 : ∀ q ∈ qs, MailAt P w q.1 q.2) (hq3 : qs.map plOf = σ.acts) (hqi : qs[i]? = some (a, ms)) (hm : a.mail.n < 1024) :
    Calls Try.prog 34 #[sysV s, .string p, letV l] w (SysPost P (Ml.post σ p l) w) := by
  have hms : ms.length = a.mail.n := (hq2 _ (List.mem_of_getElem? hqi)).rd.len (fun _ => rfl) (by omega)
  have hai : σ.acts[i]? = some (plOf (a, ms)) := by rw [← hq3, List.getElem?_map, hqi]; rfl
  have HP : Hid (Ml.post σ p l = (Ml.mailed σ i (· ++ [l]), true)) := Lib.hid (by unfold Ml.post; rw [hr]; simp only [hai]; rw [if_pos (by simp [plOf, hms]; omega)])
  have C := Lib.hid (fun (W : World) (hW : Below w.heap.size w W) => reach77 s (qs.map (·.1)) σ.ups p W (h.up.up hW) (hq1.up hW) (by omega) hnu)
  rw [Ml.reach_eq σ.ups qs σ hq3 rfl p, hr] at C
  have hil : i < s.actors.n := by
    have h1 := hq1.len (fun _ => rfl) (by omega)
    have h2 := (List.getElem?_eq_some_iff.1 hqi).1
    simp at h1; omega
  obtain ⟨b, off, a', hA, hb, hak, hc⟩ := hq1.at_ (fun _ => rfl) (by omega) hil
  have ea : a' = a := by rw [List.getElem?_map, hqi] at hak; simpa using hak.symm
  subst ea
  have hix : ∀ W : World, Sem.run Try.prog (Instr.indexAt 23 (.slice s.actors.a s.actors.n s.actors.c) (.int .i64 (i : Int))) W = .ok (.pointer (some ⟨b, off + i * 9, none⟩)) W := by intro W; rw [hA]; go_simp
  have HC := Lib.hid hc
  have hq : ¬ (1024 : Int) ≤ (a'.mail.n : Int) := by omega
  have CW := Lib.hid (fun (W : World) (hW : Below w.heap.size w W) (m : Sl) => with78 s (qs.map (·.1)) i { a' with mail := m } W (hq1.up hW) hna hil)
  have HML := Lib.hid (hq2 _ (List.mem_of_getElem? hqi)).rd
  have HQ2 := Lib.hid hq2
  have HQ3 := Lib.hid hq3
  have HQI := Lib.hid hqi
  obtain ⟨i4, hi4, hz40, hz41, hz42⟩ := info_parts info34
  have H := Lib.hid h
  clear h hr hq1 hq2 hq3 hqi hA hak hc hms hai
  have BS0 : Hid (BoxAt (((w.alloc (.cells (sysL s).toArray 28)).alloc (.cells (letL l).toArray 34)).alloc (.cells (sysL sysZ).toArray 28)) w.heap.size (sysL s)) := Lib.hid (((BoxAt.new w 28 (sysL s) _ rfl).alloc _).alloc _)
  have BL0 : Hid (BoxAt (((w.alloc (.cells (sysL s).toArray 28)).alloc (.cells (letL l).toArray 34)).alloc (.cells (sysL sysZ).toArray 28)) (w.heap.size + 1) (letL l)) := Lib.hid ((BoxAt.new _ 34 (letL l) _ (by simp)).alloc _)
  have BZ0 : Hid (BoxAt (((w.alloc (.cells (sysL s).toArray 28)).alloc (.cells (letL l).toArray 34)).alloc (.cells (sysL sysZ).toArray 28)) (w.heap.size + 1 + 1) (sysL sysZ)) := Lib.hid (BoxAt.new _ 28 (sysL sysZ) _ (by simp))
  have B0 : Hid (Below w.heap.size w (((w.alloc (.cells (sysL s).toArray 28)).alloc (.cells (letL l).toArray 34)).alloc (.cells (sysL sysZ).toArray 28))) := Lib.hid (by repeat (first | (with_reducible exact Below.refl _ _) | (with_reducible assumption) | ((with_reducible refine Below.setCell ?_ ?_ _); rotate_left; (focus (first | omega | (simp; omega) | (simp; done)))) | ((with_reducible refine Below.alloc ?_ ?_ _); rotate_left; (focus (first | omega | (simp; omega) | (simp; done)))) | (with_reducible refine Below.drew ?_)))
  obtain ⟨v0, hv0⟩ : ∃ W, W = (((w.alloc (.cells (sysL s).toArray 28)).alloc (.cells (letL l).toArray 34)).alloc (.cells (sysL sysZ).toArray 28)) := ⟨_, rfl⟩
  have hz0 : v0.heap.size = w.heap.size + 1 + 1 + 1 := by rw [hv0]; simp
  rw [← hv0] at BS0 BL0 BZ0 B0
  go_enter Try.func34, Try.ntmps34
  go_wp2_with fail
  refine (C.out _ (by have h := B0.out; rw [hv0] at h; exact h)).mono ?_
  rintro e v1 ⟨i', rfl, hi', h1⟩
  obtain rfl := hi' i rfl
  clear hi'
  have H1 : Hid (Below v0.heap.size v0 v1) := Lib.hid (by rw [hv0]; exact h1)
  clear h1 hv0
  have hz1 := H1.out.size
  have B1 := Lib.hid (Below.call B0.out H1.out)
  have BS1 := Lib.hid (BS0.out.call H1.out)
  have BL1 := Lib.hid (BL0.out.call H1.out)
  have BZ1 := Lib.hid (BZ0.out.call H1.out)
  clear BS0 BL0 BZ0
  obtain ⟨c0, c1, c2, c3, c4, c5, c6, c7, c8⟩ := sbox_cells BS1.out
  obtain ⟨f0, f1, f2, f3, f4, f5, f6, f7, f8⟩ := sbox_free BS1.out
  have x0 : v1.cell? ⟨b, off + i' * 9, none⟩ = some (.string a'.path) := (B1.out.cell (p := ⟨b, off + i' * 9, none⟩) hb).trans (HC.out 0 _ rfl)
  have x1 : v1.cell? ⟨b, off + i' * 9 + 1, none⟩ = some (.string a'.type) := (B1.out.cell (p := ⟨b, off + i' * 9 + 1, none⟩) hb).trans (HC.out 1 _ rfl)
  have x2 : v1.cell? ⟨b, off + i' * 9 + 2, none⟩ = some (.int .i64 a'.node) := (B1.out.cell (p := ⟨b, off + i' * 9 + 2, none⟩) hb).trans (HC.out 2 _ rfl)
  have x3 : v1.cell? ⟨b, off + i' * 9 + 3, none⟩ = some (.slice a'.init.a a'.init.n a'.init.c) := (B1.out.cell (p := ⟨b, off + i' * 9 + 3, none⟩) hb).trans (HC.out 3 _ rfl)
  have x4 : v1.cell? ⟨b, off + i' * 9 + 4, none⟩ = some (.slice a'.vars.a a'.vars.n a'.vars.c) := (B1.out.cell (p := ⟨b, off + i' * 9 + 4, none⟩) hb).trans (HC.out 4 _ rfl)
  have x5 : v1.cell? ⟨b, off + i' * 9 + 5, none⟩ = some (.int .i64 a'.kids) := (B1.out.cell (p := ⟨b, off + i' * 9 + 5, none⟩) hb).trans (HC.out 5 _ rfl)
  have x6 : v1.cell? ⟨b, off + i' * 9 + 6, none⟩ = some (.int .i64 a'.rest) := (B1.out.cell (p := ⟨b, off + i' * 9 + 6, none⟩) hb).trans (HC.out 6 _ rfl)
  have x7 : v1.cell? ⟨b, off + i' * 9 + 7, none⟩ = some (.bool a'.stopped) := (B1.out.cell (p := ⟨b, off + i' * 9 + 7, none⟩) hb).trans (HC.out 7 _ rfl)
  have x8 : v1.cell? ⟨b, off + i' * 9 + 8, none⟩ = some (.slice a'.mail.a a'.mail.n a'.mail.c) := (B1.out.cell (p := ⟨b, off + i' * 9 + 8, none⟩) hb).trans (HC.out 8 _ rfl)
  have n1 : ¬ b = v1.heap.size := by omega
  have n2 : b < v1.heap.size := by omega
  have BX1 : Hid (BoxAt (v1.alloc (.cells (liveL a').toArray 76)) v1.heap.size (liveL a')) := Lib.hid (BoxAt.new _ 76 (liveL a') _ rfl)
  obtain ⟨va, hva⟩ : ∃ W, W = v1.alloc (.cells (liveL a').toArray 76) := ⟨_, rfl⟩
  have hza : va.heap.size = v1.heap.size + 1 := by rw [hva]; simp
  have Ba : Hid (Below v1.heap.size v1 va) := Lib.hid (by rw [hva]; exact (Below.refl _ _).alloc (Nat.le_refl _) _)
  rw [← hva] at BX1
  go_wp2_with (first
    | (at_builtin; refine wpList_append_lit _ 34 rfl (.tmp 40) (.tmp 42) 74 rfl i4 _ 4 64 Try.underlying74 hi4 hz40 hz41 hz42 rfl (by decide) _ rfl (by simp) _ _ _ _ (ms.flatMap letL) rfl ((HML.out.up (Below.call B1.out Ba.out)).up (by rw [hva]; exact Below.refl _ _)) (Nat.le_refl _) (let_one _) (by omega) (by omega) ?_; intro u v2 hr2 ho2 h2; have HO2 : Hid (v2.ownsRow va.heap.size 34 4 (.slice u.a a'.mail.n u.c) a'.mail.n (ms.flatMap letL)) := Lib.hid (by rw [hva]; exact ho2); have H2 : Hid (Below va.heap.size va v2) := Lib.hid (by rw [hva]; exact h2); clear ho2 hr2 h2; have hz2 := H2.out.size; have B2 := Lib.hid (Below.call (Below.call B1.out Ba.out) H2.out); have BS2 := Lib.hid ((BS1.out.call Ba.out).call H2.out); have BL2 := Lib.hid ((BL1.out.call Ba.out).call H2.out); have BZ2 := Lib.hid ((BZ1.out.call Ba.out).call H2.out); have BX2 := Lib.hid (BX1.out.call H2.out); clear BS1 BL1 BZ1 BX1 c0 c1 c2 c3 c4 c5 c6 c7 c8 f0 f1 f2 f3 f4 f5 f6 f7 f8 x0 x1 x2 x3 x4 x5 x6 x7 x8; obtain ⟨l0, l1, l2, l3⟩ := let_cells BL2.out)
    | (at_builtin; refine wpList_append_own _ rfl (.tmp 44) (.tmp 46) 74 rfl va.heap.size 34 i4 _ 4 64 Try.underlying74 hi4 hz40 hz41 hz42 rfl (by decide) (.slice u.a a'.mail.n u.c) a'.mail.n (ms.flatMap letL) rfl (HO2.out.alloc _) ⟨v2.heap.size, 0, none⟩ 1 1 (letL l) rfl rfl (cells_new _ _ _) (by simp [Value.oneCell']) (by rw [ml_val]; omega) (by omega) (by first | omega | (simp; omega) | (simp; done)) ?_; intro v' v3 ho hgr _; obtain ⟨m, _, rfl, _⟩ := own_sl ho; have HO3 := Lib.hid ho; have BS3 := Lib.hid ((BS2.out.alloc _).kept_row (HO2.out.alloc _) (by omega) hgr); have BZ3 := Lib.hid ((BZ2.out.alloc _).kept_row (HO2.out.alloc _) (by omega) hgr); have BX3 := Lib.hid ((BX2.out.alloc _).kept_row (HO2.out.alloc _) (by omega) hgr); have B3 : Hid (Below w.heap.size w v3) := Lib.hid ((B2.out.alloc (by omega) _).grown hgr (by first | omega | (simp; omega) | (simp; done)) (fun q hq => by have := row_base (HO2.out.alloc (.cells #[] 34)) q hq; omega)); have hz3 := B3.out.size; clear ho hgr BS2 BL2 BZ2 BX2 l0 l1 l2 l3; obtain ⟨c0, c1, c2, c3, c4, c5, c6, c7, c8⟩ := sbox_cells BS3.out; obtain ⟨x0, x1, x2, x3, x4, x5, x6, x7, x8⟩ := live_cells BX3.out; have xf := BX3.out.2.2 8; have n3 : ¬ v1.heap.size = w.heap.size := (by omega); have n4 : ¬ w.heap.size = v1.heap.size := (by omega); have k1 : v1.heap.size < v3.heap.size := BX3.out.1; have k2 : w.heap.size < v3.heap.size := BS3.out.1))
  have B4 : Hid (Below w.heap.size w (v3.setCell ⟨v1.heap.size, 8, none⟩ (.slice m.a (a'.mail.n + 1) m.c))) := Lib.hid (B3.out.setCell (by show w.heap.size ≤ v1.heap.size; omega) _)
  refine (CW.out _ B4.out ⟨m.a, a'.mail.n + 1, m.c⟩).mono ?_
  rintro e v4 ⟨u4, rfl, ho4, h4⟩
  have HO4 := Lib.hid ho4
  have H4 := Lib.hid h4
  have BZ4 := Lib.hid (((BZ3.out.setOther ⟨v1.heap.size, 8, none⟩ (.slice m.a (a'.mail.n + 1) m.c) (by show v1.heap.size ≠ _; omega))).call h4)
  have hz4 := h4.size
  simp only [World.size_setCell] at hz4
  clear ho4 h4 hva c0 c1 c2 c3 c4 c5 c6 c7 c8 x0 x1 x2 x3 x4 x5 x6 x7 x8 xf
  obtain ⟨z0, z1, z2, z3, z4, z5, z6, z7, z8⟩ := sbox_cells BZ4.out
  obtain ⟨y0, y1, y2, y3, y4, y5, y6, y7, y8⟩ := sbox_free BZ4.out
  go_wp2_with fail
  obtain ⟨Wf, hWf⟩ : ∃ W, W = putSys v4 (w.heap.size + 1 + 1) { s with actors := ⟨u4.a, s.actors.n, u4.c⟩ } := ⟨_, rfl⟩
  have hBf : Below w.heap.size w Wf := by rw [hWf]; exact putSys_below (Below.call B4.out H4.out) (by omega)
  have hO : Wf.ownsRow w.heap.size 76 9 (.slice u4.a s.actors.n u4.c) s.actors.n (((qs.map (·.1)).set i' { a' with mail := ⟨m.a, a'.mail.n + 1, m.c⟩ }).flatMap liveL) := by
    rw [hWf]; exact row_low (own_off_row HO4.out (by simp only [World.size_setCell]; omega)) (by simp only [World.size_setCell]; omega)
  have hM : Wf.ownsRow va.heap.size 34 4 (.slice m.a (a'.mail.n + 1) m.c) (a'.mail.n + 1) ((ms ++ [l]).flatMap letL) := by
    have ho : v3.ownsRow va.heap.size 34 4 (.slice m.a (a'.mail.n + 1) m.c) (a'.mail.n + 1) ((ms ++ [l]).flatMap letL) := by simpa using HO3.out
    rw [hWf]; exact own_off_row (own_below (own_set_other ho _ _ (own_ne (R := v1.heap.size) ho (by omega))) H4.out) (by omega)
  have hS := sysR_with (u := u4) (m := ⟨m.a, a'.mail.n + 1, m.c⟩) (· ++ [l]) rfl H.out HQ2.out HQ3.out HQI.out hBf (own_rd hO) (own_block hO) (own_rd hM) (own_cap hM) (fun g hg => by have := own_block hM g hg; omega)
  refine bodyPost_ret (v := .tuple #[sysV { s with actors := ⟨u4.a, s.actors.n, u4.c⟩ }, .bool true]) ?_ rfl ?_
  · simp [results, Try.results34, go_sem, *]
  · rw [hWf] at hS hBf; exact sysPost HP.out hS hBf

theorem post34 {P : Nat → Prop} (s : SysC) (σ : PS) (p : ByteArray) (l : LetC) (w : World) (h : SysR P w s σ) (hna : s.actors.n ≤ 1000000) (hnu : s.up.n ≤ 9223372036854775807) :
    Calls Try.prog 34 #[sysV s, .string p, letV l] w (SysPost P (Ml.post σ p l) w) := by
  cases hr : Ml.reachP σ p with
  | none => exact post34_none s σ p l w h hna hnu hr
  | some i =>
    obtain ⟨qs, hq1, hq2, hq3⟩ := h.ac
    have hf : Ml.find (σ.acts.map (·.path)) p = some i := Ml.reachP_find hr
    have hi : i < qs.length := by
      have := (List.getElem?_eq_some_iff.1 (Ml.find_spec hf).1).1
      rw [← hq3] at this
      simpa using this
    obtain ⟨q, hqi⟩ : ∃ q, qs[i]? = some q := ⟨_, List.getElem?_eq_getElem hi⟩
    by_cases hm : q.1.mail.n < 1024
    · exact post34_room s σ p l w h hna hnu i hr q.1 q.2 qs hq1 hq2 hq3 hqi hm
    · exact post34_full s σ p l w h hna hnu i hr q.1 q.2 qs hq1 hq2 hq3 hqi (by omega)
end Go.Proofs.Ytjdjfjokniingaa
