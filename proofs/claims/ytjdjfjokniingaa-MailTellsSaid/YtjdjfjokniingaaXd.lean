/- The contract of the reference's Take. -/
import Derived.Test.YtjdjfjokniingaaXc
namespace Go.Proofs.Ytjdjfjokniingaa
open Go.RowKit

theorem let_free {W : World} {B : Nat} {l : LetC} (h : BoxAt W B (letL l)) : W.frozen? ⟨B, 0, none⟩ = false ∧ W.frozen? ⟨B, 1, none⟩ = false ∧ W.frozen? ⟨B, 2, none⟩ = false ∧ W.frozen? ⟨B, 3, none⟩ = false := ⟨h.2.2 0, h.2.2 1, h.2.2 2, h.2.2 3⟩
/-- a letter stored into a box -/
abbrev putLet (W : World) (X : Nat) (l : LetC) : World := (((W.setCell ⟨X, 0, none⟩ (.string l.src)).setCell ⟨X, 1, none⟩ (.string l.msg)).setCell ⟨X, 2, none⟩ (.slice l.args.a l.args.n l.args.c)).setCell ⟨X, 3, none⟩ (.int .i64 l.sent)
theorem putLet_below {W w : World} {X C : Nat} {l : LetC} (h : Below C w W) (hX : C ≤ X) : Below C w (putLet W X l) := (((h.setCell hX _).setCell hX _).setCell hX _).setCell hX _

set_option linter.unusedSimpArgs false in
set_option linter.unusedVariables false in
set_option maxRecDepth 100000 in
set_option maxHeartbeats 6400000 in
theorem take38_none {P : Nat → Prop} (s : SysC) (σ : PS) (p : ByteArray) (w : World) (h : SysR P w s σ) (hna : s.actors.n ≤ 1000000) (hr : Ml.find (σ.acts.map (·.path)) p = none) :
    Calls Try.prog 38 #[sysV s, .string p] w (SysLet P (Ml.take σ p) w) := by
  have HP : Hid (Ml.take σ p = (σ, letZ, false)) := Lib.hid (by unfold Ml.take; rw [hr])
  obtain ⟨qs, hq1, hq2, hq3⟩ := h.ac
  have hpath : (qs.map (·.1)).map (·.path) = σ.acts.map (·.path) := by rw [← hq3]; simp [plOf]
  have C := Lib.hid (fun (W : World) (hW : Below w.heap.size w W) => find45 s (qs.map (·.1)) p W (hq1.up hW) (by omega))
  rw [hpath, hr] at C
  have H := Lib.hid h
  clear h hr hq1 hq2 hq3 hpath
  have BS0 : Hid (BoxAt (((w.alloc (.cells (sysL s).toArray 28)).alloc (.cells (sysL sysZ).toArray 28)).alloc (.cells (letL letZ).toArray 34)) w.heap.size (sysL s)) := Lib.hid (((BoxAt.new w 28 (sysL s) _ rfl).alloc _).alloc _)
  have BZ0 : Hid (BoxAt (((w.alloc (.cells (sysL s).toArray 28)).alloc (.cells (sysL sysZ).toArray 28)).alloc (.cells (letL letZ).toArray 34)) (w.heap.size + 1) (sysL sysZ)) := Lib.hid ((BoxAt.new _ 28 (sysL sysZ) _ (by simp)).alloc _)
  have BE0 : Hid (BoxAt (((w.alloc (.cells (sysL s).toArray 28)).alloc (.cells (sysL sysZ).toArray 28)).alloc (.cells (letL letZ).toArray 34)) (w.heap.size + 1 + 1) (letL letZ)) := Lib.hid (BoxAt.new _ 34 (letL letZ) _ (by simp))
  have B0 : Hid (Below w.heap.size w (((w.alloc (.cells (sysL s).toArray 28)).alloc (.cells (sysL sysZ).toArray 28)).alloc (.cells (letL letZ).toArray 34))) := Lib.hid (by repeat (first | (with_reducible exact Below.refl _ _) | (with_reducible assumption) | ((with_reducible refine Below.setCell ?_ ?_ _); rotate_left; (focus (first | omega | (simp; omega) | (simp; done)))) | ((with_reducible refine Below.alloc ?_ ?_ _); rotate_left; (focus (first | omega | (simp; omega) | (simp; done)))) | (with_reducible refine Below.drew ?_)))
  obtain ⟨v0, hv0⟩ : ∃ W, W = (((w.alloc (.cells (sysL s).toArray 28)).alloc (.cells (sysL sysZ).toArray 28)).alloc (.cells (letL letZ).toArray 34)) := ⟨_, rfl⟩
  have hz0 : v0.heap.size = w.heap.size + 1 + 1 + 1 := by rw [hv0]; simp
  rw [← hv0] at BS0 BZ0 BE0 B0
  go_enter Try.func38, Try.ntmps38
  go_wp2_with fail
  refine (C.out _ (by have h := B0.out; rw [hv0] at h; exact h)).mono ?_
  rintro e v1 ⟨rfl, h1⟩
  have H1 : Hid (Below v0.heap.size v0 v1) := Lib.hid (by rw [hv0]; exact h1)
  clear h1 hv0
  have hz1 := H1.out.size
  have B1 := Lib.hid (Below.call B0.out H1.out)
  have BS1 := Lib.hid (BS0.out.call H1.out)
  have BZ1 := Lib.hid (BZ0.out.call H1.out)
  have BE1 := Lib.hid (BE0.out.call H1.out)
  clear BS0 BZ0 BE0
  obtain ⟨c0, c1, c2, c3, c4, c5, c6, c7, c8⟩ := sbox_cells BS1.out
  obtain ⟨z0, z1, z2, z3, z4, z5, z6, z7, z8⟩ := sbox_cells BZ1.out
  obtain ⟨y0, y1, y2, y3, y4, y5, y6, y7, y8⟩ := sbox_free BZ1.out
  obtain ⟨q0, q1, q2, q3⟩ := let_cells BE1.out
  obtain ⟨r0, r1, r2, r3⟩ := let_free BE1.out
  go_wp2_with fail
  obtain ⟨Wf, hWf⟩ : ∃ W, W = putLet (putSys v1 (w.heap.size + 1) s) (w.heap.size + 1 + 1) letZ := ⟨_, rfl⟩
  have hBf : Below w.heap.size w Wf := by rw [hWf]; exact putLet_below (putSys_below B1.out (by omega)) (by omega)
  refine bodyPost_ret (v := .tuple #[sysV s, letV letZ, .bool false]) ?_ rfl ?_
  · simp [results, Try.results38, go_sem, letZ, *]
  · rw [hWf] at hBf; exact sysLet HP.out ((H.out.below hBf).mono (fun b hb => .inl hb)) hBf

set_option linter.unusedSimpArgs false in
set_option linter.unusedVariables false in
set_option maxRecDepth 100000 in
set_option maxHeartbeats 6400000 in
theorem take38_empty {P : Nat → Prop} (s : SysC) (σ : PS) (p : ByteArray) (w : World) (h : SysR P w s σ) (hna : s.actors.n ≤ 1000000) (i : Nat) (hr : Ml.find (σ.acts.map (·.path)) p = some i) (a : LiveC) (ms : List LetC) (qs : List (LiveC × List LetC)) (hq1 : Rd w w.heap.size 9 s.actors.a s.actors.n ((qs.map (·.1)).flatMap liveL)) (hq2 : ∀ q ∈ qs, MailAt P w q.1 q.2) (hq3 : qs.map plOf = σ.acts) (hqi : qs[i]? = some (a, ms)) (hm : ((a.mail.n : Int) == 0) = true) :
    Calls Try.prog 38 #[sysV s, .string p] w (SysLet P (Ml.take σ p) w) := by
  have hms : ms.length = a.mail.n := (hq2 _ (List.mem_of_getElem? hqi)).rd.len (fun _ => rfl) (by omega)
  have hai : σ.acts[i]? = some (plOf (a, ms)) := by rw [← hq3, List.getElem?_map, hqi]; rfl
  have HP : Hid (Ml.take σ p = (σ, letZ, false)) := Lib.hid (by
    have : ms = [] := List.eq_nil_of_length_eq_zero (by simp at hm; omega)
    subst this
    unfold Ml.take; rw [hr]; simp only [hai]; rfl)
  have hpath : (qs.map (·.1)).map (·.path) = σ.acts.map (·.path) := by rw [← hq3]; simp [plOf]
  have C := Lib.hid (fun (W : World) (hW : Below w.heap.size w W) => find45 s (qs.map (·.1)) p W (hq1.up hW) (by omega))
  rw [hpath, hr] at C
  have hil : i < s.actors.n := by
    have h1 := hq1.len (fun _ => rfl) (by omega)
    have h2 := (List.getElem?_eq_some_iff.1 hqi).1
    simp at h1; omega
  obtain ⟨b, off, a', hA, hb, hak, hc⟩ := hq1.at_ (fun _ => rfl) (by omega) hil
  have ea : a' = a := by rw [List.getElem?_map, hqi] at hak; simpa using hak.symm
  subst ea
  have hix : ∀ W : World, Sem.run Try.prog (Instr.indexAt 23 (.slice s.actors.a s.actors.n s.actors.c) (.int .i64 (i : Int))) W = .ok (.pointer (some ⟨b, off + i * 9, none⟩)) W := by intro W; rw [hA]; go_simp
  have HC := Lib.hid hc
  have CW := Lib.hid (fun (W : World) (hW : Below w.heap.size w W) (m : Sl) => with78 s (qs.map (·.1)) i { a' with mail := m } W (hq1.up hW) hna hil)
  have HQ2 := Lib.hid hq2
  have HQ3 := Lib.hid hq3
  have HQI := Lib.hid hqi
  have HMS := Lib.hid hms
  have H := Lib.hid h
  clear h hr hq1 hq2 hq3 hqi hA hak hc hms hai hpath
  have BS0 : Hid (BoxAt (((w.alloc (.cells (sysL s).toArray 28)).alloc (.cells (sysL sysZ).toArray 28)).alloc (.cells (letL letZ).toArray 34)) w.heap.size (sysL s)) := Lib.hid (((BoxAt.new w 28 (sysL s) _ rfl).alloc _).alloc _)
  have BZ0 : Hid (BoxAt (((w.alloc (.cells (sysL s).toArray 28)).alloc (.cells (sysL sysZ).toArray 28)).alloc (.cells (letL letZ).toArray 34)) (w.heap.size + 1) (sysL sysZ)) := Lib.hid ((BoxAt.new _ 28 (sysL sysZ) _ (by simp)).alloc _)
  have BE0 : Hid (BoxAt (((w.alloc (.cells (sysL s).toArray 28)).alloc (.cells (sysL sysZ).toArray 28)).alloc (.cells (letL letZ).toArray 34)) (w.heap.size + 1 + 1) (letL letZ)) := Lib.hid (BoxAt.new _ 34 (letL letZ) _ (by simp))
  have B0 : Hid (Below w.heap.size w (((w.alloc (.cells (sysL s).toArray 28)).alloc (.cells (sysL sysZ).toArray 28)).alloc (.cells (letL letZ).toArray 34))) := Lib.hid (by repeat (first | (with_reducible exact Below.refl _ _) | (with_reducible assumption) | ((with_reducible refine Below.setCell ?_ ?_ _); rotate_left; (focus (first | omega | (simp; omega) | (simp; done)))) | ((with_reducible refine Below.alloc ?_ ?_ _); rotate_left; (focus (first | omega | (simp; omega) | (simp; done)))) | (with_reducible refine Below.drew ?_)))
  obtain ⟨v0, hv0⟩ : ∃ W, W = (((w.alloc (.cells (sysL s).toArray 28)).alloc (.cells (sysL sysZ).toArray 28)).alloc (.cells (letL letZ).toArray 34)) := ⟨_, rfl⟩
  have hz0 : v0.heap.size = w.heap.size + 1 + 1 + 1 := by rw [hv0]; simp
  rw [← hv0] at BS0 BZ0 BE0 B0
  go_enter Try.func38, Try.ntmps38
  go_wp2_with fail
  refine (C.out _ (by have h := B0.out; rw [hv0] at h; exact h)).mono ?_
  rintro e v1 ⟨rfl, h1⟩
  have H1 : Hid (Below v0.heap.size v0 v1) := Lib.hid (by rw [hv0]; exact h1)
  clear h1 hv0
  have hz1 := H1.out.size
  have B1 := Lib.hid (Below.call B0.out H1.out)
  have BS1 := Lib.hid (BS0.out.call H1.out)
  have BZ1 := Lib.hid (BZ0.out.call H1.out)
  have BE1 := Lib.hid (BE0.out.call H1.out)
  clear BS0 BZ0 BE0
  obtain ⟨c0, c1, c2, c3, c4, c5, c6, c7, c8⟩ := sbox_cells BS1.out
  have x8 : v1.cell? ⟨b, off + i * 9 + 8, none⟩ = some (.slice a'.mail.a a'.mail.n a'.mail.c) := (B1.out.cell (p := ⟨b, off + i * 9 + 8, none⟩) hb).trans (HC.out 8 _ rfl)
  obtain ⟨z0, z1, z2, z3, z4, z5, z6, z7, z8⟩ := sbox_cells BZ1.out
  obtain ⟨y0, y1, y2, y3, y4, y5, y6, y7, y8⟩ := sbox_free BZ1.out
  obtain ⟨q0, q1, q2, q3⟩ := let_cells BE1.out
  obtain ⟨r0, r1, r2, r3⟩ := let_free BE1.out
  go_wp2_with fail
  obtain ⟨Wf, hWf⟩ : ∃ W, W = putLet (putSys v1 (w.heap.size + 1) s) (w.heap.size + 1 + 1) letZ := ⟨_, rfl⟩
  have hBf : Below w.heap.size w Wf := by rw [hWf]; exact putLet_below (putSys_below B1.out (by omega)) (by omega)
  refine bodyPost_ret (v := .tuple #[sysV s, letV letZ, .bool false]) ?_ rfl ?_
  · simp [results, Try.results38, go_sem, letZ, *]
  · rw [hWf] at hBf; exact sysLet HP.out ((H.out.below hBf).mono (fun b hb => .inl hb)) hBf

set_option linter.unusedSimpArgs false in
set_option linter.unusedVariables false in
set_option maxRecDepth 100000 in
set_option maxHeartbeats 6400000 in
theorem take38_some {P : Nat → Prop} (s : SysC) (σ : PS) (p : ByteArray) (w : World) (h : SysR P w s σ) (hna : s.actors.n ≤ 1000000) (i : Nat) (hr : Ml.find (σ.acts.map (·.path)) p = some i) (a : LiveC) (ms : List LetC) (qs : List (LiveC × List LetC)) (hq1 : Rd w w.heap.size 9 s.actors.a s.actors.n ((qs.map (·.1)).flatMap liveL)) (hq2 : ∀ q ∈ qs, MailAt P w q.1 q.2) (hq3 : qs.map plOf = σ.acts) (hqi : qs[i]? = some (a, ms)) (hm : ((a.mail.n : Int) == 0) = false) (m : LetC) (rs : List LetC) (hmr : ms = m :: rs) (hml : a.mail.n - 1 ≤ 1000000) :
    Calls Try.prog 38 #[sysV s, .string p] w (SysLet P (Ml.take σ p) w) := by
  have hms : ms.length = a.mail.n := (hq2 _ (List.mem_of_getElem? hqi)).rd.len (fun _ => rfl) (by omega)
  have hai : σ.acts[i]? = some (plOf (a, ms)) := by rw [← hq3, List.getElem?_map, hqi]; rfl
  have HP : Hid (Ml.take σ p = (Ml.mailed σ i List.tail, m, true)) := Lib.hid (by unfold Ml.take; rw [hr]; simp only [hai]; subst hmr; rfl)
  have hpath : (qs.map (·.1)).map (·.path) = σ.acts.map (·.path) := by rw [← hq3]; simp [plOf]
  have C := Lib.hid (fun (W : World) (hW : Below w.heap.size w W) => find45 s (qs.map (·.1)) p W (hq1.up hW) (by omega))
  rw [hpath, hr] at C
  have hil : i < s.actors.n := by
    have h1 := hq1.len (fun _ => rfl) (by omega)
    have h2 := (List.getElem?_eq_some_iff.1 hqi).1
    simp at h1; omega
  obtain ⟨b, off, a', hA, hb, hak, hc⟩ := hq1.at_ (fun _ => rfl) (by omega) hil
  have ea : a' = a := by rw [List.getElem?_map, hqi] at hak; simpa using hak.symm
  subst ea
  have hix : ∀ W : World, Sem.run Try.prog (Instr.indexAt 23 (.slice s.actors.a s.actors.n s.actors.c) (.int .i64 (i : Int))) W = .ok (.pointer (some ⟨b, off + i * 9, none⟩)) W := by intro W; rw [hA]; go_simp
  have HC := Lib.hid hc
  have CW := Lib.hid (fun (W : World) (hW : Below w.heap.size w W) (m : Sl) => with78 s (qs.map (·.1)) i { a' with mail := m } W (hq1.up hW) hna hil)
  have HQ2 := Lib.hid hq2
  have HQ3 := Lib.hid hq3
  have HQI := Lib.hid hqi
  have HMS := Lib.hid hms
  have H := Lib.hid h
  clear h hr hq1 hq2 hq3 hqi hA hak hc hms hai hpath
  have h0 : 0 < a'.mail.n := by simp at hm; omega
  have hmail := (HQ2.out _ (List.mem_of_getElem? HQI.out)).rd
  have hcap := (HQ2.out _ (List.mem_of_getElem? HQI.out)).cap
  obtain ⟨A', hsl, hrd, hblk, hbl2⟩ := tail74 hmail h0 hcap
  obtain ⟨b3, off3, m', hA3, hb3, hm3, hc3⟩ := hmail.at_ (fun _ => rfl) (by omega) h0
  have em : m' = m := by simp [hmr] at hm3; exact hm3.symm
  subst em
  have hix3 : ∀ W : World, Sem.run Try.prog (Instr.indexAt 74 (.slice a'.mail.a a'.mail.n a'.mail.c) (.int .i64 0)) W = .ok (.pointer (some ⟨b3, off3, none⟩)) W := by intro W; rw [hA3]; go_simp
  have HT : Hid (Rd w w.heap.size 4 A' (a'.mail.n - 1) (rs.flatMap letL)) := Lib.hid (by
    have := hrd w w.heap.size hmail
    rw [hmr] at this
    simpa using this)
  have HC3 := Lib.hid hc3
  have HMR := Lib.hid hmr
  obtain ⟨i4, hi4, hz40, hz41, hz42⟩ := info_parts info34
  have hmax : a'.mail.n - 1 ≤ 1000000 := hml
  clear hmail hrd hblk hbl2 hA3 hm3 hc3 hmr
  have BS0 : Hid (BoxAt (((w.alloc (.cells (sysL s).toArray 28)).alloc (.cells (sysL sysZ).toArray 28)).alloc (.cells (letL letZ).toArray 34)) w.heap.size (sysL s)) := Lib.hid (((BoxAt.new w 28 (sysL s) _ rfl).alloc _).alloc _)
  have BZ0 : Hid (BoxAt (((w.alloc (.cells (sysL s).toArray 28)).alloc (.cells (sysL sysZ).toArray 28)).alloc (.cells (letL letZ).toArray 34)) (w.heap.size + 1) (sysL sysZ)) := Lib.hid ((BoxAt.new _ 28 (sysL sysZ) _ (by simp)).alloc _)
  have BE0 : Hid (BoxAt (((w.alloc (.cells (sysL s).toArray 28)).alloc (.cells (sysL sysZ).toArray 28)).alloc (.cells (letL letZ).toArray 34)) (w.heap.size + 1 + 1) (letL letZ)) := Lib.hid (BoxAt.new _ 34 (letL letZ) _ (by simp))
  have B0 : Hid (Below w.heap.size w (((w.alloc (.cells (sysL s).toArray 28)).alloc (.cells (sysL sysZ).toArray 28)).alloc (.cells (letL letZ).toArray 34))) := Lib.hid (by repeat (first | (with_reducible exact Below.refl _ _) | (with_reducible assumption) | ((with_reducible refine Below.setCell ?_ ?_ _); rotate_left; (focus (first | omega | (simp; omega) | (simp; done)))) | ((with_reducible refine Below.alloc ?_ ?_ _); rotate_left; (focus (first | omega | (simp; omega) | (simp; done)))) | (with_reducible refine Below.drew ?_)))
  obtain ⟨v0, hv0⟩ : ∃ W, W = (((w.alloc (.cells (sysL s).toArray 28)).alloc (.cells (sysL sysZ).toArray 28)).alloc (.cells (letL letZ).toArray 34)) := ⟨_, rfl⟩
  have hz0 : v0.heap.size = w.heap.size + 1 + 1 + 1 := by rw [hv0]; simp
  rw [← hv0] at BS0 BZ0 BE0 B0
  go_enter Try.func38, Try.ntmps38
  go_wp2_with fail
  refine (C.out _ (by have h := B0.out; rw [hv0] at h; exact h)).mono ?_
  rintro e v1 ⟨rfl, h1⟩
  have H1 : Hid (Below v0.heap.size v0 v1) := Lib.hid (by rw [hv0]; exact h1)
  clear h1 hv0
  have hz1 := H1.out.size
  have B1 := Lib.hid (Below.call B0.out H1.out)
  have BS1 := Lib.hid (BS0.out.call H1.out)
  have BZ1 := Lib.hid (BZ0.out.call H1.out)
  have BE1 := Lib.hid (BE0.out.call H1.out)
  clear BS0 BZ0 BE0
  obtain ⟨c0, c1, c2, c3, c4, c5, c6, c7, c8⟩ := sbox_cells BS1.out
  have x0 : v1.cell? ⟨b, off + i * 9, none⟩ = some (.string a'.path) := (B1.out.cell (p := ⟨b, off + i * 9, none⟩) hb).trans (HC.out 0 _ rfl)
  have x1 : v1.cell? ⟨b, off + i * 9 + 1, none⟩ = some (.string a'.type) := (B1.out.cell (p := ⟨b, off + i * 9 + 1, none⟩) hb).trans (HC.out 1 _ rfl)
  have x2 : v1.cell? ⟨b, off + i * 9 + 2, none⟩ = some (.int .i64 a'.node) := (B1.out.cell (p := ⟨b, off + i * 9 + 2, none⟩) hb).trans (HC.out 2 _ rfl)
  have x3 : v1.cell? ⟨b, off + i * 9 + 3, none⟩ = some (.slice a'.init.a a'.init.n a'.init.c) := (B1.out.cell (p := ⟨b, off + i * 9 + 3, none⟩) hb).trans (HC.out 3 _ rfl)
  have x4 : v1.cell? ⟨b, off + i * 9 + 4, none⟩ = some (.slice a'.vars.a a'.vars.n a'.vars.c) := (B1.out.cell (p := ⟨b, off + i * 9 + 4, none⟩) hb).trans (HC.out 4 _ rfl)
  have x5 : v1.cell? ⟨b, off + i * 9 + 5, none⟩ = some (.int .i64 a'.kids) := (B1.out.cell (p := ⟨b, off + i * 9 + 5, none⟩) hb).trans (HC.out 5 _ rfl)
  have x6 : v1.cell? ⟨b, off + i * 9 + 6, none⟩ = some (.int .i64 a'.rest) := (B1.out.cell (p := ⟨b, off + i * 9 + 6, none⟩) hb).trans (HC.out 6 _ rfl)
  have x7 : v1.cell? ⟨b, off + i * 9 + 7, none⟩ = some (.bool a'.stopped) := (B1.out.cell (p := ⟨b, off + i * 9 + 7, none⟩) hb).trans (HC.out 7 _ rfl)
  have x8 : v1.cell? ⟨b, off + i * 9 + 8, none⟩ = some (.slice a'.mail.a a'.mail.n a'.mail.c) := (B1.out.cell (p := ⟨b, off + i * 9 + 8, none⟩) hb).trans (HC.out 8 _ rfl)
  have d0 : v1.cell? ⟨b3, off3, none⟩ = some (.string m'.src) := (B1.out.cell (p := ⟨b3, off3, none⟩) hb3).trans (by have := HC3.out 0 _ rfl; simpa using this)
  have d1 : v1.cell? ⟨b3, off3 + 1, none⟩ = some (.string m'.msg) := (B1.out.cell (p := ⟨b3, off3 + 1, none⟩) hb3).trans (by have := HC3.out 1 _ rfl; simpa using this)
  have d2 : v1.cell? ⟨b3, off3 + 2, none⟩ = some (.slice m'.args.a m'.args.n m'.args.c) := (B1.out.cell (p := ⟨b3, off3 + 2, none⟩) hb3).trans (by have := HC3.out 2 _ rfl; simpa using this)
  have d3 : v1.cell? ⟨b3, off3 + 3, none⟩ = some (.int .i64 m'.sent) := (B1.out.cell (p := ⟨b3, off3 + 3, none⟩) hb3).trans (by have := HC3.out 3 _ rfl; simpa using this)
  have n1 : ¬ b = v1.heap.size := by omega
  have n2 : b < v1.heap.size := by omega
  have n3 : ¬ b3 = v1.heap.size := by omega
  have n4 : b3 < v1.heap.size := by omega
  obtain ⟨va, hva⟩ : ∃ W, W = (v1.alloc (.cells (liveL a').toArray 76)).alloc (.cells (letL m').toArray 34) := ⟨_, rfl⟩
  have hza : va.heap.size = v1.heap.size + 1 + 1 := by rw [hva]; simp
  have BX1 : Hid (BoxAt va v1.heap.size (liveL a')) := Lib.hid (by rw [hva]; exact (BoxAt.new _ 76 (liveL a') _ rfl).alloc _)
  have BY1 : Hid (BoxAt va (v1.heap.size + 1) (letL m')) := Lib.hid (by rw [hva]; exact BoxAt.new _ 34 (letL m') _ (by simp))
  have Ba : Hid (Below v1.heap.size v1 va) := Lib.hid (by rw [hva]; exact ((Below.refl _ _).alloc (Nat.le_refl _) _).alloc (by simp) _)
  go_wp2_with (at_builtin; refine wpList_append_lit _ 34 rfl (.tmp 40) (.tmp 43) 74 rfl i4 _ 4 64 Try.underlying74 hi4 hz40 hz41 hz42 rfl (by decide) _ rfl (by simp) _ _ _ _ (rs.flatMap letL) rfl ((HT.out.up (Below.call B1.out Ba.out)).up (by rw [hva]; exact Below.refl _ _)) (Nat.le_refl _) (let_one _) (by omega) (by omega) ?_; intro m2 v2 hr2 ho2 h2; have HO2 : Hid (v2.ownsRow va.heap.size 34 4 (.slice m2.a (a'.mail.n - 1) m2.c) (a'.mail.n - 1) (rs.flatMap letL)) := Lib.hid (by rw [hva]; exact ho2); have H2 : Hid (Below va.heap.size va v2) := Lib.hid (by rw [hva]; exact h2); clear ho2 hr2 h2; have hz2 := H2.out.size; have B2 := Lib.hid (Below.call (Below.call B1.out Ba.out) H2.out); have BS2 := Lib.hid ((BS1.out.call Ba.out).call H2.out); have BZ2 := Lib.hid ((BZ1.out.call Ba.out).call H2.out); have BE2 := Lib.hid ((BE1.out.call Ba.out).call H2.out); have BX2 := Lib.hid (BX1.out.call H2.out); have BY2 := Lib.hid (BY1.out.call H2.out); clear BS1 BZ1 BE1 BX1 BY1 c0 c1 c2 c3 c4 c5 c6 c7 c8 x0 x1 x2 x3 x4 x5 x6 x7 x8 d0 d1 d2 d3; obtain ⟨c0, c1, c2, c3, c4, c5, c6, c7, c8⟩ := sbox_cells BS2.out; obtain ⟨x0, x1, x2, x3, x4, x5, x6, x7, x8⟩ := live_cells BX2.out; have xf := BX2.out.2.2 8)
  obtain ⟨v3, hv3⟩ : ∃ W, W = v2.setCell ⟨v1.heap.size, 8, none⟩ (.slice m2.a (a'.mail.n - 1) m2.c) := ⟨_, rfl⟩
  have B3 : Hid (Below w.heap.size w v3) := Lib.hid (by rw [hv3]; exact B2.out.setCell (by show w.heap.size ≤ v1.heap.size; omega) _)
  have hz3 : v3.heap.size = v2.heap.size := by rw [hv3]; simp
  have BS3 : Hid (BoxAt v3 w.heap.size (sysL s)) := Lib.hid (by rw [hv3]; exact BS2.out.setOther _ _ (by show v1.heap.size ≠ _; omega))
  have BZ3 : Hid (BoxAt v3 (w.heap.size + 1) (sysL sysZ)) := Lib.hid (by rw [hv3]; exact BZ2.out.setOther _ _ (by show v1.heap.size ≠ _; omega))
  have BE3 : Hid (BoxAt v3 (w.heap.size + 1 + 1) (letL letZ)) := Lib.hid (by rw [hv3]; exact BE2.out.setOther _ _ (by show v1.heap.size ≠ _; omega))
  have BY3 : Hid (BoxAt v3 (v1.heap.size + 1) (letL m')) := Lib.hid (by rw [hv3]; exact BY2.out.setOther _ _ (by show v1.heap.size ≠ _; omega))
  have BX3 : Hid (BoxAt v3 v1.heap.size (liveL { a' with mail := ⟨m2.a, a'.mail.n - 1, m2.c⟩ })) := Lib.hid (by rw [hv3]; exact BX2.out.set 8 (.slice m2.a (a'.mail.n - 1) m2.c) (by simp))
  have HO3 : Hid (v3.ownsRow va.heap.size 34 4 (.slice m2.a (a'.mail.n - 1) m2.c) (a'.mail.n - 1) (rs.flatMap letL)) := Lib.hid (by rw [hv3]; exact own_set_other HO2.out _ _ (own_ne (R := v1.heap.size) HO2.out (by omega)))
  rw [← hv3]
  clear hv3 hva BS2 BZ2 BE2 BX2 BY2 HO2 c0 c1 c2 c3 c4 c5 c6 c7 c8 x0 x1 x2 x3 x4 x5 x6 x7 x8 xf
  obtain ⟨c0, c1, c2, c3, c4, c5, c6, c7, c8⟩ := sbox_cells BS3.out
  obtain ⟨x0, x1, x2, x3, x4, x5, x6, x7, x8⟩ := live_cells BX3.out
  obtain ⟨e0, e1, e2, e3⟩ := let_cells BY3.out
  dsimp only at x0 x1 x2 x3 x4 x5 x6 x7 x8
  have k0 : w.heap.size < v3.heap.size := BS3.out.1
  have k1 : v1.heap.size < v3.heap.size := BX3.out.1
  have k2 : v1.heap.size + 1 < v3.heap.size := BY3.out.1
  go_region_held3 (fun w' => w'.cell? ⟨w.heap.size, 0, none⟩ = some (.slice s.up.a s.up.n s.up.c) ∧ w'.cell? ⟨w.heap.size, 1, none⟩ = some (.int .i64 s.moment) ∧ w'.cell? ⟨w.heap.size, 2, none⟩ = some (.int .i64 s.clock) ∧ w'.cell? ⟨w.heap.size, 3, none⟩ = some (.int .i64 s.seq) ∧ w'.cell? ⟨w.heap.size, 4, none⟩ = some (.slice s.actors.a s.actors.n s.actors.c) ∧ w'.cell? ⟨w.heap.size, 5, none⟩ = some (.slice s.flights.a s.flights.n s.flights.c) ∧ w'.cell? ⟨w.heap.size, 6, none⟩ = some (.slice s.alarms.a s.alarms.n s.alarms.c) ∧ w'.cell? ⟨w.heap.size, 7, none⟩ = some (.slice s.asked.a s.asked.n s.asked.c) ∧ w'.cell? ⟨w.heap.size, 8, none⟩ = some (.int .i64 s.dead) ∧ w'.cell? ⟨v1.heap.size, 0, none⟩ = some (.string a'.path) ∧ w'.cell? ⟨v1.heap.size, 1, none⟩ = some (.string a'.type) ∧ w'.cell? ⟨v1.heap.size, 2, none⟩ = some (.int .i64 a'.node) ∧ w'.cell? ⟨v1.heap.size, 3, none⟩ = some (.slice a'.init.a a'.init.n a'.init.c) ∧ w'.cell? ⟨v1.heap.size, 4, none⟩ = some (.slice a'.vars.a a'.vars.n a'.vars.c) ∧ w'.cell? ⟨v1.heap.size, 5, none⟩ = some (.int .i64 a'.kids) ∧ w'.cell? ⟨v1.heap.size, 6, none⟩ = some (.int .i64 a'.rest) ∧ w'.cell? ⟨v1.heap.size, 7, none⟩ = some (.bool a'.stopped) ∧ w'.cell? ⟨v1.heap.size, 8, none⟩ = some (.slice m2.a (a'.mail.n - 1) m2.c) ∧ w'.cell? ⟨v1.heap.size + 1, 0, none⟩ = some (.string m'.src) ∧ w'.cell? ⟨v1.heap.size + 1, 1, none⟩ = some (.string m'.msg) ∧ w'.cell? ⟨v1.heap.size + 1, 2, none⟩ = some (.slice m'.args.a m'.args.n m'.args.c) ∧ w'.cell? ⟨v1.heap.size + 1, 3, none⟩ = some (.int .i64 m'.sent)) (simp [go_sem, *])
    ((go_at_call 78; (with_reducible refine (CW.out _ B3.out.drew ⟨m2.a, a'.mail.n - 1, m2.c⟩).mono ?_); rintro e v4 ⟨u4, rfl, ho4, h4⟩; have HO4 := Lib.hid ho4; have H4 : Hid (Below v3.heap.size v3 v4) := Lib.hid (Below.call (Below.refl _ v3).drew h4); have z4 := H4.out.size; have BZ4 := Lib.hid (BZ3.out.call H4.out); have BE4 := Lib.hid (BE3.out.call H4.out); have BY4 := Lib.hid (BY3.out.call H4.out); have BS4 := Lib.hid (BS3.out.call H4.out); have BX4 := Lib.hid (BX3.out.call H4.out); clear ho4 h4; obtain ⟨z0, z1, z2, z3, z4, z5, z6, z7, z8⟩ := sbox_cells BZ4.out; obtain ⟨y0, y1, y2, y3, y4, y5, y6, y7, y8⟩ := sbox_free BZ4.out; obtain ⟨q0, q1, q2, q3⟩ := let_cells BE4.out; obtain ⟨r0, r1, r2, r3⟩ := let_free BE4.out; obtain ⟨t0, t1, t2, t3⟩ := let_cells BY4.out; obtain ⟨g0, g1, g2, g3, g4, g5, g6, g7, g8⟩ := sbox_cells BS4.out; obtain ⟨j0, j1, j2, j3, j4, j5, j6, j7, j8⟩ := live_cells BX4.out; dsimp only at j0 j1 j2 j3 j4 j5 j6 j7 j8))
  clear c0 c1 c2 c3 c4 c5 c6 c7 c8 x0 x1 x2 x3 x4 x5 x6 x7 x8 e0 e1 e2 e3 g0 g1 g2 g3 g4 g5 g6 g7 g8 j0 j1 j2 j3 j4 j5 j6 j7 j8 t0 t1 t2 t3
  go_wp2_with fail
  have B4 : Below w.heap.size w v4 := Below.call B3.out H4.out
  have KEY := Lib.hid (fun (Wf : World) (hb : Below w.heap.size w Wf) (hoff : Off2 (w.heap.size + 1) (w.heap.size + 1 + 1) v4 Wf) =>
    sysR_with (u := u4) (m := ⟨m2.a, a'.mail.n - 1, m2.c⟩) List.tail (by rw [HMR.out]; rfl) H.out HQ2.out HQ3.out HQI.out hb ((own_rd HO4.out).off2 hoff (fun q hq => by have := own_block HO4.out q.block (by rw [hq]; rfl); simp at this; omega)) (fun g hg => by have := own_block HO4.out g hg; simp at this; omega)
      ((own_rd (own_below HO3.out H4.out)).off2 hoff (fun q hq => by have := own_block HO3.out q.block (by rw [hq]; rfl); omega)) (own_cap HO3.out) (fun g hg => by have := own_block HO3.out g hg; omega))
  refine bodyPost_ret (v := .tuple #[sysV { s with actors := ⟨u4.a, s.actors.n, u4.c⟩ }, letV m', .bool true]) ?_ rfl ?_
  · simp [results, Try.results38, go_sem, *]
  · exact sysLet HP.out (KEY.out _ (by repeat (first | (with_reducible exact Below.refl _ _) | (with_reducible assumption) | ((with_reducible refine Below.setCell ?_ ?_ _); rotate_left; (focus (first | omega | (simp; omega) | (simp; done)))) | ((with_reducible refine Below.alloc ?_ ?_ _); rotate_left; (focus (first | omega | (simp; omega) | (simp; done)))) | (with_reducible refine Below.drew ?_))) (by repeat (first | (with_reducible exact Off2.refl _ _ _) | (with_reducible refine Off2.set1 ?_ _ _) | (with_reducible refine Off2.set2 ?_ _ _) | (with_reducible refine Off2.drew ?_)))) (by repeat (first | (with_reducible exact Below.refl _ _) | (with_reducible assumption) | ((with_reducible refine Below.setCell ?_ ?_ _); rotate_left; (focus (first | omega | (simp; omega) | (simp; done)))) | ((with_reducible refine Below.alloc ?_ ?_ _); rotate_left; (focus (first | omega | (simp; omega) | (simp; done)))) | (with_reducible refine Below.drew ?_)))

theorem take38 {P : Nat → Prop} (s : SysC) (σ : PS) (p : ByteArray) (w : World) (h : SysR P w s σ) (hna : s.actors.n ≤ 1000000) (hml : ∀ a ∈ σ.acts, a.mail.length ≤ 1000000) :
    Calls Try.prog 38 #[sysV s, .string p] w (SysLet P (Ml.take σ p) w) := by
  cases hr : Ml.find (σ.acts.map (·.path)) p with
  | none => exact take38_none s σ p w h hna hr
  | some i =>
    obtain ⟨qs, hq1, hq2, hq3⟩ := h.ac
    have hi : i < qs.length := by
      have := (List.getElem?_eq_some_iff.1 (Ml.find_spec hr).1).1
      rw [← hq3] at this
      simpa using this
    obtain ⟨q, hqi⟩ : ∃ q, qs[i]? = some q := ⟨_, List.getElem?_eq_getElem hi⟩
    obtain ⟨a, ms⟩ := q
    have hms : ms.length = a.mail.n := (hq2 _ (List.mem_of_getElem? hqi)).rd.len (fun _ => rfl) (by omega)
    have hlen := hml (plOf (a, ms)) (by rw [← hq3]; exact List.mem_map_of_mem (List.mem_of_getElem? hqi))
    have hlen2 : ms.length ≤ 1000000 := hlen
    cases hm : ((a.mail.n : Int) == 0) with
    | true => exact take38_empty s σ p w h hna i hr a ms qs hq1 hq2 hq3 hqi hm
    | false =>
      cases ms with
      | nil => simp at hms hm; omega
      | cons m rs => exact take38_some s σ p w h hna i hr a (m :: rs) qs hq1 hq2 hq3 hqi hm m rs rfl (by omega)
end Go.Proofs.Ytjdjfjokniingaa
