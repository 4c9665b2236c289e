/- retroactref16.SameValue and SameValues on two slices that read as the same trees. -/
import Derived.Test.YtjdjfjokniingaaTr
import Derived.Test.YtjdjfjokniingaaSa
namespace Go.Proofs.Ytjdjfjokniingaa
open Go.RowKit

abbrev valV (x : Tr) (v : Sl) : Value := .agg #[.int .i64 x.kind, .string x.t, .int .i64 x.n, .int .i64 x.m, .string x.s, .slice v.a v.n v.c]

/-- SameValues on two slices of length n answers true, in every world that w has become -/
def SameVs (w : World) (u v : Sl) : Prop := ∀ W, Below w.heap.size w W → Calls Try.prog 81 #[.slice u.a u.n u.c, .slice v.a v.n v.c] W fun e w' => e = .returned (.bool true) ∧ Below W.heap.size W w'

set_option maxRecDepth 100000 in
set_option maxHeartbeats 800000 in
theorem sameValue_step (x : Tr) (u v : Sl) (w : World) (H : SameVs w u v) :
    Calls Try.prog 99 #[valV x u, valV x v] w fun e w' => e = .returned (.bool true) ∧ Below w.heap.size w w' := by
  have HS := Lib.hid H
  clear H
  go_enter Try.func99, Try.ntmps99
  go_wp2_with (go_at_call 81; refine (HS.out _ (((Below.refl _ _).alloc (Nat.le_refl _) _).alloc (by simp) _)).mono ?_; rintro e w1 ⟨rfl, h1⟩)
  go_ret
  exact ⟨rfl, Below.call (w := w) (((Below.refl _ _).alloc (Nat.le_refl _) _).alloc (by simp) _) h1⟩
set_option maxRecDepth 100000 in
set_option maxHeartbeats 1600000 in
theorem sameValues_true (M : Nat) (hM : M ≤ 9223372036854775807) : ∀ (d : Nat) (ts : List Tr) (A1 A2 : Option Addr) (c1 c2 : Nat) (w : World), RdV w w.heap.size M d ts A1 → RdV w w.heap.size M d ts A2 →
    Calls Try.prog 81 #[.slice A1 ts.length c1, .slice A2 ts.length c2] w fun e w' => e = .returned (.bool true) ∧ Below w.heap.size w w' := by
  intro d
  induction d with
  | zero =>
    intro ts A1 A2 c1 c2 w h1 h2
    cases h1
    clear h2 hM
    go_enter Try.func81, Try.ntmps81
    go_wp2
    go_loopw [5] (fun i wr => i = .int .i64 0 ∧ wr = w) (fun _ _ => 0)
    case atStart => exact ⟨rfl, rfl⟩
    case round =>
      obtain ⟨rfl, rfl⟩ := hrel
      go_wp2
      go_ret
      exact ⟨rfl, Below.refl _ _⟩
  | succ d ih =>
  intro ts A1 A2 c1 c2 w h1 h2
  have HM : ts.length ≤ 9223372036854775807 := Nat.le_trans h1.len hM
  have H1 := Lib.hid h1
  have H2 := Lib.hid h2
  have IH := Lib.hid ih
  clear h1 h2 ih hM
  go_enter Try.func81, Try.ntmps81
  go_wp2
  go_loopw [5] (fun i wr => ∃ k : Nat, k ≤ ts.length ∧ i = .int .i64 k ∧ Below w.heap.size w wr) (fun i _ => ts.length - (intOf i).toNat)
  case atStart => exact ⟨0, Nat.zero_le _, rfl, Below.refl _ _⟩
  case round =>
    obtain ⟨k, hk, rfl, hbel⟩ := hrel
    by_cases hlt : k < ts.length
    · obtain ⟨b1, o1, x, u, d1, ex1, hA, hb1, ed1, hu, hru, hc1⟩ := H1.out.at_ hlt
      obtain ⟨b2, o2, x', v, d2, ex2, hB, hb2, ed2, hv, hrv, hc2⟩ := H2.out.at_ hlt
      have ex : x = x' := by rw [ex1] at ex2; injection ex2
      have e1 : d1 = d := by omega
      have e2 : d2 = d := by omega
      subst ex e1 e2
      have hsz := hbel.size
      have x0 : wr.cell? ⟨b1, o1 + k * 6, none⟩ = some (.int .i64 x.kind) := (hbel.cell (p := ⟨b1, o1 + k * 6, none⟩) hb1).trans (hc1 0 _ rfl)
      have x1 : wr.cell? ⟨b1, o1 + k * 6 + 1, none⟩ = some (.string x.t) := (hbel.cell (p := ⟨b1, o1 + k * 6 + 1, none⟩) hb1).trans (hc1 1 _ rfl)
      have x2 : wr.cell? ⟨b1, o1 + k * 6 + 2, none⟩ = some (.int .i64 x.n) := (hbel.cell (p := ⟨b1, o1 + k * 6 + 2, none⟩) hb1).trans (hc1 2 _ rfl)
      have x3 : wr.cell? ⟨b1, o1 + k * 6 + 3, none⟩ = some (.int .i64 x.m) := (hbel.cell (p := ⟨b1, o1 + k * 6 + 3, none⟩) hb1).trans (hc1 3 _ rfl)
      have x4 : wr.cell? ⟨b1, o1 + k * 6 + 4, none⟩ = some (.string x.s) := (hbel.cell (p := ⟨b1, o1 + k * 6 + 4, none⟩) hb1).trans (hc1 4 _ rfl)
      have x5 : wr.cell? ⟨b1, o1 + k * 6 + 5, none⟩ = some (.slice u.a u.n u.c) := (hbel.cell (p := ⟨b1, o1 + k * 6 + 5, none⟩) hb1).trans (hc1 5 _ rfl)
      have y0 : wr.cell? ⟨b2, o2 + k * 6, none⟩ = some (.int .i64 x.kind) := (hbel.cell (p := ⟨b2, o2 + k * 6, none⟩) hb2).trans (hc2 0 _ rfl)
      have y1 : wr.cell? ⟨b2, o2 + k * 6 + 1, none⟩ = some (.string x.t) := (hbel.cell (p := ⟨b2, o2 + k * 6 + 1, none⟩) hb2).trans (hc2 1 _ rfl)
      have y2 : wr.cell? ⟨b2, o2 + k * 6 + 2, none⟩ = some (.int .i64 x.n) := (hbel.cell (p := ⟨b2, o2 + k * 6 + 2, none⟩) hb2).trans (hc2 2 _ rfl)
      have y3 : wr.cell? ⟨b2, o2 + k * 6 + 3, none⟩ = some (.int .i64 x.m) := (hbel.cell (p := ⟨b2, o2 + k * 6 + 3, none⟩) hb2).trans (hc2 3 _ rfl)
      have y4 : wr.cell? ⟨b2, o2 + k * 6 + 4, none⟩ = some (.string x.s) := (hbel.cell (p := ⟨b2, o2 + k * 6 + 4, none⟩) hb2).trans (hc2 4 _ rfl)
      have y5 : wr.cell? ⟨b2, o2 + k * 6 + 5, none⟩ = some (.slice v.a v.n v.c) := (hbel.cell (p := ⟨b2, o2 + k * 6 + 5, none⟩) hb2).trans (hc2 5 _ rfl)
      have HSV : Hid (SameVs wr u v) := Lib.hid fun W hW => by
        have r1 := (RdV.below hru hbel).below hW
        have r2 := (RdV.below hrv hbel).below hW
        rw [hu, hv]
        exact IH.out _ _ _ _ _ _ r1 r2
      have hixA : ∀ W : World, Sem.run Try.prog (Instr.indexAt 32 (.slice A1 ts.length c1) (.int .i64 (k : Int))) W = .ok (.pointer (some ⟨b1, o1 + k * 6, none⟩)) W := by intro W; rw [hA]; go_simp
      have hixB : ∀ W : World, Sem.run Try.prog (Instr.indexAt 32 (.slice A2 ts.length c2) (.int .i64 (k : Int))) W = .ok (.pointer (some ⟨b2, o2 + k * 6, none⟩)) W := by intro W; rw [hB]; go_simp
      clear hA hB ex1 ex2 hc1 hc2 hu hv hru hrv ed1 ed2
      have n1 : b1 < wr.heap.size := by omega
      have n2 : b2 < wr.heap.size := by omega
      have HBEL := Lib.hid hbel
      clear hbel
      go_wp2_with fail
      go_region_held3 (fun w' => w'.cell? ⟨b1, o1 + k * 6, none⟩ = some (.int .i64 x.kind) ∧ w'.cell? ⟨b1, o1 + k * 6 + 1, none⟩ = some (.string x.t) ∧ w'.cell? ⟨b1, o1 + k * 6 + 2, none⟩ = some (.int .i64 x.n) ∧ w'.cell? ⟨b1, o1 + k * 6 + 3, none⟩ = some (.int .i64 x.m) ∧ w'.cell? ⟨b1, o1 + k * 6 + 4, none⟩ = some (.string x.s) ∧ w'.cell? ⟨b1, o1 + k * 6 + 5, none⟩ = some (.slice u.a u.n u.c) ∧ w'.cell? ⟨b2, o2 + k * 6, none⟩ = some (.int .i64 x.kind) ∧ w'.cell? ⟨b2, o2 + k * 6 + 1, none⟩ = some (.string x.t) ∧ w'.cell? ⟨b2, o2 + k * 6 + 2, none⟩ = some (.int .i64 x.n) ∧ w'.cell? ⟨b2, o2 + k * 6 + 3, none⟩ = some (.int .i64 x.m) ∧ w'.cell? ⟨b2, o2 + k * 6 + 4, none⟩ = some (.string x.s) ∧ w'.cell? ⟨b2, o2 + k * 6 + 5, none⟩ = some (.slice v.a v.n v.c)) (simp [go_sem, *])
        (first | (go_at_call 99; refine (sameValue_step x u v _ (fun W hW => HSV.out W (Below.call (w := wr) (Below.refl _ _).drew hW))).mono ?_; rintro e w1 ⟨rfl, h1⟩; have hz1 := h1.size; simp at hz1; have HH1 := Lib.hid (Below.call (w := w) (HBEL.out.drew) h1); obtain ⟨k1, k2, k3⟩ := keepB h1 b1 (by simp; omega); obtain ⟨m1, m2, m3⟩ := keepB h1 b2 (by simp; omega)))
      go_wp2_with fail
      go_roundw
      case rel => exact ⟨k + 1, by omega, by go_num, HH1.out⟩
      case measure => simp [intOf]; omega
    · go_wp2_with fail
      go_ret
      exact ⟨rfl, hbel⟩
end Go.Proofs.Ytjdjfjokniingaa
