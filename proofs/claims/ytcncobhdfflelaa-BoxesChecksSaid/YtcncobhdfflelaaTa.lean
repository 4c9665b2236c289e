/- The contract of boxes.Solve: the ways that do not come to the loop. -/
import Derived.Test.YtcncobhdfflelaaSx
import Derived.Defers
import Derived.Recover
namespace Go.Proofs.Ytcncobhdfflelaa
open Go.RowKit

theorem catch33 (p q : Addr) (w : World) : CallsD Try.prog 33 #[.pointer (some p), .pointer (some q)] .returning w fun e u' w' => e = .returned (.tuple #[]) ∧ u' = .returning ∧ w' = w := by
  refine callsD_of_wpS Try.func33 rfl fun c₀ cs hu => ?_
  apply wpS_seq
  apply wpS_region
  simp [wpOpsS, go_sem, recoverD, hu, Try.ntmps33, Exit.thenS]
  refine wpS_cond (t := false) (by simp [Act.eval, Array.replicate]) ?_
  simp only [Bool.false_eq_true, if_false]
  refine wpS_of_wp (wp_skip ?_)
  cases c₀
  simp_all [bodyPostS, results, Try.results33]

/-- a row of boxes, with room for what it holds -/
structure BxsC (w : World) (u : Sl) (bs : List (List Int × List Int × Bool)) : Prop extends BxsAt w u bs where
  cap : u.n ≤ u.c
/-- boxes and an error are handed back -/
def SolvePost (r : List Bx.Box × Int) (w : World) (e : Ending) (w' : World) : Prop := ∃ u : Sl, e = .returned (.tuple #[.slice u.a u.n u.c, .int .i64 r.2]) ∧ BxsC w' u r.1 ∧ Below w.heap.size w w'
theorem solvePost {r : List Bx.Box × Int} {w w' : World} {x : Int} (h : r = ([], x)) (hb : Below w.heap.size w w') : SolvePost r w (.returned (.tuple #[.slice none 0 0, .int .i64 x])) w' := by
  subst h
  exact ⟨⟨none, 0, 0⟩, rfl, ⟨⟨[], Rd.none_, fun q hq => (List.not_mem_nil hq).elim, rfl⟩, Nat.le_refl _⟩, hb⟩

set_option linter.unusedSimpArgs false in
set_option linter.unusedVariables false in
set_option maxRecDepth 100000 in
set_option maxHeartbeats 3200000 in
theorem solve11_arg (A B : Option Addr) (n m c d : Nat) (lo hi : List Int) (F : Value) (v : List Int → List Int → Int) (most : Int) (w : World) (hx : lo.length = n) (hy : hi.length = m) (h : n ≠ m ∨ 16 < n) :
    Calls Try.prog 11 #[.slice A n c, .slice B m d, F, .int .i64 most] w (SolvePost (Bx.solve v lo hi most) w) := by
  have HP : Hid (Bx.solve v lo hi most = ([], 1)) := Lib.hid (by unfold Bx.solve; rw [if_pos (by rw [hx, hy]; exact h)])
  have hmf : ∀ (fn : Fn) (first cap : Array Value) (w : World), (Instr.makeFunc fn first cap).run Try.prog w = .ok (.func fn first cap) w := fun _ _ _ _ => rfl
  clear hx hy
  by_cases hnm : n = m
  · subst hnm
    have t1 : ((n : Int) != (n : Int)) = false := by simp
    have t2 : decide ((16 : Int) < (n : Int)) = true := by simp; omega
    clear h
    go_enter_defers Try.func11, Try.ntmps11
    go_wp2_with fail
    refine leaves_cons (f := 33) (args := #[.pointer (some ⟨w.heap.size, 0, none⟩), .pointer (some ⟨w.heap.size + 1, 0, none⟩)]) (by simp) (by simp [go_sem]) ?_
    refine (catch33 _ _ _).mono ?_
    rintro e u' w'' ⟨rfl, rfl, rfl⟩
    simp [Leaves, settle, results, Try.results11, go_sem]
    exact solvePost HP.out (by repeat (first | (with_reducible exact Below.refl _ _) | ((with_reducible refine Below.setCell ?_ ?_ _); rotate_left; (focus (first | omega | (simp; omega) | (simp; done)))) | ((with_reducible refine Below.alloc ?_ ?_ _); rotate_left; (focus (first | omega | (simp; omega) | (simp; done)))) | (with_reducible refine Below.drew ?_)))
  · have t1 : ((n : Int) != (m : Int)) = true := by simp; omega
    clear h hnm
    go_enter_defers Try.func11, Try.ntmps11
    go_wp2_with fail
    refine leaves_cons (f := 33) (args := #[.pointer (some ⟨w.heap.size, 0, none⟩), .pointer (some ⟨w.heap.size + 1, 0, none⟩)]) (by simp) (by simp [go_sem]) ?_
    refine (catch33 _ _ _).mono ?_
    rintro e u' w'' ⟨rfl, rfl, rfl⟩
    simp [Leaves, settle, results, Try.results11, go_sem]
    exact solvePost HP.out (by repeat (first | (with_reducible exact Below.refl _ _) | ((with_reducible refine Below.setCell ?_ ?_ _); rotate_left; (focus (first | omega | (simp; omega) | (simp; done)))) | ((with_reducible refine Below.alloc ?_ ?_ _); rotate_left; (focus (first | omega | (simp; omega) | (simp; done)))) | (with_reducible refine Below.drew ?_)))

set_option linter.unusedSimpArgs false in
set_option linter.unusedVariables false in
set_option maxRecDepth 100000 in
set_option maxHeartbeats 3200000 in
theorem solve11_range (A B : Option Addr) (n c d : Nat) (lo hi : List Int) (F : Value) (v : List Int → List Int → Int) (most : Int) (w : World) (hx : Rd w w.heap.size 1 A n (ints lo)) (hy : Rd w w.heap.size 1 B n (ints hi)) (h16 : n ≤ 16) (hv : Bx.valid lo hi = false) :
    Calls Try.prog 11 #[.slice A n c, .slice B n d, F, .int .i64 most] w (SolvePost (Bx.solve v lo hi most) w) := by
  have e1 : lo.length = n := by simpa using hx.1
  have e2 : hi.length = n := by simpa using hy.1
  have HP : Hid (Bx.solve v lo hi most = ([], 6)) := Lib.hid (by unfold Bx.solve; rw [if_neg (by rw [e1, e2]; omega), if_pos hv])
  have hmf : ∀ (fn : Fn) (first cap : Array Value) (w : World), (Instr.makeFunc fn first cap).run Try.prog w = .ok (.func fn first cap) w := fun _ _ _ _ => rfl
  have CV := Lib.hid (fun (W : World) (hW : Below w.heap.size w W) => valid34 A B n n c d lo hi W (hx.up hW) (hy.up hW))
  rw [hv] at CV
  have t1 : ((n : Int) != (n : Int)) = false := by simp
  have t2 : decide ((16 : Int) < (n : Int)) = false := by simp; omega
  clear e1 e2 hx hy hv h16
  go_enter_defers Try.func11, Try.ntmps11
  go_wp2_with fail
  refine (CV.out _ (by repeat (first | (with_reducible exact Below.refl _ _) | ((with_reducible refine Below.setCell ?_ ?_ _); rotate_left; (focus (first | omega | (simp; omega) | (simp; done)))) | ((with_reducible refine Below.alloc ?_ ?_ _); rotate_left; (focus (first | omega | (simp; omega) | (simp; done)))) | (with_reducible refine Below.drew ?_)))).mono ?_
  rintro e w1 ⟨rfl, h1⟩
  obtain ⟨k0, kc, kf⟩ := keepB h1 w.heap.size (by simp; omega)
  have c0 : w1.cell? ⟨w.heap.size, 0, none⟩ = some (.slice none 0 0) := (kc 0).trans (by simp [go_sem])
  have f0 : w1.frozen? ⟨w.heap.size, 0, none⟩ = false := (kf 0).trans (by simp [go_sem])
  clear kc kf
  obtain ⟨k1, kc, kf⟩ := keepB h1 (w.heap.size + 1) (by simp)
  have c1 : w1.cell? ⟨w.heap.size + 1, 0, none⟩ = some (.int .i64 0) := (kc 0).trans (by simp [go_sem])
  have f1 : w1.frozen? ⟨w.heap.size + 1, 0, none⟩ = false := (kf 0).trans (by simp [go_sem])
  have HB1 : Below w.heap.size w w1 := Below.call (w := w) (by repeat (first | (with_reducible exact Below.refl _ _) | ((with_reducible refine Below.alloc ?_ ?_ _); rotate_left; (focus (first | omega | (simp; omega) | (simp; done)))) | (with_reducible refine Below.drew ?_))) h1
  clear kc kf h1 CV
  go_wp2_with fail
  refine leaves_cons (f := 33) (args := #[.pointer (some ⟨w.heap.size, 0, none⟩), .pointer (some ⟨w.heap.size + 1, 0, none⟩)]) (by simp) (by simp [go_sem]) ?_
  refine (catch33 _ _ _).mono ?_
  rintro e u' w'' ⟨rfl, rfl, rfl⟩
  simp [Leaves, settle, results, Try.results11, go_sem, *]
  exact solvePost HP.out ((HB1.setCell (Nat.le_refl _) _).setCell (show w.heap.size ≤ w.heap.size + 1 by omega) _)
end Go.Proofs.Ytcncobhdfflelaa
