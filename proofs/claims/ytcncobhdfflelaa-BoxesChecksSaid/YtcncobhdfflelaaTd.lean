/- The contract of boxes.Solve, on every domain. -/
import Derived.Test.YtcncobhdfflelaaTc
namespace Go.Proofs.Ytcncobhdfflelaa
open Go.RowKit
theorem solve11 (A B : Option Addr) (n m c d : Nat) (lo hi : List Int) (g : Nat) (cb : Array Value) (v : List Int → List Int → Int) (most : Int) (w : World) (hx : Rd w w.heap.size 1 A n (ints lo)) (hy : Rd w w.heap.size 1 B m (ints hi))
    (eg : ∀ args w, (callFunc g args).run Try.prog w = .ok (.enter g args) w) (hver : Bx.valid lo hi = true → VerdAt w g cb v (lo, hi)) :
    Calls Try.prog 11 #[.slice A n c, .slice B m d, .func (.func g) #[] cb, .int .i64 most] w (SolvePost (Bx.solve v lo hi most) w) := by
  have e1 : lo.length = n := by simpa using hx.1
  have e2 : hi.length = m := by simpa using hy.1
  by_cases h : n ≠ m ∨ 16 < n
  · exact solve11_arg A B n m c d lo hi _ v most w e1 e2 h
  · have hnm : n = m := by omega
    subst hnm
    cases hv : Bx.valid lo hi with
    | true => exact solve11_main A B n c d lo hi g cb v most w hx hy (by omega) hv eg (hver hv)
    | false => exact solve11_range A B n c d lo hi _ v most w hx hy (by omega) hv
end Go.Proofs.Ytcncobhdfflelaa
