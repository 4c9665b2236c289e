import Derived.Test.YtcncobhdfflelaaWc
import Derived.Laws.StructEq
namespace Go.Proofs.Ytcncobhdfflelaa
open Go.RowKit

theorem eqGuard65 (op : BinOp) (x y : Operand) (us vs : Array Value) (w : World) : (eqGuard op 65 x y (.agg us) (.agg vs)).run Try.prog w = .ok () w := by
  have h : Try.prog.eqGuardType Try.prog.depth 65 = false := by kernel_rfl
  unfold eqGuard
  cases op <;> simp [go_sem, h]
theorem run_eq_elem (d : Nat) (a b : Nat) (w : World) : (Op.equalIn (d + 1) 63 (u64V a) (u64V b)).run Try.prog w = .ok (a == b) w := by
  have h : Try.prog.underlying 63 = some (.int .u64) := Try.underlying63
  simp only [Op.equalIn, Sem.run_bind, run_underlying h, Result.andThen_ok]
  have e : ((a : Int) == (b : Int)) = (a == b) := by
    rw [Bool.eq_iff_iff]; simp only [beq_iff_eq]; omega
  simp [e]
theorem run_part63 (l : List Nat) (i : Nat) (hi : i < l.length) (w : World) : (part 63 (l.map u64V).toArray i).run Try.prog w = .ok (u64V l[i]) w := by
  unfold part
  simp only [Sem.run_bind, Try.isAgg63, Result.andThen_ok]
  simp [hi]
theorem run_eq_loop (us vs : List Nat) (n : Nat) (hu : us.length = n) (hv : vs.length = n) (w : World) : ∀ m k : Nat, k + m = n →
    (forIn (List.range' k m) ((none : Option Bool), ()) fun i __s => do
            let __do_lift ← part 63 (List.map u64V us).toArray (i * 1)
            let __do_lift_1 ← part 63 (List.map u64V vs).toArray (i * 1)
            let __do_lift ← Op.equalIn (9998 + 1) 63 __do_lift __do_lift_1
            if (!__do_lift) = true then pure (ForInStep.done (some false, ())) else pure (ForInStep.yield (none, ()))).run Try.prog w = .ok (if us.drop k = vs.drop k then none else some false, ()) w
  | 0, k, h => by
    rw [List.drop_eq_nil_of_le (by omega), List.drop_eq_nil_of_le (by omega)]
    simp
  | m + 1, k, h => by
    have ih := run_eq_loop us vs n hu hv w m (k + 1) (by omega)
    rw [List.range'_succ]
    simp only [List.forIn_cons, Sem.run_bind, Nat.mul_one]
    rw [run_part63 us k (by omega), Result.andThen_ok, run_part63 vs k (by omega), Result.andThen_ok, run_eq_elem, Result.andThen_ok]
    simp only [Nat.mul_one] at ih
    rw [List.drop_eq_getElem_cons (show k < us.length by omega), List.drop_eq_getElem_cons (show k < vs.length by omega)]
    by_cases he : us[k]'(by omega) = vs[k]'(by omega)
    · have e1 : (us[k]'(by omega) == vs[k]'(by omega)) = true := by simpa using he
      rw [e1]
      simp only [Bool.not_true, Bool.false_eq_true, if_false, Sem.run_pure, Result.andThen_ok]
      rw [ih, he]
      simp only [List.cons.injEq, true_and]
    · have e1 : (us[k]'(by omega) == vs[k]'(by omega)) = false := by simpa using he
      rw [e1, if_neg (show ¬ (us[k]'(by omega) :: us.drop (k + 1) = vs[k]'(by omega) :: vs.drop (k + 1)) from fun h => he (by injection h))]
      simp
theorem run_eq65 (us vs : List Nat) (hu : us.length = 15) (hv : vs.length = 15) (w : World) : (Op.equal 65 (wV us) (wV vs)).run Try.prog w = .ok (decide (us = vs)) w := by
  have h : Try.prog.underlying 65 = some (.array 15 63) := Try.underlying65
  unfold Op.equal
  have e : Op.maxDepth = 9998 + 1 + 1 := rfl
  rw [e]
  unfold wV
  rw [Op.equalIn]
  simp only [Sem.run_bind, run_underlying h, Result.andThen_ok, Try.sizeOf63]
  have hl := run_eq_loop us vs 15 hu hv w 15 0 rfl
  rw [Std.Legacy.Range.forIn_eq_forIn_range']
  have hs : (Std.Legacy.Range.size [:15]) = 15 := rfl
  rw [hs]
  show (Sem.run Try.prog (forIn (List.range' 0 15) _ _) w).andThen _ = _
  rw [hl]
  simp only [Result.andThen_ok, List.drop_zero]
  by_cases he : us = vs
  · simp [he]
  · rw [if_neg he]; simp [he]
theorem run_eql65 (us vs : List Nat) (hu : us.length = 15) (hv : vs.length = 15) (w : World) : (binOp .eql 65 (wV us) (wV vs)).run Try.prog w = .ok (.bool (decide (us = vs))) w := by
  have := run_eq65 us vs hu hv w
  unfold wV at *
  unfold binOp
  simp only [Sem.run_bind, this, Result.andThen_ok]
  rfl
end Go.Proofs.Ytcncobhdfflelaa
