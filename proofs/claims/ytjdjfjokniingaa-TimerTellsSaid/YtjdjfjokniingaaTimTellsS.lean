/- TimerTells holds: for all states (at most 100 alarms, numbers up to 2^40) and sequences of operations (at most 60), every operation returns the state and alarms that the reference returns. No condition. -/
import Derived.Test.YtjdjfjokniingaaUm
namespace Go.Proofs.Ytjdjfjokniingaa.timerTells
open Go.RowKit Go.ChangeShapes Go.WideShapes Go.ChangeAt Go.Joins Go.ChangeMaps

theorem own : ownKnob Try.prog.godebug = none := by kernel_rfl
set_option maxRecDepth 100000 in
theorem lifted (os : Os) (started : os.Started) (H : Type) (enc : TypeId × Value → H) :
    ReturnsInHanded {} Try.checked os 3 .any (Rows.timerTellsSpec.pre6 enc Try.prog Try.f3 Rows.timerTellsRow.domain false) (Rows.timerTellsSpec.post enc Try.prog Try.f3 false true false false) := by
  refine returnsInHanded_of_change_sized (C := Try.checked) own started (by kernel_rfl) Try.func3
    (ChangeSpec.witness6 (enc := enc) (C := Try.checked) false ⟨#[], #[.agg #[.slice none 0 0, .int .i64 0, .int .i64 0, .int .i64 0, .slice none 0 0, .slice none 0 0, .slice none 0 0, .slice none 0 0, .int .i64 0], .slice none 0 0], []⟩ 8 (by kernel_rfl) (by kernel_rfl) (by kernel_rfl) (by kernel_rfl)) ?_
  intro W base args ds gs before hval0 hW hcnd hsz0 _
  have hsz : (DataW.weightsEach Try.prog (Try.f3.params.toList ++ Rows.timerTellsSpec.plain.varTypes Try.prog) (ds ++ gs)).all (· ≤ reachBytes) = true := hsz0
  have hval : ∀ (j : Nat) t v, Try.f3.params[j]? = some t → args[j]? = some v → Value.okWide Try.prog W .any base t v := hval0
  have hW' := hW
  obtain ⟨p, q, hA0, hV, rfl, hfz, hnd⟩ := hW
  have hA : DataW.TrodAll enc Try.prog W 0 (fun _ => true) true Try.f3.params.toList args.toList ds p := hA0
  rw [Try.params3] at hA hval hsz
  obtain ⟨v0, v1, d0, d1, p0, p1, rfl, rfl, rfl, h0, h1⟩ := trodAll_two hA
  obtain ⟨rfl, rfl⟩ := trodVars_none hV
  have hlt : ∀ x ∈ (p0 ++ p1), x.block < W.heap.size := fun x hx => by simpa using hW'.lt x (by simpa using hx)
  have hargs := fun (W' : World) (hn : Below W.heap.size W W') => args_back laidOut hn _ _ _ _ (by kernel_rfl) hA (by simpa using hlt)
  have hz : ∀ y ∈ d0.weights Try.prog 28, y ≤ 140737488355328 := fun y hy => by
    have := List.all_eq_true.1 hsz y (DataW.weights_mem_each (j := 0) (t := 28) (d := d0) rfl rfl y hy)
    have h2 : y ≤ reachBytes := of_decide_eq_true this
    exact Nat.le_trans h2 (by decide)
  obtain ⟨s, ups, ls, fls, als, rs, rfl, hs, hz2⟩ := open_sys_z 140737488355328 hz (hval 0 28 v0 rfl rfl) h0
  obtain ⟨als2, hf2, hr2⟩ := open_als_z hz h0
  obtain ⟨ps, hps, hal⟩ := als_of als2 hf2
  have AL : Als (fun b => b < W.heap.size) W s.alarms (ps.map (·.2)) := ⟨ps, ⟨by rw [hps]; exact hr2, hal, rd_loc hr2, hs.cl⟩, rfl⟩
  have hzj : ∀ y ∈ d1.weights Try.prog 29, y ≤ 140737488355328 := fun y hy => by
    have := List.all_eq_true.1 hsz y (DataW.weights_mem_each (j := 1) (t := 29) (d := d1) rfl rfl y hy)
    have h2 : y ≤ reachBytes := of_decide_eq_true this
    exact Nat.le_trans h2 (by decide)
  obtain ⟨a1, n1, c1, e1⟩ := okWide_slice Try.underlying29 (hval 1 29 v1 rfl rfl)
  obtain ⟨l, ops, rfl, hdo, _, hro, hln⟩ := open_acts hzj h1 ⟨⟨a1, n1, c1⟩, e1⟩
  clear hA0 hval0
  simp only [List.append_nil] at hW'
  refine (tells3_walk s _ l ops W AL (Still.of hs) hro hdo (Nat.le_trans hln (by decide))).mono fun e W' ⟨he, hnx⟩ => ?_
  subst he
  refine ⟨_, rfl, _, _, _, [], _, [], hW', ?_, hargs W' hnx, rfl, hnx.frame _, fun h => by cases h⟩
  exact trodAll_mk1 (shut_bool Try.underlying4 _)

theorem proved : Rows.TimerTellsSaid :=
  OpenClaim.holds_of_wide 3 Try.f3 rfl rfl rfl rfl rfl rfl rfl ⟨rfl, rfl, rfl, rfl, rfl⟩ rfl rfl rfl rfl rfl (by kernel_rfl) Try.func3 (by kernel_rfl)
    (of_decide_eq_true (by kernel_rfl)) (by unfold Func.isWrapper; rw [if_neg (by decide +kernel)]; exact ⟨rfl, rfl⟩)
    (fun os started H enc _ => lifted os started H enc)

#print axioms proved
end Go.Proofs.Ytjdjfjokniingaa.timerTells
