/- TimerApart holds: for all states and two actors (at most 100 alarms, numbers up to 2^40), clearing the alarms of one actor leaves those of the other as they are, clearing is idempotent and commutative, and commutes with Tick, except for the cleared alarms that were due. No condition. -/
import Derived.Test.YtjdjfjokniingaaUp
namespace Go.Proofs.Ytjdjfjokniingaa.timerApart
open Go.RowKit Go.ChangeShapes Go.WideShapes Go.ChangeAt Go.Joins Go.ChangeMaps

theorem own : ownKnob Try.prog.godebug = none := by kernel_rfl
set_option maxRecDepth 100000 in
theorem lifted (os : Os) (started : os.Started) (H : Type) (enc : TypeId × Value → H) :
    ReturnsInHanded {} Try.checked os 5 .any (Rows.timerApartSpec.pre6 enc Try.prog Try.f5 Rows.timerApartRow.domain false) (Rows.timerApartSpec.post enc Try.prog Try.f5 false true false false) := by
  refine returnsInHanded_of_change_sized (C := Try.checked) own started (by kernel_rfl) Try.func5
    (ChangeSpec.witness6 (enc := enc) (C := Try.checked) false ⟨#[], #[.agg #[.slice none 0 0, .int .i64 0, .int .i64 0, .int .i64 0, .slice none 0 0, .slice none 0 0, .slice none 0 0, .slice none 0 0, .int .i64 0], .string ⟨#[]⟩, .string ⟨#[]⟩], []⟩ 8 (by kernel_rfl) (by kernel_rfl) (by kernel_rfl) (by kernel_rfl)) ?_
  intro W base args ds gs before hval0 hW hcnd hsz0 _
  have hsz : (DataW.weightsEach Try.prog (Try.f5.params.toList ++ Rows.timerApartSpec.plain.varTypes Try.prog) (ds ++ gs)).all (· ≤ reachBytes) = true := hsz0
  have hval : ∀ (j : Nat) t v, Try.f5.params[j]? = some t → args[j]? = some v → Value.okWide Try.prog W .any base t v := hval0
  have hW' := hW
  obtain ⟨p, q, hA0, hV, rfl, hfz, hnd⟩ := hW
  have hA : DataW.TrodAll enc Try.prog W 0 (fun _ => true) true Try.f5.params.toList args.toList ds p := hA0
  rw [Try.params5] at hA hval hsz
  obtain ⟨v0, v1, v2, d0, d1, d2, p0, p1, p2, rfl, rfl, rfl, h0, h1, h2⟩ := trodAll_three hA
  obtain ⟨rfl, rfl⟩ := trodVars_none hV
  have hlt : ∀ x ∈ (p0 ++ p1 ++ p2), x.block < W.heap.size := fun x hx => by simpa using hW'.lt x (by simpa using hx)
  have hargs := fun (W' : World) (hn : Below W.heap.size W W') => args_back laidOut hn _ _ _ _ (by kernel_rfl) hA (by simpa using hlt)
  have hz : ∀ y ∈ d0.weights Try.prog 28, y ≤ 140737488355328 := fun y hy => by
    have := List.all_eq_true.1 hsz y (DataW.weights_mem_each (j := 0) (t := 28) (d := d0) rfl rfl y hy)
    have h2 : y ≤ reachBytes := of_decide_eq_true this
    exact Nat.le_trans h2 (by decide)
  obtain ⟨s, ups, ls, fls, als, rs, rfl, hs, hz2⟩ := open_sys_z 140737488355328 hz (hval 0 28 v0 rfl rfl) h0
  obtain ⟨als2, hf2, hr2⟩ := open_als_z hz h0
  obtain ⟨ps, hps, hal⟩ := als_of als2 hf2
  have AL : Als (fun b => b < W.heap.size) W s.alarms (ps.map (·.2)) := ⟨ps, ⟨by rw [hps]; exact hr2, hal, rd_loc hr2, hs.cl⟩, rfl⟩
  obtain ⟨pa, rfl, rfl, rfl, _⟩ := open_string Try.underlying9 (hval 1 9 v1 rfl rfl) h1
  obtain ⟨pb, rfl, rfl, rfl, _⟩ := open_string Try.underlying9 (hval 2 9 v2 rfl rfl) h2
  clear hA0 hval0
  simp only [List.append_nil] at hW'
  refine (apart5_walk s _ pa pb W AL (Still.of hs)).mono fun e W' ⟨he, hnx⟩ => ?_
  subst he
  refine ⟨_, rfl, _, _, _, [], _, [], hW', ?_, hargs W' hnx, rfl, hnx.frame _, fun h => by cases h⟩
  exact trodAll_mk1 (shut_bool Try.underlying4 _)

theorem proved : Rows.TimerApartSaid :=
  OpenClaim.holds_of_wide 5 Try.f5 rfl rfl rfl rfl rfl rfl rfl ⟨rfl, rfl, rfl, rfl, rfl⟩ rfl rfl rfl rfl rfl (by kernel_rfl) Try.func5 (by kernel_rfl)
    (of_decide_eq_true (by kernel_rfl)) (by unfold Func.isWrapper; rw [if_neg (by decide +kernel)]; exact ⟨rfl, rfl⟩)
    (fun os started H enc _ => lifted os started H enc)

#print axioms proved
end Go.Proofs.Ytjdjfjokniingaa.timerApart
