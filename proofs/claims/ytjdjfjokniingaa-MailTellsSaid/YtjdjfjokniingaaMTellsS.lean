/- MailTells holds: for every small state and all operations, the results and the states of the mail layer equal those of the reference. No condition. -/
import Derived.Test.YtjdjfjokniingaaXm
namespace Go.Proofs.Ytjdjfjokniingaa.mailTells
open Go.RowKit Go.ChangeShapes Go.WideShapes Go.ChangeAt Go.Joins Go.ChangeMaps

theorem own : ownKnob Try.prog.godebug = none := by kernel_rfl
set_option maxRecDepth 100000 in
theorem lifted (os : Os) (started : os.Started) (H : Type) (enc : TypeId × Value → H) :
    ReturnsInHanded {} Try.checked os 9 .any (Rows.mailTellsSpec.pre6 enc Try.prog Try.f9 Rows.mailTellsRow.domain false) (Rows.mailTellsSpec.post enc Try.prog Try.f9 false true false false) := by
  refine returnsInHanded_of_change_sized (C := Try.checked) own started (by kernel_rfl) Try.func9
    (ChangeSpec.witness6 (enc := enc) (C := Try.checked) false ⟨#[], #[.agg #[.slice none 0 0, .int .i64 0, .int .i64 0, .int .i64 0, .slice none 0 0, .slice none 0 0, .slice none 0 0, .slice none 0 0, .int .i64 0], .slice none 0 0], []⟩ 8 (by kernel_rfl) (by kernel_rfl) (by kernel_rfl) (by kernel_rfl)) ?_
  intro W base args ds gs before hval0 hW hcnd hsz0 _
  have hsz : (DataW.weightsEach Try.prog (Try.f9.params.toList ++ Rows.mailTellsSpec.plain.varTypes Try.prog) (ds ++ gs)).all (· ≤ reachBytes) = true := hsz0
  have hval : ∀ (j : Nat) t v, Try.f9.params[j]? = some t → args[j]? = some v → Value.okWide Try.prog W .any base t v := hval0
  have hW' := hW
  obtain ⟨p, q, hA0, hV, rfl, hfz, hnd⟩ := hW
  have hA : DataW.TrodAll enc Try.prog W 0 (fun _ => true) true Try.f9.params.toList args.toList ds p := hA0
  rw [Try.params9] at hA hval hsz
  obtain ⟨v0, v1, d0, d1, p0, p1, rfl, rfl, rfl, h0, h1⟩ := trodAll_two hA
  obtain ⟨rfl, rfl⟩ := trodVars_none hV
  have hlt : ∀ x ∈ (p0 ++ p1), x.block < W.heap.size := fun x hx => by simpa using hW'.lt x (by simpa using hx)
  have hargs := fun (W' : World) (hn : Below W.heap.size W W') => args_back laidOut hn _ _ _ _ (by kernel_rfl) hA (by simpa using hlt)
  have hz : ∀ y ∈ d0.weights Try.prog 28, y ≤ 140737488355328 := fun y hy => by
    have := List.all_eq_true.1 hsz y (DataW.weights_mem_each (j := 0) (t := 28) (d := d0) rfl rfl y hy)
    have h2 : y ≤ reachBytes := of_decide_eq_true this
    exact Nat.le_trans h2 (by decide)
  obtain ⟨s, ups, ls, fls, als, rs, rfl, hs, hz2⟩ := open_sys_z 140737488355328 hz (hval 0 28 v0 rfl rfl) h0
  obtain ⟨σ, hr, hd, hzz⟩ := sysR_ofz hs hz2
  obtain ⟨a1, n1, c1, e1⟩ := okWide_slice Try.underlying55 (hval 1 55 v1 rfl rfl)
  obtain ⟨l, ops, rfl, hod, _, hro, hln⟩ := open_ops h1 ⟨⟨a1, n1, c1⟩, e1⟩
  clear hA0 hval0
  simp only [List.append_nil] at hW'
  refine (tells9_walk s σ l ops W hr hd hzz hro hod hln).mono fun e W' ⟨he, hnx⟩ => ?_
  subst he
  refine ⟨_, rfl, _, _, _, [], _, [], hW', ?_, hargs W' hnx, rfl, hnx.frame _, fun h => by cases h⟩
  exact trodAll_mk1 (shut_bool Try.underlying4 _)

theorem proved : Rows.MailTellsSaid :=
  OpenClaim.holds_of_wide 9 Try.f9 rfl rfl rfl rfl rfl rfl rfl ⟨rfl, rfl, rfl, rfl, rfl⟩ rfl rfl rfl rfl rfl (by kernel_rfl) Try.func9 (by kernel_rfl)
    (of_decide_eq_true (by kernel_rfl)) (by unfold Func.isWrapper; rw [if_neg (by decide +kernel)]; exact ⟨rfl, rfl⟩)
    (fun os started H enc _ => lifted os started H enc)

#print axioms proved
end Go.Proofs.Ytjdjfjokniingaa.mailTells
