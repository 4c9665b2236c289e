/- BoxesCounts holds: for all domains with at most 2 dimensions and bounds of at most 40 and all conjunctions of at most 4 linear conditions (coefficients of at most 1,000), Count of the boxes that Solve returns is the number of points of the domain at which the conditions hold. No condition. -/
import Derived.Test.YtcncobhdfflelaaJc
import Derived.Test.YtcncobhdfflelaaHd
namespace Go.Proofs.Ytcncobhdfflelaa.boxesCounts
open Go.RowKit Go.ChangeShapes Go.WideShapes Go.ChangeAt Go.Joins Go.ChangeMaps

theorem own : ownKnob Try.prog.godebug = none := by kernel_rfl
set_option maxRecDepth 100000 in
theorem lifted (os : Os) (started : os.Started) (H : Type) (enc : TypeId × Value → H) :
    ReturnsInHanded {} Try.checked os 7 .any (Rows.boxesCountsSpec.pre6 enc Try.prog Try.f7 Rows.boxesCountsRow.domain false) (Rows.boxesCountsSpec.post enc Try.prog Try.f7 false true false false) := by
  refine returnsInHanded_of_change (C := Try.checked) own started (by kernel_rfl) Try.func7
    (ChangeSpec.witness6 (enc := enc) (C := Try.checked) false ⟨#[], #[.slice none 0 0, .slice none 0 0, .slice none 0 0], []⟩ 8 (by kernel_rfl) (by kernel_rfl) (by kernel_rfl) (by kernel_rfl)) ?_
  intro W base args ds gs before hval0 hW hcnd _
  have hval : ∀ (j : Nat) t v, Try.f7.params[j]? = some t → args[j]? = some v → Value.okWide Try.prog W .any base t v := hval0
  have hW' := hW
  obtain ⟨p, q, hA0, hV, rfl, hfz, hnd⟩ := hW
  have hA : DataW.TrodAll enc Try.prog W 0 (fun _ => true) true Try.f7.params.toList args.toList ds p := hA0
  rw [Try.params7] at hA hval
  obtain ⟨v0, v1, v2, d0, d1, d2, p0, p1, p2, rfl, rfl, rfl, h0, h1, h2⟩ := trodAll_three hA
  obtain ⟨rfl, rfl⟩ := trodVars_none hV
  have hlt : ∀ x ∈ (p0 ++ p1 ++ p2), x.block < W.heap.size := fun x hx => by simpa using hW'.lt x (by simpa using hx)
  have hargs := fun (W' : World) (hn : Below W.heap.size W W') => args_back laidOut hn _ _ _ _ (by kernel_rfl) hA (by simpa using hlt)
  obtain ⟨a0, n0, c0, rfl⟩ := okWide_slice Try.underlying22 (hval 0 22 v0 rfl rfl)
  obtain ⟨a1, n1, c1, rfl⟩ := okWide_slice Try.underlying22 (hval 1 22 v1 rfl rfl)
  obtain ⟨a2, n2, c2, rfl⟩ := okWide_slice Try.underlying23 (hval 2 23 v2 rfl rfl)
  obtain ⟨f0, h0⟩ := h0
  obtain ⟨f1, h1⟩ := h1
  obtain ⟨f2, h2⟩ := h2
  obtain ⟨s0, xs, e0, r0, _⟩ := open_int_row h0
  obtain ⟨s1, ys, e1, r1, _⟩ := open_int_row h1
  obtain ⟨s2, qs, e2, r2⟩ := open_lines h2
  injection e0 with e0 e0' e0''
  injection e1 with e1 e1' e1''
  injection e2 with e2 e2' e2''
  subst e0 e0' e0'' e1 e1' e1'' e2 e2' e2''
  clear hA0 hval0
  simp only [List.append_nil] at hW'
  refine (counts7 s0.a s1.a s0.n s1.n s0.c s1.c xs ys s2 qs W r0 r1 r2).mono fun e W' ⟨he, hnx⟩ => ?_
  subst he
  refine ⟨_, rfl, _, _, _, [], _, [], hW', ?_, hargs W' hnx, rfl, hnx.frame _, fun h => by cases h⟩
  exact trodAll_mk1 (shut_bool Try.underlying4 _)

theorem proved : Rows.BoxesCountsSaid :=
  OpenClaim.holds_of_wide 7 Try.f7 rfl rfl rfl rfl rfl rfl rfl ⟨rfl, rfl, rfl, rfl, rfl⟩ rfl rfl rfl rfl rfl (by kernel_rfl) Try.func7 (by kernel_rfl)
    (of_decide_eq_true (by kernel_rfl)) (by unfold Func.isWrapper; rw [if_neg (by decide +kernel)]; exact ⟨rfl, rfl⟩)
    (fun os started H enc _ => lifted os started H enc)

#print axioms proved
end Go.Proofs.Ytcncobhdfflelaa.boxesCounts
