/- SchedFair holds: for all states and numbers, as many consecutive numbers as there are enabled actions choose each of these exactly once, in cyclic order. No condition. -/
import Derived.Test.YtjdjfjokniingaaSq
import Derived.Test.YtjdjfjokniingaaOq
namespace Go.Proofs.Ytjdjfjokniingaa.schedFair
open Go.RowKit Go.ChangeShapes Go.WideShapes Go.ChangeAt Go.Joins

theorem apart_enabled (ups : List Bool) (ls : List LiveC) (cs : List (Int × Int)) (h : ∀ a ∈ ls, a.path.toList.isEmpty = false) : Apart (Sy.enabled ups ls cs) := by
  intro i k a hki hi hk
  cases hp : a.path.toList.isEmpty with
  | false => rfl
  | true =>
    exfalso
    have hnd : (Sy.srt (Sy.dd cs)).Nodup := (List.mergeSort_perm (Sy.dd cs) _).nodup_iff.2 (Sy.dd_spec cs).1
    have hsp : ∀ j, (Sy.enabled ups ls cs)[j]? = some a → (Sy.readies ups ls).length ≤ j ∧ ∃ c, (Sy.srt (Sy.dd cs))[j - (Sy.readies ups ls).length]? = some c ∧ a = Sy.chanOf c := by
      intro j hj
      unfold Sy.enabled at hj
      by_cases hlt : j < (Sy.readies ups ls).length
      · rw [List.getElem?_append_left hlt] at hj
        have hm := List.mem_of_getElem? hj
        unfold Sy.readies at hm
        obtain ⟨x, hx, rfl⟩ := List.mem_map.1 hm
        have := h x ((List.mem_filter.1 hx).1)
        rw [show (Sy.actOf x).path = x.path from rfl, this] at hp
        cases hp
      · rw [List.getElem?_append_right (by omega), List.getElem?_map] at hj
        cases hc : (Sy.srt (Sy.dd cs))[j - (Sy.readies ups ls).length]? with
        | none => rw [hc] at hj; simp at hj
        | some c => rw [hc] at hj; simp at hj; exact ⟨by omega, c, rfl, hj.symm⟩
    obtain ⟨h1, c1, e1, f1⟩ := hsp i hi
    obtain ⟨h2, c2, e2, f2⟩ := hsp k hk
    have hcc : c1 = c2 := by
      rw [f1] at f2
      simp [Sy.chanOf] at f2
      exact Prod.ext f2.1 f2.2
    subst hcc
    obtain ⟨l1, g1⟩ := List.getElem?_eq_some_iff.1 e1
    obtain ⟨l2, g2⟩ := List.getElem?_eq_some_iff.1 e2
    have := (List.getElem_inj hnd).1 (g1.trans g2.symm)
    omega

theorem own : ownKnob Try.prog.godebug = none := by kernel_rfl

set_option maxRecDepth 100000 in
theorem lifted (os : Os) (started : os.Started) (H : Type) (enc : TypeId × Value → H) :
    ReturnsInHanded {} Try.checked os 14 .any (Rows.schedFairSpec.pre6 enc Try.prog Try.f14 Rows.schedFairRow.domain false) (Rows.schedFairSpec.post enc Try.prog Try.f14 false true false false) := by
  refine returnsInHanded_of_change_sized (C := Try.checked) own started (by kernel_rfl) Try.func14
    (ChangeSpec.witness6 (enc := enc) (C := Try.checked) false ⟨#[], #[.agg #[.slice none 0 0, .int .i64 0, .int .i64 0, .int .i64 0, .slice none 0 0, .slice none 0 0, .slice none 0 0, .slice none 0 0, .int .i64 0], .int .i64 0], []⟩ 8 (by kernel_rfl) (by kernel_rfl) (by kernel_rfl) (by kernel_rfl)) ?_
  intro W base args ds gs before hval0 hW hcnd hsz0 _
  have hsz : (DataW.weightsEach Try.prog (Try.f14.params.toList ++ Rows.schedFairSpec.plain.varTypes Try.prog) (ds ++ gs)).all (· ≤ reachBytes) = true := hsz0
  have hval : ∀ (j : Nat) t v, Try.f14.params[j]? = some t → args[j]? = some v → Value.okWide Try.prog W .any base t v := hval0
  have hW' := hW
  obtain ⟨p, q, hA0, hV, rfl, hfz, hnd⟩ := hW
  have hA : DataW.TrodAll enc Try.prog W 0 (fun _ => true) true Try.f14.params.toList args.toList ds p := hA0
  rw [Try.params14] at hA hval hsz
  obtain ⟨v0, v1, d0, d1, p0, p1, rfl, rfl, rfl, h0, h1⟩ := trodAll_two hA
  obtain ⟨rfl, rfl⟩ := trodVars_none hV
  have hlt : ∀ x ∈ (p0 ++ p1), x.block < W.heap.size := fun x hx => by simpa using hW'.lt x (by simpa using hx)
  have hargs := fun (W' : World) (hn : Below W.heap.size W W') => args_back laidOut hn _ _ _ _ (by kernel_rfl) hA hlt
  have hz : ∀ y ∈ d0.weights Try.prog 28, y ≤ 140737488351232 := fun y hy => by
    have := List.all_eq_true.1 hsz y (DataW.weights_mem_each (j := 0) (t := 28) (d := d0) rfl rfl y hy)
    exact of_decide_eq_true this
  obtain ⟨s, ls, fls, ups, rfl, hup, hac, hfl, hwf, hba, hbf⟩ := open_sys_sized (hval 0 28 v0 rfl rfl) hz h0
  obtain ⟨n, rfl, rfl, rfl, wn⟩ := open_int Try.underlying3 (hval 1 3 v1 rfl rfl) h1
  clear hA0 hval0
  simp only [List.append_nil] at hW'
  have hwn : -9223372036854775808 ≤ n ∧ n ≤ 9223372036854775807 := by
    have hm : IntKind.i64.min = -9223372036854775808 := by decide
    have h := wn
    simp [Lit.wf] at h
    rw [hm] at h
    exact h
  refine (fair_walk s ls fls ups n W ⟨hup, hac, hfl, by omega, by omega, hwf⟩ hwn.1 hwn.2 (apart_enabled ups ls _)).mono fun e W' ⟨he, hnx⟩ => ?_
  subst he
  refine ⟨_, rfl, _, _, _, [], _, [], hW', ?_, hargs W' hnx, rfl, hnx.frame _, fun h => by cases h⟩
  exact trodAll_mk1 (shut_bool Try.underlying4 _)

theorem proved : Rows.SchedFairSaid :=
  OpenClaim.holds_of_wide 14 Try.f14 rfl rfl rfl rfl rfl rfl rfl ⟨rfl, rfl, rfl, rfl, rfl⟩ rfl rfl rfl rfl rfl (by kernel_rfl) Try.func14 (by kernel_rfl)
    (of_decide_eq_true (by kernel_rfl)) (by unfold Func.isWrapper; rw [if_neg (by decide +kernel)]; exact ⟨rfl, rfl⟩)
    (fun os started H enc _ => lifted os started H enc)

#print axioms proved
end Go.Proofs.Ytjdjfjokniingaa.schedFair
