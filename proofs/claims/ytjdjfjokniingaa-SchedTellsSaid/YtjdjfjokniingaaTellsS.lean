/- SchedTells holds: for all states (at most 100 actors and flights) and numbers, Enabled and Choose return what the reference returns. No condition. -/
import Derived.Test.YtjdjfjokniingaaOp
namespace Go.Proofs.Ytjdjfjokniingaa.schedTells
open Go.RowKit Go.ChangeShapes Go.WideShapes Go.ChangeAt Go.Joins

set_option maxRecDepth 100000 in
set_option maxHeartbeats 4000000 in
theorem few_no (s : SysC) (ls : List LiveC) (n : Int) (w : World) (hac : Rd w w.heap.size 9 s.actors.a s.actors.n (ls.flatMap liveL)) (hfew : ¬ (s.actors.n ≤ 100 ∧ s.flights.n ≤ 100)) :
    Calls Try.prog 13 #[sysV s, .int .i64 n] w fun e w' => e = .returned (.bool true) ∧ Below w.heap.size w w' := by
  go_enter Try.func13, Try.ntmps13
  go_wp2_with fail
  refine (small20 _).mono ?_
  rintro e v1 ⟨rfl, h1⟩
  have z1 := h1.size
  try simp at z1
  have hB1 : Below w.heap.size w v1 := Below.call (w := w) (by repeat (first | (with_reducible exact Below.refl _ _) | (with_reducible assumption) | refine Below.setCell ?_ (by first | omega | (simp; omega) | (simp; done)) _ | refine Below.alloc ?_ (by first | omega | (simp; omega) | (simp; done)) _ | refine Below.drew ?_)) h1
  obtain ⟨k1_0, kc, kf⟩ := keepB h1 (w.heap.size) (by first | omega | (simp; omega) | (simp; done))
  have c1_0_0 : v1.cell? ⟨w.heap.size, 0, none⟩ = some (.slice s.up.a s.up.n s.up.c) := (kc 0).trans (by simp [go_sem, *])
  have f1_0_0 : v1.frozen? ⟨w.heap.size, 0, none⟩ = false := (kf 0).trans (by simp [go_sem, *])
  have c1_0_1 : v1.cell? ⟨w.heap.size, 1, none⟩ = some (.int .i64 s.moment) := (kc 1).trans (by simp [go_sem, *])
  have f1_0_1 : v1.frozen? ⟨w.heap.size, 1, none⟩ = false := (kf 1).trans (by simp [go_sem, *])
  have c1_0_2 : v1.cell? ⟨w.heap.size, 2, none⟩ = some (.int .i64 s.clock) := (kc 2).trans (by simp [go_sem, *])
  have f1_0_2 : v1.frozen? ⟨w.heap.size, 2, none⟩ = false := (kf 2).trans (by simp [go_sem, *])
  have c1_0_3 : v1.cell? ⟨w.heap.size, 3, none⟩ = some (.int .i64 s.seq) := (kc 3).trans (by simp [go_sem, *])
  have f1_0_3 : v1.frozen? ⟨w.heap.size, 3, none⟩ = false := (kf 3).trans (by simp [go_sem, *])
  have c1_0_4 : v1.cell? ⟨w.heap.size, 4, none⟩ = some (.slice s.actors.a s.actors.n s.actors.c) := (kc 4).trans (by simp [go_sem, *])
  have f1_0_4 : v1.frozen? ⟨w.heap.size, 4, none⟩ = false := (kf 4).trans (by simp [go_sem, *])
  have c1_0_5 : v1.cell? ⟨w.heap.size, 5, none⟩ = some (.slice s.flights.a s.flights.n s.flights.c) := (kc 5).trans (by simp [go_sem, *])
  have f1_0_5 : v1.frozen? ⟨w.heap.size, 5, none⟩ = false := (kf 5).trans (by simp [go_sem, *])
  have c1_0_6 : v1.cell? ⟨w.heap.size, 6, none⟩ = some (.slice s.alarms.a s.alarms.n s.alarms.c) := (kc 6).trans (by simp [go_sem, *])
  have f1_0_6 : v1.frozen? ⟨w.heap.size, 6, none⟩ = false := (kf 6).trans (by simp [go_sem, *])
  have c1_0_7 : v1.cell? ⟨w.heap.size, 7, none⟩ = some (.slice s.asked.a s.asked.n s.asked.c) := (kc 7).trans (by simp [go_sem, *])
  have f1_0_7 : v1.frozen? ⟨w.heap.size, 7, none⟩ = false := (kf 7).trans (by simp [go_sem, *])
  have c1_0_8 : v1.cell? ⟨w.heap.size, 8, none⟩ = some (.int .i64 s.dead) := (kc 8).trans (by simp [go_sem, *])
  have f1_0_8 : v1.frozen? ⟨w.heap.size, 8, none⟩ = false := (kf 8).trans (by simp [go_sem, *])
  clear kc kf
  go_wp2_with fail
  refine (few_any s ls _ ((hac.below (by repeat (first | (with_reducible exact Below.refl _ _) | (with_reducible assumption) | refine Below.setCell ?_ (by first | omega | (simp; omega) | (simp; done)) _ | refine Below.alloc ?_ (by first | omega | (simp; omega) | (simp; done)) _ | refine Below.drew ?_)) (Nat.le_refl _)).more (by omega))).mono ?_
  rintro e v2 ⟨x, rfl, hx, h2⟩
  have z2 := h2.size
  try simp at z2
  have hB2 : Below w.heap.size w v2 := Below.call (w := w) (by repeat (first | (with_reducible exact Below.refl _ _) | (with_reducible assumption) | refine Below.setCell ?_ (by first | omega | (simp; omega) | (simp; done)) _ | refine Below.alloc ?_ (by first | omega | (simp; omega) | (simp; done)) _ | refine Below.drew ?_)) h2
  obtain ⟨k2_0, kc, kf⟩ := keepB h2 (w.heap.size) (by first | omega | (simp; omega) | (simp; done))
  have c2_0_0 : v2.cell? ⟨w.heap.size, 0, none⟩ = some (.slice s.up.a s.up.n s.up.c) := (kc 0).trans (by simp [go_sem, *])
  have f2_0_0 : v2.frozen? ⟨w.heap.size, 0, none⟩ = false := (kf 0).trans (by simp [go_sem, *])
  have c2_0_1 : v2.cell? ⟨w.heap.size, 1, none⟩ = some (.int .i64 s.moment) := (kc 1).trans (by simp [go_sem, *])
  have f2_0_1 : v2.frozen? ⟨w.heap.size, 1, none⟩ = false := (kf 1).trans (by simp [go_sem, *])
  have c2_0_2 : v2.cell? ⟨w.heap.size, 2, none⟩ = some (.int .i64 s.clock) := (kc 2).trans (by simp [go_sem, *])
  have f2_0_2 : v2.frozen? ⟨w.heap.size, 2, none⟩ = false := (kf 2).trans (by simp [go_sem, *])
  have c2_0_3 : v2.cell? ⟨w.heap.size, 3, none⟩ = some (.int .i64 s.seq) := (kc 3).trans (by simp [go_sem, *])
  have f2_0_3 : v2.frozen? ⟨w.heap.size, 3, none⟩ = false := (kf 3).trans (by simp [go_sem, *])
  have c2_0_4 : v2.cell? ⟨w.heap.size, 4, none⟩ = some (.slice s.actors.a s.actors.n s.actors.c) := (kc 4).trans (by simp [go_sem, *])
  have f2_0_4 : v2.frozen? ⟨w.heap.size, 4, none⟩ = false := (kf 4).trans (by simp [go_sem, *])
  have c2_0_5 : v2.cell? ⟨w.heap.size, 5, none⟩ = some (.slice s.flights.a s.flights.n s.flights.c) := (kc 5).trans (by simp [go_sem, *])
  have f2_0_5 : v2.frozen? ⟨w.heap.size, 5, none⟩ = false := (kf 5).trans (by simp [go_sem, *])
  have c2_0_6 : v2.cell? ⟨w.heap.size, 6, none⟩ = some (.slice s.alarms.a s.alarms.n s.alarms.c) := (kc 6).trans (by simp [go_sem, *])
  have f2_0_6 : v2.frozen? ⟨w.heap.size, 6, none⟩ = false := (kf 6).trans (by simp [go_sem, *])
  have c2_0_7 : v2.cell? ⟨w.heap.size, 7, none⟩ = some (.slice s.asked.a s.asked.n s.asked.c) := (kc 7).trans (by simp [go_sem, *])
  have f2_0_7 : v2.frozen? ⟨w.heap.size, 7, none⟩ = false := (kf 7).trans (by simp [go_sem, *])
  have c2_0_8 : v2.cell? ⟨w.heap.size, 8, none⟩ = some (.int .i64 s.dead) := (kc 8).trans (by simp [go_sem, *])
  have f2_0_8 : v2.frozen? ⟨w.heap.size, 8, none⟩ = false := (kf 8).trans (by simp [go_sem, *])
  clear kc kf
  clear c1_0_0 f1_0_0 c1_0_1 f1_0_1 c1_0_2 f1_0_2 c1_0_3 f1_0_3 c1_0_4 f1_0_4 c1_0_5 f1_0_5 c1_0_6 f1_0_6 c1_0_7 f1_0_7 c1_0_8 f1_0_8
  have hxf : x = false := by
    cases x
    · rfl
    · exact absurd ⟨(hx rfl).1, (hx rfl).2.1⟩ hfew
  subst hxf
  go_wp2_with fail
  go_ret
  exact ⟨rfl, by with_reducible assumption⟩

theorem walk (s : SysC) (ls : List LiveC) (fls : List FlyC) (ups : List Bool) (n : Int) (w : World) (hup : Rd w w.heap.size 1 s.up.a s.up.n (ups.map .bool)) (hac : Rd w w.heap.size 9 s.actors.a s.actors.n (ls.flatMap liveL)) (hfl : Rd w w.heap.size 7 s.flights.a s.flights.n (fls.flatMap flyL)) (hwf : ∀ f ∈ fls, (Lit.int .i64 f.x).wf = true ∧ (Lit.int .i64 f.y).wf = true) (hn1 : -9223372036854775808 ≤ n) (hn2 : n ≤ 9223372036854775807) :
    Calls Try.prog 13 #[sysV s, .int .i64 n] w fun e w' => e = .returned (.bool true) ∧ Below w.heap.size w w' := by
  by_cases hfew : s.actors.n ≤ 100 ∧ s.flights.n ≤ 100
  · exact tells_walk s ls fls ups n w ⟨hup, hac, hfl, by omega, by omega, hwf⟩ hn1 hn2
  · exact few_no s ls n w hac hfew

theorem own : ownKnob Try.prog.godebug = none := by kernel_rfl

set_option maxRecDepth 100000 in
theorem lifted (os : Os) (started : os.Started) (H : Type) (enc : TypeId × Value → H) :
    ReturnsInHanded {} Try.checked os 13 .any (Rows.schedTellsSpec.pre6 enc Try.prog Try.f13 Rows.schedTellsRow.domain false) (Rows.schedTellsSpec.post enc Try.prog Try.f13 false true false false) := by
  refine returnsInHanded_of_change (C := Try.checked) own started (by kernel_rfl) Try.func13
    (ChangeSpec.witness6 (enc := enc) (C := Try.checked) false ⟨#[], #[.agg #[.slice none 0 0, .int .i64 0, .int .i64 0, .int .i64 0, .slice none 0 0, .slice none 0 0, .slice none 0 0, .slice none 0 0, .int .i64 0], .int .i64 0], []⟩ 8 (by kernel_rfl) (by kernel_rfl) (by kernel_rfl) (by kernel_rfl)) ?_
  intro W base args ds gs before hval0 hW hcnd _
  have hval : ∀ (j : Nat) t v, Try.f13.params[j]? = some t → args[j]? = some v → Value.okWide Try.prog W .any base t v := hval0
  have hW' := hW
  obtain ⟨p, q, hA0, hV, rfl, hfz, hnd⟩ := hW
  have hA : DataW.TrodAll enc Try.prog W 0 (fun _ => true) true Try.f13.params.toList args.toList ds p := hA0
  rw [Try.params13] at hA hval
  obtain ⟨v0, v1, d0, d1, p0, p1, rfl, rfl, rfl, h0, h1⟩ := trodAll_two hA
  obtain ⟨rfl, rfl⟩ := trodVars_none hV
  have hlt : ∀ x ∈ (p0 ++ p1), x.block < W.heap.size := fun x hx => by simpa using hW'.lt x (by simpa using hx)
  have hargs := fun (W' : World) (hn : Below W.heap.size W W') => args_back laidOut hn _ _ _ _ (by kernel_rfl) hA hlt
  obtain ⟨s, ls, fls, ups, rfl, hup, hac, hfl, hwf⟩ := open_sys (hval 0 28 v0 rfl rfl) h0
  obtain ⟨n, rfl, rfl, rfl, wn⟩ := open_int Try.underlying3 (hval 1 3 v1 rfl rfl) h1
  clear hA0 hval0
  simp only [List.append_nil] at hW'
  have hwn : -9223372036854775808 ≤ n ∧ n ≤ 9223372036854775807 := by
    have hm : IntKind.i64.min = -9223372036854775808 := by decide
    have h := wn
    simp [Lit.wf] at h
    rw [hm] at h
    exact h
  refine (walk s ls fls ups n W hup hac hfl hwf hwn.1 hwn.2).mono fun e W' ⟨he, hnx⟩ => ?_
  subst he
  refine ⟨_, rfl, _, _, _, [], _, [], hW', ?_, hargs W' hnx, rfl, hnx.frame _, fun h => by cases h⟩
  exact trodAll_mk1 (shut_bool Try.underlying4 _)

theorem proved : Rows.SchedTellsSaid :=
  OpenClaim.holds_of_wide 13 Try.f13 rfl rfl rfl rfl rfl rfl rfl ⟨rfl, rfl, rfl, rfl, rfl⟩ rfl rfl rfl rfl rfl (by kernel_rfl) Try.func13 (by kernel_rfl)
    (of_decide_eq_true (by kernel_rfl)) (by unfold Func.isWrapper; rw [if_neg (by decide +kernel)]; exact ⟨rfl, rfl⟩)
    (fun os started H enc _ => lifted os started H enc)

#print axioms proved
end Go.Proofs.Ytjdjfjokniingaa.schedTells
