/- The contract of the reference's With. -/
import Derived.Test.YtjdjfjokniingaaXa
import Derived.Test.YtjdjfjokniingaaRb
namespace Go.Proofs.Ytjdjfjokniingaa
open Go.RowKit

/-- an actor stored into a row -/
abbrev putLive (W : World) (g k : Nat) (a : LiveC) : World := (((((((((W.setCell ⟨g, k, none⟩ (.string a.path)).setCell ⟨g, k + 1, none⟩ (.string a.type)).setCell ⟨g, k + 2, none⟩ (.int .i64 a.node)).setCell ⟨g, k + 3, none⟩ (.slice a.init.a a.init.n a.init.c)).setCell ⟨g, k + 4, none⟩ (.slice a.vars.a a.vars.n a.vars.c)).setCell ⟨g, k + 5, none⟩ (.int .i64 a.kids)).setCell ⟨g, k + 6, none⟩ (.int .i64 a.rest)).setCell ⟨g, k + 7, none⟩ (.bool a.stopped)).setCell ⟨g, k + 8, none⟩ (.slice a.mail.a a.mail.n a.mail.c))
theorem putLive_off (W : World) (g k : Nat) (a : LiveC) : Off g W (putLive W g k a) := ((((((((((Off.refl g W).set _ _).set _ _).set _ _).set _ _).set _ _).set _ _).set _ _).set _ _).set _ _)
theorem putLive_other {W : World} {g k B : Nat} {a : LiveC} {vs : List Value} (h : BoxAt W B vs) (hn : g ≠ B) : BoxAt (putLive W g k a) B vs :=
  ((((((((h.setOther _ _ hn).setOther _ _ hn).setOther _ _ hn).setOther _ _ hn).setOther _ _ hn).setOther _ _ hn).setOther _ _ hn).setOther _ _ hn).setOther _ _ hn
theorem putLive_below {W w : World} {g k C : Nat} {a : LiveC} (h : Below C w W) (hX : C ≤ g) : Below C w (putLive W g k a) :=
  ((((((((h.setCell hX _).setCell hX _).setCell hX _).setCell hX _).setCell hX _).setCell hX _).setCell hX _).setCell hX _).setCell hX _
theorem own_put1 {w : World} {base n c g i : Nat} {ls : List LiveC} {r r' : LiveC} (j : Nat) (v : Value) (h : w.ownsRow base 76 9 (.slice (some ⟨g, 0, none⟩) n c) n ((ls.set i r).flatMap liveL)) (hi : i < ls.length) (hj : j < 9) (he : liveL r' = (liveL r).set j v) :
    (w.setCell ⟨g, i * 9 + j, none⟩ v).ownsRow base 76 9 (.slice (some ⟨g, 0, none⟩) n c) n ((ls.set i r').flatMap liveL) := by
  have := own_store (i := i) (j := j) (v := v) h (fun _ => rfl) hj (r := r) (List.getElem?_set_self hi) r' he
  rwa [List.set_set] at this
theorem own_put {w : World} {base n c g i : Nat} {ls : List LiveC} (a : LiveC) (h : w.ownsRow base 76 9 (.slice (some ⟨g, 0, none⟩) n c) n (ls.flatMap liveL)) (hi : i < ls.length) :
    (putLive w g (i * 9) a).ownsRow base 76 9 (.slice (some ⟨g, 0, none⟩) n c) n ((ls.set i a).flatMap liveL) := by
  obtain ⟨r, hr⟩ : ∃ r, ls[i]? = some r := ⟨_, List.getElem?_eq_getElem hi⟩
  have h0 : w.ownsRow base 76 9 (.slice (some ⟨g, 0, none⟩) n c) n ((ls.set i r).flatMap liveL) := by
    have e : ls.set i r = ls := by
      obtain ⟨_, rfl⟩ := List.getElem?_eq_some_iff.1 hr
      simp
    rw [e]; exact h
  have h1 := own_put1 (r' := ⟨a.path, r.type, r.node, r.init, r.vars, r.kids, r.rest, r.stopped, r.mail⟩) 0 (.string a.path) h0 hi (by omega) rfl
  have h2 := own_put1 (r' := ⟨a.path, a.type, r.node, r.init, r.vars, r.kids, r.rest, r.stopped, r.mail⟩) 1 (.string a.type) h1 hi (by omega) rfl
  have h3 := own_put1 (r' := ⟨a.path, a.type, a.node, r.init, r.vars, r.kids, r.rest, r.stopped, r.mail⟩) 2 (.int .i64 a.node) h2 hi (by omega) rfl
  have h4 := own_put1 (r' := ⟨a.path, a.type, a.node, a.init, r.vars, r.kids, r.rest, r.stopped, r.mail⟩) 3 (.slice a.init.a a.init.n a.init.c) h3 hi (by omega) rfl
  have h5 := own_put1 (r' := ⟨a.path, a.type, a.node, a.init, a.vars, r.kids, r.rest, r.stopped, r.mail⟩) 4 (.slice a.vars.a a.vars.n a.vars.c) h4 hi (by omega) rfl
  have h6 := own_put1 (r' := ⟨a.path, a.type, a.node, a.init, a.vars, a.kids, r.rest, r.stopped, r.mail⟩) 5 (.int .i64 a.kids) h5 hi (by omega) rfl
  have h7 := own_put1 (r' := ⟨a.path, a.type, a.node, a.init, a.vars, a.kids, a.rest, r.stopped, r.mail⟩) 6 (.int .i64 a.rest) h6 hi (by omega) rfl
  have h8 := own_put1 (r' := ⟨a.path, a.type, a.node, a.init, a.vars, a.kids, a.rest, a.stopped, r.mail⟩) 7 (.bool a.stopped) h7 hi (by omega) rfl
  have h9 := own_put1 (r' := ⟨a.path, a.type, a.node, a.init, a.vars, a.kids, a.rest, a.stopped, a.mail⟩) 8 (.slice a.mail.a a.mail.n a.mail.c) h8 hi (by omega) rfl
  exact h9

theorem live_cells {W : World} {B : Nat} {a : LiveC} (h : BoxAt W B (liveL a)) : W.cell? ⟨B, 0, none⟩ = some (.string a.path) ∧ W.cell? ⟨B, 1, none⟩ = some (.string a.type) ∧ W.cell? ⟨B, 2, none⟩ = some (.int .i64 a.node) ∧ W.cell? ⟨B, 3, none⟩ = some (.slice a.init.a a.init.n a.init.c) ∧ W.cell? ⟨B, 4, none⟩ = some (.slice a.vars.a a.vars.n a.vars.c) ∧ W.cell? ⟨B, 5, none⟩ = some (.int .i64 a.kids) ∧ W.cell? ⟨B, 6, none⟩ = some (.int .i64 a.rest) ∧ W.cell? ⟨B, 7, none⟩ = some (.bool a.stopped) ∧ W.cell? ⟨B, 8, none⟩ = some (.slice a.mail.a a.mail.n a.mail.c) :=
  ⟨h.2.1 0 _ rfl, h.2.1 1 _ rfl, h.2.1 2 _ rfl, h.2.1 3 _ rfl, h.2.1 4 _ rfl, h.2.1 5 _ rfl, h.2.1 6 _ rfl, h.2.1 7 _ rfl, h.2.1 8 _ rfl⟩
abbrev sysZ : SysC := ⟨⟨none, 0, 0⟩, 0, 0, 0, ⟨none, 0, 0⟩, ⟨none, 0, 0⟩, ⟨none, 0, 0⟩, ⟨none, 0, 0⟩, 0⟩
theorem BoxAt.kept_row {w w' : World} {b B T k n : Nat} {vs xs : List Value} {v : Value} (h : BoxAt w b vs) (ho : w.ownsRow B T k v n xs) (hb : b < B) (hg : w.grownBy w' v.ownBlock) : BoxAt w' b vs := h.kept hg (fun e => own_ne ho hb e.symm)
theorem row_low {w : World} {b B k n : Nat} {T : TypeId} {v : Value} {xs : List Value} (h : w.ownsRow B T k v n xs) (hb : b ≤ B) : w.ownsRow b T k v n xs :=
  ⟨h.1, h.2.imp (fun x => x) (fun ⟨g, cap, cur, h1, h2, h3⟩ => ⟨g, cap, cur, h1, Nat.le_trans hb h2, h3⟩)⟩
theorem own_off_row {W : World} {base T k n X : Nat} {v : Value} {xs : List Value} {s : SysC} (h : W.ownsRow base T k v n xs) (hb : X < base) : (putSys W X s).ownsRow base T k v n xs :=
  by
  have h0 := own_set_other h ⟨X, 0, none⟩ (.slice s.up.a s.up.n s.up.c) (own_ne (R := X) h hb)
  have h1 := own_set_other h0 ⟨X, 1, none⟩ (.int .i64 s.moment) (own_ne (R := X) h0 hb)
  have h2 := own_set_other h1 ⟨X, 2, none⟩ (.int .i64 s.clock) (own_ne (R := X) h1 hb)
  have h3 := own_set_other h2 ⟨X, 3, none⟩ (.int .i64 s.seq) (own_ne (R := X) h2 hb)
  have h4 := own_set_other h3 ⟨X, 4, none⟩ (.slice s.actors.a s.actors.n s.actors.c) (own_ne (R := X) h3 hb)
  have h5 := own_set_other h4 ⟨X, 5, none⟩ (.slice s.flights.a s.flights.n s.flights.c) (own_ne (R := X) h4 hb)
  have h6 := own_set_other h5 ⟨X, 6, none⟩ (.slice s.alarms.a s.alarms.n s.alarms.c) (own_ne (R := X) h5 hb)
  have h7 := own_set_other h6 ⟨X, 7, none⟩ (.slice s.asked.a s.asked.n s.asked.c) (own_ne (R := X) h6 hb)
  have h8 := own_set_other h7 ⟨X, 8, none⟩ (.int .i64 s.dead) (own_ne (R := X) h7 hb)
  exact h8
/-- a state is handed back whose actors' row lies in new memory -/
def WithPost (s : SysC) (ls : List LiveC) (w : World) (e : Ending) (w' : World) : Prop :=
  ∃ u : Sl, e = .returned (sysV { s with actors := ⟨u.a, s.actors.n, u.c⟩ }) ∧ w'.ownsRow w.heap.size 76 9 (.slice u.a s.actors.n u.c) s.actors.n (ls.flatMap liveL) ∧ Below w.heap.size w w'

set_option linter.unusedSimpArgs false in
set_option linter.unusedVariables false in
set_option maxRecDepth 100000 in
set_option maxHeartbeats 3200000 in
theorem with78 (s : SysC) (ls : List LiveC) (i : Nat) (a : LiveC) (w : World) (h : Rd w w.heap.size 9 s.actors.a s.actors.n (ls.flatMap liveL)) (hn : s.actors.n ≤ 1000000) (hi : i < s.actors.n) :
    Calls Try.prog 78 #[sysV s, .int .i64 (i : Int), liveV a] w (WithPost s (ls.set i a) w) := by
  have HMW := Lib.hid h
  have HIL : Hid (i < ls.length) := Lib.hid (by rw [h.len (fun _ => rfl) (by omega)]; exact hi)
  clear h
  obtain ⟨i7, hi7, hz70, hz71, hz72⟩ := info_parts info76
  have BS0 : Hid (BoxAt (((w.alloc (.cells (sysL s).toArray 28)).alloc (.cells (liveL a).toArray 76)).alloc (.cells (sysL sysZ).toArray 28)) w.heap.size (sysL s)) := Lib.hid (((BoxAt.new w 28 (sysL s) _ rfl).alloc _).alloc _)
  have BA0 : Hid (BoxAt (((w.alloc (.cells (sysL s).toArray 28)).alloc (.cells (liveL a).toArray 76)).alloc (.cells (sysL sysZ).toArray 28)) (w.heap.size + 1) (liveL a)) := Lib.hid ((BoxAt.new _ 76 (liveL a) _ (by simp)).alloc _)
  have BZ0 : Hid (BoxAt (((w.alloc (.cells (sysL s).toArray 28)).alloc (.cells (liveL a).toArray 76)).alloc (.cells (sysL sysZ).toArray 28)) (w.heap.size + 1 + 1) (sysL sysZ)) := Lib.hid (BoxAt.new _ 28 (sysL sysZ) _ (by simp))
  have B0 : Hid (Below w.heap.size w (((w.alloc (.cells (sysL s).toArray 28)).alloc (.cells (liveL a).toArray 76)).alloc (.cells (sysL sysZ).toArray 28))) := Lib.hid (by repeat (first | (with_reducible exact Below.refl _ _) | (with_reducible assumption) | ((with_reducible refine Below.setCell ?_ ?_ _); rotate_left; (focus (first | omega | (simp; omega) | (simp; done)))) | ((with_reducible refine Below.alloc ?_ ?_ _); rotate_left; (focus (first | omega | (simp; omega) | (simp; done)))) | (with_reducible refine Below.drew ?_)))
  obtain ⟨v0, hv0⟩ : ∃ W, W = (((w.alloc (.cells (sysL s).toArray 28)).alloc (.cells (liveL a).toArray 76)).alloc (.cells (sysL sysZ).toArray 28)) := ⟨_, rfl⟩
  have hz0 : v0.heap.size = w.heap.size + 1 + 1 + 1 := by rw [hv0]; simp
  rw [← hv0] at BS0 BA0 BZ0 B0
  go_enter Try.func78, Try.ntmps78
  go_wp2_with (at_builtin; refine wpList_append_lit _ 76 rfl (.tmp 7) (.tmp 9) 23 rfl i7 _ 9 136 Try.underlying23 hi7 hz70 hz71 hz72 rfl (by decide) _ rfl (by simp) _ _ _ _ (ls.flatMap liveL) rfl ((HMW.out.up B0.out).up (by rw [hv0]; exact Below.refl _ _)) (Nat.le_refl _) (live_one _) (by omega) (by omega) ?_; intro u v1 hr3 ho3 h3; have HO3 : Hid (v1.ownsRow v0.heap.size 76 9 (.slice u.a s.actors.n u.c) s.actors.n (ls.flatMap liveL)) := Lib.hid (by rw [hv0]; exact ho3); have H3 : Hid (Below v0.heap.size v0 v1) := Lib.hid (by rw [hv0]; exact h3); clear ho3 hr3 h3; have hz3 := H3.out.size; have BS1 := Lib.hid (BS0.out.call H3.out); have BA1 := Lib.hid (BA0.out.call H3.out); have BZ1 := Lib.hid (BZ0.out.call H3.out); obtain ⟨g, r, hA, hg1, hg2, _, hc, hfz⟩ := own_at HO3.out (fun _ => rfl) (by omega) hi; obtain ⟨c0, c1, c2, c3, c4, c5, c6, c7, c8⟩ := sbox_cells BS1.out; obtain ⟨f0, f1, f2, f3, f4, f5, f6, f7, f8⟩ := sbox_free BS1.out; obtain ⟨a0, a1, a2, a3, a4, a5, a6, a7, a8⟩ := live_cells BA1.out; obtain ⟨z0, z1, z2, z3, z4, z5, z6, z7, z8⟩ := sbox_cells BZ1.out; obtain ⟨y0, y1, y2, y3, y4, y5, y6, y7, y8⟩ := sbox_free BZ1.out; have x0 : v1.cell? ⟨g, i * 9, none⟩ = some (.string r.path) := hc 0 _ rfl; have g10 : v1.frozen? ⟨g, i * 9, none⟩ = false := hfz _; have x1 : v1.cell? ⟨g, i * 9 + 1, none⟩ = some (.string r.type) := hc 1 _ rfl; have g11 : v1.frozen? ⟨g, i * 9 + 1, none⟩ = false := hfz _; have x2 : v1.cell? ⟨g, i * 9 + 2, none⟩ = some (.int .i64 r.node) := hc 2 _ rfl; have g12 : v1.frozen? ⟨g, i * 9 + 2, none⟩ = false := hfz _; have x3 : v1.cell? ⟨g, i * 9 + 3, none⟩ = some (.slice r.init.a r.init.n r.init.c) := hc 3 _ rfl; have g13 : v1.frozen? ⟨g, i * 9 + 3, none⟩ = false := hfz _; have x4 : v1.cell? ⟨g, i * 9 + 4, none⟩ = some (.slice r.vars.a r.vars.n r.vars.c) := hc 4 _ rfl; have g14 : v1.frozen? ⟨g, i * 9 + 4, none⟩ = false := hfz _; have x5 : v1.cell? ⟨g, i * 9 + 5, none⟩ = some (.int .i64 r.kids) := hc 5 _ rfl; have g15 : v1.frozen? ⟨g, i * 9 + 5, none⟩ = false := hfz _; have x6 : v1.cell? ⟨g, i * 9 + 6, none⟩ = some (.int .i64 r.rest) := hc 6 _ rfl; have g16 : v1.frozen? ⟨g, i * 9 + 6, none⟩ = false := hfz _; have x7 : v1.cell? ⟨g, i * 9 + 7, none⟩ = some (.bool r.stopped) := hc 7 _ rfl; have g17 : v1.frozen? ⟨g, i * 9 + 7, none⟩ = false := hfz _; have x8 : v1.cell? ⟨g, i * 9 + 8, none⟩ = some (.slice r.mail.a r.mail.n r.mail.c) := hc 8 _ rfl; have g18 : v1.frozen? ⟨g, i * 9 + 8, none⟩ = false := hfz _; have hix : ∀ W : World, Sem.run Try.prog (Instr.indexAt 23 (.slice u.a s.actors.n u.c) (.int .i64 (i : Int))) W = .ok (.pointer (some ⟨g, i * 9, none⟩)) W := (by intro W; rw [hA]; go_simp); have HA := Lib.hid hA; clear hA hc hfz; have n0 : ¬ g = w.heap.size := (by omega); have n1 : ¬ g = w.heap.size + 1 := (by omega); have n2 : ¬ g = w.heap.size + 1 + 1 := (by omega))
  clear hv0
  obtain ⟨Wf, hWf⟩ : ∃ W, W = putSys (putLive (v1.setCell ⟨w.heap.size, 4, none⟩ (.slice u.a s.actors.n u.c)) g (i * 9) a) (w.heap.size + 1 + 1) { s with actors := ⟨u.a, s.actors.n, u.c⟩ } := ⟨_, rfl⟩
  have hBf : Below w.heap.size w Wf := by rw [hWf]; exact putSys_below (putLive_below ((Below.call B0.out H3.out).setCell (Nat.le_refl _) _) (by omega)) (by omega)
  have hO : Wf.ownsRow v0.heap.size 76 9 (.slice u.a s.actors.n u.c) s.actors.n ((ls.set i a).flatMap liveL) := by
    have ho := own_set_other HO3.out ⟨w.heap.size, 4, none⟩ (.slice u.a s.actors.n u.c) (own_ne (R := w.heap.size) HO3.out (by omega))
    rw [HA.out] at ho
    have h2 := own_put (i := i) a ho HIL.out
    rw [← HA.out] at h2
    rw [hWf]
    exact own_off_row h2 (by omega)
  refine bodyPost_ret (v := sysV { s with actors := ⟨u.a, s.actors.n, u.c⟩ }) ?_ rfl ?_
  · simp [results, Try.results78, go_sem, *]
  · rw [hWf] at hO hBf; exact ⟨u, rfl, row_low hO (by omega), hBf⟩
end Go.Proofs.Ytjdjfjokniingaa
