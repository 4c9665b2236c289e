/- The contract of the reference's comparison of alarms; Same of two states whose alarms read alike. -/
import Derived.Test.YtjdjfjokniingaaUi
namespace Go.Proofs.Ytjdjfjokniingaa
open Go.RowKit

set_option linter.unusedSimpArgs false in
set_option linter.unusedVariables false in
set_option maxRecDepth 100000 in
set_option maxHeartbeats 3200000 in
theorem alarms23_raw (A1 A2 : Option Addr) (n c1 c2 : Nat) (fs1 fs2 : List FlyC) (w : World) (h1 : Rd w w.heap.size 7 A1 n (fs1.flatMap flyL)) (h2 : Rd w w.heap.size 7 A2 n (fs2.flatMap flyL)) (hn : n ≤ 9223372036854775807)
    (hs : ∀ (k : Nat) (x y : FlyC), fs1[k]? = some x → fs2[k]? = some y → FlySame w x y) :
    Calls Try.prog 23 #[.slice A1 n c1, .slice A2 n c2] w fun e w' => e = .returned (.bool true) ∧ Below w.heap.size w w' := by
  have H1 := Lib.hid h1
  have H2 := Lib.hid h2
  have HSS := Lib.hid hs
  clear h1 h2 hs
  go_enter Try.func23, Try.ntmps23
  go_wp2_with fail
  go_loopw [5] (fun i wr => ∃ k : Nat, k ≤ n ∧ i = .int .i64 k ∧ Below w.heap.size w wr) (fun i _ => n - (intOf i).toNat)
  case atStart => exact ⟨0, Nat.zero_le _, rfl, Below.refl _ _⟩
  case round =>
    obtain ⟨k, hk, rfl, hB⟩ := hrel
    have hsz := hB.size
    by_cases hlt : k < n
    · obtain ⟨b1, o1, x, hA, hb1, ex, hc1⟩ := H1.out.at_ (fun _ => rfl) (by omega) hlt
      obtain ⟨b2, o2, y, hC, hb2, ey, hc2⟩ := H2.out.at_ (fun _ => rfl) (by omega) hlt
      have hxy := (HSS.out k x y ex ey).below hB
      obtain ⟨e1, e2, e3, hxy⟩ := hxy
      obtain ⟨q1, q2, q3, l⟩ := x
      obtain ⟨r1, r2, r3, m⟩ := y
      simp only at e1 e2 e3 hxy
      subst e1 e2 e3
      have HXY := Lib.hid hxy
      clear hxy ex ey
      have x0 : wr.cell? ⟨b1, o1 + k * 7, none⟩ = some (.int .i64 q1) := (hB.cell (p := ⟨b1, o1 + k * 7, none⟩) hb1).trans (hc1 0 _ rfl)
      have x1 : wr.cell? ⟨b1, o1 + k * 7 + 1, none⟩ = some (.int .i64 q2) := (hB.cell (p := ⟨b1, o1 + k * 7 + 1, none⟩) hb1).trans (hc1 1 _ rfl)
      have x2 : wr.cell? ⟨b1, o1 + k * 7 + 2, none⟩ = some (.string q3) := (hB.cell (p := ⟨b1, o1 + k * 7 + 2, none⟩) hb1).trans (hc1 2 _ rfl)
      have x3 : wr.cell? ⟨b1, o1 + k * 7 + 3, none⟩ = some (.string l.src) := (hB.cell (p := ⟨b1, o1 + k * 7 + 3, none⟩) hb1).trans (hc1 3 _ rfl)
      have x4 : wr.cell? ⟨b1, o1 + k * 7 + 4, none⟩ = some (.string l.msg) := (hB.cell (p := ⟨b1, o1 + k * 7 + 4, none⟩) hb1).trans (hc1 4 _ rfl)
      have x5 : wr.cell? ⟨b1, o1 + k * 7 + 5, none⟩ = some (.slice l.args.a l.args.n l.args.c) := (hB.cell (p := ⟨b1, o1 + k * 7 + 5, none⟩) hb1).trans (hc1 5 _ rfl)
      have x6 : wr.cell? ⟨b1, o1 + k * 7 + 6, none⟩ = some (.int .i64 l.sent) := (hB.cell (p := ⟨b1, o1 + k * 7 + 6, none⟩) hb1).trans (hc1 6 _ rfl)
      have y0 : wr.cell? ⟨b2, o2 + k * 7, none⟩ = some (.int .i64 q1) := (hB.cell (p := ⟨b2, o2 + k * 7, none⟩) hb2).trans (hc2 0 _ rfl)
      have y1 : wr.cell? ⟨b2, o2 + k * 7 + 1, none⟩ = some (.int .i64 q2) := (hB.cell (p := ⟨b2, o2 + k * 7 + 1, none⟩) hb2).trans (hc2 1 _ rfl)
      have y2 : wr.cell? ⟨b2, o2 + k * 7 + 2, none⟩ = some (.string q3) := (hB.cell (p := ⟨b2, o2 + k * 7 + 2, none⟩) hb2).trans (hc2 2 _ rfl)
      have y3 : wr.cell? ⟨b2, o2 + k * 7 + 3, none⟩ = some (.string m.src) := (hB.cell (p := ⟨b2, o2 + k * 7 + 3, none⟩) hb2).trans (hc2 3 _ rfl)
      have y4 : wr.cell? ⟨b2, o2 + k * 7 + 4, none⟩ = some (.string m.msg) := (hB.cell (p := ⟨b2, o2 + k * 7 + 4, none⟩) hb2).trans (hc2 4 _ rfl)
      have y5 : wr.cell? ⟨b2, o2 + k * 7 + 5, none⟩ = some (.slice m.args.a m.args.n m.args.c) := (hB.cell (p := ⟨b2, o2 + k * 7 + 5, none⟩) hb2).trans (hc2 5 _ rfl)
      have y6 : wr.cell? ⟨b2, o2 + k * 7 + 6, none⟩ = some (.int .i64 m.sent) := (hB.cell (p := ⟨b2, o2 + k * 7 + 6, none⟩) hb2).trans (hc2 6 _ rfl)
      have hixA : ∀ W : World, Sem.run Try.prog (Instr.indexAt 25 (.slice A1 n c1) (.int .i64 (k : Int))) W = .ok (.pointer (some ⟨b1, o1 + k * 7, none⟩)) W := by intro W; rw [hA]; go_simp
      have hixB : ∀ W : World, Sem.run Try.prog (Instr.indexAt 25 (.slice A2 n c2) (.int .i64 (k : Int))) W = .ok (.pointer (some ⟨b2, o2 + k * 7, none⟩)) W := by intro W; rw [hC]; go_simp
      clear hA hC hc1 hc2
      have n1 : b1 < wr.heap.size := by omega
      have n2 : b2 < wr.heap.size := by omega
      have HB := Lib.hid hB
      clear hB
      go_wp2_with fail
      go_region_held3 (fun w' => w'.cell? ⟨b1, o1 + k * 7, none⟩ = some (.int .i64 q1) ∧ w'.cell? ⟨b1, o1 + k * 7 + 1, none⟩ = some (.int .i64 q2) ∧ w'.cell? ⟨b1, o1 + k * 7 + 2, none⟩ = some (.string q3) ∧ w'.cell? ⟨b1, o1 + k * 7 + 3, none⟩ = some (.string l.src) ∧ w'.cell? ⟨b1, o1 + k * 7 + 4, none⟩ = some (.string l.msg) ∧ w'.cell? ⟨b1, o1 + k * 7 + 5, none⟩ = some (.slice l.args.a l.args.n l.args.c) ∧ w'.cell? ⟨b1, o1 + k * 7 + 6, none⟩ = some (.int .i64 l.sent) ∧ w'.cell? ⟨b2, o2 + k * 7, none⟩ = some (.int .i64 q1) ∧ w'.cell? ⟨b2, o2 + k * 7 + 1, none⟩ = some (.int .i64 q2) ∧ w'.cell? ⟨b2, o2 + k * 7 + 2, none⟩ = some (.string q3) ∧ w'.cell? ⟨b2, o2 + k * 7 + 3, none⟩ = some (.string m.src) ∧ w'.cell? ⟨b2, o2 + k * 7 + 4, none⟩ = some (.string m.msg) ∧ w'.cell? ⟨b2, o2 + k * 7 + 5, none⟩ = some (.slice m.args.a m.args.n m.args.c) ∧ w'.cell? ⟨b2, o2 + k * 7 + 6, none⟩ = some (.int .i64 m.sent)) (simp [go_sem, *])
        (first | (go_at_call 39; refine (sameLetter_true l m _ (HXY.out.below (Below.refl _ _).drew)).mono ?_; rintro e w1 ⟨rfl, h1⟩; have hz1 := h1.size; simp at hz1; have HH1 : Hid (Below w.heap.size w w1) := Lib.hid (Below.call (w := w) (HB.out.drew) h1); obtain ⟨k1, k2, k3⟩ := keepB h1 b1 (by simp; omega); obtain ⟨m1, m2, m3⟩ := keepB h1 b2 (by simp; omega)))
      go_wp2_with fail
      go_quiet (fail)
      go_wp2_with fail
      go_roundw
      case rel => exact ⟨k + 1, by omega, by go_num, below_drewN HH1.out nq⟩
      case measure => simp [intOf]; omega
    · go_wp2_with fail
      go_ret
      exact ⟨rfl, hB⟩
theorem alsR_same {P Q : Nat → Prop} {w : World} {u v : Sl} {ats : List AT} (h1 : Als P w u ats) (h2 : Als Q w v ats) : ∃ ps ps' : List (FlyC × AT), AlsR P w u ps ∧ AlsR Q w v ps' ∧ (∀ (k : Nat) (x y : FlyC), (ps.map (·.1))[k]? = some x → (ps'.map (·.1))[k]? = some y → FlySame w x y) := by
  obtain ⟨ps, g1, e1⟩ := h1
  obtain ⟨ps', g2, e2⟩ := h2
  refine ⟨ps, ps', g1, g2, fun k x y hx hy => ?_⟩
  rw [List.getElem?_map] at hx hy
  obtain ⟨p, hp, rfl⟩ := Option.map_eq_some_iff.1 hx
  obtain ⟨q, hq, rfl⟩ := Option.map_eq_some_iff.1 hy
  have e : p.2 = q.2 := by
    have a1 : ats[k]? = some p.2 := by rw [← e1, List.getElem?_map, hp]; rfl
    have a2 : ats[k]? = some q.2 := by rw [← e2, List.getElem?_map, hq]; rfl
    rw [a1] at a2
    injection a2
  have r1 := g1.al p (List.mem_of_getElem? hp)
  rw [e] at r1
  exact r1.same (g2.al q (List.mem_of_getElem? hq))
theorem alarms23 {P Q : Nat → Prop} (u v : Sl) (ats : List AT) (w : World) (h1 : Als P w u ats) (h2 : Als Q w v ats) (hn : u.n ≤ 9223372036854775807) :
    Calls Try.prog 23 #[.slice u.a u.n u.c, .slice v.a v.n v.c] w fun e w' => e = .returned (.bool true) ∧ Below w.heap.size w w' := by
  have e : u.n = v.n := by rw [← h1.len, ← h2.len]
  obtain ⟨ps, ps', g1, g2, hs⟩ := alsR_same h1 h2
  have r2 := g2.rd
  rw [← e] at r2 ⊢
  exact alarms23_raw u.a v.a u.n u.c v.c _ _ w g1.rd r2 hn hs

/-- what does not change in a state: all but the clock, the numbering and the alarms -/
structure Still (w : World) (s : SysC) : Prop where
  up : ∃ ups : List Bool, Rd w w.heap.size 1 s.up.a s.up.n (ups.map .bool)
  ac : ∃ ls : List LiveC, Rd w w.heap.size 9 s.actors.a s.actors.n (ls.flatMap liveL) ∧ ∀ a ∈ ls, LiveD w a
  fl : ∃ fs : List FlyC, Rd w w.heap.size 7 s.flights.a s.flights.n (fs.flatMap flyL) ∧ ∀ a ∈ fs, FlyD w a
  rq : ∃ rs : List ReqC, Rd w w.heap.size 8 s.asked.a s.asked.n (rs.flatMap reqL) ∧ ∀ a ∈ rs, ReqD w a
  nu : s.up.n ≤ 9223372036854775807
  na : s.actors.n ≤ 9223372036854775807
  nf : s.flights.n ≤ 9223372036854775807
  nr : s.asked.n ≤ 9223372036854775807
theorem Still.of {w : World} {s : SysC} {ups : List Bool} {ls : List LiveC} {fls als : List FlyC} {rs : List ReqC} (h : SysD w s ups ls fls als rs) : Still w s :=
  ⟨⟨ups, h.up⟩, ⟨ls, h.ac, h.da⟩, ⟨fls, h.fl, h.df⟩, ⟨rs, h.rq, h.dr⟩, h.nu, h.na, h.nf, h.nr⟩
theorem Still.below {w W : World} {s : SysC} (h : Still w s) (hb : Below w.heap.size w W) : Still W s := by
  obtain ⟨⟨ups, h1⟩, ⟨ls, h2, h3⟩, ⟨fs, h4, h5⟩, ⟨rs, h6, h7⟩, a, b, c, d⟩ := h
  exact ⟨⟨ups, h1.up hb⟩, ⟨ls, h2.up hb, fun a ha => (h3 a ha).below hb⟩, ⟨fs, h4.up hb, fun a ha => (h5 a ha).below hb⟩, ⟨rs, h6.up hb, fun a ha => (h7 a ha).below hb⟩, a, b, c, d⟩
/-- Same of two states that differ in their alarms' memory alone -/
theorem same_still {P Q : Nat → Prop} (s : SysC) (ck sq : Int) (u v : Sl) (ats : List AT) (w : World) (h : Still w s) (h1 : Als P w u ats) (h2 : Als Q w v ats) (hn : u.n ≤ 9223372036854775807) :
    Calls Try.prog 26 #[sysV { s with clock := ck, seq := sq, alarms := u }, sysV { s with clock := ck, seq := sq, alarms := v }] w fun e w' => e = .returned (.bool true) ∧ Below w.heap.size w w' := by
  have e : u.n = v.n := by rw [← h1.len, ← h2.len]
  obtain ⟨ps, ps', g1, g2, hs⟩ := alsR_same h1 h2
  have r2 := g2.rd
  obtain ⟨⟨ups, a1⟩, ⟨ls, a2, a3⟩, ⟨fs, a4, a5⟩, ⟨rs, a6, a7⟩, nu, na, nf, nr⟩ := h
  show Calls Try.prog 26 #[.agg #[.slice s.up.a s.up.n s.up.c, .int .i64 s.moment, .int .i64 ck, .int .i64 sq, .slice s.actors.a s.actors.n s.actors.c, .slice s.flights.a s.flights.n s.flights.c, .slice u.a u.n u.c, .slice s.asked.a s.asked.n s.asked.c, .int .i64 s.dead], .agg #[.slice s.up.a s.up.n s.up.c, .int .i64 s.moment, .int .i64 ck, .int .i64 sq, .slice s.actors.a s.actors.n s.actors.c, .slice s.flights.a s.flights.n s.flights.c, .slice v.a v.n v.c, .slice s.asked.a s.asked.n s.asked.c, .int .i64 s.dead]] w _
  rw [← e] at r2 ⊢
  exact same_raw _ _ _ _ _ _ _ _ _ _ _ _ _ _ _ _ _ _ _ _ _ _ _ _ _ _ _ _ _ ups ls ls fs fs _ _ rs rs w a1 a1 a2 a2 a4 a4 g1.rd r2 a6 a6 nu na nf hn nr (fun k x y hx hy => by
    rw [hx] at hy
    cases hy
    exact (a3 x (List.mem_of_getElem? hx)).self) (fun k x y hx hy => by
    rw [hx] at hy
    cases hy
    exact (a5 x (List.mem_of_getElem? hx)).self) hs (fun k x y hx hy => by
    rw [hx] at hy
    cases hy
    exact (a7 x (List.mem_of_getElem? hx)).self)
end Go.Proofs.Ytjdjfjokniingaa
