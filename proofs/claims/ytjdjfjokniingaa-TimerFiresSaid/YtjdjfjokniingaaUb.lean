/- Arguments of the timer's statements, opened to all their depth with the reach of their rows. -/
import Derived.Test.YtjdjfjokniingaaUa
namespace Go.Proofs.Ytjdjfjokniingaa
open Go.RowKit Go.ChangeShapes Go.WideShapes Go.Deep

section
variable {H : Type} {enc : TypeId × Value → H} {w : World} {base : Nat} {spare : Nat → Bool} {held : Bool}
/-- a slice of records, opened, with its reach; the elements' readings take less fuel -/
theorem open_rows_zn {α : Type} [Inhabited α] {t e : TypeId} {fuel : Nat} {v : Value} {x : DataW H × List MemPlace} (N : Nat) (en : α → List Value) (k : Nat) (hk : ∀ x, (en x).length = k) (h0 : 0 < k) (Q : α → Prop) (ht : Try.prog.underlying t = some (.slice e)) (hC : Try.prog.cellsOf e = k)
    (hel : ∀ (n : Nat) (cs : List Value) (y : DataW H × List MemPlace), fuel = n + 1 → DataW.trod enc Try.prog w base spare held n e cs = some y → (∀ z ∈ y.1.weights Try.prog e, z ≤ N) → ∃ r, Q r ∧ cs = en r)
    (hz : ∀ z ∈ x.1.weights Try.prog t, z ≤ N)
    (h : DataW.trod enc Try.prog w base spare held fuel t [v] = some x) : ∃ (s : Sl) (rs : List α), v = .slice s.a s.n s.c ∧ (∀ r ∈ rs, Q r) ∧ rs.length = s.n ∧ Rd w w.heap.size k s.a s.n (rs.flatMap en) ∧ s.n ≤ s.c ∧ s.n * Try.prog.bytesOf e ≤ N := by
  rcases DataW.trod_slice ht h with ⟨h0', _⟩ | ⟨a, len, cap, elems, rest, n, hfu, hcs, hx, hb, hl, hm, hlen, hi, _, _⟩
  · injection h0' with h1 _
    exact ⟨⟨none, 0, 0⟩, [], h1, by simp, rfl, Rd.none_, Nat.zero_le _, by simp⟩
  · injection hcs with h1 _
    have hlc := hl
    rw [hx] at hz
    simp only [DataW.weights, ht, List.mem_cons, List.mem_append, List.length_map] at hz
    obtain ⟨rs, hl, hq, hr⟩ := rd_of_elems (w := w) en k hk h0 a len Q (fun i hil => by
      have hi' := hi i hil
      rw [List.getElem?_eq_getElem (by omega), Option.bind_eq_some_iff] at hi'
      obtain ⟨cs', hc, ht'⟩ := hi'
      obtain ⟨r, hq, rfl⟩ := hel _ _ _ hfu ht' (fun z hzz => hz z (.inr (.inl (weights_all (List.mem_map_of_mem (List.getElem_mem _)) z hzz))))
      rw [hC] at hc
      obtain ⟨_, _, hat⟩ := World.cells?_some hc
      refine ⟨r, hq, fun j u hu => ?_⟩
      have hj : j < k := by rw [← hk r]; exact (List.getElem?_eq_some_iff.1 hu).1
      have := hat j hj
      rw [Go.Deep.add_add] at this
      rw [this, hu])
    refine ⟨⟨some a, len, cap⟩, rs, h1, hq, hl, hr, hlc, ?_⟩
    have := hz ((elems.length + rest.length) * Try.prog.bytesOf e) (.inl rfl)
    rw [hlen] at this
    exact Nat.le_trans (Nat.mul_le_mul_right _ (Nat.le_add_right len _)) this
theorem byte126 : Try.prog.bytesOf 126 = 80 := by kernel_rfl
/-- what memory can hold -/
abbrev N0 : Nat := 140737488355328

set_option maxRecDepth 100000 in
theorem open_vals_z : ∀ (fuel : Nat) (v : Value) (x : DataW H × List MemPlace), (∀ z ∈ x.1.weights Try.prog 32, z ≤ N0) → DataW.trod enc Try.prog w base spare held fuel 32 [v] = some x →
    ∃ (u : Sl) (ts : List Tr), v = .slice u.a u.n u.c ∧ ts.length = u.n ∧ RdV w w.heap.size NV fuel ts u.a := by
  intro fuel
  induction fuel using Nat.strongRecOn with
  | _ fuel ih =>
  intro v x hz h
  cases fuel with
  | zero => simp [DataW.trod] at h
  | succ n =>
  haveI : Inhabited (Tr × Sl) := ⟨(.node 0 ⟨#[]⟩ 0 0 ⟨#[]⟩ [], ⟨none, 0, 0⟩)⟩
  obtain ⟨s, rs, h1, h2, h3, h4, _, h6⟩ := open_rows_zn N0 valL 6 (fun _ => rfl) (by omega) (fun p : Tr × Sl => p.2.n = p.1.l.length ∧ RdV w w.heap.size NV n p.1.l p.2.a) Try.underlying32 cells126 (fun n' cs y hn hy hzy => by
    have hn' : n' = n := by omega
    subst hn'
    obtain ⟨xs, m, hfu, hdd, hl, hxl, hf⟩ := DataW.trod_struct Try.underlying126 hy
    rw [cells126] at hl
    have hw : y.1.weights Try.prog 126 = DataW.weightsEach Try.prog [3, 9, 3, 3, 9, 32] (xs.map (·.1)) := by
      rw [hdd, DataW.weights, Try.underlying126]; rfl
    rw [hw] at hzy
    match cs, hl with
    | [c0, c1, c2, c3, c4, c5], _ =>
      have hx : xs.length = 6 := hxl
      obtain ⟨y0, e0⟩ := one_cell (v := c0) cells3 rfl (hf 0 _ rfl) (get_some (by omega))
      obtain ⟨y1, e1⟩ := one_cell (v := c1) cells9 rfl (hf 1 _ rfl) (get_some (by omega))
      obtain ⟨y2, e2⟩ := one_cell (v := c2) cells3 rfl (hf 2 _ rfl) (get_some (by omega))
      obtain ⟨y3, e3⟩ := one_cell (v := c3) cells3 rfl (hf 3 _ rfl) (get_some (by omega))
      obtain ⟨y4, e4⟩ := one_cell (v := c4) cells9 rfl (hf 4 _ rfl) (get_some (by omega))
      obtain ⟨y5, l5, e5⟩ := one_cellz (v := c5) cells32 rfl (hf 5 _ rfl) (get_some (by omega))
      obtain ⟨x0, q0, _, _⟩ := DataW.trod_int Try.underlying3 e0
      obtain ⟨x1, q1, _, _⟩ := DataW.trod_string Try.underlying9 e1
      obtain ⟨x2, q2, _, _⟩ := DataW.trod_int Try.underlying3 e2
      obtain ⟨x3, q3, _, _⟩ := DataW.trod_int Try.underlying3 e3
      obtain ⟨x4, q4, _, _⟩ := DataW.trod_string Try.underlying9 e4
      obtain ⟨u, ts, q5, q6, q7⟩ := ih m (by omega) _ _ (fun z h => hzy z (DataW.weights_mem_each (j := 5) (t := 32) (d := y5.1) rfl (by rw [List.getElem?_map, l5]; rfl) z h)) e5
      simp at q0 q1 q2 q3 q4
      subst q0 q1 q2 q3 q4 q5
      exact ⟨(.node x0 x1 x2 x3 x4 ts, u), ⟨q6.symm, RdV.deep (by omega) q7⟩, rfl⟩) hz h
  rw [byte126] at h6
  refine ⟨s, rs.map (·.1), h1, by simpa using h3, rs, rfl, by rw [h3]; show s.n ≤ 1759218604441; have h6' : s.n * 80 ≤ 140737488355328 := h6; omega, ?_, h2⟩
  rw [h3]
  exact h4
/-- a slice of values reads as trees that memory can hold -/
def VZ (w : World) (u : Sl) : Prop := ∃ ts, VR (fun b => b < w.heap.size) w u ts
theorem open_vz {fuel : Nat} {v : Value} {x : DataW H × List MemPlace} (hz : ∀ z ∈ x.1.weights Try.prog 32, z ≤ N0) (h : DataW.trod enc Try.prog w base spare held fuel 32 [v] = some x) : ∃ u : Sl, v = .slice u.a u.n u.c ∧ VZ w u := by
  obtain ⟨u, ts, h1, h2, h3⟩ := open_vals_z fuel v x hz h
  exact ⟨u, h1, ts, h2, fuel, RdP.of _ _ _ h3⟩

set_option maxRecDepth 100000 in
theorem let_z (n : Nat) (cs : List Value) (y : DataW H × List MemPlace) (h : DataW.trod enc Try.prog w base spare held n 34 cs = some y) (hz : ∀ z ∈ y.1.weights Try.prog 34, z ≤ N0) : ∃ l : LetC, (LetD w l ∧ VZ w l.args) ∧ cs = letL l := by
  obtain ⟨zs, m, _, hdd, hl, hzl, hg⟩ := DataW.trod_struct Try.underlying34 h
  obtain ⟨l, hd, hcs⟩ := let_deep n cs y h
  have hw : y.1.weights Try.prog 34 = DataW.weightsEach Try.prog [9, 9, 32, 3] (zs.map (·.1)) := by
    rw [hdd, DataW.weights, Try.underlying34]; rfl
  rw [hw] at hz
  refine ⟨l, ⟨hd, ?_⟩, hcs⟩
  rw [hcs] at hg
  have hx : zs.length = 4 := hzl
  obtain ⟨z2, l2, g2⟩ := one_cellz (v := .slice l.args.a l.args.n l.args.c) cells32 rfl (hg 2 _ rfl) (get_some (by omega))
  obtain ⟨u, q, hu⟩ := open_vz (fun z h => hz z (DataW.weights_mem_each (j := 2) (t := 32) (d := z2.1) rfl (by rw [List.getElem?_map, l2]; rfl) z h)) g2
  obtain ⟨l0, l1, l2', l3⟩ := l
  obtain ⟨ua, un, uc⟩ := u
  obtain ⟨ta, tn, tc⟩ := l2'
  simp only [Value.slice.injEq] at q
  obtain ⟨rfl, rfl, rfl⟩ := q
  exact hu
/-- an alarm or an operation that memory can hold -/
def FlyZ (w : World) (f : FlyC) : Prop := FlyD w f ∧ VZ w f.l.args
set_option maxRecDepth 100000 in
theorem alarm_z (n : Nat) (cs : List Value) (y : DataW H × List MemPlace) (h : DataW.trod enc Try.prog w base spare held n 47 cs = some y) (hz : ∀ z ∈ y.1.weights Try.prog 47, z ≤ N0) : ∃ f : FlyC, FlyZ w f ∧ cs = flyL f := by
  obtain ⟨xs, m, _, hdd, hl, hxl, hf⟩ := DataW.trod_struct Try.underlying47 h
  obtain ⟨f, hd, hcs⟩ := alarm_deep n cs y h
  have hw : y.1.weights Try.prog 47 = DataW.weightsEach Try.prog [3, 3, 9, 34] (xs.map (·.1)) := by
    rw [hdd, DataW.weights, Try.underlying47]; rfl
  rw [hw] at hz
  refine ⟨f, ⟨hd, ?_⟩, hcs⟩
  rw [hcs] at hf
  have hx : xs.length = 4 := hxl
  obtain ⟨y3, l3⟩ : ∃ y, xs[3]? = some y := get_some (by omega)
  have e3 : DataW.trod enc Try.prog w base spare held m 34 ((List.drop 3 (flyL f)).take (Try.prog.cellsOf 34)) = some y3 := (hf 3 _ rfl).trans l3
  rw [cells34] at e3
  obtain ⟨l, ⟨_, hv⟩, el⟩ := let_z _ _ _ e3 (fun z h => hz z (DataW.weights_mem_each (j := 3) (t := 34) (d := y3.1) rfl (by rw [List.getElem?_map, l3]; rfl) z h))
  obtain ⟨f1, f2, f3, ⟨g0, g1, ⟨ta, tn, tc⟩, g3⟩⟩ := f
  obtain ⟨l0, l1, ⟨ua, un, uc⟩, l4⟩ := l
  simp at el
  obtain ⟨rfl, rfl, ⟨rfl, rfl, rfl⟩, rfl⟩ := el
  exact hv
theorem cells36 : Try.prog.cellsOf 36 = 7 := by kernel_rfl
set_option maxRecDepth 100000 in
theorem act_z (n : Nat) (cs : List Value) (y : DataW H × List MemPlace) (h : DataW.trod enc Try.prog w base spare held n 36 cs = some y) (hz : ∀ z ∈ y.1.weights Try.prog 36, z ≤ N0) : ∃ f : FlyC, FlyZ w f ∧ cs = flyL f := by
  obtain ⟨xs, m, _, hdd, hl, hxl, hf⟩ := DataW.trod_struct Try.underlying36 h
  have hw : y.1.weights Try.prog 36 = DataW.weightsEach Try.prog [3, 3, 9, 34] (xs.map (·.1)) := by
    rw [hdd, DataW.weights, Try.underlying36]; rfl
  rw [hw] at hz
  rw [cells36] at hl
  match cs, hl with
  | [c0, c1, c2, c3, c4, c5, c6], _ =>
    have hx : xs.length = 4 := hxl
    obtain ⟨y0, e0⟩ := one_cell (v := c0) cells3 rfl (hf 0 _ rfl) (get_some (by omega))
    obtain ⟨y1, e1⟩ := one_cell (v := c1) cells3 rfl (hf 1 _ rfl) (get_some (by omega))
    obtain ⟨y2, e2⟩ := one_cell (v := c2) cells9 rfl (hf 2 _ rfl) (get_some (by omega))
    obtain ⟨y3, l3⟩ : ∃ y, xs[3]? = some y := get_some (by omega)
    have e3 : DataW.trod enc Try.prog w base spare held m 34 ((List.drop 3 [c0, c1, c2, c3, c4, c5, c6]).take (Try.prog.cellsOf 34)) = some y3 := (hf 3 _ rfl).trans l3
    rw [cells34] at e3
    obtain ⟨x1, q0, _, w0⟩ := DataW.trod_int Try.underlying3 e0
    obtain ⟨x2, q1, _, w1⟩ := DataW.trod_int Try.underlying3 e1
    obtain ⟨p, q2, _, _⟩ := DataW.trod_string Try.underlying9 e2
    obtain ⟨l, ⟨dl, hv⟩, el⟩ := let_z _ _ _ e3 (fun z h => hz z (DataW.weights_mem_each (j := 3) (t := 34) (d := y3.1) rfl (by rw [List.getElem?_map, l3]; rfl) z h))
    obtain ⟨l0, l1, l2, l3⟩ := l
    simp at q0 q1 q2 el
    obtain ⟨r0, r1, r2, r3⟩ := el
    subst q0 q1 q2 r0 r1 r2 r3
    exact ⟨⟨x1, x2, p, ⟨l0, l1, l2, l3⟩⟩, ⟨⟨wfI w0, wfI w1, dl⟩, hv⟩, rfl⟩

set_option maxRecDepth 100000 in
/-- the alarms of a state, opened with the reach of all that hangs on them -/
theorem open_als_z {s : SysC} {d : DataW H} {p : List MemPlace} (hz : ∀ y ∈ d.weights Try.prog 28, y ≤ N0) (h : DataW.Trod enc Try.prog w base spare held 28 (sysV s) d p) :
    ∃ als : List FlyC, (∀ f ∈ als, FlyZ w f) ∧ Rd w w.heap.size 7 s.alarms.a s.alarms.n (als.flatMap flyL) := by
  obtain ⟨fuel, hf0⟩ := h
  obtain ⟨xs, m, _, hdd, _, hxl, hf⟩ := DataW.trod_struct Try.underlying28 hf0
  have hx : xs.length = 9 := hxl
  simp only [Prod.mk.injEq] at hdd
  have hw : d.weights Try.prog 28 = DataW.weightsEach Try.prog [22, 3, 3, 3, 23, 24, 25, 26, 3] (xs.map (·.1)) := by
    rw [hdd.1, DataW.weights, Try.underlying28]; rfl
  rw [hw] at hz
  obtain ⟨y6, k6, e6⟩ := one_cellz (v := .slice s.alarms.a s.alarms.n s.alarms.c) cells25 rfl (hf 6 _ rfl) (get_some (by omega))
  haveI : Inhabited FlyC := ⟨⟨0, 0, ⟨#[]⟩, ⟨⟨#[]⟩, ⟨#[]⟩, ⟨none, 0, 0⟩, 0⟩⟩⟩
  obtain ⟨s6, als, q6, d6, _, r6, _, _⟩ := open_rows_zn N0 flyL 7 (fun _ => rfl) (by omega) (FlyZ w) Try.underlying25 cells47 (fun n cs y _ h hz => alarm_z n cs y h hz) (fun z h => hz z (DataW.weights_mem_each (j := 6) (t := 25) (d := y6.1) rfl (by rw [List.getElem?_map, k6]; rfl) z h)) e6
  simp only [Value.slice.injEq] at q6
  obtain ⟨e1, e2, _⟩ := q6
  rw [e1, e2]
  exact ⟨als, d6, r6⟩
/-- the operations of the timer's statements, opened -/
theorem open_acts {v : Value} {d : DataW H} {p : List MemPlace} (hz : ∀ y ∈ d.weights Try.prog 29, y ≤ N0) (h : DataW.Trod enc Try.prog w base spare held 29 v d p) (hv : ∃ s : Sl, v = .slice s.a s.n s.c) :
    ∃ (s : Sl) (ops : List FlyC), v = .slice s.a s.n s.c ∧ (∀ o ∈ ops, FlyZ w o) ∧ ops.length = s.n ∧ Rd w w.heap.size 7 s.a s.n (ops.flatMap flyL) ∧ s.n ≤ N0 := by
  obtain ⟨fuel, hf⟩ := h
  haveI : Inhabited FlyC := ⟨⟨0, 0, ⟨#[]⟩, ⟨⟨#[]⟩, ⟨#[]⟩, ⟨none, 0, 0⟩, 0⟩⟩⟩
  obtain ⟨s0, rfl⟩ := hv
  have b36 : 1 ≤ Try.prog.bytesOf 36 := of_decide_eq_true (by kernel_rfl)
  obtain ⟨s, ops, h1, h2, h3, h4, h5, h6⟩ := open_rows_zn N0 flyL 7 (fun _ => rfl) (by omega) (FlyZ w) Try.underlying29 cells36 (fun n cs y _ h hz => act_z n cs y h hz) hz hf
  exact ⟨s, ops, h1, h2, h3, h4, Nat.le_trans (by have := Nat.mul_le_mul_left s.n b36; omega) h6⟩
end
/-- alarms in memory as alarms without -/
theorem als_of {w : World} : ∀ (als : List FlyC), (∀ f ∈ als, FlyZ w f) → ∃ ps : List (FlyC × AT), ps.map (·.1) = als ∧ ∀ p ∈ ps, AlR (fun b => b < w.heap.size) w p.1 p.2
  | [], _ => ⟨[], rfl, by simp⟩
  | f :: als, h => by
    obtain ⟨ps, h1, h2⟩ := als_of als (fun g hg => h g (List.mem_cons_of_mem _ hg))
    obtain ⟨_, ts, hv⟩ := h f List.mem_cons_self
    refine ⟨(f, ⟨f.x, f.y, f.path, f.l.src, f.l.msg, ts, f.l.sent⟩) :: ps, by rw [List.map_cons, h1], fun p hp => ?_⟩
    rcases List.mem_cons.1 hp with rfl | hp
    · exact ⟨rfl, rfl, rfl, rfl, rfl, rfl, hv⟩
    · exact h2 p hp
end Go.Proofs.Ytjdjfjokniingaa
