/- A state of a system among the arguments, opened to its cells. -/
import Derived.Test.YtjdjfjokniingaaSc
import Derived.Test.YtjdjfjokniingaaAp
import Derived.Lib.SmallJoins
namespace Go.Proofs.Ytjdjfjokniingaa
open Go.RowKit Go.ChangeShapes Go.WideShapes Go.Deep

section
variable {H : Type} {enc : TypeId × Value → H} {w : World} {base : Nat} {spare : Nat → Bool} {held : Bool}

/-- a row whose elements each read as a record -/
theorem rd_of_elems {α : Type} [Inhabited α] (en : α → List Value) (k : Nat) (hk : ∀ x, (en x).length = k) (h0 : 0 < k) (a : Addr) (len : Nat) (Q : α → Prop)
    (h : ∀ i, i < len → ∃ r, Q r ∧ ∀ j u, (en r)[j]? = some u → w.cell? (a.add (i * k + j)) = some u) : ∃ rs : List α, rs.length = len ∧ (∀ r ∈ rs, Q r) ∧ Rd w w.heap.size k (some a) len (rs.flatMap en) := by
  have hf : ∃ f : Nat → α, ∀ i, i < len → Q (f i) ∧ ∀ j u, (en (f i))[j]? = some u → w.cell? (a.add (i * k + j)) = some u := by
    refine ⟨fun i => if hi : i < len then Classical.choose (h i hi) else default, fun i hi => ?_⟩
    simp only [hi, dif_pos]
    exact Classical.choose_spec (h i hi)
  obtain ⟨f, hf⟩ := hf
  refine ⟨(List.range len).map f, by simp, fun r hr => ?_, by rw [flatMap_len en k hk]; simp, fun hn => ?_⟩
  · obtain ⟨i, hi, rfl⟩ := List.mem_map.1 hr
    exact (hf i (List.mem_range.1 hi)).1
  · obtain ⟨b, off, sp⟩ := a
    have hc0 : ∃ u, (en (f 0))[0]? = some u := ⟨_, List.getElem?_eq_getElem (by rw [hk]; exact h0)⟩
    obtain ⟨u0, hu0⟩ := hc0
    have hz := (hf 0 hn).2 0 u0 hu0
    have hz' : w.cell? ⟨b, off, sp⟩ = some u0 := by simpa [Addr.add] using hz
    have hsp : sp = none := by
      cases sp with
      | none => rfl
      | some q => simp [World.cell?] at hz'; split at hz' <;> simp at hz'
    subst hsp
    have hb : b < w.heap.size := by
      rcases Nat.lt_or_ge b w.heap.size with hlt | hge
      · exact hlt
      · simp [World.cell?, Array.getElem?_eq_none hge] at hz'
    refine ⟨b, off, rfl, hb, fun t u hu => ?_⟩
    have ht : t < len * k := by
      have := (List.getElem?_eq_some_iff.1 hu).1
      rw [flatMap_len en k hk] at this
      simpa using this
    rw [flatMap_get en k hk h0 _ t (by simpa using ht)] at hu
    have hi : t / k < len := Nat.div_lt_of_lt_mul (by rw [Nat.mul_comm]; exact ht)
    have e1 : ((List.range len).map f)[t / k]! = f (t / k) := by simp [hi]
    rw [e1] at hu
    have hc := (hf (t / k) hi).2 (t % k) u hu
    have e2 : t / k * k + t % k = t := by rw [Nat.mul_comm]; exact Nat.div_add_mod t k
    rw [e2] at hc
    have e3 : (⟨b, off, none⟩ : Addr).add t = ⟨b, off + t, none⟩ := by unfold Addr.add; split <;> simp_all
    rwa [e3] at hc

theorem open_slice_v {t e : TypeId} {fuel : Nat} {v : Value} {x : DataW H × List MemPlace} (ht : Try.prog.underlying t = some (.slice e)) (h : DataW.trod enc Try.prog w base spare held fuel t [v] = some x) : ∃ s : Sl, v = .slice s.a s.n s.c := by
  rcases open_slice ht h with ⟨h0, _⟩ | ⟨a, len, cap, _, _, _, _, hcs, _⟩
  · injection h0 with h0 _; exact ⟨⟨none, 0, 0⟩, h0⟩
  · injection hcs with h0 _; exact ⟨⟨some a, len, cap⟩, h0⟩

/-- a slice of records, opened -/
theorem open_rows {α : Type} [Inhabited α] {t e : TypeId} {fuel : Nat} {v : Value} {x : DataW H × List MemPlace} (en : α → List Value) (k : Nat) (hk : ∀ x, (en x).length = k) (h0 : 0 < k) (Q : α → Prop) (ht : Try.prog.underlying t = some (.slice e)) (hC : Try.prog.cellsOf e = k)
    (hel : ∀ (n : Nat) (cs : List Value) (y : DataW H × List MemPlace), DataW.trod enc Try.prog w base spare held n e cs = some y → ∃ r, Q r ∧ cs = en r)
    (h : DataW.trod enc Try.prog w base spare held fuel t [v] = some x) : ∃ (s : Sl) (rs : List α), v = .slice s.a s.n s.c ∧ (∀ r ∈ rs, Q r) ∧ Rd w w.heap.size k s.a s.n (rs.flatMap en) := by
  rcases open_slice ht h with ⟨h0', _⟩ | ⟨a, len, cap, m, n, D, Pl, hcs, _, hlc, _, hm, _, hi⟩
  · injection h0' with h1 _
    exact ⟨⟨none, 0, 0⟩, [], h1, by simp, Rd.none_⟩
  · injection hcs with h1 _
    have hlm : len ≤ m := by rw [hm]; split <;> omega
    obtain ⟨rs, hl, hq, hr⟩ := rd_of_elems (w := w) en k hk h0 a len Q (fun i hil => by
      obtain ⟨cs', hc, ht'⟩ := hi i (by omega)
      obtain ⟨r, hq, rfl⟩ := hel _ _ _ ht'
      rw [hC] at hc
      obtain ⟨_, _, hat⟩ := World.cells?_some hc
      refine ⟨r, hq, fun j u hu => ?_⟩
      have hj : j < k := by rw [← hk r]; exact (List.getElem?_eq_some_iff.1 hu).1
      have := hat j hj
      rw [Go.Deep.add_add] at this
      rw [this, hu])
    exact ⟨⟨some a, len, cap⟩, rs, h1, hq, hr⟩

theorem cells28 : Try.prog.cellsOf 28 = 9 := by kernel_rfl
theorem cells76 : Try.prog.cellsOf 76 = 9 := by kernel_rfl
theorem cells66 : Try.prog.cellsOf 66 = 7 := by kernel_rfl
theorem cells34 : Try.prog.cellsOf 34 = 4 := by kernel_rfl
theorem cells9 : Try.prog.cellsOf 9 = 1 := by kernel_rfl
theorem cells4 : Try.prog.cellsOf 4 = 1 := by kernel_rfl
theorem cells32 : Try.prog.cellsOf 32 = 1 := by kernel_rfl
theorem cells74 : Try.prog.cellsOf 74 = 1 := by kernel_rfl
theorem cells22 : Try.prog.cellsOf 22 = 1 := by kernel_rfl
theorem cells23 : Try.prog.cellsOf 23 = 1 := by kernel_rfl
theorem cells24 : Try.prog.cellsOf 24 = 1 := by kernel_rfl
theorem cells25 : Try.prog.cellsOf 25 = 1 := by kernel_rfl
theorem cells26 : Try.prog.cellsOf 26 = 1 := by kernel_rfl

theorem some_get {α : Type} {o : Option α} {l : List α} {i : Nat} (h : o = l[i]?) (hi : i < l.length) : ∃ y, o = some y := ⟨l[i], by rw [h, List.getElem?_eq_getElem hi]⟩

theorem one_cell {t : TypeId} {off n : Nat} {cs : List Value} {v : Value} {o : Option (DataW H × List MemPlace)} (hc : Try.prog.cellsOf t = 1) (hv : cs[off]? = some v) (h : DataW.trod enc Try.prog w base spare held n t ((cs.drop off).take (Try.prog.cellsOf t)) = o) (ho : ∃ y, o = some y) : ∃ y, DataW.trod enc Try.prog w base spare held n t [v] = some y := by
  obtain ⟨y, rfl⟩ := ho
  rw [hc] at h
  have e : (cs.drop off).take 1 = [v] := by
    obtain ⟨hlt, rfl⟩ := List.getElem?_eq_some_iff.1 hv
    rw [List.drop_eq_getElem_cons hlt]; rfl
  rw [e] at h
  exact ⟨y, h⟩
theorem get_some {α : Type} {l : List α} {i : Nat} (hi : i < l.length) : ∃ y, l[i]? = some y := ⟨_, List.getElem?_eq_getElem hi⟩

set_option maxRecDepth 100000 in
theorem live_of (n : Nat) (cs : List Value) (y : DataW H × List MemPlace) (h : DataW.trod enc Try.prog w base spare held n 76 cs = some y) : ∃ a : LiveC, True ∧ cs = liveL a := by
  obtain ⟨xs, m, _, _, hl, hxl, hf⟩ := DataW.trod_struct Try.underlying76 h
  rw [cells76] at hl
  match cs, hl with
  | [c0, c1, c2, c3, c4, c5, c6, c7, c8], _ =>
    have hx : xs.length = 9 := hxl
    obtain ⟨y0, e0⟩ := one_cell (v := c0) cells9 rfl (hf 0 _ rfl) (get_some (by omega))
    obtain ⟨y1, e1⟩ := one_cell (v := c1) cells9 rfl (hf 1 _ rfl) (get_some (by omega))
    obtain ⟨y2, e2⟩ := one_cell (v := c2) cells3 rfl (hf 2 _ rfl) (get_some (by omega))
    obtain ⟨y3, e3⟩ := one_cell (v := c3) cells32 rfl (hf 3 _ rfl) (get_some (by omega))
    obtain ⟨y4, e4⟩ := one_cell (v := c4) cells32 rfl (hf 4 _ rfl) (get_some (by omega))
    obtain ⟨y5, e5⟩ := one_cell (v := c5) cells3 rfl (hf 5 _ rfl) (get_some (by omega))
    obtain ⟨y6, e6⟩ := one_cell (v := c6) cells3 rfl (hf 6 _ rfl) (get_some (by omega))
    obtain ⟨y7, e7⟩ := one_cell (v := c7) cells4 rfl (hf 7 _ rfl) (get_some (by omega))
    obtain ⟨y8, e8⟩ := one_cell (v := c8) cells74 rfl (hf 8 _ rfl) (get_some (by omega))
    obtain ⟨p, q0, _, _⟩ := DataW.trod_string Try.underlying9 e0
    obtain ⟨t, q1, _, _⟩ := DataW.trod_string Try.underlying9 e1
    obtain ⟨nd, q2, _, _⟩ := DataW.trod_int Try.underlying3 e2
    obtain ⟨s3, q3⟩ := open_slice_v Try.underlying32 e3
    obtain ⟨s4, q4⟩ := open_slice_v Try.underlying32 e4
    obtain ⟨kd, q5, _, _⟩ := DataW.trod_int Try.underlying3 e5
    obtain ⟨rs, q6, _, _⟩ := DataW.trod_int Try.underlying3 e6
    obtain ⟨st, q7, _⟩ := DataW.trod_bool Try.underlying4 e7
    obtain ⟨s8, q8⟩ := open_slice_v Try.underlying74 e8
    simp at q0 q1 q2 q5 q6 q7
    subst q0 q1 q2 q3 q4 q5 q6 q7 q8
    exact ⟨⟨p, t, nd, s3, s4, kd, rs, st, s8⟩, trivial, rfl⟩

set_option maxRecDepth 100000 in
theorem fly_of (n : Nat) (cs : List Value) (y : DataW H × List MemPlace) (h : DataW.trod enc Try.prog w base spare held n 66 cs = some y) : ∃ f : FlyC, ((Lit.int .i64 f.x).wf = true ∧ (Lit.int .i64 f.y).wf = true) ∧ cs = flyL f := by
  obtain ⟨xs, m, _, _, hl, hxl, hf⟩ := DataW.trod_struct Try.underlying66 h
  rw [cells66] at hl
  match cs, hl with
  | [c0, c1, c2, c3, c4, c5, c6], _ =>
    have hx : xs.length = 4 := hxl
    obtain ⟨y0, e0⟩ := one_cell (v := c0) cells3 rfl (hf 0 _ rfl) (get_some (by omega))
    obtain ⟨y1, e1⟩ := one_cell (v := c1) cells3 rfl (hf 1 _ rfl) (get_some (by omega))
    obtain ⟨y2, e2⟩ := one_cell (v := c2) cells9 rfl (hf 2 _ rfl) (get_some (by omega))
    obtain ⟨y3, e3⟩ := some_get (hf 3 _ rfl) (by omega)
    have e3' : DataW.trod enc Try.prog w base spare held m 34 ((List.drop 3 [c0, c1, c2, c3, c4, c5, c6]).take (Try.prog.cellsOf 34)) = some y3 := e3
    rw [cells34] at e3'
    obtain ⟨x1, q0, _, w0⟩ := DataW.trod_int Try.underlying3 e0
    obtain ⟨x2, q1, _, w1⟩ := DataW.trod_int Try.underlying3 e1
    obtain ⟨p, q2, _, _⟩ := DataW.trod_string Try.underlying9 e2
    obtain ⟨zs, m', _, _, _, hzl, hg⟩ := DataW.trod_struct Try.underlying34 e3'
    have hz : zs.length = 4 := hzl
    obtain ⟨z0, g0⟩ := one_cell (v := c3) cells9 rfl (hg 0 _ rfl) (get_some (by omega))
    obtain ⟨z1, g1⟩ := one_cell (v := c4) cells9 rfl (hg 1 _ rfl) (get_some (by omega))
    obtain ⟨z2, g2⟩ := one_cell (v := c5) cells32 rfl (hg 2 _ rfl) (get_some (by omega))
    obtain ⟨z3, g3⟩ := one_cell (v := c6) cells3 rfl (hg 3 _ rfl) (get_some (by omega))
    obtain ⟨l0, r0, _, _⟩ := DataW.trod_string Try.underlying9 g0
    obtain ⟨l1, r1, _, _⟩ := DataW.trod_string Try.underlying9 g1
    obtain ⟨l2, r2⟩ := open_slice_v Try.underlying32 g2
    obtain ⟨l3, r3, _, _⟩ := DataW.trod_int Try.underlying3 g3
    simp at q0 q1 q2 r0 r1 r3
    subst q0 q1 q2 r0 r1 r2 r3
    exact ⟨⟨x1, x2, p, ⟨l0, l1, l2, l3⟩⟩, ⟨w0, w1⟩, rfl⟩

theorem bool_of (n : Nat) (cs : List Value) (y : DataW H × List MemPlace) (h : DataW.trod enc Try.prog w base spare held n 4 cs = some y) : ∃ b : Bool, True ∧ cs = [.bool b] := by
  obtain ⟨b, hb, _⟩ := DataW.trod_bool Try.underlying4 h
  exact ⟨b, trivial, hb⟩

set_option maxRecDepth 100000 in
/-- a state, opened -/
theorem open_sys {v : Value} {d : DataW H} {p : List MemPlace} {r : Reach} {b0 : Nat} (hv : Value.okWide Try.prog w r b0 28 v) (h : DataW.Trod enc Try.prog w base spare held 28 v d p) :
    ∃ (s : SysC) (ls : List LiveC) (fls : List FlyC) (ups : List Bool), v = sysV s ∧ Rd w w.heap.size 1 s.up.a s.up.n (ups.map .bool) ∧ Rd w w.heap.size 9 s.actors.a s.actors.n (ls.flatMap liveL) ∧ Rd w w.heap.size 7 s.flights.a s.flights.n (fls.flatMap flyL) ∧
      (∀ f ∈ fls, (Lit.int .i64 f.x).wf = true ∧ (Lit.int .i64 f.y).wf = true) := by
  obtain ⟨cs, rfl, hsz⟩ := okWide_struct Try.underlying28 hv
  obtain ⟨l⟩ := cs
  rw [cells28] at hsz
  match l, hsz with
  | [c0, c1, c2, c3, c4, c5, c6, c7, c8], _ =>
    obtain ⟨fuel, hf0⟩ := h
    obtain ⟨xs, m, _, _, _, hxl, hf⟩ := DataW.trod_struct Try.underlying28 hf0
    have hx : xs.length = 9 := hxl
    obtain ⟨y0, e0⟩ := one_cell (v := c0) cells22 rfl (hf 0 _ rfl) (get_some (by omega))
    obtain ⟨y1, e1⟩ := one_cell (v := c1) cells3 rfl (hf 1 _ rfl) (get_some (by omega))
    obtain ⟨y2, e2⟩ := one_cell (v := c2) cells3 rfl (hf 2 _ rfl) (get_some (by omega))
    obtain ⟨y3, e3⟩ := one_cell (v := c3) cells3 rfl (hf 3 _ rfl) (get_some (by omega))
    obtain ⟨y4, e4⟩ := one_cell (v := c4) cells23 rfl (hf 4 _ rfl) (get_some (by omega))
    obtain ⟨y5, e5⟩ := one_cell (v := c5) cells24 rfl (hf 5 _ rfl) (get_some (by omega))
    obtain ⟨y6, e6⟩ := one_cell (v := c6) cells25 rfl (hf 6 _ rfl) (get_some (by omega))
    obtain ⟨y7, e7⟩ := one_cell (v := c7) cells26 rfl (hf 7 _ rfl) (get_some (by omega))
    obtain ⟨y8, e8⟩ := one_cell (v := c8) cells3 rfl (hf 8 _ rfl) (get_some (by omega))
    obtain ⟨s0, ups, q0, _, r0⟩ := open_rows (fun b : Bool => [Value.bool b]) 1 (fun _ => rfl) (by omega) (fun _ => True) Try.underlying22 cells4 bool_of e0
    obtain ⟨x1, q1, _, _⟩ := DataW.trod_int Try.underlying3 e1
    obtain ⟨x2, q2, _, _⟩ := DataW.trod_int Try.underlying3 e2
    obtain ⟨x3, q3, _, _⟩ := DataW.trod_int Try.underlying3 e3
    haveI : Inhabited LiveC := ⟨⟨⟨#[]⟩, ⟨#[]⟩, 0, ⟨none, 0, 0⟩, ⟨none, 0, 0⟩, 0, 0, false, ⟨none, 0, 0⟩⟩⟩
    haveI : Inhabited FlyC := ⟨⟨0, 0, ⟨#[]⟩, ⟨⟨#[]⟩, ⟨#[]⟩, ⟨none, 0, 0⟩, 0⟩⟩⟩
    obtain ⟨s4, ls, q4, _, r4⟩ := open_rows liveL 9 (fun _ => rfl) (by omega) (fun _ => True) Try.underlying23 cells76 live_of e4
    obtain ⟨s5, fls, q5, hwf, r5⟩ := open_rows flyL 7 (fun _ => rfl) (by omega) (fun f => (Lit.int .i64 f.x).wf = true ∧ (Lit.int .i64 f.y).wf = true) Try.underlying24 cells66 fly_of e5
    obtain ⟨s6, q6⟩ := open_slice_v Try.underlying25 e6
    obtain ⟨s7, q7⟩ := open_slice_v Try.underlying26 e7
    obtain ⟨x8, q8, _, _⟩ := DataW.trod_int Try.underlying3 e8
    simp at q1 q2 q3 q8
    subst q0 q1 q2 q3 q4 q5 q6 q7 q8
    refine ⟨⟨s0, x1, x2, x3, s4, s5, s6, s7, x8⟩, ls, fls, ups, rfl, ?_, r4, r5, hwf⟩
    rw [List.map_eq_flatMap]
    exact r0
end
end Go.Proofs.Ytjdjfjokniingaa
