/- A state of a system among the arguments, opened to its cells, with the reach of its rows. -/
import Derived.Test.YtjdjfjokniingaaOp
import Derived.SizedLaws
namespace Go.Proofs.Ytjdjfjokniingaa
open Go.RowKit Go.ChangeShapes Go.WideShapes Go.Deep

section
variable {H : Type} {enc : TypeId × Value → H} {w : World} {base : Nat} {spare : Nat → Bool} {held : Bool}
theorem bytes76 : Try.prog.bytesOf 76 = 136 := by kernel_rfl
theorem bytes66 : Try.prog.bytesOf 66 = 96 := by kernel_rfl
theorem one_cell2 {t : TypeId} {off n : Nat} {cs : List Value} {v : Value} {o : Option (DataW H × List MemPlace)} (hc : Try.prog.cellsOf t = 1) (hv : cs[off]? = some v) (h : DataW.trod enc Try.prog w base spare held n t ((cs.drop off).take (Try.prog.cellsOf t)) = o) (ho : ∃ y, o = some y) : ∃ y, o = some y ∧ DataW.trod enc Try.prog w base spare held n t [v] = some y := by
  obtain ⟨y, rfl⟩ := ho
  obtain ⟨y', hy'⟩ := one_cell hc hv h ⟨y, rfl⟩
  refine ⟨y, rfl, ?_⟩
  rw [hc] at h
  have e : (cs.drop off).take 1 = [v] := by
    obtain ⟨hlt, rfl⟩ := List.getElem?_eq_some_iff.1 hv
    rw [List.drop_eq_getElem_cons hlt]; rfl
  rwa [e] at h

/-- a slice of records, opened -/
theorem open_rows_sized {α : Type} [Inhabited α] {t e : TypeId} {fuel : Nat} {v : Value} {x : DataW H × List MemPlace} (en : α → List Value) (k : Nat) (hk : ∀ x, (en x).length = k) (h0 : 0 < k) (Q : α → Prop) (ht : Try.prog.underlying t = some (.slice e)) (hC : Try.prog.cellsOf e = k)
    (hel : ∀ (n : Nat) (cs : List Value) (y : DataW H × List MemPlace), DataW.trod enc Try.prog w base spare held n e cs = some y → ∃ r, Q r ∧ cs = en r)
    (h : DataW.trod enc Try.prog w base spare held fuel t [v] = some x) : ∃ (s : Sl) (rs : List α), v = .slice s.a s.n s.c ∧ (∀ r ∈ rs, Q r) ∧ Rd w w.heap.size k s.a s.n (rs.flatMap en) ∧ ∀ N, (∀ y ∈ x.1.weights Try.prog t, y ≤ N) → s.n * Try.prog.bytesOf e ≤ N := by
  rcases open_slice ht h with ⟨h0', _⟩ | ⟨a, len, cap, m, n, D, Pl, hcs, _, hlc, _, hm, hxx, hi⟩
  · injection h0' with h1 _
    exact ⟨⟨none, 0, 0⟩, [], h1, by simp, Rd.none_, fun N _ => by simp⟩
  · injection hcs with h1 _
    have hlm : len ≤ m := by rw [hm]; split <;> omega
    obtain ⟨rs, hl, hq, hr⟩ := rd_of_elems (w := w) en k hk h0 a len Q (fun i hil => by
      obtain ⟨cs', hc, ht'⟩ := hi i (by omega)
      obtain ⟨r, hq, rfl⟩ := hel _ _ _ ht'
      rw [hC] at hc
      obtain ⟨_, _, hat⟩ := World.cells?_some hc
      refine ⟨r, hq, fun j u hu => ?_⟩
      have hj : j < k := by rw [← hk r]; exact (List.getElem?_eq_some_iff.1 hu).1
      have := hat j hj
      rw [Go.Deep.add_add] at this
      rw [this, hu])
    refine ⟨⟨some a, len, cap⟩, rs, h1, hq, hr, fun N hN => ?_⟩
    have := hN ((len + (m - len)) * Try.prog.bytesOf e) (by rw [hxx]; simp [DataW.weights, ht])
    exact Nat.le_trans (Nat.mul_le_mul_right _ (Nat.le_add_right len _)) this

set_option maxRecDepth 100000 in
/-- a state, opened -/
theorem open_sys_sized {v : Value} {d : DataW H} {p : List MemPlace} {r : Reach} {b0 : Nat} (hv : Value.okWide Try.prog w r b0 28 v) (hz : ∀ y ∈ d.weights Try.prog 28, y ≤ 140737488351232) (h : DataW.Trod enc Try.prog w base spare held 28 v d p) :
    ∃ (s : SysC) (ls : List LiveC) (fls : List FlyC) (ups : List Bool), v = sysV s ∧ Rd w w.heap.size 1 s.up.a s.up.n (ups.map .bool) ∧ Rd w w.heap.size 9 s.actors.a s.actors.n (ls.flatMap liveL) ∧ Rd w w.heap.size 7 s.flights.a s.flights.n (fls.flatMap flyL) ∧
      (∀ f ∈ fls, (Lit.int .i64 f.x).wf = true ∧ (Lit.int .i64 f.y).wf = true) ∧ s.actors.n * 136 ≤ 140737488351232 ∧ s.flights.n * 96 ≤ 140737488351232 := by
  obtain ⟨cs, rfl, hsz⟩ := okWide_struct Try.underlying28 hv
  obtain ⟨l⟩ := cs
  rw [cells28] at hsz
  match l, hsz with
  | [c0, c1, c2, c3, c4, c5, c6, c7, c8], _ =>
    obtain ⟨fuel, hf0⟩ := h
    obtain ⟨xs, m, _, hdd, _, hxl, hf⟩ := DataW.trod_struct Try.underlying28 hf0
    have hx : xs.length = 9 := hxl
    obtain ⟨y0, e0⟩ := one_cell (v := c0) cells22 rfl (hf 0 _ rfl) (get_some (by omega))
    obtain ⟨y1, e1⟩ := one_cell (v := c1) cells3 rfl (hf 1 _ rfl) (get_some (by omega))
    obtain ⟨y2, e2⟩ := one_cell (v := c2) cells3 rfl (hf 2 _ rfl) (get_some (by omega))
    obtain ⟨y3, e3⟩ := one_cell (v := c3) cells3 rfl (hf 3 _ rfl) (get_some (by omega))
    obtain ⟨y4, l4, e4⟩ := one_cell2 (v := c4) cells23 rfl (hf 4 _ rfl) (get_some (by omega))
    obtain ⟨y5, l5, e5⟩ := one_cell2 (v := c5) cells24 rfl (hf 5 _ rfl) (get_some (by omega))
    obtain ⟨y6, e6⟩ := one_cell (v := c6) cells25 rfl (hf 6 _ rfl) (get_some (by omega))
    obtain ⟨y7, e7⟩ := one_cell (v := c7) cells26 rfl (hf 7 _ rfl) (get_some (by omega))
    obtain ⟨y8, e8⟩ := one_cell (v := c8) cells3 rfl (hf 8 _ rfl) (get_some (by omega))
    obtain ⟨s0, ups, q0, _, r0⟩ := open_rows (fun b : Bool => [Value.bool b]) 1 (fun _ => rfl) (by omega) (fun _ => True) Try.underlying22 cells4 bool_of e0
    obtain ⟨x1, q1, _, _⟩ := DataW.trod_int Try.underlying3 e1
    obtain ⟨x2, q2, _, _⟩ := DataW.trod_int Try.underlying3 e2
    obtain ⟨x3, q3, _, _⟩ := DataW.trod_int Try.underlying3 e3
    haveI : Inhabited LiveC := ⟨⟨⟨#[]⟩, ⟨#[]⟩, 0, ⟨none, 0, 0⟩, ⟨none, 0, 0⟩, 0, 0, false, ⟨none, 0, 0⟩⟩⟩
    haveI : Inhabited FlyC := ⟨⟨0, 0, ⟨#[]⟩, ⟨⟨#[]⟩, ⟨#[]⟩, ⟨none, 0, 0⟩, 0⟩⟩⟩
    obtain ⟨s4, ls, q4, _, r4, z4⟩ := open_rows_sized liveL 9 (fun _ => rfl) (by omega) (fun _ => True) Try.underlying23 cells76 live_of e4
    obtain ⟨s5, fls, q5, hwf, r5, z5⟩ := open_rows_sized flyL 7 (fun _ => rfl) (by omega) (fun f => (Lit.int .i64 f.x).wf = true ∧ (Lit.int .i64 f.y).wf = true) Try.underlying24 cells66 fly_of e5
    obtain ⟨s6, q6⟩ := open_slice_v Try.underlying25 e6
    obtain ⟨s7, q7⟩ := open_slice_v Try.underlying26 e7
    obtain ⟨x8, q8, _, _⟩ := DataW.trod_int Try.underlying3 e8
    simp at q1 q2 q3 q8
    subst q0 q1 q2 q3 q4 q5 q6 q7 q8
    simp only [Prod.mk.injEq] at hdd
    have hw : d.weights Try.prog 28 = DataW.weightsEach Try.prog [22, 3, 3, 3, 23, 24, 25, 26, 3] (xs.map (·.1)) := by
      rw [hdd.1, DataW.weights, Try.underlying28]; rfl
    rw [hw] at hz
    have m4 := z4 _ (fun y hy => hz y (DataW.weights_mem_each (j := 4) (t := 23) (d := y4.1) rfl (by rw [List.getElem?_map, l4]; rfl) y hy))
    have m5 := z5 _ (fun y hy => hz y (DataW.weights_mem_each (j := 5) (t := 24) (d := y5.1) rfl (by rw [List.getElem?_map, l5]; rfl) y hy))
    rw [show Try.prog.bytesOf 76 = 136 from bytes76] at m4
    rw [show Try.prog.bytesOf 66 = 96 from bytes66] at m5
    refine ⟨⟨s0, x1, x2, x3, s4, s5, s6, s7, x8⟩, ls, fls, ups, rfl, ?_, r4, r5, hwf, m4, m5⟩
    rw [List.map_eq_flatMap]
    exact r0
end
end Go.Proofs.Ytjdjfjokniingaa
