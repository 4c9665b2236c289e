/- The arguments of the statements, opened: rows of ints, rows of linear conditions. -/
import Derived.Test.YtcncobhdfflelaaGb
import Derived.Lib.SmallJoins
import Derived.Test.YtcncobhdfflelaaRows
import Derived.Test.YtcncobhdfflelaaChecked
import Derived.Carry
namespace Go.Proofs.Ytcncobhdfflelaa
open Go.RowKit Go.ChangeShapes Go.WideShapes Go.Deep

section
variable {H : Type} {enc : TypeId × Value → H} {w : World} {base : Nat} {spare : Nat → Bool} {held : Bool}
/-- a row whose elements each read as a record -/
theorem rd_of_elems {α : Type} [Inhabited α] (en : α → List Value) (k : Nat) (hk : ∀ x, (en x).length = k) (h0 : 0 < k) (a : Addr) (len : Nat) (Q : α → Prop)
    (h : ∀ i, i < len → ∃ r, Q r ∧ ∀ j u, (en r)[j]? = some u → w.cell? (a.add (i * k + j)) = some u) : ∃ rs : List α, rs.length = len ∧ (∀ r ∈ rs, Q r) ∧ Rd w w.heap.size k (some a) len (rs.flatMap en) := by
  have hf : ∃ f : Nat → α, ∀ i, i < len → Q (f i) ∧ ∀ j u, (en (f i))[j]? = some u → w.cell? (a.add (i * k + j)) = some u := by
    refine ⟨fun i => if hi : i < len then Classical.choose (h i hi) else default, fun i hi => ?_⟩
    simp only [hi, dif_pos]
    exact Classical.choose_spec (h i hi)
  obtain ⟨f, hf⟩ := hf
  refine ⟨(List.range len).map f, by simp, fun r hr => ?_, by rw [flatMap_len en k hk]; simp, fun hn => ?_⟩
  · obtain ⟨i, hi, rfl⟩ := List.mem_map.1 hr
    exact (hf i (List.mem_range.1 hi)).1
  · obtain ⟨b, off, sp⟩ := a
    have hc0 : ∃ u, (en (f 0))[0]? = some u := ⟨_, List.getElem?_eq_getElem (by rw [hk]; exact h0)⟩
    obtain ⟨u0, hu0⟩ := hc0
    have hz := (hf 0 hn).2 0 u0 hu0
    have hz' : w.cell? ⟨b, off, sp⟩ = some u0 := by simpa [Addr.add] using hz
    have hsp : sp = none := by
      cases sp with
      | none => rfl
      | some q => simp [World.cell?] at hz'; split at hz' <;> simp at hz'
    subst hsp
    have hb : b < w.heap.size := by
      rcases Nat.lt_or_ge b w.heap.size with hlt | hge
      · exact hlt
      · simp [World.cell?, Array.getElem?_eq_none hge] at hz'
    refine ⟨b, off, rfl, hb, fun t u hu => ?_⟩
    have ht : t < len * k := by
      have := (List.getElem?_eq_some_iff.1 hu).1
      rw [flatMap_len en k hk] at this
      simpa using this
    rw [flatMap_get en k hk h0 _ t (by simpa using ht)] at hu
    have hi : t / k < len := Nat.div_lt_of_lt_mul (by rw [Nat.mul_comm]; exact ht)
    have e1 : ((List.range len).map f)[t / k]! = f (t / k) := by simp [hi]
    rw [e1] at hu
    have hc := (hf (t / k) hi).2 (t % k) u hu
    have e2 : t / k * k + t % k = t := by rw [Nat.mul_comm]; exact Nat.div_add_mod t k
    rw [e2] at hc
    have e3 : (⟨b, off, none⟩ : Addr).add t = ⟨b, off + t, none⟩ := by unfold Addr.add; split <;> simp_all
    rwa [e3] at hc

theorem open_slice_v {t e : TypeId} {fuel : Nat} {v : Value} {x : DataW H × List MemPlace} (ht : Try.prog.underlying t = some (.slice e)) (h : DataW.trod enc Try.prog w base spare held fuel t [v] = some x) : ∃ s : Sl, v = .slice s.a s.n s.c := by
  rcases open_slice ht h with ⟨h0, _⟩ | ⟨a, len, cap, _, _, _, _, hcs, _⟩
  · injection h0 with h0 _; exact ⟨⟨none, 0, 0⟩, h0⟩
  · injection hcs with h0 _; exact ⟨⟨some a, len, cap⟩, h0⟩

/-- a slice of records, opened -/
theorem open_rows {α : Type} [Inhabited α] {t e : TypeId} {fuel : Nat} {v : Value} {x : DataW H × List MemPlace} (en : α → List Value) (k : Nat) (hk : ∀ x, (en x).length = k) (h0 : 0 < k) (Q : α → Prop) (ht : Try.prog.underlying t = some (.slice e)) (hC : Try.prog.cellsOf e = k)
    (hel : ∀ (n : Nat) (cs : List Value) (y : DataW H × List MemPlace), DataW.trod enc Try.prog w base spare held n e cs = some y → ∃ r, Q r ∧ cs = en r)
    (h : DataW.trod enc Try.prog w base spare held fuel t [v] = some x) : ∃ (s : Sl) (rs : List α), v = .slice s.a s.n s.c ∧ (∀ r ∈ rs, Q r) ∧ Rd w w.heap.size k s.a s.n (rs.flatMap en) := by
  rcases open_slice ht h with ⟨h0', _⟩ | ⟨a, len, cap, m, n, D, Pl, hcs, _, hlc, _, hm, _, hi⟩
  · injection h0' with h1 _
    exact ⟨⟨none, 0, 0⟩, [], h1, by simp, Rd.none_⟩
  · injection hcs with h1 _
    have hlm : len ≤ m := by rw [hm]; split <;> omega
    obtain ⟨rs, hl, hq, hr⟩ := rd_of_elems (w := w) en k hk h0 a len Q (fun i hil => by
      obtain ⟨cs', hc, ht'⟩ := hi i (by omega)
      obtain ⟨r, hq, rfl⟩ := hel _ _ _ ht'
      rw [hC] at hc
      obtain ⟨_, _, hat⟩ := World.cells?_some hc
      refine ⟨r, hq, fun j u hu => ?_⟩
      have hj : j < k := by rw [← hk r]; exact (List.getElem?_eq_some_iff.1 hu).1
      have := hat j hj
      rw [Go.Deep.add_add] at this
      rw [this, hu])
    exact ⟨⟨some a, len, cap⟩, rs, h1, hq, hr⟩

theorem laidOut : laidOutB Try.prog = true := by kernel_rfl
theorem cells3 : Try.prog.cellsOf 3 = 1 := by kernel_rfl
theorem cells22 : Try.prog.cellsOf 22 = 1 := by kernel_rfl
theorem cells49 : Try.prog.cellsOf 49 = 2 := by kernel_rfl
theorem some_get {α : Type} {o : Option α} {l : List α} {i : Nat} (h : o = l[i]?) (hi : i < l.length) : ∃ y, o = some y := ⟨l[i], by rw [h, List.getElem?_eq_getElem hi]⟩

theorem one_cell {t : TypeId} {off n : Nat} {cs : List Value} {v : Value} {o : Option (DataW H × List MemPlace)} (hc : Try.prog.cellsOf t = 1) (hv : cs[off]? = some v) (h : DataW.trod enc Try.prog w base spare held n t ((cs.drop off).take (Try.prog.cellsOf t)) = o) (ho : ∃ y, o = some y) : ∃ y, DataW.trod enc Try.prog w base spare held n t [v] = some y := by
  obtain ⟨y, rfl⟩ := ho
  rw [hc] at h
  have e : (cs.drop off).take 1 = [v] := by
    obtain ⟨hlt, rfl⟩ := List.getElem?_eq_some_iff.1 hv
    rw [List.drop_eq_getElem_cons hlt]; rfl
  rw [e] at h
  exact ⟨y, h⟩
theorem get_some {α : Type} {l : List α} {i : Nat} (hi : i < l.length) : ∃ y, l[i]? = some y := ⟨_, List.getElem?_eq_getElem hi⟩

theorem ints_flat (xs : List Int) : xs.flatMap (fun x => [Value.int .i64 x]) = ints xs := by
  induction xs with
  | nil => rfl
  | cons x r ih => rw [List.flatMap_cons, ih]; rfl
theorem open_int_row {fuel : Nat} {v : Value} {x : DataW H × List MemPlace} (h : DataW.trod enc Try.prog w base spare held fuel 22 [v] = some x) : ∃ (s : Sl) (xs : List Int), v = .slice s.a s.n s.c ∧ Rd w w.heap.size 1 s.a s.n (ints xs) ∧ Bx.I64 xs := by
  obtain ⟨s, rs, h1, h2, h3⟩ := open_rows (fun x : Int => [Value.int .i64 x]) 1 (fun _ => rfl) (by decide) (fun x => -9223372036854775808 ≤ x ∧ x ≤ 9223372036854775807) Try.underlying22 cells3 (fun n cs y hy => by
    obtain ⟨k, q, _, hw⟩ := DataW.trod_int Try.underlying3 hy
    refine ⟨k, ?_, q⟩
    have h1 : IntKind.i64.min = -9223372036854775808 := by decide
    have h2 : IntKind.i64.max = 9223372036854775807 := by decide
    simp [Lit.wf, h1, h2] at hw
    omega) h
  exact ⟨s, rs, h1, by rw [← ints_flat]; exact h3, h2⟩
set_option maxRecDepth 100000 in
theorem line_of (n : Nat) (cs : List Value) (y : DataW H × List MemPlace) (h : DataW.trod enc Try.prog w base spare held n 49 cs = some y) : ∃ r : LnC, (∃ xs : List Int, Rd w w.heap.size 1 r.cf.a r.cf.n (ints xs)) ∧ cs = lnL r := by
  obtain ⟨xs, m, _, _, hl, hxl, hf⟩ := DataW.trod_struct Try.underlying49 h
  rw [cells49] at hl
  match cs, hl with
  | [c0, c1], _ =>
    have hx : xs.length = 2 := hxl
    obtain ⟨y0, e0⟩ := one_cell (v := c0) cells22 rfl (hf 0 _ rfl) (get_some (by omega))
    obtain ⟨y1, e1⟩ := one_cell (v := c1) cells3 rfl (hf 1 _ rfl) (get_some (by omega))
    obtain ⟨s, zs, q0, hr, _⟩ := open_int_row e0
    obtain ⟨k, q1, _, _⟩ := DataW.trod_int Try.underlying3 e1
    simp at q1
    subst q0 q1
    exact ⟨⟨s, k⟩, ⟨zs, hr⟩, rfl⟩
theorem open_lines {fuel : Nat} {v : Value} {x : DataW H × List MemPlace} (h : DataW.trod enc Try.prog w base spare held fuel 23 [v] = some x) : ∃ (s : Sl) (qs : List LnM), v = .slice s.a s.n s.c ∧ LnsRd w s qs := by
  haveI : Inhabited LnC := ⟨⟨⟨none, 0, 0⟩, 0⟩⟩
  obtain ⟨s, rs, h1, h2, h3⟩ := open_rows lnL 2 (fun _ => rfl) (by decide) (fun r => ∃ xs : List Int, Rd w w.heap.size 1 r.cf.a r.cf.n (ints xs)) Try.underlying23 cells49 (fun n cs y hy => line_of n cs y hy) h
  have key : ∀ rs : List LnC, (∀ r ∈ rs, ∃ xs : List Int, Rd w w.heap.size 1 r.cf.a r.cf.n (ints xs)) → ∃ qs : List LnM, qs.map (·.1) = rs ∧ ∀ q ∈ qs, Rd w w.heap.size 1 q.1.cf.a q.1.cf.n (ints q.2) := by
    intro rs
    induction rs with
    | nil => intro _; exact ⟨[], rfl, fun q hq => (List.not_mem_nil hq).elim⟩
    | cons r rs ih =>
      intro h
      obtain ⟨qs, e, hq⟩ := ih (fun p hp => h p (List.mem_cons_of_mem _ hp))
      obtain ⟨xs, hx⟩ := h r List.mem_cons_self
      refine ⟨(r, xs) :: qs, by rw [List.map_cons, e], fun q hq' => ?_⟩
      rcases List.mem_cons.1 hq' with rfl | hq'
      · exact hx
      · exact hq q hq'
  obtain ⟨qs, e, hq⟩ := key rs h2
  exact ⟨s, qs, h1, ⟨by rw [e]; exact h3, hq⟩⟩
theorem trodAll_five {P : Program} {t0 t1 t2 t3 t4 : TypeId} {args : Array Value} {ds : List (DataW H)} {ps : List MemPlace} (h : DataW.TrodAll enc P w base spare held [t0, t1, t2, t3, t4] args.toList ds ps) :
    ∃ v0 v1 v2 v3 v4 d0 d1 d2 d3 d4 p0 p1 p2 p3 p4, args = #[v0, v1, v2, v3, v4] ∧ ds = [d0, d1, d2, d3, d4] ∧ ps = p0 ++ p1 ++ p2 ++ p3 ++ p4 ∧ DataW.Trod enc P w base spare held t0 v0 d0 p0 ∧ DataW.Trod enc P w base spare held t1 v1 d1 p1 ∧ DataW.Trod enc P w base spare held t2 v2 d2 p2 ∧ DataW.Trod enc P w base spare held t3 v3 d3 p3 ∧ DataW.Trod enc P w base spare held t4 v4 d4 p4 := by
  obtain ⟨v0, r0, d0, s0, p0, q0, hargs, rfl, rfl, h0, k0⟩ := trodAll_cons h
  obtain ⟨v1, r1, d1, s1, p1, q1, rfl, rfl, rfl, h1, k1⟩ := trodAll_cons k0
  obtain ⟨v2, r2, d2, s2, p2, q2, rfl, rfl, rfl, h2, k2⟩ := trodAll_cons k1
  obtain ⟨v3, r3, d3, s3, p3, q3, rfl, rfl, rfl, h3, k3⟩ := trodAll_cons k2
  obtain ⟨v4, r4, d4, s4, p4, q4, rfl, rfl, rfl, h4, k4⟩ := trodAll_cons k3
  obtain ⟨rfl, rfl, rfl⟩ := trodAll_nil k4
  exact ⟨v0, v1, v2, v3, v4, d0, d1, d2, d3, d4, p0, p1, p2, p3, p4, by cases args; simp_all, rfl, by simp, h0, h1, h2, h3, h4⟩
end
end Go.Proofs.Ytcncobhdfflelaa
