/- A state among the arguments, opened to all its depth, with the reach of its rows; a list of operations; a list of letters. -/
import Derived.Test.YtjdjfjokniingaaMg
import Derived.SizedLaws
namespace Go.Proofs.Ytjdjfjokniingaa
open Go.RowKit Go.ChangeShapes Go.WideShapes Go.Deep

section
variable {H : Type} {enc : TypeId × Value → H} {w : World} {base : Nat} {spare : Nat → Bool} {held : Bool}
theorem weights_all {P : Program} {e : TypeId} : ∀ {ds : List (DataW H)} {d : DataW H}, d ∈ ds → ∀ n ∈ d.weights P e, n ∈ DataW.weightsAll P e ds
  | [], _, h, _, _ => by simp at h
  | x :: ds, d, h, n, hn => by
    rw [DataW.weightsAll, List.mem_append]
    rcases List.mem_cons.1 h with rfl | h
    · exact .inl hn
    · exact .inr (weights_all h n hn)
theorem one_cellz {t : TypeId} {off n : Nat} {cs : List Value} {v : Value} {o : Option (DataW H × List MemPlace)} (hc : Try.prog.cellsOf t = 1) (hv : cs[off]? = some v) (h : DataW.trod enc Try.prog w base spare held n t ((cs.drop off).take (Try.prog.cellsOf t)) = o) (ho : ∃ y, o = some y) : ∃ y, o = some y ∧ DataW.trod enc Try.prog w base spare held n t [v] = some y := by
  obtain ⟨y, rfl⟩ := ho
  refine ⟨y, rfl, ?_⟩
  rw [hc] at h
  have e : (cs.drop off).take 1 = [v] := by
    obtain ⟨hlt, rfl⟩ := List.getElem?_eq_some_iff.1 hv
    rw [List.drop_eq_getElem_cons hlt]; rfl
  rwa [e] at h
/-- a slice of records, opened, with its reach -/
theorem open_rows_z {α : Type} [Inhabited α] {t e : TypeId} {fuel : Nat} {v : Value} {x : DataW H × List MemPlace} (N : Nat) (en : α → List Value) (k : Nat) (hk : ∀ x, (en x).length = k) (h0 : 0 < k) (Q : α → Prop) (ht : Try.prog.underlying t = some (.slice e)) (hC : Try.prog.cellsOf e = k)
    (hel : ∀ (n : Nat) (cs : List Value) (y : DataW H × List MemPlace), DataW.trod enc Try.prog w base spare held n e cs = some y → (∀ z ∈ y.1.weights Try.prog e, z ≤ N) → ∃ r, Q r ∧ cs = en r)
    (hz : ∀ z ∈ x.1.weights Try.prog t, z ≤ N)
    (h : DataW.trod enc Try.prog w base spare held fuel t [v] = some x) : ∃ (s : Sl) (rs : List α), v = .slice s.a s.n s.c ∧ (∀ r ∈ rs, Q r) ∧ rs.length = s.n ∧ Rd w w.heap.size k s.a s.n (rs.flatMap en) ∧ s.n ≤ 9223372036854775807 ∧ s.n ≤ s.c ∧ s.n * Try.prog.bytesOf e ≤ N := by
  rcases DataW.trod_slice ht h with ⟨h0', _⟩ | ⟨a, len, cap, elems, rest, n, hfu, hcs, hx, hb, hl, hm, hlen, hi, _, _⟩
  · injection h0' with h1 _
    exact ⟨⟨none, 0, 0⟩, [], h1, by simp, rfl, Rd.none_, Nat.zero_le _, Nat.zero_le _, by simp⟩
  · injection hcs with h1 _
    have hlm : len ≤ 9223372036854775807 := by rw [ml_val] at hm; omega
    have hlc := hl
    rw [hx] at hz
    simp only [DataW.weights, ht, List.mem_cons, List.mem_append, List.length_map] at hz
    obtain ⟨rs, hl, hq, hr⟩ := rd_of_elems (w := w) en k hk h0 a len Q (fun i hil => by
      have hi' := hi i hil
      rw [List.getElem?_eq_getElem (by omega), Option.bind_eq_some_iff] at hi'
      obtain ⟨cs', hc, ht'⟩ := hi'
      obtain ⟨r, hq, rfl⟩ := hel _ _ _ ht' (fun z hzz => hz z (.inr (.inl (weights_all (List.mem_map_of_mem (List.getElem_mem _)) z hzz))))
      rw [hC] at hc
      obtain ⟨_, _, hat⟩ := World.cells?_some hc
      refine ⟨r, hq, fun j u hu => ?_⟩
      have hj : j < k := by rw [← hk r]; exact (List.getElem?_eq_some_iff.1 hu).1
      have := hat j hj
      rw [Go.Deep.add_add] at this
      rw [this, hu])
    refine ⟨⟨some a, len, cap⟩, rs, h1, hq, hl, hr, hlm, hlc, ?_⟩
    have := hz ((elems.length + rest.length) * Try.prog.bytesOf e) (.inl rfl)
    rw [hlen] at this
    exact Nat.le_trans (Nat.mul_le_mul_right _ (Nat.le_add_right len _)) this
theorem byte76 : Try.prog.bytesOf 76 = 136 := by kernel_rfl
theorem byte66 : Try.prog.bytesOf 66 = 96 := by kernel_rfl
theorem byte47 : Try.prog.bytesOf 47 = 96 := by kernel_rfl
theorem byte34 : Try.prog.bytesOf 34 = 64 := by kernel_rfl
theorem byte4 : Try.prog.bytesOf 4 = 1 := by kernel_rfl
theorem byte130 : 1 ≤ Try.prog.bytesOf 130 := of_decide_eq_true (by kernel_rfl)

set_option maxRecDepth 100000 in
theorem live_z (N n : Nat) (cs : List Value) (y : DataW H × List MemPlace) (h : DataW.trod enc Try.prog w base spare held n 76 cs = some y) (hz : ∀ z ∈ y.1.weights Try.prog 76, z ≤ N) : ∃ a : LiveC, (LiveD w a ∧ a.mail.n ≤ N) ∧ cs = liveL a := by
  obtain ⟨xs, m, _, hdd, hl, hxl, hf⟩ := DataW.trod_struct Try.underlying76 h
  obtain ⟨a, ha, hcs⟩ := live_deep n cs y h
  refine ⟨a, ⟨ha, ?_⟩, hcs⟩
  rw [hcs] at hf
  haveI : Inhabited LetC := ⟨⟨⟨#[]⟩, ⟨#[]⟩, ⟨none, 0, 0⟩, 0⟩⟩
  have hx : xs.length = 9 := hxl
  obtain ⟨y8, l8, e8⟩ := one_cellz (v := .slice a.mail.a a.mail.n a.mail.c) cells74 rfl (hf 8 _ rfl) (get_some (by omega))
  have hw : y.1.weights Try.prog 76 = DataW.weightsEach Try.prog [9, 9, 3, 32, 32, 3, 3, 4, 74] (xs.map (·.1)) := by
    rw [hdd, DataW.weights, Try.underlying76]; rfl
  rw [hw] at hz
  obtain ⟨s8, ms, q8, _, _, _, _, _, z8⟩ := open_rows_z N letL 4 (fun _ => rfl) (by omega) (LetD w) Try.underlying74 cells34 (fun n cs y h _ => let_deep n cs y h) (fun z h => hz z (DataW.weights_mem_each (j := 8) (t := 74) (d := y8.1) rfl (by rw [List.getElem?_map, l8]; rfl) z h)) e8
  injection q8 with _ q _
  rw [byte34] at z8
  omega

/-- the lengths of a state's rows -/
structure SysZ (N : Nat) (s : SysC) (ls : List LiveC) : Prop where
  up : s.up.n ≤ N
  ac : s.actors.n ≤ N
  fl : s.flights.n ≤ N
  al : s.alarms.n ≤ N
  rq : s.asked.n ≤ N
  ml : ∀ a ∈ ls, a.mail.n ≤ N

set_option maxRecDepth 100000 in
/-- a state, opened to all its depth, with its reach -/
theorem open_sys_z {v : Value} {d : DataW H} {p : List MemPlace} {r : Reach} {b0 : Nat} (N : Nat) (hz : ∀ y ∈ d.weights Try.prog 28, y ≤ N) (hv : Value.okWide Try.prog w r b0 28 v) (h : DataW.Trod enc Try.prog w base spare held 28 v d p) :
    ∃ (s : SysC) (ups : List Bool) (ls : List LiveC) (fls als : List FlyC) (rs : List ReqC), v = sysV s ∧ SysD w s ups ls fls als rs ∧ SysZ N s ls := by
  obtain ⟨cs, rfl, hsz⟩ := okWide_struct Try.underlying28 hv
  obtain ⟨l⟩ := cs
  rw [cells28] at hsz
  match l, hsz with
  | [c0, c1, c2, c3, c4, c5, c6, c7, c8], _ =>
    obtain ⟨fuel, hf0⟩ := h
    obtain ⟨xs, m, _, hdd, _, hxl, hf⟩ := DataW.trod_struct Try.underlying28 hf0
    have hx : xs.length = 9 := hxl
    simp only [Prod.mk.injEq] at hdd
    have hw : d.weights Try.prog 28 = DataW.weightsEach Try.prog [22, 3, 3, 3, 23, 24, 25, 26, 3] (xs.map (·.1)) := by
      rw [hdd.1, DataW.weights, Try.underlying28]; rfl
    rw [hw] at hz
    have hzj : ∀ (j t : Nat) (y : DataW H × List MemPlace), [22, 3, 3, 3, 23, 24, 25, 26, 3][j]? = some t → xs[j]? = some y → ∀ z ∈ y.1.weights Try.prog t, z ≤ N := fun j t y h1 h2 z h3 => hz z (DataW.weights_mem_each (j := j) (t := t) (d := y.1) h1 (by rw [List.getElem?_map, h2]; rfl) z h3)
    obtain ⟨y0, k0, e0⟩ := one_cellz (v := c0) cells22 rfl (hf 0 _ rfl) (get_some (by omega))
    obtain ⟨y1, e1⟩ := one_cell (v := c1) cells3 rfl (hf 1 _ rfl) (get_some (by omega))
    obtain ⟨y2, e2⟩ := one_cell (v := c2) cells3 rfl (hf 2 _ rfl) (get_some (by omega))
    obtain ⟨y3, e3⟩ := one_cell (v := c3) cells3 rfl (hf 3 _ rfl) (get_some (by omega))
    obtain ⟨y4, k4, e4⟩ := one_cellz (v := c4) cells23 rfl (hf 4 _ rfl) (get_some (by omega))
    obtain ⟨y5, k5, e5⟩ := one_cellz (v := c5) cells24 rfl (hf 5 _ rfl) (get_some (by omega))
    obtain ⟨y6, k6, e6⟩ := one_cellz (v := c6) cells25 rfl (hf 6 _ rfl) (get_some (by omega))
    obtain ⟨y7, k7, e7⟩ := one_cellz (v := c7) cells26 rfl (hf 7 _ rfl) (get_some (by omega))
    obtain ⟨y8, e8⟩ := one_cell (v := c8) cells3 rfl (hf 8 _ rfl) (get_some (by omega))
    obtain ⟨s0, ups, q0, _, _, r0, l0, _, z0⟩ := open_rows_z N (fun b : Bool => [Value.bool b]) 1 (fun _ => rfl) (by omega) (fun _ => True) Try.underlying22 cells4 (fun n cs y h _ => bool_of n cs y h) (hzj 0 _ _ rfl k0) e0
    obtain ⟨x1, q1, _, w1⟩ := DataW.trod_int Try.underlying3 e1
    obtain ⟨x2, q2, _, w2⟩ := DataW.trod_int Try.underlying3 e2
    obtain ⟨x3, q3, _, w3⟩ := DataW.trod_int Try.underlying3 e3
    haveI : Inhabited LiveC := ⟨⟨⟨#[]⟩, ⟨#[]⟩, 0, ⟨none, 0, 0⟩, ⟨none, 0, 0⟩, 0, 0, false, ⟨none, 0, 0⟩⟩⟩
    haveI : Inhabited FlyC := ⟨⟨0, 0, ⟨#[]⟩, ⟨⟨#[]⟩, ⟨#[]⟩, ⟨none, 0, 0⟩, 0⟩⟩⟩
    haveI : Inhabited ReqC := ⟨⟨⟨#[]⟩, ⟨#[]⟩, ⟨none, 0, 0⟩, 0, ⟨#[]⟩, 0, 0, false⟩⟩
    obtain ⟨s4, ls, q4, d4, _, r4, l4, k4', z4⟩ := open_rows_z N liveL 9 (fun _ => rfl) (by omega) (fun a => LiveD w a ∧ a.mail.n ≤ N) Try.underlying23 cells76 (fun n cs y h hz => live_z N n cs y h hz) (hzj 4 _ _ rfl k4) e4
    obtain ⟨s5, fls, q5, d5, _, r5, l5, k5', z5⟩ := open_rows_z N flyL 7 (fun _ => rfl) (by omega) (FlyD w) Try.underlying24 cells66 (fun n cs y h _ => fly_deep n cs y h) (hzj 5 _ _ rfl k5) e5
    obtain ⟨s6, als, q6, d6, _, r6, l6, k6', z6⟩ := open_rows_z N flyL 7 (fun _ => rfl) (by omega) (FlyD w) Try.underlying25 cells47 (fun n cs y h _ => alarm_deep n cs y h) (hzj 6 _ _ rfl k6) e6
    obtain ⟨s7, rs, q7, d7, _, r7, l7, _, z7⟩ := open_rows_z N reqL 8 (fun _ => rfl) (by omega) (ReqD w) Try.underlying26 cells130 (fun n cs y h _ => req_deep n cs y h) (hzj 7 _ _ rfl k7) e7
    obtain ⟨x8, q8, _, w8⟩ := DataW.trod_int Try.underlying3 e8
    simp at q1 q2 q3 q8
    subst q0 q1 q2 q3 q4 q5 q6 q7 q8
    rw [byte4] at z0
    rw [byte76] at z4
    rw [byte66] at z5
    rw [byte47] at z6
    have z7' : s7.n ≤ N := Nat.le_trans (by have := Nat.mul_le_mul_left s7.n byte130; omega) z7
    refine ⟨⟨s0, x1, x2, x3, s4, s5, s6, s7, x8⟩, ups, ls, fls, als, rs, rfl, ⟨?_, r4, r5, r6, r7, fun a ha => (d4 a ha).1, d5, d6, d7, wfI w1, wfI w2, wfI w3, wfI w8, l0, l4, l5, l6, l7, k4', k5', k6'⟩, ⟨?_, ?_, ?_, ?_, z7', fun a ha => (d4 a ha).2⟩⟩
    · rw [List.map_eq_flatMap]
      exact r0
    · show s0.n ≤ N; omega
    · show s4.n ≤ N; omega
    · show s5.n ≤ N; omega
    · show s6.n ≤ N; omega

/-- an operation of the mail layer's statements -/
structure OpC where
  op : Int
  x : Int
  y : Int
  path : ByteArray
  l : LetC
abbrev opL (a : OpC) : List Value := [.int .i64 a.op, .int .i64 a.x, .int .i64 a.y, .string a.path, .string a.l.src, .string a.l.msg, .slice a.l.args.a a.l.args.n a.l.args.c, .int .i64 a.l.sent]
structure OpD (w : World) (a : OpC) : Prop where
  l : LetD w a.l
  path : a.path.size ≤ maxLen
  x : WfI a.x
  y : WfI a.y
theorem cells58 : Try.prog.cellsOf 58 = 8 := by kernel_rfl
set_option maxRecDepth 100000 in
theorem op_deep (n : Nat) (cs : List Value) (y : DataW H × List MemPlace) (h : DataW.trod enc Try.prog w base spare held n 58 cs = some y) : ∃ f : OpC, OpD w f ∧ cs = opL f := by
  obtain ⟨xs, m, _, _, hl, hxl, hf⟩ := DataW.trod_struct Try.underlying58 h
  rw [cells58] at hl
  match cs, hl with
  | [c0, c1, c2, c3, c4, c5, c6, c7], _ =>
    have hx : xs.length = 5 := hxl
    obtain ⟨y0, e0⟩ := one_cell (v := c0) cells3 rfl (hf 0 _ rfl) (get_some (by omega))
    obtain ⟨y1, e1⟩ := one_cell (v := c1) cells3 rfl (hf 1 _ rfl) (get_some (by omega))
    obtain ⟨y2, e2⟩ := one_cell (v := c2) cells3 rfl (hf 2 _ rfl) (get_some (by omega))
    obtain ⟨y3, e3⟩ := one_cell (v := c3) cells9 rfl (hf 3 _ rfl) (get_some (by omega))
    obtain ⟨y4, e4⟩ := some_get (hf 4 _ rfl) (by omega)
    have e4' : DataW.trod enc Try.prog w base spare held m 34 ((List.drop 4 [c0, c1, c2, c3, c4, c5, c6, c7]).take (Try.prog.cellsOf 34)) = some y4 := e4
    rw [cells34] at e4'
    obtain ⟨x0, q0, _, w0⟩ := DataW.trod_int Try.underlying3 e0
    obtain ⟨x1, q1, _, w1⟩ := DataW.trod_int Try.underlying3 e1
    obtain ⟨x2, q2, _, w2⟩ := DataW.trod_int Try.underlying3 e2
    obtain ⟨p, q3, _, hp⟩ := DataW.trod_string Try.underlying9 e3
    obtain ⟨l, dl, el⟩ := let_deep _ _ _ e4'
    obtain ⟨l0, l1, l2, l3⟩ := l
    simp at q0 q1 q2 q3 el
    obtain ⟨r0, r1, r2, r3⟩ := el
    subst q0 q1 q2 q3 r0 r1 r2 r3
    exact ⟨⟨x0, x1, x2, p, ⟨l0, l1, l2, l3⟩⟩, ⟨dl, hp, wfI w1, wfI w2⟩, rfl⟩
/-- the operations, opened -/
theorem open_ops {v : Value} {d : DataW H} {p : List MemPlace} (h : DataW.Trod enc Try.prog w base spare held 55 v d p) (hv : ∃ s : Sl, v = .slice s.a s.n s.c) :
    ∃ (s : Sl) (ops : List OpC), v = .slice s.a s.n s.c ∧ (∀ o ∈ ops, OpD w o) ∧ ops.length = s.n ∧ Rd w w.heap.size 8 s.a s.n (ops.flatMap opL) ∧ s.n ≤ 9223372036854775807 := by
  obtain ⟨fuel, hf⟩ := h
  haveI : Inhabited OpC := ⟨⟨0, 0, 0, ⟨#[]⟩, ⟨⟨#[]⟩, ⟨#[]⟩, ⟨none, 0, 0⟩, 0⟩⟩⟩
  obtain ⟨s0, rfl⟩ := hv
  obtain ⟨s, ops, h1, h2, h3, h4, h5, _⟩ := open_rows_n opL 8 (fun _ => rfl) (by omega) (OpD w) Try.underlying55 cells58 (fun n cs y _ => op_deep n cs y) hf
  exact ⟨s, ops, h1, h2, h3, h4, h5⟩
theorem open_lets {v : Value} {d : DataW H} {p : List MemPlace} (h : DataW.Trod enc Try.prog w base spare held 74 v d p) (hv : ∃ s : Sl, v = .slice s.a s.n s.c) :
    ∃ (s : Sl) (ops : List LetC), v = .slice s.a s.n s.c ∧ (∀ o ∈ ops, LetD w o) ∧ ops.length = s.n ∧ Rd w w.heap.size 4 s.a s.n (ops.flatMap letL) ∧ s.n ≤ 9223372036854775807 := by
  obtain ⟨fuel, hf⟩ := h
  haveI : Inhabited LetC := ⟨⟨⟨#[]⟩, ⟨#[]⟩, ⟨none, 0, 0⟩, 0⟩⟩
  obtain ⟨s0, rfl⟩ := hv
  obtain ⟨s, ops, h1, h2, h3, h4, h5, _⟩ := open_rows_n letL 4 (fun _ => rfl) (by omega) (LetD w) Try.underlying74 cells34 (fun n cs y _ => let_deep n cs y) hf
  exact ⟨s, ops, h1, h2, h3, h4, h5⟩
end

/-- the lengths of a plain state -/
structure PSZ (N : Nat) (σ : PS) : Prop where
  up : σ.ups.length ≤ N
  ac : σ.acts.length ≤ N
  fl : σ.fls.length ≤ N
  al : σ.als.length ≤ N
  rq : σ.rs.length ≤ N
  ml : ∀ a ∈ σ.acts, a.mail.length ≤ N
theorem sysR_ofz {w : World} {s : SysC} {ups : List Bool} {ls : List LiveC} {fls als : List FlyC} {rs : List ReqC} {N : Nat} (h : SysD w s ups ls fls als rs) (hz : SysZ N s ls) :
    ∃ σ : PS, SysR (fun b => b < w.heap.size) w s σ ∧ PSD w σ ∧ PSZ N σ := by
  obtain ⟨qs, h1, h2, h3⟩ := mails_of ls h.da
  have R : SysR (fun b => b < w.heap.size) w s ⟨ups, s.moment, s.clock, s.seq, qs.map plOf, fls, als, rs, s.dead⟩ := ⟨h.up, ⟨qs, by rw [h1]; exact h.ac, h2, rfl⟩, h.fl, h.al, h.rq, h.cf, h.cl, rfl, rfl, rfl, rfl, rd_loc h.up, rd_loc h.ac, rd_loc h.fl, rd_loc h.al, rd_loc h.rq⟩
  refine ⟨_, R, ⟨fun a ha => ?_, h.df, h.dl, h.dr, h.ck, h.sq, h.dd⟩, ⟨?_, ?_, ?_, ?_, ?_, ?_⟩⟩
  · obtain ⟨q, hq, rfl⟩ := List.mem_map.1 ha
    exact h3 q hq
  · rw [R.nu]; exact hz.up
  · rw [← R.na]; exact hz.ac
  · rw [R.nfl]; exact hz.fl
  · rw [R.nal]; exact hz.al
  · have := R.rq.len (fun _ => rfl) (by omega)
    rw [this]; exact hz.rq
  · intro a ha
    obtain ⟨q, hq, rfl⟩ := List.mem_map.1 ha
    have h4 := (h2 q hq).rd.len (fun _ => rfl) (by omega)
    have h5 := hz.ml q.1 (by rw [← h1]; exact List.mem_map_of_mem hq)
    show q.2.length ≤ N
    omega
end Go.Proofs.Ytjdjfjokniingaa
