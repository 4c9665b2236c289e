/- A state of a system among the arguments, opened to all its depth. -/
import Derived.Test.YtjdjfjokniingaaOp
import Derived.Test.YtjdjfjokniingaaSx
namespace Go.Proofs.Ytjdjfjokniingaa
open Go.RowKit Go.ChangeShapes Go.WideShapes Go.Deep

/-- a slice of values reads as trees -/
def VTr (w : World) (u : Sl) : Prop := ∃ (d : Nat) (ts : List Tr), ts.length = u.n ∧ RdV w w.heap.size 9223372036854775807 d ts u.a
def WfI (x : Int) : Prop := -9223372036854775808 ≤ x ∧ x ≤ 9223372036854775807
structure LetD (w : World) (l : LetC) : Prop where
  tr : VTr w l.args
  sent : WfI l.sent
  src : l.src.size ≤ maxLen
structure FlyD (w : World) (f : FlyC) : Prop where
  x : WfI f.x
  y : WfI f.y
  l : LetD w f.l
structure LiveD (w : World) (a : LiveC) : Prop where
  node : WfI a.node
  kids : WfI a.kids
  rest : WfI a.rest
  init : VTr w a.init
  vars : VTr w a.vars
  mail : ∃ ms : List LetC, Rd w w.heap.size 4 a.mail.a a.mail.n (ms.flatMap letL) ∧ ∀ m ∈ ms, LetD w m
  len : a.mail.n ≤ 9223372036854775807
  cap : a.mail.n ≤ a.mail.c
  path : a.path.size ≤ maxLen
structure ReqD (w : World) (r : ReqC) : Prop where
  tr : VTr w r.args
/-- a state that reads to all its depth -/
structure SysD (w : World) (s : SysC) (ups : List Bool) (ls : List LiveC) (fls als : List FlyC) (rs : List ReqC) : Prop where
  up : Rd w w.heap.size 1 s.up.a s.up.n (ups.map .bool)
  ac : Rd w w.heap.size 9 s.actors.a s.actors.n (ls.flatMap liveL)
  fl : Rd w w.heap.size 7 s.flights.a s.flights.n (fls.flatMap flyL)
  al : Rd w w.heap.size 7 s.alarms.a s.alarms.n (als.flatMap flyL)
  rq : Rd w w.heap.size 8 s.asked.a s.asked.n (rs.flatMap reqL)
  da : ∀ a ∈ ls, LiveD w a
  df : ∀ f ∈ fls, FlyD w f
  dl : ∀ f ∈ als, FlyD w f
  dr : ∀ r ∈ rs, ReqD w r
  mo : WfI s.moment
  ck : WfI s.clock
  sq : WfI s.seq
  dd : WfI s.dead
  nu : s.up.n ≤ 9223372036854775807
  na : s.actors.n ≤ 9223372036854775807
  nf : s.flights.n ≤ 9223372036854775807
  nl : s.alarms.n ≤ 9223372036854775807
  nr : s.asked.n ≤ 9223372036854775807
  ca : s.actors.n ≤ s.actors.c
  cf : s.flights.n ≤ s.flights.c
  cl : s.alarms.n ≤ s.alarms.c

theorem VTr.below {w W : World} {u : Sl} (h : VTr w u) (hb : Below w.heap.size w W) : VTr W u := by
  obtain ⟨d, ts, h1, h2⟩ := h
  exact ⟨d, ts, h1, h2.below hb⟩
theorem LetD.below {w W : World} {l : LetC} (h : LetD w l) (hb : Below w.heap.size w W) : LetD W l := ⟨h.tr.below hb, h.sent, h.src⟩
theorem FlyD.below {w W : World} {l : FlyC} (h : FlyD w l) (hb : Below w.heap.size w W) : FlyD W l := ⟨h.x, h.y, h.l.below hb⟩
theorem Rd.up {w W : World} {k n : Nat} {A : Option Addr} {xs : List Value} (h : Rd w w.heap.size k A n xs) (hb : Below w.heap.size w W) : Rd W W.heap.size k A n xs := (h.below hb (Nat.le_refl _)).more hb.size
theorem LiveD.below {w W : World} {a : LiveC} (h : LiveD w a) (hb : Below w.heap.size w W) : LiveD W a := by
  obtain ⟨h1, h2, h3, h4, h5, ⟨ms, h6, h7⟩, h8, h9, h10⟩ := h
  exact ⟨h1, h2, h3, h4.below hb, h5.below hb, ⟨ms, h6.up hb, fun m hm => (h7 m hm).below hb⟩, h8, h9, h10⟩
theorem ReqD.below {w W : World} {r : ReqC} (h : ReqD w r) (hb : Below w.heap.size w W) : ReqD W r := ⟨h.tr.below hb⟩
theorem SysD.below {w W : World} {s : SysC} {ups : List Bool} {ls : List LiveC} {fls als : List FlyC} {rs : List ReqC} (h : SysD w s ups ls fls als rs) (hb : Below w.heap.size w W) : SysD W s ups ls fls als rs :=
  { h with up := h.up.up hb, ac := h.ac.up hb, fl := h.fl.up hb, al := h.al.up hb, rq := h.rq.up hb, da := fun a ha => (h.da a ha).below hb, df := fun a ha => (h.df a ha).below hb, dl := fun a ha => (h.dl a ha).below hb, dr := fun a ha => (h.dr a ha).below hb }
/-- SameValues of a slice and itself -/
theorem VTr.same {w : World} {u v : Sl} (hn : u.n = v.n) (ha : u.a = v.a) (h : VTr w u) : SameVs w u v := by
  obtain ⟨d, ts, h1, h2⟩ := h
  intro W hW
  rw [← hn, ← ha, ← h1]
  exact sameValues_true _ (Nat.le_refl _) d ts _ _ _ _ W (h2.below hW) (h2.below hW)
theorem VTr.self {w : World} {u : Sl} (h : VTr w u) : SameVs w u u := h.same rfl rfl
theorem LetD.self {w : World} {l : LetC} (h : LetD w l) : LetSame w l l := ⟨rfl, rfl, rfl, h.tr.self⟩
theorem FlyD.self {w : World} {f : FlyC} (h : FlyD w f) : f.x = f.x ∧ f.y = f.y ∧ f.path = f.path ∧ LetSame w f.l f.l := ⟨rfl, rfl, rfl, h.l.self⟩
theorem ReqD.self {w : World} {r : ReqC} (h : ReqD w r) : ReqSame w r r := ⟨rfl, h.tr.self⟩
theorem LiveD.self {w : World} {a : LiveC} (h : LiveD w a) : LiveSame w a a := by
  refine ⟨rfl, rfl, rfl, rfl, rfl, rfl, h.init.self, h.vars.self, fun W hW => ?_⟩
  obtain ⟨ms, h1, h2⟩ := h.mail
  refine sameLetters_true ms ms _ _ _ _ _ W (h1.up hW) (h1.up hW) h.len fun k x y hx hy => ?_
  rw [hx] at hy
  cases hy
  exact ((h2 x (List.mem_of_getElem? hx)).below hW).self

section
variable {H : Type} {enc : TypeId × Value → H} {w : World} {base : Nat} {spare : Nat → Bool} {held : Bool}
theorem cells126 : Try.prog.cellsOf 126 = 6 := by kernel_rfl
theorem cells47 : Try.prog.cellsOf 47 = 7 := by kernel_rfl
theorem cells130 : Try.prog.cellsOf 130 = 8 := by kernel_rfl
theorem ml_val : maxLen = 9223372036854775807 := by unfold maxLen; decide
theorem wfI {x : Int} (h : (Lit.int .i64 x).wf = true) : WfI x := by
  have hm : IntKind.i64.min = -9223372036854775808 := by decide
  have hx : IntKind.i64.max = 9223372036854775807 := by decide
  simp [Lit.wf] at h
  rw [hm] at h
  exact h

/-- a slice of records, opened; the elements' readings take less fuel -/
theorem open_rows_n {α : Type} [Inhabited α] {t e : TypeId} {fuel : Nat} {v : Value} {x : DataW H × List MemPlace} (en : α → List Value) (k : Nat) (hk : ∀ x, (en x).length = k) (h0 : 0 < k) (Q : α → Prop) (ht : Try.prog.underlying t = some (.slice e)) (hC : Try.prog.cellsOf e = k)
    (hel : ∀ (n : Nat) (cs : List Value) (y : DataW H × List MemPlace), fuel = n + 1 → DataW.trod enc Try.prog w base spare held n e cs = some y → ∃ r, Q r ∧ cs = en r)
    (h : DataW.trod enc Try.prog w base spare held fuel t [v] = some x) : ∃ (s : Sl) (rs : List α), v = .slice s.a s.n s.c ∧ (∀ r ∈ rs, Q r) ∧ rs.length = s.n ∧ Rd w w.heap.size k s.a s.n (rs.flatMap en) ∧ s.n ≤ 9223372036854775807 ∧ s.n ≤ s.c := by
  rcases DataW.trod_slice ht h with ⟨h0', _⟩ | ⟨a, len, cap, elems, rest, n, hfu, hcs, _, hb, hl, hm, hlen, hi, _, _⟩
  · injection h0' with h1 _
    exact ⟨⟨none, 0, 0⟩, [], h1, by simp, rfl, Rd.none_, Nat.zero_le _, Nat.zero_le _⟩
  · injection hcs with h1 _
    have hlm : len ≤ 9223372036854775807 := by rw [ml_val] at hm; omega
    have hlc := hl
    obtain ⟨rs, hl, hq, hr⟩ := rd_of_elems (w := w) en k hk h0 a len Q (fun i hil => by
      have hi' := hi i hil
      rw [List.getElem?_eq_getElem (by omega), Option.bind_eq_some_iff] at hi'
      obtain ⟨cs', hc, ht'⟩ := hi'
      obtain ⟨r, hq, rfl⟩ := hel _ _ _ hfu ht'
      rw [hC] at hc
      obtain ⟨_, _, hat⟩ := World.cells?_some hc
      refine ⟨r, hq, fun j u hu => ?_⟩
      have hj : j < k := by rw [← hk r]; exact (List.getElem?_eq_some_iff.1 hu).1
      have := hat j hj
      rw [Go.Deep.add_add] at this
      rw [this, hu])
    exact ⟨⟨some a, len, cap⟩, rs, h1, hq, hl, hr, hlm, hlc⟩

set_option maxRecDepth 100000 in
theorem open_vals_n : ∀ (fuel : Nat) (v : Value) (x : DataW H × List MemPlace), DataW.trod enc Try.prog w base spare held fuel 32 [v] = some x →
    ∃ (u : Sl) (ts : List Tr), v = .slice u.a u.n u.c ∧ ts.length = u.n ∧ RdV w w.heap.size 9223372036854775807 fuel ts u.a := by
  intro fuel
  induction fuel using Nat.strongRecOn with
  | _ fuel ih =>
  intro v x h
  cases fuel with
  | zero => simp [DataW.trod] at h
  | succ n =>
  haveI : Inhabited (Tr × Sl) := ⟨(.node 0 ⟨#[]⟩ 0 0 ⟨#[]⟩ [], ⟨none, 0, 0⟩)⟩
  obtain ⟨s, rs, h1, h2, h3, h4, h5, _⟩ := open_rows_n valL 6 (fun _ => rfl) (by omega) (fun p : Tr × Sl => p.2.n = p.1.l.length ∧ RdV w w.heap.size 9223372036854775807 n p.1.l p.2.a) Try.underlying32 cells126 (fun n' cs y hn hy => by
    have hn' : n' = n := by omega
    subst hn'
    obtain ⟨xs, m, hfu, _, hl, hxl, hf⟩ := DataW.trod_struct Try.underlying126 hy
    rw [cells126] at hl
    match cs, hl with
    | [c0, c1, c2, c3, c4, c5], _ =>
      have hx : xs.length = 6 := hxl
      obtain ⟨y0, e0⟩ := one_cell (v := c0) cells3 rfl (hf 0 _ rfl) (get_some (by omega))
      obtain ⟨y1, e1⟩ := one_cell (v := c1) cells9 rfl (hf 1 _ rfl) (get_some (by omega))
      obtain ⟨y2, e2⟩ := one_cell (v := c2) cells3 rfl (hf 2 _ rfl) (get_some (by omega))
      obtain ⟨y3, e3⟩ := one_cell (v := c3) cells3 rfl (hf 3 _ rfl) (get_some (by omega))
      obtain ⟨y4, e4⟩ := one_cell (v := c4) cells9 rfl (hf 4 _ rfl) (get_some (by omega))
      obtain ⟨y5, e5⟩ := one_cell (v := c5) cells32 rfl (hf 5 _ rfl) (get_some (by omega))
      obtain ⟨x0, q0, _, _⟩ := DataW.trod_int Try.underlying3 e0
      obtain ⟨x1, q1, _, _⟩ := DataW.trod_string Try.underlying9 e1
      obtain ⟨x2, q2, _, _⟩ := DataW.trod_int Try.underlying3 e2
      obtain ⟨x3, q3, _, _⟩ := DataW.trod_int Try.underlying3 e3
      obtain ⟨x4, q4, _, _⟩ := DataW.trod_string Try.underlying9 e4
      obtain ⟨u, ts, q5, q6, q7⟩ := ih m (by omega) _ _ e5
      simp at q0 q1 q2 q3 q4
      subst q0 q1 q2 q3 q4 q5
      exact ⟨(.node x0 x1 x2 x3 x4 ts, u), ⟨q6.symm, RdV.deep (by omega) q7⟩, rfl⟩) h
  refine ⟨s, rs.map (·.1), h1, by simpa using h3, rs, rfl, by omega, ?_, h2⟩
  rw [h3]
  exact h4
theorem open_vals {fuel : Nat} {v : Value} {x : DataW H × List MemPlace} (h : DataW.trod enc Try.prog w base spare held fuel 32 [v] = some x) : ∃ u : Sl, v = .slice u.a u.n u.c ∧ VTr w u := by
  obtain ⟨u, ts, h1, h2, h3⟩ := open_vals_n fuel v x h
  exact ⟨u, h1, fuel, ts, h2, h3⟩

set_option maxRecDepth 100000 in
theorem let_deep (n : Nat) (cs : List Value) (y : DataW H × List MemPlace) (h : DataW.trod enc Try.prog w base spare held n 34 cs = some y) : ∃ l : LetC, LetD w l ∧ cs = letL l := by
  obtain ⟨zs, m', _, _, hl, hzl, hg⟩ := DataW.trod_struct Try.underlying34 h
  rw [cells34] at hl
  match cs, hl with
  | [c3, c4, c5, c6], _ =>
    have hz : zs.length = 4 := hzl
    obtain ⟨z0, g0⟩ := one_cell (v := c3) cells9 rfl (hg 0 _ rfl) (get_some (by omega))
    obtain ⟨z1, g1⟩ := one_cell (v := c4) cells9 rfl (hg 1 _ rfl) (get_some (by omega))
    obtain ⟨z2, g2⟩ := one_cell (v := c5) cells32 rfl (hg 2 _ rfl) (get_some (by omega))
    obtain ⟨z3, g3⟩ := one_cell (v := c6) cells3 rfl (hg 3 _ rfl) (get_some (by omega))
    obtain ⟨l0, r0, _, z0'⟩ := DataW.trod_string Try.underlying9 g0
    obtain ⟨l1, r1, _, _⟩ := DataW.trod_string Try.underlying9 g1
    obtain ⟨l2, r2, dv⟩ := open_vals g2
    obtain ⟨l3, r3, _, w3⟩ := DataW.trod_int Try.underlying3 g3
    simp at r0 r1 r3
    subst r0 r1 r2 r3
    exact ⟨⟨l0, l1, l2, l3⟩, ⟨dv, wfI w3, z0'⟩, rfl⟩

set_option maxRecDepth 100000 in
theorem fly_deep (n : Nat) (cs : List Value) (y : DataW H × List MemPlace) (h : DataW.trod enc Try.prog w base spare held n 66 cs = some y) : ∃ f : FlyC, FlyD w f ∧ cs = flyL f := by
  obtain ⟨xs, m, _, _, hl, hxl, hf⟩ := DataW.trod_struct Try.underlying66 h
  rw [cells66] at hl
  match cs, hl with
  | [c0, c1, c2, c3, c4, c5, c6], _ =>
    have hx : xs.length = 4 := hxl
    obtain ⟨y0, e0⟩ := one_cell (v := c0) cells3 rfl (hf 0 _ rfl) (get_some (by omega))
    obtain ⟨y1, e1⟩ := one_cell (v := c1) cells3 rfl (hf 1 _ rfl) (get_some (by omega))
    obtain ⟨y2, e2⟩ := one_cell (v := c2) cells9 rfl (hf 2 _ rfl) (get_some (by omega))
    obtain ⟨y3, e3⟩ := some_get (hf 3 _ rfl) (by omega)
    have e3' : DataW.trod enc Try.prog w base spare held m 34 ((List.drop 3 [c0, c1, c2, c3, c4, c5, c6]).take (Try.prog.cellsOf 34)) = some y3 := e3
    rw [cells34] at e3'
    obtain ⟨x1, q0, _, w0⟩ := DataW.trod_int Try.underlying3 e0
    obtain ⟨x2, q1, _, w1⟩ := DataW.trod_int Try.underlying3 e1
    obtain ⟨p, q2, _, _⟩ := DataW.trod_string Try.underlying9 e2
    obtain ⟨l, dl, el⟩ := let_deep _ _ _ e3'
    obtain ⟨l0, l1, l2, l3⟩ := l
    simp at q0 q1 q2 el
    obtain ⟨r0, r1, r2, r3⟩ := el
    subst q0 q1 q2 r0 r1 r2 r3
    exact ⟨⟨x1, x2, p, ⟨l0, l1, l2, l3⟩⟩, ⟨wfI w0, wfI w1, dl⟩, rfl⟩
set_option maxRecDepth 100000 in
theorem alarm_deep (n : Nat) (cs : List Value) (y : DataW H × List MemPlace) (h : DataW.trod enc Try.prog w base spare held n 47 cs = some y) : ∃ f : FlyC, FlyD w f ∧ cs = flyL f := by
  obtain ⟨xs, m, _, _, hl, hxl, hf⟩ := DataW.trod_struct Try.underlying47 h
  rw [cells47] at hl
  match cs, hl with
  | [c0, c1, c2, c3, c4, c5, c6], _ =>
    have hx : xs.length = 4 := hxl
    obtain ⟨y0, e0⟩ := one_cell (v := c0) cells3 rfl (hf 0 _ rfl) (get_some (by omega))
    obtain ⟨y1, e1⟩ := one_cell (v := c1) cells3 rfl (hf 1 _ rfl) (get_some (by omega))
    obtain ⟨y2, e2⟩ := one_cell (v := c2) cells9 rfl (hf 2 _ rfl) (get_some (by omega))
    obtain ⟨y3, e3⟩ := some_get (hf 3 _ rfl) (by omega)
    have e3' : DataW.trod enc Try.prog w base spare held m 34 ((List.drop 3 [c0, c1, c2, c3, c4, c5, c6]).take (Try.prog.cellsOf 34)) = some y3 := e3
    rw [cells34] at e3'
    obtain ⟨x1, q0, _, w0⟩ := DataW.trod_int Try.underlying3 e0
    obtain ⟨x2, q1, _, w1⟩ := DataW.trod_int Try.underlying3 e1
    obtain ⟨p, q2, _, _⟩ := DataW.trod_string Try.underlying9 e2
    obtain ⟨l, dl, el⟩ := let_deep _ _ _ e3'
    obtain ⟨l0, l1, l2, l3⟩ := l
    simp at q0 q1 q2 el
    obtain ⟨r0, r1, r2, r3⟩ := el
    subst q0 q1 q2 r0 r1 r2 r3
    exact ⟨⟨x1, x2, p, ⟨l0, l1, l2, l3⟩⟩, ⟨wfI w0, wfI w1, dl⟩, rfl⟩
set_option maxRecDepth 100000 in
theorem req_deep (n : Nat) (cs : List Value) (y : DataW H × List MemPlace) (h : DataW.trod enc Try.prog w base spare held n 130 cs = some y) : ∃ r : ReqC, ReqD w r ∧ cs = reqL r := by
  obtain ⟨xs, m, _, _, hl, hxl, hf⟩ := DataW.trod_struct Try.underlying130 h
  rw [cells130] at hl
  match cs, hl with
  | [c0, c1, c2, c3, c4, c5, c6, c7], _ =>
    have hx : xs.length = 8 := hxl
    obtain ⟨y0, e0⟩ := one_cell (v := c0) cells9 rfl (hf 0 _ rfl) (get_some (by omega))
    obtain ⟨y1, e1⟩ := one_cell (v := c1) cells9 rfl (hf 1 _ rfl) (get_some (by omega))
    obtain ⟨y2, e2⟩ := one_cell (v := c2) cells32 rfl (hf 2 _ rfl) (get_some (by omega))
    obtain ⟨y3, e3⟩ := one_cell (v := c3) cells3 rfl (hf 3 _ rfl) (get_some (by omega))
    obtain ⟨y4, e4⟩ := one_cell (v := c4) cells9 rfl (hf 4 _ rfl) (get_some (by omega))
    obtain ⟨y5, e5⟩ := one_cell (v := c5) cells3 rfl (hf 5 _ rfl) (get_some (by omega))
    obtain ⟨y6, e6⟩ := one_cell (v := c6) cells3 rfl (hf 6 _ rfl) (get_some (by omega))
    obtain ⟨y7, e7⟩ := one_cell (v := c7) cells4 rfl (hf 7 _ rfl) (get_some (by omega))
    obtain ⟨x0, q0, _, _⟩ := DataW.trod_string Try.underlying9 e0
    obtain ⟨x1, q1, _, _⟩ := DataW.trod_string Try.underlying9 e1
    obtain ⟨x2, q2, dv⟩ := open_vals e2
    obtain ⟨x3, q3, _, _⟩ := DataW.trod_int Try.underlying3 e3
    obtain ⟨x4, q4, _, _⟩ := DataW.trod_string Try.underlying9 e4
    obtain ⟨x5, q5, _, _⟩ := DataW.trod_int Try.underlying3 e5
    obtain ⟨x6, q6, _, _⟩ := DataW.trod_int Try.underlying3 e6
    obtain ⟨x7, q7, _⟩ := DataW.trod_bool Try.underlying4 e7
    simp at q0 q1 q3 q4 q5 q6 q7
    subst q0 q1 q2 q3 q4 q5 q6 q7
    exact ⟨⟨x0, x1, x2, x3, x4, x5, x6, x7⟩, ⟨dv⟩, rfl⟩

set_option maxRecDepth 100000 in
theorem live_deep (n : Nat) (cs : List Value) (y : DataW H × List MemPlace) (h : DataW.trod enc Try.prog w base spare held n 76 cs = some y) : ∃ a : LiveC, LiveD w a ∧ cs = liveL a := by
  obtain ⟨xs, m, _, _, hl, hxl, hf⟩ := DataW.trod_struct Try.underlying76 h
  rw [cells76] at hl
  haveI : Inhabited LetC := ⟨⟨⟨#[]⟩, ⟨#[]⟩, ⟨none, 0, 0⟩, 0⟩⟩
  match cs, hl with
  | [c0, c1, c2, c3, c4, c5, c6, c7, c8], _ =>
    have hx : xs.length = 9 := hxl
    obtain ⟨y0, e0⟩ := one_cell (v := c0) cells9 rfl (hf 0 _ rfl) (get_some (by omega))
    obtain ⟨y1, e1⟩ := one_cell (v := c1) cells9 rfl (hf 1 _ rfl) (get_some (by omega))
    obtain ⟨y2, e2⟩ := one_cell (v := c2) cells3 rfl (hf 2 _ rfl) (get_some (by omega))
    obtain ⟨y3, e3⟩ := one_cell (v := c3) cells32 rfl (hf 3 _ rfl) (get_some (by omega))
    obtain ⟨y4, e4⟩ := one_cell (v := c4) cells32 rfl (hf 4 _ rfl) (get_some (by omega))
    obtain ⟨y5, e5⟩ := one_cell (v := c5) cells3 rfl (hf 5 _ rfl) (get_some (by omega))
    obtain ⟨y6, e6⟩ := one_cell (v := c6) cells3 rfl (hf 6 _ rfl) (get_some (by omega))
    obtain ⟨y7, e7⟩ := one_cell (v := c7) cells4 rfl (hf 7 _ rfl) (get_some (by omega))
    obtain ⟨y8, e8⟩ := one_cell (v := c8) cells74 rfl (hf 8 _ rfl) (get_some (by omega))
    obtain ⟨p, q0, _, hp0⟩ := DataW.trod_string Try.underlying9 e0
    obtain ⟨t, q1, _, _⟩ := DataW.trod_string Try.underlying9 e1
    obtain ⟨nd, q2, _, w2⟩ := DataW.trod_int Try.underlying3 e2
    obtain ⟨s3, q3, d3⟩ := open_vals e3
    obtain ⟨s4, q4, d4⟩ := open_vals e4
    obtain ⟨kd, q5, _, w5⟩ := DataW.trod_int Try.underlying3 e5
    obtain ⟨rs, q6, _, w6⟩ := DataW.trod_int Try.underlying3 e6
    obtain ⟨st, q7, _⟩ := DataW.trod_bool Try.underlying4 e7
    obtain ⟨s8, ms, q8, d8, _, r8, l8, c8'⟩ := open_rows_n letL 4 (fun _ => rfl) (by omega) (LetD w) Try.underlying74 cells34 (fun n cs y _ => let_deep n cs y) e8
    simp at q0 q1 q2 q5 q6 q7
    subst q0 q1 q2 q3 q4 q5 q6 q7 q8
    exact ⟨⟨p, t, nd, s3, s4, kd, rs, st, s8⟩, ⟨wfI w2, wfI w5, wfI w6, d3, d4, ⟨ms, r8, d8⟩, l8, c8', hp0⟩, rfl⟩

set_option maxRecDepth 100000 in
/-- a state, opened to all its depth -/
theorem open_sys_deep {v : Value} {d : DataW H} {p : List MemPlace} {r : Reach} {b0 : Nat} (hv : Value.okWide Try.prog w r b0 28 v) (h : DataW.Trod enc Try.prog w base spare held 28 v d p) :
    ∃ (s : SysC) (ups : List Bool) (ls : List LiveC) (fls als : List FlyC) (rs : List ReqC), v = sysV s ∧ SysD w s ups ls fls als rs := by
  obtain ⟨cs, rfl, hsz⟩ := okWide_struct Try.underlying28 hv
  obtain ⟨l⟩ := cs
  rw [cells28] at hsz
  match l, hsz with
  | [c0, c1, c2, c3, c4, c5, c6, c7, c8], _ =>
    obtain ⟨fuel, hf0⟩ := h
    obtain ⟨xs, m, _, _, _, hxl, hf⟩ := DataW.trod_struct Try.underlying28 hf0
    have hx : xs.length = 9 := hxl
    obtain ⟨y0, e0⟩ := one_cell (v := c0) cells22 rfl (hf 0 _ rfl) (get_some (by omega))
    obtain ⟨y1, e1⟩ := one_cell (v := c1) cells3 rfl (hf 1 _ rfl) (get_some (by omega))
    obtain ⟨y2, e2⟩ := one_cell (v := c2) cells3 rfl (hf 2 _ rfl) (get_some (by omega))
    obtain ⟨y3, e3⟩ := one_cell (v := c3) cells3 rfl (hf 3 _ rfl) (get_some (by omega))
    obtain ⟨y4, e4⟩ := one_cell (v := c4) cells23 rfl (hf 4 _ rfl) (get_some (by omega))
    obtain ⟨y5, e5⟩ := one_cell (v := c5) cells24 rfl (hf 5 _ rfl) (get_some (by omega))
    obtain ⟨y6, e6⟩ := one_cell (v := c6) cells25 rfl (hf 6 _ rfl) (get_some (by omega))
    obtain ⟨y7, e7⟩ := one_cell (v := c7) cells26 rfl (hf 7 _ rfl) (get_some (by omega))
    obtain ⟨y8, e8⟩ := one_cell (v := c8) cells3 rfl (hf 8 _ rfl) (get_some (by omega))
    obtain ⟨s0, ups, q0, _, _, r0, l0, _⟩ := open_rows_n (fun b : Bool => [Value.bool b]) 1 (fun _ => rfl) (by omega) (fun _ => True) Try.underlying22 cells4 (fun n cs y _ => bool_of n cs y) e0
    obtain ⟨x1, q1, _, w1⟩ := DataW.trod_int Try.underlying3 e1
    obtain ⟨x2, q2, _, w2⟩ := DataW.trod_int Try.underlying3 e2
    obtain ⟨x3, q3, _, w3⟩ := DataW.trod_int Try.underlying3 e3
    haveI : Inhabited LiveC := ⟨⟨⟨#[]⟩, ⟨#[]⟩, 0, ⟨none, 0, 0⟩, ⟨none, 0, 0⟩, 0, 0, false, ⟨none, 0, 0⟩⟩⟩
    haveI : Inhabited FlyC := ⟨⟨0, 0, ⟨#[]⟩, ⟨⟨#[]⟩, ⟨#[]⟩, ⟨none, 0, 0⟩, 0⟩⟩⟩
    haveI : Inhabited ReqC := ⟨⟨⟨#[]⟩, ⟨#[]⟩, ⟨none, 0, 0⟩, 0, ⟨#[]⟩, 0, 0, false⟩⟩
    obtain ⟨s4, ls, q4, d4, _, r4, l4, k4⟩ := open_rows_n liveL 9 (fun _ => rfl) (by omega) (LiveD w) Try.underlying23 cells76 (fun n cs y _ => live_deep n cs y) e4
    obtain ⟨s5, fls, q5, d5, _, r5, l5, k5⟩ := open_rows_n flyL 7 (fun _ => rfl) (by omega) (FlyD w) Try.underlying24 cells66 (fun n cs y _ => fly_deep n cs y) e5
    obtain ⟨s6, als, q6, d6, _, r6, l6, k6⟩ := open_rows_n flyL 7 (fun _ => rfl) (by omega) (FlyD w) Try.underlying25 cells47 (fun n cs y _ => alarm_deep n cs y) e6
    obtain ⟨s7, rs, q7, d7, _, r7, l7, _⟩ := open_rows_n reqL 8 (fun _ => rfl) (by omega) (ReqD w) Try.underlying26 cells130 (fun n cs y _ => req_deep n cs y) e7
    obtain ⟨x8, q8, _, w8⟩ := DataW.trod_int Try.underlying3 e8
    simp at q1 q2 q3 q8
    subst q0 q1 q2 q3 q4 q5 q6 q7 q8
    refine ⟨⟨s0, x1, x2, x3, s4, s5, s6, s7, x8⟩, ups, ls, fls, als, rs, rfl, ⟨?_, r4, r5, r6, r7, d4, d5, d6, d7, wfI w1, wfI w2, wfI w3, wfI w8, l0, l4, l5, l6, l7, k4, k5, k6⟩⟩
    rw [List.map_eq_flatMap]
    exact r0
end
end Go.Proofs.Ytjdjfjokniingaa
