/- The contracts of the reference's Set and Clear. -/
import Derived.Test.YtjdjfjokniingaaUf
namespace Go.Proofs.Ytjdjfjokniingaa
open Go.RowKit

/-- append to a row of the call's own: the block is the old one or a new one -/
theorem wpList_append_own3 (w : World) {ops : Array Oper} {rest : List Oper} {o : Oper} {a : Act} {Q : Exit → Act → World → Prop} (hgd : o.guard = none) (s x : Operand) (t : TypeId)
    (ho : o.op = .call { callee := .builtin .append, args := #[s, x], argTypes := #[t, t] })
    (base : Nat) (e : TypeId) (i : TypeInfo) (z : Value) (size bytes : Nat) (ht : Try.prog.underlying t = some (.slice e)) (hi : Try.prog.info? e = some i) (hz : i.zero = some z)
    (hsize : i.size = size) (hby : i.bytes = bytes) (hzs : z.cells.size = size) (hsz : 0 < size)
    (v : Value) (n : Nat) (xs : List Value) (hs : a.eval s = v) (hown : w.ownsRow base e size v n xs)
    (ad : Addr) (m c : Nat) (news : List Value) (hx : a.eval x = .slice (some ad) m c) (hl : news.length = m * size) (hnews : ∀ j u, news[j]? = some u → w.cell? (ad.add j) = some u) (h1 : ∀ u ∈ news, u.oneCell' = true)
    (h63 : n + m ≤ maxLen) (hbytes : (n + m) * bytes ≤ 140737488355328) (hbase : base ≤ w.heap.size) (hm : 0 < m)
    (h : ∀ v' w', w'.ownsRow base e size v' (n + m) (xs ++ news) → w.grownBy w' v.ownBlock → (v'.ownBlock = v.ownBlock ∨ ∀ g, v'.ownBlock = some g → w.heap.size ≤ g) → wpList Try.prog ops Q rest (a.put o.dst v') w') : wpList Try.prog ops Q (o :: rest) a w := by
  have fin : ∀ v' w', w'.ownsRow w.heap.size e size v' (n + m) (xs ++ news) → w.grownBy w' none → wpList Try.prog ops Q rest (a.put o.dst v') w' := fun v' w' r1 r2 => by
    refine h v' w' (row_mono r1 hbase) ⟨r2.os, r2.tape, r2.output, r2.size, fun k hk _ => r2.block k hk (by simp)⟩ (.inr fun g hg => ?_)
    obtain ⟨u, _, rfl, hu⟩ := own_sl r1
    refine hu g ?_
    cases hua : u.a with
    | none => rw [hua] at hg; simp [Value.ownBlock] at hg
    | some q => rw [hua] at hg; simpa [Value.ownBlock] using hg
  rcases hown.2 with ⟨rfl, h0⟩ | ⟨g, cap, cur, rfl, hb, hg, hnc, hrest⟩
  · subst h0
    have hxs : xs = [] := List.eq_nil_of_length_eq_zero (by have := hown.1; simpa using this)
    subst hxs
    exact wpList_append_grows w hgd s x t ho e i z size bytes ht hi hz hsize hby hzs hsz none 0 0 [] hs (fun _ => ⟨rfl, rfl⟩) (by simp) (fun b hb => by cases hb) ad m c news hx hl hnews h1 (by omega) h63 hbytes fin
  · by_cases hfit : n + m ≤ cap
    · exact wpList_append_fits w hgd s x t ho base e i size ht hi hsize g n cap xs hs hown ad m c news hx hl hnews h1 hfit (fun w' r1 r2 => h _ w' r1 r2 (.inl rfl))
    · exact wpList_append_grows w hgd s x t ho e i z size bytes ht hi hz hsize hby hzs hsz (some ⟨g, 0, none⟩) n cap xs hs (fun h => by cases h) hown.1 (own_rd hown).holds ad m c news hx hl hnews h1 (by omega) h63 hbytes fin
theorem BoxAt.kept_row {w w' : World} {b B T k n : Nat} {vs xs : List Value} {v : Value} (h : BoxAt w b vs) (ho : w.ownsRow B T k v n xs) (hb : b < B) (hg : w.grownBy w' v.ownBlock) : BoxAt w' b vs := h.kept hg (fun e => own_ne ho hb e.symm)
theorem let_cells {W : World} {B : Nat} {l : LetC} (h : BoxAt W B (letL l)) : W.cell? ⟨B, 0, none⟩ = some (.string l.src) ∧ W.cell? ⟨B, 1, none⟩ = some (.string l.msg) ∧ W.cell? ⟨B, 2, none⟩ = some (.slice l.args.a l.args.n l.args.c) ∧ W.cell? ⟨B, 3, none⟩ = some (.int .i64 l.sent) :=
  ⟨h.2.1 0 _ rfl, h.2.1 1 _ rfl, h.2.1 2 _ rfl, h.2.1 3 _ rfl⟩
theorem own_alloc {w v v0 : World} {o : Obj} {u : Sl} {n : Nat} {xs : List Value} (h : v.ownsRow w.heap.size 47 7 (.slice u.a n u.c) n xs) (hv : v0 = w) : (v.alloc o).ownsRow v0.heap.size 47 7 (.slice u.a n u.c) n xs := by subst hv; exact h.alloc o
set_option linter.unusedSimpArgs false in
set_option linter.unusedVariables false in
set_option maxRecDepth 100000 in
set_option maxHeartbeats 3200000 in
theorem set20 {P : Nat → Prop} (s : SysC) (σ : Tm.TS) (n : Int) (p : ByteArray) (l : LetC) (ts : List Tr) (w : World) (h : TmR P w s σ) (hl : VR P w l.args ts) (hn : s.alarms.n ≤ 1000000) :
    Calls Try.prog 20 #[sysV s, .int .i64 n, .string p, letV l] w (TmPost P w s (Tm.set σ n p l.src l.msg ts l.sent)) := by
  obtain ⟨⟨ps, hps, hsn⟩, hck, hsq⟩ := h
  have H := Lib.hid hps
  have HS := Lib.hid hsn
  have CK := Lib.hid hck
  have SQ := Lib.hid hsq
  have HL := Lib.hid hl
  have HMW := Lib.hid hps.rd
  clear hps hsn hck hsq hl
  obtain ⟨i6, hi6, hz60, hz61, hz62⟩ := info_parts info47
  have BS0 : Hid (BoxAt (((w.alloc (.cells (stL s).toArray 28)).alloc (.cells (letL l).toArray 34)).alloc (.cells (stL stZ).toArray 28)) w.heap.size (stL s)) := Lib.hid (((BoxAt.new w 28 (stL s) _ rfl).alloc _).alloc _)
  have BL0 : Hid (BoxAt (((w.alloc (.cells (stL s).toArray 28)).alloc (.cells (letL l).toArray 34)).alloc (.cells (stL stZ).toArray 28)) (w.heap.size + 1) (letL l)) := Lib.hid ((BoxAt.new _ 34 (letL l) _ (by simp)).alloc _)
  have BZ0 : Hid (BoxAt (((w.alloc (.cells (stL s).toArray 28)).alloc (.cells (letL l).toArray 34)).alloc (.cells (stL stZ).toArray 28)) (w.heap.size + 1 + 1) (stL stZ)) := Lib.hid (BoxAt.new _ 28 (stL stZ) _ (by simp))
  have B0 : Hid (Below w.heap.size w (((w.alloc (.cells (stL s).toArray 28)).alloc (.cells (letL l).toArray 34)).alloc (.cells (stL stZ).toArray 28))) := Lib.hid (by repeat (first | (with_reducible exact Below.refl _ _) | (with_reducible assumption) | ((with_reducible refine Below.setCell ?_ ?_ _); rotate_left; (focus (first | omega | (simp; omega) | (simp; done)))) | ((with_reducible refine Below.alloc ?_ ?_ _); rotate_left; (focus (first | omega | (simp; omega) | (simp; done)))) | (with_reducible refine Below.drew ?_)))
  obtain ⟨v0, hv0⟩ : ∃ W, W = (((w.alloc (.cells (stL s).toArray 28)).alloc (.cells (letL l).toArray 34)).alloc (.cells (stL stZ).toArray 28)) := ⟨_, rfl⟩
  have hz0 : v0.heap.size = w.heap.size + 1 + 1 + 1 := by rw [hv0]; simp
  rw [← hv0] at BS0 BL0 BZ0 B0
  go_enter Try.func20, Try.ntmps20
  go_wp2_with (first
    | (at_builtin; refine wpList_append_lit _ 47 rfl (.tmp 14) (.tmp 16) 25 rfl i6 _ 7 96 Try.underlying25 hi6 hz60 hz61 hz62 rfl (by decide) _ rfl (by simp) _ _ _ _ ((ps.map (·.1)).flatMap flyL) rfl ((HMW.out.up B0.out).up (by rw [hv0]; exact Below.refl _ _)) (Nat.le_refl _) (fly_one _) (by omega) (by omega) ?_; intro u3 v1 hr3 ho3 h3; have HO3 := Lib.hid ho3; have H3 : Hid (Below v0.heap.size v0 v1) := Lib.hid (by rw [hv0]; exact h3); clear ho3 hr3 h3; have hz3 := H3.out.size; have BS1 := Lib.hid (BS0.out.call H3.out); have BL1 := Lib.hid (BL0.out.call H3.out); have BZ1 := Lib.hid (BZ0.out.call H3.out); obtain ⟨c0, c1, c2, c3, c4, c5, c6, c7, c8⟩ := st_cells BS1.out; obtain ⟨l0, l1, l2, l3⟩ := let_cells BL1.out)
    | (at_builtin; obtain ⟨X, hX⟩ : ∃ X, X = wrap64 (s.clock + min (max n 1) 1048576) := ⟨_, rfl⟩; rw [← hX]; have HX := Lib.hid hX; clear hX; refine wpList_append_own3 _ rfl (.tmp 18) (.tmp 28) 25 rfl v0.heap.size 47 i6 _ 7 96 Try.underlying25 hi6 hz60 hz61 hz62 rfl (by decide) (.slice u3.a s.alarms.n u3.c) s.alarms.n ((ps.map (·.1)).flatMap flyL) rfl (own_alloc HO3.out hv0) ⟨v1.heap.size, 0, none⟩ 1 1 (flyL ⟨X, s.seq, p, l⟩) rfl rfl (cells_new _ _ _) (by simp [Value.oneCell']) (by rw [ml_val]; omega) (by omega) (by simp; omega) (by omega) ?_; intro v' v2 ho hgr _; obtain ⟨u5, _, rfl, _⟩ := own_sl ho; have HO5 := Lib.hid ho; have BS2 := Lib.hid ((BS1.out.alloc _).kept_row (own_alloc HO3.out hv0) (by omega) hgr); have BZ2 := Lib.hid ((BZ1.out.alloc _).kept_row (own_alloc HO3.out hv0) (by omega) hgr); have HB2 : Hid (Below w.heap.size w v2) := Lib.hid (((Below.call B0.out H3.out).alloc (by omega) _).grown hgr (by simp; omega) (fun q hq => by have := row_base (own_alloc (o := .cells #[] 47) HO3.out hv0) q hq; omega)); have hz5 := HB2.out.size; clear ho hgr c0 c1 c2 c3 c4 c5 c6 c7 c8 l0 l1 l2 l3; obtain ⟨c0, c1, c2, c3, c4, c5, c6, c7, c8⟩ := st_cells BS2.out; obtain ⟨f0, f1, f2, f3, f4, f5, f6, f7, f8⟩ := st_free BS2.out; obtain ⟨z0, z1, z2, z3, z4, z5, z6, z7, z8⟩ := st_cells BZ2.out; obtain ⟨y0, y1, y2, y3, y4, y5, y6, y7, y8⟩ := st_free BZ2.out))
  clear hv0
  obtain ⟨Wf, hWf⟩ : ∃ W, W = putSt ((v2.setCell ⟨w.heap.size, 6, none⟩ (.slice u5.a (s.alarms.n + 1) u5.c)).setCell ⟨w.heap.size, 3, none⟩ (.int .i64 (wrap64 (s.seq + 1)))) (w.heap.size + 1 + 1) { s with seq := wrap64 (s.seq + 1), alarms := ⟨u5.a, s.alarms.n + 1, u5.c⟩ } := ⟨_, rfl⟩
  have hBf : Below w.heap.size w Wf := by rw [hWf]; exact putSt_below ((HB2.out.setCell (Nat.le_refl _) _).setCell (Nat.le_refl _) _) (by omega)
  have hal : Als (fun b => P b ∨ w.heap.size ≤ b) Wf ⟨u5.a, s.alarms.n + 1, u5.c⟩ (ps.map (·.2) ++ [⟨X, s.seq, p, l.src, l.msg, ts, l.sent⟩]) := by
    have ho : v2.ownsRow v0.heap.size 47 7 (.slice u5.a (s.alarms.n + 1) u5.c) (s.alarms.n + 1) ((ps.map (·.1) ++ [(⟨X, s.seq, p, l⟩ : FlyC)]).flatMap flyL) := by simpa using HO5.out
    refine als_snoc (B0 := v0.heap.size) H.out hBf ho ?_ (by omega) ⟨rfl, rfl, rfl, rfl, rfl, rfl, (HL.out.below hBf).mono (fun b hb => .inl hb)⟩
    rw [hWf]; exact own_off (own_set_other (own_set_other ho _ _ (own_ne (R := w.heap.size) ho (by omega))) _ _ (own_ne (R := w.heap.size) ho (by omega))) (putSt_off _ _ _) (by omega)
  rw [HS.out, HX.out, CK.out, SQ.out] at hal
  have e : sysT s (Tm.set σ n p l.src l.msg ts l.sent) ⟨u5.a, s.alarms.n + 1, u5.c⟩ = { s with seq := wrap64 (s.seq + 1), alarms := ⟨u5.a, s.alarms.n + 1, u5.c⟩ } := by
    show ({ s with clock := σ.clock, seq := wrap64 (σ.seq + 1), alarms := ⟨u5.a, s.alarms.n + 1, u5.c⟩ } : SysC) = _
    rw [← CK.out, ← SQ.out]
  refine bodyPost_ret (v := sysV (sysT s (Tm.set σ n p l.src l.msg ts l.sent) ⟨u5.a, s.alarms.n + 1, u5.c⟩)) ?_ rfl ?_
  · rw [e]; simp [results, Try.results20, go_sem, *]
  · rw [hWf] at hal hBf; exact ⟨_, rfl, hal, hBf⟩

/-- what the loop of the reference's Clear keeps -/
def ClRel (s : SysC) (fs : List FlyC) (g : FlyC → Bool) (w : World) (v i : Value) (wr : World) : Prop :=
  ∃ k : Nat, k ≤ s.alarms.n ∧ i = .int .i64 k ∧ wr.ownsRow (w.heap.size + 1 + 1) 47 7 v ((fs.take k).filter g).length (((fs.take k).filter g).flatMap flyL) ∧ (BoxAt wr w.heap.size (stL s) ∧ BoxAt wr (w.heap.size + 1) (stL stZ)) ∧ Below w.heap.size w wr
set_option linter.unusedSimpArgs false in
set_option linter.unusedVariables false in
set_option maxRecDepth 100000 in
set_option maxHeartbeats 3200000 in
theorem clear25 {P : Nat → Prop} (s : SysC) (σ : Tm.TS) (p : ByteArray) (w : World) (h : TmR P w s σ) (hn : s.alarms.n ≤ 1000000) :
    Calls Try.prog 25 #[sysV s, .string p] w (TmPost P w s (Tm.clear σ p)) := by
  obtain ⟨⟨ps, hps, hsn⟩, hck, hsq⟩ := h
  obtain ⟨fs, hfs⟩ : ∃ L, L = ps.map (·.1) := ⟨_, rfl⟩
  have H := Lib.hid hps
  have HS := Lib.hid hsn
  have CK := Lib.hid hck
  have SQ := Lib.hid hsq
  have HF := Lib.hid hfs
  have HR : Hid (Rd w w.heap.size 7 s.alarms.a s.alarms.n (fs.flatMap flyL)) := Lib.hid (by rw [hfs]; exact hps.rd)
  have HN : Hid (fs.length = s.alarms.n) := Lib.hid (by rw [hfs, List.length_map]; exact hps.len)
  clear hps hsn hck hsq hfs
  obtain ⟨i6, hi6, hz60, hz61, hz62⟩ := info_parts info47
  go_enter Try.func25, Try.ntmps25
  go_wp2_with fail
  go_loopw [5, 6] (ClRel s fs (fun f => decide (f.l.src ≠ p)) w) (fun _ i _ => s.alarms.n - (intOf i).toNat)
  case atStart => exact ⟨0, Nat.zero_le _, rfl, World.ownsRow_nil _ _ _ _, ⟨(BoxAt.new w 28 (stL s) _ rfl).alloc _, BoxAt.new _ 28 (stL stZ) _ (by simp)⟩, (by repeat (first | (with_reducible exact Below.refl _ _) | (with_reducible assumption) | ((with_reducible refine Below.setCell ?_ ?_ _); rotate_left; (focus (first | omega | (simp; omega) | (simp; done)))) | ((with_reducible refine Below.alloc ?_ ?_ _); rotate_left; (focus (first | omega | (simp; omega) | (simp; done)))) | (with_reducible refine Below.drew ?_)))⟩
  case round =>
    obtain ⟨k, hk, rfl, hrow, ⟨hbs, hbz⟩, hB⟩ := hrel
    have hsz := hbz.1
    have RW := Lib.hid hrow
    have BS := Lib.hid hbs
    have BZ := Lib.hid hbz
    clear hrow hbs hbz
    obtain ⟨c0, c1, c2, c3, c4, c5, c6, c7, c8⟩ := st_cells BS.out
    by_cases hlt : k < s.alarms.n
    · obtain ⟨b, off, f, hA, hb, hfk, hcl⟩ := HR.out.at_ (fun _ => rfl) (by omega) hlt
      have x0 : wr.cell? ⟨b, off + k * 7, none⟩ = some (.int .i64 f.x) := (hB.cell (p := ⟨b, off + k * 7, none⟩) hb).trans (hcl 0 _ rfl)
      have x1 : wr.cell? ⟨b, off + k * 7 + 1, none⟩ = some (.int .i64 f.y) := (hB.cell (p := ⟨b, off + k * 7 + 1, none⟩) hb).trans (hcl 1 _ rfl)
      have x2 : wr.cell? ⟨b, off + k * 7 + 2, none⟩ = some (.string f.path) := (hB.cell (p := ⟨b, off + k * 7 + 2, none⟩) hb).trans (hcl 2 _ rfl)
      have x3 : wr.cell? ⟨b, off + k * 7 + 3, none⟩ = some (.string f.l.src) := (hB.cell (p := ⟨b, off + k * 7 + 3, none⟩) hb).trans (hcl 3 _ rfl)
      have x4 : wr.cell? ⟨b, off + k * 7 + 4, none⟩ = some (.string f.l.msg) := (hB.cell (p := ⟨b, off + k * 7 + 4, none⟩) hb).trans (hcl 4 _ rfl)
      have x5 : wr.cell? ⟨b, off + k * 7 + 5, none⟩ = some (.slice f.l.args.a f.l.args.n f.l.args.c) := (hB.cell (p := ⟨b, off + k * 7 + 5, none⟩) hb).trans (hcl 5 _ rfl)
      have x6 : wr.cell? ⟨b, off + k * 7 + 6, none⟩ = some (.int .i64 f.l.sent) := (hB.cell (p := ⟨b, off + k * 7 + 6, none⟩) hb).trans (hcl 6 _ rfl)
      have hix : ∀ W : World, Sem.run Try.prog (Instr.indexAt 25 (.slice s.alarms.a s.alarms.n s.alarms.c) (.int .i64 (k : Int))) W = .ok (.pointer (some ⟨b, off + k * 7, none⟩)) W := by intro W; rw [hA]; go_simp
      have HF2 := Lib.hid (take_one hfk)
      have n1 : ¬ b = wr.heap.size := by omega
      have n2 : b < wr.heap.size := by omega
      have hln : ((fs.take k).filter (fun f => decide (f.l.src ≠ p))).length ≤ k := Nat.le_trans (List.length_filter_le _ _) (by simp; omega)
      obtain ⟨L, hL⟩ : ∃ L, L = (fs.take k).filter (fun f => decide (f.l.src ≠ p)) := ⟨_, rfl⟩
      rw [← hL] at RW hln
      have HL := Lib.hid hL
      clear hA hfk hcl hL
      by_cases hg : f.l.src = p
      · have t1 := str_yes hg
        have HG : Hid ((fs.take (k + 1)).filter (fun f => decide (f.l.src ≠ p)) = L) := Lib.hid (by rw [HF2.out, List.filter_append, HL.out]; simp [hg])
        clear hg
        go_wp2_with fail
        go_roundw
        case rel => exact ⟨k + 1, by omega, by go_num, by rw [HG.out]; exact RW.out, ⟨BS.out, BZ.out⟩, hB⟩
        case measure => simp [intOf]; omega
      · have t1 := str_no hg
        have HG : Hid ((fs.take (k + 1)).filter (fun f => decide (f.l.src ≠ p)) = L ++ [f]) := Lib.hid (by rw [HF2.out, List.filter_append, HL.out]; simp [hg])
        clear hg
        go_wp2_with (at_builtin; refine wpList_append_own _ rfl (.tmp 23) (.tmp 29) 25 rfl (w.heap.size + 1 + 1) 47 i6 _ 7 96 Try.underlying25 hi6 hz60 hz61 hz62 rfl (by decide) _ _ _ rfl (RW.out.alloc _) ⟨wr.heap.size, 0, none⟩ 1 1 (flyL f) rfl rfl (cells_new _ _ _) (by simp [Value.oneCell']) (by rw [ml_val]; omega) (by omega) (by simp; omega) ?_; intro v' w3 ho hgr _; have HO := Lib.hid ho; have BS2 := Lib.hid ((BS.out.alloc _).kept_row (RW.out.alloc _) (by omega) hgr); have BZ2 := Lib.hid ((BZ.out.alloc _).kept_row (RW.out.alloc _) (by omega) hgr); have HB2 : Hid (Below w.heap.size w w3) := Lib.hid ((hB.alloc (by omega) _).grown hgr (by simp; omega) (fun q hq => by have := row_base RW.out q hq; omega)); clear ho hgr)
        go_roundw
        case rel => exact ⟨k + 1, by omega, by go_num, by rw [HG.out]; simpa using HO.out, ⟨BS2.out, BZ2.out⟩, HB2.out⟩
        case measure => simp [intOf]; omega
    · have htk : fs.take k = fs := List.take_of_length_le (by have := HN.out; omega)
      rw [htk] at RW
      obtain ⟨m, hm⟩ : ∃ m, m = (fs.filter (fun f => decide (f.l.src ≠ p))).length := ⟨_, rfl⟩
      obtain ⟨L, hL⟩ : ∃ L, L = fs.filter (fun f => decide (f.l.src ≠ p)) := ⟨_, rfl⟩
      rw [← hm, ← hL] at RW
      have hml : m = L.length := by rw [hm, hL]
      have hLp : L = (ps.map (·.1)).filter (fun f => decide (f.l.src ≠ p)) := by rw [hL, HF.out]
      have HM := Lib.hid hml
      have HL := Lib.hid hLp
      clear hm hL hml hLp htk
      obtain ⟨v, _, rfl, _⟩ := own_sl RW.out
      obtain ⟨f0, f1, f2, f3, f4, f5, f6, f7, f8⟩ := st_free BS.out
      obtain ⟨z0, z1, z2, z3, z4, z5, z6, z7, z8⟩ := st_cells BZ.out
      obtain ⟨y0, y1, y2, y3, y4, y5, y6, y7, y8⟩ := st_free BZ.out
      go_wp2_with fail
      have hb : Below w.heap.size w (putSt (wr.setCell ⟨w.heap.size, 6, none⟩ (.slice v.a m v.c)) (w.heap.size + 1) { s with alarms := ⟨v.a, m, v.c⟩ }) := putSt_below (hB.setCell (Nat.le_refl _) _) (by omega)
      have hal : Als (fun b => P b ∨ w.heap.size ≤ b) (putSt (wr.setCell ⟨w.heap.size, 6, none⟩ (.slice v.a m v.c)) (w.heap.size + 1) { s with alarms := ⟨v.a, m, v.c⟩ }) ⟨v.a, m, v.c⟩ ((ps.map (·.2)).filter (fun a => decide (a.src ≠ p))) :=
        als_kept H.out _ (fun a => decide (a.src ≠ p)) (fun q hq => by rw [(H.out.al q hq).src]) HL.out HM.out RW.out (R := w.heap.size) (R' := w.heap.size + 1) (by omega) (by omega) (by omega) (putSt_off _ _ _) hb
      rw [HS.out] at hal
      have e : sysT s (Tm.clear σ p) ⟨v.a, m, v.c⟩ = { s with alarms := ⟨v.a, m, v.c⟩ } := by
        show ({ s with clock := σ.clock, seq := σ.seq, alarms := ⟨v.a, m, v.c⟩ } : SysC) = _
        rw [← CK.out, ← SQ.out]
      refine bodyPost_ret (v := sysV (sysT s (Tm.clear σ p) ⟨v.a, m, v.c⟩)) ?_ rfl ⟨_, rfl, hal, hb⟩
      rw [e]
      simp [results, Try.results25, go_sem, *]
end Go.Proofs.Ytjdjfjokniingaa
