/- The contract of the reference's insert into nothing, and of its Tick. -/
import Derived.Test.YtjdjfjokniingaaUh
namespace Go.Proofs.Ytjdjfjokniingaa
open Go.RowKit

set_option linter.unusedSimpArgs false in
set_option linter.unusedVariables false in
set_option maxRecDepth 100000 in
set_option maxHeartbeats 3200000 in
theorem insert67_nil (f : FlyC) (w : World) :
    Calls Try.prog 67 #[.slice none 0 0, flyV f] w fun e w' => ∃ v : Sl, e = .returned (.slice v.a (0 + 1) v.c) ∧ w'.ownsRow w.heap.size 47 7 (.slice v.a (0 + 1) v.c) (0 + 1) ((St.mg leF [] [f]).flatMap flyL) ∧ Below w.heap.size w w' := by
  obtain ⟨i6, hi6, hz60, hz61, hz62⟩ := info_parts info47
  have e1 := Lib.hid (show 0 + 0 ≤ maxLen by decide)
  have e2 := Lib.hid (show (0 + 0) * 96 ≤ 140737488355328 by decide)
  have e3 := Lib.hid (show 0 + 0 + 1 ≤ maxLen by decide)
  have e4 := Lib.hid (show (0 + 0 + 1) * 96 ≤ 140737488355328 by decide)
  have e5 := Lib.hid (show 0 + 0 + 1 + 0 ≤ maxLen by decide)
  have e6 := Lib.hid (show (0 + 0 + 1 + 0) * 96 ≤ 140737488355328 by decide)
  have BX0 : Hid (BoxAt (w.alloc (.cells (flyL f).toArray 47)) w.heap.size (flyL f)) := Lib.hid (BoxAt.new w 47 (flyL f) _ rfl)
  have hb0 : Below w.heap.size w (w.alloc (.cells (flyL f).toArray 47)) := below_new _ _
  obtain ⟨v0, hv0⟩ : ∃ W, W = w.alloc (.cells (flyL f).toArray 47) := ⟨_, rfl⟩
  rw [← hv0] at BX0 hb0
  have HB0 := Lib.hid hb0
  have hz0 : w.heap.size < v0.heap.size := BX0.out.1
  clear hb0
  go_enter Try.func67, Try.ntmps67
  go_wp2_with fail
  refine wp_loop_rounds 1 ?_
  rw [rounds_succ]
  go_wp2_with fail
  go_quiet (fail)
  rw [← hv0]
  obtain ⟨v9, hv9⟩ : ∃ W, W = v0.drewN nq := ⟨_, rfl⟩
  have BX9 : Hid (BoxAt v9 w.heap.size (flyL f)) := Lib.hid (by rw [hv9]; exact BX0.out.drewN nq)
  have HB9 : Hid (Below w.heap.size w v9) := Lib.hid (by rw [hv9]; exact below_drewN HB0.out nq)
  rw [← hv9]
  clear hv9 hv0 BX0 HB0 hz0
  have hz9 : w.heap.size < v9.heap.size := BX9.out.1
  obtain ⟨b0, b1, b2, b3, b4, b5, b6⟩ := fbox_cells BX9.out
  go_wp2_with (first
    | (at_builtin; refine wpList_append_rd _ rfl (.tmp 46) (.tmp 49) 25 rfl v9.heap.size 47 i6 _ 7 96 Try.underlying25 hi6 hz60 hz61 hz62 rfl (by decide) (.slice (some ⟨v9.heap.size, 0, none⟩) 0 0) 0 [] rfl (World.ownsRow_lit v9 #[] 0 (Nat.le_refl _) (by decide) rfl) w.heap.size _ _ _ [] rfl Rd.none_ (by simp) e1.out e2.out (by simp) ?_; intro v1 w1 ho1 hg1; have q1 : Hid (Below v9.heap.size v9 w1) := Lib.hid ((below_new v9 (.cells #[] 47)).grown hg1 (by simp) (fun q hq => by simp [Value.ownBlock] at hq; omega)); have HO1 := Lib.hid ho1; have hs1 := q1.out.size; have BX1 := Lib.hid (BX9.out.call q1.out); clear ho1 hg1 b0 b1 b2 b3 b4 b5 b6; obtain ⟨b0, b1, b2, b3, b4, b5, b6⟩ := fbox_cells BX1.out)
    | (at_builtin; refine wpList_append_own _ rfl (.tmp 51) (.tmp 53) 25 rfl v9.heap.size 47 i6 _ 7 96 Try.underlying25 hi6 hz60 hz61 hz62 rfl (by decide) _ _ _ rfl (HO1.out.alloc _) ⟨w1.heap.size, 0, none⟩ 1 1 (flyL f) rfl rfl (cells_new _ _ _) (by simp [Value.oneCell']) e3.out e4.out (Nat.le_trans hs1 (by simp)) ?_; intro v2 w2 ho2 hg2 _; have q2 : Hid (Below v9.heap.size v9 w2) := Lib.hid ((q1.out.alloc hs1 _).grown hg2 (Nat.le_trans hs1 (by simp)) (row_base HO1.out)); have HO2 := Lib.hid ho2; have hs2 := q2.out.size; clear ho2 hg2)
    | (at_builtin; refine wpList_append_rd _ rfl (.tmp 55) (.tmp 58) 25 rfl v9.heap.size 47 i6 _ 7 96 Try.underlying25 hi6 hz60 hz61 hz62 rfl (by decide) _ _ _ rfl HO2.out w.heap.size _ _ _ [] rfl Rd.none_ (by simp) e5.out e6.out hs2 ?_; intro v3 w3 ho3 hg3; have q3 : Hid (Below v9.heap.size v9 w3) := Lib.hid (q2.out.grown hg3 hs2 (row_base HO2.out)); have HO3 := Lib.hid ho3; clear ho3 hg3))
  go_ret
  obtain ⟨x, _, hv, _⟩ := own_sl HO3.out
  subst hv
  exact ⟨x, rfl, row_mono (own_len HO3.out rfl (by simp [St.mg])) (by omega), Below.call HB9.out q3.out⟩
theorem insert67_any (u : Sl) (B : Nat) (fs : List FlyC) (f : FlyC) (w : World) (hr : w.ownsRow B 47 7 (.slice u.a u.n u.c) u.n (fs.flatMap flyL)) (hn : u.n ≤ 1000000) (h0 : u = ⟨none, 0, 0⟩ ∨ 0 < u.n) (hs : St.Srt leF fs) :
    Calls Try.prog 67 #[.slice u.a u.n u.c, flyV f] w fun e w' => ∃ v : Sl, e = .returned (.slice v.a (u.n + 1) v.c) ∧ w'.ownsRow w.heap.size 47 7 (.slice v.a (u.n + 1) v.c) (u.n + 1) ((St.mg leF fs [f]).flatMap flyL) ∧ Below w.heap.size w w' := by
  rcases h0 with rfl | h0
  · have hfl : fs.length = 0 := (own_rd hr).len (fun _ => rfl) (by omega)
    have hfs : fs = [] := List.eq_nil_of_length_eq_zero hfl
    subst hfs
    exact insert67_nil f w
  · obtain ⟨a, n, c⟩ := u
    rcases own_case hr with ⟨_, h1, _⟩ | ⟨g, rfl, _⟩
    · simp only at h0 h1; omega
    · exact insert67_some g n c B fs f w hr hn h0 hs

theorem lt_pairs {P : Nat → Prop} {w : World} {ps : List (FlyC × AT)} {u : Sl} (H : AlsR P w u ps) (CK : Int) : ∃ qs : List (FlyC × AT), qs.map (·.1) = St.isort leF ((ps.map (·.1)).filter (fun f => decide (f.x ≤ CK))) ∧ qs.map (·.2) = St.isort Tm.leT ((ps.map (·.2)).filter fun a => decide (a.x ≤ CK)) ∧ ∀ p ∈ qs, AlR (fun b => P b ∧ b < w.heap.size) w p.1 p.2 := by
  have hg1 : ∀ p ∈ ps, decide (p.1.x ≤ CK) = decide (p.2.x ≤ CK) := fun p hp => by rw [(H.al p hp).x]
  have e1 := filter_pairs (fun f : FlyC => decide (f.x ≤ CK)) (fun a : AT => decide (a.x ≤ CK)) ps hg1
  obtain ⟨qs, q1, q2, q3⟩ := isort_pairs leF Tm.leT _ (ps.filter fun p => decide (p.2.x ≤ CK)) rfl (fun p hp q hq => by
    have hp' := H.al p (List.mem_filter.1 hp).1
    have hq' := H.al q (List.mem_filter.1 hq).1
    unfold leF Tm.leT
    rw [hp'.x, hp'.y, hq'.x, hq'.y])
  refine ⟨qs, by rw [q1, ← e1], by rw [q2, filter_snd (fun a : AT => decide (a.x ≤ CK))], fun p hp => (H.al p (List.mem_filter.1 (q3 p hp)).1).low⟩
/-- what the loop of the reference's Tick keeps -/
def RkRel (s : SysC) (CK : Int) (fs : List FlyC) (w : World) (v4 v5 i : Value) (wr : World) : Prop :=
  ∃ (k : Nat) (u : Sl), k ≤ s.alarms.n ∧ i = .int .i64 k ∧ v5 = .slice u.a u.n u.c ∧ (wr.ownsRow (w.heap.size + 1 + 1) 47 7 v4 ((fs.take k).filter (fun f => !decide (f.x ≤ CK))).length (((fs.take k).filter (fun f => !decide (f.x ≤ CK))).flatMap flyL) ∧
    wr.ownsRow (w.heap.size + 1 + 1) 47 7 (.slice u.a u.n u.c) u.n ((St.isort leF ((fs.take k).filter (fun f => decide (f.x ≤ CK)))).flatMap flyL)) ∧ (u = ⟨none, 0, 0⟩ ∨ 0 < u.n) ∧ u.n ≤ k ∧ ((Value.slice u.a u.n u.c).ownBlock = none ∨ (Value.slice u.a u.n u.c).ownBlock ≠ v4.ownBlock) ∧ (BoxAt wr w.heap.size (stL { s with clock := CK }) ∧ BoxAt wr (w.heap.size + 1) (stL stZ)) ∧ Below w.heap.size w wr

set_option linter.unusedSimpArgs false in
set_option linter.unusedVariables false in
set_option maxRecDepth 100000 in
set_option maxHeartbeats 3200000 in
theorem tickR_no {P : Nat → Prop} (s : SysC) (σ : Tm.TS) (w : World) (h : TmR P w s σ) (hc : decide (1073741824 ≤ s.clock) = true) :
    Calls Try.prog 22 #[sysV s] w (TkPost P w s σ) := by
  have hS : Tm.tickS σ = σ := by unfold Tm.tickS; rw [← h.ck, if_pos (by simpa using hc)]
  have hD : Tm.tickD σ = [] := by unfold Tm.tickD; rw [← h.ck, if_pos (by simpa using hc)]
  have e : sysT s σ s.alarms = s := by
    show ({ s with clock := σ.clock, seq := σ.seq } : SysC) = s
    rw [← h.ck, ← h.sq]
  have H := Lib.hid h
  have HS := Lib.hid hS
  have HD := Lib.hid hD
  have HE := Lib.hid e
  clear h hS hD e
  go_enter Try.func22, Try.ntmps22
  go_wp2_with fail
  refine bodyPost_ret (v := .tuple #[sysV s, .slice none 0 0]) (by simp [results, Try.results22, go_sem, *]) rfl ⟨s.alarms, ⟨none, 0, 0⟩, ?_, ?_, ?_, ?_⟩
  · rw [HS.out, HE.out]
  · rw [HS.out]
    refine (H.out.als.below ?_).mono (fun b hb => .inl hb)
    exact (by repeat (first | (with_reducible exact Below.refl _ _) | (with_reducible assumption) | ((with_reducible refine Below.setCell ?_ ?_ _); rotate_left; (focus (first | omega | (simp; omega) | (simp; done)))) | ((with_reducible refine Below.alloc ?_ ?_ _); rotate_left; (focus (first | omega | (simp; omega) | (simp; done)))) | (with_reducible refine Below.drew ?_)))
  · rw [HD.out]; exact Als.none_
  · exact (by repeat (first | (with_reducible exact Below.refl _ _) | (with_reducible assumption) | ((with_reducible refine Below.setCell ?_ ?_ _); rotate_left; (focus (first | omega | (simp; omega) | (simp; done)))) | ((with_reducible refine Below.alloc ?_ ?_ _); rotate_left; (focus (first | omega | (simp; omega) | (simp; done)))) | (with_reducible refine Below.drew ?_)))

set_option linter.unusedSimpArgs false in
set_option linter.unusedVariables false in
set_option maxRecDepth 100000 in
set_option maxHeartbeats 6400000 in
theorem tickR_yes {P : Nat → Prop} (s : SysC) (σ : Tm.TS) (w : World) (h : TmR P w s σ) (hn : s.alarms.n ≤ 100000) (hc : decide (1073741824 ≤ s.clock) = false) :
    Calls Try.prog 22 #[sysV s] w (TkPost P w s σ) := by
  obtain ⟨⟨ps, hps, hsn⟩, hck, hsq⟩ := h
  obtain ⟨CK, hCK⟩ : ∃ x, x = wrap64 (s.clock + 1) := ⟨_, rfl⟩
  obtain ⟨fs, hfs⟩ : ∃ L, L = ps.map (·.1) := ⟨_, rfl⟩
  have HR : Hid (Rd w w.heap.size 7 s.alarms.a s.alarms.n (fs.flatMap flyL)) := Lib.hid (by rw [hfs]; exact hps.rd)
  have HN : Hid (fs.length = s.alarms.n) := Lib.hid (by rw [hfs, List.length_map]; exact hps.len)
  have H := Lib.hid hps
  have HS := Lib.hid hsn
  have HCK := Lib.hid hCK
  have HF := Lib.hid hfs
  have CE := Lib.hid hck
  have SQ := Lib.hid hsq
  clear hps hsn hCK hfs hck hsq
  obtain ⟨i6, hi6, hz60, hz61, hz62⟩ := info_parts info47
  go_enter Try.func22, Try.ntmps22
  go_wp2_with fail
  rw [← HCK.out]
  go_loopw [4, 5, 6] (RkRel s CK fs w) (fun _ _ i _ => s.alarms.n - (intOf i).toNat)
  case atStart => exact ⟨0, ⟨none, 0, 0⟩, Nat.zero_le _, rfl, rfl, ⟨World.ownsRow_nil _ _ _ _, World.ownsRow_nil _ _ _ _⟩, .inl rfl, Nat.le_refl _, .inl rfl, ⟨(BoxAt.new w 28 (stL { s with clock := CK }) _ rfl).alloc _, BoxAt.new _ 28 (stL stZ) _ (by simp)⟩, (by repeat (first | (with_reducible exact Below.refl _ _) | (with_reducible assumption) | ((with_reducible refine Below.setCell ?_ ?_ _); rotate_left; (focus (first | omega | (simp; omega) | (simp; done)))) | ((with_reducible refine Below.alloc ?_ ?_ _); rotate_left; (focus (first | omega | (simp; omega) | (simp; done)))) | (with_reducible refine Below.drew ?_)))⟩
  case round =>
    obtain ⟨k, u, hk, rfl, rfl, ⟨hrk, hrd⟩, hu0, huk, hap, ⟨hbs, hbz⟩, hB⟩ := hrel
    have hsz := hbz.1
    have RK := Lib.hid hrk
    have RD := Lib.hid hrd
    have BS := Lib.hid hbs
    have BZ := Lib.hid hbz
    have U0 := Lib.hid hu0
    have AP := Lib.hid hap
    clear hrk hrd hbs hbz hu0 hap
    obtain ⟨c0, c1, c2, c3, c4, c5, c6, c7, c8⟩ := st_cells BS.out
    by_cases hlt : k < s.alarms.n
    · obtain ⟨b, off, f, hA, hb, hfk, hcl⟩ := HR.out.at_ (fun _ => rfl) (by omega) hlt
      have x0 : wr.cell? ⟨b, off + k * 7, none⟩ = some (.int .i64 f.x) := (hB.cell (p := ⟨b, off + k * 7, none⟩) hb).trans (hcl 0 _ rfl)
      have x1 : wr.cell? ⟨b, off + k * 7 + 1, none⟩ = some (.int .i64 f.y) := (hB.cell (p := ⟨b, off + k * 7 + 1, none⟩) hb).trans (hcl 1 _ rfl)
      have x2 : wr.cell? ⟨b, off + k * 7 + 2, none⟩ = some (.string f.path) := (hB.cell (p := ⟨b, off + k * 7 + 2, none⟩) hb).trans (hcl 2 _ rfl)
      have x3 : wr.cell? ⟨b, off + k * 7 + 3, none⟩ = some (.string f.l.src) := (hB.cell (p := ⟨b, off + k * 7 + 3, none⟩) hb).trans (hcl 3 _ rfl)
      have x4 : wr.cell? ⟨b, off + k * 7 + 4, none⟩ = some (.string f.l.msg) := (hB.cell (p := ⟨b, off + k * 7 + 4, none⟩) hb).trans (hcl 4 _ rfl)
      have x5 : wr.cell? ⟨b, off + k * 7 + 5, none⟩ = some (.slice f.l.args.a f.l.args.n f.l.args.c) := (hB.cell (p := ⟨b, off + k * 7 + 5, none⟩) hb).trans (hcl 5 _ rfl)
      have x6 : wr.cell? ⟨b, off + k * 7 + 6, none⟩ = some (.int .i64 f.l.sent) := (hB.cell (p := ⟨b, off + k * 7 + 6, none⟩) hb).trans (hcl 6 _ rfl)
      have hix : ∀ W : World, Sem.run Try.prog (Instr.indexAt 25 (.slice s.alarms.a s.alarms.n s.alarms.c) (.int .i64 (k : Int))) W = .ok (.pointer (some ⟨b, off + k * 7, none⟩)) W := by intro W; rw [hA]; go_simp
      have HF2 := Lib.hid (take_one hfk)
      have n1 : ¬ b = wr.heap.size := by omega
      have n2 : b < wr.heap.size := by omega
      obtain ⟨L1, hL1⟩ : ∃ L, L = (fs.take k).filter (fun f => decide (f.x ≤ CK)) := ⟨_, rfl⟩
      obtain ⟨L2, hL2⟩ : ∃ L, L = (fs.take k).filter (fun f => !decide (f.x ≤ CK)) := ⟨_, rfl⟩
      have hln : L2.length ≤ k := by rw [hL2]; exact Nat.le_trans (List.length_filter_le _ _) (by simp; omega)
      rw [← hL2] at RK
      rw [← hL1] at RD
      have HL1 := Lib.hid hL1
      have HL2 := Lib.hid hL2
      clear hA hfk hcl hL1 hL2
      cases hg : decide (f.x ≤ CK) with
      | true =>
        have HG1 : Hid ((fs.take (k + 1)).filter (fun f => decide (f.x ≤ CK)) = L1 ++ [f]) := Lib.hid (by rw [HF2.out, List.filter_append, HL1.out]; simp [of_decide_eq_true hg])
        have HG2 : Hid ((fs.take (k + 1)).filter (fun f => !decide (f.x ≤ CK)) = L2) := Lib.hid (by rw [HF2.out, List.filter_append, HL2.out]; simp [of_decide_eq_true hg])
        go_wp2_with fail
        go_quiet (fail)
        obtain ⟨v0, hv0⟩ : ∃ W, W = wr.drewN nq := ⟨_, rfl⟩
        have y0 : v0.cell? ⟨b, off + k * 7, none⟩ = some (.int .i64 f.x) := by rw [hv0]; exact x0
        have y1 : v0.cell? ⟨b, off + k * 7 + 1, none⟩ = some (.int .i64 f.y) := by rw [hv0]; exact x1
        have y2 : v0.cell? ⟨b, off + k * 7 + 2, none⟩ = some (.string f.path) := by rw [hv0]; exact x2
        have y3 : v0.cell? ⟨b, off + k * 7 + 3, none⟩ = some (.string f.l.src) := by rw [hv0]; exact x3
        have y4 : v0.cell? ⟨b, off + k * 7 + 4, none⟩ = some (.string f.l.msg) := by rw [hv0]; exact x4
        have y5 : v0.cell? ⟨b, off + k * 7 + 5, none⟩ = some (.slice f.l.args.a f.l.args.n f.l.args.c) := by rw [hv0]; exact x5
        have y6 : v0.cell? ⟨b, off + k * 7 + 6, none⟩ = some (.int .i64 f.l.sent) := by rw [hv0]; exact x6
        have hB0 : Hid (Below w.heap.size w v0) := Lib.hid (by rw [hv0]; exact below_drewN hB nq)
        have HO1 : Hid (v0.ownsRow (w.heap.size + 1 + 1) 47 7 u4 L2.length (L2.flatMap flyL)) := Lib.hid (by rw [hv0]; exact own_drewN RK.out nq)
        have HO2 : Hid (v0.ownsRow (w.heap.size + 1 + 1) 47 7 (.slice u.a u.n u.c) u.n ((St.isort leF L1).flatMap flyL)) := Lib.hid (by rw [hv0]; exact own_drewN RD.out nq)
        have BS0 : Hid (BoxAt v0 w.heap.size (stL { s with clock := CK })) := Lib.hid (by rw [hv0]; exact BS.out.drewN nq)
        have BZ0 : Hid (BoxAt v0 (w.heap.size + 1) (stL stZ)) := Lib.hid (by rw [hv0]; exact BZ.out.drewN nq)
        rw [← hv0]
        have hsz0 : w.heap.size + 1 < v0.heap.size := BZ0.out.1
        clear hv0 hB RK RD BS BZ c0 c1 c2 c3 c4 c5 c6 c7 c8 x0 x1 x2 x3 x4 x5 x6
        obtain ⟨c0, c1, c2, c3, c4, c5, c6, c7, c8⟩ := st_cells BS0.out
        have n3 : ¬ b = v0.heap.size := by omega
        go_wp2_with fail
        refine (insert67_any u (w.heap.size + 1 + 1) (St.isort leF L1) f v0 HO2.out (by omega) U0.out (St.isort_sorted leF_ok _)).mono ?_
        rintro e w1 ⟨x, rfl, hx, hb1⟩
        have HX := Lib.hid hx
        have HH := Lib.hid hb1
        clear hx hb1
        go_wp2_with fail
        go_roundw
        case rel =>
          refine ⟨k + 1, ⟨x.a, u.n + 1, x.c⟩, by omega, by go_num, rfl, ⟨?_, ?_⟩, .inr (by show 0 < u.n + 1; omega), by show u.n + 1 ≤ k + 1; omega, ?_, ⟨BS0.out.call HH.out, BZ0.out.call HH.out⟩, Below.call hB0.out HH.out⟩
          · rw [HG2.out]; exact own_below HO1.out HH.out
          · rw [HG1.out, St.isort_snoc]; exact row_mono HX.out (by omega)
          · cases ho : (Value.slice x.a (u.n + 1) x.c).ownBlock with
            | none => exact .inl rfl
            | some g =>
              refine .inr fun e => ?_
              have h1 := own_in HO1.out e.symm
              have h2 := row_base HX.out g ho
              omega
        case measure => simp [intOf]; omega
      | false =>
        have HG1 : Hid ((fs.take (k + 1)).filter (fun f => decide (f.x ≤ CK)) = L1) := Lib.hid (by rw [HF2.out, List.filter_append, HL1.out]; simp [of_decide_eq_false hg])
        have HG2 : Hid ((fs.take (k + 1)).filter (fun f => !decide (f.x ≤ CK)) = L2 ++ [f]) := Lib.hid (by rw [HF2.out, List.filter_append, HL2.out]; simp [of_decide_eq_false hg])
        go_wp2_with fail
        go_quiet (fail)
        obtain ⟨v0, hv0⟩ : ∃ W, W = wr.drewN nq := ⟨_, rfl⟩
        have y0 : v0.cell? ⟨b, off + k * 7, none⟩ = some (.int .i64 f.x) := by rw [hv0]; exact x0
        have y1 : v0.cell? ⟨b, off + k * 7 + 1, none⟩ = some (.int .i64 f.y) := by rw [hv0]; exact x1
        have y2 : v0.cell? ⟨b, off + k * 7 + 2, none⟩ = some (.string f.path) := by rw [hv0]; exact x2
        have y3 : v0.cell? ⟨b, off + k * 7 + 3, none⟩ = some (.string f.l.src) := by rw [hv0]; exact x3
        have y4 : v0.cell? ⟨b, off + k * 7 + 4, none⟩ = some (.string f.l.msg) := by rw [hv0]; exact x4
        have y5 : v0.cell? ⟨b, off + k * 7 + 5, none⟩ = some (.slice f.l.args.a f.l.args.n f.l.args.c) := by rw [hv0]; exact x5
        have y6 : v0.cell? ⟨b, off + k * 7 + 6, none⟩ = some (.int .i64 f.l.sent) := by rw [hv0]; exact x6
        have hB0 : Hid (Below w.heap.size w v0) := Lib.hid (by rw [hv0]; exact below_drewN hB nq)
        have HO1 : Hid (v0.ownsRow (w.heap.size + 1 + 1) 47 7 u4 L2.length (L2.flatMap flyL)) := Lib.hid (by rw [hv0]; exact own_drewN RK.out nq)
        have HO2 : Hid (v0.ownsRow (w.heap.size + 1 + 1) 47 7 (.slice u.a u.n u.c) u.n ((St.isort leF L1).flatMap flyL)) := Lib.hid (by rw [hv0]; exact own_drewN RD.out nq)
        have BS0 : Hid (BoxAt v0 w.heap.size (stL { s with clock := CK })) := Lib.hid (by rw [hv0]; exact BS.out.drewN nq)
        have BZ0 : Hid (BoxAt v0 (w.heap.size + 1) (stL stZ)) := Lib.hid (by rw [hv0]; exact BZ.out.drewN nq)
        rw [← hv0]
        have hsz0 : w.heap.size + 1 < v0.heap.size := BZ0.out.1
        clear hv0 hB RK RD BS BZ c0 c1 c2 c3 c4 c5 c6 c7 c8 x0 x1 x2 x3 x4 x5 x6
        obtain ⟨c0, c1, c2, c3, c4, c5, c6, c7, c8⟩ := st_cells BS0.out
        have n3 : ¬ b = v0.heap.size := by omega
        go_wp2_with (at_builtin; refine wpList_append_own3 _ rfl (.tmp 38) (.tmp 44) 25 rfl (w.heap.size + 1 + 1) 47 i6 _ 7 96 Try.underlying25 hi6 hz60 hz61 hz62 rfl (by decide) _ _ _ rfl (HO1.out.alloc _) ⟨v0.heap.size, 0, none⟩ 1 1 (flyL f) rfl rfl (cells_new _ _ _) (by simp [Value.oneCell']) (by rw [ml_val]; omega) (by omega) (by simp; omega) (by omega) ?_; intro v' w3 ho hgr hbl; have HO := Lib.hid ho; have HBL := Lib.hid hbl; have BS2 := Lib.hid ((BS0.out.alloc _).kept_row (HO1.out.alloc _) (by omega) hgr); have BZ2 := Lib.hid ((BZ0.out.alloc _).kept_row (HO1.out.alloc _) (by omega) hgr); have HD2 := Lib.hid ((HO2.out.alloc (.cells (flyL f).toArray 47)).kept hgr AP.out); have HB2 : Hid (Below w.heap.size w w3) := Lib.hid ((hB0.out.alloc (by omega) _).grown hgr (by simp; omega) (fun q hq => by have := row_base HO1.out q hq; omega)); clear ho hgr hbl)
        go_roundw
        case rel =>
          refine ⟨k + 1, u, by omega, by go_num, rfl, ⟨?_, ?_⟩, U0.out, by omega, ?_, ⟨BS2.out, BZ2.out⟩, HB2.out⟩
          · rw [HG2.out]; simpa using HO.out
          · rw [HG1.out]; exact HD2.out
          · rcases AP.out with h | h
            · exact .inl h
            · cases hu : (Value.slice u.a u.n u.c).ownBlock with
              | none => exact .inl rfl
              | some g =>
                refine .inr fun e => ?_
                rcases HBL.out with h2 | h2
                · rw [h2] at e; exact h (by rw [hu]; exact e)
                · have h3 := h2 g e.symm
                  have h4 := own_in HO2.out hu
                  simp at h3
                  omega
        case measure => simp [intOf]; omega
    · have htk : fs.take k = fs := List.take_of_length_le (by have := HN.out; omega)
      rw [htk] at RK RD
      obtain ⟨m, hm⟩ : ∃ m, m = (fs.filter (fun f => !decide (f.x ≤ CK))).length := ⟨_, rfl⟩
      obtain ⟨L2, hL2⟩ : ∃ L, L = fs.filter (fun f => !decide (f.x ≤ CK)) := ⟨_, rfl⟩
      rw [← hm, ← hL2] at RK
      have HM : Hid (m = L2.length) := Lib.hid (by rw [hm, hL2])
      have HL2 : Hid (L2 = (ps.map (·.1)).filter (fun f => !decide (f.x ≤ CK))) := Lib.hid (by rw [hL2, HF.out])
      clear hm hL2 htk
      obtain ⟨v, _, rfl, _⟩ := own_sl RK.out
      obtain ⟨f0, f1, f2, f3, f4, f5, f6, f7, f8⟩ := st_free BS.out
      obtain ⟨z0, z1, z2, z3, z4, z5, z6, z7, z8⟩ := st_cells BZ.out
      obtain ⟨y0, y1, y2, y3, y4, y5, y6, y7, y8⟩ := st_free BZ.out
      go_wp2_with fail
      obtain ⟨qs, q1, q2, q3⟩ := lt_pairs H.out CK
      obtain ⟨Wf, hWf⟩ : ∃ W, W = putSt (wr.setCell ⟨w.heap.size, 6, none⟩ (.slice v.a m v.c)) (w.heap.size + 1) { s with clock := CK, alarms := ⟨v.a, m, v.c⟩ } := ⟨_, rfl⟩
      have hb1 : Below w.heap.size w (wr.setCell ⟨w.heap.size, 6, none⟩ (.slice v.a m v.c)) := hB.setCell (Nat.le_refl _) _
      have hb : Below w.heap.size w Wf := by rw [hWf]; exact putSt_below hb1 (by omega)
      have hSq : Tm.tickS σ = ⟨CK, σ.seq, σ.als.filter fun a => !decide (a.x ≤ CK)⟩ := by
        unfold Tm.tickS
        rw [← CE.out, if_neg (by simpa using hc), ← HCK.out]
      have hDq : Tm.tickD σ = St.isort Tm.leT (σ.als.filter fun a => decide (a.x ≤ CK)) := by
        unfold Tm.tickD
        rw [← CE.out, if_neg (by simpa using hc), ← HCK.out]
      have ha1 : Als (fun b => P b ∨ w.heap.size ≤ b) Wf ⟨v.a, m, v.c⟩ (Tm.tickS σ).als := by
        rw [hSq, hWf]
        show Als _ _ _ (σ.als.filter _)
        rw [← HS.out]
        exact als_kept H.out _ (fun a => !decide (a.x ≤ CK)) (fun q hq => by rw [(H.out.al q hq).x]) HL2.out HM.out RK.out (R := w.heap.size) (R' := w.heap.size + 1) (by omega) (by omega) (by omega) (putSt_off _ _ _) (by rw [← hWf]; exact hb)
      have ha2 : Als (fun b => P b ∨ w.heap.size ≤ b) Wf u (Tm.tickD σ) := by
        rw [hDq, ← HS.out, ← q2, hWf]
        exact als_row (B0 := w.heap.size + 1 + 1) (R := w.heap.size + 1) (Q := fun b => P b ∧ b < w.heap.size) (by rw [q1, ← HF.out]; exact own_set_other RD.out _ _ (own_ne (R := w.heap.size) RD.out (by omega))) (putSt_off _ _ _) (by omega) (by omega) (fun p hp => (q3 p hp).below hb1) (fun b hb => by omega) (fun b hb => .inl hb.1)
      have e : sysT s (Tm.tickS σ) ⟨v.a, m, v.c⟩ = { s with clock := CK, alarms := ⟨v.a, m, v.c⟩ } := by
        rw [hSq]
        show ({ s with clock := CK, seq := σ.seq, alarms := ⟨v.a, m, v.c⟩ } : SysC) = _
        rw [← SQ.out]
      clear hSq hDq hb1 q1 q2 q3
      refine bodyPost_ret (v := .tuple #[sysV (sysT s (Tm.tickS σ) ⟨v.a, m, v.c⟩), .slice u.a u.n u.c]) ?_ rfl ?_
      · rw [e]; simp [results, Try.results22, go_sem, *]
      · rw [hWf] at ha1 ha2 hb; exact ⟨⟨v.a, m, v.c⟩, u, rfl, ha1, ha2, hb⟩
theorem tick22 {P : Nat → Prop} (s : SysC) (σ : Tm.TS) (w : World) (h : TmR P w s σ) (hn : s.alarms.n ≤ 100000) : Calls Try.prog 22 #[sysV s] w (TkPost P w s σ) := by
  cases hc : decide (1073741824 ≤ s.clock) with
  | true => exact tickR_no s σ w h hc
  | false => exact tickR_yes s σ w h hn hc
end Go.Proofs.Ytjdjfjokniingaa
