/- The contract of the reference's Drop. -/
import Derived.Test.YtjdjfjokniingaaXf
namespace Go.Proofs.Ytjdjfjokniingaa
open Go.RowKit

/-- a loop that fills a row of its own, since the world W0 -/
def RowRel (T k : Nat) (f : Nat → List Value) (c : Nat → Nat) (n : Nat) (W0 : World) (v i : Value) (wr : World) : Prop :=
  ∃ j : Nat, j ≤ n ∧ i = .int .i64 j ∧ wr.ownsRow W0.heap.size T k v (c j) (f j) ∧ Below W0.heap.size W0 wr
theorem RowRel.keep {T k n j : Nat} {f : Nat → List Value} {c : Nat → Nat} {W0 wr w1 : World} {v i : Value} (hi : i = .int .i64 ((j + 1 : Nat) : Int)) (hj : j < n) (hf : f (j + 1) = f j) (hc : c (j + 1) = c j) (hR : wr.ownsRow W0.heap.size T k v (c j) (f j)) (hB : Below W0.heap.size W0 wr) (h1 : Below wr.heap.size wr w1) : RowRel T k f c n W0 v i w1 :=
  ⟨j + 1, hj, hi, by rw [hf, hc]; exact own_below hR h1, hB.trans (h1.mono hB.size)⟩
theorem RowRel.add {T k n j : Nat} {f : Nat → List Value} {c : Nat → Nat} {W0 wr w1 w3 : World} {v v' i : Value} {new : List Value} (o : Obj) (hi : i = .int .i64 ((j + 1 : Nat) : Int)) (hj : j < n) (hf : f (j + 1) = f j ++ new) (hc : c (j + 1) = c j + 1) (hR0 : wr.ownsRow W0.heap.size T k v (c j) (f j)) (hB : Below W0.heap.size W0 wr) (h1 : Below wr.heap.size wr w1)
    (hR : w3.ownsRow W0.heap.size T k v' (c j + 1) (f j ++ new)) (hg : (w1.alloc o).grownBy w3 v.ownBlock) : RowRel T k f c n W0 v' i w3 := by
  have s1 := h1.size
  have s2 := hB.size
  exact ⟨j + 1, hj, hi, by rw [hf, hc]; exact hR, ((hB.trans (h1.mono hB.size)).alloc (by omega) o).grown hg (by simp; omega) (row_base hR0)⟩
theorem own_fresh {w : World} {base T k n : Nat} {v : Value} {xs : List Value} (h : w.ownsRow base T k v n xs) : v.ownBlock ≠ some w.heap.size := by
  rcases h.2 with ⟨rfl, _⟩ | ⟨g, cap, cur, rfl, hb, hg, _⟩
  · simp [Value.ownBlock]
  · intro e
    simp [Value.ownBlock] at e
    have := (Array.getElem?_eq_some_iff.1 hg).1
    omega
theorem take_snoc2 {α : Type} {l : List α} {j : Nat} {a : α} (h : l[j]? = some a) : l.take (j + 1) = l.take j ++ [a] := take_snoc' _ j a h
theorem filt_add {l : List FlyC} {q : FlyC → Bool} {j : Nat} {f : FlyC} (h : l[j]? = some f) (hq : q f = true) : ((l.take (j + 1)).filter q).flatMap flyL = ((l.take j).filter q).flatMap flyL ++ flyL f ∧ ((l.take (j + 1)).filter q).length = ((l.take j).filter q).length + 1 := by
  rw [take_snoc2 h, List.filter_append]
  simp [hq]
theorem filt_keep {l : List FlyC} {q : FlyC → Bool} {j : Nat} {f : FlyC} (h : l[j]? = some f) (hq : q f = false) : ((l.take (j + 1)).filter q).flatMap flyL = ((l.take j).filter q).flatMap flyL ∧ ((l.take (j + 1)).filter q).length = ((l.take j).filter q).length := by
  rw [take_snoc2 h, List.filter_append]
  simp [hq]
theorem Ml.here_find (node : Int) (p : ByteArray) : ∀ (ls : List LiveC), Ml.here node (pnL ls) p = (Ml.find (ls.map (·.path)) p).bind fun i => (ls[i]?).map fun a => decide (a.node = node)
  | [] => rfl
  | a :: ls => by
    have ih := Ml.here_find node p ls
    unfold Ml.here Ml.find pnL at ih ⊢
    rw [List.map_cons, List.map_cons, List.find?_cons, List.findIdx?_cons]
    by_cases h : a.path = p
    · simp [h]
    · simp only [h, decide_false]
      rw [ih]
      cases hf : List.findIdx? (fun q => decide (q = p)) (ls.map (·.path)) <;> simp
theorem row_len {w : World} {base T k n : Nat} {v : Value} {xs : List Value} (h : w.ownsRow base T k v n xs) : ∃ u : Sl, v = .slice u.a n u.c ∧ Rd w w.heap.size k u.a n xs ∧ n ≤ u.c ∧ ∀ g, u.a.map (·.block) = some g → base ≤ g := by
  obtain ⟨u, _, rfl, hb⟩ := own_sl h
  exact ⟨u, rfl, own_rd h, own_cap h, hb⟩

set_option linter.unusedSimpArgs false in
set_option linter.unusedVariables false in
set_option maxRecDepth 100000 in
set_option maxHeartbeats 6400000 in
theorem drop43 {P : Nat → Prop} (s : SysC) (σ : PS) (node : Int) (w : World) (h : SysR P w s σ) (hna : s.actors.n ≤ 1000000) (hnl : s.alarms.n ≤ 1000000) (hnf : s.flights.n ≤ 1000000) :
    Calls Try.prog 43 #[sysV s, .int .i64 node] w fun e w' => ∃ s', e = .returned (sysV s') ∧ SysR (fun b => P b ∨ w.heap.size ≤ b) w' s' (Ml.drop σ node) ∧ Below w.heap.size w w' := by
  obtain ⟨qs, hq1, hq2, hq3⟩ := h.ac
  obtain ⟨ls, hls⟩ : ∃ ls, qs.map (·.1) = ls := ⟨_, rfl⟩
  rw [hls] at hq1
  have HLS := Lib.hid hls
  have HQ1 := Lib.hid hq1
  have HLL := Lib.hid (hq1.len (fun _ => rfl) (by omega))
  have HQ2 := Lib.hid hq2
  have HQ3 := Lib.hid hq3
  have HF := Lib.hid h.fl
  have HFL := Lib.hid (h.fl.len (fun _ => rfl) (by omega))
  have HA := Lib.hid h.al
  have HAL := Lib.hid (h.al.len (fun _ => rfl) (by omega))
  have C := Lib.hid (fun (W : World) (p : ByteArray) (hW : Below w.heap.size w W) => find45 s ls p W (hq1.up hW) (by omega))
  have H := Lib.hid h
  obtain ⟨i7, hi7, hz70, hz71, hz72⟩ := info_parts info76
  obtain ⟨i6, hi6, hz60, hz61, hz62⟩ := info_parts info66
  obtain ⟨i5, hi5, hz50, hz51, hz52⟩ := info_parts info47
  clear h hq1 hq2 hq3 hls
  have BS0 : Hid (BoxAt ((w.alloc (.cells #[.slice s.up.a s.up.n s.up.c, .int .i64 s.moment, .int .i64 s.clock, .int .i64 s.seq, .slice s.actors.a s.actors.n s.actors.c, .slice s.flights.a s.flights.n s.flights.c, .slice s.alarms.a s.alarms.n s.alarms.c, .slice s.asked.a s.asked.n s.asked.c, .int .i64 s.dead] 28)).alloc (.cells #[.slice none 0 0, .int .i64 0, .int .i64 0, .int .i64 0, .slice none 0 0, .slice none 0 0, .slice none 0 0, .slice none 0 0, .int .i64 0] 28)) w.heap.size (sysL s)) := Lib.hid ((BoxAt.new w 28 (sysL s) _ rfl).alloc _)
  have BZ0 : Hid (BoxAt ((w.alloc (.cells #[.slice s.up.a s.up.n s.up.c, .int .i64 s.moment, .int .i64 s.clock, .int .i64 s.seq, .slice s.actors.a s.actors.n s.actors.c, .slice s.flights.a s.flights.n s.flights.c, .slice s.alarms.a s.alarms.n s.alarms.c, .slice s.asked.a s.asked.n s.asked.c, .int .i64 s.dead] 28)).alloc (.cells #[.slice none 0 0, .int .i64 0, .int .i64 0, .int .i64 0, .slice none 0 0, .slice none 0 0, .slice none 0 0, .slice none 0 0, .int .i64 0] 28)) (w.heap.size + 1) (sysL sysZ)) := Lib.hid (BoxAt.new _ 28 (sysL sysZ) _ (by simp))
  have B0 : Hid (Below w.heap.size w ((w.alloc (.cells #[.slice s.up.a s.up.n s.up.c, .int .i64 s.moment, .int .i64 s.clock, .int .i64 s.seq, .slice s.actors.a s.actors.n s.actors.c, .slice s.flights.a s.flights.n s.flights.c, .slice s.alarms.a s.alarms.n s.alarms.c, .slice s.asked.a s.asked.n s.asked.c, .int .i64 s.dead] 28)).alloc (.cells #[.slice none 0 0, .int .i64 0, .int .i64 0, .int .i64 0, .slice none 0 0, .slice none 0 0, .slice none 0 0, .slice none 0 0, .int .i64 0] 28))) := Lib.hid (by repeat (first | (with_reducible exact Below.refl _ _) | (with_reducible assumption) | ((with_reducible refine Below.setCell ?_ ?_ _); rotate_left; (focus (first | omega | (simp; omega) | (simp; done)))) | ((with_reducible refine Below.alloc ?_ ?_ _); rotate_left; (focus (first | omega | (simp; omega) | (simp; done)))) | (with_reducible refine Below.drew ?_)))
  obtain ⟨v0, hv0⟩ : ∃ W, W = ((w.alloc (.cells #[.slice s.up.a s.up.n s.up.c, .int .i64 s.moment, .int .i64 s.clock, .int .i64 s.seq, .slice s.actors.a s.actors.n s.actors.c, .slice s.flights.a s.flights.n s.flights.c, .slice s.alarms.a s.alarms.n s.alarms.c, .slice s.asked.a s.asked.n s.asked.c, .int .i64 s.dead] 28)).alloc (.cells #[.slice none 0 0, .int .i64 0, .int .i64 0, .int .i64 0, .slice none 0 0, .slice none 0 0, .slice none 0 0, .slice none 0 0, .int .i64 0] 28)) := ⟨_, rfl⟩
  have hz0 : w.heap.size + 1 + 1 ≤ v0.heap.size := by rw [hv0]; simp
  rw [← hv0] at BS0 BZ0 B0
  go_enter Try.func43, Try.ntmps43
  go_wp2_with fail
  rw [← hv0]
  clear hv0
  go_loopw [5, 8] (RowRel 76 9 (fun j => ((ls.take j).map (dz node)).flatMap liveL) (fun j => j) s.actors.n v0) (fun _ i _ => s.actors.n - (intOf i).toNat)
  case atStart => exact ⟨0, Nat.zero_le _, rfl, World.ownsRow_nil _ _ _ _, Below.refl _ _⟩
  case round =>
    obtain ⟨k, hk, rfl, hrow, hB⟩ := hrel
    dsimp only at hrow
    have hsz := hB.size
    have HR := Lib.hid hrow
    have HBR := Lib.hid hB
    have HBW := Lib.hid (B0.out.trans (hB.mono (by omega)))
    have BS := Lib.hid (BS0.out.call hB)
    have BZ := Lib.hid (BZ0.out.call hB)
    clear hrow hB
    obtain ⟨c0, c1, c2, c3, c4, c5, c6, c7, c8⟩ := sbox_cells BS.out
    by_cases hlt : k < s.actors.n
    · obtain ⟨b, off, a, hA, hb, hak, hc⟩ := HQ1.out.at_ (fun _ => rfl) (by omega) hlt
      have x0 : wr.cell? ⟨b, off + k * 9, none⟩ = some (.string a.path) := (HBW.out.cell (p := ⟨b, off + k * 9, none⟩) hb).trans (hc 0 _ rfl)
      have x1 : wr.cell? ⟨b, off + k * 9 + 1, none⟩ = some (.string a.type) := (HBW.out.cell (p := ⟨b, off + k * 9 + 1, none⟩) hb).trans (hc 1 _ rfl)
      have x2 : wr.cell? ⟨b, off + k * 9 + 2, none⟩ = some (.int .i64 a.node) := (HBW.out.cell (p := ⟨b, off + k * 9 + 2, none⟩) hb).trans (hc 2 _ rfl)
      have x3 : wr.cell? ⟨b, off + k * 9 + 3, none⟩ = some (.slice a.init.a a.init.n a.init.c) := (HBW.out.cell (p := ⟨b, off + k * 9 + 3, none⟩) hb).trans (hc 3 _ rfl)
      have x4 : wr.cell? ⟨b, off + k * 9 + 4, none⟩ = some (.slice a.vars.a a.vars.n a.vars.c) := (HBW.out.cell (p := ⟨b, off + k * 9 + 4, none⟩) hb).trans (hc 4 _ rfl)
      have x5 : wr.cell? ⟨b, off + k * 9 + 5, none⟩ = some (.int .i64 a.kids) := (HBW.out.cell (p := ⟨b, off + k * 9 + 5, none⟩) hb).trans (hc 5 _ rfl)
      have x6 : wr.cell? ⟨b, off + k * 9 + 6, none⟩ = some (.int .i64 a.rest) := (HBW.out.cell (p := ⟨b, off + k * 9 + 6, none⟩) hb).trans (hc 6 _ rfl)
      have x7 : wr.cell? ⟨b, off + k * 9 + 7, none⟩ = some (.bool a.stopped) := (HBW.out.cell (p := ⟨b, off + k * 9 + 7, none⟩) hb).trans (hc 7 _ rfl)
      have x8 : wr.cell? ⟨b, off + k * 9 + 8, none⟩ = some (.slice a.mail.a a.mail.n a.mail.c) := (HBW.out.cell (p := ⟨b, off + k * 9 + 8, none⟩) hb).trans (hc 8 _ rfl)
      have hix : ∀ W : World, Sem.run Try.prog (Instr.indexAt 23 (.slice s.actors.a s.actors.n s.actors.c) (.int .i64 (k : Int))) W = .ok (.pointer (some ⟨b, off + k * 9, none⟩)) W := by intro W; rw [hA]; go_simp
      have HAK := Lib.hid (take_snoc2 hak)
      clear hA hak hc
      have n1 : ¬ b = wr.heap.size := by have := HBW.out.size; omega
      have n2 : b < wr.heap.size := by have := HBW.out.size; omega
      have m0 : w.heap.size < wr.heap.size := BS.out.1
      by_cases hn : a.node = node
      · have t1 : (a.node == node) = true := by simp [hn]
        have HZ : Hid ((fun j => ((ls.take j).map (dz node)).flatMap liveL) (k + 1) = (fun j => ((ls.take j).map (dz node)).flatMap liveL) k ++ liveL { a with mail := ⟨none, 0, 0⟩ }) := Lib.hid (by
          show ((ls.take (k + 1)).map (dz node)).flatMap liveL = ((ls.take k).map (dz node)).flatMap liveL ++ _
          rw [HAK.out, List.map_append, List.flatMap_append]
          simp [dz, hn])
        clear hn
        go_wp2_with (at_builtin; refine wpList_append_own _ rfl (.tmp 31) (.tmp 33) 23 rfl v0.heap.size 76 i7 _ 9 136 Try.underlying23 hi7 hz70 hz71 hz72 rfl (by decide) _ _ _ rfl ((HR.out.alloc _).alloc _) ⟨wr.heap.size + 1, 0, none⟩ 1 1 (liveL { a with mail := ⟨none, 0, 0⟩ }) rfl rfl (cells_new0 _ _ _ _ (by simp)) (by simp [Value.oneCell']) (by rw [ml_val]; omega) (by omega) (by first | omega | (simp; omega) | (simp; done)) ?_; intro v' w3 ho hgr _; have HO := Lib.hid ho; have HG := Lib.hid hgr; clear ho hgr)
        go_roundw
        case rel => exact RowRel.add _ (by go_num) hlt HZ.out rfl HR.out HBR.out ((Below.refl _ _).alloc (Nat.le_refl _) _) HO.out HG.out
        case measure => simp [intOf]; omega
      · have t1 : (a.node == node) = false := by simp [hn]
        have HZ : Hid ((fun j => ((ls.take j).map (dz node)).flatMap liveL) (k + 1) = (fun j => ((ls.take j).map (dz node)).flatMap liveL) k ++ liveL a) := Lib.hid (by
          show ((ls.take (k + 1)).map (dz node)).flatMap liveL = ((ls.take k).map (dz node)).flatMap liveL ++ _
          rw [HAK.out, List.map_append, List.flatMap_append]
          simp [dz, hn])
        clear hn
        go_wp2_with (at_builtin; refine wpList_append_own _ rfl (.tmp 31) (.tmp 33) 23 rfl v0.heap.size 76 i7 _ 9 136 Try.underlying23 hi7 hz70 hz71 hz72 rfl (by decide) _ _ _ rfl ((HR.out.alloc _).alloc _) ⟨wr.heap.size + 1, 0, none⟩ 1 1 (liveL a) rfl rfl (cells_new0 _ _ _ _ (by simp)) (by simp [Value.oneCell']) (by rw [ml_val]; omega) (by omega) (by first | omega | (simp; omega) | (simp; done)) ?_; intro v' w3 ho hgr _; have HO := Lib.hid ho; have HG := Lib.hid hgr; clear ho hgr)
        go_roundw
        case rel => exact RowRel.add _ (by go_num) hlt HZ.out rfl HR.out HBR.out ((Below.refl _ _).alloc (Nat.le_refl _) _) HO.out HG.out
        case measure => simp [intOf]; omega
    · obtain rfl : k = s.actors.n := by omega
      have e1 : (fun j => ((ls.take j).map (dz node)).flatMap liveL) s.actors.n = (ls.map (dz node)).flatMap liveL := by
        show ((ls.take s.actors.n).map (dz node)).flatMap liveL = _
        rw [List.take_of_length_le (by rw [HLL.out]; exact Nat.le_refl _)]
      obtain ⟨u5, rfl, hr5, hc5, hb5⟩ := row_len HR.out
      rw [show ((ls.take s.actors.n).map (dz node)).flatMap liveL = (ls.map (dz node)).flatMap liveL from e1] at hr5
      have R5 := Lib.hid hr5
      have BB5 := Lib.hid hb5
      clear e1 hr5 hb5 hc5 HR HBR
      obtain ⟨W2, rfl⟩ : ∃ W2, W2 = wr := ⟨_, rfl⟩
      obtain ⟨n2, hn2⟩ : ∃ n2, w.heap.size + 1 + 1 ≤ n2 ∧ n2 ≤ W2.heap.size := ⟨v0.heap.size, hz0, hsz⟩
      go_wp2_with fail
      clear c0 c1 c2 c3 c4 c5 c6 c7 c8
      go_loopw [6, 10] (RowRel 47 7 (fun j => ((σ.als.take j).filter (fun f => !((Ml.here node (pnL ls) f.l.src).getD false))).flatMap flyL) (fun j => ((σ.als.take j).filter (fun f => !((Ml.here node (pnL ls) f.l.src).getD false))).length) s.alarms.n W2) (fun _ i _ => s.alarms.n - (intOf i).toNat)
      case atStart => exact ⟨0, Nat.zero_le _, rfl, World.ownsRow_nil _ _ _ _, Below.refl _ _⟩
      case round =>
        obtain ⟨k, hk, rfl, hrow, hB⟩ := hrel
        dsimp only at hrow
        have hsz2 := hB.size
        have HR := Lib.hid hrow
        have HBR := Lib.hid hB
        have HBW3 := Lib.hid (HBW.out.trans (hB.mono (by omega)))
        have BS3 := Lib.hid (BS.out.call hB)
        have BZ3 := Lib.hid (BZ.out.call hB)
        clear hrow hB
        obtain ⟨c0, c1, c2, c3, c4, c5, c6, c7, c8⟩ := sbox_cells BS3.out
        by_cases hlt : k < s.alarms.n
        · obtain ⟨b, off, f, hA, hb, hfk, hc⟩ := HA.out.at_ (fun _ => rfl) (by omega) hlt
          have x0 : wr.cell? ⟨b, off + k * 7, none⟩ = some (.int .i64 f.x) := (HBW3.out.cell (p := ⟨b, off + k * 7, none⟩) hb).trans (hc 0 _ rfl)
          have x1 : wr.cell? ⟨b, off + k * 7 + 1, none⟩ = some (.int .i64 f.y) := (HBW3.out.cell (p := ⟨b, off + k * 7 + 1, none⟩) hb).trans (hc 1 _ rfl)
          have x2 : wr.cell? ⟨b, off + k * 7 + 2, none⟩ = some (.string f.path) := (HBW3.out.cell (p := ⟨b, off + k * 7 + 2, none⟩) hb).trans (hc 2 _ rfl)
          have x3 : wr.cell? ⟨b, off + k * 7 + 3, none⟩ = some (.string f.l.src) := (HBW3.out.cell (p := ⟨b, off + k * 7 + 3, none⟩) hb).trans (hc 3 _ rfl)
          have x4 : wr.cell? ⟨b, off + k * 7 + 4, none⟩ = some (.string f.l.msg) := (HBW3.out.cell (p := ⟨b, off + k * 7 + 4, none⟩) hb).trans (hc 4 _ rfl)
          have x5 : wr.cell? ⟨b, off + k * 7 + 5, none⟩ = some (.slice f.l.args.a f.l.args.n f.l.args.c) := (HBW3.out.cell (p := ⟨b, off + k * 7 + 5, none⟩) hb).trans (hc 5 _ rfl)
          have x6 : wr.cell? ⟨b, off + k * 7 + 6, none⟩ = some (.int .i64 f.l.sent) := (HBW3.out.cell (p := ⟨b, off + k * 7 + 6, none⟩) hb).trans (hc 6 _ rfl)
          have hix : ∀ W : World, Sem.run Try.prog (Instr.indexAt 25 (.slice s.alarms.a s.alarms.n s.alarms.c) (.int .i64 (k : Int))) W = .ok (.pointer (some ⟨b, off + k * 7, none⟩)) W := by intro W; rw [hA]; go_simp
          have HFK := Lib.hid hfk
          have HC := Lib.hid hc
          clear hA hfk hc
          have n1 : b < wr.heap.size := by have := HBW3.out.size; omega
          have m0 : w.heap.size < wr.heap.size := BS3.out.1
          have hcnt : ((σ.als.take k).filter (fun f => !((Ml.here node (pnL ls) f.l.src).getD false))).length ≤ k := Nat.le_trans (List.length_filter_le _ _) (by simp; omega)
          have CF := Lib.hid (fun (W : World) (hW : Below w.heap.size w W) => C.out W f.l.src hW)
          cases hf : Ml.find (ls.map (·.path)) f.l.src with
          | none =>
            rw [hf] at CF
            have HZ := Lib.hid (filt_add (q := (fun f => !((Ml.here node (pnL ls) f.l.src).getD false))) HFK.out (by simp only [Ml.here_find, hf]; rfl))
            clear hf
            go_wp2_with fail
            go_region_held3 (fun w' => w'.cell? ⟨w.heap.size, 0, none⟩ = some (.slice s.up.a s.up.n s.up.c) ∧ w'.cell? ⟨w.heap.size, 1, none⟩ = some (.int .i64 s.moment) ∧ w'.cell? ⟨w.heap.size, 2, none⟩ = some (.int .i64 s.clock) ∧ w'.cell? ⟨w.heap.size, 3, none⟩ = some (.int .i64 s.seq) ∧ w'.cell? ⟨w.heap.size, 4, none⟩ = some (.slice s.actors.a s.actors.n s.actors.c) ∧ w'.cell? ⟨w.heap.size, 5, none⟩ = some (.slice s.flights.a s.flights.n s.flights.c) ∧ w'.cell? ⟨w.heap.size, 6, none⟩ = some (.slice s.alarms.a s.alarms.n s.alarms.c) ∧ w'.cell? ⟨w.heap.size, 7, none⟩ = some (.slice s.asked.a s.asked.n s.asked.c) ∧ w'.cell? ⟨w.heap.size, 8, none⟩ = some (.int .i64 s.dead) ∧ w'.cell? ⟨b, off + k * 7 + 3, none⟩ = some (.string f.l.src)) (simp [go_sem, *])
              ((go_at_call 45; (with_reducible refine (CF.out _ HBW3.out.drew).mono ?_); rintro e v1 ⟨rfl, h1⟩; have H1 : Hid (Below wr.heap.size wr v1) := Lib.hid (Below.call (Below.refl _ wr).drew h1); have hz9 := H1.out.size; have BS4 := Lib.hid (BS3.out.call H1.out); have HB1 := Lib.hid (Below.call HBW3.out H1.out); clear h1; obtain ⟨g0, g1, g2, g3, g4, g5, g6, g7, g8⟩ := sbox_cells BS4.out; have y0 : v1.cell? ⟨b, off + k * 7, none⟩ = some (.int .i64 f.x) := (HB1.out.cell (p := ⟨b, off + k * 7, none⟩) hb).trans (HC.out 0 _ rfl); have y1 : v1.cell? ⟨b, off + k * 7 + 1, none⟩ = some (.int .i64 f.y) := (HB1.out.cell (p := ⟨b, off + k * 7 + 1, none⟩) hb).trans (HC.out 1 _ rfl); have y2 : v1.cell? ⟨b, off + k * 7 + 2, none⟩ = some (.string f.path) := (HB1.out.cell (p := ⟨b, off + k * 7 + 2, none⟩) hb).trans (HC.out 2 _ rfl); have y3 : v1.cell? ⟨b, off + k * 7 + 3, none⟩ = some (.string f.l.src) := (HB1.out.cell (p := ⟨b, off + k * 7 + 3, none⟩) hb).trans (HC.out 3 _ rfl); have y4 : v1.cell? ⟨b, off + k * 7 + 4, none⟩ = some (.string f.l.msg) := (HB1.out.cell (p := ⟨b, off + k * 7 + 4, none⟩) hb).trans (HC.out 4 _ rfl); have y5 : v1.cell? ⟨b, off + k * 7 + 5, none⟩ = some (.slice f.l.args.a f.l.args.n f.l.args.c) := (HB1.out.cell (p := ⟨b, off + k * 7 + 5, none⟩) hb).trans (HC.out 5 _ rfl); have y6 : v1.cell? ⟨b, off + k * 7 + 6, none⟩ = some (.int .i64 f.l.sent) := (HB1.out.cell (p := ⟨b, off + k * 7 + 6, none⟩) hb).trans (HC.out 6 _ rfl)))
            clear c0 c1 c2 c3 c4 c5 c6 c7 c8 x0 x1 x2 x3 x4 x5 x6
            go_wp2_with (at_builtin; refine wpList_append_own _ rfl (.tmp 66) (.tmp 72) 25 rfl W2.heap.size 47 i5 _ 7 96 Try.underlying25 hi5 hz50 hz51 hz52 rfl (by decide) _ _ _ rfl ((own_below HR.out H1.out).alloc _) ⟨v1.heap.size, 0, none⟩ 1 1 (flyL f) rfl rfl (cells_new _ _ _) (by simp [Value.oneCell']) (by rw [ml_val]; omega) (by omega) (by first | omega | (simp; omega) | (simp; done)) ?_; intro v' w3 ho hgr _; have HO := Lib.hid ho; have HG := Lib.hid hgr; clear ho hgr)
            go_roundw
            case rel => exact RowRel.add _ (by go_num) hlt HZ.out.1 HZ.out.2 HR.out HBR.out H1.out HO.out HG.out
            case measure => simp [intOf]; omega
          | some i =>
            rw [hf] at CF
            have hp := (Ml.find_spec hf).1
            have hi : i < s.actors.n := by
              have h1 := (List.getElem?_eq_some_iff.1 hp).1
              have h2 := HLL.out
              simp at h1; omega
            obtain ⟨b2, off2, a, hA2, hb2, hak, hc2⟩ := HQ1.out.at_ (fun _ => rfl) (by omega) hi
            have hix2 : ∀ W : World, Sem.run Try.prog (Instr.indexAt 23 (.slice s.actors.a s.actors.n s.actors.c) (.int .i64 (i : Int))) W = .ok (.pointer (some ⟨b2, off2 + i * 9, none⟩)) W := by intro W; rw [hA2]; go_simp
            have hhere : Ml.here node (pnL ls) f.l.src = some (decide (a.node = node)) := by rw [Ml.here_find, hf]; simp [hak]
            have HH := Lib.hid hhere
            have HC2 := Lib.hid (hc2 2 _ rfl)
            clear hf hp hA2 hak hc2 hhere
            by_cases hn : a.node = node
            · have t1 : (a.node != node) = false := by simp [hn]
              have HZ := Lib.hid (filt_keep (q := (fun f => !((Ml.here node (pnL ls) f.l.src).getD false))) HFK.out (by simp [HH.out, hn]))
              clear hn
              go_wp2_with fail
              go_region_held3 (fun w' => w'.cell? ⟨w.heap.size, 0, none⟩ = some (.slice s.up.a s.up.n s.up.c) ∧ w'.cell? ⟨w.heap.size, 1, none⟩ = some (.int .i64 s.moment) ∧ w'.cell? ⟨w.heap.size, 2, none⟩ = some (.int .i64 s.clock) ∧ w'.cell? ⟨w.heap.size, 3, none⟩ = some (.int .i64 s.seq) ∧ w'.cell? ⟨w.heap.size, 4, none⟩ = some (.slice s.actors.a s.actors.n s.actors.c) ∧ w'.cell? ⟨w.heap.size, 5, none⟩ = some (.slice s.flights.a s.flights.n s.flights.c) ∧ w'.cell? ⟨w.heap.size, 6, none⟩ = some (.slice s.alarms.a s.alarms.n s.alarms.c) ∧ w'.cell? ⟨w.heap.size, 7, none⟩ = some (.slice s.asked.a s.asked.n s.asked.c) ∧ w'.cell? ⟨w.heap.size, 8, none⟩ = some (.int .i64 s.dead) ∧ w'.cell? ⟨b, off + k * 7 + 3, none⟩ = some (.string f.l.src)) (simp [go_sem, *])
                ((go_at_call 45; (with_reducible refine (CF.out _ HBW3.out.drew).mono ?_); rintro e v1 ⟨rfl, h1⟩; have H1 : Hid (Below wr.heap.size wr v1) := Lib.hid (Below.call (Below.refl _ wr).drew h1); have hz9 := H1.out.size; have BS4 := Lib.hid (BS3.out.call H1.out); have HB1 := Lib.hid (Below.call HBW3.out H1.out); clear h1; obtain ⟨g0, g1, g2, g3, g4, g5, g6, g7, g8⟩ := sbox_cells BS4.out; have y0 : v1.cell? ⟨b, off + k * 7, none⟩ = some (.int .i64 f.x) := (HB1.out.cell (p := ⟨b, off + k * 7, none⟩) hb).trans (HC.out 0 _ rfl); have y1 : v1.cell? ⟨b, off + k * 7 + 1, none⟩ = some (.int .i64 f.y) := (HB1.out.cell (p := ⟨b, off + k * 7 + 1, none⟩) hb).trans (HC.out 1 _ rfl); have y2 : v1.cell? ⟨b, off + k * 7 + 2, none⟩ = some (.string f.path) := (HB1.out.cell (p := ⟨b, off + k * 7 + 2, none⟩) hb).trans (HC.out 2 _ rfl); have y3 : v1.cell? ⟨b, off + k * 7 + 3, none⟩ = some (.string f.l.src) := (HB1.out.cell (p := ⟨b, off + k * 7 + 3, none⟩) hb).trans (HC.out 3 _ rfl); have y4 : v1.cell? ⟨b, off + k * 7 + 4, none⟩ = some (.string f.l.msg) := (HB1.out.cell (p := ⟨b, off + k * 7 + 4, none⟩) hb).trans (HC.out 4 _ rfl); have y5 : v1.cell? ⟨b, off + k * 7 + 5, none⟩ = some (.slice f.l.args.a f.l.args.n f.l.args.c) := (HB1.out.cell (p := ⟨b, off + k * 7 + 5, none⟩) hb).trans (HC.out 5 _ rfl); have y6 : v1.cell? ⟨b, off + k * 7 + 6, none⟩ = some (.int .i64 f.l.sent) := (HB1.out.cell (p := ⟨b, off + k * 7 + 6, none⟩) hb).trans (HC.out 6 _ rfl)))
              clear c0 c1 c2 c3 c4 c5 c6 c7 c8 x0 x1 x2 x3 x4 x5 x6
              have d2 : v1.cell? ⟨b2, off2 + i * 9 + 2, none⟩ = some (.int .i64 a.node) := (HB1.out.cell (p := ⟨b2, off2 + i * 9 + 2, none⟩) hb2).trans HC2.out
              go_wp2_with fail
              go_roundw
              case rel => exact RowRel.keep (by go_num) hlt HZ.out.1 HZ.out.2 HR.out HBR.out H1.out
              case measure => simp [intOf]; omega
            · have t1 : (a.node != node) = true := by simp [hn]
              have HZ := Lib.hid (filt_add (q := (fun f => !((Ml.here node (pnL ls) f.l.src).getD false))) HFK.out (by simp [HH.out, hn]))
              clear hn
              go_wp2_with fail
              go_region_held3 (fun w' => w'.cell? ⟨w.heap.size, 0, none⟩ = some (.slice s.up.a s.up.n s.up.c) ∧ w'.cell? ⟨w.heap.size, 1, none⟩ = some (.int .i64 s.moment) ∧ w'.cell? ⟨w.heap.size, 2, none⟩ = some (.int .i64 s.clock) ∧ w'.cell? ⟨w.heap.size, 3, none⟩ = some (.int .i64 s.seq) ∧ w'.cell? ⟨w.heap.size, 4, none⟩ = some (.slice s.actors.a s.actors.n s.actors.c) ∧ w'.cell? ⟨w.heap.size, 5, none⟩ = some (.slice s.flights.a s.flights.n s.flights.c) ∧ w'.cell? ⟨w.heap.size, 6, none⟩ = some (.slice s.alarms.a s.alarms.n s.alarms.c) ∧ w'.cell? ⟨w.heap.size, 7, none⟩ = some (.slice s.asked.a s.asked.n s.asked.c) ∧ w'.cell? ⟨w.heap.size, 8, none⟩ = some (.int .i64 s.dead) ∧ w'.cell? ⟨b, off + k * 7 + 3, none⟩ = some (.string f.l.src)) (simp [go_sem, *])
                ((go_at_call 45; (with_reducible refine (CF.out _ HBW3.out.drew).mono ?_); rintro e v1 ⟨rfl, h1⟩; have H1 : Hid (Below wr.heap.size wr v1) := Lib.hid (Below.call (Below.refl _ wr).drew h1); have hz9 := H1.out.size; have BS4 := Lib.hid (BS3.out.call H1.out); have HB1 := Lib.hid (Below.call HBW3.out H1.out); clear h1; obtain ⟨g0, g1, g2, g3, g4, g5, g6, g7, g8⟩ := sbox_cells BS4.out; have y0 : v1.cell? ⟨b, off + k * 7, none⟩ = some (.int .i64 f.x) := (HB1.out.cell (p := ⟨b, off + k * 7, none⟩) hb).trans (HC.out 0 _ rfl); have y1 : v1.cell? ⟨b, off + k * 7 + 1, none⟩ = some (.int .i64 f.y) := (HB1.out.cell (p := ⟨b, off + k * 7 + 1, none⟩) hb).trans (HC.out 1 _ rfl); have y2 : v1.cell? ⟨b, off + k * 7 + 2, none⟩ = some (.string f.path) := (HB1.out.cell (p := ⟨b, off + k * 7 + 2, none⟩) hb).trans (HC.out 2 _ rfl); have y3 : v1.cell? ⟨b, off + k * 7 + 3, none⟩ = some (.string f.l.src) := (HB1.out.cell (p := ⟨b, off + k * 7 + 3, none⟩) hb).trans (HC.out 3 _ rfl); have y4 : v1.cell? ⟨b, off + k * 7 + 4, none⟩ = some (.string f.l.msg) := (HB1.out.cell (p := ⟨b, off + k * 7 + 4, none⟩) hb).trans (HC.out 4 _ rfl); have y5 : v1.cell? ⟨b, off + k * 7 + 5, none⟩ = some (.slice f.l.args.a f.l.args.n f.l.args.c) := (HB1.out.cell (p := ⟨b, off + k * 7 + 5, none⟩) hb).trans (HC.out 5 _ rfl); have y6 : v1.cell? ⟨b, off + k * 7 + 6, none⟩ = some (.int .i64 f.l.sent) := (HB1.out.cell (p := ⟨b, off + k * 7 + 6, none⟩) hb).trans (HC.out 6 _ rfl)))
              clear c0 c1 c2 c3 c4 c5 c6 c7 c8 x0 x1 x2 x3 x4 x5 x6
              have d2 : v1.cell? ⟨b2, off2 + i * 9 + 2, none⟩ = some (.int .i64 a.node) := (HB1.out.cell (p := ⟨b2, off2 + i * 9 + 2, none⟩) hb2).trans HC2.out
              go_wp2_with (at_builtin; refine wpList_append_own _ rfl (.tmp 66) (.tmp 72) 25 rfl W2.heap.size 47 i5 _ 7 96 Try.underlying25 hi5 hz50 hz51 hz52 rfl (by decide) _ _ _ rfl ((own_below HR.out H1.out).alloc _) ⟨v1.heap.size, 0, none⟩ 1 1 (flyL f) rfl rfl (cells_new _ _ _) (by simp [Value.oneCell']) (by rw [ml_val]; omega) (by omega) (by first | omega | (simp; omega) | (simp; done)) ?_; intro v' w3 ho hgr _; have HO := Lib.hid ho; have HG := Lib.hid hgr; clear ho hgr)
              go_roundw
              case rel => exact RowRel.add _ (by go_num) hlt HZ.out.1 HZ.out.2 HR.out HBR.out H1.out HO.out HG.out
              case measure => simp [intOf]; omega
        · obtain rfl : k = s.alarms.n := by omega
          obtain ⟨u6, rfl, hr6, hc6, hb6⟩ := row_len HR.out
          rw [List.take_of_length_le (l := σ.als) (by rw [HAL.out]; exact Nat.le_refl _)] at hr6 hc6 ⊢
          obtain ⟨L2, hL2⟩ : ∃ L, σ.als.filter (fun f => !((Ml.here node (pnL ls) f.l.src).getD false)) = L := ⟨_, rfl⟩
          rw [hL2] at hr6 hc6 ⊢
          have E2 := Lib.hid hL2.symm
          obtain ⟨m6, hcm2⟩ : ∃ c, L2.length = c := ⟨_, rfl⟩
          rw [hcm2] at hr6 hc6 ⊢
          have R6 := Lib.hid hr6
          have BB6 := Lib.hid hb6
          have CC6 := Lib.hid hc6
          have R5b := Lib.hid (R5.out.up HBR.out)
          clear hr6 hb6 hc6 hL2 hcm2 HR HBR R5
          obtain ⟨W3, rfl⟩ : ∃ W3, W3 = wr := ⟨_, rfl⟩
          go_wp2_with fail
          clear c0 c1 c2 c3 c4 c5 c6 c7 c8
          go_loopw [7, 13] (RowRel 66 7 (fun j => ((σ.fls.take j).filter (fun f => !(decide (f.x = node) || decide (f.y = node)))).flatMap flyL) (fun j => ((σ.fls.take j).filter (fun f => !(decide (f.x = node) || decide (f.y = node)))).length) s.flights.n W3) (fun _ i _ => s.flights.n - (intOf i).toNat)
          case atStart => exact ⟨0, Nat.zero_le _, rfl, World.ownsRow_nil _ _ _ _, Below.refl _ _⟩
          case round =>
            obtain ⟨k, hk, rfl, hrow, hB⟩ := hrel
            dsimp only at hrow
            have hsz3 := hB.size
            have HR := Lib.hid hrow
            have HBR := Lib.hid hB
            have HBW4 := Lib.hid (HBW3.out.trans (hB.mono (by omega)))
            have BS4 := Lib.hid (BS3.out.call hB)
            have BZ4 := Lib.hid (BZ3.out.call hB)
            clear hrow hB
            obtain ⟨c0, c1, c2, c3, c4, c5, c6, c7, c8⟩ := sbox_cells BS4.out
            by_cases hlt : k < s.flights.n
            · obtain ⟨b, off, f, hA, hb, hfk, hc⟩ := HF.out.at_ (fun _ => rfl) (by omega) hlt
              have x0 : wr.cell? ⟨b, off + k * 7, none⟩ = some (.int .i64 f.x) := (HBW4.out.cell (p := ⟨b, off + k * 7, none⟩) hb).trans (hc 0 _ rfl)
              have x1 : wr.cell? ⟨b, off + k * 7 + 1, none⟩ = some (.int .i64 f.y) := (HBW4.out.cell (p := ⟨b, off + k * 7 + 1, none⟩) hb).trans (hc 1 _ rfl)
              have x2 : wr.cell? ⟨b, off + k * 7 + 2, none⟩ = some (.string f.path) := (HBW4.out.cell (p := ⟨b, off + k * 7 + 2, none⟩) hb).trans (hc 2 _ rfl)
              have x3 : wr.cell? ⟨b, off + k * 7 + 3, none⟩ = some (.string f.l.src) := (HBW4.out.cell (p := ⟨b, off + k * 7 + 3, none⟩) hb).trans (hc 3 _ rfl)
              have x4 : wr.cell? ⟨b, off + k * 7 + 4, none⟩ = some (.string f.l.msg) := (HBW4.out.cell (p := ⟨b, off + k * 7 + 4, none⟩) hb).trans (hc 4 _ rfl)
              have x5 : wr.cell? ⟨b, off + k * 7 + 5, none⟩ = some (.slice f.l.args.a f.l.args.n f.l.args.c) := (HBW4.out.cell (p := ⟨b, off + k * 7 + 5, none⟩) hb).trans (hc 5 _ rfl)
              have x6 : wr.cell? ⟨b, off + k * 7 + 6, none⟩ = some (.int .i64 f.l.sent) := (HBW4.out.cell (p := ⟨b, off + k * 7 + 6, none⟩) hb).trans (hc 6 _ rfl)
              have hix : ∀ W : World, Sem.run Try.prog (Instr.indexAt 24 (.slice s.flights.a s.flights.n s.flights.c) (.int .i64 (k : Int))) W = .ok (.pointer (some ⟨b, off + k * 7, none⟩)) W := by intro W; rw [hA]; go_simp
              have HFK := Lib.hid hfk
              clear hA hfk hc
              have n1 : b < wr.heap.size := by have := HBW4.out.size; omega
              have m0 : w.heap.size < wr.heap.size := BS4.out.1
              have hcnt : ((σ.fls.take k).filter (fun f => !(decide (f.x = node) || decide (f.y = node)))).length ≤ k := Nat.le_trans (List.length_filter_le _ _) (by simp; omega)
              by_cases k1 : f.x = node
              · have t1 : (f.x != node) = false := by simp [k1]
                have HZ := Lib.hid (filt_keep (q := (fun f => !(decide (f.x = node) || decide (f.y = node)))) HFK.out (by simp [k1]))
                clear k1
                go_wp2_with fail
                go_roundw
                case rel => exact RowRel.keep (by go_num) hlt HZ.out.1 HZ.out.2 HR.out HBR.out (Below.refl _ _)
                case measure => simp [intOf]; omega
              · have t1 : (f.x != node) = true := by simp [k1]
                by_cases k2 : f.y = node
                · have t2 : (f.y != node) = false := by simp [k2]
                  have HZ := Lib.hid (filt_keep (q := (fun f => !(decide (f.x = node) || decide (f.y = node)))) HFK.out (by simp [k2]))
                  clear k1 k2
                  go_wp2_with fail
                  go_roundw
                  case rel => exact RowRel.keep (by go_num) hlt HZ.out.1 HZ.out.2 HR.out HBR.out (Below.refl _ _)
                  case measure => simp [intOf]; omega
                · have t2 : (f.y != node) = true := by simp [k2]
                  have HZ := Lib.hid (filt_add (q := (fun f => !(decide (f.x = node) || decide (f.y = node)))) HFK.out (by simp [k1, k2]))
                  clear k1 k2
                  go_wp2_with (at_builtin; refine wpList_append_own _ rfl (.tmp 99) (.tmp 105) 24 rfl W3.heap.size 66 i6 _ 7 96 Try.underlying24 hi6 hz60 hz61 hz62 rfl (by decide) _ _ _ rfl (HR.out.alloc _) ⟨wr.heap.size, 0, none⟩ 1 1 (flyL f) rfl rfl (cells_new _ _ _) (by simp [Value.oneCell']) (by rw [ml_val]; omega) (by omega) (by first | omega | (simp; omega) | (simp; done)) ?_; intro v' w3 ho hgr _; have HO := Lib.hid ho; have HG := Lib.hid hgr; clear ho hgr)
                  go_roundw
                  case rel => exact RowRel.add _ (by go_num) hlt HZ.out.1 HZ.out.2 HR.out HBR.out (Below.refl _ _) HO.out HG.out
                  case measure => simp [intOf]; omega
            · obtain rfl : k = s.flights.n := by omega
              obtain ⟨u7, rfl, hr7, hc7, hb7⟩ := row_len HR.out
              rw [List.take_of_length_le (l := σ.fls) (by rw [HFL.out]; exact Nat.le_refl _)] at hr7 hc7 ⊢
              obtain ⟨L3, hL3⟩ : ∃ L, σ.fls.filter (fun f => !(decide (f.x = node) || decide (f.y = node))) = L := ⟨_, rfl⟩
              rw [hL3] at hr7 hc7 ⊢
              have E3 := Lib.hid hL3.symm
              obtain ⟨m7, hcm3⟩ : ∃ c, L3.length = c := ⟨_, rfl⟩
              rw [hcm3] at hr7 hc7 ⊢
              have R7 := Lib.hid hr7
              have BB7 := Lib.hid hb7
              have CC7 := Lib.hid hc7
              have R5c := Lib.hid (R5b.out.up HBR.out)
              have R6c := Lib.hid (R6.out.up HBR.out)
              clear hr7 hb7 hc7 hL3 hcm3 HR
              obtain ⟨f0, f1, f2, f3, f4, f5, f6, f7, f8⟩ := sbox_free BS4.out
              obtain ⟨z0, z1, z2, z3, z4, z5, z6, z7, z8⟩ := sbox_cells BZ4.out
              obtain ⟨y0, y1, y2, y3, y4, y5, y6, y7, y8⟩ := sbox_free BZ4.out
              go_wp2_with fail
              obtain ⟨Wf, hWf⟩ : ∃ W, W = putSys (((wr.setCell ⟨w.heap.size, 4, none⟩ (.slice u5.a s.actors.n u5.c)).setCell ⟨w.heap.size, 6, none⟩ (.slice u6.a m6 u6.c)).setCell ⟨w.heap.size, 5, none⟩ (.slice u7.a m7 u7.c)) (w.heap.size + 1) { s with actors := ⟨u5.a, s.actors.n, u5.c⟩, alarms := ⟨u6.a, m6, u6.c⟩, flights := ⟨u7.a, m7, u7.c⟩ } := ⟨_, rfl⟩
              have hBf : Below w.heap.size w Wf := by rw [hWf]; exact putSys_below (((HBW4.out.setCell (Nat.le_refl _) _).setCell (Nat.le_refl _) _).setCell (Nat.le_refl _) _) (by omega)
              have hoff : Off2 w.heap.size (w.heap.size + 1) wr Wf := by rw [hWf]; exact (by repeat (first | (with_reducible exact Off2.refl _ _ _) | (with_reducible refine Off2.set1 ?_ _ _) | (with_reducible refine Off2.set2 ?_ _ _) | (with_reducible refine Off2.drew ?_)))
              have far : ∀ (A : Option Addr) (B : Nat), (∀ g, A.map (·.block) = some g → B ≤ g) → w.heap.size + 1 + 1 ≤ B → ∀ q, A = some q → q.block ≠ w.heap.size ∧ q.block ≠ w.heap.size + 1 := fun A B hA hB q hq => by
                have := hA q.block (by rw [hq]; rfl)
                omega
              have loc : ∀ (A : Option Addr) (B n : Nat), (∀ g, A.map (·.block) = some g → B ≤ g) → w.heap.size + 1 + 1 ≤ B → Loc (fun b => w.heap.size ≤ b) A n := fun A B n hA hB q hq _ => by
                have := hA q.block (by rw [hq]; rfl)
                show w.heap.size ≤ q.block
                omega
              have hS := sysR_drop (x2 := u6) (x3 := u7) (m2 := m6) (m3 := m7) (node := node) H.out HQ2.out HQ3.out HLS.out hBf (R5c.out.off2 hoff (far _ _ BB5.out (by omega))) (R6c.out.off2 hoff (far _ _ BB6.out (by omega))) CC6.out (R7.out.off2 hoff (far _ _ BB7.out (by omega))) CC7.out E2.out E3.out (loc _ _ _ BB5.out (by omega)) (loc _ _ _ BB6.out (by omega)) (loc _ _ _ BB7.out (by omega))
              refine bodyPost_ret (v := sysV { s with actors := ⟨u5.a, s.actors.n, u5.c⟩, alarms := ⟨u6.a, m6, u6.c⟩, flights := ⟨u7.a, m7, u7.c⟩ }) ?_ rfl ?_
              · simp [results, Try.results43, go_sem, *]
              · rw [hWf] at hS hBf; exact ⟨_, rfl, hS, hBf⟩
end Go.Proofs.Ytjdjfjokniingaa
