/- The contract of the sanity example: it answers true. -/
import Derived.Test.YtcncobhdfflelaaFa
namespace Go.Proofs.Ytcncobhdfflelaa
open Go.RowKit


abbrev iW (W : World) (x : Int) : World := W.alloc (.cells #[.int .i64 x] 3)
abbrev wantW (W : World) : World := (iW (iW (iW (iW (iW (iW (iW (iW W 0) 2) 3) 3) 4) 4) 5) 9).alloc (.cells #[
  .slice (some ⟨W.heap.size, 0, none⟩) 1 1, .slice (some ⟨W.heap.size + 1, 0, none⟩) 1 1, .bool false,
  .slice (some ⟨W.heap.size + 1 + 1, 0, none⟩) 1 1, .slice (some ⟨W.heap.size + 1 + 1 + 1, 0, none⟩) 1 1, .bool false,
  .slice (some ⟨W.heap.size + 1 + 1 + 1 + 1, 0, none⟩) 1 1, .slice (some ⟨W.heap.size + 1 + 1 + 1 + 1 + 1, 0, none⟩) 1 1, .bool true,
  .slice (some ⟨W.heap.size + 1 + 1 + 1 + 1 + 1 + 1, 0, none⟩) 1 1, .slice (some ⟨W.heap.size + 1 + 1 + 1 + 1 + 1 + 1 + 1, 0, none⟩) 1 1, .bool true] 44)
set_option linter.unusedSimpArgs false in
theorem want_at (W : World) : FullAt (wantW W) ⟨some ⟨W.heap.size + 1 + 1 + 1 + 1 + 1 + 1 + 1 + 1, 0, none⟩, 4, 4⟩ Bx.want := by
  let b (i j : Nat) (h : Bool) : BxC := ⟨⟨some ⟨i, 0, none⟩, 1, 1⟩, ⟨some ⟨j, 0, none⟩, 1, 1⟩, h⟩
  refine ⟨[(b W.heap.size (W.heap.size + 1) false, [0], [2]), (b (W.heap.size + 1 + 1) (W.heap.size + 1 + 1 + 1) false, [3], [3]), (b (W.heap.size + 1 + 1 + 1 + 1) (W.heap.size + 1 + 1 + 1 + 1 + 1) true, [4], [4]), (b (W.heap.size + 1 + 1 + 1 + 1 + 1 + 1) (W.heap.size + 1 + 1 + 1 + 1 + 1 + 1 + 1) true, [5], [9])], ?_, ?_, rfl⟩
  · have h := World.ownsRow_lit (base := 0) (e := 44) (size := 3) (iW (iW (iW (iW (iW (iW (iW (iW W 0) 2) 3) 3) 4) 4) 5) 9) #[
      .slice (some ⟨W.heap.size, 0, none⟩) 1 1, .slice (some ⟨W.heap.size + 1, 0, none⟩) 1 1, .bool false,
      .slice (some ⟨W.heap.size + 1 + 1, 0, none⟩) 1 1, .slice (some ⟨W.heap.size + 1 + 1 + 1, 0, none⟩) 1 1, .bool false,
      .slice (some ⟨W.heap.size + 1 + 1 + 1 + 1, 0, none⟩) 1 1, .slice (some ⟨W.heap.size + 1 + 1 + 1 + 1 + 1, 0, none⟩) 1 1, .bool true,
      .slice (some ⟨W.heap.size + 1 + 1 + 1 + 1 + 1 + 1, 0, none⟩) 1 1, .slice (some ⟨W.heap.size + 1 + 1 + 1 + 1 + 1 + 1 + 1, 0, none⟩) 1 1, .bool true] 4 (Nat.zero_le _) (by unfold maxLen; decide) rfl
    have h2 := own_rd h
    simpa using h2
  · intro q hq
    simp only [List.mem_cons, List.not_mem_nil, or_false] at hq
    rcases hq with rfl | rfl | rfl | rfl <;> exact ⟨rd_one (by simp [go_sem, b]) (by simp [b]; try omega), rd_one (by simp [go_sem, b]) (by simp [b]; try omega)⟩
/-- want[1:] -/
theorem full_tail {W : World} {u : Sl} {b : Bx.Box} {bs : List Bx.Box} (h : FullAt W u (b :: bs)) (hc : u.n ≤ u.c) : ∃ A' : Option Addr, (∀ W, Sem.run Try.prog (Instr.sliceAt 26 (.slice u.a u.n u.c) (some (.int .i64 1)) none none) W = .ok (.slice A' (u.n - 1) (u.c - 1)) W) ∧ FullAt W ⟨A', u.n - 1, u.c - 1⟩ bs := by
  have hn := h.n
  rw [List.length_cons] at hn
  obtain ⟨qs, h1, h2, h3⟩ := h.ex
  obtain ⟨A', t1, t2⟩ := tail26 (i := 0) h1 (by omega) hc
  match qs, h3, h1, h2, t2 with
  | q :: qs, h3, h1, h2, t2 =>
    rw [List.map_cons] at h3
    injection h3 with h4 h5
    refine ⟨A', fun W => by have := t1 W; simpa using this, ⟨qs, ?_, fun p hp => h2 p (List.mem_cons_of_mem _ hp), h5⟩⟩
    have := t2 W W.heap.size h1
    simpa using this

set_option linter.unusedSimpArgs false in
set_option linter.unusedVariables false in
set_option maxRecDepth 100000 in
set_option maxHeartbeats 12800000 in
theorem small9 (w : World) : Calls Try.prog 9 #[] w fun e w' => e = .returned (.bool true) ∧ Below w.heap.size w w' := by
  have hB0 : Hid (Below w.heap.size w w) := Lib.hid (Below.refl _ _)
  go_enter Try.func9, Try.ntmps9
  go_wp2_with fail
  refine (above30 3 _).mono ?_
  rintro e _ ⟨rfl, rfl⟩
  go_wp2_with fail
  refine (show _ from Eq.mp (congrArg (fun r => Calls Try.prog 11 _ _ (SolvePost r _)) (show Bx.solve (Bx.abv 3) [0] [9] 100 = (Bx.want, 0) from by decide)) (solve11 (some ⟨w.heap.size, 0, none⟩) (some ⟨w.heap.size + 1, 0, none⟩) 1 1 1 1 [0] [9] 56 #[.pointer (some ⟨w.heap.size + 1 + 1, 0, none⟩)] (Bx.abv 3) 100 _ (rd_one (by simp [go_sem]) (by simp; try omega)) (rd_one (by simp [go_sem]) (by simp; try omega)) eg56 ?_)).mono ?_
  · exact fun _ => verd_above (by simp [go_sem]) (by simp; try omega)
  rintro e v1 ⟨u1, rfl, hb1, h1⟩
  have hs : Below w.heap.size w v1 := Below.call (w := w) (by repeat (first | (with_reducible exact Below.refl _ _) | (with_reducible assumption) | ((with_reducible refine Below.setCell ?_ ?_ _); rotate_left; (focus (first | omega | (simp; omega) | (simp; done)))) | ((with_reducible refine Below.alloc ?_ ?_ _); rotate_left; (focus (first | omega | (simp; omega) | (simp; done)))) | (with_reducible refine Below.drew ?_))) h1
  have hB1 := Lib.hid (Below.call hB0.out hs)
  have H1 := Lib.hid hb1.full
  clear hb1 hs h1
  go_wp2_with fail
  refine (above30 3 _).mono ?_
  rintro e _ ⟨rfl, rfl⟩
  go_wp2_with fail
  refine (show _ from Eq.mp (congrArg (fun r => Calls Try.prog 11 _ _ (SolvePost r _)) (show Bx.solve (Bx.abv 3) [0] [9] 3 = ([], 3) from by decide)) (solve11 (some ⟨v1.heap.size, 0, none⟩) (some ⟨v1.heap.size + 1, 0, none⟩) 1 1 1 1 [0] [9] 56 #[.pointer (some ⟨v1.heap.size + 1 + 1, 0, none⟩)] (Bx.abv 3) 3 _ (rd_one (by simp [go_sem]) (by simp; try omega)) (rd_one (by simp [go_sem]) (by simp; try omega)) eg56 ?_)).mono ?_
  · exact fun _ => verd_above (by simp [go_sem]) (by simp; try omega)
  rintro e v2 ⟨u2, rfl, hb2, h2⟩
  have hs : Below v1.heap.size v1 v2 := Below.call (w := v1) (by repeat (first | (with_reducible exact Below.refl _ _) | (with_reducible assumption) | ((with_reducible refine Below.setCell ?_ ?_ _); rotate_left; (focus (first | omega | (simp; omega) | (simp; done)))) | ((with_reducible refine Below.alloc ?_ ?_ _); rotate_left; (focus (first | omega | (simp; omega) | (simp; done)))) | (with_reducible refine Below.drew ?_))) h2
  have hB2 := Lib.hid (Below.call hB1.out hs)
  replace H1 := Lib.hid (H1.out.up hs)
  clear hs h2 hb2
  go_wp2_with fail
  refine (show _ from Eq.mp (congrArg (fun r => Calls Try.prog 11 _ _ (SolvePost r _)) (show Bx.solve (fun _ _ => 2) [0] [1] 9 = ([], 16) from by decide)) (solve11 (some ⟨v2.heap.size, 0, none⟩) (some ⟨v2.heap.size + 1, 0, none⟩) 1 1 1 1 [0] [1] 31 #[] (fun _ _ => 2) 9 _ (rd_one (by simp [go_sem]) (by simp; try omega)) (rd_one (by simp [go_sem]) (by simp; try omega)) eg31 ?_)).mono ?_
  · exact fun _ => verd_two
  rintro e v3 ⟨u3, rfl, hb3, h3⟩
  have hs : Below v2.heap.size v2 v3 := Below.call (w := v2) (by repeat (first | (with_reducible exact Below.refl _ _) | (with_reducible assumption) | ((with_reducible refine Below.setCell ?_ ?_ _); rotate_left; (focus (first | omega | (simp; omega) | (simp; done)))) | ((with_reducible refine Below.alloc ?_ ?_ _); rotate_left; (focus (first | omega | (simp; omega) | (simp; done)))) | (with_reducible refine Below.drew ?_))) h3
  have hB3 := Lib.hid (Below.call hB2.out hs)
  replace H1 := Lib.hid (H1.out.up hs)
  clear hs h3 hb3
  go_wp2_with fail
  refine (above30 3 _).mono ?_
  rintro e _ ⟨rfl, rfl⟩
  go_wp2_with fail
  refine (show _ from Eq.mp (congrArg (fun r => Calls Try.prog 11 _ _ (SolvePost r _)) (show Bx.solve (Bx.abv 3) [0] [] 9 = ([], 1) from by decide)) (solve11 (some ⟨v3.heap.size, 0, none⟩) none 1 0 1 0 [0] [] 56 #[.pointer (some ⟨v3.heap.size + 1, 0, none⟩)] (Bx.abv 3) 9 _ (rd_one (by simp [go_sem]) (by simp; try omega)) Rd.none_ eg56 ?_)).mono ?_
  · exact fun h => by simp [Bx.valid] at h
  rintro e v4 ⟨u4, rfl, hb4, h4⟩
  have hs : Below v3.heap.size v3 v4 := Below.call (w := v3) (by repeat (first | (with_reducible exact Below.refl _ _) | (with_reducible assumption) | ((with_reducible refine Below.setCell ?_ ?_ _); rotate_left; (focus (first | omega | (simp; omega) | (simp; done)))) | ((with_reducible refine Below.alloc ?_ ?_ _); rotate_left; (focus (first | omega | (simp; omega) | (simp; done)))) | (with_reducible refine Below.drew ?_))) h4
  have hB4 := Lib.hid (Below.call hB3.out hs)
  replace H1 := Lib.hid (H1.out.up hs)
  clear hs h4 hb4
  go_wp2_with fail
  refine (above30 3 _).mono ?_
  rintro e _ ⟨rfl, rfl⟩
  go_wp2_with fail
  refine (show _ from Eq.mp (congrArg (fun r => Calls Try.prog 11 _ _ (SolvePost r _)) (show Bx.solve (Bx.abv 3) [1] [0] 9 = ([], 6) from by decide)) (solve11 (some ⟨v4.heap.size, 0, none⟩) (some ⟨v4.heap.size + 1, 0, none⟩) 1 1 1 1 [1] [0] 56 #[.pointer (some ⟨v4.heap.size + 1 + 1, 0, none⟩)] (Bx.abv 3) 9 _ (rd_one (by simp [go_sem]) (by simp; try omega)) (rd_one (by simp [go_sem]) (by simp; try omega)) eg56 ?_)).mono ?_
  · exact fun _ => verd_above (by simp [go_sem]) (by simp; try omega)
  rintro e v5 ⟨u5, rfl, hb5, h5⟩
  have hs : Below v4.heap.size v4 v5 := Below.call (w := v4) (by repeat (first | (with_reducible exact Below.refl _ _) | (with_reducible assumption) | ((with_reducible refine Below.setCell ?_ ?_ _); rotate_left; (focus (first | omega | (simp; omega) | (simp; done)))) | ((with_reducible refine Below.alloc ?_ ?_ _); rotate_left; (focus (first | omega | (simp; omega) | (simp; done)))) | (with_reducible refine Below.drew ?_))) h5
  have hB5 := Lib.hid (Below.call hB4.out hs)
  replace H1 := Lib.hid (H1.out.up hs)
  clear hs h5 hb5
  go_wp2_with fail
  refine (show _ from Eq.mp (congrArg (fun r => Calls Try.prog 11 _ _ (SolvePost r _)) (show Bx.solve (fun _ _ => 1) [] [] 9 = ([([], [], true)], 0) from by decide)) (solve11 none none 0 0 0 0 [] [] 32 #[] (fun _ _ => 1) 9 _ Rd.none_ Rd.none_ eg32 ?_)).mono ?_
  · exact fun _ => verd_one
  rintro e v6 ⟨u6, rfl, hb6, h6⟩
  have hs : Below v5.heap.size v5 v6 := Below.call (w := v5) (by repeat (first | (with_reducible exact Below.refl _ _) | (with_reducible assumption) | ((with_reducible refine Below.setCell ?_ ?_ _); rotate_left; (focus (first | omega | (simp; omega) | (simp; done)))) | ((with_reducible refine Below.alloc ?_ ?_ _); rotate_left; (focus (first | omega | (simp; omega) | (simp; done)))) | (with_reducible refine Below.drew ?_))) h6
  have hB6 := Lib.hid (Below.call hB5.out hs)
  replace H1 := Lib.hid (H1.out.up hs)
  have HM := Lib.hid hb6.full
  clear hs h6 hb6
  have HWT := Lib.hid (want_at v6)
  have hs : Below v6.heap.size v6 (wantW v6) := (by repeat (first | (with_reducible exact Below.refl _ _) | (with_reducible assumption) | ((with_reducible refine Below.setCell ?_ ?_ _); rotate_left; (focus (first | omega | (simp; omega) | (simp; done)))) | ((with_reducible refine Below.alloc ?_ ?_ _); rotate_left; (focus (first | omega | (simp; omega) | (simp; done)))) | (with_reducible refine Below.drew ?_)))
  go_upto_region 8 with (fail)
  obtain ⟨WW, hWW⟩ : ∃ WW, WW = ((((((((v6.alloc (.cells #[.int .i64 0] 3)).alloc (.cells #[.int .i64 2] 3)).alloc (.cells #[.int .i64 3] 3)).alloc (.cells #[.int .i64 3] 3)).alloc (.cells #[.int .i64 4] 3)).alloc (.cells #[.int .i64 4] 3)).alloc (.cells #[.int .i64 5] 3)).alloc (.cells #[.int .i64 9] 3)).alloc (.cells #[.slice (some ⟨v6.heap.size, 0, none⟩) 1 1, .slice (some ⟨v6.heap.size + 1, 0, none⟩) 1 1, .bool false, .slice (some ⟨v6.heap.size + 1 + 1, 0, none⟩) 1 1, .slice (some ⟨v6.heap.size + 1 + 1 + 1, 0, none⟩) 1 1, .bool false, .slice (some ⟨v6.heap.size + 1 + 1 + 1 + 1, 0, none⟩) 1 1, .slice (some ⟨v6.heap.size + 1 + 1 + 1 + 1 + 1, 0, none⟩) 1 1, .bool true, .slice (some ⟨v6.heap.size + 1 + 1 + 1 + 1 + 1 + 1, 0, none⟩) 1 1, .slice (some ⟨v6.heap.size + 1 + 1 + 1 + 1 + 1 + 1 + 1, 0, none⟩) 1 1, .bool true] 44) := ⟨_, rfl⟩
  rw [← hWW]
  change Hid (FullAt (((((((((v6.alloc (.cells #[.int .i64 0] 3)).alloc (.cells #[.int .i64 2] 3)).alloc (.cells #[.int .i64 3] 3)).alloc (.cells #[.int .i64 3] 3)).alloc (.cells #[.int .i64 4] 3)).alloc (.cells #[.int .i64 4] 3)).alloc (.cells #[.int .i64 5] 3)).alloc (.cells #[.int .i64 9] 3)).alloc (.cells #[.slice (some ⟨v6.heap.size, 0, none⟩) 1 1, .slice (some ⟨v6.heap.size + 1, 0, none⟩) 1 1, .bool false, .slice (some ⟨v6.heap.size + 1 + 1, 0, none⟩) 1 1, .slice (some ⟨v6.heap.size + 1 + 1 + 1, 0, none⟩) 1 1, .bool false, .slice (some ⟨v6.heap.size + 1 + 1 + 1 + 1, 0, none⟩) 1 1, .slice (some ⟨v6.heap.size + 1 + 1 + 1 + 1 + 1, 0, none⟩) 1 1, .bool true, .slice (some ⟨v6.heap.size + 1 + 1 + 1 + 1 + 1 + 1, 0, none⟩) 1 1, .slice (some ⟨v6.heap.size + 1 + 1 + 1 + 1 + 1 + 1 + 1, 0, none⟩) 1 1, .bool true] 44)) _ _) at HWT
  change Below v6.heap.size v6 (((((((((v6.alloc (.cells #[.int .i64 0] 3)).alloc (.cells #[.int .i64 2] 3)).alloc (.cells #[.int .i64 3] 3)).alloc (.cells #[.int .i64 3] 3)).alloc (.cells #[.int .i64 4] 3)).alloc (.cells #[.int .i64 4] 3)).alloc (.cells #[.int .i64 5] 3)).alloc (.cells #[.int .i64 9] 3)).alloc (.cells #[.slice (some ⟨v6.heap.size, 0, none⟩) 1 1, .slice (some ⟨v6.heap.size + 1, 0, none⟩) 1 1, .bool false, .slice (some ⟨v6.heap.size + 1 + 1, 0, none⟩) 1 1, .slice (some ⟨v6.heap.size + 1 + 1 + 1, 0, none⟩) 1 1, .bool false, .slice (some ⟨v6.heap.size + 1 + 1 + 1 + 1, 0, none⟩) 1 1, .slice (some ⟨v6.heap.size + 1 + 1 + 1 + 1 + 1, 0, none⟩) 1 1, .bool true, .slice (some ⟨v6.heap.size + 1 + 1 + 1 + 1 + 1 + 1, 0, none⟩) 1 1, .slice (some ⟨v6.heap.size + 1 + 1 + 1 + 1 + 1 + 1 + 1, 0, none⟩) 1 1, .bool true] 44)) at hs
  rw [← hWW] at HWT hs
  clear hWW
  obtain ⟨wb, hwb⟩ : ∃ wb, wb = v6.heap.size + 1 + 1 + 1 + 1 + 1 + 1 + 1 + 1 := ⟨_, rfl⟩
  rw [← hwb] at HWT ⊢
  clear hwb
  have hB7 := Lib.hid (Below.call hB6.out hs)
  replace H1 := Lib.hid (H1.out.up hs)
  replace HM := Lib.hid (HM.out.up hs)
  clear hs
  go_wp2_with fail
  refine (full_holds (u := ⟨some ⟨wb, 0, none⟩, 4, 4⟩) (HWT.out.up (by repeat (first | (with_reducible exact Below.refl _ _) | (with_reducible assumption) | ((with_reducible refine Below.setCell ?_ ?_ _); rotate_left; (focus (first | omega | (simp; omega) | (simp; done)))) | ((with_reducible refine Below.alloc ?_ ?_ _); rotate_left; (focus (first | omega | (simp; omega) | (simp; done)))) | (with_reducible refine Below.drew ?_)))) (some ⟨WW.heap.size, 0, none⟩) 1 1 [4] (rd_one (by simp [go_sem]) (by simp; try omega)) (by decide) (by decide) (true, true) (by decide)).mono ?_
  rintro e v8 ⟨rfl, h8⟩
  have hs : Below WW.heap.size WW v8 := Below.call (w := WW) (by repeat (first | (with_reducible exact Below.refl _ _) | (with_reducible assumption) | ((with_reducible refine Below.setCell ?_ ?_ _); rotate_left; (focus (first | omega | (simp; omega) | (simp; done)))) | ((with_reducible refine Below.alloc ?_ ?_ _); rotate_left; (focus (first | omega | (simp; omega) | (simp; done)))) | (with_reducible refine Below.drew ?_))) h8
  have hB8 := Lib.hid (Below.call hB7.out hs)
  replace H1 := Lib.hid (H1.out.up hs)
  replace HM := Lib.hid (HM.out.up hs)
  replace HWT := Lib.hid (HWT.out.up hs)
  clear hs h8
  go_wp2_with fail
  refine (full_holds (u := ⟨some ⟨wb, 0, none⟩, 4, 4⟩) (HWT.out.up (by repeat (first | (with_reducible exact Below.refl _ _) | (with_reducible assumption) | ((with_reducible refine Below.setCell ?_ ?_ _); rotate_left; (focus (first | omega | (simp; omega) | (simp; done)))) | ((with_reducible refine Below.alloc ?_ ?_ _); rotate_left; (focus (first | omega | (simp; omega) | (simp; done)))) | (with_reducible refine Below.drew ?_)))) (some ⟨v8.heap.size, 0, none⟩) 1 1 [10] (rd_one (by simp [go_sem]) (by simp; try omega)) (by decide) (by decide) (false, false) (by decide)).mono ?_
  rintro e v9 ⟨rfl, h9⟩
  have hs : Below v8.heap.size v8 v9 := Below.call (w := v8) (by repeat (first | (with_reducible exact Below.refl _ _) | (with_reducible assumption) | ((with_reducible refine Below.setCell ?_ ?_ _); rotate_left; (focus (first | omega | (simp; omega) | (simp; done)))) | ((with_reducible refine Below.alloc ?_ ?_ _); rotate_left; (focus (first | omega | (simp; omega) | (simp; done)))) | (with_reducible refine Below.drew ?_))) h9
  have hB9 := Lib.hid (Below.call hB8.out hs)
  replace H1 := Lib.hid (H1.out.up hs)
  replace HM := Lib.hid (HM.out.up hs)
  replace HWT := Lib.hid (HWT.out.up hs)
  clear hs h9
  go_wp2_with fail
  refine (full_samev (u := u1) (v := ⟨some ⟨wb, 0, none⟩, 4, 4⟩) (H1.out.up (by repeat (first | (with_reducible exact Below.refl _ _) | (with_reducible assumption) | ((with_reducible refine Below.setCell ?_ ?_ _); rotate_left; (focus (first | omega | (simp; omega) | (simp; done)))) | ((with_reducible refine Below.alloc ?_ ?_ _); rotate_left; (focus (first | omega | (simp; omega) | (simp; done)))) | (with_reducible refine Below.drew ?_)))) (HWT.out.up (by repeat (first | (with_reducible exact Below.refl _ _) | (with_reducible assumption) | ((with_reducible refine Below.setCell ?_ ?_ _); rotate_left; (focus (first | omega | (simp; omega) | (simp; done)))) | ((with_reducible refine Below.alloc ?_ ?_ _); rotate_left; (focus (first | omega | (simp; omega) | (simp; done)))) | (with_reducible refine Below.drew ?_)))) (by decide) (by decide) true (by decide)).mono ?_
  rintro e v10 ⟨rfl, h10⟩
  have hs : Below v9.heap.size v9 v10 := Below.call (w := v9) (by repeat (first | (with_reducible exact Below.refl _ _) | (with_reducible assumption) | ((with_reducible refine Below.setCell ?_ ?_ _); rotate_left; (focus (first | omega | (simp; omega) | (simp; done)))) | ((with_reducible refine Below.alloc ?_ ?_ _); rotate_left; (focus (first | omega | (simp; omega) | (simp; done)))) | (with_reducible refine Below.drew ?_))) h10
  have hB10 := Lib.hid (Below.call hB9.out hs)
  replace H1 := Lib.hid (H1.out.up hs)
  replace HM := Lib.hid (HM.out.up hs)
  replace HWT := Lib.hid (HWT.out.up hs)
  clear hs h10
  go_wp2_with fail
  refine (full_checkv (u := ⟨some ⟨wb, 0, none⟩, 4, 4⟩) (HWT.out.up (by repeat (first | (with_reducible exact Below.refl _ _) | (with_reducible assumption) | ((with_reducible refine Below.setCell ?_ ?_ _); rotate_left; (focus (first | omega | (simp; omega) | (simp; done)))) | ((with_reducible refine Below.alloc ?_ ?_ _); rotate_left; (focus (first | omega | (simp; omega) | (simp; done)))) | (with_reducible refine Below.drew ?_)))) (some ⟨v10.heap.size, 0, none⟩) (some ⟨v10.heap.size + 1, 0, none⟩) 1 1 1 1 [0] [9] (rd_one (by simp [go_sem]) (by simp; try omega)) (rd_one (by simp [go_sem]) (by simp; try omega)) (by decide) true (by decide)).mono ?_
  rintro e v11 ⟨rfl, h11⟩
  have hs : Below v10.heap.size v10 v11 := Below.call (w := v10) (by repeat (first | (with_reducible exact Below.refl _ _) | (with_reducible assumption) | ((with_reducible refine Below.setCell ?_ ?_ _); rotate_left; (focus (first | omega | (simp; omega) | (simp; done)))) | ((with_reducible refine Below.alloc ?_ ?_ _); rotate_left; (focus (first | omega | (simp; omega) | (simp; done)))) | (with_reducible refine Below.drew ?_))) h11
  have hB11 := Lib.hid (Below.call hB10.out hs)
  replace H1 := Lib.hid (H1.out.up hs)
  replace HM := Lib.hid (HM.out.up hs)
  replace HWT := Lib.hid (HWT.out.up hs)
  clear hs h11
  obtain ⟨A1, hsl, hft⟩ := full_tail HWT.out (Nat.le_refl 4)
  have HT := Lib.hid hft
  clear hft
  change ∀ W, Sem.run Try.prog (Instr.sliceAt 26 (.slice (some ⟨wb, 0, none⟩) 4 4) (some (.int .i64 1)) none none) W = .ok (.slice A1 3 3) W at hsl
  change Hid (FullAt v11 ⟨A1, 3, 3⟩ _) at HT
  go_wp2_with fail
  refine (full_checkv (u := ⟨A1, 3, 3⟩) (HT.out.up (by repeat (first | (with_reducible exact Below.refl _ _) | (with_reducible assumption) | ((with_reducible refine Below.setCell ?_ ?_ _); rotate_left; (focus (first | omega | (simp; omega) | (simp; done)))) | ((with_reducible refine Below.alloc ?_ ?_ _); rotate_left; (focus (first | omega | (simp; omega) | (simp; done)))) | (with_reducible refine Below.drew ?_)))) (some ⟨v11.heap.size, 0, none⟩) (some ⟨v11.heap.size + 1, 0, none⟩) 1 1 1 1 [0] [9] (rd_one (by simp [go_sem]) (by simp; try omega)) (rd_one (by simp [go_sem]) (by simp; try omega)) (by decide) false (by decide)).mono ?_
  rintro e v12 ⟨rfl, h12⟩
  have hs : Below v11.heap.size v11 v12 := Below.call (w := v11) (by repeat (first | (with_reducible exact Below.refl _ _) | (with_reducible assumption) | ((with_reducible refine Below.setCell ?_ ?_ _); rotate_left; (focus (first | omega | (simp; omega) | (simp; done)))) | ((with_reducible refine Below.alloc ?_ ?_ _); rotate_left; (focus (first | omega | (simp; omega) | (simp; done)))) | (with_reducible refine Below.drew ?_))) h12
  have hB12 := Lib.hid (Below.call hB11.out hs)
  replace H1 := Lib.hid (H1.out.up hs)
  replace HM := Lib.hid (HM.out.up hs)
  replace HWT := Lib.hid (HWT.out.up hs)
  replace HT := Lib.hid (HT.out.up hs)
  clear hs h12
  go_wp2_with fail
  refine (full_checkv (u := ⟨some ⟨wb, 0, none⟩, 4, 4⟩) (HWT.out.up (by repeat (first | (with_reducible exact Below.refl _ _) | (with_reducible assumption) | ((with_reducible refine Below.setCell ?_ ?_ _); rotate_left; (focus (first | omega | (simp; omega) | (simp; done)))) | ((with_reducible refine Below.alloc ?_ ?_ _); rotate_left; (focus (first | omega | (simp; omega) | (simp; done)))) | (with_reducible refine Below.drew ?_)))) (some ⟨v12.heap.size, 0, none⟩) (some ⟨v12.heap.size + 1, 0, none⟩) 1 1 1 1 [0] [8] (rd_one (by simp [go_sem]) (by simp; try omega)) (rd_one (by simp [go_sem]) (by simp; try omega)) (by decide) false (by decide)).mono ?_
  rintro e v13 ⟨rfl, h13⟩
  have hs : Below v12.heap.size v12 v13 := Below.call (w := v12) (by repeat (first | (with_reducible exact Below.refl _ _) | (with_reducible assumption) | ((with_reducible refine Below.setCell ?_ ?_ _); rotate_left; (focus (first | omega | (simp; omega) | (simp; done)))) | ((with_reducible refine Below.alloc ?_ ?_ _); rotate_left; (focus (first | omega | (simp; omega) | (simp; done)))) | (with_reducible refine Below.drew ?_))) h13
  have hB13 := Lib.hid (Below.call hB12.out hs)
  replace H1 := Lib.hid (H1.out.up hs)
  replace HM := Lib.hid (HM.out.up hs)
  replace HWT := Lib.hid (HWT.out.up hs)
  replace HT := Lib.hid (HT.out.up hs)
  clear hs h13
  have hn6 : u6.n = 1 := HM.out.n.symm
  obtain ⟨b0, o0, hix0, hb0, hc0⟩ := full_first HM.out
  have t6 : ((u6.n : Int) == 1) = true := by rw [hn6]; rfl
  clear hn6
  go_wp2_with fail
  refine (full_countv (u := ⟨some ⟨wb, 0, none⟩, 4, 4⟩) (HWT.out.up (by repeat (first | (with_reducible exact Below.refl _ _) | (with_reducible assumption) | ((with_reducible refine Below.setCell ?_ ?_ _); rotate_left; (focus (first | omega | (simp; omega) | (simp; done)))) | ((with_reducible refine Below.alloc ?_ ?_ _); rotate_left; (focus (first | omega | (simp; omega) | (simp; done)))) | (with_reducible refine Below.drew ?_)))) (by intro b hb; simp [Bx.want] at hb; rcases hb with rfl | rfl | rfl | rfl <;> simp [Bx.I64]) (by decide) 6 (by decide)).mono ?_
  rintro e v14 ⟨rfl, h14⟩
  have hs : Below v13.heap.size v13 v14 := Below.call (w := v13) (by repeat (first | (with_reducible exact Below.refl _ _) | (with_reducible assumption) | ((with_reducible refine Below.setCell ?_ ?_ _); rotate_left; (focus (first | omega | (simp; omega) | (simp; done)))) | ((with_reducible refine Below.alloc ?_ ?_ _); rotate_left; (focus (first | omega | (simp; omega) | (simp; done)))) | (with_reducible refine Below.drew ?_))) h14
  have hB14 := Lib.hid (Below.call hB13.out hs)
  replace H1 := Lib.hid (H1.out.up hs)
  replace HM := Lib.hid (HM.out.up hs)
  replace HWT := Lib.hid (HWT.out.up hs)
  replace HT := Lib.hid (HT.out.up hs)
  clear hs h14
  go_wp2_with fail
  refine (full_checkv (u := u6) (HM.out.up (by repeat (first | (with_reducible exact Below.refl _ _) | (with_reducible assumption) | ((with_reducible refine Below.setCell ?_ ?_ _); rotate_left; (focus (first | omega | (simp; omega) | (simp; done)))) | ((with_reducible refine Below.alloc ?_ ?_ _); rotate_left; (focus (first | omega | (simp; omega) | (simp; done)))) | (with_reducible refine Below.drew ?_)))) none none 0 0 0 0 [] [] Rd.none_ Rd.none_ (by decide) true (by decide)).mono ?_
  rintro e v15 ⟨rfl, h15⟩
  have hs : Below v14.heap.size v14 v15 := Below.call (w := v14) (by repeat (first | (with_reducible exact Below.refl _ _) | (with_reducible assumption) | ((with_reducible refine Below.setCell ?_ ?_ _); rotate_left; (focus (first | omega | (simp; omega) | (simp; done)))) | ((with_reducible refine Below.alloc ?_ ?_ _); rotate_left; (focus (first | omega | (simp; omega) | (simp; done)))) | (with_reducible refine Below.drew ?_))) h15
  have hB15 := Lib.hid (Below.call hB14.out hs)
  replace H1 := Lib.hid (H1.out.up hs)
  replace HM := Lib.hid (HM.out.up hs)
  replace HWT := Lib.hid (HWT.out.up hs)
  replace HT := Lib.hid (HT.out.up hs)
  clear hs h15
  go_wp2_with fail
  go_ret
  exact ⟨rfl, hB15.out⟩
end Go.Proofs.Ytcncobhdfflelaa
