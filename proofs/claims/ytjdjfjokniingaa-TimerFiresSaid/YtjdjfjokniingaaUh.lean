/- The contract of retroactref17.insert. -/
import Derived.Test.YtjdjfjokniingaaUg
namespace Go.Proofs.Ytjdjfjokniingaa
open Go.RowKit

theorem own_len {w : World} {base e k n n' : Nat} {v : Value} {xs xs' : List Value} (h : w.ownsRow base e k v n xs) (hn : n = n') (hx : xs = xs') : w.ownsRow base e k v n' xs' := by subst hn hx; exact h
theorem ins_take {fs : List FlyC} {f : FlyC} {k : Nat} (hs : St.Srt leF fs) (h2 : ∀ j s, k ≤ j → fs[j]? = some s → leF s f = false) (h1 : ∀ j s, k = j + 1 → fs[j]? = some s → leF s f = true) (hk : k ≤ fs.length) : St.mg leF fs [f] = fs.take k ++ f :: fs.drop k := by
  have e := List.take_append_drop k fs
  have := ins_done (S1 := fs.take k) (S2 := fs.drop k) (x := f) (by rw [e]; exact hs) (fun s hs => by
    obtain ⟨j, hj⟩ := List.getElem?_of_mem hs
    rw [List.getElem?_drop] at hj
    exact h2 _ s (by omega) hj) (fun s T hT => by
    have hl : (fs.take k).length = T.length + 1 := by rw [hT]; simp
    rw [List.length_take, Nat.min_eq_left hk] at hl
    refine h1 T.length s (by omega) ?_
    have h3 : (fs.take k)[T.length]? = some s := by rw [hT, List.getElem?_append_right (Nat.le_refl _), Nat.sub_self]; rfl
    rw [List.getElem?_take_of_lt (by omega)] at h3
    exact h3)
  rw [e] at this
  exact this
abbrev FlyBox (w : World) (f : FlyC) (wr : World) : Prop := Below w.heap.size w wr ∧ BoxAt wr w.heap.size (flyL f)
theorem fbox_cells {W : World} {B : Nat} {f : FlyC} (h : BoxAt W B (flyL f)) : W.cell? ⟨B, 0, none⟩ = some (.int .i64 f.x) ∧ W.cell? ⟨B, 1, none⟩ = some (.int .i64 f.y) ∧ W.cell? ⟨B, 2, none⟩ = some (.string f.path) ∧ W.cell? ⟨B, 3, none⟩ = some (.string f.l.src) ∧ W.cell? ⟨B, 4, none⟩ = some (.string f.l.msg) ∧ W.cell? ⟨B, 5, none⟩ = some (.slice f.l.args.a f.l.args.n f.l.args.c) ∧ W.cell? ⟨B, 6, none⟩ = some (.int .i64 f.l.sent) :=
  ⟨h.2.1 0 _ rfl, h.2.1 1 _ rfl, h.2.1 2 _ rfl, h.2.1 3 _ rfl, h.2.1 4 _ rfl, h.2.1 5 _ rfl, h.2.1 6 _ rfl⟩

set_option linter.unusedSimpArgs false in
set_option linter.unusedVariables false in
set_option maxRecDepth 100000 in
set_option maxHeartbeats 6400000 in
theorem insert67_some (g n c B : Nat) (fs : List FlyC) (f : FlyC) (w : World) (hr : w.ownsRow B 47 7 (.slice (some ⟨g, 0, none⟩) n c) n (fs.flatMap flyL)) (hn : n ≤ 1000000) (h1n : 0 < n) (hs : St.Srt leF fs) :
    Calls Try.prog 67 #[.slice (some ⟨g, 0, none⟩) n c, flyV f] w fun e w' => ∃ v : Sl, e = .returned (.slice v.a (n + 1) v.c) ∧ w'.ownsRow w.heap.size 47 7 (.slice v.a (n + 1) v.c) (n + 1) ((St.mg leF fs [f]).flatMap flyL) ∧ Below w.heap.size w w' := by
  have hgs : g < w.heap.size := own_in hr (g := g) rfl
  have hcap : n ≤ c := own_cap hr
  have hfl : fs.length = n := (own_rd hr).len (fun _ => rfl) (by omega)
  have HFL := Lib.hid hfl
  have HR := Lib.hid hr
  have HSS := Lib.hid hs
  obtain ⟨M, hM⟩ : ∃ M, M = St.mg leF fs [f] := ⟨_, rfl⟩
  rw [← hM]
  have HM := Lib.hid hM
  clear hr hs hfl hM
  obtain ⟨i6, hi6, hz60, hz61, hz62⟩ := info_parts info47
  go_enter Try.func67, Try.ntmps67
  go_wp2_with fail
  go_loopw [5] (fun i wr => ∃ k : Nat, k ≤ n ∧ i = .int .i64 k ∧ Hid (∀ j s, k ≤ j → fs[j]? = some s → leF s f = false) ∧ FlyBox w f wr) (fun i _ => (intOf i).toNat)
  case atStart => exact ⟨n, Nat.le_refl _, rfl, fun j s hj hs => absurd (List.getElem?_eq_some_iff.1 hs).1 (by have := HFL.out; omega), below_new w _, BoxAt.new w 47 (flyL f) _ rfl⟩
  case round =>
    obtain ⟨k, hk, rfl, HJ, hB, hX⟩ := hrel
    have hsz := hX.1
    have BX := Lib.hid hX
    clear hX
    obtain ⟨b0, b1, b2, b3, b4, b5, b6⟩ := fbox_cells BX.out
    rcases Nat.eq_zero_or_pos k with h0 | h0
    · have t0 : decide ((0 : Int) < (k : Int)) = false := by subst h0; rfl
      have t00 : ¬ 0 < k := by omega
      have hkn : k < n := by omega
      have HI : Hid (∀ i s, k = i + 1 → fs[i]? = some s → leF s f = true) := Lib.hid (fun j s hj => by omega)
      clear h0
      have hkc1 : k ≤ c := by omega
      have HMK : Hid (M = fs.take k ++ f :: fs.drop k) := Lib.hid (by rw [HM.out]; exact ins_take HSS.out HJ.out HI.out (by have := HFL.out; omega))
      skip
      · have hkc : k < c := by omega
        have hkc2 : ¬ c = k := by omega
        have hrd := own_rd HR.out
        have HT : Hid (Rd w w.heap.size 7 (some ⟨g, 0, none⟩) k ((fs.take k).flatMap flyL)) := Lib.hid (by have := hrd.take_ (m := k) (by omega); rwa [flatMap_take flyL 7 (fun _ => rfl)] at this)
        have HD : Hid (Rd w w.heap.size 7 (some ⟨g, 0 + k * 7, none⟩) (n - k) ((fs.drop k).flatMap flyL)) := Lib.hid (by have := hrd.drop_ (m := k) (by omega); rwa [flatMap_drop flyL 7 (fun _ => rfl)] at this)
        clear hrd
        go_wp2_with fail
        go_quiet (fail)
        have hB0 : Below w.heap.size w (wr.drewN nq) := below_drewN hB nq
        have BX0 : Hid (BoxAt (wr.drewN nq) w.heap.size (flyL f)) := Lib.hid (BX.out.drewN nq)
        obtain ⟨v0, hv0⟩ : ∃ W, W = wr.drewN nq := ⟨_, rfl⟩
        rw [← hv0] at hB0 BX0 ⊢
        have hz0 : w.heap.size < v0.heap.size := BX0.out.1
        have HB0 := Lib.hid hB0
        clear hB BX b0 b1 b2 b3 b4 b5 b6 hv0 hB0
        obtain ⟨b0, b1, b2, b3, b4, b5, b6⟩ := fbox_cells BX0.out
        go_wp2_with (first
          | (at_builtin; refine wpList_append_rd _ rfl (.tmp 46) (.tmp 49) 25 rfl v0.heap.size 47 i6 _ 7 96 Try.underlying25 hi6 hz60 hz61 hz62 rfl (by decide) (.slice (some ⟨v0.heap.size, 0, none⟩) 0 0) 0 [] rfl (World.ownsRow_lit v0 #[] 0 (Nat.le_refl _) (by unfold maxLen; omega) rfl) w.heap.size _ _ _ ((fs.take k).flatMap flyL) rfl (HT.out.below (HB0.out.alloc HB0.out.size _) (Nat.le_refl _)) (fly_one _) (by rw [ml_val]; omega) (by omega) (by simp) ?_; intro v1 w1 ho1 hg1; have q1 : Hid (Below v0.heap.size v0 w1) := Lib.hid ((below_new v0 (.cells #[] 47)).grown hg1 (by simp) (fun q hq => by simp [Value.ownBlock] at hq; omega)); have HO1 := Lib.hid ho1; have hs1 := q1.out.size; have BX1 := Lib.hid (BX0.out.call q1.out); clear ho1 hg1 b0 b1 b2 b3 b4 b5 b6; obtain ⟨b0, b1, b2, b3, b4, b5, b6⟩ := fbox_cells BX1.out)
          | (at_builtin; refine wpList_append_own _ rfl (.tmp 51) (.tmp 53) 25 rfl v0.heap.size 47 i6 _ 7 96 Try.underlying25 hi6 hz60 hz61 hz62 rfl (by decide) _ _ _ rfl (HO1.out.alloc _) ⟨w1.heap.size, 0, none⟩ 1 1 (flyL f) rfl rfl (cells_new _ _ _) (by simp [Value.oneCell']) (by rw [ml_val]; omega) (by omega) (Nat.le_trans hs1 (by simp)) ?_; intro v2 w2 ho2 hg2 _; have q2 : Hid (Below v0.heap.size v0 w2) := Lib.hid ((q1.out.alloc hs1 _).grown hg2 (Nat.le_trans hs1 (by simp)) (row_base HO1.out)); have HO2 := Lib.hid ho2; have hs2 := q2.out.size; clear ho2 hg2)
          | (at_builtin; refine wpList_append_rd _ rfl (.tmp 55) (.tmp 58) 25 rfl v0.heap.size 47 i6 _ 7 96 Try.underlying25 hi6 hz60 hz61 hz62 rfl (by decide) _ _ _ rfl HO2.out w.heap.size _ _ _ ((fs.drop k).flatMap flyL) rfl (by have := HD.out.below (Below.call HB0.out q2.out) (Nat.le_refl _); simpa using this) (fly_one _) (by rw [ml_val]; omega) (by omega) hs2 ?_; intro v3 w3 ho3 hg3; have q3 : Hid (Below v0.heap.size v0 w3) := Lib.hid (q2.out.grown hg3 hs2 (row_base HO2.out)); have HO3 := Lib.hid ho3; clear ho3 hg3))
        go_ret
        have hlen : 0 + k + 1 + (n - k) = n + 1 := by omega
        obtain ⟨x, _, hv, _⟩ := own_sl HO3.out
        subst hv
        refine ⟨x, by rw [← hlen]; rfl, ?_, Below.call HB0.out q3.out⟩
        rw [← hlen, HMK.out]
        exact row_mono (own_len HO3.out rfl (by simp)) (by omega)
    · obtain ⟨j, hj⟩ : ∃ j, j = k - 1 := ⟨_, rfl⟩
      have t0 : decide ((0 : Int) < (k : Int)) = true := by simp; omega
      have e1 : IntKind.i64.wrap ((k : Int) - 1) = (j : Int) := by rw [IntWalk.i64_left, IntWalk.wrap64_in _ (by omega)]; omega
      have lj : j < n := by omega
      have HKJ : Hid (k = j + 1) := Lib.hid (by omega)
      obtain ⟨b, off, x, hA, hb, hxk, hcl⟩ := (own_rd HR.out).at_ (fun _ => rfl) (by omega) lj
      simp only [Option.some.injEq, Addr.mk.injEq, and_true] at hA
      obtain ⟨rfl, rfl⟩ := hA
      have x0 : wr.cell? ⟨g, 0 + j * 7, none⟩ = some (.int .i64 x.x) := (hB.cell (p := ⟨g, 0 + j * 7, none⟩) hb).trans (hcl 0 _ rfl)
      have x1 : wr.cell? ⟨g, 0 + j * 7 + 1, none⟩ = some (.int .i64 x.y) := (hB.cell (p := ⟨g, 0 + j * 7 + 1, none⟩) hb).trans (hcl 1 _ rfl)
      rw [Nat.zero_add] at x0 x1
      have HX := Lib.hid hxk
      clear hxk hcl hj
      cases t1 : decide (f.x < x.x) with
      | true =>
        have hle : leF x f = false := by simp [leF] at t1 ⊢; omega
        have HN : Hid (∀ i s, j ≤ i → fs[i]? = some s → leF s f = false) := Lib.hid (fun i s hi hs => by
          rcases Nat.lt_or_ge i k with h | h
          · have : i = j := by have := HKJ.out; omega
            subst this
            rw [HX.out] at hs
            injection hs with hs
            rw [← hs]; exact hle
          · exact HJ.out i s h hs)
        clear hle
        go_wp2_with fail
        go_quiet (fail)
        go_wp2_with fail
        go_roundw
        case rel => exact ⟨j, by omega, rfl, HN, below_drewN hB nq, BX.out.drewN nq⟩
        case measure => simp [intOf]; have := HKJ.out; omega
      | false =>
        cases t2 : (x.x == f.x) with
        | false =>
          have hle : leF x f = true := by simp [leF] at t1 t2 ⊢; omega
          have HI : Hid (∀ i s, k = i + 1 → fs[i]? = some s → leF s f = true) := Lib.hid (fun i s hi hs => by
            have hk2 := HKJ.out
            have hij : i = j := by omega
            rw [hij, HX.out] at hs
            injection hs with hs
            rw [← hs]; exact hle)
          clear hle
          have hkc1 : k ≤ c := by omega
          have HMK : Hid (M = fs.take k ++ f :: fs.drop k) := Lib.hid (by rw [HM.out]; exact ins_take HSS.out HJ.out HI.out (by have := HFL.out; omega))
          by_cases hkn : k < n
          · have hkc : k < c := by omega
            have hkc2 : ¬ c = k := by omega
            have hrd := own_rd HR.out
            have HT : Hid (Rd w w.heap.size 7 (some ⟨g, 0, none⟩) k ((fs.take k).flatMap flyL)) := Lib.hid (by have := hrd.take_ (m := k) (by omega); rwa [flatMap_take flyL 7 (fun _ => rfl)] at this)
            have HD : Hid (Rd w w.heap.size 7 (some ⟨g, 0 + k * 7, none⟩) (n - k) ((fs.drop k).flatMap flyL)) := Lib.hid (by have := hrd.drop_ (m := k) (by omega); rwa [flatMap_drop flyL 7 (fun _ => rfl)] at this)
            clear hrd
            go_wp2_with fail
            go_quiet (fail)
            have hB0 : Below w.heap.size w (wr.drewN nq) := below_drewN hB nq
            have BX0 : Hid (BoxAt (wr.drewN nq) w.heap.size (flyL f)) := Lib.hid (BX.out.drewN nq)
            obtain ⟨v0, hv0⟩ : ∃ W, W = wr.drewN nq := ⟨_, rfl⟩
            rw [← hv0] at hB0 BX0 ⊢
            have hz0 : w.heap.size < v0.heap.size := BX0.out.1
            have HB0 := Lib.hid hB0
            clear hB BX b0 b1 b2 b3 b4 b5 b6 hv0 hB0
            obtain ⟨b0, b1, b2, b3, b4, b5, b6⟩ := fbox_cells BX0.out
            go_wp2_with (first
              | (at_builtin; refine wpList_append_rd _ rfl (.tmp 46) (.tmp 49) 25 rfl v0.heap.size 47 i6 _ 7 96 Try.underlying25 hi6 hz60 hz61 hz62 rfl (by decide) (.slice (some ⟨v0.heap.size, 0, none⟩) 0 0) 0 [] rfl (World.ownsRow_lit v0 #[] 0 (Nat.le_refl _) (by unfold maxLen; omega) rfl) w.heap.size _ _ _ ((fs.take k).flatMap flyL) rfl (HT.out.below (HB0.out.alloc HB0.out.size _) (Nat.le_refl _)) (fly_one _) (by rw [ml_val]; omega) (by omega) (by simp) ?_; intro v1 w1 ho1 hg1; have q1 : Hid (Below v0.heap.size v0 w1) := Lib.hid ((below_new v0 (.cells #[] 47)).grown hg1 (by simp) (fun q hq => by simp [Value.ownBlock] at hq; omega)); have HO1 := Lib.hid ho1; have hs1 := q1.out.size; have BX1 := Lib.hid (BX0.out.call q1.out); clear ho1 hg1 b0 b1 b2 b3 b4 b5 b6; obtain ⟨b0, b1, b2, b3, b4, b5, b6⟩ := fbox_cells BX1.out)
              | (at_builtin; refine wpList_append_own _ rfl (.tmp 51) (.tmp 53) 25 rfl v0.heap.size 47 i6 _ 7 96 Try.underlying25 hi6 hz60 hz61 hz62 rfl (by decide) _ _ _ rfl (HO1.out.alloc _) ⟨w1.heap.size, 0, none⟩ 1 1 (flyL f) rfl rfl (cells_new _ _ _) (by simp [Value.oneCell']) (by rw [ml_val]; omega) (by omega) (Nat.le_trans hs1 (by simp)) ?_; intro v2 w2 ho2 hg2 _; have q2 : Hid (Below v0.heap.size v0 w2) := Lib.hid ((q1.out.alloc hs1 _).grown hg2 (Nat.le_trans hs1 (by simp)) (row_base HO1.out)); have HO2 := Lib.hid ho2; have hs2 := q2.out.size; clear ho2 hg2)
              | (at_builtin; refine wpList_append_rd _ rfl (.tmp 55) (.tmp 58) 25 rfl v0.heap.size 47 i6 _ 7 96 Try.underlying25 hi6 hz60 hz61 hz62 rfl (by decide) _ _ _ rfl HO2.out w.heap.size _ _ _ ((fs.drop k).flatMap flyL) rfl (by have := HD.out.below (Below.call HB0.out q2.out) (Nat.le_refl _); simpa using this) (fly_one _) (by rw [ml_val]; omega) (by omega) hs2 ?_; intro v3 w3 ho3 hg3; have q3 : Hid (Below v0.heap.size v0 w3) := Lib.hid (q2.out.grown hg3 hs2 (row_base HO2.out)); have HO3 := Lib.hid ho3; clear ho3 hg3))
            go_ret
            have hlen : 0 + k + 1 + (n - k) = n + 1 := by omega
            obtain ⟨x, _, hv, _⟩ := own_sl HO3.out
            subst hv
            refine ⟨x, by rw [← hlen]; rfl, ?_, Below.call HB0.out q3.out⟩
            rw [← hlen, HMK.out]
            exact row_mono (own_len HO3.out rfl (by simp)) (by omega)
          · have hkz : True := trivial
            have HE : Hid (∀ (W : World) (A : Option Addr), Rd W w.heap.size 7 A (n - k) ((fs.drop k).flatMap flyL)) := Lib.hid (fun W A => by rw [show n - k = 0 by omega, List.drop_of_length_le (by have := HFL.out; omega)]; exact Rd.none_)
            have hrd := own_rd HR.out
            have HT : Hid (Rd w w.heap.size 7 (some ⟨g, 0, none⟩) k ((fs.take k).flatMap flyL)) := Lib.hid (by have := hrd.take_ (m := k) (by omega); rwa [flatMap_take flyL 7 (fun _ => rfl)] at this)
            have HD : Hid (Rd w w.heap.size 7 (some ⟨g, 0 + k * 7, none⟩) (n - k) ((fs.drop k).flatMap flyL)) := Lib.hid (by have := hrd.drop_ (m := k) (by omega); rwa [flatMap_drop flyL 7 (fun _ => rfl)] at this)
            clear hrd
            go_wp2_with fail
            go_quiet (fail)
            have hB0 : Below w.heap.size w (wr.drewN nq) := below_drewN hB nq
            have BX0 : Hid (BoxAt (wr.drewN nq) w.heap.size (flyL f)) := Lib.hid (BX.out.drewN nq)
            obtain ⟨v0, hv0⟩ : ∃ W, W = wr.drewN nq := ⟨_, rfl⟩
            rw [← hv0] at hB0 BX0 ⊢
            have hz0 : w.heap.size < v0.heap.size := BX0.out.1
            have HB0 := Lib.hid hB0
            clear hB BX b0 b1 b2 b3 b4 b5 b6 hv0 hB0
            obtain ⟨b0, b1, b2, b3, b4, b5, b6⟩ := fbox_cells BX0.out
            go_wp2_with (first
              | (at_builtin; refine wpList_append_rd _ rfl (.tmp 46) (.tmp 49) 25 rfl v0.heap.size 47 i6 _ 7 96 Try.underlying25 hi6 hz60 hz61 hz62 rfl (by decide) (.slice (some ⟨v0.heap.size, 0, none⟩) 0 0) 0 [] rfl (World.ownsRow_lit v0 #[] 0 (Nat.le_refl _) (by unfold maxLen; omega) rfl) w.heap.size _ _ _ ((fs.take k).flatMap flyL) rfl (HT.out.below (HB0.out.alloc HB0.out.size _) (Nat.le_refl _)) (fly_one _) (by rw [ml_val]; omega) (by omega) (by simp) ?_; intro v1 w1 ho1 hg1; have q1 : Hid (Below v0.heap.size v0 w1) := Lib.hid ((below_new v0 (.cells #[] 47)).grown hg1 (by simp) (fun q hq => by simp [Value.ownBlock] at hq; omega)); have HO1 := Lib.hid ho1; have hs1 := q1.out.size; have BX1 := Lib.hid (BX0.out.call q1.out); clear ho1 hg1 b0 b1 b2 b3 b4 b5 b6; obtain ⟨b0, b1, b2, b3, b4, b5, b6⟩ := fbox_cells BX1.out)
              | (at_builtin; refine wpList_append_own _ rfl (.tmp 51) (.tmp 53) 25 rfl v0.heap.size 47 i6 _ 7 96 Try.underlying25 hi6 hz60 hz61 hz62 rfl (by decide) _ _ _ rfl (HO1.out.alloc _) ⟨w1.heap.size, 0, none⟩ 1 1 (flyL f) rfl rfl (cells_new _ _ _) (by simp [Value.oneCell']) (by rw [ml_val]; omega) (by omega) (Nat.le_trans hs1 (by simp)) ?_; intro v2 w2 ho2 hg2 _; have q2 : Hid (Below v0.heap.size v0 w2) := Lib.hid ((q1.out.alloc hs1 _).grown hg2 (Nat.le_trans hs1 (by simp)) (row_base HO1.out)); have HO2 := Lib.hid ho2; have hs2 := q2.out.size; clear ho2 hg2)
              | (at_builtin; refine wpList_append_rd _ rfl (.tmp 55) (.tmp 58) 25 rfl v0.heap.size 47 i6 _ 7 96 Try.underlying25 hi6 hz60 hz61 hz62 rfl (by decide) _ _ _ rfl HO2.out w.heap.size _ _ _ ((fs.drop k).flatMap flyL) rfl (HE.out _ _) (fly_one _) (by rw [ml_val]; omega) (by omega) hs2 ?_; intro v3 w3 ho3 hg3; have q3 : Hid (Below v0.heap.size v0 w3) := Lib.hid (q2.out.grown hg3 hs2 (row_base HO2.out)); have HO3 := Lib.hid ho3; clear ho3 hg3))
            all_goals
              go_ret
              have hlen : 0 + k + 1 + (n - k) = n + 1 := by omega
              obtain ⟨x, _, hv, _⟩ := own_sl HO3.out
              subst hv
              refine ⟨x, by rw [← hlen]; rfl, ?_, Below.call HB0.out q3.out⟩
              rw [← hlen, HMK.out]
              exact row_mono (own_len HO3.out rfl (by simp)) (by omega)
        | true =>
          cases t3 : decide (f.y < x.y) with
          | true =>
            have hle : leF x f = false := by simp [leF] at t1 t2 t3 ⊢; omega
            have HN : Hid (∀ i s, j ≤ i → fs[i]? = some s → leF s f = false) := Lib.hid (fun i s hi hs => by
              rcases Nat.lt_or_ge i k with h | h
              · have : i = j := by have := HKJ.out; omega
                subst this
                rw [HX.out] at hs
                injection hs with hs
                rw [← hs]; exact hle
              · exact HJ.out i s h hs)
            clear hle
            go_wp2_with fail
            go_quiet (fail)
            go_wp2_with fail
            go_roundw
            case rel => exact ⟨j, by omega, rfl, HN, below_drewN hB nq, BX.out.drewN nq⟩
            case measure => simp [intOf]; have := HKJ.out; omega
          | false =>
            have hle : leF x f = true := by simp [leF] at t1 t2 t3 ⊢; omega
            have HI : Hid (∀ i s, k = i + 1 → fs[i]? = some s → leF s f = true) := Lib.hid (fun i s hi hs => by
              have hk2 := HKJ.out
              have hij : i = j := by omega
              rw [hij, HX.out] at hs
              injection hs with hs
              rw [← hs]; exact hle)
            clear hle
            have hkc1 : k ≤ c := by omega
            have HMK : Hid (M = fs.take k ++ f :: fs.drop k) := Lib.hid (by rw [HM.out]; exact ins_take HSS.out HJ.out HI.out (by have := HFL.out; omega))
            by_cases hkn : k < n
            · have hkc : k < c := by omega
              have hkc2 : ¬ c = k := by omega
              have hrd := own_rd HR.out
              have HT : Hid (Rd w w.heap.size 7 (some ⟨g, 0, none⟩) k ((fs.take k).flatMap flyL)) := Lib.hid (by have := hrd.take_ (m := k) (by omega); rwa [flatMap_take flyL 7 (fun _ => rfl)] at this)
              have HD : Hid (Rd w w.heap.size 7 (some ⟨g, 0 + k * 7, none⟩) (n - k) ((fs.drop k).flatMap flyL)) := Lib.hid (by have := hrd.drop_ (m := k) (by omega); rwa [flatMap_drop flyL 7 (fun _ => rfl)] at this)
              clear hrd
              go_wp2_with fail
              go_quiet (fail)
              have hB0 : Below w.heap.size w (wr.drewN nq) := below_drewN hB nq
              have BX0 : Hid (BoxAt (wr.drewN nq) w.heap.size (flyL f)) := Lib.hid (BX.out.drewN nq)
              obtain ⟨v0, hv0⟩ : ∃ W, W = wr.drewN nq := ⟨_, rfl⟩
              rw [← hv0] at hB0 BX0 ⊢
              have hz0 : w.heap.size < v0.heap.size := BX0.out.1
              have HB0 := Lib.hid hB0
              clear hB BX b0 b1 b2 b3 b4 b5 b6 hv0 hB0
              obtain ⟨b0, b1, b2, b3, b4, b5, b6⟩ := fbox_cells BX0.out
              go_wp2_with (first
                | (at_builtin; refine wpList_append_rd _ rfl (.tmp 46) (.tmp 49) 25 rfl v0.heap.size 47 i6 _ 7 96 Try.underlying25 hi6 hz60 hz61 hz62 rfl (by decide) (.slice (some ⟨v0.heap.size, 0, none⟩) 0 0) 0 [] rfl (World.ownsRow_lit v0 #[] 0 (Nat.le_refl _) (by unfold maxLen; omega) rfl) w.heap.size _ _ _ ((fs.take k).flatMap flyL) rfl (HT.out.below (HB0.out.alloc HB0.out.size _) (Nat.le_refl _)) (fly_one _) (by rw [ml_val]; omega) (by omega) (by simp) ?_; intro v1 w1 ho1 hg1; have q1 : Hid (Below v0.heap.size v0 w1) := Lib.hid ((below_new v0 (.cells #[] 47)).grown hg1 (by simp) (fun q hq => by simp [Value.ownBlock] at hq; omega)); have HO1 := Lib.hid ho1; have hs1 := q1.out.size; have BX1 := Lib.hid (BX0.out.call q1.out); clear ho1 hg1 b0 b1 b2 b3 b4 b5 b6; obtain ⟨b0, b1, b2, b3, b4, b5, b6⟩ := fbox_cells BX1.out)
                | (at_builtin; refine wpList_append_own _ rfl (.tmp 51) (.tmp 53) 25 rfl v0.heap.size 47 i6 _ 7 96 Try.underlying25 hi6 hz60 hz61 hz62 rfl (by decide) _ _ _ rfl (HO1.out.alloc _) ⟨w1.heap.size, 0, none⟩ 1 1 (flyL f) rfl rfl (cells_new _ _ _) (by simp [Value.oneCell']) (by rw [ml_val]; omega) (by omega) (Nat.le_trans hs1 (by simp)) ?_; intro v2 w2 ho2 hg2 _; have q2 : Hid (Below v0.heap.size v0 w2) := Lib.hid ((q1.out.alloc hs1 _).grown hg2 (Nat.le_trans hs1 (by simp)) (row_base HO1.out)); have HO2 := Lib.hid ho2; have hs2 := q2.out.size; clear ho2 hg2)
                | (at_builtin; refine wpList_append_rd _ rfl (.tmp 55) (.tmp 58) 25 rfl v0.heap.size 47 i6 _ 7 96 Try.underlying25 hi6 hz60 hz61 hz62 rfl (by decide) _ _ _ rfl HO2.out w.heap.size _ _ _ ((fs.drop k).flatMap flyL) rfl (by have := HD.out.below (Below.call HB0.out q2.out) (Nat.le_refl _); simpa using this) (fly_one _) (by rw [ml_val]; omega) (by omega) hs2 ?_; intro v3 w3 ho3 hg3; have q3 : Hid (Below v0.heap.size v0 w3) := Lib.hid (q2.out.grown hg3 hs2 (row_base HO2.out)); have HO3 := Lib.hid ho3; clear ho3 hg3))
              go_ret
              have hlen : 0 + k + 1 + (n - k) = n + 1 := by omega
              obtain ⟨x, _, hv, _⟩ := own_sl HO3.out
              subst hv
              refine ⟨x, by rw [← hlen]; rfl, ?_, Below.call HB0.out q3.out⟩
              rw [← hlen, HMK.out]
              exact row_mono (own_len HO3.out rfl (by simp)) (by omega)
            · have hkz : True := trivial
              have HE : Hid (∀ (W : World) (A : Option Addr), Rd W w.heap.size 7 A (n - k) ((fs.drop k).flatMap flyL)) := Lib.hid (fun W A => by rw [show n - k = 0 by omega, List.drop_of_length_le (by have := HFL.out; omega)]; exact Rd.none_)
              have hrd := own_rd HR.out
              have HT : Hid (Rd w w.heap.size 7 (some ⟨g, 0, none⟩) k ((fs.take k).flatMap flyL)) := Lib.hid (by have := hrd.take_ (m := k) (by omega); rwa [flatMap_take flyL 7 (fun _ => rfl)] at this)
              have HD : Hid (Rd w w.heap.size 7 (some ⟨g, 0 + k * 7, none⟩) (n - k) ((fs.drop k).flatMap flyL)) := Lib.hid (by have := hrd.drop_ (m := k) (by omega); rwa [flatMap_drop flyL 7 (fun _ => rfl)] at this)
              clear hrd
              go_wp2_with fail
              go_quiet (fail)
              have hB0 : Below w.heap.size w (wr.drewN nq) := below_drewN hB nq
              have BX0 : Hid (BoxAt (wr.drewN nq) w.heap.size (flyL f)) := Lib.hid (BX.out.drewN nq)
              obtain ⟨v0, hv0⟩ : ∃ W, W = wr.drewN nq := ⟨_, rfl⟩
              rw [← hv0] at hB0 BX0 ⊢
              have hz0 : w.heap.size < v0.heap.size := BX0.out.1
              have HB0 := Lib.hid hB0
              clear hB BX b0 b1 b2 b3 b4 b5 b6 hv0 hB0
              obtain ⟨b0, b1, b2, b3, b4, b5, b6⟩ := fbox_cells BX0.out
              go_wp2_with (first
                | (at_builtin; refine wpList_append_rd _ rfl (.tmp 46) (.tmp 49) 25 rfl v0.heap.size 47 i6 _ 7 96 Try.underlying25 hi6 hz60 hz61 hz62 rfl (by decide) (.slice (some ⟨v0.heap.size, 0, none⟩) 0 0) 0 [] rfl (World.ownsRow_lit v0 #[] 0 (Nat.le_refl _) (by unfold maxLen; omega) rfl) w.heap.size _ _ _ ((fs.take k).flatMap flyL) rfl (HT.out.below (HB0.out.alloc HB0.out.size _) (Nat.le_refl _)) (fly_one _) (by rw [ml_val]; omega) (by omega) (by simp) ?_; intro v1 w1 ho1 hg1; have q1 : Hid (Below v0.heap.size v0 w1) := Lib.hid ((below_new v0 (.cells #[] 47)).grown hg1 (by simp) (fun q hq => by simp [Value.ownBlock] at hq; omega)); have HO1 := Lib.hid ho1; have hs1 := q1.out.size; have BX1 := Lib.hid (BX0.out.call q1.out); clear ho1 hg1 b0 b1 b2 b3 b4 b5 b6; obtain ⟨b0, b1, b2, b3, b4, b5, b6⟩ := fbox_cells BX1.out)
                | (at_builtin; refine wpList_append_own _ rfl (.tmp 51) (.tmp 53) 25 rfl v0.heap.size 47 i6 _ 7 96 Try.underlying25 hi6 hz60 hz61 hz62 rfl (by decide) _ _ _ rfl (HO1.out.alloc _) ⟨w1.heap.size, 0, none⟩ 1 1 (flyL f) rfl rfl (cells_new _ _ _) (by simp [Value.oneCell']) (by rw [ml_val]; omega) (by omega) (Nat.le_trans hs1 (by simp)) ?_; intro v2 w2 ho2 hg2 _; have q2 : Hid (Below v0.heap.size v0 w2) := Lib.hid ((q1.out.alloc hs1 _).grown hg2 (Nat.le_trans hs1 (by simp)) (row_base HO1.out)); have HO2 := Lib.hid ho2; have hs2 := q2.out.size; clear ho2 hg2)
                | (at_builtin; refine wpList_append_rd _ rfl (.tmp 55) (.tmp 58) 25 rfl v0.heap.size 47 i6 _ 7 96 Try.underlying25 hi6 hz60 hz61 hz62 rfl (by decide) _ _ _ rfl HO2.out w.heap.size _ _ _ ((fs.drop k).flatMap flyL) rfl (HE.out _ _) (fly_one _) (by rw [ml_val]; omega) (by omega) hs2 ?_; intro v3 w3 ho3 hg3; have q3 : Hid (Below v0.heap.size v0 w3) := Lib.hid (q2.out.grown hg3 hs2 (row_base HO2.out)); have HO3 := Lib.hid ho3; clear ho3 hg3))
              all_goals
                go_ret
                have hlen : 0 + k + 1 + (n - k) = n + 1 := by omega
                obtain ⟨x, _, hv, _⟩ := own_sl HO3.out
                subst hv
                refine ⟨x, by rw [← hlen]; rfl, ?_, Below.call HB0.out q3.out⟩
                rw [← hlen, HMK.out]
                exact row_mono (own_len HO3.out rfl (by simp)) (by omega)
end Go.Proofs.Ytjdjfjokniingaa
