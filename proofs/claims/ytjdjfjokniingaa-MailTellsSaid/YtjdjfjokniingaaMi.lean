/- The contracts of mail.channel, and of slices.Clip, Grow, Concat and IndexFunc at flights. -/
import Derived.Test.YtjdjfjokniingaaMe
import Derived.Lib.AppendZeros
namespace Go.Proofs.Ytjdjfjokniingaa
open Go.RowKit

namespace Ml
def onCh (x y : Int) (f : FlyC) : Bool := decide (f.x = x) && decide (f.y = y)
def chan (fls : List FlyC) (x y : Int) : Nat := (fls.filter (onCh x y)).length
theorem chan_snoc (fls : List FlyC) (x y : Int) (f : FlyC) : chan (fls ++ [f]) x y = chan fls x y + (if onCh x y f then 1 else 0) := by
  unfold chan
  rw [List.filter_append, List.length_append]
  cases h : onCh x y f <;> simp [h]
theorem chan_le (fls : List FlyC) (x y : Int) : chan fls x y ≤ fls.length := List.length_filter_le _ _
end Ml

set_option maxRecDepth 100000 in
set_option maxHeartbeats 1600000 in
theorem chan79 (s : SysC) (fls : List FlyC) (x y : Int) (w : World) (h : Rd w w.heap.size 7 s.flights.a s.flights.n (fls.flatMap flyL)) (hn : s.flights.n ≤ 1000000) :
    Calls Try.prog 79 #[sysV s, .int .i64 x, .int .i64 y] w fun e w' => e = .returned (.int .i64 (Ml.chan fls x y : Nat)) ∧ Below w.heap.size w w' := by
  have H := Lib.hid h
  have HL := Lib.hid (h.len (fun _ => rfl) (by omega))
  clear h
  go_enter Try.func79, Try.ntmps79
  go_wp2
  go_loop [7, 12] (fun c i => ∃ k : Nat, k ≤ s.flights.n ∧ i = .int .i64 k ∧ c = .int .i64 (Ml.chan (fls.take k) x y : Nat)) (fun _ i => s.flights.n - (intOf i).toNat)
  case atStart => exact ⟨0, Nat.zero_le _, rfl, rfl⟩
  case round =>
    obtain ⟨k, hk, rfl, rfl⟩ := hrel
    by_cases hlt : k < s.flights.n
    · obtain ⟨b, off, f, hA, hb, hfk, hc⟩ := H.out.at_ (fun _ => rfl) (by omega) hlt
      have c0 : w.cell? ⟨b, off + k * 7, none⟩ = some (.int .i64 f.x) := hc 0 _ rfl
      have c1 : w.cell? ⟨b, off + k * 7 + 1, none⟩ = some (.int .i64 f.y) := hc 1 _ rfl
      have hix : ∀ W : World, Sem.run Try.prog (Instr.indexAt 24 (.slice s.flights.a s.flights.n s.flights.c) (.int .i64 (k : Int))) W = .ok (.pointer (some ⟨b, off + k * 7, none⟩)) W := by intro W; rw [hA]; go_simp
      have HF := Lib.hid (take_snoc' _ k f hfk)
      clear hA hfk hc
      have n1 : ¬ b = w.heap.size := by omega
      have hle := Ml.chan_le (fls.take k) x y
      have hle2 : (fls.take k).length ≤ k := by simp; omega
      by_cases k1 : f.x = x
      · have t1 : (f.x == x) = true := by simp [k1]
        by_cases k2 : f.y = y
        · have t2 : (f.y == y) = true := by simp [k2]
          have HN : Hid (Ml.chan (fls.take (k + 1)) x y = Ml.chan (fls.take k) x y + 1) := Lib.hid (by rw [HF.out, Ml.chan_snoc]; simp [Ml.onCh, k1, k2])
          clear k1 k2
          go_wp2_with fail
          go_round
          case rel => exact ⟨k + 1, by omega, by go_num, by rw [HN.out]; go_num⟩
          case measure => simp [intOf]; omega
        · have t2 : (f.y == y) = false := by simp [k2]
          have HN : Hid (Ml.chan (fls.take (k + 1)) x y = Ml.chan (fls.take k) x y) := Lib.hid (by rw [HF.out, Ml.chan_snoc]; simp [Ml.onCh, k2])
          clear k1 k2
          go_wp2_with fail
          go_round
          case rel => exact ⟨k + 1, by omega, by go_num, by rw [HN.out]⟩
          case measure => simp [intOf]; omega
      · have t1 : (f.x == x) = false := by simp [k1]
        have HN : Hid (Ml.chan (fls.take (k + 1)) x y = Ml.chan (fls.take k) x y) := Lib.hid (by rw [HF.out, Ml.chan_snoc]; simp [Ml.onCh, k1])
        clear k1
        go_wp2_with fail
        go_round
        case rel => exact ⟨k + 1, by omega, by go_num, by rw [HN.out]⟩
        case measure => simp [intOf]; omega
    · have HE : Hid (fls.take k = fls) := Lib.hid (List.take_of_length_le (by have := HL.out; omega))
      go_wp2_with fail
      go_ret
      exact ⟨ret_int (by rw [HE.out]), (Below.refl _ _).alloc (Nat.le_refl _) _⟩

set_option maxHeartbeats 800000 in
theorem clip80 (A : Option Addr) (n c : Nat) (w : World) (hc : n ≤ c) :
    Calls Try.prog 80 #[.slice A n c] w fun e w' => e = .returned (.slice A n n) ∧ w = w' := by
  go_enter Try.func80, Try.ntmps80
  go_wp2
  go_ret
  exact ⟨rfl, rfl⟩

set_option maxRecDepth 100000 in
set_option maxHeartbeats 800000 in
/-- slices.Grow of a nil slice -/
theorem grow100 (n : Nat) (w : World) (hn : n ≤ 10000000) : Calls Try.prog 100 #[.slice none 0 0, .int .i64 (n : Int)] w (OwnPost 66 7 0 [] w) := by
  rcases Nat.eq_zero_or_pos n with h0 | h0
  · subst h0
    go_enter Try.func100, Try.ntmps100
    go_wp2
    go_ret
    exact ⟨⟨none, 0, 0⟩, rfl, World.ownsRow_nil _ _ _ _, Below.refl _ _⟩
  · obtain ⟨i6, hi6, hz60, hz61, hz62⟩ := info_parts info66
    have hrun := Lib.run_append_nil_zeros (P := Try.prog) w 24 3 24 66 i6 _ .i64 .i64 Try.underlying24 Try.underlying3 hi6 hz60 n h0 (by rw [hz61]; omega) (by omega) (by rw [hz62]; omega)
    have hge : n ≤ grownCap w n 0 66 := grownCap_ge w n 0 66
    have hcm : grownCap w n 0 66 ≤ maxLen := grownCap_le_maxLen w n 0 66 (by rw [ml_val]; omega)
    generalize grownCap w n 0 66 = cap at *
    have HR := Lib.hid hrun
    clear hrun
    rw [ml_val] at hcm
    have hi1 : decide (0 < (n : Int)) = true := by simp; omega
    go_enter Try.func100, Try.ntmps100
    go_wp2_with (at_builtin; refine Lib.wpList_append_run _ rfl (.tmp 20) (.tmp 21) 24 3 rfl _ _ rfl rfl _ _ HR.out ?_)
    go_ret
    refine ⟨⟨some ⟨w.heap.size, 0, none⟩, 0, cap⟩, rfl, ⟨by simp, .inr ⟨w.heap.size, cap, _, rfl, Nat.le_refl _, heap_alloc_new w.drew _, Nat.zero_le _, by rw [ml_val]; exact hcm, ?_, by simp⟩⟩, (Below.refl _ _).drew.alloc (Nat.le_refl _) _⟩
    rw [Array.size_append, size_zeroCells, size_zeroCells]
    show n * 7 + (cap - n) * 7 = cap * 7
    rw [← Nat.add_mul]
    congr 1
    omega

set_option maxRecDepth 100000 in
set_option maxHeartbeats 1600000 in
/-- slices.Concat of two slices -/
theorem concat84 (f1 f2 : List FlyC) (A1 A2 : Option Addr) (n1 n2 c1 c2 g : Nat) (w : World) (hg : w.cell? ⟨g, 0, none⟩ = some (.slice A1 n1 c1)) (hg1 : w.cell? ⟨g, 1, none⟩ = some (.slice A2 n2 c2)) (hgl : g < w.heap.size)
    (h1 : Rd w w.heap.size 7 A1 n1 (f1.flatMap flyL)) (h2 : Rd w w.heap.size 7 A2 n2 (f2.flatMap flyL)) (b1 : n1 ≤ 1000000) (b2 : n2 ≤ 1000000) :
    Calls Try.prog 84 #[.slice (some ⟨g, 0, none⟩) 2 2] w (OwnPost 66 7 (n1 + n2) ((f1 ++ f2).flatMap flyL) w) := by
  have H1 := Lib.hid h1
  have H2 := Lib.hid h2
  clear h1 h2
  obtain ⟨i6, hi6, hz60, hz61, hz62⟩ := info_parts info66
  go_enter Try.func84, Try.ntmps84
  go_wp2
  refine wp_loop_rounds 3 ?_
  rw [rounds_succ]
  go_wp2
  rw [rounds_succ]
  go_wp2
  rw [rounds_succ]
  go_wp2_with fail
  have hG := grow100 (n1 + n2) w (by omega)
  refine (show Calls Try.prog 100 #[.slice none 0 0, .int .i64 ((n1 : Int) + (n2 : Int))] w (OwnPost 66 7 0 [] w) by simpa using hG).mono ?_
  rintro e v1 ⟨u, rfl, ho, h1⟩
  have z1 := h1.size
  have HO := Lib.hid ho
  have HB := Lib.hid h1
  have q0 : v1.cell? ⟨g, 0, none⟩ = some (.slice A1 n1 c1) := (h1.cell (p := ⟨g, 0, none⟩) hgl).trans hg
  have q1 : v1.cell? ⟨g, 1, none⟩ = some (.slice A2 n2 c2) := (h1.cell (p := ⟨g, 1, none⟩) hgl).trans hg1
  clear ho h1 hg hg1 hG
  go_wp2
  refine wp_loop_rounds 3 ?_
  rw [rounds_succ]
  go_wp2_with (at_builtin; refine wpList_append_rd _ rfl (.tmp 31) (.tmp 32) 24 rfl w.heap.size 66 i6 _ 7 96 Try.underlying24 hi6 hz60 hz61 hz62 rfl (by decide) (.slice u.a 0 u.c) 0 [] rfl HO.out w.heap.size _ _ _ (f1.flatMap flyL) rfl (H1.out.below HB.out (Nat.le_refl _)) (fly_one f1) (by rw [ml_val]; omega) (by omega) z1 ?_; intro v' w2 ho2 hg2; have HO2 := Lib.hid ho2; have HB2 := Lib.hid (HB.out.grown hg2 z1 (row_base HO.out)); have z2 : w.heap.size ≤ w2.heap.size := HB2.out.size; have r1 : w2.cell? ⟨g, 1, none⟩ = some (.slice A2 n2 c2) := (HB2.out.cell (p := ⟨g, 1, none⟩) hgl).trans ((HB.out.cell (p := ⟨g, 1, none⟩) hgl).symm.trans q1); clear ho2 hg2 q0 q1)
  rw [rounds_succ]
  go_wp2_with (at_builtin; refine wpList_append_rd _ rfl (.tmp 31) (.tmp 32) 24 rfl w.heap.size 66 i6 _ 7 96 Try.underlying24 hi6 hz60 hz61 hz62 rfl (by decide) v' (0 + n1) ([] ++ f1.flatMap flyL) rfl HO2.out w.heap.size _ _ _ (f2.flatMap flyL) rfl (H2.out.below HB2.out (Nat.le_refl _)) (fly_one f2) (by rw [ml_val]; omega) (by omega) z2 ?_; intro v'' w3 ho3 hg3; have HO3 := Lib.hid ho3; have HB3 := Lib.hid (HB2.out.grown hg3 z2 (row_base HO2.out)); clear ho3 hg3 r1)
  rw [rounds_succ]
  go_wp2_with fail
  go_ret
  have ho : w3.ownsRow w.heap.size 66 7 v'' (n1 + n2) ((f1 ++ f2).flatMap flyL) := by
    have := HO3.out
    simpa using this
  obtain ⟨u', _, rfl, _⟩ := own_sl ho
  exact ⟨u', rfl, ho, HB3.out⟩

set_option maxRecDepth 100000 in
set_option maxHeartbeats 800000 in
/-- the closure of Arrive -/
theorem arrive83 (f : FlyC) (x y : Int) (b1 b2 : Nat) (w : World) (h1 : BoxAt w b1 [.int .i64 x]) (h2 : BoxAt w b2 [.int .i64 y]) :
    Calls Try.prog 83 #[flyV f, .pointer (some ⟨b1, 0, none⟩), .pointer (some ⟨b2, 0, none⟩)] w fun e w' => e = .returned (.bool (Ml.onCh x y f)) ∧ Below w.heap.size w w' := by
  have c1 : w.cell? ⟨b1, 0, none⟩ = some (.int .i64 x) := h1.2.1 0 _ rfl
  have c2 : w.cell? ⟨b2, 0, none⟩ = some (.int .i64 y) := h2.2.1 0 _ rfl
  have m1 := h1.1
  have m2 := h2.1
  clear h1 h2
  by_cases k1 : f.x = x
  · have t1 : (f.x == x) = true := by simp [k1]
    by_cases k2 : f.y = y
    · have t2 : (f.y == y) = true := by simp [k2]
      have HX : Hid (Ml.onCh x y f = true) := Lib.hid (by simp [Ml.onCh, k1, k2])
      clear k1 k2
      go_enter Try.func83, Try.ntmps83
      go_wp2
      go_ret
      exact ⟨ret_bool HX.out.symm, (Below.refl _ _).alloc (Nat.le_refl _) _⟩
    · have t2 : (f.y == y) = false := by simp [k2]
      have HX : Hid (Ml.onCh x y f = false) := Lib.hid (by simp [Ml.onCh, k2])
      clear k1 k2
      go_enter Try.func83, Try.ntmps83
      go_wp2
      go_ret
      exact ⟨ret_bool HX.out.symm, (Below.refl _ _).alloc (Nat.le_refl _) _⟩
  · have t1 : (f.x == x) = false := by simp [k1]
    have HX : Hid (Ml.onCh x y f = false) := Lib.hid (by simp [Ml.onCh, k1])
    clear k1
    go_enter Try.func83, Try.ntmps83
    go_wp2
    go_ret
    exact ⟨ret_bool HX.out.symm, (Below.refl _ _).alloc (Nat.le_refl _) _⟩

/-- the index of the first flight of a channel, or -1 -/
def Ml.idx (fls : List FlyC) (x y : Int) : Option Nat := fls.findIdx? (Ml.onCh x y)
def Ml.idxI (o : Option Nat) : Int := match o with | some k => (k : Int) | none => -1
set_option maxRecDepth 100000 in
set_option maxHeartbeats 1600000 in
theorem index82 (fls : List FlyC) (u : Sl) (x y : Int) (bd1 bd2 : Value) (w : World) (h : Rd w w.heap.size 7 u.a u.n (fls.flatMap flyL)) (hn : u.n ≤ 1000000)
    (hc : ∀ (W : World) (f : FlyC), Below w.heap.size w W → Calls Try.prog 83 #[flyV f, bd1, bd2] W fun e w' => e = .returned (.bool (Ml.onCh x y f)) ∧ Below W.heap.size W w') :
    Calls Try.prog 82 #[.slice u.a u.n u.c, .func (.func 83) #[] #[bd1, bd2]] w fun e w' => e = .returned (.int .i64 (Ml.idxI (Ml.idx fls x y))) ∧ Below w.heap.size w w' := by
  have H := Lib.hid h
  have HC := Lib.hid hc
  have HL := Lib.hid (h.len (fun _ => rfl) (by omega))
  clear h hc
  go_enter Try.func82, Try.ntmps82
  go_wp2
  go_loopw [8] (fun i wr => ∃ k : Nat, k ≤ u.n ∧ i = .int .i64 k ∧ Hid (∀ (j : Nat) (f : FlyC), j < k → fls[j]? = some f → Ml.onCh x y f = false) ∧ Below w.heap.size w wr) (fun i _ => u.n - (intOf i).toNat)
  case atStart => exact ⟨0, Nat.zero_le _, rfl, fun j f hj => absurd hj (by omega), Below.refl _ _⟩
  case round =>
    obtain ⟨k, hk, rfl, HJ, hB⟩ := hrel
    have hsz := hB.size
    by_cases hlt : k < u.n
    · obtain ⟨b, off, f, hA, hb, hfk, hcl⟩ := H.out.at_ (fun _ => rfl) (by omega) hlt
      have x0 : wr.cell? ⟨b, off + k * 7, none⟩ = some (.int .i64 f.x) := (hB.cell (p := ⟨b, off + k * 7, none⟩) hb).trans (hcl 0 _ rfl)
      have x1 : wr.cell? ⟨b, off + k * 7 + 1, none⟩ = some (.int .i64 f.y) := (hB.cell (p := ⟨b, off + k * 7 + 1, none⟩) hb).trans (hcl 1 _ rfl)
      have x2 : wr.cell? ⟨b, off + k * 7 + 2, none⟩ = some (.string f.path) := (hB.cell (p := ⟨b, off + k * 7 + 2, none⟩) hb).trans (hcl 2 _ rfl)
      have x3 : wr.cell? ⟨b, off + k * 7 + 3, none⟩ = some (.string f.l.src) := (hB.cell (p := ⟨b, off + k * 7 + 3, none⟩) hb).trans (hcl 3 _ rfl)
      have x4 : wr.cell? ⟨b, off + k * 7 + 4, none⟩ = some (.string f.l.msg) := (hB.cell (p := ⟨b, off + k * 7 + 4, none⟩) hb).trans (hcl 4 _ rfl)
      have x5 : wr.cell? ⟨b, off + k * 7 + 5, none⟩ = some (.slice f.l.args.a f.l.args.n f.l.args.c) := (hB.cell (p := ⟨b, off + k * 7 + 5, none⟩) hb).trans (hcl 5 _ rfl)
      have x6 : wr.cell? ⟨b, off + k * 7 + 6, none⟩ = some (.int .i64 f.l.sent) := (hB.cell (p := ⟨b, off + k * 7 + 6, none⟩) hb).trans (hcl 6 _ rfl)
      have hix : ∀ W : World, Sem.run Try.prog (Instr.indexAt 24 (.slice u.a u.n u.c) (.int .i64 (k : Int))) W = .ok (.pointer (some ⟨b, off + k * 7, none⟩)) W := by intro W; rw [hA]; go_simp
      have HF := Lib.hid hfk
      clear hA hfk hcl
      cases hg : Ml.onCh x y f with
      | true =>
        have HI : Hid (Ml.idx fls x y = some k) := Lib.hid (by
          obtain ⟨hkl, e⟩ := List.getElem?_eq_some_iff.1 HF.out
          unfold Ml.idx
          rw [List.findIdx?_eq_some_iff_getElem]
          exact ⟨hkl, by rw [e]; exact hg, fun j hj => by have := HJ.out j _ hj (List.getElem?_eq_getElem (by omega)); simpa using this⟩)
        go_wp2_with fail
        refine (HC.out _ f hB).mono ?_
        rintro e w1 ⟨rfl, h1⟩
        have HH := Lib.hid h1
        clear h1
        rw [hg]
        go_wp2_with fail
        go_ret
        exact ⟨by rw [HI.out]; rfl, Below.call hB HH.out⟩
      | false =>
        have HN := Lib.hid (show ∀ (j : Nat) (z : FlyC), j < k + 1 → fls[j]? = some z → Ml.onCh x y z = false from fun j z hj hz => by
          by_cases h : j < k
          · exact HJ.out j z h hz
          · have : j = k := by omega
            subst this
            rw [HF.out] at hz
            injection hz with hz
            rw [← hz]; exact hg)
        go_wp2_with fail
        refine (HC.out _ f hB).mono ?_
        rintro e w1 ⟨rfl, h1⟩
        have HH := Lib.hid (Below.call hB h1)
        clear h1
        rw [hg]
        go_wp2_with fail
        go_roundw
        case rel => exact ⟨k + 1, by omega, by go_num, HN, HH.out⟩
        case measure => simp [intOf]; omega
    · have HI : Hid (Ml.idx fls x y = none) := Lib.hid (by
        unfold Ml.idx
        rw [List.findIdx?_eq_none_iff]
        intro z hz
        obtain ⟨j, hj⟩ := List.getElem?_of_mem hz
        exact HJ.out j z (by have h1 := (List.getElem?_eq_some_iff.1 hj).1; have h2 := HL.out; omega) hj)
      go_wp2_with fail
      go_ret
      exact ⟨by rw [HI.out]; rfl, hB⟩
end Go.Proofs.Ytjdjfjokniingaa
