/- slices.rotateCmpFunc, timer's comparison of two alarms, slices.insertionSortCmpFunc. -/
import Derived.Test.YtjdjfjokniingaaTb
import Derived.Test.YtjdjfjokniingaaSa
namespace Go.Proofs.Ytjdjfjokniingaa
open Go.RowKit

def RotRel (w0 : World) (B g c n m : Nat) (T : List FlyC) (vi vj : Value) (wr : World) : Prop :=
  ∃ (i j : Nat) (A U V C : List FlyC), vi = .int .i64 i ∧ vj = .int .i64 j ∧ 0 < i ∧ 0 < j ∧ U.length = i ∧ V.length = j ∧ A.length + i = m ∧ A ++ V ++ U ++ C = T ∧ RowG w0 B g c n (A ++ U ++ V ++ C) wr
theorem rot_left {w0 : World} {B g c n m i j : Nat} {T A U V C : List FlyC} {w' : World} (hij : j < i) (hj : 0 < j) (hU : U.length = i) (hV : V.length = j) (hA : A.length + i = m) (hT : A ++ V ++ U ++ C = T) (h : RowG w0 B g c n (A ++ V ++ U.drop j ++ U.take j ++ C) w') :
    RotRel w0 B g c n m T (.int .i64 ((i - j : Nat) : Int)) (.int .i64 (j : Int)) w' :=
  ⟨i - j, j, A ++ V, U.drop j, U.take j, C, rfl, rfl, by omega, hj, by simp; omega, by simp; omega, by simp; omega, by rw [← hT]; simp only [List.append_assoc]; rw [← List.append_assoc (U.take j), List.take_append_drop], by simpa only [List.append_assoc] using h⟩
theorem rot_right {w0 : World} {B g c n m i j : Nat} {T A U V C : List FlyC} {w' : World} (hij : i < j) (hi : 0 < i) (hU : U.length = i) (hV : V.length = j) (hA : A.length + i = m) (hT : A ++ V ++ U ++ C = T) (h : RowG w0 B g c n (A ++ V.drop (j - i) ++ V.take (j - i) ++ U ++ C) w') :
    RotRel w0 B g c n m T (.int .i64 (i : Int)) (.int .i64 ((j - i : Nat) : Int)) w' :=
  ⟨i, j - i, A, V.drop (j - i), V.take (j - i), U ++ C, rfl, rfl, hi, by omega, by simp; omega, by simp; omega, hA, by rw [← hT]; simp only [List.append_assoc]; rw [← List.append_assoc (V.take (j - i)), List.take_append_drop], by simpa only [List.append_assoc] using h⟩

set_option linter.unusedVariables false in
set_option maxRecDepth 100000 in
set_option maxHeartbeats 3200000 in
theorem rot111 (w0 : World) (g n c a m b B : Nat) (A U V C : List FlyC) (cm : Value) (w : World) (h : RowG w0 B g c n (A ++ U ++ V ++ C) w) (ha : A.length = a) (hm : a + U.length = m) (hb : m + V.length = b) (hU : 0 < U.length) (hV : 0 < V.length) (hn : n ≤ 1000000) :
    Calls Try.prog 111 #[.slice (some ⟨g, 0, none⟩) n c, .int .i64 a, .int .i64 m, .int .i64 b, cm] w fun e w' => e = .returned (.tuple #[]) ∧ RowG w0 B g c n (A ++ V ++ U ++ C) w' := by
  have hbn : b ≤ n := by have := h.len; simp at this; omega
  have H := Lib.hid h
  have HX := Lib.hid (And.intro ha (And.intro hm (And.intro hb (And.intro hU hV))))
  have ham : a < m := by omega
  have hmb : m < b := by omega
  obtain ⟨T, hT⟩ : ∃ T, T = A ++ V ++ U ++ C := ⟨_, rfl⟩
  rw [← hT]
  have HT := Lib.hid hT
  clear h ha hm hb hU hV hT
  go_enter Try.func111, Try.ntmps111
  go_wp2_with fail
  go_loopw [10, 11] (RotRel w0 B g c n m T) (fun i j _ => (intOf i).toNat + (intOf j).toNat)
  case atStart =>
    obtain ⟨h1, h2, h3, h4, h5⟩ := HX.out
    exact ⟨m - a, b - m, A, U, V, C, by congr 1; omega, by congr 1; omega, by omega, by omega, by omega, by omega, by omega, HT.out.symm, H.out⟩
  case round =>
    clear H HX HT
    obtain ⟨i, j, A, U, V, C, rfl, rfl, hi, hj, hU, hV, hA, hT, hr⟩ := hrel
    have hij : A.length + i + j + C.length = n := by have := hr.len; simp at this; omega
    have hmi : (m : Int) - i = ((m - i : Nat) : Int) := by omega
    rcases Nat.lt_trichotomy j i with hlt | heq | hgt
    · have C1 := Lib.hid (fun (W : World) (hW : RowG w0 B g c n (A ++ U ++ V ++ C) W) => swap123 w0 g n c (m - i) m j B A (U.take j) (U.drop j) V C cm W (by rw [List.append_assoc A, List.take_append_drop]; exact hW) (by omega) (by simp; omega) hV (by simp; omega) hn)
      have e1 : IntKind.i64.wrap ((m : Int) - (i : Int)) = ((m - i : Nat) : Int) := by rw [IntWalk.i64_left, IntWalk.wrap64_in _ (by omega)]; omega
      have e2 : IntKind.i64.wrap ((i : Int) - (j : Int)) = ((i - j : Nat) : Int) := by rw [IntWalk.i64_left, IntWalk.wrap64_in _ (by omega)]; omega
      have t1 : ((i : Int) == (j : Int)) = false := by simp; omega
      have t2 : decide ((j : Int) < (i : Int)) = true := by simp; omega
      have HR := Lib.hid hr
      have HV := Lib.hid (And.intro hU (And.intro hV (And.intro hA hT)))
      clear hr hU hV hA hT hmi
      go_wp2_with fail
      refine (C1.out _ HR.out).mono ?_
      rintro e w1 ⟨rfl, h1⟩
      have HR1 := Lib.hid h1
      clear h1
      go_wp2_with fail
      go_roundw
      case rel => exact rot_left hlt hj HV.out.1 HV.out.2.1 HV.out.2.2.1 HV.out.2.2.2 HR1.out
      case measure => simp [intOf]; omega
    · subst heq
      have C1 := Lib.hid (fun (W : World) (hW : RowG w0 B g c n (A ++ U ++ V ++ C) W) => swap123 w0 g n c (m - j) m j B A U [] V C cm W (by simpa using hW) (by omega) hU hV (by simp; omega) hn)
      have e1 : IntKind.i64.wrap ((m : Int) - (j : Int)) = ((m - j : Nat) : Int) := by rw [IntWalk.i64_left, IntWalk.wrap64_in _ (by omega)]; omega
      have HR := Lib.hid hr
      have HT := Lib.hid hT
      clear hr hU hV hA hT hmi
      go_wp2_with fail
      refine (C1.out _ HR.out).mono ?_
      rintro e w1 ⟨rfl, h1⟩
      have HR1 : Hid (RowG w0 B g c n T w1) := Lib.hid (by rw [← HT.out]; simpa using h1)
      clear h1
      go_wp2_with fail
      go_end0
      exact ⟨rfl, HR1.out⟩
    · obtain ⟨y1, hy1⟩ : ∃ y, y = m - i := ⟨_, rfl⟩
      obtain ⟨y2, hy2⟩ : ∃ y, y = m + j := ⟨_, rfl⟩
      obtain ⟨y3, hy3⟩ : ∃ y, y = m + j - i := ⟨_, rfl⟩
      obtain ⟨y4, hy4⟩ : ∃ y, y = j - i := ⟨_, rfl⟩
      have C1 := Lib.hid (fun (W : World) (hW : RowG w0 B g c n (A ++ U ++ V ++ C) W) => swap123 w0 g n c y1 y3 i B A U (V.take (j - i)) (V.drop (j - i)) C cm W (by rw [List.append_assoc (A ++ U), List.take_append_drop]; exact hW) (by omega) hU (by simp; omega) (by simp; omega) hn)
      have e1 : IntKind.i64.wrap ((m : Int) - (i : Int)) = (y1 : Int) := by rw [IntWalk.i64_left, IntWalk.wrap64_in _ (by omega)]; omega
      have e4 : IntKind.i64.wrap ((m : Int) + (j : Int)) = (y2 : Int) := by rw [IntWalk.i64_left, IntWalk.wrap64_in _ (by omega)]; omega
      have e3 : IntKind.i64.wrap ((y2 : Int) - (i : Int)) = (y3 : Int) := by rw [IntWalk.i64_left, IntWalk.wrap64_in _ (by omega)]; omega
      have e2 : IntKind.i64.wrap ((j : Int) - (i : Int)) = (y4 : Int) := by rw [IntWalk.i64_left, IntWalk.wrap64_in _ (by omega)]; omega
      have HY := Lib.hid hy4
      have hmy : y4 < j := by omega
      clear hy1 hy2 hy3 hy4
      have t1 : ((i : Int) == (j : Int)) = false := by simp; omega
      have t2 : decide ((j : Int) < (i : Int)) = false := by simp; omega
      have HR := Lib.hid hr
      have HV := Lib.hid (And.intro hU (And.intro hV (And.intro hA hT)))
      clear hr hU hV hA hT hmi
      go_wp2_with fail
      refine (C1.out _ HR.out).mono ?_
      rintro e w1 ⟨rfl, h1⟩
      have HR1 := Lib.hid h1
      clear h1
      go_wp2_with fail
      go_roundw
      case rel => rw [HY.out]; exact rot_right hgt hi HV.out.1 HV.out.2.1 HV.out.2.2.1 HV.out.2.2.2 HR1.out
      case measure => simp [intOf]; omega

/-- the order of alarms -/
def leF (a b : FlyC) : Bool := decide (a.x < b.x ∨ (a.x = b.x ∧ a.y ≤ b.y))
theorem leF_ok : St.LeOk leF := ⟨fun a b => by simp only [leF, decide_eq_true_eq]; omega, fun a b c => by simp only [leF, decide_eq_true_eq]; omega⟩
theorem leF_cmp (a b : FlyC) : (Sy.orI (Sy.cmpI a.x b.x) (Sy.cmpI a.y b.y) < 0) = (leF b a = false) := by
  simp only [leF, decide_eq_false_iff_not, Sy.orI, Sy.cmpI, eq_iff_iff]
  repeat' split
  all_goals omega
def CmpPost (f h : FlyC) (w : World) (e : Ending) (w' : World) : Prop := ∃ r : Int, e = .returned (.int .i64 r) ∧ decide (r < 0) = !leF h f ∧ Below w.heap.size w w'
set_option maxRecDepth 100000 in
set_option maxHeartbeats 1600000 in
theorem cmp64 (f h : FlyC) (w : World) : Calls Try.prog 64 #[flyV f, flyV h] w (CmpPost f h w) := by
  have HL := Lib.hid (leF_cmp f h)
  obtain ⟨⟨fx, fy, fp, fl⟩, hf⟩ : ∃ f', f' = f := ⟨_, rfl⟩
  obtain ⟨⟨hx, hy, hp, hl⟩, hh⟩ : ∃ h', h' = h := ⟨_, rfl⟩
  subst hf hh
  generalize hx1 : Sy.cmpI fx hx = x at HL
  generalize hy1 : Sy.cmpI fy hy = y at HL
  have h1 := fun wz => cmpI_any fx hx wz
  have h2 := fun wz => cmpI_any fy hy wz
  rw [hx1] at h1
  rw [hy1] at h2
  have H1 := Lib.hid h1
  have H2 := Lib.hid h2
  clear h1 h2 hx1 hy1
  go_enter Try.func64, Try.ntmps64
  go_wp2_with fail
  go_region_held3 (fun w' => w'.cell? ⟨w.heap.size, 0, none⟩ = some (.int .i64 fx) ∧ w'.cell? ⟨w.heap.size, 1, none⟩ = some (.int .i64 fy) ∧ w'.cell? ⟨w.heap.size + 1, 0, none⟩ = some (.int .i64 hx) ∧ w'.cell? ⟨w.heap.size + 1, 1, none⟩ = some (.int .i64 hy)) (simp [go_sem, *])
    (first
    | (go_at_call 66; with_reducible refine (H1.out _).mono ?_; rintro e w1 ⟨rfl, rfl⟩)
    | (go_at_call 66; with_reducible refine (H2.out _).mono ?_; rintro e w1 ⟨rfl, rfl⟩)
    | (go_at_call 65; refine (or2_any _ x y _ ?_ ?_).mono ?_; (simp [go_sem]); (simp [go_sem]); rintro e w1 ⟨rfl, rfl⟩))
  go_wp2
  go_ret
  refine ⟨_, rfl, ?_, (by repeat (first | (with_reducible exact Below.refl _ _) | (with_reducible assumption) | ((with_reducible refine Below.setCell ?_ ?_ _); rotate_left; (focus (first | omega | (simp; omega) | (simp; done)))) | ((with_reducible refine Below.alloc ?_ ?_ _); rotate_left; (focus (first | omega | (simp; omega) | (simp; done)))) | (with_reducible refine Below.drew ?_)))⟩
  rw [Bool.eq_iff_iff]
  simp only [decide_eq_true_eq, Bool.not_eq_true', HL.out]

/-- the state of the insertion of x into a row that was S: all behind it is greater -/
def InsRel (w0 : World) (B g c n a : Nat) (A S : List FlyC) (x : FlyC) (R : List FlyC) (vj : Value) (wr : World) : Prop :=
  ∃ (j : Nat) (S1 S2 : List FlyC), vj = .int .i64 j ∧ S = S1 ++ S2 ∧ j = a + S1.length ∧ (∀ s ∈ S2, leF s x = false) ∧ RowG w0 B g c n (A ++ S1 ++ x :: (S2 ++ R)) wr
theorem InsRel.drew {w0 : World} {B g c n a : Nat} {A S : List FlyC} {x : FlyC} {R : List FlyC} {vj : Value} {wr : World} (h : InsRel w0 B g c n a A S x R vj wr) : InsRel w0 B g c n a A S x R vj wr.drew := by
  obtain ⟨j, S1, S2, h1, h2, h3, h4, h5⟩ := h
  exact ⟨j, S1, S2, h1, h2, h3, h4, h5.drew⟩
theorem ins_done {S1 S2 : List FlyC} {x : FlyC} (hs : St.Srt leF (S1 ++ S2)) (h2 : ∀ s ∈ S2, leF s x = false) (h1 : ∀ s T, S1 = T ++ [s] → leF s x = true) : St.mg leF (S1 ++ S2) [x] = S1 ++ x :: S2 := by
  refine St.mg_right x S1 S2 (fun l hl => ?_) (fun l hl => h2 l (List.mem_of_mem_head? (by rw [hl]; rfl)))
  rcases St.snoc_cases S1 with rfl | ⟨T, s, rfl⟩
  · cases hl
  · have hx := h1 s T rfl
    rcases List.mem_append.1 hl with hl | hl
    · have := (List.pairwise_append.1 (List.pairwise_append.1 hs).1).2.2 l hl s (by simp)
      exact leF_ok.trans _ _ _ this hx
    · rw [List.mem_singleton.1 hl]; exact hx
def IsRel (w0 : World) (B g c n a : Nat) (A L C : List FlyC) (vi : Value) (wr : World) : Prop :=
  ∃ i t : Nat, vi = .int .i64 (i : Int) ∧ i ≤ n + 1 ∧ Hid (i = a + t ∧ 1 ≤ t ∧ (t ≤ L.length ∨ t = 1)) ∧ RowG w0 B g c n (A ++ St.isort leF (L.take t) ++ L.drop t ++ C) wr
abbrev cmpF : Value := .func (.func 64) #[] #[]

set_option linter.unusedVariables false in
set_option linter.unusedSimpArgs false in
set_option maxRecDepth 100000 in
set_option maxHeartbeats 6400000 in
theorem ins103 (w0 : World) (g n c a b B : Nat) (A L C : List FlyC) (w : World) (h : RowG w0 B g c n (A ++ L ++ C) w) (ha : A.length = a) (hb : a + L.length = b) (hn : n ≤ 1000000) :
    Calls Try.prog 103 #[.slice (some ⟨g, 0, none⟩) n c, .int .i64 a, .int .i64 b, cmpF] w fun e w' => e = .returned (.tuple #[]) ∧ RowG w0 B g c n (A ++ St.isort leF L ++ C) w' := by
  have hbn : b ≤ n := by have := h.len; simp at this; omega
  have H := Lib.hid h
  have HX := Lib.hid (And.intro ha hb)
  have hab : a ≤ b := by omega
  clear h ha hb
  go_enter Try.func103, Try.ntmps103
  go_wp2_with fail
  go_loopw [8] (IsRel w0 B g c n a A L C) (fun i _ => b + 1 - (intOf i).toNat)
  case atStart =>
    refine ⟨a + 1, 1, by first | rfl | (congr 1; omega), by omega, Lib.hid ⟨rfl, Nat.le_refl _, .inr rfl⟩, ?_⟩
    have e : St.isort leF (L.take 1) = L.take 1 := by
      cases L with
      | nil => rfl
      | cons x L => exact St.isort_one x
    rw [e, List.append_assoc A, List.take_append_drop]
    exact H.out
  case round =>
    clear H
    obtain ⟨i, t, rfl, hin, HI, hr⟩ := hrel
    have HB := Lib.hid HX.out.2
    by_cases hlt : i < b
    · have htl : t < L.length := by have := HX.out.2; have := HI.out; omega
      obtain ⟨x, hx, dx, tx⟩ := drop_at htl
      have HR := Lib.hid hr
      have HD := Lib.hid dx
      have HT := Lib.hid tx
      have hiL : (St.isort leF (L.take t)).length = t := by rw [St.isort_len]; simp; omega
      obtain ⟨S, hS⟩ : ∃ S, S = St.isort leF (L.take t) := ⟨_, rfl⟩
      have HS := Lib.hid hS
      have HSS : Hid (St.Srt leF S) := Lib.hid (by rw [hS]; exact St.isort_sorted leF_ok _)
      have HSL : Hid (S.length = t) := Lib.hid (by rw [hS]; exact hiL)
      clear hr dx tx hx hiL hS
      go_wp2_with fail
      go_loopw [9] (InsRel w0 B g c n a A S x (L.drop (t + 1) ++ C)) (fun j _ => (intOf j).toNat)
      case atStart =>
        refine ⟨i, S, [], rfl, by simp, by rw [HSL.out]; exact HI.out.1, by simp, ?_⟩
        have := HR.out
        rw [← HS.out, HD.out] at this
        simpa using this
      case round =>
        obtain ⟨j, S1, S2, rfl, hS12, hj, hS2, hr⟩ := hrel
        clear HR
        by_cases hja : a < j
        · rcases St.snoc_cases S1 with rfl | ⟨T, s, rfl⟩
          · simp at hj; omega
          · obtain ⟨p, hp⟩ : ∃ p, p = j := ⟨_, rfl⟩
            subst hp
            obtain ⟨q, hq⟩ : ∃ q, q = p - 1 := ⟨_, rfl⟩
            have hjn : p < n := by have := hr.len; simp at this; simp at hj; have := HX.out.1; omega
            have eq : IntKind.i64.wrap ((p : Int) - 1) = (q : Int) := by rw [IntWalk.i64_left, IntWalk.wrap64_in _ (by omega)]; omega
            have hr' : RowG w0 B g c n ((A ++ T) ++ s :: ([] ++ x :: (S2 ++ (L.drop (t + 1) ++ C)))) wr := by simpa using hr
            have pU : q = (A ++ T).length := by simp at hj ⊢; have := HX.out.1; omega
            have qV : p = (A ++ T).length + 1 + ([] : List FlyC).length := by simp at hj ⊢; have := HX.out.1; omega
            obtain ⟨hy, hfr, hgs, -, hqn⟩ := hr'.at_ (i := q) (f := s) (by rw [pU]; exact get_mid _ _ _)
            obtain ⟨hx, -, -, -, -⟩ := hr'.at_ (i := p) (f := x) (by rw [qV]; exact get_mid2 _ _ _ _ _)
            have HR := Lib.hid hr'
            have HPQ := Lib.hid (And.intro pU (And.intro qV (And.intro hj (And.intro hS2 hS12))))
            have hgt : decide ((a : Int) < (p : Int)) = true := by simp; omega
            have hpq : q < p := by omega
            have x0 : wr.cell? ⟨g, p * 7, none⟩ = some (.int .i64 x.x) := hx 0 _ rfl
            have x1 : wr.cell? ⟨g, p * 7 + 1, none⟩ = some (.int .i64 x.y) := hx 1 _ rfl
            have x2 : wr.cell? ⟨g, p * 7 + 2, none⟩ = some (.string x.path) := hx 2 _ rfl
            have x3 : wr.cell? ⟨g, p * 7 + 3, none⟩ = some (.string x.l.src) := hx 3 _ rfl
            have x4 : wr.cell? ⟨g, p * 7 + 4, none⟩ = some (.string x.l.msg) := hx 4 _ rfl
            have x5 : wr.cell? ⟨g, p * 7 + 5, none⟩ = some (.slice x.l.args.a x.l.args.n x.l.args.c) := hx 5 _ rfl
            have x6 : wr.cell? ⟨g, p * 7 + 6, none⟩ = some (.int .i64 x.l.sent) := hx 6 _ rfl
            have y0 : wr.cell? ⟨g, q * 7, none⟩ = some (.int .i64 s.x) := hy 0 _ rfl
            have y1 : wr.cell? ⟨g, q * 7 + 1, none⟩ = some (.int .i64 s.y) := hy 1 _ rfl
            have y2 : wr.cell? ⟨g, q * 7 + 2, none⟩ = some (.string s.path) := hy 2 _ rfl
            have y3 : wr.cell? ⟨g, q * 7 + 3, none⟩ = some (.string s.l.src) := hy 3 _ rfl
            have y4 : wr.cell? ⟨g, q * 7 + 4, none⟩ = some (.string s.l.msg) := hy 4 _ rfl
            have y5 : wr.cell? ⟨g, q * 7 + 5, none⟩ = some (.slice s.l.args.a s.l.args.n s.l.args.c) := hy 5 _ rfl
            have y6 : wr.cell? ⟨g, q * 7 + 6, none⟩ = some (.int .i64 s.l.sent) := hy 6 _ rfl
            clear hx hy hr hr' pU qV hj hS2 hS12 hq
            cases hle : leF s x with
            | true =>
              go_wp2_with fail
              go_region_held3 (fun w' => w'.cell? ⟨g, p * 7, none⟩ = some (.int .i64 x.x) ∧ w'.cell? ⟨g, p * 7 + 1, none⟩ = some (.int .i64 x.y) ∧ w'.cell? ⟨g, p * 7 + 2, none⟩ = some (.string x.path) ∧ w'.cell? ⟨g, p * 7 + 3, none⟩ = some (.string x.l.src) ∧ w'.cell? ⟨g, p * 7 + 4, none⟩ = some (.string x.l.msg) ∧ w'.cell? ⟨g, p * 7 + 5, none⟩ = some (.slice x.l.args.a x.l.args.n x.l.args.c) ∧ w'.cell? ⟨g, p * 7 + 6, none⟩ = some (.int .i64 x.l.sent) ∧ w'.cell? ⟨g, q * 7, none⟩ = some (.int .i64 s.x) ∧ w'.cell? ⟨g, q * 7 + 1, none⟩ = some (.int .i64 s.y) ∧ w'.cell? ⟨g, q * 7 + 2, none⟩ = some (.string s.path) ∧ w'.cell? ⟨g, q * 7 + 3, none⟩ = some (.string s.l.src) ∧ w'.cell? ⟨g, q * 7 + 4, none⟩ = some (.string s.l.msg) ∧ w'.cell? ⟨g, q * 7 + 5, none⟩ = some (.slice s.l.args.a s.l.args.n s.l.args.c) ∧ w'.cell? ⟨g, q * 7 + 6, none⟩ = some (.int .i64 s.l.sent)) (simp [go_sem, *])
                (first | (go_at_call 64; with_reducible refine (cmp64 x s _).mono ?_; intro e w1 hpo; unfold CmpPost at hpo; obtain ⟨r, he, hr0, h1⟩ := hpo; subst he; have z1 := h1.size; simp at z1; obtain ⟨k1, k2, k3⟩ := keepB h1 g (by simp; omega); have HR1 := Lib.hid (HR.out.drew.below h1); clear h1; rw [hle] at hr0; simp only [Bool.not_true] at hr0))
              have HF : Hid (RowG w0 B g c n (A ++ St.isort leF (L.take (t + 1)) ++ L.drop (t + 1) ++ C) w1) := Lib.hid (by
                have e : St.isort leF (L.take (t + 1)) = (T ++ [s]) ++ x :: S2 := by
                  rw [HT.out, St.isort_snoc, ← HS.out, HPQ.out.2.2.2.2]
                  refine ins_done (by rw [← HPQ.out.2.2.2.2]; exact HSS.out) HPQ.out.2.2.2.1 (fun s' T' hs' => ?_)
                  have := List.append_inj_right' hs' rfl
                  simp at this
                  rw [← this]
                  exact hle
                rw [e]
                simpa using HR1.out)
              clear HR HR1 HPQ x0 x1 x2 x3 x4 x5 x6 y0 y1 y2 y3 y4 y5 y6 k2 k3
              go_wp2_with fail
              go_roundw
              case rel => exact ⟨i + 1, t + 1, by go_num, by omega, Lib.hid ⟨by have := HI.out; omega, by omega, .inl (by omega)⟩, HF.out⟩
              case measure => simp [intOf]; omega
            | false =>
              go_wp2_with fail
              go_region_held3 (fun w' => w'.cell? ⟨g, p * 7, none⟩ = some (.int .i64 x.x) ∧ w'.cell? ⟨g, p * 7 + 1, none⟩ = some (.int .i64 x.y) ∧ w'.cell? ⟨g, p * 7 + 2, none⟩ = some (.string x.path) ∧ w'.cell? ⟨g, p * 7 + 3, none⟩ = some (.string x.l.src) ∧ w'.cell? ⟨g, p * 7 + 4, none⟩ = some (.string x.l.msg) ∧ w'.cell? ⟨g, p * 7 + 5, none⟩ = some (.slice x.l.args.a x.l.args.n x.l.args.c) ∧ w'.cell? ⟨g, p * 7 + 6, none⟩ = some (.int .i64 x.l.sent) ∧ w'.cell? ⟨g, q * 7, none⟩ = some (.int .i64 s.x) ∧ w'.cell? ⟨g, q * 7 + 1, none⟩ = some (.int .i64 s.y) ∧ w'.cell? ⟨g, q * 7 + 2, none⟩ = some (.string s.path) ∧ w'.cell? ⟨g, q * 7 + 3, none⟩ = some (.string s.l.src) ∧ w'.cell? ⟨g, q * 7 + 4, none⟩ = some (.string s.l.msg) ∧ w'.cell? ⟨g, q * 7 + 5, none⟩ = some (.slice s.l.args.a s.l.args.n s.l.args.c) ∧ w'.cell? ⟨g, q * 7 + 6, none⟩ = some (.int .i64 s.l.sent)) (simp [go_sem, *])
                (first | (go_at_call 64; with_reducible refine (cmp64 x s _).mono ?_; intro e w1 hpo; unfold CmpPost at hpo; obtain ⟨r, he, hr0, h1⟩ := hpo; subst he; have z1 := h1.size; simp at z1; obtain ⟨k1, k2, k3⟩ := keepB h1 g (by simp; omega); have HR1 := Lib.hid (HR.out.drew.below h1); clear h1; rw [hle] at hr0; simp only [Bool.not_false] at hr0))
              have HS2 : Hid (InsRel w0 B g c n a A S x (L.drop (t + 1) ++ C) (.int .i64 (q : Int)) (putFly (putFly w1 g (p * 7) s) g (q * 7) x)) := Lib.hid ⟨q, T, s :: S2, rfl, by rw [HPQ.out.2.2.2.2]; simp, by have h1 := HPQ.out.1; have h2 := HX.out.1; simp at h1; omega, fun s' hs' => by
                rcases List.mem_cons.1 hs' with rfl | hs'
                · exact hle
                · exact HPQ.out.2.2.2.1 s' hs', by
                have := HR1.out.swap' (p := q) (q := p) HPQ.out.1 HPQ.out.2.1
                simpa using this⟩
              clear x0 x1 x2 x3 x4 x5 x6 y0 y1 y2 y3 y4 y5 y6 k2 k3 hfr HR
              obtain ⟨hy, hfr, hgs, -, -⟩ := HR1.out.at_ (i := q) (f := s) (by rw [HPQ.out.1]; exact get_mid _ _ _)
              obtain ⟨hx, -, -, -, -⟩ := HR1.out.at_ (i := p) (f := x) (by rw [HPQ.out.2.1]; exact get_mid2 _ _ _ _ _)
              have x0 : w1.cell? ⟨g, p * 7, none⟩ = some (.int .i64 x.x) := hx 0 _ rfl
              have x1 : w1.cell? ⟨g, p * 7 + 1, none⟩ = some (.int .i64 x.y) := hx 1 _ rfl
              have x2 : w1.cell? ⟨g, p * 7 + 2, none⟩ = some (.string x.path) := hx 2 _ rfl
              have x3 : w1.cell? ⟨g, p * 7 + 3, none⟩ = some (.string x.l.src) := hx 3 _ rfl
              have x4 : w1.cell? ⟨g, p * 7 + 4, none⟩ = some (.string x.l.msg) := hx 4 _ rfl
              have x5 : w1.cell? ⟨g, p * 7 + 5, none⟩ = some (.slice x.l.args.a x.l.args.n x.l.args.c) := hx 5 _ rfl
              have x6 : w1.cell? ⟨g, p * 7 + 6, none⟩ = some (.int .i64 x.l.sent) := hx 6 _ rfl
              have y0 : w1.cell? ⟨g, q * 7, none⟩ = some (.int .i64 s.x) := hy 0 _ rfl
              have y1 : w1.cell? ⟨g, q * 7 + 1, none⟩ = some (.int .i64 s.y) := hy 1 _ rfl
              have y2 : w1.cell? ⟨g, q * 7 + 2, none⟩ = some (.string s.path) := hy 2 _ rfl
              have y3 : w1.cell? ⟨g, q * 7 + 3, none⟩ = some (.string s.l.src) := hy 3 _ rfl
              have y4 : w1.cell? ⟨g, q * 7 + 4, none⟩ = some (.string s.l.msg) := hy 4 _ rfl
              have y5 : w1.cell? ⟨g, q * 7 + 5, none⟩ = some (.slice s.l.args.a s.l.args.n s.l.args.c) := hy 5 _ rfl
              have y6 : w1.cell? ⟨g, q * 7 + 6, none⟩ = some (.int .i64 s.l.sent) := hy 6 _ rfl
              clear hx hy HPQ HR1
              go_wp2_with fail
              refine wp_region_held_drew (S := (fun _ => True)) (by kernel_rfl) ?_ (fun hHeld => ?_)
              · trivial
              refine wpAnyH_take (i := 0) (v := ?_) rfl (by kernel_rfl) (by kernel_rfl) (by kernel_rfl) (fun _ _ _ h => h) (Or.inl ⟨by rfl, ?_⟩) (by assumption) ?_
              rotate_left
              · intro w hSw; (try dsimp only at hSw); go_simp; (first | done | (with_reducible rfl))
              try simp only [Act.put, List.getElem_toArray, List.getElem_cons_succ, List.getElem_cons_zero, List.setIfInBounds_toArray, List.set_cons_zero, List.set_cons_succ]
              refine wpAnyH_take (i := 1) (v := ?_) rfl (by kernel_rfl) (by kernel_rfl) (by kernel_rfl) (fun _ _ _ h => h) (Or.inl ⟨by rfl, ?_⟩) (by assumption) ?_
              rotate_left
              · intro w hSw; (try dsimp only at hSw); go_simp; (first | done | (with_reducible rfl))
              try simp only [Act.put, List.getElem_toArray, List.getElem_cons_succ, List.getElem_cons_zero, List.setIfInBounds_toArray, List.set_cons_zero, List.set_cons_succ]
              refine wpAnyH_take (i := 2) (v := ?_) rfl (by kernel_rfl) (by kernel_rfl) (by kernel_rfl) (fun _ _ _ h => h) (Or.inl ⟨by rfl, ?_⟩) (by assumption) ?_
              rotate_left
              · intro w hSw; (try dsimp only at hSw); go_simp; (first | done | (with_reducible rfl))
              try simp only [Act.put, List.getElem_toArray, List.getElem_cons_succ, List.getElem_cons_zero, List.setIfInBounds_toArray, List.set_cons_zero, List.set_cons_succ]
              refine wpAnyH_take (i := 3) (v := ?_) rfl (by kernel_rfl) (by kernel_rfl) (by kernel_rfl) (fun _ _ _ h => h) (Or.inl ⟨by rfl, ?_⟩) (by assumption) ?_
              rotate_left
              · intro w hSw; (try dsimp only at hSw); go_simp; (first | done | (with_reducible rfl))
              try simp only [Act.put, List.getElem_toArray, List.getElem_cons_succ, List.getElem_cons_zero, List.setIfInBounds_toArray, List.set_cons_zero, List.set_cons_succ]
              refine wpAnyH_take (i := 4) (v := ?_) rfl (by kernel_rfl) (by kernel_rfl) (by kernel_rfl) (fun _ _ _ h => h) (Or.inl ⟨by rfl, ?_⟩) (by assumption) ?_
              rotate_left
              · intro w hSw; (try dsimp only at hSw); go_simp; (first | done | (with_reducible rfl))
              try simp only [Act.put, List.getElem_toArray, List.getElem_cons_succ, List.getElem_cons_zero, List.setIfInBounds_toArray, List.set_cons_zero, List.set_cons_succ]
              refine wpAnyH_take (i := 5) (v := ?_) rfl (by kernel_rfl) (by kernel_rfl) (by kernel_rfl) (fun _ _ _ h => h) (Or.inl ⟨by rfl, ?_⟩) (by assumption) ?_
              rotate_left
              · intro w hSw; (try dsimp only at hSw); go_simp; (first | done | (with_reducible rfl))
              try simp only [Act.put, List.getElem_toArray, List.getElem_cons_succ, List.getElem_cons_zero, List.setIfInBounds_toArray, List.set_cons_zero, List.set_cons_succ]
              refine wpAnyH_take (i := 6) (v := ?_) rfl (by kernel_rfl) (by kernel_rfl) (by kernel_rfl) (fun _ _ _ h => h) (Or.inl ⟨by rfl, ?_⟩) (by assumption) ?_
              rotate_left
              · intro w hSw; (try dsimp only at hSw); go_simp; (first | done | (with_reducible rfl))
              try simp only [Act.put, List.getElem_toArray, List.getElem_cons_succ, List.getElem_cons_zero, List.setIfInBounds_toArray, List.set_cons_zero, List.set_cons_succ]
              refine wpAnyH_take (i := 7) (v := ?_) rfl (by kernel_rfl) (by kernel_rfl) (by kernel_rfl) (fun _ _ _ h => h) (Or.inl ⟨by rfl, ?_⟩) (by assumption) ?_
              rotate_left
              · intro w hSw; (try dsimp only at hSw); go_simp; (first | done | (with_reducible rfl))
              try simp only [Act.put, List.getElem_toArray, List.getElem_cons_succ, List.getElem_cons_zero, List.setIfInBounds_toArray, List.set_cons_zero, List.set_cons_succ]
              refine wpAnyH_take (i := 8) (v := ?_) rfl (by kernel_rfl) (by kernel_rfl) (by kernel_rfl) (fun _ _ _ h => h) (Or.inl ⟨by rfl, ?_⟩) (by assumption) ?_
              rotate_left
              · intro w hSw; (try dsimp only at hSw); go_simp; (first | done | (with_reducible rfl))
              try simp only [Act.put, List.getElem_toArray, List.getElem_cons_succ, List.getElem_cons_zero, List.setIfInBounds_toArray, List.set_cons_zero, List.set_cons_succ]
              refine wpAnyH_take (i := 10) (v := ?_) rfl (by kernel_rfl) (by kernel_rfl) (by kernel_rfl) (fun _ _ _ h => h) (Or.inl ⟨by rfl, ?_⟩) (by assumption) ?_
              rotate_left
              · intro w hSw; (try dsimp only at hSw); go_simp; (first | done | (with_reducible rfl))
              try simp only [Act.put, List.getElem_toArray, List.getElem_cons_succ, List.getElem_cons_zero, List.setIfInBounds_toArray, List.set_cons_zero, List.set_cons_succ]
              refine wpAnyH_take (i := 11) (v := ?_) rfl (by kernel_rfl) (by kernel_rfl) (by kernel_rfl) (fun _ _ _ h => h) (Or.inl ⟨by rfl, ?_⟩) (by assumption) ?_
              rotate_left
              · intro w hSw; (try dsimp only at hSw); go_simp; (first | done | (with_reducible rfl))
              try simp only [Act.put, List.getElem_toArray, List.getElem_cons_succ, List.getElem_cons_zero, List.setIfInBounds_toArray, List.set_cons_zero, List.set_cons_succ]
              refine wpAnyH_take (i := 12) (v := ?_) rfl (by kernel_rfl) (by kernel_rfl) (by kernel_rfl) (fun _ _ _ h => h) (Or.inl ⟨by rfl, ?_⟩) (by assumption) ?_
              rotate_left
              · intro w hSw; (try dsimp only at hSw); go_simp; (first | done | (with_reducible rfl))
              try simp only [Act.put, List.getElem_toArray, List.getElem_cons_succ, List.getElem_cons_zero, List.setIfInBounds_toArray, List.set_cons_zero, List.set_cons_succ]
              refine wpAnyH_ready (rs := [9, 13]) (by kernel_rfl) (by simp) ?_
              refine AllReadyH.cons rfl (fun K hK => ?_) (AllReadyH.cons rfl (fun K hK => ?_) AllReadyH.nil)
              · go_simp
                refine hK.out _ _ ?_ (fun hHeld => ?_)
                · trivial
                clear hK K
                try simp only [Act.put, List.getElem_toArray, List.getElem_cons_succ, List.getElem_cons_zero, List.setIfInBounds_toArray, List.set_cons_zero, List.set_cons_succ]
                refine wpAnyH_ready (rs := [13]) (by kernel_rfl) (by simp) ?_
                refine AllReadyH.cons rfl (fun K hK => ?_) AllReadyH.nil
                go_simp
                refine hK.out _ _ ?_ (fun hHeld => ?_)
                · trivial
                clear hK K
                try simp only [Act.put, List.getElem_toArray, List.getElem_cons_succ, List.getElem_cons_zero, List.setIfInBounds_toArray, List.set_cons_zero, List.set_cons_succ]
                refine wpAnyH_take (i := 14) (v := ?_) rfl (by kernel_rfl) (by kernel_rfl) (by kernel_rfl) (fun _ _ _ h => h) (Or.inl ⟨by rfl, ?_⟩) (by assumption) ?_
                rotate_left
                · intro w hSw; (try dsimp only at hSw); go_simp; (first | done | (with_reducible rfl))
                try simp only [Act.put, List.getElem_toArray, List.getElem_cons_succ, List.getElem_cons_zero, List.setIfInBounds_toArray, List.set_cons_zero, List.set_cons_succ]
                refine wpAnyH_ready (rs := [15]) (by kernel_rfl) (by simp) ?_
                refine AllReadyH.cons rfl (fun K hK => ?_) AllReadyH.nil
                go_simp
                refine hK.out _ _ ?_ (fun hHeld => ?_)
                · trivial
                clear hK K
                try simp only [Act.put, List.getElem_toArray, List.getElem_cons_succ, List.getElem_cons_zero, List.setIfInBounds_toArray, List.set_cons_zero, List.set_cons_succ]
                refine wpAnyH_take (i := 16) (v := ?_) rfl (by kernel_rfl) (by kernel_rfl) (by kernel_rfl) (fun _ _ _ h => h) (Or.inl ⟨by rfl, ?_⟩) (by assumption) ?_
                rotate_left
                · intro w hSw; (try dsimp only at hSw); go_simp; (first | done | (with_reducible rfl))
                try simp only [Act.put, List.getElem_toArray, List.getElem_cons_succ, List.getElem_cons_zero, List.setIfInBounds_toArray, List.set_cons_zero, List.set_cons_succ]
                refine wpAnyH_ready (rs := [17]) (by kernel_rfl) (by simp) ?_
                refine AllReadyH.cons rfl (fun K hK => ?_) AllReadyH.nil
                go_simp
                refine hK.out _ _ ?_ (fun hHeld => ?_)
                · trivial
                clear hK K
                try simp only [Act.put, List.getElem_toArray, List.getElem_cons_succ, List.getElem_cons_zero, List.setIfInBounds_toArray, List.set_cons_zero, List.set_cons_succ]
                refine wpAnyH_done (by kernel_rfl) ?_ _
                go_wp2_with fail
                go_roundw
                case rel => exact HS2.out.drew
                case measure => simp [intOf]; omega
              · go_simp
                refine hK.out _ _ ?_ (fun hHeld => ?_)
                · trivial
                clear hK K
                try simp only [Act.put, List.getElem_toArray, List.getElem_cons_succ, List.getElem_cons_zero, List.setIfInBounds_toArray, List.set_cons_zero, List.set_cons_succ]
                refine wpAnyH_ready (rs := [9]) (by kernel_rfl) (by simp) ?_
                refine AllReadyH.cons rfl (fun K hK => ?_) AllReadyH.nil
                go_simp
                refine hK.out _ _ ?_ (fun hHeld => ?_)
                · trivial
                clear hK K
                try simp only [Act.put, List.getElem_toArray, List.getElem_cons_succ, List.getElem_cons_zero, List.setIfInBounds_toArray, List.set_cons_zero, List.set_cons_succ]
                refine wpAnyH_take (i := 14) (v := ?_) rfl (by kernel_rfl) (by kernel_rfl) (by kernel_rfl) (fun _ _ _ h => h) (Or.inl ⟨by rfl, ?_⟩) (by assumption) ?_
                rotate_left
                · intro w hSw; (try dsimp only at hSw); go_simp; (first | done | (with_reducible rfl))
                try simp only [Act.put, List.getElem_toArray, List.getElem_cons_succ, List.getElem_cons_zero, List.setIfInBounds_toArray, List.set_cons_zero, List.set_cons_succ]
                refine wpAnyH_ready (rs := [15]) (by kernel_rfl) (by simp) ?_
                refine AllReadyH.cons rfl (fun K hK => ?_) AllReadyH.nil
                go_simp
                refine hK.out _ _ ?_ (fun hHeld => ?_)
                · trivial
                clear hK K
                try simp only [Act.put, List.getElem_toArray, List.getElem_cons_succ, List.getElem_cons_zero, List.setIfInBounds_toArray, List.set_cons_zero, List.set_cons_succ]
                refine wpAnyH_take (i := 16) (v := ?_) rfl (by kernel_rfl) (by kernel_rfl) (by kernel_rfl) (fun _ _ _ h => h) (Or.inl ⟨by rfl, ?_⟩) (by assumption) ?_
                rotate_left
                · intro w hSw; (try dsimp only at hSw); go_simp; (first | done | (with_reducible rfl))
                try simp only [Act.put, List.getElem_toArray, List.getElem_cons_succ, List.getElem_cons_zero, List.setIfInBounds_toArray, List.set_cons_zero, List.set_cons_succ]
                refine wpAnyH_ready (rs := [17]) (by kernel_rfl) (by simp) ?_
                refine AllReadyH.cons rfl (fun K hK => ?_) AllReadyH.nil
                go_simp
                refine hK.out _ _ ?_ (fun hHeld => ?_)
                · trivial
                clear hK K
                try simp only [Act.put, List.getElem_toArray, List.getElem_cons_succ, List.getElem_cons_zero, List.setIfInBounds_toArray, List.set_cons_zero, List.set_cons_succ]
                refine wpAnyH_done (by kernel_rfl) ?_ _
                go_wp2_with fail
                go_roundw
                case rel => exact HS2.out.drew
                case measure => simp [intOf]; omega
        · have HF : Hid (RowG w0 B g c n (A ++ St.isort leF (L.take (t + 1)) ++ L.drop (t + 1) ++ C) wr) := Lib.hid (by
            have hS1 : S1 = [] := List.eq_nil_of_length_eq_zero (by omega)
            subst hS1
            have e : St.isort leF (L.take (t + 1)) = [] ++ x :: S2 := by
              rw [HT.out, St.isort_snoc, ← HS.out, hS12]
              exact ins_done (by rw [← hS12]; exact HSS.out) hS2 (fun s' T' hs' => by simp at hs')
            rw [e]
            simpa using hr)
          have hgt : decide ((a : Int) < (j : Int)) = false := by simp; omega
          clear hr hS12 hj hS2
          go_wp2_with fail
          go_quiet (fail)
          obtain ⟨w2, hw2⟩ : ∃ w2, w2 = wr.drewN nq := ⟨_, rfl⟩
          have HF2 : Hid (RowG w0 B g c n (A ++ St.isort leF (L.take (t + 1)) ++ L.drop (t + 1) ++ C) w2) := Lib.hid (by rw [hw2]; exact HF.out.below (below_drewN (Below.refl _ _) _))
          rw [← hw2]
          clear hw2 HF
          go_wp2_with fail
          go_roundw
          case rel => exact ⟨i + 1, t + 1, by go_num, by omega, Lib.hid ⟨by have := HI.out; omega, by omega, .inl (by omega)⟩, HF2.out⟩
          case measure => simp [intOf]; omega
    · have HF : Hid (RowG w0 B g c n (A ++ St.isort leF L ++ C) wr) := Lib.hid (by
        have h1 := HX.out.2
        have h2 := HI.out
        rw [List.take_of_length_le (by omega), List.drop_eq_nil_of_le (by omega)] at hr
        simpa using hr)
      clear hr
      go_wp2_with fail
      go_end0
      exact ⟨rfl, HF.out⟩
end Go.Proofs.Ytjdjfjokniingaa
