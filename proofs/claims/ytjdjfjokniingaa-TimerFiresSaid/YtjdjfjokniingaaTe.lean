/- slices.symMergeCmpFunc on a row of alarms. -/
import Derived.Test.YtjdjfjokniingaaTd
namespace Go.Proofs.Ytjdjfjokniingaa
open Go.RowKit

/-- what symMerge does -/
def SymOk (w0 : World) (g n c B : Nat) (k : Nat) : Prop := ∀ (a m b : Nat) (A L R C : List FlyC) (w : World), L.length + R.length ≤ k → RowG w0 B g c n (A ++ L ++ R ++ C) w → A.length = a → a + L.length = m → m + R.length = b → 0 < L.length → 0 < R.length → St.Srt leF L → St.Srt leF R →
    Calls Try.prog 104 #[.slice (some ⟨g, 0, none⟩) n c, .int .i64 a, .int .i64 m, .int .i64 b, cmpF] w fun e w' => e = .returned (.tuple #[]) ∧ RowG w0 B g c n (A ++ St.mg leF L R ++ C) w'
/-- what the search for the middle knows -/
def P3 (X : List FlyC) (p s0 r0 i j : Nat) : Prop := (i = s0 ∨ ∀ x y, X[i - 1]? = some x → X[p - (i - 1)]? = some y → leF x y = true) ∧ (j = r0 ∨ ∀ x y, X[j]? = some x → X[p - j]? = some y → leF x y = false)
/-- where the search has ended the row's four parts are in order -/
theorem p3_split {A L R C : List FlyC} {a m b mid N p s0 r0 s : Nat} (ha : A.length = a) (hm : a + L.length = m) (hb : m + R.length = b) (hmid : mid = (a + b) / 2) (hN : N = mid + m) (hp : p + 1 = N) (hL : 0 < L.length) (hR : 0 < R.length) (hsL : St.Srt leF L) (hsR : St.Srt leF R)
    (h0 : (mid < m ∧ s0 + b = N ∧ r0 = mid) ∨ (m ≤ mid ∧ s0 = a ∧ r0 = m)) (hs0 : s0 ≤ s) (hr0 : s ≤ r0) (h : P3 (A ++ L ++ R ++ C) p s0 r0 s s) :
    (∀ l ∈ L.take (s - a), ∀ r ∈ R.drop (N - s - m), leF l r = true) ∧ (∀ l ∈ L.drop (s - a), ∀ r ∈ R.take (N - s - m), leF l r = false) := by
  refine ⟨fun l hl r hr => ?_, fun l hl r hr => ?_⟩
  · rcases h.1 with h1 | h1
    · exfalso
      rcases h0 with ⟨h2, h3, h4⟩ | ⟨h2, h3, h4⟩
      · rw [List.drop_eq_nil_of_le (by omega)] at hr; cases hr
      · rw [show s - a = 0 by omega] at hl; simp at hl
    · have hsa : a < s := by
        rcases Nat.lt_or_ge a s with h2 | h2
        · exact h2
        · rw [show s - a = 0 by omega] at hl; simp at hl
      have hsm : s ≤ m := by omega
      have hNb : N - s < b := by
        have := List.length_pos_of_mem hr
        simp at this; omega
      obtain ⟨x, hx1, hx2⟩ := get_left (A := A) (L := L) (R := R) (C := C) (i := s - 1) (a := a) ha (by omega) (by omega)
      obtain ⟨y, hy1, hy2⟩ := get_right (A := A) (L := L) (R := R) (C := C) (i := N - s) (m := m) (by omega) (by omega) (by omega)
      have h2 := h1 x y hx1 (by rw [show p - (s - 1) = N - s by omega]; exact hy1)
      have h3 := srt_take hsL hx2 l (by rw [show s - 1 - a + 1 = s - a by omega]; exact hl)
      have h4 := srt_drop hsR hy2 r hr
      exact leF_ok.trans _ _ _ h3 (leF_ok.trans _ _ _ h2 h4)
  · rcases h.2 with h1 | h1
    · exfalso
      rcases h0 with ⟨h2, h3, h4⟩ | ⟨h2, h3, h4⟩
      · rw [show N - s - m = 0 by omega] at hr; simp at hr
      · rw [List.drop_eq_nil_of_le (by omega)] at hl; cases hl
    · have hsm : s < m := by
        have := List.length_pos_of_mem hl
        simp at this; omega
      have has : a ≤ s := by omega
      have hNm : m < N - s := by
        rcases Nat.lt_or_ge m (N - s) with h2 | h2
        · exact h2
        · rw [show N - s - m = 0 by omega] at hr; simp at hr
      have hNb : N - s ≤ b := by omega
      obtain ⟨x, hx1, hx2⟩ := get_left (A := A) (L := L) (R := R) (C := C) (i := s) (a := a) ha (by omega) (by omega)
      obtain ⟨y, hy1, hy2⟩ := get_right (A := A) (L := L) (R := R) (C := C) (i := p - s) (m := m) (by omega) (by omega) (by omega)
      have h2 := h1 x y hx1 hy1
      have h3 := srt_drop hsL hx2 l hl
      have h4 := srt_take hsR hy2 r (by rw [show p - s - m + 1 = N - s - m by omega]; exact hr)
      exact leF_lt_trans h4 (leF_lt_trans' h3 h2)

/-- the three steps behind the search -/
structure SymTail (w0 : World) (g n c B a s m mid ed b : Nat) (T : List FlyC) (Q0 Q1 Q2 : World → Prop) : Prop where
  rot : s < m → m < ed → ∀ W, Q0 W → Calls Try.prog 111 #[.slice (some ⟨g, 0, none⟩) n c, .int .i64 s, .int .i64 m, .int .i64 ed, cmpF] W fun e w' => e = .returned (.tuple #[]) ∧ Q1 w'
  nrot : ¬ (s < m ∧ m < ed) → ∀ W, Q0 W → Q1 W
  lft : a < s → s < mid → ∀ W, Q1 W → Calls Try.prog 104 #[.slice (some ⟨g, 0, none⟩) n c, .int .i64 a, .int .i64 s, .int .i64 mid, cmpF] W fun e w' => e = .returned (.tuple #[]) ∧ Q2 w'
  nlft : ¬ (a < s ∧ s < mid) → ∀ W, Q1 W → Q2 W
  rgt : mid < ed → ed < b → ∀ W, Q2 W → Calls Try.prog 104 #[.slice (some ⟨g, 0, none⟩) n c, .int .i64 mid, .int .i64 ed, .int .i64 b, cmpF] W fun e w' => e = .returned (.tuple #[]) ∧ RowG w0 B g c n T w'
  nrgt : ¬ (mid < ed ∧ ed < b) → ∀ W, Q2 W → RowG w0 B g c n T W
theorem len0 {α : Type} {l : List α} (h : l.length = 0) : l = [] := List.eq_nil_of_length_eq_zero h
theorem sym_tail (w0 : World) (g n c B a s m mid ed b k : Nat) (A L R C : List FlyC) (ih : SymOk w0 g n c B k) (hk : L.length + R.length ≤ k + 1) (hn : n ≤ 1000000) (ha : A.length = a) (hm : a + L.length = m) (hb : m + R.length = b) (has : a ≤ s) (hsm : s ≤ m) (hme : m ≤ ed) (heb : ed ≤ b) (hsum : s + ed = mid + m) (h1 : a < mid) (h2 : mid < b) (hsL : St.Srt leF L) (hsR : St.Srt leF R)
    (hle : ∀ l ∈ L.take (s - a), ∀ r ∈ R.drop (ed - m), leF l r = true) (hlt : ∀ l ∈ L.drop (s - a), ∀ r ∈ R.take (ed - m), leF l r = false) :
    ∃ Q1 Q2 : World → Prop, SymTail w0 g n c B a s m mid ed b (A ++ St.mg leF L R ++ C) (RowG w0 B g c n (A ++ L ++ R ++ C)) Q1 Q2 := by
  have eL := (List.take_append_drop (s - a) L).symm
  have eR := (List.take_append_drop (ed - m) R).symm
  have hmg := St.mg_split (le := leF) _ _ _ _ hle hlt
  rw [List.take_append_drop, List.take_append_drop] at hmg
  have l1 : (L.take (s - a)).length = s - a := by simp; omega
  have l2 : (L.drop (s - a)).length = m - s := by simp; omega
  have r1 : (R.take (ed - m)).length = ed - m := by simp; omega
  have r2 : (R.drop (ed - m)).length = b - ed := by simp; omega
  have sL1 : St.Srt leF (L.take (s - a)) := hsL.sublist (List.take_sublist _ _)
  have sL2 : St.Srt leF (L.drop (s - a)) := hsL.sublist (List.drop_sublist _ _)
  have sR1 : St.Srt leF (R.take (ed - m)) := hsR.sublist (List.take_sublist _ _)
  have sR2 : St.Srt leF (R.drop (ed - m)) := hsR.sublist (List.drop_sublist _ _)
  rw [hmg]
  generalize L.take (s - a) = L1 at *
  generalize L.drop (s - a) = L2 at *
  generalize R.take (ed - m) = R1 at *
  generalize R.drop (ed - m) = R2 at *
  subst eL eR
  simp at hk
  refine ⟨RowG w0 B g c n ((A ++ L1) ++ R1 ++ L2 ++ (R2 ++ C)), RowG w0 B g c n (A ++ St.mg leF L1 R1 ++ L2 ++ R2 ++ C), ⟨fun c1 c2 W hW => ?_, fun hc W hW => ?_, fun c1 c2 W hW => ?_, fun hc W hW => ?_, fun c1 c2 W hW => ?_, fun hc W hW => ?_⟩⟩
  · exact rot111 w0 g n c s m ed B (A ++ L1) L2 R1 (R2 ++ C) cmpF W (by simpa only [List.append_assoc] using hW) (by simp; omega) (by omega) (by omega) (by omega) (by omega) hn
  · rcases Nat.lt_or_ge s m with h3 | h3
    · have : R1 = [] := len0 (by omega)
      subst this
      simpa only [List.append_assoc, List.nil_append, List.append_nil] using hW
    · have : L2 = [] := len0 (by omega)
      subst this
      simpa only [List.append_assoc, List.nil_append, List.append_nil] using hW
  · refine (ih a s mid A L1 R1 (L2 ++ (R2 ++ C)) W (by omega) (by simpa only [List.append_assoc] using hW) ha (by omega) (by omega) (by omega) (by omega) sL1 sR1).mono ?_
    rintro e w' ⟨he, h3⟩
    exact ⟨he, by simpa only [List.append_assoc] using h3⟩
  · have e : St.mg leF L1 R1 = L1 ++ R1 := by
      rcases Nat.lt_or_ge a s with h3 | h3
      · have : R1 = [] := len0 (by omega)
        subst this
        rw [St.mg_nil, List.append_nil]
      · have : L1 = [] := len0 (by omega)
        subst this
        rw [St.nil_mg, List.nil_append]
    rw [e]
    simpa only [List.append_assoc] using hW
  · have hl : (A ++ St.mg leF L1 R1).length = mid := by rw [List.length_append, St.mg_length]; omega
    refine (ih mid ed b (A ++ St.mg leF L1 R1) L2 R2 C W (by omega) (by simpa only [List.append_assoc] using hW) hl (by omega) (by omega) (by omega) (by omega) sL2 sR2).mono ?_
    rintro e w' ⟨he, h3⟩
    exact ⟨he, by simpa only [List.append_assoc] using h3⟩
  · have e : St.mg leF L2 R2 = L2 ++ R2 := by
      rcases Nat.lt_or_ge mid ed with h3 | h3
      · have : R2 = [] := len0 (by omega)
        subst this
        rw [St.mg_nil, List.append_nil]
      · have : L2 = [] := len0 (by omega)
        subst this
        rw [St.nil_mg, List.nil_append]
    rw [e]
    simpa only [List.append_assoc] using hW

set_option linter.unusedVariables false in
set_option linter.unusedSimpArgs false in
set_option maxRecDepth 100000 in
set_option maxHeartbeats 12800000 in
theorem sym_many (w0 : World) (g n c a m b B k : Nat) (A L R C : List FlyC) (w : World) (ih : SymOk w0 g n c B k) (hk : L.length + R.length ≤ k + 1) (h : RowG w0 B g c n (A ++ L ++ R ++ C) w) (ha : A.length = a) (hm : a + L.length = m) (hb : m + R.length = b) (hL : 2 ≤ L.length) (hR : 2 ≤ R.length) (hsL : St.Srt leF L) (hsR : St.Srt leF R) (hn : n ≤ 1000000) :
    Calls Try.prog 104 #[.slice (some ⟨g, 0, none⟩) n c, .int .i64 a, .int .i64 m, .int .i64 b, cmpF] w fun e w' => e = .returned (.tuple #[]) ∧ RowG w0 B g c n (A ++ St.mg leF L R ++ C) w' := by
  have hbn : b ≤ n := by have := h.len; simp at this; omega
  obtain ⟨T, hT⟩ : ∃ T, T = A ++ St.mg leF L R ++ C := ⟨_, rfl⟩
  rw [← hT]
  obtain ⟨mid, hmid⟩ : ∃ x, x = (a + b) / 2 := ⟨_, rfl⟩
  have hmid2 : ((a : Int) + (b : Int)) / 2 = (mid : Int) := by omega
  obtain ⟨N, hN⟩ : ∃ x, x = mid + m := ⟨_, rfl⟩
  have eN : IntKind.i64.wrap ((mid : Int) + (m : Int)) = (N : Int) := by rw [IntWalk.i64_left, IntWalk.wrap64_in _ (by omega)]; omega
  obtain ⟨p, hp⟩ : ∃ x, x = N - 1 := ⟨_, rfl⟩
  have ep : IntKind.i64.wrap ((N : Int) - 1) = (p : Int) := by rw [IntWalk.i64_left, IntWalk.wrap64_in _ (by omega)]; omega
  have H := Lib.hid h
  have ham : a + 2 ≤ m := by omega
  have hmb : m + 2 ≤ b := by omega
  have IH := Lib.hid ih
  have HT := Lib.hid hT
  have q1 : a < mid := by omega
  have q2 : mid < b := by omega
  have q3 : p < N := by omega
  have q4 : a + b ≤ 2 * mid + 1 := by omega
  have q5 : 2 * mid ≤ a + b := by omega
  have HX := Lib.hid (And.intro ha (And.intro hm (And.intro hb (And.intro hmid (And.intro hN (And.intro (show p + 1 = N by omega) (And.intro (show 0 < L.length by omega) (And.intro (show 0 < R.length by omega) (And.intro hsL (And.intro hsR hk))))))))))
  have t0 : (((m : Int) - (a : Int)) == 1) = false := by simp; omega
  have t1 : (((b : Int) - (m : Int)) == 1) = false := by simp; omega
  clear h ha hm hb hL hR hsL hsR ih hT hmid hp hk hN
  go_enter Try.func104, Try.ntmps104
  by_cases hgt : mid < m
  · obtain ⟨s0, hs0⟩ : ∃ x, x = N - b := ⟨_, rfl⟩
    have es : IntKind.i64.wrap ((N : Int) - (b : Int)) = (s0 : Int) := by have := HX.out; rw [IntWalk.i64_left, IntWalk.wrap64_in _ (by omega)]; omega
    have HS0 := Lib.hid hs0
    clear hs0
    go_wp2_with fail
    have HZ : Hid ((mid < m ∧ s0 + b = N ∧ mid = mid) ∨ (m ≤ mid ∧ s0 = a ∧ mid = m)) := Lib.hid (by have := HX.out; have := HS0.out; omega)
    have hs0a : a ≤ s0 := by have := HX.out; have := HS0.out; omega
    have hr0m : mid ≤ m := by omega
    go_loopw [20, 21] (BsRel w0 B g c n s0 mid (A ++ L ++ R ++ C) (P3 (A ++ L ++ R ++ C) p s0 mid)) (fun i j _ => (intOf j).toNat - (intOf i).toNat)
    case atStart => exact ⟨s0, mid, rfl, rfl, Nat.le_refl _, by have := HX.out; have := HZ.out; omega, Nat.le_refl _, Lib.hid ⟨.inl rfl, .inl rfl⟩, H.out⟩
    case round =>
      clear H
      obtain ⟨i, j, rfl, rfl, hmi, hij, hjb, HP, hr⟩ := hrel
      by_cases hlt : i < j
      · obtain ⟨h, hh⟩ : ∃ h, h = (i + j) / 2 := ⟨_, rfl⟩
        have hh2 : ((i : Int) + (j : Int)) / 2 = (h : Int) := by omega
        have hih : i ≤ h := by omega
        have hhj : h < j := by omega
        have hhn : h < n := by omega
        obtain ⟨v, hv⟩ : ∃ v, v = p - h := ⟨_, rfl⟩
        have hvm : m ≤ v ∧ v < b := by have := HX.out; have := HZ.out; omega
        have ev : IntKind.i64.wrap ((p : Int) - (h : Int)) = (v : Int) := by have := HX.out; rw [IntWalk.i64_left, IntWalk.wrap64_in _ (by omega)]; omega
        have hvn : v < n := by omega
        clear hh
        obtain ⟨x, hx1, hx2⟩ := get_left (A := A) (L := L) (R := R) (C := C) (i := h) (a := a) HX.out.1 (by omega) (by have := HX.out; omega)
        obtain ⟨y, hy1, hy2⟩ := get_right (A := A) (L := L) (R := R) (C := C) (i := v) (m := m) (by have := HX.out; omega) hvm.1 (by have := HX.out; omega)
        obtain ⟨hx, hfr, hgs, -, -⟩ := hr.at_ hx1
        obtain ⟨hy, -, -, -, -⟩ := hr.at_ hy1
        have HR := Lib.hid hr
        have HXX := Lib.hid hx1
        have HYY : Hid ((A ++ L ++ R ++ C)[p - h]? = some y) := Lib.hid (by rw [← hv]; exact hy1)
        have x0 : wr.cell? ⟨g, h * 7, none⟩ = some (.int .i64 x.x) := hx 0 _ rfl
        have x1 : wr.cell? ⟨g, h * 7 + 1, none⟩ = some (.int .i64 x.y) := hx 1 _ rfl
        have x2 : wr.cell? ⟨g, h * 7 + 2, none⟩ = some (.string x.path) := hx 2 _ rfl
        have x3 : wr.cell? ⟨g, h * 7 + 3, none⟩ = some (.string x.l.src) := hx 3 _ rfl
        have x4 : wr.cell? ⟨g, h * 7 + 4, none⟩ = some (.string x.l.msg) := hx 4 _ rfl
        have x5 : wr.cell? ⟨g, h * 7 + 5, none⟩ = some (.slice x.l.args.a x.l.args.n x.l.args.c) := hx 5 _ rfl
        have x6 : wr.cell? ⟨g, h * 7 + 6, none⟩ = some (.int .i64 x.l.sent) := hx 6 _ rfl
        have y0 : wr.cell? ⟨g, v * 7, none⟩ = some (.int .i64 y.x) := hy 0 _ rfl
        have y1 : wr.cell? ⟨g, v * 7 + 1, none⟩ = some (.int .i64 y.y) := hy 1 _ rfl
        have y2 : wr.cell? ⟨g, v * 7 + 2, none⟩ = some (.string y.path) := hy 2 _ rfl
        have y3 : wr.cell? ⟨g, v * 7 + 3, none⟩ = some (.string y.l.src) := hy 3 _ rfl
        have y4 : wr.cell? ⟨g, v * 7 + 4, none⟩ = some (.string y.l.msg) := hy 4 _ rfl
        have y5 : wr.cell? ⟨g, v * 7 + 5, none⟩ = some (.slice y.l.args.a y.l.args.n y.l.args.c) := hy 5 _ rfl
        have y6 : wr.cell? ⟨g, v * 7 + 6, none⟩ = some (.int .i64 y.l.sent) := hy 6 _ rfl
        clear hx hy hx1 hy1 hr hx2 hy2 hv hvm
        cases hle : leF x y with
        | true =>
          have HQ : Hid (P3 (A ++ L ++ R ++ C) p s0 mid (h + 1) j) := Lib.hid ⟨.inr (fun x' y' hx' hy' => by
            rw [Nat.add_sub_cancel] at hx' hy'
            rw [HXX.out] at hx'
            rw [HYY.out] at hy'
            injection hx' with hx'
            injection hy' with hy'
            rw [← hx', ← hy']
            exact hle), HP.out.2⟩
          go_wp2_with fail
          go_region_held3 (fun w' => w'.cell? ⟨g, h * 7, none⟩ = some (.int .i64 x.x) ∧ w'.cell? ⟨g, h * 7 + 1, none⟩ = some (.int .i64 x.y) ∧ w'.cell? ⟨g, h * 7 + 2, none⟩ = some (.string x.path) ∧ w'.cell? ⟨g, h * 7 + 3, none⟩ = some (.string x.l.src) ∧ w'.cell? ⟨g, h * 7 + 4, none⟩ = some (.string x.l.msg) ∧ w'.cell? ⟨g, h * 7 + 5, none⟩ = some (.slice x.l.args.a x.l.args.n x.l.args.c) ∧ w'.cell? ⟨g, h * 7 + 6, none⟩ = some (.int .i64 x.l.sent) ∧ w'.cell? ⟨g, v * 7, none⟩ = some (.int .i64 y.x) ∧ w'.cell? ⟨g, v * 7 + 1, none⟩ = some (.int .i64 y.y) ∧ w'.cell? ⟨g, v * 7 + 2, none⟩ = some (.string y.path) ∧ w'.cell? ⟨g, v * 7 + 3, none⟩ = some (.string y.l.src) ∧ w'.cell? ⟨g, v * 7 + 4, none⟩ = some (.string y.l.msg) ∧ w'.cell? ⟨g, v * 7 + 5, none⟩ = some (.slice y.l.args.a y.l.args.n y.l.args.c) ∧ w'.cell? ⟨g, v * 7 + 6, none⟩ = some (.int .i64 y.l.sent)) (simp [go_sem, *])
            (first | (go_at_call 64; with_reducible refine (cmp64 y x _).mono ?_; intro e w1 hpo; unfold CmpPost at hpo; obtain ⟨r, he, hr0, h1⟩ := hpo; subst he; have z1 := h1.size; simp at z1; obtain ⟨k1, k2, k3⟩ := keepB h1 g (by simp; omega); have HR1 := Lib.hid (HR.out.drew.below h1); clear h1; rw [hle] at hr0; simp only [Bool.not_true] at hr0))
          go_wp2_with fail
          go_roundw
          case rel => exact ⟨h + 1, j, by go_num, rfl, by omega, by omega, hjb, HQ, HR1.out⟩
          case measure => simp [intOf]; omega
        | false =>
          have HQ : Hid (P3 (A ++ L ++ R ++ C) p s0 mid i h) := Lib.hid ⟨HP.out.1, .inr (fun x' y' hx' hy' => by
            rw [HXX.out] at hx'
            rw [HYY.out] at hy'
            injection hx' with hx'
            injection hy' with hy'
            rw [← hx', ← hy']
            exact hle)⟩
          go_wp2_with fail
          go_region_held3 (fun w' => w'.cell? ⟨g, h * 7, none⟩ = some (.int .i64 x.x) ∧ w'.cell? ⟨g, h * 7 + 1, none⟩ = some (.int .i64 x.y) ∧ w'.cell? ⟨g, h * 7 + 2, none⟩ = some (.string x.path) ∧ w'.cell? ⟨g, h * 7 + 3, none⟩ = some (.string x.l.src) ∧ w'.cell? ⟨g, h * 7 + 4, none⟩ = some (.string x.l.msg) ∧ w'.cell? ⟨g, h * 7 + 5, none⟩ = some (.slice x.l.args.a x.l.args.n x.l.args.c) ∧ w'.cell? ⟨g, h * 7 + 6, none⟩ = some (.int .i64 x.l.sent) ∧ w'.cell? ⟨g, v * 7, none⟩ = some (.int .i64 y.x) ∧ w'.cell? ⟨g, v * 7 + 1, none⟩ = some (.int .i64 y.y) ∧ w'.cell? ⟨g, v * 7 + 2, none⟩ = some (.string y.path) ∧ w'.cell? ⟨g, v * 7 + 3, none⟩ = some (.string y.l.src) ∧ w'.cell? ⟨g, v * 7 + 4, none⟩ = some (.string y.l.msg) ∧ w'.cell? ⟨g, v * 7 + 5, none⟩ = some (.slice y.l.args.a y.l.args.n y.l.args.c) ∧ w'.cell? ⟨g, v * 7 + 6, none⟩ = some (.int .i64 y.l.sent)) (simp [go_sem, *])
            (first | (go_at_call 64; with_reducible refine (cmp64 y x _).mono ?_; intro e w1 hpo; unfold CmpPost at hpo; obtain ⟨r, he, hr0, h1⟩ := hpo; subst he; have z1 := h1.size; simp at z1; obtain ⟨k1, k2, k3⟩ := keepB h1 g (by simp; omega); have HR1 := Lib.hid (HR.out.drew.below h1); clear h1; rw [hle] at hr0; simp only [Bool.not_false] at hr0))
          go_wp2_with fail
          go_roundw
          case rel => exact ⟨i, h, rfl, rfl, hmi, hih, by omega, HQ, HR1.out⟩
          case measure => simp [intOf]; omega
      · have hji : j = i := by omega
        subst hji
        obtain ⟨ed, hed⟩ : ∃ x, x = N - j := ⟨_, rfl⟩
        have ee : IntKind.i64.wrap ((N : Int) - (j : Int)) = (ed : Int) := by have := HX.out; rw [IntWalk.i64_left, IntWalk.wrap64_in _ (by omega)]; omega
        have hsum : j + ed = mid + m := by have := HX.out; omega
        have hsp := p3_split HX.out.1 HX.out.2.1 HX.out.2.2.1 HX.out.2.2.2.1 HX.out.2.2.2.2.1 HX.out.2.2.2.2.2.1 HX.out.2.2.2.2.2.2.1 HX.out.2.2.2.2.2.2.2.1 HX.out.2.2.2.2.2.2.2.2.1 HX.out.2.2.2.2.2.2.2.2.2.1 HZ.out hmi hjb HP.out
        rw [← hed] at hsp
        have heb : ed ≤ b := by have := HX.out; have := HZ.out; omega
        have hme : m ≤ ed := by omega
        obtain ⟨Q1, Q2, HTl⟩ := sym_tail w0 g n c B a j m mid ed b k A L R C IH.out HX.out.2.2.2.2.2.2.2.2.2.2 hn HX.out.1 HX.out.2.1 HX.out.2.2.1 (by omega) (by omega) hme heb hsum q1 q2 HX.out.2.2.2.2.2.2.2.2.1 HX.out.2.2.2.2.2.2.2.2.2.1 hsp.1 hsp.2
        rw [← HT.out] at HTl
        have HTL := Lib.hid HTl
        have HR := Lib.hid hr
        clear hsp HTl hr hed HP
        rcases Nat.lt_or_ge j mid with c1 | c1
        · rcases Nat.lt_or_ge a j with c2 | c2
          · rcases Nat.lt_or_ge ed b with c3 | c3
            · have d1 : j < m := by omega
              have d2 : m < ed := by omega
              have d4 : j < mid := by omega
              have d5 : mid < ed := by omega
              have d3 : a < j := by omega
              have d6 : ed < b := by omega
              go_wp2_with fail
              refine (HTL.out.rot (by omega) (by omega) _ HR.out).mono ?_
              rintro e w3 ⟨rfl, h3⟩
              have HR3 := Lib.hid h3
              clear h3
              go_wp2_with fail
              refine (HTL.out.lft (by omega) (by omega) _ HR3.out).mono ?_
              rintro e w4 ⟨rfl, h4⟩
              have HR4 := Lib.hid h4
              clear h4
              go_wp2_with fail
              refine (HTL.out.rgt (by omega) (by omega) _ HR4.out).mono ?_
              rintro e w5 ⟨rfl, h5⟩
              have HR5 := Lib.hid h5
              clear h5
              go_wp2_with fail
              go_end0
              exact ⟨rfl, HR5.out⟩
            · have d1 : j < m := by omega
              have d2 : m < ed := by omega
              have d4 : j < mid := by omega
              have d5 : mid < ed := by omega
              have d3 : a < j := by omega
              have d6 : ¬ ed < b := by omega
              go_wp2_with fail
              refine (HTL.out.rot (by omega) (by omega) _ HR.out).mono ?_
              rintro e w3 ⟨rfl, h3⟩
              have HR3 := Lib.hid h3
              clear h3
              go_wp2_with fail
              refine (HTL.out.lft (by omega) (by omega) _ HR3.out).mono ?_
              rintro e w4 ⟨rfl, h4⟩
              have HR4 := Lib.hid h4
              clear h4
              go_wp2_with fail
              go_end0
              exact ⟨rfl, (HTL.out.nrgt (by omega) _ HR4.out)⟩
          · rcases Nat.lt_or_ge ed b with c3 | c3
            · have d1 : j < m := by omega
              have d2 : m < ed := by omega
              have d4 : j < mid := by omega
              have d5 : mid < ed := by omega
              have d3 : ¬ a < j := by omega
              have d6 : ed < b := by omega
              go_wp2_with fail
              refine (HTL.out.rot (by omega) (by omega) _ HR.out).mono ?_
              rintro e w3 ⟨rfl, h3⟩
              have HR3 := Lib.hid h3
              clear h3
              go_wp2_with fail
              refine (HTL.out.rgt (by omega) (by omega) _ (HTL.out.nlft (by omega) _ HR3.out)).mono ?_
              rintro e w5 ⟨rfl, h5⟩
              have HR5 := Lib.hid h5
              clear h5
              go_wp2_with fail
              go_end0
              exact ⟨rfl, HR5.out⟩
            · have d1 : j < m := by omega
              have d2 : m < ed := by omega
              have d4 : j < mid := by omega
              have d5 : mid < ed := by omega
              have d3 : ¬ a < j := by omega
              have d6 : ¬ ed < b := by omega
              go_wp2_with fail
              refine (HTL.out.rot (by omega) (by omega) _ HR.out).mono ?_
              rintro e w3 ⟨rfl, h3⟩
              have HR3 := Lib.hid h3
              clear h3
              go_wp2_with fail
              go_end0
              exact ⟨rfl, (HTL.out.nrgt (by omega) _ (HTL.out.nlft (by omega) _ HR3.out))⟩
        · have d1 : j < m := by omega
          have d2 : ¬ m < ed := by omega
          have d3 : a < j := by omega
          have d4 : ¬ j < mid := by omega
          have d5 : mid < ed := by omega
          have d6 : ed < b := by omega
          go_wp2_with fail
          refine (HTL.out.rgt (by omega) (by omega) _ (HTL.out.nlft (by omega) _ (HTL.out.nrot (by omega) _ HR.out))).mono ?_
          rintro e w5 ⟨rfl, h5⟩
          have HR5 := Lib.hid h5
          clear h5
          go_wp2_with fail
          go_end0
          exact ⟨rfl, HR5.out⟩
  · go_wp2_with fail
    have HZ : Hid ((mid < m ∧ a + b = N ∧ m = mid) ∨ (m ≤ mid ∧ a = a ∧ m = m)) := Lib.hid (by have := HX.out; omega)
    have hs0a : a ≤ a := by have := HX.out; omega
    have hr0m : m ≤ m := by omega
    go_loopw [20, 21] (BsRel w0 B g c n a m (A ++ L ++ R ++ C) (P3 (A ++ L ++ R ++ C) p a m)) (fun i j _ => (intOf j).toNat - (intOf i).toNat)
    case atStart => exact ⟨a, m, rfl, rfl, Nat.le_refl _, by have := HX.out; have := HZ.out; omega, Nat.le_refl _, Lib.hid ⟨.inl rfl, .inl rfl⟩, H.out⟩
    case round =>
      clear H
      obtain ⟨i, j, rfl, rfl, hmi, hij, hjb, HP, hr⟩ := hrel
      by_cases hlt : i < j
      · obtain ⟨h, hh⟩ : ∃ h, h = (i + j) / 2 := ⟨_, rfl⟩
        have hh2 : ((i : Int) + (j : Int)) / 2 = (h : Int) := by omega
        have hih : i ≤ h := by omega
        have hhj : h < j := by omega
        have hhn : h < n := by omega
        obtain ⟨v, hv⟩ : ∃ v, v = p - h := ⟨_, rfl⟩
        have hvm : m ≤ v ∧ v < b := by have := HX.out; have := HZ.out; omega
        have ev : IntKind.i64.wrap ((p : Int) - (h : Int)) = (v : Int) := by have := HX.out; rw [IntWalk.i64_left, IntWalk.wrap64_in _ (by omega)]; omega
        have hvn : v < n := by omega
        clear hh
        obtain ⟨x, hx1, hx2⟩ := get_left (A := A) (L := L) (R := R) (C := C) (i := h) (a := a) HX.out.1 (by omega) (by have := HX.out; omega)
        obtain ⟨y, hy1, hy2⟩ := get_right (A := A) (L := L) (R := R) (C := C) (i := v) (m := m) (by have := HX.out; omega) hvm.1 (by have := HX.out; omega)
        obtain ⟨hx, hfr, hgs, -, -⟩ := hr.at_ hx1
        obtain ⟨hy, -, -, -, -⟩ := hr.at_ hy1
        have HR := Lib.hid hr
        have HXX := Lib.hid hx1
        have HYY : Hid ((A ++ L ++ R ++ C)[p - h]? = some y) := Lib.hid (by rw [← hv]; exact hy1)
        have x0 : wr.cell? ⟨g, h * 7, none⟩ = some (.int .i64 x.x) := hx 0 _ rfl
        have x1 : wr.cell? ⟨g, h * 7 + 1, none⟩ = some (.int .i64 x.y) := hx 1 _ rfl
        have x2 : wr.cell? ⟨g, h * 7 + 2, none⟩ = some (.string x.path) := hx 2 _ rfl
        have x3 : wr.cell? ⟨g, h * 7 + 3, none⟩ = some (.string x.l.src) := hx 3 _ rfl
        have x4 : wr.cell? ⟨g, h * 7 + 4, none⟩ = some (.string x.l.msg) := hx 4 _ rfl
        have x5 : wr.cell? ⟨g, h * 7 + 5, none⟩ = some (.slice x.l.args.a x.l.args.n x.l.args.c) := hx 5 _ rfl
        have x6 : wr.cell? ⟨g, h * 7 + 6, none⟩ = some (.int .i64 x.l.sent) := hx 6 _ rfl
        have y0 : wr.cell? ⟨g, v * 7, none⟩ = some (.int .i64 y.x) := hy 0 _ rfl
        have y1 : wr.cell? ⟨g, v * 7 + 1, none⟩ = some (.int .i64 y.y) := hy 1 _ rfl
        have y2 : wr.cell? ⟨g, v * 7 + 2, none⟩ = some (.string y.path) := hy 2 _ rfl
        have y3 : wr.cell? ⟨g, v * 7 + 3, none⟩ = some (.string y.l.src) := hy 3 _ rfl
        have y4 : wr.cell? ⟨g, v * 7 + 4, none⟩ = some (.string y.l.msg) := hy 4 _ rfl
        have y5 : wr.cell? ⟨g, v * 7 + 5, none⟩ = some (.slice y.l.args.a y.l.args.n y.l.args.c) := hy 5 _ rfl
        have y6 : wr.cell? ⟨g, v * 7 + 6, none⟩ = some (.int .i64 y.l.sent) := hy 6 _ rfl
        clear hx hy hx1 hy1 hr hx2 hy2 hv hvm
        cases hle : leF x y with
        | true =>
          have HQ : Hid (P3 (A ++ L ++ R ++ C) p a m (h + 1) j) := Lib.hid ⟨.inr (fun x' y' hx' hy' => by
            rw [Nat.add_sub_cancel] at hx' hy'
            rw [HXX.out] at hx'
            rw [HYY.out] at hy'
            injection hx' with hx'
            injection hy' with hy'
            rw [← hx', ← hy']
            exact hle), HP.out.2⟩
          go_wp2_with fail
          go_region_held3 (fun w' => w'.cell? ⟨g, h * 7, none⟩ = some (.int .i64 x.x) ∧ w'.cell? ⟨g, h * 7 + 1, none⟩ = some (.int .i64 x.y) ∧ w'.cell? ⟨g, h * 7 + 2, none⟩ = some (.string x.path) ∧ w'.cell? ⟨g, h * 7 + 3, none⟩ = some (.string x.l.src) ∧ w'.cell? ⟨g, h * 7 + 4, none⟩ = some (.string x.l.msg) ∧ w'.cell? ⟨g, h * 7 + 5, none⟩ = some (.slice x.l.args.a x.l.args.n x.l.args.c) ∧ w'.cell? ⟨g, h * 7 + 6, none⟩ = some (.int .i64 x.l.sent) ∧ w'.cell? ⟨g, v * 7, none⟩ = some (.int .i64 y.x) ∧ w'.cell? ⟨g, v * 7 + 1, none⟩ = some (.int .i64 y.y) ∧ w'.cell? ⟨g, v * 7 + 2, none⟩ = some (.string y.path) ∧ w'.cell? ⟨g, v * 7 + 3, none⟩ = some (.string y.l.src) ∧ w'.cell? ⟨g, v * 7 + 4, none⟩ = some (.string y.l.msg) ∧ w'.cell? ⟨g, v * 7 + 5, none⟩ = some (.slice y.l.args.a y.l.args.n y.l.args.c) ∧ w'.cell? ⟨g, v * 7 + 6, none⟩ = some (.int .i64 y.l.sent)) (simp [go_sem, *])
            (first | (go_at_call 64; with_reducible refine (cmp64 y x _).mono ?_; intro e w1 hpo; unfold CmpPost at hpo; obtain ⟨r, he, hr0, h1⟩ := hpo; subst he; have z1 := h1.size; simp at z1; obtain ⟨k1, k2, k3⟩ := keepB h1 g (by simp; omega); have HR1 := Lib.hid (HR.out.drew.below h1); clear h1; rw [hle] at hr0; simp only [Bool.not_true] at hr0))
          go_wp2_with fail
          go_roundw
          case rel => exact ⟨h + 1, j, by go_num, rfl, by omega, by omega, hjb, HQ, HR1.out⟩
          case measure => simp [intOf]; omega
        | false =>
          have HQ : Hid (P3 (A ++ L ++ R ++ C) p a m i h) := Lib.hid ⟨HP.out.1, .inr (fun x' y' hx' hy' => by
            rw [HXX.out] at hx'
            rw [HYY.out] at hy'
            injection hx' with hx'
            injection hy' with hy'
            rw [← hx', ← hy']
            exact hle)⟩
          go_wp2_with fail
          go_region_held3 (fun w' => w'.cell? ⟨g, h * 7, none⟩ = some (.int .i64 x.x) ∧ w'.cell? ⟨g, h * 7 + 1, none⟩ = some (.int .i64 x.y) ∧ w'.cell? ⟨g, h * 7 + 2, none⟩ = some (.string x.path) ∧ w'.cell? ⟨g, h * 7 + 3, none⟩ = some (.string x.l.src) ∧ w'.cell? ⟨g, h * 7 + 4, none⟩ = some (.string x.l.msg) ∧ w'.cell? ⟨g, h * 7 + 5, none⟩ = some (.slice x.l.args.a x.l.args.n x.l.args.c) ∧ w'.cell? ⟨g, h * 7 + 6, none⟩ = some (.int .i64 x.l.sent) ∧ w'.cell? ⟨g, v * 7, none⟩ = some (.int .i64 y.x) ∧ w'.cell? ⟨g, v * 7 + 1, none⟩ = some (.int .i64 y.y) ∧ w'.cell? ⟨g, v * 7 + 2, none⟩ = some (.string y.path) ∧ w'.cell? ⟨g, v * 7 + 3, none⟩ = some (.string y.l.src) ∧ w'.cell? ⟨g, v * 7 + 4, none⟩ = some (.string y.l.msg) ∧ w'.cell? ⟨g, v * 7 + 5, none⟩ = some (.slice y.l.args.a y.l.args.n y.l.args.c) ∧ w'.cell? ⟨g, v * 7 + 6, none⟩ = some (.int .i64 y.l.sent)) (simp [go_sem, *])
            (first | (go_at_call 64; with_reducible refine (cmp64 y x _).mono ?_; intro e w1 hpo; unfold CmpPost at hpo; obtain ⟨r, he, hr0, h1⟩ := hpo; subst he; have z1 := h1.size; simp at z1; obtain ⟨k1, k2, k3⟩ := keepB h1 g (by simp; omega); have HR1 := Lib.hid (HR.out.drew.below h1); clear h1; rw [hle] at hr0; simp only [Bool.not_false] at hr0))
          go_wp2_with fail
          go_roundw
          case rel => exact ⟨i, h, rfl, rfl, hmi, hih, by omega, HQ, HR1.out⟩
          case measure => simp [intOf]; omega
      · have hji : j = i := by omega
        subst hji
        obtain ⟨ed, hed⟩ : ∃ x, x = N - j := ⟨_, rfl⟩
        have ee : IntKind.i64.wrap ((N : Int) - (j : Int)) = (ed : Int) := by have := HX.out; rw [IntWalk.i64_left, IntWalk.wrap64_in _ (by omega)]; omega
        have hsum : j + ed = mid + m := by have := HX.out; omega
        have hsp := p3_split HX.out.1 HX.out.2.1 HX.out.2.2.1 HX.out.2.2.2.1 HX.out.2.2.2.2.1 HX.out.2.2.2.2.2.1 HX.out.2.2.2.2.2.2.1 HX.out.2.2.2.2.2.2.2.1 HX.out.2.2.2.2.2.2.2.2.1 HX.out.2.2.2.2.2.2.2.2.2.1 HZ.out hmi hjb HP.out
        rw [← hed] at hsp
        have heb : ed ≤ b := by have := HX.out; have := HZ.out; omega
        have hme : m ≤ ed := by omega
        obtain ⟨Q1, Q2, HTl⟩ := sym_tail w0 g n c B a j m mid ed b k A L R C IH.out HX.out.2.2.2.2.2.2.2.2.2.2 hn HX.out.1 HX.out.2.1 HX.out.2.2.1 (by omega) (by omega) hme heb hsum q1 q2 HX.out.2.2.2.2.2.2.2.2.1 HX.out.2.2.2.2.2.2.2.2.2.1 hsp.1 hsp.2
        rw [← HT.out] at HTl
        have HTL := Lib.hid HTl
        have HR := Lib.hid hr
        clear hsp HTl hr hed HP
        rcases Nat.lt_or_ge j m with c1 | c1
        · rcases Nat.lt_or_ge a j with c2 | c2
          · rcases Nat.lt_or_ge ed b with c3 | c3
            · have d1 : j < m := by omega
              have d2 : m < ed := by omega
              have d4 : j < mid := by omega
              have d5 : mid < ed := by omega
              have d3 : a < j := by omega
              have d6 : ed < b := by omega
              go_wp2_with fail
              refine (HTL.out.rot (by omega) (by omega) _ HR.out).mono ?_
              rintro e w3 ⟨rfl, h3⟩
              have HR3 := Lib.hid h3
              clear h3
              go_wp2_with fail
              refine (HTL.out.lft (by omega) (by omega) _ HR3.out).mono ?_
              rintro e w4 ⟨rfl, h4⟩
              have HR4 := Lib.hid h4
              clear h4
              go_wp2_with fail
              refine (HTL.out.rgt (by omega) (by omega) _ HR4.out).mono ?_
              rintro e w5 ⟨rfl, h5⟩
              have HR5 := Lib.hid h5
              clear h5
              go_wp2_with fail
              go_end0
              exact ⟨rfl, HR5.out⟩
            · have d1 : j < m := by omega
              have d2 : m < ed := by omega
              have d4 : j < mid := by omega
              have d5 : mid < ed := by omega
              have d3 : a < j := by omega
              have d6 : ¬ ed < b := by omega
              go_wp2_with fail
              refine (HTL.out.rot (by omega) (by omega) _ HR.out).mono ?_
              rintro e w3 ⟨rfl, h3⟩
              have HR3 := Lib.hid h3
              clear h3
              go_wp2_with fail
              refine (HTL.out.lft (by omega) (by omega) _ HR3.out).mono ?_
              rintro e w4 ⟨rfl, h4⟩
              have HR4 := Lib.hid h4
              clear h4
              go_wp2_with fail
              go_end0
              exact ⟨rfl, (HTL.out.nrgt (by omega) _ HR4.out)⟩
          · rcases Nat.lt_or_ge ed b with c3 | c3
            · have d1 : j < m := by omega
              have d2 : m < ed := by omega
              have d4 : j < mid := by omega
              have d5 : mid < ed := by omega
              have d3 : ¬ a < j := by omega
              have d6 : ed < b := by omega
              go_wp2_with fail
              refine (HTL.out.rot (by omega) (by omega) _ HR.out).mono ?_
              rintro e w3 ⟨rfl, h3⟩
              have HR3 := Lib.hid h3
              clear h3
              go_wp2_with fail
              refine (HTL.out.rgt (by omega) (by omega) _ (HTL.out.nlft (by omega) _ HR3.out)).mono ?_
              rintro e w5 ⟨rfl, h5⟩
              have HR5 := Lib.hid h5
              clear h5
              go_wp2_with fail
              go_end0
              exact ⟨rfl, HR5.out⟩
            · have d1 : j < m := by omega
              have d2 : m < ed := by omega
              have d4 : j < mid := by omega
              have d5 : mid < ed := by omega
              have d3 : ¬ a < j := by omega
              have d6 : ¬ ed < b := by omega
              go_wp2_with fail
              refine (HTL.out.rot (by omega) (by omega) _ HR.out).mono ?_
              rintro e w3 ⟨rfl, h3⟩
              have HR3 := Lib.hid h3
              clear h3
              go_wp2_with fail
              go_end0
              exact ⟨rfl, (HTL.out.nrgt (by omega) _ (HTL.out.nlft (by omega) _ HR3.out))⟩
        · rcases Nat.lt_or_ge j mid with c2 | c2
          · have d1 : ¬ j < m := by omega
            have d3 : a < j := by omega
            have d4 : j < mid := by omega
            have d5 : ¬ mid < ed := by omega
            go_wp2_with fail
            refine (HTL.out.lft (by omega) (by omega) _ (HTL.out.nrot (by omega) _ HR.out)).mono ?_
            rintro e w4 ⟨rfl, h4⟩
            have HR4 := Lib.hid h4
            clear h4
            go_wp2_with fail
            go_end0
            exact ⟨rfl, (HTL.out.nrgt (by omega) _ HR4.out)⟩
          · have d1 : ¬ j < m := by omega
            have d3 : a < j := by omega
            have d4 : ¬ j < mid := by omega
            have d5 : ¬ mid < ed := by omega
            go_wp2_with fail
            go_end0
            exact ⟨rfl, (HTL.out.nrgt (by omega) _ (HTL.out.nlft (by omega) _ (HTL.out.nrot (by omega) _ HR.out)))⟩
end Go.Proofs.Ytjdjfjokniingaa
