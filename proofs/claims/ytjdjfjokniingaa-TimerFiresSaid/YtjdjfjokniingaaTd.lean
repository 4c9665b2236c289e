/- slices.symMergeCmpFunc on a row of alarms: one element on the left, or on the right. -/
import Derived.Test.YtjdjfjokniingaaTc
namespace Go.Proofs.Ytjdjfjokniingaa
open Go.RowKit

/-- the middle of two places -/
theorem mid_lt {i j : Nat} (h : i < j) : i ≤ (i + j) / 2 ∧ (i + j) / 2 < j := by omega
theorem half_u (i j : Nat) (hi : i ≤ 1000000) (hj : j ≤ 1000000) : IntKind.i64.wrap ((i : Int) + (j : Int)) = ((i + j : Nat) : Int) := by rw [IntWalk.i64_left, IntWalk.wrap64_in _ (by omega)]; omega
def BsRel (w0 : World) (B g c n lo hi : Nat) (X : List FlyC) (P : Nat → Nat → Prop) (vi vj : Value) (wr : World) : Prop :=
  ∃ i j : Nat, vi = .int .i64 (i : Int) ∧ vj = .int .i64 (j : Int) ∧ lo ≤ i ∧ i ≤ j ∧ j ≤ hi ∧ Hid (P i j) ∧ RowG w0 B g c n X wr
theorem get_left {α : Type} {A L R C : List α} {i a : Nat} (ha : A.length = a) (h1 : a ≤ i) (h2 : i < a + L.length) : ∃ x, (A ++ L ++ R ++ C)[i]? = some x ∧ L[i - a]? = some x := by
  have hl : i - a < L.length := by omega
  refine ⟨L[i - a], ?_, List.getElem?_eq_getElem hl⟩
  rw [List.append_assoc, List.append_assoc, List.getElem?_append_right (by omega), List.getElem?_append_left (by omega), ha]
  exact List.getElem?_eq_getElem hl
theorem get_right {α : Type} {A L R C : List α} {i m : Nat} (hm : A.length + L.length = m) (h1 : m ≤ i) (h2 : i < m + R.length) : ∃ x, (A ++ L ++ R ++ C)[i]? = some x ∧ R[i - m]? = some x := by
  have hl : i - m < R.length := by omega
  refine ⟨R[i - m], ?_, List.getElem?_eq_getElem hl⟩
  rw [List.append_assoc, List.getElem?_append_right (by simp; omega), List.getElem?_append_left (by simp; omega)]
  rw [show i - (A ++ L).length = i - m by simp; omega]
  exact List.getElem?_eq_getElem hl
/-- what lies ahead of an element of a sorted row, and behind it -/
theorem srt_take {S : List FlyC} (hs : St.Srt leF S) {k : Nat} {x : FlyC} (hx : S[k]? = some x) : ∀ s ∈ S.take (k + 1), leF s x = true := by
  intro s h
  obtain ⟨j, hj⟩ := List.getElem?_of_mem h
  have hjk : j < k + 1 := by
    have := (List.getElem?_eq_some_iff.1 hj).1
    simp at this; omega
  rw [List.getElem?_take_of_lt hjk] at hj
  rcases Nat.lt_or_ge j k with h1 | h1
  · obtain ⟨a1, a2⟩ := List.getElem?_eq_some_iff.1 hj
    obtain ⟨b1, b2⟩ := List.getElem?_eq_some_iff.1 hx
    have := List.pairwise_iff_getElem.1 hs j k a1 b1 h1
    rw [a2, b2] at this
    exact this
  · have : j = k := by omega
    subst this
    rw [hj] at hx
    injection hx with hx
    subst hx
    rcases leF_ok.total s s with h | h <;> exact h
theorem srt_drop {S : List FlyC} (hs : St.Srt leF S) {k : Nat} {x : FlyC} (hx : S[k]? = some x) : ∀ s ∈ S.drop k, leF x s = true := by
  intro s h
  obtain ⟨j, hj⟩ := List.getElem?_of_mem h
  rw [List.getElem?_drop] at hj
  rcases Nat.eq_zero_or_pos j with h1 | h1
  · subst h1
    rw [Nat.add_zero, hx] at hj
    injection hj with hj
    subst hj
    rcases leF_ok.total x x with h | h <;> exact h
  · obtain ⟨a1, a2⟩ := List.getElem?_eq_some_iff.1 hj
    obtain ⟨b1, b2⟩ := List.getElem?_eq_some_iff.1 hx
    have := List.pairwise_iff_getElem.1 hs k (k + j) b1 a1 (by omega)
    rw [a2, b2] at this
    exact this
theorem leF_lt_trans {a b c : FlyC} (h1 : leF a b = true) (h2 : leF c b = false) : leF c a = false := by
  cases h : leF c a with
  | false => rfl
  | true => rw [leF_ok.trans _ _ _ h h1] at h2; cases h2
theorem leF_lt_trans' {a b c : FlyC} (h1 : leF a b = true) (h2 : leF a c = false) : leF b c = false := by
  cases h : leF b c with
  | false => rfl
  | true => rw [leF_ok.trans _ _ _ h1 h] at h2; cases h2

/-- one element on the left: what the search knows -/
def P1 (x : FlyC) (R : List FlyC) (m i j : Nat) : Prop := (∀ r ∈ R.take (i - m), leF x r = false) ∧ (∀ r ∈ R.drop (j - m), leF x r = true)
def K1 (w0 : World) (B g c n a i : Nat) (A R1 : List FlyC) (x : FlyC) (R2C : List FlyC) (vk : Value) (wr : World) : Prop :=
  ∃ k : Nat, vk = .int .i64 (k : Int) ∧ a ≤ k ∧ k + 1 ≤ i ∧ RowG w0 B g c n (A ++ R1.take (k - a) ++ x :: (R1.drop (k - a) ++ R2C)) wr

set_option linter.unusedVariables false in
set_option linter.unusedSimpArgs false in
set_option maxRecDepth 100000 in
set_option maxHeartbeats 6400000 in
theorem sym_left (w0 : World) (g n c a m b B : Nat) (A R C : List FlyC) (x : FlyC) (w : World) (h : RowG w0 B g c n (A ++ [x] ++ R ++ C) w) (ha : A.length = a) (hm : a + 1 = m) (hb : m + R.length = b) (hR : 0 < R.length) (hs : St.Srt leF R) (hn : n ≤ 1000000) :
    Calls Try.prog 104 #[.slice (some ⟨g, 0, none⟩) n c, .int .i64 a, .int .i64 m, .int .i64 b, cmpF] w fun e w' => e = .returned (.tuple #[]) ∧ RowG w0 B g c n (A ++ St.mg leF [x] R ++ C) w' := by
  have hbn : b ≤ n := by have := h.len; simp at this; omega
  have H := Lib.hid h
  have HX := Lib.hid (And.intro ha (And.intro hm (And.intro hb hs)))
  have ham : a < m := by omega
  have hmb : m < b := by omega
  have e0 : IntKind.i64.wrap ((m : Int) - (a : Int)) = 1 := by rw [IntWalk.i64_left, IntWalk.wrap64_in _ (by omega)]; omega
  clear h ha hm hb hR hs
  go_enter Try.func104, Try.ntmps104
  go_wp2_with fail
  go_loopw [10, 11] (BsRel w0 B g c n m b (A ++ [x] ++ R ++ C) (P1 x R m)) (fun i j _ => (intOf j).toNat - (intOf i).toNat)
  case atStart => exact ⟨m, b, rfl, rfl, Nat.le_refl _, by omega, Nat.le_refl _, Lib.hid ⟨by simp, by rw [List.drop_eq_nil_of_le (by have := HX.out.2.2.1; omega)]; simp⟩, H.out⟩
  case round =>
    clear H
    obtain ⟨i, j, rfl, rfl, hmi, hij, hjb, HP, hr⟩ := hrel
    by_cases hlt : i < j
    · obtain ⟨h, hh⟩ : ∃ h, h = (i + j) / 2 := ⟨_, rfl⟩
      have hh2 : ((i : Int) + (j : Int)) / 2 = (h : Int) := by omega
      have hih : i ≤ h := by omega
      have hhj : h < j := by omega
      have hhn : h < n := by omega
      have han : a < n := by omega
      clear hh
      obtain ⟨y, hy1, hy2⟩ := get_right (A := A) (L := [x]) (R := R) (C := C) (i := h) (m := m) (by have := HX.out; simp; omega) (by omega) (by have := HX.out; omega)
      have hxg : (A ++ [x] ++ R ++ C)[a]? = some x := by rw [List.append_assoc, List.append_assoc, ← HX.out.1]; exact get_mid A x _
      obtain ⟨hx, hfr, hgs, -, -⟩ := hr.at_ hxg
      obtain ⟨hy, -, -, -, -⟩ := hr.at_ hy1
      have HR := Lib.hid hr
      have HY := Lib.hid hy2
      have x0 : wr.cell? ⟨g, a * 7, none⟩ = some (.int .i64 x.x) := hx 0 _ rfl
      have x1 : wr.cell? ⟨g, a * 7 + 1, none⟩ = some (.int .i64 x.y) := hx 1 _ rfl
      have x2 : wr.cell? ⟨g, a * 7 + 2, none⟩ = some (.string x.path) := hx 2 _ rfl
      have x3 : wr.cell? ⟨g, a * 7 + 3, none⟩ = some (.string x.l.src) := hx 3 _ rfl
      have x4 : wr.cell? ⟨g, a * 7 + 4, none⟩ = some (.string x.l.msg) := hx 4 _ rfl
      have x5 : wr.cell? ⟨g, a * 7 + 5, none⟩ = some (.slice x.l.args.a x.l.args.n x.l.args.c) := hx 5 _ rfl
      have x6 : wr.cell? ⟨g, a * 7 + 6, none⟩ = some (.int .i64 x.l.sent) := hx 6 _ rfl
      have y0 : wr.cell? ⟨g, h * 7, none⟩ = some (.int .i64 y.x) := hy 0 _ rfl
      have y1 : wr.cell? ⟨g, h * 7 + 1, none⟩ = some (.int .i64 y.y) := hy 1 _ rfl
      have y2 : wr.cell? ⟨g, h * 7 + 2, none⟩ = some (.string y.path) := hy 2 _ rfl
      have y3 : wr.cell? ⟨g, h * 7 + 3, none⟩ = some (.string y.l.src) := hy 3 _ rfl
      have y4 : wr.cell? ⟨g, h * 7 + 4, none⟩ = some (.string y.l.msg) := hy 4 _ rfl
      have y5 : wr.cell? ⟨g, h * 7 + 5, none⟩ = some (.slice y.l.args.a y.l.args.n y.l.args.c) := hy 5 _ rfl
      have y6 : wr.cell? ⟨g, h * 7 + 6, none⟩ = some (.int .i64 y.l.sent) := hy 6 _ rfl
      clear hx hy hy1 hxg hr hy2
      cases hle : leF x y with
      | false =>
        have HQ : Hid (P1 x R m (h + 1) j) := Lib.hid ⟨by rw [show h + 1 - m = (h - m) + 1 by omega]; exact fun r hr => leF_lt_trans (srt_take HX.out.2.2.2 HY.out r hr) hle, HP.out.2⟩
        go_wp2_with fail
        go_region_held3 (fun w' => w'.cell? ⟨g, a * 7, none⟩ = some (.int .i64 x.x) ∧ w'.cell? ⟨g, a * 7 + 1, none⟩ = some (.int .i64 x.y) ∧ w'.cell? ⟨g, a * 7 + 2, none⟩ = some (.string x.path) ∧ w'.cell? ⟨g, a * 7 + 3, none⟩ = some (.string x.l.src) ∧ w'.cell? ⟨g, a * 7 + 4, none⟩ = some (.string x.l.msg) ∧ w'.cell? ⟨g, a * 7 + 5, none⟩ = some (.slice x.l.args.a x.l.args.n x.l.args.c) ∧ w'.cell? ⟨g, a * 7 + 6, none⟩ = some (.int .i64 x.l.sent) ∧ w'.cell? ⟨g, h * 7, none⟩ = some (.int .i64 y.x) ∧ w'.cell? ⟨g, h * 7 + 1, none⟩ = some (.int .i64 y.y) ∧ w'.cell? ⟨g, h * 7 + 2, none⟩ = some (.string y.path) ∧ w'.cell? ⟨g, h * 7 + 3, none⟩ = some (.string y.l.src) ∧ w'.cell? ⟨g, h * 7 + 4, none⟩ = some (.string y.l.msg) ∧ w'.cell? ⟨g, h * 7 + 5, none⟩ = some (.slice y.l.args.a y.l.args.n y.l.args.c) ∧ w'.cell? ⟨g, h * 7 + 6, none⟩ = some (.int .i64 y.l.sent)) (simp [go_sem, *])
          (first | (go_at_call 64; with_reducible refine (cmp64 y x _).mono ?_; intro e w1 hpo; unfold CmpPost at hpo; obtain ⟨r, he, hr0, h1⟩ := hpo; subst he; have z1 := h1.size; simp at z1; obtain ⟨k1, k2, k3⟩ := keepB h1 g (by simp; omega); have HR1 := Lib.hid (HR.out.drew.below h1); clear h1; rw [hle] at hr0; simp only [Bool.not_false] at hr0))
        go_wp2_with fail
        go_roundw
        case rel => exact ⟨h + 1, j, by go_num, rfl, by omega, by omega, hjb, HQ, HR1.out⟩
        case measure => simp [intOf]; omega
      | true =>
        have HQ : Hid (P1 x R m i h) := Lib.hid ⟨HP.out.1, fun r hr => leF_ok.trans _ _ _ hle (srt_drop HX.out.2.2.2 HY.out r hr)⟩
        go_wp2_with fail
        go_region_held3 (fun w' => w'.cell? ⟨g, a * 7, none⟩ = some (.int .i64 x.x) ∧ w'.cell? ⟨g, a * 7 + 1, none⟩ = some (.int .i64 x.y) ∧ w'.cell? ⟨g, a * 7 + 2, none⟩ = some (.string x.path) ∧ w'.cell? ⟨g, a * 7 + 3, none⟩ = some (.string x.l.src) ∧ w'.cell? ⟨g, a * 7 + 4, none⟩ = some (.string x.l.msg) ∧ w'.cell? ⟨g, a * 7 + 5, none⟩ = some (.slice x.l.args.a x.l.args.n x.l.args.c) ∧ w'.cell? ⟨g, a * 7 + 6, none⟩ = some (.int .i64 x.l.sent) ∧ w'.cell? ⟨g, h * 7, none⟩ = some (.int .i64 y.x) ∧ w'.cell? ⟨g, h * 7 + 1, none⟩ = some (.int .i64 y.y) ∧ w'.cell? ⟨g, h * 7 + 2, none⟩ = some (.string y.path) ∧ w'.cell? ⟨g, h * 7 + 3, none⟩ = some (.string y.l.src) ∧ w'.cell? ⟨g, h * 7 + 4, none⟩ = some (.string y.l.msg) ∧ w'.cell? ⟨g, h * 7 + 5, none⟩ = some (.slice y.l.args.a y.l.args.n y.l.args.c) ∧ w'.cell? ⟨g, h * 7 + 6, none⟩ = some (.int .i64 y.l.sent)) (simp [go_sem, *])
          (first | (go_at_call 64; with_reducible refine (cmp64 y x _).mono ?_; intro e w1 hpo; unfold CmpPost at hpo; obtain ⟨r, he, hr0, h1⟩ := hpo; subst he; have z1 := h1.size; simp at z1; obtain ⟨k1, k2, k3⟩ := keepB h1 g (by simp; omega); have HR1 := Lib.hid (HR.out.drew.below h1); clear h1; rw [hle] at hr0; simp only [Bool.not_true] at hr0))
        go_wp2_with fail
        go_roundw
        case rel => exact ⟨i, h, rfl, rfl, hmi, hih, by omega, HQ, HR1.out⟩
        case measure => simp [intOf]; omega
    · have hji : j = i := by omega
      subst hji
      obtain ⟨R1, hR1⟩ : ∃ R1, R1 = R.take (j - m) := ⟨_, rfl⟩
      obtain ⟨R2, hR2⟩ : ∃ R2, R2 = R.drop (j - m) := ⟨_, rfl⟩
      have hl1 : R1.length = j - m := by rw [hR1]; simp; have := HX.out; omega
      have e1 : St.mg leF [x] R = R1 ++ x :: R2 := by
        have := St.mg_left x R1 R2 (by rw [hR1]; exact HP.out.1) (fun r hr => HP.out.2 r (by rw [← hR2]; exact List.mem_of_mem_head? (by rw [hr]; rfl)))
        rw [hR1, hR2, List.take_append_drop] at this
        rw [this, hR1, hR2]
      have HE := Lib.hid e1
      have HL := Lib.hid hl1
      have HR : Hid (RowG w0 B g c n (A ++ x :: (R1 ++ (R2 ++ C))) wr) := Lib.hid (by
        have e : A ++ x :: (R1 ++ (R2 ++ C)) = A ++ [x] ++ R ++ C := by
          conv => rhs; rw [← List.take_append_drop (j - m) R, ← hR1, ← hR2]
          simp
        rw [e]; exact hr)
      clear hr hR1 hR2 hl1 e1 HP
      go_wp2_with fail
      go_loopw [13] (K1 w0 B g c n a j A R1 x (R2 ++ C)) (fun k _ => j - (intOf k).toNat)
      case atStart => exact ⟨a, rfl, Nat.le_refl _, by have := HX.out; omega, by simpa using HR.out⟩
      case round =>
        clear HR
        obtain ⟨k, rfl, hak, hki, hr⟩ := hrel
        by_cases hlt2 : k + 1 < j
        · obtain ⟨y, hy1, dy, ty⟩ := drop_at (l := R1) (k := k - a) (by have := HL.out; have := HX.out; omega)
          rw [dy] at hr
          have hr' : RowG w0 B g c n ((A ++ R1.take (k - a)) ++ x :: ([] ++ y :: (R1.drop (k - a + 1) ++ (R2 ++ C)))) wr := by simpa using hr
          obtain ⟨q, hq⟩ : ∃ q, q = k + 1 := ⟨_, rfl⟩
          have eq : IntKind.i64.wrap ((k : Int) + 1) = (q : Int) := by rw [IntWalk.i64_left, IntWalk.wrap64_in _ (by omega)]; omega
          have pU : k = (A ++ R1.take (k - a)).length := by have := HL.out; have := HX.out; simp; omega
          have qV : q = (A ++ R1.take (k - a)).length + 1 + ([] : List FlyC).length := by have := HL.out; have := HX.out; simp; omega
          obtain ⟨hx, hfr, hgs, -, hkn⟩ := hr'.at_ (i := k) (f := x) (by have h9 := get_mid (A ++ R1.take (k - a)) x ([] ++ y :: (R1.drop (k - a + 1) ++ (R2 ++ C))); rw [← pU] at h9; exact h9)
          obtain ⟨hy, -, -, -, hqn⟩ := hr'.at_ (i := q) (f := y) (by rw [qV]; exact get_mid2 _ _ _ _ _)
          have HS : Hid (K1 w0 B g c n a j A R1 x (R2 ++ C) (.int .i64 (q : Int)) (putFly (putFly wr g (k * 7) y) g (q * 7) x).drew) := Lib.hid ⟨q, rfl, by omega, by omega, by
            have h1 := (hr'.swap pU qV).drew
            rw [hq, show k + 1 - a = k - a + 1 by omega, ty]
            subst hq
            simpa using h1⟩
          have hkq : k < q := by omega
          have hqj : decide ((q : Int) < (j : Int)) = true := by simp; omega
          have t1 : decide ((k : Int) < IntKind.i64.wrap ((j : Int) - 1)) = true := by rw [IntWalk.i64_left, IntWalk.wrap64_in _ (by omega)]; simp; omega
          have t2 : (k : Int) < (j : Int) - 1 := by omega
          have x0 : wr.cell? ⟨g, k * 7, none⟩ = some (.int .i64 x.x) := hx 0 _ rfl
          have x1 : wr.cell? ⟨g, k * 7 + 1, none⟩ = some (.int .i64 x.y) := hx 1 _ rfl
          have x2 : wr.cell? ⟨g, k * 7 + 2, none⟩ = some (.string x.path) := hx 2 _ rfl
          have x3 : wr.cell? ⟨g, k * 7 + 3, none⟩ = some (.string x.l.src) := hx 3 _ rfl
          have x4 : wr.cell? ⟨g, k * 7 + 4, none⟩ = some (.string x.l.msg) := hx 4 _ rfl
          have x5 : wr.cell? ⟨g, k * 7 + 5, none⟩ = some (.slice x.l.args.a x.l.args.n x.l.args.c) := hx 5 _ rfl
          have x6 : wr.cell? ⟨g, k * 7 + 6, none⟩ = some (.int .i64 x.l.sent) := hx 6 _ rfl
          have y0 : wr.cell? ⟨g, q * 7, none⟩ = some (.int .i64 y.x) := hy 0 _ rfl
          have y1 : wr.cell? ⟨g, q * 7 + 1, none⟩ = some (.int .i64 y.y) := hy 1 _ rfl
          have y2 : wr.cell? ⟨g, q * 7 + 2, none⟩ = some (.string y.path) := hy 2 _ rfl
          have y3 : wr.cell? ⟨g, q * 7 + 3, none⟩ = some (.string y.l.src) := hy 3 _ rfl
          have y4 : wr.cell? ⟨g, q * 7 + 4, none⟩ = some (.string y.l.msg) := hy 4 _ rfl
          have y5 : wr.cell? ⟨g, q * 7 + 5, none⟩ = some (.slice y.l.args.a y.l.args.n y.l.args.c) := hy 5 _ rfl
          have y6 : wr.cell? ⟨g, q * 7 + 6, none⟩ = some (.int .i64 y.l.sent) := hy 6 _ rfl
          clear hx hy hy1 dy ty hr hr' pU qV hq
          go_wp2_with fail
          refine wp_region_held_drew (S := (fun _ => True)) (by kernel_rfl) ?_ (fun hHeld => ?_)
          · trivial
          refine wpAnyH_take (i := 0) (v := ?_) rfl (by kernel_rfl) (by kernel_rfl) (by kernel_rfl) (fun _ _ _ h => h) (Or.inl ⟨by rfl, ?_⟩) (by assumption) ?_
          rotate_left
          · intro w hSw; (try dsimp only at hSw); go_simp; (first | done | (with_reducible rfl))
          try simp only [Act.put, List.getElem_toArray, List.getElem_cons_succ, List.getElem_cons_zero, List.setIfInBounds_toArray, List.set_cons_zero, List.set_cons_succ]
          refine wpAnyH_take (i := 1) (v := ?_) rfl (by kernel_rfl) (by kernel_rfl) (by kernel_rfl) (fun _ _ _ h => h) (Or.inl ⟨by rfl, ?_⟩) (by assumption) ?_
          rotate_left
          · intro w hSw; (try dsimp only at hSw); go_simp; (first | done | (with_reducible rfl))
          try simp only [Act.put, List.getElem_toArray, List.getElem_cons_succ, List.getElem_cons_zero, List.setIfInBounds_toArray, List.set_cons_zero, List.set_cons_succ]
          refine wpAnyH_take (i := 2) (v := ?_) rfl (by kernel_rfl) (by kernel_rfl) (by kernel_rfl) (fun _ _ _ h => h) (Or.inl ⟨by rfl, ?_⟩) (by assumption) ?_
          rotate_left
          · intro w hSw; (try dsimp only at hSw); go_simp; (first | done | (with_reducible rfl))
          try simp only [Act.put, List.getElem_toArray, List.getElem_cons_succ, List.getElem_cons_zero, List.setIfInBounds_toArray, List.set_cons_zero, List.set_cons_succ]
          refine wpAnyH_take (i := 3) (v := ?_) rfl (by kernel_rfl) (by kernel_rfl) (by kernel_rfl) (fun _ _ _ h => h) (Or.inl ⟨by rfl, ?_⟩) (by assumption) ?_
          rotate_left
          · intro w hSw; (try dsimp only at hSw); go_simp; (first | done | (with_reducible rfl))
          try simp only [Act.put, List.getElem_toArray, List.getElem_cons_succ, List.getElem_cons_zero, List.setIfInBounds_toArray, List.set_cons_zero, List.set_cons_succ]
          refine wpAnyH_take (i := 4) (v := ?_) rfl (by kernel_rfl) (by kernel_rfl) (by kernel_rfl) (fun _ _ _ h => h) (Or.inl ⟨by rfl, ?_⟩) (by assumption) ?_
          rotate_left
          · intro w hSw; (try dsimp only at hSw); go_simp; (first | done | (with_reducible rfl))
          try simp only [Act.put, List.getElem_toArray, List.getElem_cons_succ, List.getElem_cons_zero, List.setIfInBounds_toArray, List.set_cons_zero, List.set_cons_succ]
          refine wpAnyH_take (i := 5) (v := ?_) rfl (by kernel_rfl) (by kernel_rfl) (by kernel_rfl) (fun _ _ _ h => h) (Or.inl ⟨by rfl, ?_⟩) (by assumption) ?_
          rotate_left
          · intro w hSw; (try dsimp only at hSw); go_simp; (first | done | (with_reducible rfl))
          try simp only [Act.put, List.getElem_toArray, List.getElem_cons_succ, List.getElem_cons_zero, List.setIfInBounds_toArray, List.set_cons_zero, List.set_cons_succ]
          refine wpAnyH_take (i := 6) (v := ?_) rfl (by kernel_rfl) (by kernel_rfl) (by kernel_rfl) (fun _ _ _ h => h) (Or.inl ⟨by rfl, ?_⟩) (by assumption) ?_
          rotate_left
          · intro w hSw; (try dsimp only at hSw); go_simp; (first | done | (with_reducible rfl))
          try simp only [Act.put, List.getElem_toArray, List.getElem_cons_succ, List.getElem_cons_zero, List.setIfInBounds_toArray, List.set_cons_zero, List.set_cons_succ]
          refine wpAnyH_take (i := 7) (v := ?_) rfl (by kernel_rfl) (by kernel_rfl) (by kernel_rfl) (fun _ _ _ h => h) (Or.inl ⟨by rfl, ?_⟩) (by assumption) ?_
          rotate_left
          · intro w hSw; (try dsimp only at hSw); go_simp; (first | done | (with_reducible rfl))
          try simp only [Act.put, List.getElem_toArray, List.getElem_cons_succ, List.getElem_cons_zero, List.setIfInBounds_toArray, List.set_cons_zero, List.set_cons_succ]
          refine wpAnyH_take (i := 8) (v := ?_) rfl (by kernel_rfl) (by kernel_rfl) (by kernel_rfl) (fun _ _ _ h => h) (Or.inl ⟨by rfl, ?_⟩) (by assumption) ?_
          rotate_left
          · intro w hSw; (try dsimp only at hSw); go_simp; (first | done | (with_reducible rfl))
          try simp only [Act.put, List.getElem_toArray, List.getElem_cons_succ, List.getElem_cons_zero, List.setIfInBounds_toArray, List.set_cons_zero, List.set_cons_succ]
          refine wpAnyH_take (i := 10) (v := ?_) rfl (by kernel_rfl) (by kernel_rfl) (by kernel_rfl) (fun _ _ _ h => h) (Or.inl ⟨by rfl, ?_⟩) (by assumption) ?_
          rotate_left
          · intro w hSw; (try dsimp only at hSw); go_simp; (first | done | (with_reducible rfl))
          try simp only [Act.put, List.getElem_toArray, List.getElem_cons_succ, List.getElem_cons_zero, List.setIfInBounds_toArray, List.set_cons_zero, List.set_cons_succ]
          refine wpAnyH_take (i := 11) (v := ?_) rfl (by kernel_rfl) (by kernel_rfl) (by kernel_rfl) (fun _ _ _ h => h) (Or.inl ⟨by rfl, ?_⟩) (by assumption) ?_
          rotate_left
          · intro w hSw; (try dsimp only at hSw); go_simp; (first | done | (with_reducible rfl))
          try simp only [Act.put, List.getElem_toArray, List.getElem_cons_succ, List.getElem_cons_zero, List.setIfInBounds_toArray, List.set_cons_zero, List.set_cons_succ]
          refine wpAnyH_take (i := 12) (v := ?_) rfl (by kernel_rfl) (by kernel_rfl) (by kernel_rfl) (fun _ _ _ h => h) (Or.inl ⟨by rfl, ?_⟩) (by assumption) ?_
          rotate_left
          · intro w hSw; (try dsimp only at hSw); go_simp; (first | done | (with_reducible rfl))
          try simp only [Act.put, List.getElem_toArray, List.getElem_cons_succ, List.getElem_cons_zero, List.setIfInBounds_toArray, List.set_cons_zero, List.set_cons_succ]
          refine wpAnyH_ready (rs := [9, 13]) (by kernel_rfl) (by simp) ?_
          refine AllReadyH.cons rfl (fun K hK => ?_) (AllReadyH.cons rfl (fun K hK => ?_) AllReadyH.nil)
          · go_simp
            refine hK.out _ _ ?_ (fun hHeld => ?_)
            · trivial
            clear hK K
            try simp only [Act.put, List.getElem_toArray, List.getElem_cons_succ, List.getElem_cons_zero, List.setIfInBounds_toArray, List.set_cons_zero, List.set_cons_succ]
            refine wpAnyH_ready (rs := [13]) (by kernel_rfl) (by simp) ?_
            refine AllReadyH.cons rfl (fun K hK => ?_) AllReadyH.nil
            go_simp
            refine hK.out _ _ ?_ (fun hHeld => ?_)
            · trivial
            clear hK K
            try simp only [Act.put, List.getElem_toArray, List.getElem_cons_succ, List.getElem_cons_zero, List.setIfInBounds_toArray, List.set_cons_zero, List.set_cons_succ]
            refine wpAnyH_take (i := 14) (v := ?_) rfl (by kernel_rfl) (by kernel_rfl) (by kernel_rfl) (fun _ _ _ h => h) (Or.inl ⟨by rfl, ?_⟩) (by assumption) ?_
            rotate_left
            · intro w hSw; (try dsimp only at hSw); go_simp; (first | done | (with_reducible rfl))
            try simp only [Act.put, List.getElem_toArray, List.getElem_cons_succ, List.getElem_cons_zero, List.setIfInBounds_toArray, List.set_cons_zero, List.set_cons_succ]
            refine wpAnyH_ready (rs := [15]) (by kernel_rfl) (by simp) ?_
            refine AllReadyH.cons rfl (fun K hK => ?_) AllReadyH.nil
            go_simp
            refine hK.out _ _ ?_ (fun hHeld => ?_)
            · trivial
            clear hK K
            try simp only [Act.put, List.getElem_toArray, List.getElem_cons_succ, List.getElem_cons_zero, List.setIfInBounds_toArray, List.set_cons_zero, List.set_cons_succ]
            refine wpAnyH_take (i := 16) (v := ?_) rfl (by kernel_rfl) (by kernel_rfl) (by kernel_rfl) (fun _ _ _ h => h) (Or.inl ⟨by rfl, ?_⟩) (by assumption) ?_
            rotate_left
            · intro w hSw; (try dsimp only at hSw); go_simp; (first | done | (with_reducible rfl))
            try simp only [Act.put, List.getElem_toArray, List.getElem_cons_succ, List.getElem_cons_zero, List.setIfInBounds_toArray, List.set_cons_zero, List.set_cons_succ]
            refine wpAnyH_ready (rs := [17]) (by kernel_rfl) (by simp) ?_
            refine AllReadyH.cons rfl (fun K hK => ?_) AllReadyH.nil
            go_simp
            refine hK.out _ _ ?_ (fun hHeld => ?_)
            · trivial
            clear hK K
            try simp only [Act.put, List.getElem_toArray, List.getElem_cons_succ, List.getElem_cons_zero, List.setIfInBounds_toArray, List.set_cons_zero, List.set_cons_succ]
            refine wpAnyH_done (by kernel_rfl) ?_ _
            go_wp2_with fail
            go_roundw
            case rel => exact HS.out
            case measure => simp [intOf]; omega
          · go_simp
            refine hK.out _ _ ?_ (fun hHeld => ?_)
            · trivial
            clear hK K
            try simp only [Act.put, List.getElem_toArray, List.getElem_cons_succ, List.getElem_cons_zero, List.setIfInBounds_toArray, List.set_cons_zero, List.set_cons_succ]
            refine wpAnyH_ready (rs := [9]) (by kernel_rfl) (by simp) ?_
            refine AllReadyH.cons rfl (fun K hK => ?_) AllReadyH.nil
            go_simp
            refine hK.out _ _ ?_ (fun hHeld => ?_)
            · trivial
            clear hK K
            try simp only [Act.put, List.getElem_toArray, List.getElem_cons_succ, List.getElem_cons_zero, List.setIfInBounds_toArray, List.set_cons_zero, List.set_cons_succ]
            refine wpAnyH_take (i := 14) (v := ?_) rfl (by kernel_rfl) (by kernel_rfl) (by kernel_rfl) (fun _ _ _ h => h) (Or.inl ⟨by rfl, ?_⟩) (by assumption) ?_
            rotate_left
            · intro w hSw; (try dsimp only at hSw); go_simp; (first | done | (with_reducible rfl))
            try simp only [Act.put, List.getElem_toArray, List.getElem_cons_succ, List.getElem_cons_zero, List.setIfInBounds_toArray, List.set_cons_zero, List.set_cons_succ]
            refine wpAnyH_ready (rs := [15]) (by kernel_rfl) (by simp) ?_
            refine AllReadyH.cons rfl (fun K hK => ?_) AllReadyH.nil
            go_simp
            refine hK.out _ _ ?_ (fun hHeld => ?_)
            · trivial
            clear hK K
            try simp only [Act.put, List.getElem_toArray, List.getElem_cons_succ, List.getElem_cons_zero, List.setIfInBounds_toArray, List.set_cons_zero, List.set_cons_succ]
            refine wpAnyH_take (i := 16) (v := ?_) rfl (by kernel_rfl) (by kernel_rfl) (by kernel_rfl) (fun _ _ _ h => h) (Or.inl ⟨by rfl, ?_⟩) (by assumption) ?_
            rotate_left
            · intro w hSw; (try dsimp only at hSw); go_simp; (first | done | (with_reducible rfl))
            try simp only [Act.put, List.getElem_toArray, List.getElem_cons_succ, List.getElem_cons_zero, List.setIfInBounds_toArray, List.set_cons_zero, List.set_cons_succ]
            refine wpAnyH_ready (rs := [17]) (by kernel_rfl) (by simp) ?_
            refine AllReadyH.cons rfl (fun K hK => ?_) AllReadyH.nil
            go_simp
            refine hK.out _ _ ?_ (fun hHeld => ?_)
            · trivial
            clear hK K
            try simp only [Act.put, List.getElem_toArray, List.getElem_cons_succ, List.getElem_cons_zero, List.setIfInBounds_toArray, List.set_cons_zero, List.set_cons_succ]
            refine wpAnyH_done (by kernel_rfl) ?_ _
            go_wp2_with fail
            go_roundw
            case rel => exact HS.out
            case measure => simp [intOf]; omega
        · have hkj : k + 1 = j := by omega
          have HF : Hid (RowG w0 B g c n (A ++ St.mg leF [x] R ++ C) wr) := Lib.hid (by
            have h1 := HL.out
            have h2 := HX.out
            rw [List.take_of_length_le (by omega), List.drop_eq_nil_of_le (by omega)] at hr
            rw [HE.out]
            simpa using hr)
          have t2 : ¬ (k : Int) < (j : Int) - 1 := by omega
          clear hr
          go_wp2_with fail
          (try simp only [Exit.inBlock, Exit.then])
          refine bodyPost_ret (results_none rfl _ _ _) rfl ?_
          exact ⟨rfl, by first | exact HF.out | (have h9 := HF.out; rw [List.append_assoc] at h9; exact h9)⟩

/-- one element on the right -/
def P2 (y : FlyC) (L : List FlyC) (a i j : Nat) : Prop := (∀ l ∈ L.take (i - a), leF l y = true) ∧ (∀ l ∈ L.drop (j - a), leF l y = false)
def K2 (w0 : World) (B g c n i : Nat) (A1 L2 : List FlyC) (y : FlyC) (C : List FlyC) (vk : Value) (wr : World) : Prop :=
  ∃ k : Nat, vk = .int .i64 (k : Int) ∧ i ≤ k ∧ k ≤ n ∧ Hid (k ≤ i + L2.length) ∧ RowG w0 B g c n (A1 ++ L2.take (k - i) ++ y :: (L2.drop (k - i) ++ C)) wr

set_option linter.unusedVariables false in
set_option linter.unusedSimpArgs false in
set_option maxRecDepth 100000 in
set_option maxHeartbeats 6400000 in
theorem sym_right (w0 : World) (g n c a m b B : Nat) (A L C : List FlyC) (y : FlyC) (w : World) (h : RowG w0 B g c n (A ++ L ++ [y] ++ C) w) (ha : A.length = a) (hm : a + L.length = m) (hb : m + 1 = b) (hL : 2 ≤ L.length) (hs : St.Srt leF L) (hn : n ≤ 1000000) :
    Calls Try.prog 104 #[.slice (some ⟨g, 0, none⟩) n c, .int .i64 a, .int .i64 m, .int .i64 b, cmpF] w fun e w' => e = .returned (.tuple #[]) ∧ RowG w0 B g c n (A ++ St.mg leF L [y] ++ C) w' := by
  have hbn : b ≤ n := by have := h.len; simp at this; omega
  have H := Lib.hid h
  have HX := Lib.hid (And.intro ha (And.intro hm (And.intro hb hs)))
  have ham : a + 2 ≤ m := by omega
  have hmb : m < b := by omega
  have t0 : (((m : Int) - (a : Int)) == 1) = false := by simp; omega
  have t1 : (((b : Int) - (m : Int)) == 1) = true := by simp; omega
  clear h ha hm hb hL hs
  go_enter Try.func104, Try.ntmps104
  go_wp2_with fail
  go_loopw [14, 15] (BsRel w0 B g c n a m (A ++ L ++ [y] ++ C) (P2 y L a)) (fun i j _ => (intOf j).toNat - (intOf i).toNat)
  case atStart => exact ⟨a, m, rfl, rfl, Nat.le_refl _, by omega, Nat.le_refl _, Lib.hid ⟨by simp, by rw [List.drop_eq_nil_of_le (by have := HX.out.2.1; omega)]; simp⟩, H.out⟩
  case round =>
    clear H
    obtain ⟨i, j, rfl, rfl, hmi, hij, hjb, HP, hr⟩ := hrel
    by_cases hlt : i < j
    · obtain ⟨h, hh⟩ : ∃ h, h = (i + j) / 2 := ⟨_, rfl⟩
      have hh2 : ((i : Int) + (j : Int)) / 2 = (h : Int) := by omega
      have hih : i ≤ h := by omega
      have hhj : h < j := by omega
      have hhn : h < n := by omega
      have hmn : m < n := by omega
      clear hh
      obtain ⟨x, hx1, hx2⟩ := get_left (A := A) (L := L) (R := [y]) (C := C) (i := h) (a := a) HX.out.1 (by omega) (by have := HX.out; omega)
      have hyg : (A ++ L ++ [y] ++ C)[m]? = some y := by
        have h9 := get_mid (A ++ L) y C
        rw [show (A ++ L).length = m by have := HX.out; simp; omega] at h9
        simpa using h9
      obtain ⟨hx, hfr, hgs, -, -⟩ := hr.at_ hx1
      obtain ⟨hy, -, -, -, -⟩ := hr.at_ hyg
      have HR := Lib.hid hr
      have HY := Lib.hid hx2
      have x0 : wr.cell? ⟨g, h * 7, none⟩ = some (.int .i64 x.x) := hx 0 _ rfl
      have x1 : wr.cell? ⟨g, h * 7 + 1, none⟩ = some (.int .i64 x.y) := hx 1 _ rfl
      have x2 : wr.cell? ⟨g, h * 7 + 2, none⟩ = some (.string x.path) := hx 2 _ rfl
      have x3 : wr.cell? ⟨g, h * 7 + 3, none⟩ = some (.string x.l.src) := hx 3 _ rfl
      have x4 : wr.cell? ⟨g, h * 7 + 4, none⟩ = some (.string x.l.msg) := hx 4 _ rfl
      have x5 : wr.cell? ⟨g, h * 7 + 5, none⟩ = some (.slice x.l.args.a x.l.args.n x.l.args.c) := hx 5 _ rfl
      have x6 : wr.cell? ⟨g, h * 7 + 6, none⟩ = some (.int .i64 x.l.sent) := hx 6 _ rfl
      have y0 : wr.cell? ⟨g, m * 7, none⟩ = some (.int .i64 y.x) := hy 0 _ rfl
      have y1 : wr.cell? ⟨g, m * 7 + 1, none⟩ = some (.int .i64 y.y) := hy 1 _ rfl
      have y2 : wr.cell? ⟨g, m * 7 + 2, none⟩ = some (.string y.path) := hy 2 _ rfl
      have y3 : wr.cell? ⟨g, m * 7 + 3, none⟩ = some (.string y.l.src) := hy 3 _ rfl
      have y4 : wr.cell? ⟨g, m * 7 + 4, none⟩ = some (.string y.l.msg) := hy 4 _ rfl
      have y5 : wr.cell? ⟨g, m * 7 + 5, none⟩ = some (.slice y.l.args.a y.l.args.n y.l.args.c) := hy 5 _ rfl
      have y6 : wr.cell? ⟨g, m * 7 + 6, none⟩ = some (.int .i64 y.l.sent) := hy 6 _ rfl
      clear hx hy hx1 hyg hr hx2
      cases hle : leF x y with
      | true =>
        have HQ : Hid (P2 y L a (h + 1) j) := Lib.hid ⟨by rw [show h + 1 - a = (h - a) + 1 by omega]; exact fun r hr => leF_ok.trans _ _ _ (srt_take HX.out.2.2.2 HY.out r hr) hle, HP.out.2⟩
        go_wp2_with fail
        go_region_held3 (fun w' => w'.cell? ⟨g, h * 7, none⟩ = some (.int .i64 x.x) ∧ w'.cell? ⟨g, h * 7 + 1, none⟩ = some (.int .i64 x.y) ∧ w'.cell? ⟨g, h * 7 + 2, none⟩ = some (.string x.path) ∧ w'.cell? ⟨g, h * 7 + 3, none⟩ = some (.string x.l.src) ∧ w'.cell? ⟨g, h * 7 + 4, none⟩ = some (.string x.l.msg) ∧ w'.cell? ⟨g, h * 7 + 5, none⟩ = some (.slice x.l.args.a x.l.args.n x.l.args.c) ∧ w'.cell? ⟨g, h * 7 + 6, none⟩ = some (.int .i64 x.l.sent) ∧ w'.cell? ⟨g, m * 7, none⟩ = some (.int .i64 y.x) ∧ w'.cell? ⟨g, m * 7 + 1, none⟩ = some (.int .i64 y.y) ∧ w'.cell? ⟨g, m * 7 + 2, none⟩ = some (.string y.path) ∧ w'.cell? ⟨g, m * 7 + 3, none⟩ = some (.string y.l.src) ∧ w'.cell? ⟨g, m * 7 + 4, none⟩ = some (.string y.l.msg) ∧ w'.cell? ⟨g, m * 7 + 5, none⟩ = some (.slice y.l.args.a y.l.args.n y.l.args.c) ∧ w'.cell? ⟨g, m * 7 + 6, none⟩ = some (.int .i64 y.l.sent)) (simp [go_sem, *])
          (first | (go_at_call 64; with_reducible refine (cmp64 y x _).mono ?_; intro e w1 hpo; unfold CmpPost at hpo; obtain ⟨r, he, hr0, h1⟩ := hpo; subst he; have z1 := h1.size; simp at z1; obtain ⟨k1, k2, k3⟩ := keepB h1 g (by simp; omega); have HR1 := Lib.hid (HR.out.drew.below h1); clear h1; rw [hle] at hr0; simp only [Bool.not_true] at hr0))
        go_wp2_with fail
        go_roundw
        case rel => exact ⟨h + 1, j, by go_num, rfl, by omega, by omega, hjb, HQ, HR1.out⟩
        case measure => simp [intOf]; omega
      | false =>
        have HQ : Hid (P2 y L a i h) := Lib.hid ⟨HP.out.1, fun r hr => leF_lt_trans' (srt_drop HX.out.2.2.2 HY.out r hr) hle⟩
        go_wp2_with fail
        go_region_held3 (fun w' => w'.cell? ⟨g, h * 7, none⟩ = some (.int .i64 x.x) ∧ w'.cell? ⟨g, h * 7 + 1, none⟩ = some (.int .i64 x.y) ∧ w'.cell? ⟨g, h * 7 + 2, none⟩ = some (.string x.path) ∧ w'.cell? ⟨g, h * 7 + 3, none⟩ = some (.string x.l.src) ∧ w'.cell? ⟨g, h * 7 + 4, none⟩ = some (.string x.l.msg) ∧ w'.cell? ⟨g, h * 7 + 5, none⟩ = some (.slice x.l.args.a x.l.args.n x.l.args.c) ∧ w'.cell? ⟨g, h * 7 + 6, none⟩ = some (.int .i64 x.l.sent) ∧ w'.cell? ⟨g, m * 7, none⟩ = some (.int .i64 y.x) ∧ w'.cell? ⟨g, m * 7 + 1, none⟩ = some (.int .i64 y.y) ∧ w'.cell? ⟨g, m * 7 + 2, none⟩ = some (.string y.path) ∧ w'.cell? ⟨g, m * 7 + 3, none⟩ = some (.string y.l.src) ∧ w'.cell? ⟨g, m * 7 + 4, none⟩ = some (.string y.l.msg) ∧ w'.cell? ⟨g, m * 7 + 5, none⟩ = some (.slice y.l.args.a y.l.args.n y.l.args.c) ∧ w'.cell? ⟨g, m * 7 + 6, none⟩ = some (.int .i64 y.l.sent)) (simp [go_sem, *])
          (first | (go_at_call 64; with_reducible refine (cmp64 y x _).mono ?_; intro e w1 hpo; unfold CmpPost at hpo; obtain ⟨r, he, hr0, h1⟩ := hpo; subst he; have z1 := h1.size; simp at z1; obtain ⟨k1, k2, k3⟩ := keepB h1 g (by simp; omega); have HR1 := Lib.hid (HR.out.drew.below h1); clear h1; rw [hle] at hr0; simp only [Bool.not_false] at hr0))
        go_wp2_with fail
        go_roundw
        case rel => exact ⟨i, h, rfl, rfl, hmi, hih, by omega, HQ, HR1.out⟩
        case measure => simp [intOf]; omega
    · have hji : j = i := by omega
      subst hji
      obtain ⟨L1, hL1⟩ : ∃ L1, L1 = L.take (j - a) := ⟨_, rfl⟩
      obtain ⟨L2, hL2⟩ : ∃ L2, L2 = L.drop (j - a) := ⟨_, rfl⟩
      have hl1 : L1.length = j - a ∧ L2.length = m - j := by rw [hL1, hL2]; simp; have := HX.out; omega
      have e1 : St.mg leF L [y] = L1 ++ y :: L2 := by
        have := St.mg_right y L1 L2 (by rw [hL1]; exact HP.out.1) (fun r hr => HP.out.2 r (by rw [← hL2]; exact List.mem_of_mem_head? (by rw [hr]; rfl)))
        rw [hL1, hL2, List.take_append_drop] at this
        rw [this, hL1, hL2]
      have HE := Lib.hid e1
      have HL := Lib.hid hl1
      have HR : Hid (RowG w0 B g c n ((A ++ L1) ++ L2 ++ y :: C) wr) := Lib.hid (by
        have e : (A ++ L1) ++ L2 ++ y :: C = A ++ L ++ [y] ++ C := by
          conv => rhs; rw [← List.take_append_drop (j - a) L, ← hL1, ← hL2]
          simp
        rw [e]; exact hr)
      clear hr hL1 hL2 hl1 e1 HP
      go_wp2_with fail
      go_loopw [17] (K2 w0 B g c n j (A ++ L1) L2 y C) (fun k _ => (intOf k).toNat)
      case atStart => exact ⟨m, rfl, by omega, by omega, Lib.hid (by have := HL.out; omega), by have := HL.out; rw [List.take_of_length_le (by omega), List.drop_eq_nil_of_le (by omega)]; simpa using HR.out⟩
      case round =>
        clear HR
        obtain ⟨k, rfl, hak, hkn, HK, hr⟩ := hrel
        by_cases hlt2 : j < k
        · obtain ⟨x, hx1, dx, tx⟩ := drop_at (l := L2) (k := k - j - 1) (by have := HL.out; have := HK.out; omega)
          rw [show k - j - 1 + 1 = k - j by omega] at dx tx
          rw [tx] at hr
          have hr' : RowG w0 B g c n ((A ++ L1 ++ L2.take (k - j - 1)) ++ x :: ([] ++ y :: (L2.drop (k - j) ++ C))) wr := by simpa using hr
          obtain ⟨q, hq⟩ : ∃ q, q = k - 1 := ⟨_, rfl⟩
          have eq : IntKind.i64.wrap ((k : Int) - 1) = (q : Int) := by rw [IntWalk.i64_left, IntWalk.wrap64_in _ (by omega)]; omega
          have qU : q = (A ++ L1 ++ L2.take (k - j - 1)).length := by have := HL.out; have := HX.out; have := HK.out; simp; omega
          have kV : k = (A ++ L1 ++ L2.take (k - j - 1)).length + 1 + ([] : List FlyC).length := by have := HL.out; have := HX.out; have := HK.out; simp; omega
          obtain ⟨hx, hfr, hgs, -, hqn⟩ := hr'.at_ (i := q) (f := x) (by rw [qU]; exact get_mid _ _ _)
          obtain ⟨hy, -, -, -, hkn2⟩ := hr'.at_ (i := k) (f := y) (by have h9 := get_mid2 (A ++ L1 ++ L2.take (k - j - 1)) x y [] (L2.drop (k - j) ++ C); rw [← kV] at h9; exact h9)
          have HS : Hid (K2 w0 B g c n j (A ++ L1) L2 y C (.int .i64 (q : Int)) (putFly (putFly wr g (k * 7) x) g (q * 7) y).drew) := Lib.hid ⟨q, rfl, by omega, by omega, Lib.hid (by have := HK.out; omega), by
            have h1 := (hr'.swap' qU kV).drew
            rw [show q - j = k - j - 1 by omega, dx]
            simpa using h1⟩
          have hkq : q < k := by omega
          have x0 : wr.cell? ⟨g, q * 7, none⟩ = some (.int .i64 x.x) := hx 0 _ rfl
          have x1 : wr.cell? ⟨g, q * 7 + 1, none⟩ = some (.int .i64 x.y) := hx 1 _ rfl
          have x2 : wr.cell? ⟨g, q * 7 + 2, none⟩ = some (.string x.path) := hx 2 _ rfl
          have x3 : wr.cell? ⟨g, q * 7 + 3, none⟩ = some (.string x.l.src) := hx 3 _ rfl
          have x4 : wr.cell? ⟨g, q * 7 + 4, none⟩ = some (.string x.l.msg) := hx 4 _ rfl
          have x5 : wr.cell? ⟨g, q * 7 + 5, none⟩ = some (.slice x.l.args.a x.l.args.n x.l.args.c) := hx 5 _ rfl
          have x6 : wr.cell? ⟨g, q * 7 + 6, none⟩ = some (.int .i64 x.l.sent) := hx 6 _ rfl
          have y0 : wr.cell? ⟨g, k * 7, none⟩ = some (.int .i64 y.x) := hy 0 _ rfl
          have y1 : wr.cell? ⟨g, k * 7 + 1, none⟩ = some (.int .i64 y.y) := hy 1 _ rfl
          have y2 : wr.cell? ⟨g, k * 7 + 2, none⟩ = some (.string y.path) := hy 2 _ rfl
          have y3 : wr.cell? ⟨g, k * 7 + 3, none⟩ = some (.string y.l.src) := hy 3 _ rfl
          have y4 : wr.cell? ⟨g, k * 7 + 4, none⟩ = some (.string y.l.msg) := hy 4 _ rfl
          have y5 : wr.cell? ⟨g, k * 7 + 5, none⟩ = some (.slice y.l.args.a y.l.args.n y.l.args.c) := hy 5 _ rfl
          have y6 : wr.cell? ⟨g, k * 7 + 6, none⟩ = some (.int .i64 y.l.sent) := hy 6 _ rfl
          clear hx hy hx1 dx tx hr hr' qU kV hq
          go_wp2_with fail
          refine wp_region_held_drew (S := (fun _ => True)) (by kernel_rfl) ?_ (fun hHeld => ?_)
          · trivial
          refine wpAnyH_take (i := 0) (v := ?_) rfl (by kernel_rfl) (by kernel_rfl) (by kernel_rfl) (fun _ _ _ h => h) (Or.inl ⟨by rfl, ?_⟩) (by assumption) ?_
          rotate_left
          · intro w hSw; (try dsimp only at hSw); go_simp; (first | done | (with_reducible rfl))
          try simp only [Act.put, List.getElem_toArray, List.getElem_cons_succ, List.getElem_cons_zero, List.setIfInBounds_toArray, List.set_cons_zero, List.set_cons_succ]
          refine wpAnyH_take (i := 1) (v := ?_) rfl (by kernel_rfl) (by kernel_rfl) (by kernel_rfl) (fun _ _ _ h => h) (Or.inl ⟨by rfl, ?_⟩) (by assumption) ?_
          rotate_left
          · intro w hSw; (try dsimp only at hSw); go_simp; (first | done | (with_reducible rfl))
          try simp only [Act.put, List.getElem_toArray, List.getElem_cons_succ, List.getElem_cons_zero, List.setIfInBounds_toArray, List.set_cons_zero, List.set_cons_succ]
          refine wpAnyH_take (i := 2) (v := ?_) rfl (by kernel_rfl) (by kernel_rfl) (by kernel_rfl) (fun _ _ _ h => h) (Or.inl ⟨by rfl, ?_⟩) (by assumption) ?_
          rotate_left
          · intro w hSw; (try dsimp only at hSw); go_simp; (first | done | (with_reducible rfl))
          try simp only [Act.put, List.getElem_toArray, List.getElem_cons_succ, List.getElem_cons_zero, List.setIfInBounds_toArray, List.set_cons_zero, List.set_cons_succ]
          refine wpAnyH_take (i := 3) (v := ?_) rfl (by kernel_rfl) (by kernel_rfl) (by kernel_rfl) (fun _ _ _ h => h) (Or.inl ⟨by rfl, ?_⟩) (by assumption) ?_
          rotate_left
          · intro w hSw; (try dsimp only at hSw); go_simp; (first | done | (with_reducible rfl))
          try simp only [Act.put, List.getElem_toArray, List.getElem_cons_succ, List.getElem_cons_zero, List.setIfInBounds_toArray, List.set_cons_zero, List.set_cons_succ]
          refine wpAnyH_take (i := 4) (v := ?_) rfl (by kernel_rfl) (by kernel_rfl) (by kernel_rfl) (fun _ _ _ h => h) (Or.inl ⟨by rfl, ?_⟩) (by assumption) ?_
          rotate_left
          · intro w hSw; (try dsimp only at hSw); go_simp; (first | done | (with_reducible rfl))
          try simp only [Act.put, List.getElem_toArray, List.getElem_cons_succ, List.getElem_cons_zero, List.setIfInBounds_toArray, List.set_cons_zero, List.set_cons_succ]
          refine wpAnyH_take (i := 5) (v := ?_) rfl (by kernel_rfl) (by kernel_rfl) (by kernel_rfl) (fun _ _ _ h => h) (Or.inl ⟨by rfl, ?_⟩) (by assumption) ?_
          rotate_left
          · intro w hSw; (try dsimp only at hSw); go_simp; (first | done | (with_reducible rfl))
          try simp only [Act.put, List.getElem_toArray, List.getElem_cons_succ, List.getElem_cons_zero, List.setIfInBounds_toArray, List.set_cons_zero, List.set_cons_succ]
          refine wpAnyH_take (i := 6) (v := ?_) rfl (by kernel_rfl) (by kernel_rfl) (by kernel_rfl) (fun _ _ _ h => h) (Or.inl ⟨by rfl, ?_⟩) (by assumption) ?_
          rotate_left
          · intro w hSw; (try dsimp only at hSw); go_simp; (first | done | (with_reducible rfl))
          try simp only [Act.put, List.getElem_toArray, List.getElem_cons_succ, List.getElem_cons_zero, List.setIfInBounds_toArray, List.set_cons_zero, List.set_cons_succ]
          refine wpAnyH_take (i := 7) (v := ?_) rfl (by kernel_rfl) (by kernel_rfl) (by kernel_rfl) (fun _ _ _ h => h) (Or.inl ⟨by rfl, ?_⟩) (by assumption) ?_
          rotate_left
          · intro w hSw; (try dsimp only at hSw); go_simp; (first | done | (with_reducible rfl))
          try simp only [Act.put, List.getElem_toArray, List.getElem_cons_succ, List.getElem_cons_zero, List.setIfInBounds_toArray, List.set_cons_zero, List.set_cons_succ]
          refine wpAnyH_take (i := 8) (v := ?_) rfl (by kernel_rfl) (by kernel_rfl) (by kernel_rfl) (fun _ _ _ h => h) (Or.inl ⟨by rfl, ?_⟩) (by assumption) ?_
          rotate_left
          · intro w hSw; (try dsimp only at hSw); go_simp; (first | done | (with_reducible rfl))
          try simp only [Act.put, List.getElem_toArray, List.getElem_cons_succ, List.getElem_cons_zero, List.setIfInBounds_toArray, List.set_cons_zero, List.set_cons_succ]
          refine wpAnyH_take (i := 10) (v := ?_) rfl (by kernel_rfl) (by kernel_rfl) (by kernel_rfl) (fun _ _ _ h => h) (Or.inl ⟨by rfl, ?_⟩) (by assumption) ?_
          rotate_left
          · intro w hSw; (try dsimp only at hSw); go_simp; (first | done | (with_reducible rfl))
          try simp only [Act.put, List.getElem_toArray, List.getElem_cons_succ, List.getElem_cons_zero, List.setIfInBounds_toArray, List.set_cons_zero, List.set_cons_succ]
          refine wpAnyH_take (i := 11) (v := ?_) rfl (by kernel_rfl) (by kernel_rfl) (by kernel_rfl) (fun _ _ _ h => h) (Or.inl ⟨by rfl, ?_⟩) (by assumption) ?_
          rotate_left
          · intro w hSw; (try dsimp only at hSw); go_simp; (first | done | (with_reducible rfl))
          try simp only [Act.put, List.getElem_toArray, List.getElem_cons_succ, List.getElem_cons_zero, List.setIfInBounds_toArray, List.set_cons_zero, List.set_cons_succ]
          refine wpAnyH_take (i := 12) (v := ?_) rfl (by kernel_rfl) (by kernel_rfl) (by kernel_rfl) (fun _ _ _ h => h) (Or.inl ⟨by rfl, ?_⟩) (by assumption) ?_
          rotate_left
          · intro w hSw; (try dsimp only at hSw); go_simp; (first | done | (with_reducible rfl))
          try simp only [Act.put, List.getElem_toArray, List.getElem_cons_succ, List.getElem_cons_zero, List.setIfInBounds_toArray, List.set_cons_zero, List.set_cons_succ]
          refine wpAnyH_ready (rs := [9, 13]) (by kernel_rfl) (by simp) ?_
          refine AllReadyH.cons rfl (fun K hK => ?_) (AllReadyH.cons rfl (fun K hK => ?_) AllReadyH.nil)
          · go_simp
            refine hK.out _ _ ?_ (fun hHeld => ?_)
            · trivial
            clear hK K
            try simp only [Act.put, List.getElem_toArray, List.getElem_cons_succ, List.getElem_cons_zero, List.setIfInBounds_toArray, List.set_cons_zero, List.set_cons_succ]
            refine wpAnyH_ready (rs := [13]) (by kernel_rfl) (by simp) ?_
            refine AllReadyH.cons rfl (fun K hK => ?_) AllReadyH.nil
            go_simp
            refine hK.out _ _ ?_ (fun hHeld => ?_)
            · trivial
            clear hK K
            try simp only [Act.put, List.getElem_toArray, List.getElem_cons_succ, List.getElem_cons_zero, List.setIfInBounds_toArray, List.set_cons_zero, List.set_cons_succ]
            refine wpAnyH_take (i := 14) (v := ?_) rfl (by kernel_rfl) (by kernel_rfl) (by kernel_rfl) (fun _ _ _ h => h) (Or.inl ⟨by rfl, ?_⟩) (by assumption) ?_
            rotate_left
            · intro w hSw; (try dsimp only at hSw); go_simp; (first | done | (with_reducible rfl))
            try simp only [Act.put, List.getElem_toArray, List.getElem_cons_succ, List.getElem_cons_zero, List.setIfInBounds_toArray, List.set_cons_zero, List.set_cons_succ]
            refine wpAnyH_ready (rs := [15]) (by kernel_rfl) (by simp) ?_
            refine AllReadyH.cons rfl (fun K hK => ?_) AllReadyH.nil
            go_simp
            refine hK.out _ _ ?_ (fun hHeld => ?_)
            · trivial
            clear hK K
            try simp only [Act.put, List.getElem_toArray, List.getElem_cons_succ, List.getElem_cons_zero, List.setIfInBounds_toArray, List.set_cons_zero, List.set_cons_succ]
            refine wpAnyH_take (i := 16) (v := ?_) rfl (by kernel_rfl) (by kernel_rfl) (by kernel_rfl) (fun _ _ _ h => h) (Or.inl ⟨by rfl, ?_⟩) (by assumption) ?_
            rotate_left
            · intro w hSw; (try dsimp only at hSw); go_simp; (first | done | (with_reducible rfl))
            try simp only [Act.put, List.getElem_toArray, List.getElem_cons_succ, List.getElem_cons_zero, List.setIfInBounds_toArray, List.set_cons_zero, List.set_cons_succ]
            refine wpAnyH_ready (rs := [17]) (by kernel_rfl) (by simp) ?_
            refine AllReadyH.cons rfl (fun K hK => ?_) AllReadyH.nil
            go_simp
            refine hK.out _ _ ?_ (fun hHeld => ?_)
            · trivial
            clear hK K
            try simp only [Act.put, List.getElem_toArray, List.getElem_cons_succ, List.getElem_cons_zero, List.setIfInBounds_toArray, List.set_cons_zero, List.set_cons_succ]
            refine wpAnyH_done (by kernel_rfl) ?_ _
            go_wp2_with fail
            go_roundw
            case rel => exact HS.out
            case measure => simp [intOf]; omega
          · go_simp
            refine hK.out _ _ ?_ (fun hHeld => ?_)
            · trivial
            clear hK K
            try simp only [Act.put, List.getElem_toArray, List.getElem_cons_succ, List.getElem_cons_zero, List.setIfInBounds_toArray, List.set_cons_zero, List.set_cons_succ]
            refine wpAnyH_ready (rs := [9]) (by kernel_rfl) (by simp) ?_
            refine AllReadyH.cons rfl (fun K hK => ?_) AllReadyH.nil
            go_simp
            refine hK.out _ _ ?_ (fun hHeld => ?_)
            · trivial
            clear hK K
            try simp only [Act.put, List.getElem_toArray, List.getElem_cons_succ, List.getElem_cons_zero, List.setIfInBounds_toArray, List.set_cons_zero, List.set_cons_succ]
            refine wpAnyH_take (i := 14) (v := ?_) rfl (by kernel_rfl) (by kernel_rfl) (by kernel_rfl) (fun _ _ _ h => h) (Or.inl ⟨by rfl, ?_⟩) (by assumption) ?_
            rotate_left
            · intro w hSw; (try dsimp only at hSw); go_simp; (first | done | (with_reducible rfl))
            try simp only [Act.put, List.getElem_toArray, List.getElem_cons_succ, List.getElem_cons_zero, List.setIfInBounds_toArray, List.set_cons_zero, List.set_cons_succ]
            refine wpAnyH_ready (rs := [15]) (by kernel_rfl) (by simp) ?_
            refine AllReadyH.cons rfl (fun K hK => ?_) AllReadyH.nil
            go_simp
            refine hK.out _ _ ?_ (fun hHeld => ?_)
            · trivial
            clear hK K
            try simp only [Act.put, List.getElem_toArray, List.getElem_cons_succ, List.getElem_cons_zero, List.setIfInBounds_toArray, List.set_cons_zero, List.set_cons_succ]
            refine wpAnyH_take (i := 16) (v := ?_) rfl (by kernel_rfl) (by kernel_rfl) (by kernel_rfl) (fun _ _ _ h => h) (Or.inl ⟨by rfl, ?_⟩) (by assumption) ?_
            rotate_left
            · intro w hSw; (try dsimp only at hSw); go_simp; (first | done | (with_reducible rfl))
            try simp only [Act.put, List.getElem_toArray, List.getElem_cons_succ, List.getElem_cons_zero, List.setIfInBounds_toArray, List.set_cons_zero, List.set_cons_succ]
            refine wpAnyH_ready (rs := [17]) (by kernel_rfl) (by simp) ?_
            refine AllReadyH.cons rfl (fun K hK => ?_) AllReadyH.nil
            go_simp
            refine hK.out _ _ ?_ (fun hHeld => ?_)
            · trivial
            clear hK K
            try simp only [Act.put, List.getElem_toArray, List.getElem_cons_succ, List.getElem_cons_zero, List.setIfInBounds_toArray, List.set_cons_zero, List.set_cons_succ]
            refine wpAnyH_done (by kernel_rfl) ?_ _
            go_wp2_with fail
            go_roundw
            case rel => exact HS.out
            case measure => simp [intOf]; omega
        · have hkj : k = j := by omega
          have HF : Hid (RowG w0 B g c n (A ++ St.mg leF L [y] ++ C) wr) := Lib.hid (by
            rw [show k - j = 0 by omega] at hr
            rw [HE.out]
            simpa using hr)
          clear hr
          go_wp2_with fail
          (try simp only [Exit.inBlock, Exit.then])
          refine bodyPost_ret (results_none rfl _ _ _) rfl ?_
          exact ⟨rfl, by first | exact HF.out | (have h9 := HF.out; rw [List.append_assoc] at h9; exact h9)⟩
end Go.Proofs.Ytjdjfjokniingaa
