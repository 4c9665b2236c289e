/- slices.stableCmpFunc and SortStableFunc on a row of alarms. -/
import Derived.Test.YtjdjfjokniingaaTe
import Derived.Test.YtjdjfjokniingaaTf
namespace Go.Proofs.Ytjdjfjokniingaa
open Go.RowKit

theorem sym_ok (w0 : World) (g n c B : Nat) (hn : n ≤ 1000000) : ∀ k, SymOk w0 g n c B k
  | 0 => fun a m b A L R C w hk _ _ _ _ h1 h2 _ _ => by omega
  | k + 1 => fun a m b A L R C w hk h ha hm hb h1 h2 hsL hsR => by
    rcases Nat.lt_or_ge L.length 2 with hL | hL
    · obtain ⟨x, rfl⟩ : ∃ x, L = [x] := List.length_eq_one_iff.1 (by omega)
      exact sym_left w0 g n c a m b B A R C x w h ha (by simpa using hm) hb h2 hsR hn
    · rcases Nat.lt_or_ge R.length 2 with hR | hR
      · obtain ⟨y, rfl⟩ : ∃ y, R = [y] := List.length_eq_one_iff.1 (by omega)
        exact sym_right w0 g n c a m b B A L C y w h ha hm (by simpa using hb) hL hsL hn
      · exact sym_many w0 g n c a m b B k A L R C w (sym_ok w0 g n c B hn k) hk h ha hm hb hL hR hsL hsR hn
theorem sym104 (w0 : World) (g n c B a m b : Nat) (A L R C : List FlyC) (w : World) (h : RowG w0 B g c n (A ++ L ++ R ++ C) w) (ha : A.length = a) (hm : a + L.length = m) (hb : m + R.length = b) (h1 : 0 < L.length) (h2 : 0 < R.length) (hsL : St.Srt leF L) (hsR : St.Srt leF R) (hn : n ≤ 1000000) :
    Calls Try.prog 104 #[.slice (some ⟨g, 0, none⟩) n c, .int .i64 a, .int .i64 m, .int .i64 b, cmpF] w fun e w' => e = .returned (.tuple #[]) ∧ RowG w0 B g c n (A ++ St.mg leF L R ++ C) w' :=
  sym_ok w0 g n c B hn _ a m b A L R C w (Nat.le_refl _) h ha hm hb h1 h2 hsL hsR

/-- the first loop: t blocks of 20 are sorted -/
def S1 (w0 : World) (B g c n : Nat) (X : List FlyC) (va vb : Value) (wr : World) : Prop :=
  ∃ a b t : Nat, va = .int .i64 (a : Int) ∧ vb = .int .i64 (b : Int) ∧ b = a + 20 ∧ a ≤ n ∧ Hid (a = t * 20) ∧ RowG w0 B g c n (St.pb leF 20 t X ++ X.drop a) wr
/-- the outer loop of the merges: the blocks of bs elements are sorted -/
def S2 (w0 : World) (B g c n : Nat) (X : List FlyC) (_ _ vs : Value) (wr : World) : Prop :=
  ∃ bs t : Nat, vs = .int .i64 (bs : Int) ∧ 20 ≤ bs ∧ bs ≤ 2 * n + 20 ∧ Hid (n ≤ t * bs) ∧ RowG w0 B g c n (St.pb leF bs t X) wr
/-- the inner one: u blocks of 2 bs elements are sorted -/
def S3 (w0 : World) (B g c n bs : Nat) (X : List FlyC) (va vb : Value) (wr : World) : Prop :=
  ∃ a b u r : Nat, va = .int .i64 (a : Int) ∧ vb = .int .i64 (b : Int) ∧ b = a + 2 * bs ∧ a ≤ n ∧ Hid (a = u * (2 * bs) ∧ n ≤ a + r * bs) ∧ RowG w0 B g c n (St.pb leF (2 * bs) u X ++ St.pb leF bs r (X.drop a)) wr
theorem s1_row {w0 : World} {B g c n a t : Nat} {X : List FlyC} {W : World} (h : RowG w0 B g c n (St.pb leF 20 t X ++ X.drop a) W) : RowG w0 B g c n (St.pb leF 20 t X ++ (X.drop a).take 20 ++ X.drop (a + 20)) W := by
  rw [List.append_assoc, ← St.cut_at]; exact h
theorem s3_calls {w0 : World} {B g c n bs a b u r : Nat} {X : List FlyC} (hX : X.length = n) (hn : n ≤ 1000000) (hbs : 0 < bs) (hb : b = a + 2 * bs) (ha : a = u * (2 * bs)) (hbn : b ≤ n) (hr : n ≤ a + r * bs) (W : World) (h : RowG w0 B g c n (St.pb leF (2 * bs) u X ++ St.pb leF bs r (X.drop a)) W) :
    Calls Try.prog 104 #[.slice (some ⟨g, 0, none⟩) n c, .int .i64 a, .int .i64 ((a + bs : Nat) : Int), .int .i64 b, cmpF] W fun e w' => e = .returned (.tuple #[]) ∧ RowG w0 B g c n (St.pb leF (2 * bs) (u + 1) X ++ St.pb leF bs (r - 2) (X.drop b)) w' := by
  have hr2 : 2 ≤ r := by
    rcases Nat.lt_or_ge r 2 with h1 | h1
    · have : r * bs ≤ 1 * bs := Nat.mul_le_mul_right _ (by omega)
      omega
    · exact h1
  obtain ⟨r', rfl⟩ : ∃ r', r = r' + 2 := ⟨r - 2, by omega⟩
  rw [St.pb_two, ← List.append_assoc, ← List.append_assoc] at h
  have hl : (St.pb leF (2 * bs) u X).length = a := by rw [St.pb_len _ _ _ (by omega)]; exact ha.symm
  refine (sym104 w0 g n c B a (a + bs) b _ _ _ _ W h hl (by rw [St.isort_len]; simp; omega) (by rw [St.isort_len]; simp; omega) (by rw [St.isort_len]; simp; omega) (by rw [St.isort_len]; simp; omega) (St.isort_sorted leF_ok _) (St.isort_sorted leF_ok _) hn).mono ?_
  rintro e w' ⟨he, h1⟩
  refine ⟨he, ?_⟩
  rw [St.mg_two leF_ok, ha, St.pb_ins, ← ha, List.drop_drop, ← hb] at h1
  exact h1
theorem s3_last {w0 : World} {B g c n bs a b u r : Nat} {X : List FlyC} (hX : X.length = n) (hn : n ≤ 1000000) (hbs : 0 < bs) (hb : b = a + 2 * bs) (ha : a = u * (2 * bs)) (han : a + bs < n) (hbn : n < b) (hr : n ≤ a + r * bs) (W : World) (h : RowG w0 B g c n (St.pb leF (2 * bs) u X ++ St.pb leF bs r (X.drop a)) W) :
    Calls Try.prog 104 #[.slice (some ⟨g, 0, none⟩) n c, .int .i64 a, .int .i64 ((a + bs : Nat) : Int), .int .i64 n, cmpF] W fun e w' => e = .returned (.tuple #[]) ∧ RowG w0 B g c n (St.pb leF (2 * bs) (u + 1) X) w' := by
  have hr2 : 2 ≤ r := by
    rcases Nat.lt_or_ge r 2 with h1 | h1
    · have : r * bs ≤ 1 * bs := Nat.mul_le_mul_right _ (by omega)
      omega
    · exact h1
  obtain ⟨r', rfl⟩ : ∃ r', r = r' + 2 := ⟨r - 2, by omega⟩
  rw [St.pb_two, ← List.append_assoc, ← List.append_assoc] at h
  have hl : (St.pb leF (2 * bs) u X).length = a := by rw [St.pb_len _ _ _ (by omega)]; exact ha.symm
  refine (sym104 w0 g n c B a (a + bs) n _ _ _ _ W h hl (by rw [St.isort_len]; simp; omega) (by rw [St.isort_len]; simp; omega) (by rw [St.isort_len]; simp; omega) (by rw [St.isort_len]; simp; omega) (St.isort_sorted leF_ok _) (St.isort_sorted leF_ok _) hn).mono ?_
  rintro e w' ⟨he, h1⟩
  refine ⟨he, ?_⟩
  rw [St.mg_two leF_ok, ha, St.pb_ins, ← ha, List.drop_drop, List.drop_eq_nil_of_le (by omega), St.pb_nil, List.append_nil] at h1
  exact h1
theorem s3_none {w0 : World} {B g c n bs a u r : Nat} {X : List FlyC} (hX : X.length = n) (ha : a = u * (2 * bs)) (han : n ≤ a + bs) (hr : n ≤ a + r * bs) (W : World) (h : RowG w0 B g c n (St.pb leF (2 * bs) u X ++ St.pb leF bs r (X.drop a)) W) :
    RowG w0 B g c n (St.pb leF (2 * bs) (u + 1) X) W := by
  rw [St.pb_rest bs r _ (by simp; omega) (by simp; omega)] at h
  rw [St.pb_snoc, ← ha]
  exact h

set_option linter.unusedVariables false in
set_option linter.unusedSimpArgs false in
set_option maxRecDepth 100000 in
set_option maxHeartbeats 6400000 in
theorem stable94 (w0 : World) (g n c B : Nat) (X : List FlyC) (w : World) (h : RowG w0 B g c n X w) (hn : n ≤ 100000) :
    Calls Try.prog 94 #[.slice (some ⟨g, 0, none⟩) n c, .int .i64 n, cmpF] w fun e w' => e = .returned (.tuple #[]) ∧ RowG w0 B g c n (St.isort leF X) w' := by
  have HX := Lib.hid h.len
  have H := Lib.hid h
  clear h
  go_enter Try.func94, Try.ntmps94
  go_wp2_with fail
  go_loopw [7, 8] (S1 w0 B g c n X) (fun a _ _ => n + 1 - (intOf a).toNat)
  case atStart => exact ⟨0, 20, 0, rfl, rfl, rfl, Nat.zero_le _, Lib.hid rfl, by simpa [St.pb] using H.out⟩
  case round =>
    clear H
    obtain ⟨a, b, t, rfl, rfl, hb, han, HA, hr⟩ := hrel
    by_cases hlt : b ≤ n
    · have C1 := Lib.hid (fun (W : World) (hW : RowG w0 B g c n (St.pb leF 20 t X ++ (X.drop a).take 20 ++ X.drop (a + 20)) W) => ins103 w0 g n c a b B (St.pb leF 20 t X) ((X.drop a).take 20) (X.drop (a + 20)) W hW (by rw [St.pb_len _ _ _ (by rw [HX.out, ← HA.out]; exact han), HA.out]) (by simp [HX.out]; omega) (by omega))
      have HR := Lib.hid (s1_row hr)
      obtain ⟨b2, hb2⟩ : ∃ x, x = b + 20 := ⟨_, rfl⟩
      have e1 : IntKind.i64.wrap ((b : Int) + 20) = (b2 : Int) := by rw [IntWalk.i64_left, IntWalk.wrap64_in _ (by omega)]; omega
      have hab : a < b := by omega
      have HB := Lib.hid hb
      have HB2 := Lib.hid hb2
      clear hr hb hb2
      go_wp2_with fail
      refine (C1.out _ HR.out).mono ?_
      rintro e w1 ⟨rfl, h1⟩
      have HR1 : Hid (RowG w0 B g c n (St.pb leF 20 (t + 1) X ++ X.drop b) w1) := Lib.hid (by
        rw [HA.out, St.pb_ins, ← HA.out, ← HB.out] at h1
        exact h1)
      clear h1
      go_wp2_with fail
      go_roundw
      case rel => exact ⟨b, b2, t + 1, rfl, rfl, HB2.out, hlt, Lib.hid (by have := HA.out; have := HB.out; omega), HR1.out⟩
      case measure => simp [intOf]; omega
    · have C1 := Lib.hid (fun (W : World) (hW : RowG w0 B g c n (St.pb leF 20 t X ++ X.drop a) W) => ins103 w0 g n c a n B (St.pb leF 20 t X) (X.drop a) [] W (by simpa using hW) (by rw [St.pb_len _ _ _ (by rw [HX.out, ← HA.out]; exact han), HA.out]) (by simp [HX.out]; omega) (by omega))
      have HR := Lib.hid hr
      clear hr
      go_wp2_with fail
      refine (C1.out _ HR.out).mono ?_
      rintro e w1 ⟨rfl, h1⟩
      have HR1 : Hid (RowG w0 B g c n (St.pb leF 20 (t + 1) X) w1) := Lib.hid (by
        rw [St.pb_snoc, ← HA.out, List.take_of_length_le (by simp [HX.out]; omega)]
        simpa using h1)
      have HT : Hid (n ≤ (t + 1) * 20) := Lib.hid (by have := HA.out; omega)
      clear h1 HR C1 HA
      go_wp2_with fail
      go_loopw [7, 8, 6] (S2 w0 B g c n X) (fun _ _ s _ => n + 1 - (intOf s).toNat)
      case atStart => exact ⟨20, t + 1, rfl, Nat.le_refl _, by omega, HT, HR1.out⟩
      case round =>
        clear HR1 HT hb hlt
        obtain ⟨bs, t, rfl, hbs, hbs2, HT, hr⟩ := hrel
        by_cases hlt : bs < n
        · obtain ⟨b2, hb2⟩ : ∃ x, x = 2 * bs := ⟨_, rfl⟩
          have e2 : IntKind.i64.wrap (2 * (bs : Int)) = (b2 : Int) := by rw [IntWalk.i64_left, IntWalk.wrap64_in _ (by omega)]; omega
          have e3 : IntKind.i64.wrap ((bs : Int) * 2) = (b2 : Int) := by rw [IntWalk.i64_left, IntWalk.wrap64_in _ (by omega)]; omega
          have HR := Lib.hid hr
          have HB2 := Lib.hid hb2
          have hbb : bs < b2 := by omega
          have hb2n : b2 ≤ 2 * n := by omega
          clear hr hb2
          go_wp2_with fail
          go_loopw [7, 8] (S3 w0 B g c n bs X) (fun a _ _ => n + 1 - (intOf a).toNat)
          case atStart => exact ⟨0, b2, 0, t, rfl, rfl, by have := HB2.out; omega, Nat.zero_le _, Lib.hid ⟨by simp, by have := HT.out; omega⟩, by simpa [St.pb] using HR.out⟩
          case round =>
            clear HR HT
            obtain ⟨a, b, u, r, rfl, rfl, hb, han, HU, hr⟩ := hrel
            obtain ⟨m, hm⟩ : ∃ x, x = a + bs := ⟨_, rfl⟩
            have e4 : IntKind.i64.wrap ((a : Int) + (bs : Int)) = (m : Int) := by rw [IntWalk.i64_left, IntWalk.wrap64_in _ (by omega)]; omega
            have hb9 : b ≤ 1000000 := by have := HB2.out; omega
            by_cases hlt2 : b ≤ n
            · have C1 := Lib.hid (fun (W : World) (hW : RowG w0 B g c n (St.pb leF (2 * bs) u X ++ St.pb leF bs r (X.drop a)) W) => s3_calls HX.out (by omega) (by omega) hb HU.out.1 hlt2 HU.out.2 W hW)
              rw [← hm] at C1
              have HR := Lib.hid hr
              obtain ⟨b3, hb3⟩ : ∃ x, x = b + b2 := ⟨_, rfl⟩
              have e5 : IntKind.i64.wrap ((b : Int) + (b2 : Int)) = (b3 : Int) := by rw [IntWalk.i64_left, IntWalk.wrap64_in _ (by omega)]; omega
              have HV : Hid (b3 = b + 2 * bs ∧ b = (u + 1) * (2 * bs) ∧ n ≤ b + (r - 2) * bs) := Lib.hid ⟨by have := HB2.out; omega, by rw [Nat.succ_mul, ← HU.out.1]; exact hb, by
                have h1 := HU.out.2
                rcases Nat.lt_or_ge r 2 with h2 | h2
                · have : r * bs ≤ 1 * bs := Nat.mul_le_mul_right _ (by omega)
                  omega
                · have : r * bs = (r - 2) * bs + 2 * bs := by rw [← Nat.add_mul]; congr 1; omega
                  omega⟩
              have hab : a < b := by omega
              clear hr hb3 hm hb HU
              go_wp2_with fail
              refine (C1.out _ HR.out).mono ?_
              rintro e w1 ⟨rfl, h1⟩
              have HR1 := Lib.hid h1
              clear h1
              go_wp2_with fail
              go_roundw
              case rel => exact ⟨b, b3, u + 1, r - 2, rfl, rfl, HV.out.1, hlt2, Lib.hid HV.out.2, HR1.out⟩
              case measure => simp [intOf]; omega
            · have hU2 : n ≤ (u + 1) * (2 * bs) := by rw [Nat.succ_mul, ← HU.out.1]; omega
              have HU2 := Lib.hid hU2
              clear hU2
              by_cases hmn : m < n
              · have C1 := Lib.hid (fun (W : World) (hW : RowG w0 B g c n (St.pb leF (2 * bs) u X ++ St.pb leF bs r (X.drop a)) W) => s3_last HX.out (by omega) (by omega) hb HU.out.1 (by omega) (by omega) HU.out.2 W hW)
                rw [← hm] at C1
                have HR := Lib.hid hr
                clear hr hm hb HU
                go_wp2_with fail
                refine (C1.out _ HR.out).mono ?_
                rintro e w1 ⟨rfl, h1⟩
                have HR1 := Lib.hid h1
                clear h1
                go_wp2_with fail
                go_roundw
                case rel => exact ⟨b2, u + 1, rfl, by omega, by omega, by rw [HB2.out]; exact HU2, by rw [HB2.out]; exact HR1.out⟩
                case measure => simp [intOf]; omega
              · have HR1 := Lib.hid (s3_none HX.out HU.out.1 (by omega) HU.out.2 wr hr)
                clear hr hm hb HU
                go_wp2_with fail
                go_roundw
                case rel => exact ⟨b2, u + 1, rfl, by omega, by omega, by rw [HB2.out]; exact HU2, by rw [HB2.out]; exact HR1.out⟩
                case measure => simp [intOf]; omega
        · have HF : Hid (RowG w0 B g c n (St.isort leF X) wr) := Lib.hid (by
            rw [← St.pb_full bs t X (by rw [HX.out]; omega) (by rw [HX.out]; exact HT.out)]
            exact hr)
          clear hr
          go_wp2_with fail
          go_end0
          exact ⟨rfl, HF.out⟩

set_option linter.unusedVariables false in
set_option linter.unusedSimpArgs false in
set_option maxRecDepth 100000 in
set_option maxHeartbeats 1600000 in
theorem sort63 (g n c B : Nat) (X : List FlyC) (w : World) (h : w.ownsRow B 47 7 (.slice (some ⟨g, 0, none⟩) n c) n (X.flatMap flyL)) (hn : n ≤ 100000) :
    Calls Try.prog 63 #[.slice (some ⟨g, 0, none⟩) n c, cmpF] w fun e w' => e = .returned (.tuple #[]) ∧ RowG w B g c n (St.isort leF X) w' := by
  have H := Lib.hid (RowG.start h)
  clear h
  go_enter Try.func63, Try.ntmps63
  go_wp2_with fail
  refine (stable94 w g n c B X w H.out hn).mono ?_
  rintro e w1 ⟨rfl, h1⟩
  have HR := Lib.hid h1
  clear h1
  go_wp2_with fail
  go_end0
  exact ⟨rfl, HR.out⟩

set_option maxRecDepth 100000 in
theorem ins103_none (w : World) : Calls Try.prog 103 #[.slice none 0 0, .int .i64 0, .int .i64 0, cmpF] w fun e w' => e = .returned (.tuple #[]) ∧ w' = w := by
  go_enter Try.func103, Try.ntmps103
  go_wp2_with fail
  refine wp_loop_rounds 1 ?_
  rw [rounds_succ]
  go_wp2_with fail
  go_end0
  exact ⟨rfl, rfl⟩
set_option maxRecDepth 100000 in
theorem stable94_none (w : World) : Calls Try.prog 94 #[.slice none 0 0, .int .i64 0, cmpF] w fun e w' => e = .returned (.tuple #[]) ∧ w' = w := by
  go_enter Try.func94, Try.ntmps94
  go_wp2_with fail
  refine wp_loop_rounds 1 ?_
  rw [rounds_succ]
  go_wp2_with fail
  refine (ins103_none w).mono ?_
  rintro e w1 ⟨rfl, rfl⟩
  go_wp2_with fail
  refine wp_loop_rounds 1 ?_
  rw [rounds_succ]
  go_wp2_with fail
  go_end0
  exact ⟨rfl, rfl⟩
set_option maxRecDepth 100000 in
theorem sort63_none (w : World) : Calls Try.prog 63 #[.slice none 0 0, cmpF] w fun e w' => e = .returned (.tuple #[]) ∧ w' = w := by
  go_enter Try.func63, Try.ntmps63
  go_wp2_with fail
  refine (stable94_none w).mono ?_
  rintro e w1 ⟨rfl, rfl⟩
  go_wp2_with fail
  go_end0
  exact ⟨rfl, rfl⟩
end Go.Proofs.Ytjdjfjokniingaa
