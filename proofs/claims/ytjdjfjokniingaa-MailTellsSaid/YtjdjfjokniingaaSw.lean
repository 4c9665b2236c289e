/- retroactref16.SameLetter, SameLetters, SameActor, requests on data that are alike. -/
import Derived.Test.YtjdjfjokniingaaSv
namespace Go.Proofs.Ytjdjfjokniingaa
open Go.RowKit

theorem SameVs.below {w W : World} {u v : Sl} (h : SameVs w u v) (hb : Below w.heap.size w W) : SameVs W u v := fun X hX => h X (Below.call hb hX)
abbrev letV (l : LetC) : Value := .agg #[.string l.src, .string l.msg, .slice l.args.a l.args.n l.args.c, .int .i64 l.sent]
/-- two letters that SameLetter finds alike -/
def LetSame (w : World) (l m : LetC) : Prop := l.src = m.src ∧ l.msg = m.msg ∧ l.sent = m.sent ∧ SameVs w l.args m.args
theorem LetSame.below {w W : World} {u v : LetC} (h : LetSame w u v) (hb : Below w.heap.size w W) : LetSame W u v := ⟨h.1, h.2.1, h.2.2.1, h.2.2.2.below hb⟩

set_option maxRecDepth 100000 in
set_option maxHeartbeats 800000 in
theorem sameLetter_true (l m : LetC) (w : World) (h : LetSame w l m) :
    Calls Try.prog 39 #[letV l, letV m] w fun e w' => e = .returned (.bool true) ∧ Below w.heap.size w w' := by
  obtain ⟨src, msg, u, sent⟩ := l
  obtain ⟨src', msg', v, sent'⟩ := m
  obtain ⟨h1, h2, h3, h4⟩ := h
  simp only at h1 h2 h3 h4
  subst h1 h2 h3
  have HS := Lib.hid h4
  clear h4
  go_enter Try.func39, Try.ntmps39
  go_wp2_with fail
  refine (HS.out _ (((Below.refl _ _).alloc (Nat.le_refl _) _).alloc (by simp) _)).mono ?_
  rintro e v1 ⟨rfl, h1⟩
  have z1 := h1.size
  try simp at z1
  have hB1 : Below w.heap.size w v1 := Below.call (w := w) (by repeat (first | (with_reducible exact Below.refl _ _) | (with_reducible assumption) | refine Below.setCell ?_ (by first | omega | (simp; omega) | (simp; done)) _ | refine Below.alloc ?_ (by first | omega | (simp; omega) | (simp; done)) _ | refine Below.drew ?_)) h1
  obtain ⟨k1_0, kc, kf⟩ := keepB h1 (w.heap.size) (by first | omega | (simp; omega) | (simp; done))
  have c1_0_0 : v1.cell? ⟨w.heap.size, 0, none⟩ = some (.string src) := (kc 0).trans (by simp [go_sem, *])
  have f1_0_0 : v1.frozen? ⟨w.heap.size, 0, none⟩ = false := (kf 0).trans (by simp [go_sem, *])
  have c1_0_1 : v1.cell? ⟨w.heap.size, 1, none⟩ = some (.string msg) := (kc 1).trans (by simp [go_sem, *])
  have f1_0_1 : v1.frozen? ⟨w.heap.size, 1, none⟩ = false := (kf 1).trans (by simp [go_sem, *])
  have c1_0_2 : v1.cell? ⟨w.heap.size, 2, none⟩ = some (.slice u.a u.n u.c) := (kc 2).trans (by simp [go_sem, *])
  have f1_0_2 : v1.frozen? ⟨w.heap.size, 2, none⟩ = false := (kf 2).trans (by simp [go_sem, *])
  have c1_0_3 : v1.cell? ⟨w.heap.size, 3, none⟩ = some (.int .i64 sent) := (kc 3).trans (by simp [go_sem, *])
  have f1_0_3 : v1.frozen? ⟨w.heap.size, 3, none⟩ = false := (kf 3).trans (by simp [go_sem, *])
  clear kc kf
  obtain ⟨k1_1, kc, kf⟩ := keepB h1 (w.heap.size + 1) (by first | omega | (simp; omega) | (simp; done))
  have c1_1_0 : v1.cell? ⟨w.heap.size + 1, 0, none⟩ = some (.string src) := (kc 0).trans (by simp [go_sem, *])
  have f1_1_0 : v1.frozen? ⟨w.heap.size + 1, 0, none⟩ = false := (kf 0).trans (by simp [go_sem, *])
  have c1_1_1 : v1.cell? ⟨w.heap.size + 1, 1, none⟩ = some (.string msg) := (kc 1).trans (by simp [go_sem, *])
  have f1_1_1 : v1.frozen? ⟨w.heap.size + 1, 1, none⟩ = false := (kf 1).trans (by simp [go_sem, *])
  have c1_1_2 : v1.cell? ⟨w.heap.size + 1, 2, none⟩ = some (.slice v.a v.n v.c) := (kc 2).trans (by simp [go_sem, *])
  have f1_1_2 : v1.frozen? ⟨w.heap.size + 1, 2, none⟩ = false := (kf 2).trans (by simp [go_sem, *])
  have c1_1_3 : v1.cell? ⟨w.heap.size + 1, 3, none⟩ = some (.int .i64 sent) := (kc 3).trans (by simp [go_sem, *])
  have f1_1_3 : v1.frozen? ⟨w.heap.size + 1, 3, none⟩ = false := (kf 3).trans (by simp [go_sem, *])
  clear kc kf
  go_wp2_with fail
  go_ret
  exact ⟨rfl, hB1⟩

set_option maxRecDepth 100000 in
set_option maxHeartbeats 1600000 in
theorem sameLetters_true (xs ys : List LetC) (n : Nat) (A1 A2 : Option Addr) (c1 c2 : Nat) (w : World) (h1 : Rd w w.heap.size 4 A1 n (xs.flatMap letL)) (h2 : Rd w w.heap.size 4 A2 n (ys.flatMap letL)) (hn : n ≤ 9223372036854775807)
    (hs : ∀ (k : Nat) (x y : LetC), xs[k]? = some x → ys[k]? = some y → LetSame w x y) :
    Calls Try.prog 89 #[.slice A1 n c1, .slice A2 n c2] w fun e w' => e = .returned (.bool true) ∧ Below w.heap.size w w' := by
  have H1 := Lib.hid h1
  have H2 := Lib.hid h2
  have HS := Lib.hid hs
  clear h1 h2 hs
  go_enter Try.func89, Try.ntmps89
  go_wp2
  go_loopw [5] (fun i wr => ∃ k : Nat, k ≤ n ∧ i = .int .i64 k ∧ Below w.heap.size w wr) (fun i _ => n - (intOf i).toNat)
  case atStart => exact ⟨0, Nat.zero_le _, rfl, Below.refl _ _⟩
  case round =>
    obtain ⟨k, hk, rfl, hbel⟩ := hrel
    by_cases hlt : k < n
    · obtain ⟨b1, o1, x, hA, hb1, ex, hc1⟩ := H1.out.at_ (fun _ => rfl) (by omega) hlt
      obtain ⟨b2, o2, y, hB, hb2, ey, hc2⟩ := H2.out.at_ (fun _ => rfl) (by omega) hlt
      have hsz := hbel.size
      have x0 : wr.cell? ⟨b1, o1 + k * 4, none⟩ = some (.string x.src) := (hbel.cell (p := ⟨b1, o1 + k * 4, none⟩) hb1).trans (hc1 0 _ rfl)
      have x1 : wr.cell? ⟨b1, o1 + k * 4 + 1, none⟩ = some (.string x.msg) := (hbel.cell (p := ⟨b1, o1 + k * 4 + 1, none⟩) hb1).trans (hc1 1 _ rfl)
      have x2 : wr.cell? ⟨b1, o1 + k * 4 + 2, none⟩ = some (.slice x.args.a x.args.n x.args.c) := (hbel.cell (p := ⟨b1, o1 + k * 4 + 2, none⟩) hb1).trans (hc1 2 _ rfl)
      have x3 : wr.cell? ⟨b1, o1 + k * 4 + 3, none⟩ = some (.int .i64 x.sent) := (hbel.cell (p := ⟨b1, o1 + k * 4 + 3, none⟩) hb1).trans (hc1 3 _ rfl)
      have y0 : wr.cell? ⟨b2, o2 + k * 4, none⟩ = some (.string y.src) := (hbel.cell (p := ⟨b2, o2 + k * 4, none⟩) hb2).trans (hc2 0 _ rfl)
      have y1 : wr.cell? ⟨b2, o2 + k * 4 + 1, none⟩ = some (.string y.msg) := (hbel.cell (p := ⟨b2, o2 + k * 4 + 1, none⟩) hb2).trans (hc2 1 _ rfl)
      have y2 : wr.cell? ⟨b2, o2 + k * 4 + 2, none⟩ = some (.slice y.args.a y.args.n y.args.c) := (hbel.cell (p := ⟨b2, o2 + k * 4 + 2, none⟩) hb2).trans (hc2 2 _ rfl)
      have y3 : wr.cell? ⟨b2, o2 + k * 4 + 3, none⟩ = some (.int .i64 y.sent) := (hbel.cell (p := ⟨b2, o2 + k * 4 + 3, none⟩) hb2).trans (hc2 3 _ rfl)
      have HXY := Lib.hid ((HS.out k x y ex ey).below hbel)
      have hixA : ∀ W : World, Sem.run Try.prog (Instr.indexAt 74 (.slice A1 n c1) (.int .i64 (k : Int))) W = .ok (.pointer (some ⟨b1, o1 + k * 4, none⟩)) W := by intro W; rw [hA]; go_simp
      have hixB : ∀ W : World, Sem.run Try.prog (Instr.indexAt 74 (.slice A2 n c2) (.int .i64 (k : Int))) W = .ok (.pointer (some ⟨b2, o2 + k * 4, none⟩)) W := by intro W; rw [hB]; go_simp
      clear hA hB ex ey hc1 hc2
      have n1 : b1 < wr.heap.size := by omega
      have n2 : b2 < wr.heap.size := by omega
      have HBEL := Lib.hid hbel
      clear hbel
      go_wp2_with fail
      go_region_held3 (fun w' => w'.cell? ⟨b1, o1 + k * 4, none⟩ = some (.string x.src) ∧ w'.cell? ⟨b1, o1 + k * 4 + 1, none⟩ = some (.string x.msg) ∧ w'.cell? ⟨b1, o1 + k * 4 + 2, none⟩ = some (.slice x.args.a x.args.n x.args.c) ∧ w'.cell? ⟨b1, o1 + k * 4 + 3, none⟩ = some (.int .i64 x.sent) ∧ w'.cell? ⟨b2, o2 + k * 4, none⟩ = some (.string y.src) ∧ w'.cell? ⟨b2, o2 + k * 4 + 1, none⟩ = some (.string y.msg) ∧ w'.cell? ⟨b2, o2 + k * 4 + 2, none⟩ = some (.slice y.args.a y.args.n y.args.c) ∧ w'.cell? ⟨b2, o2 + k * 4 + 3, none⟩ = some (.int .i64 y.sent)) (simp [go_sem, *])
        (first | (go_at_call 39; refine (sameLetter_true x y _ (HXY.out.below (Below.refl _ _).drew)).mono ?_; rintro e w1 ⟨rfl, h1⟩; have hz1 := h1.size; simp at hz1; have HH1 := Lib.hid (Below.call (w := w) (HBEL.out.drew) h1); obtain ⟨k1, k2, k3⟩ := keepB h1 b1 (by simp; omega); obtain ⟨m1, m2, m3⟩ := keepB h1 b2 (by simp; omega)))
      go_wp2_with fail
      go_roundw
      case rel => exact ⟨k + 1, by omega, by go_num, HH1.out⟩
      case measure => simp [intOf]; omega
    · go_wp2_with fail
      go_ret
      exact ⟨rfl, hbel⟩

/-- SameLetters on two slices answers true, in every world that w has become -/
def SameLs (w : World) (u v : Sl) : Prop := ∀ W, Below w.heap.size w W → Calls Try.prog 89 #[.slice u.a u.n u.c, .slice v.a v.n v.c] W fun e w' => e = .returned (.bool true) ∧ Below W.heap.size W w'
theorem SameLs.below {w W : World} {u v : Sl} (h : SameLs w u v) (hb : Below w.heap.size w W) : SameLs W u v := fun X hX => h X (Below.call hb hX)
/-- two actors that SameActor finds alike -/
def LiveSame (w : World) (a b : LiveC) : Prop := a.path = b.path ∧ a.type = b.type ∧ a.node = b.node ∧ a.kids = b.kids ∧ a.rest = b.rest ∧ a.stopped = b.stopped ∧ SameVs w a.init b.init ∧ SameVs w a.vars b.vars ∧ SameLs w a.mail b.mail
theorem LiveSame.below {w W : World} {a b : LiveC} (h : LiveSame w a b) (hb : Below w.heap.size w W) : LiveSame W a b :=
  ⟨h.1, h.2.1, h.2.2.1, h.2.2.2.1, h.2.2.2.2.1, h.2.2.2.2.2.1, h.2.2.2.2.2.2.1.below hb, h.2.2.2.2.2.2.2.1.below hb, h.2.2.2.2.2.2.2.2.below hb⟩
abbrev liveV (a : LiveC) : Value := .agg #[.string a.path, .string a.type, .int .i64 a.node, .slice a.init.a a.init.n a.init.c, .slice a.vars.a a.vars.n a.vars.c, .int .i64 a.kids, .int .i64 a.rest, .bool a.stopped, .slice a.mail.a a.mail.n a.mail.c]

set_option maxRecDepth 100000 in
set_option maxHeartbeats 1600000 in
theorem sameActor_true (a b : LiveC) (w : World) (h : LiveSame w a b) :
    Calls Try.prog 47 #[liveV a, liveV b] w fun e w' => e = .returned (.bool true) ∧ Below w.heap.size w w' := by
  obtain ⟨path, type, node, ui, uv, kids, rest, stopped, um⟩ := a
  obtain ⟨path', type', node', vi, vv, kids', rest', stopped', vm⟩ := b
  obtain ⟨h1, h2, h3, h4, h5, h6, h7, h8, h9⟩ := h
  simp only at h1 h2 h3 h4 h5 h6 h7 h8 h9
  subst h1 h2 h3 h4 h5 h6
  have HI := Lib.hid h7
  have HV := Lib.hid h8
  have HM := Lib.hid h9
  clear h7 h8 h9
  go_enter Try.func47, Try.ntmps47
  go_wp2_with fail
  refine (HI.out _ (((Below.refl _ _).alloc (Nat.le_refl _) _).alloc (by simp) _)).mono ?_
  rintro e v1 ⟨rfl, h1⟩
  have z1 := h1.size
  try simp at z1
  have hB1 : Below w.heap.size w v1 := Below.call (w := w) (by repeat (first | (with_reducible exact Below.refl _ _) | (with_reducible assumption) | refine Below.setCell ?_ (by first | omega | (simp; omega) | (simp; done)) _ | refine Below.alloc ?_ (by first | omega | (simp; omega) | (simp; done)) _ | refine Below.drew ?_)) h1
  obtain ⟨k1_0, kc, kf⟩ := keepB h1 (w.heap.size) (by first | omega | (simp; omega) | (simp; done))
  have c1_0_0 : v1.cell? ⟨w.heap.size, 0, none⟩ = some (.string path) := (kc 0).trans (by simp [go_sem, *])
  have f1_0_0 : v1.frozen? ⟨w.heap.size, 0, none⟩ = false := (kf 0).trans (by simp [go_sem, *])
  have c1_0_1 : v1.cell? ⟨w.heap.size, 1, none⟩ = some (.string type) := (kc 1).trans (by simp [go_sem, *])
  have f1_0_1 : v1.frozen? ⟨w.heap.size, 1, none⟩ = false := (kf 1).trans (by simp [go_sem, *])
  have c1_0_2 : v1.cell? ⟨w.heap.size, 2, none⟩ = some (.int .i64 node) := (kc 2).trans (by simp [go_sem, *])
  have f1_0_2 : v1.frozen? ⟨w.heap.size, 2, none⟩ = false := (kf 2).trans (by simp [go_sem, *])
  have c1_0_3 : v1.cell? ⟨w.heap.size, 3, none⟩ = some (.slice ui.a ui.n ui.c) := (kc 3).trans (by simp [go_sem, *])
  have f1_0_3 : v1.frozen? ⟨w.heap.size, 3, none⟩ = false := (kf 3).trans (by simp [go_sem, *])
  have c1_0_4 : v1.cell? ⟨w.heap.size, 4, none⟩ = some (.slice uv.a uv.n uv.c) := (kc 4).trans (by simp [go_sem, *])
  have f1_0_4 : v1.frozen? ⟨w.heap.size, 4, none⟩ = false := (kf 4).trans (by simp [go_sem, *])
  have c1_0_5 : v1.cell? ⟨w.heap.size, 5, none⟩ = some (.int .i64 kids) := (kc 5).trans (by simp [go_sem, *])
  have f1_0_5 : v1.frozen? ⟨w.heap.size, 5, none⟩ = false := (kf 5).trans (by simp [go_sem, *])
  have c1_0_6 : v1.cell? ⟨w.heap.size, 6, none⟩ = some (.int .i64 rest) := (kc 6).trans (by simp [go_sem, *])
  have f1_0_6 : v1.frozen? ⟨w.heap.size, 6, none⟩ = false := (kf 6).trans (by simp [go_sem, *])
  have c1_0_7 : v1.cell? ⟨w.heap.size, 7, none⟩ = some (.bool stopped) := (kc 7).trans (by simp [go_sem, *])
  have f1_0_7 : v1.frozen? ⟨w.heap.size, 7, none⟩ = false := (kf 7).trans (by simp [go_sem, *])
  have c1_0_8 : v1.cell? ⟨w.heap.size, 8, none⟩ = some (.slice um.a um.n um.c) := (kc 8).trans (by simp [go_sem, *])
  have f1_0_8 : v1.frozen? ⟨w.heap.size, 8, none⟩ = false := (kf 8).trans (by simp [go_sem, *])
  clear kc kf
  obtain ⟨k1_1, kc, kf⟩ := keepB h1 (w.heap.size + 1) (by first | omega | (simp; omega) | (simp; done))
  have c1_1_0 : v1.cell? ⟨w.heap.size + 1, 0, none⟩ = some (.string path) := (kc 0).trans (by simp [go_sem, *])
  have f1_1_0 : v1.frozen? ⟨w.heap.size + 1, 0, none⟩ = false := (kf 0).trans (by simp [go_sem, *])
  have c1_1_1 : v1.cell? ⟨w.heap.size + 1, 1, none⟩ = some (.string type) := (kc 1).trans (by simp [go_sem, *])
  have f1_1_1 : v1.frozen? ⟨w.heap.size + 1, 1, none⟩ = false := (kf 1).trans (by simp [go_sem, *])
  have c1_1_2 : v1.cell? ⟨w.heap.size + 1, 2, none⟩ = some (.int .i64 node) := (kc 2).trans (by simp [go_sem, *])
  have f1_1_2 : v1.frozen? ⟨w.heap.size + 1, 2, none⟩ = false := (kf 2).trans (by simp [go_sem, *])
  have c1_1_3 : v1.cell? ⟨w.heap.size + 1, 3, none⟩ = some (.slice vi.a vi.n vi.c) := (kc 3).trans (by simp [go_sem, *])
  have f1_1_3 : v1.frozen? ⟨w.heap.size + 1, 3, none⟩ = false := (kf 3).trans (by simp [go_sem, *])
  have c1_1_4 : v1.cell? ⟨w.heap.size + 1, 4, none⟩ = some (.slice vv.a vv.n vv.c) := (kc 4).trans (by simp [go_sem, *])
  have f1_1_4 : v1.frozen? ⟨w.heap.size + 1, 4, none⟩ = false := (kf 4).trans (by simp [go_sem, *])
  have c1_1_5 : v1.cell? ⟨w.heap.size + 1, 5, none⟩ = some (.int .i64 kids) := (kc 5).trans (by simp [go_sem, *])
  have f1_1_5 : v1.frozen? ⟨w.heap.size + 1, 5, none⟩ = false := (kf 5).trans (by simp [go_sem, *])
  have c1_1_6 : v1.cell? ⟨w.heap.size + 1, 6, none⟩ = some (.int .i64 rest) := (kc 6).trans (by simp [go_sem, *])
  have f1_1_6 : v1.frozen? ⟨w.heap.size + 1, 6, none⟩ = false := (kf 6).trans (by simp [go_sem, *])
  have c1_1_7 : v1.cell? ⟨w.heap.size + 1, 7, none⟩ = some (.bool stopped) := (kc 7).trans (by simp [go_sem, *])
  have f1_1_7 : v1.frozen? ⟨w.heap.size + 1, 7, none⟩ = false := (kf 7).trans (by simp [go_sem, *])
  have c1_1_8 : v1.cell? ⟨w.heap.size + 1, 8, none⟩ = some (.slice vm.a vm.n vm.c) := (kc 8).trans (by simp [go_sem, *])
  have f1_1_8 : v1.frozen? ⟨w.heap.size + 1, 8, none⟩ = false := (kf 8).trans (by simp [go_sem, *])
  clear kc kf
  go_wp2_with fail
  refine (HV.out _ hB1).mono ?_
  rintro e v2 ⟨rfl, h2⟩
  have z2 := h2.size
  try simp at z2
  have hB2 : Below w.heap.size w v2 := Below.call (w := w) (by repeat (first | (with_reducible exact Below.refl _ _) | (with_reducible assumption) | refine Below.setCell ?_ (by first | omega | (simp; omega) | (simp; done)) _ | refine Below.alloc ?_ (by first | omega | (simp; omega) | (simp; done)) _ | refine Below.drew ?_)) h2
  obtain ⟨k2_0, kc, kf⟩ := keepB h2 (w.heap.size) (by first | omega | (simp; omega) | (simp; done))
  have c2_0_0 : v2.cell? ⟨w.heap.size, 0, none⟩ = some (.string path) := (kc 0).trans (by simp [go_sem, *])
  have f2_0_0 : v2.frozen? ⟨w.heap.size, 0, none⟩ = false := (kf 0).trans (by simp [go_sem, *])
  have c2_0_1 : v2.cell? ⟨w.heap.size, 1, none⟩ = some (.string type) := (kc 1).trans (by simp [go_sem, *])
  have f2_0_1 : v2.frozen? ⟨w.heap.size, 1, none⟩ = false := (kf 1).trans (by simp [go_sem, *])
  have c2_0_2 : v2.cell? ⟨w.heap.size, 2, none⟩ = some (.int .i64 node) := (kc 2).trans (by simp [go_sem, *])
  have f2_0_2 : v2.frozen? ⟨w.heap.size, 2, none⟩ = false := (kf 2).trans (by simp [go_sem, *])
  have c2_0_3 : v2.cell? ⟨w.heap.size, 3, none⟩ = some (.slice ui.a ui.n ui.c) := (kc 3).trans (by simp [go_sem, *])
  have f2_0_3 : v2.frozen? ⟨w.heap.size, 3, none⟩ = false := (kf 3).trans (by simp [go_sem, *])
  have c2_0_4 : v2.cell? ⟨w.heap.size, 4, none⟩ = some (.slice uv.a uv.n uv.c) := (kc 4).trans (by simp [go_sem, *])
  have f2_0_4 : v2.frozen? ⟨w.heap.size, 4, none⟩ = false := (kf 4).trans (by simp [go_sem, *])
  have c2_0_5 : v2.cell? ⟨w.heap.size, 5, none⟩ = some (.int .i64 kids) := (kc 5).trans (by simp [go_sem, *])
  have f2_0_5 : v2.frozen? ⟨w.heap.size, 5, none⟩ = false := (kf 5).trans (by simp [go_sem, *])
  have c2_0_6 : v2.cell? ⟨w.heap.size, 6, none⟩ = some (.int .i64 rest) := (kc 6).trans (by simp [go_sem, *])
  have f2_0_6 : v2.frozen? ⟨w.heap.size, 6, none⟩ = false := (kf 6).trans (by simp [go_sem, *])
  have c2_0_7 : v2.cell? ⟨w.heap.size, 7, none⟩ = some (.bool stopped) := (kc 7).trans (by simp [go_sem, *])
  have f2_0_7 : v2.frozen? ⟨w.heap.size, 7, none⟩ = false := (kf 7).trans (by simp [go_sem, *])
  have c2_0_8 : v2.cell? ⟨w.heap.size, 8, none⟩ = some (.slice um.a um.n um.c) := (kc 8).trans (by simp [go_sem, *])
  have f2_0_8 : v2.frozen? ⟨w.heap.size, 8, none⟩ = false := (kf 8).trans (by simp [go_sem, *])
  clear kc kf
  obtain ⟨k2_1, kc, kf⟩ := keepB h2 (w.heap.size + 1) (by first | omega | (simp; omega) | (simp; done))
  have c2_1_0 : v2.cell? ⟨w.heap.size + 1, 0, none⟩ = some (.string path) := (kc 0).trans (by simp [go_sem, *])
  have f2_1_0 : v2.frozen? ⟨w.heap.size + 1, 0, none⟩ = false := (kf 0).trans (by simp [go_sem, *])
  have c2_1_1 : v2.cell? ⟨w.heap.size + 1, 1, none⟩ = some (.string type) := (kc 1).trans (by simp [go_sem, *])
  have f2_1_1 : v2.frozen? ⟨w.heap.size + 1, 1, none⟩ = false := (kf 1).trans (by simp [go_sem, *])
  have c2_1_2 : v2.cell? ⟨w.heap.size + 1, 2, none⟩ = some (.int .i64 node) := (kc 2).trans (by simp [go_sem, *])
  have f2_1_2 : v2.frozen? ⟨w.heap.size + 1, 2, none⟩ = false := (kf 2).trans (by simp [go_sem, *])
  have c2_1_3 : v2.cell? ⟨w.heap.size + 1, 3, none⟩ = some (.slice vi.a vi.n vi.c) := (kc 3).trans (by simp [go_sem, *])
  have f2_1_3 : v2.frozen? ⟨w.heap.size + 1, 3, none⟩ = false := (kf 3).trans (by simp [go_sem, *])
  have c2_1_4 : v2.cell? ⟨w.heap.size + 1, 4, none⟩ = some (.slice vv.a vv.n vv.c) := (kc 4).trans (by simp [go_sem, *])
  have f2_1_4 : v2.frozen? ⟨w.heap.size + 1, 4, none⟩ = false := (kf 4).trans (by simp [go_sem, *])
  have c2_1_5 : v2.cell? ⟨w.heap.size + 1, 5, none⟩ = some (.int .i64 kids) := (kc 5).trans (by simp [go_sem, *])
  have f2_1_5 : v2.frozen? ⟨w.heap.size + 1, 5, none⟩ = false := (kf 5).trans (by simp [go_sem, *])
  have c2_1_6 : v2.cell? ⟨w.heap.size + 1, 6, none⟩ = some (.int .i64 rest) := (kc 6).trans (by simp [go_sem, *])
  have f2_1_6 : v2.frozen? ⟨w.heap.size + 1, 6, none⟩ = false := (kf 6).trans (by simp [go_sem, *])
  have c2_1_7 : v2.cell? ⟨w.heap.size + 1, 7, none⟩ = some (.bool stopped) := (kc 7).trans (by simp [go_sem, *])
  have f2_1_7 : v2.frozen? ⟨w.heap.size + 1, 7, none⟩ = false := (kf 7).trans (by simp [go_sem, *])
  have c2_1_8 : v2.cell? ⟨w.heap.size + 1, 8, none⟩ = some (.slice vm.a vm.n vm.c) := (kc 8).trans (by simp [go_sem, *])
  have f2_1_8 : v2.frozen? ⟨w.heap.size + 1, 8, none⟩ = false := (kf 8).trans (by simp [go_sem, *])
  clear kc kf
  clear c1_0_0 f1_0_0 c1_0_1 f1_0_1 c1_0_2 f1_0_2 c1_0_3 f1_0_3 c1_0_4 f1_0_4 c1_0_5 f1_0_5 c1_0_6 f1_0_6 c1_0_7 f1_0_7 c1_0_8 f1_0_8 c1_1_0 f1_1_0 c1_1_1 f1_1_1 c1_1_2 f1_1_2 c1_1_3 f1_1_3 c1_1_4 f1_1_4 c1_1_5 f1_1_5 c1_1_6 f1_1_6 c1_1_7 f1_1_7 c1_1_8 f1_1_8
  go_wp2_with fail
  refine (HM.out _ hB2).mono ?_
  rintro e v3 ⟨rfl, h3⟩
  have z3 := h3.size
  try simp at z3
  have hB3 : Below w.heap.size w v3 := Below.call (w := w) (by repeat (first | (with_reducible exact Below.refl _ _) | (with_reducible assumption) | refine Below.setCell ?_ (by first | omega | (simp; omega) | (simp; done)) _ | refine Below.alloc ?_ (by first | omega | (simp; omega) | (simp; done)) _ | refine Below.drew ?_)) h3
  obtain ⟨k3_0, kc, kf⟩ := keepB h3 (w.heap.size) (by first | omega | (simp; omega) | (simp; done))
  have c3_0_0 : v3.cell? ⟨w.heap.size, 0, none⟩ = some (.string path) := (kc 0).trans (by simp [go_sem, *])
  have f3_0_0 : v3.frozen? ⟨w.heap.size, 0, none⟩ = false := (kf 0).trans (by simp [go_sem, *])
  have c3_0_1 : v3.cell? ⟨w.heap.size, 1, none⟩ = some (.string type) := (kc 1).trans (by simp [go_sem, *])
  have f3_0_1 : v3.frozen? ⟨w.heap.size, 1, none⟩ = false := (kf 1).trans (by simp [go_sem, *])
  have c3_0_2 : v3.cell? ⟨w.heap.size, 2, none⟩ = some (.int .i64 node) := (kc 2).trans (by simp [go_sem, *])
  have f3_0_2 : v3.frozen? ⟨w.heap.size, 2, none⟩ = false := (kf 2).trans (by simp [go_sem, *])
  have c3_0_3 : v3.cell? ⟨w.heap.size, 3, none⟩ = some (.slice ui.a ui.n ui.c) := (kc 3).trans (by simp [go_sem, *])
  have f3_0_3 : v3.frozen? ⟨w.heap.size, 3, none⟩ = false := (kf 3).trans (by simp [go_sem, *])
  have c3_0_4 : v3.cell? ⟨w.heap.size, 4, none⟩ = some (.slice uv.a uv.n uv.c) := (kc 4).trans (by simp [go_sem, *])
  have f3_0_4 : v3.frozen? ⟨w.heap.size, 4, none⟩ = false := (kf 4).trans (by simp [go_sem, *])
  have c3_0_5 : v3.cell? ⟨w.heap.size, 5, none⟩ = some (.int .i64 kids) := (kc 5).trans (by simp [go_sem, *])
  have f3_0_5 : v3.frozen? ⟨w.heap.size, 5, none⟩ = false := (kf 5).trans (by simp [go_sem, *])
  have c3_0_6 : v3.cell? ⟨w.heap.size, 6, none⟩ = some (.int .i64 rest) := (kc 6).trans (by simp [go_sem, *])
  have f3_0_6 : v3.frozen? ⟨w.heap.size, 6, none⟩ = false := (kf 6).trans (by simp [go_sem, *])
  have c3_0_7 : v3.cell? ⟨w.heap.size, 7, none⟩ = some (.bool stopped) := (kc 7).trans (by simp [go_sem, *])
  have f3_0_7 : v3.frozen? ⟨w.heap.size, 7, none⟩ = false := (kf 7).trans (by simp [go_sem, *])
  have c3_0_8 : v3.cell? ⟨w.heap.size, 8, none⟩ = some (.slice um.a um.n um.c) := (kc 8).trans (by simp [go_sem, *])
  have f3_0_8 : v3.frozen? ⟨w.heap.size, 8, none⟩ = false := (kf 8).trans (by simp [go_sem, *])
  clear kc kf
  obtain ⟨k3_1, kc, kf⟩ := keepB h3 (w.heap.size + 1) (by first | omega | (simp; omega) | (simp; done))
  have c3_1_0 : v3.cell? ⟨w.heap.size + 1, 0, none⟩ = some (.string path) := (kc 0).trans (by simp [go_sem, *])
  have f3_1_0 : v3.frozen? ⟨w.heap.size + 1, 0, none⟩ = false := (kf 0).trans (by simp [go_sem, *])
  have c3_1_1 : v3.cell? ⟨w.heap.size + 1, 1, none⟩ = some (.string type) := (kc 1).trans (by simp [go_sem, *])
  have f3_1_1 : v3.frozen? ⟨w.heap.size + 1, 1, none⟩ = false := (kf 1).trans (by simp [go_sem, *])
  have c3_1_2 : v3.cell? ⟨w.heap.size + 1, 2, none⟩ = some (.int .i64 node) := (kc 2).trans (by simp [go_sem, *])
  have f3_1_2 : v3.frozen? ⟨w.heap.size + 1, 2, none⟩ = false := (kf 2).trans (by simp [go_sem, *])
  have c3_1_3 : v3.cell? ⟨w.heap.size + 1, 3, none⟩ = some (.slice vi.a vi.n vi.c) := (kc 3).trans (by simp [go_sem, *])
  have f3_1_3 : v3.frozen? ⟨w.heap.size + 1, 3, none⟩ = false := (kf 3).trans (by simp [go_sem, *])
  have c3_1_4 : v3.cell? ⟨w.heap.size + 1, 4, none⟩ = some (.slice vv.a vv.n vv.c) := (kc 4).trans (by simp [go_sem, *])
  have f3_1_4 : v3.frozen? ⟨w.heap.size + 1, 4, none⟩ = false := (kf 4).trans (by simp [go_sem, *])
  have c3_1_5 : v3.cell? ⟨w.heap.size + 1, 5, none⟩ = some (.int .i64 kids) := (kc 5).trans (by simp [go_sem, *])
  have f3_1_5 : v3.frozen? ⟨w.heap.size + 1, 5, none⟩ = false := (kf 5).trans (by simp [go_sem, *])
  have c3_1_6 : v3.cell? ⟨w.heap.size + 1, 6, none⟩ = some (.int .i64 rest) := (kc 6).trans (by simp [go_sem, *])
  have f3_1_6 : v3.frozen? ⟨w.heap.size + 1, 6, none⟩ = false := (kf 6).trans (by simp [go_sem, *])
  have c3_1_7 : v3.cell? ⟨w.heap.size + 1, 7, none⟩ = some (.bool stopped) := (kc 7).trans (by simp [go_sem, *])
  have f3_1_7 : v3.frozen? ⟨w.heap.size + 1, 7, none⟩ = false := (kf 7).trans (by simp [go_sem, *])
  have c3_1_8 : v3.cell? ⟨w.heap.size + 1, 8, none⟩ = some (.slice vm.a vm.n vm.c) := (kc 8).trans (by simp [go_sem, *])
  have f3_1_8 : v3.frozen? ⟨w.heap.size + 1, 8, none⟩ = false := (kf 8).trans (by simp [go_sem, *])
  clear kc kf
  clear c2_0_0 f2_0_0 c2_0_1 f2_0_1 c2_0_2 f2_0_2 c2_0_3 f2_0_3 c2_0_4 f2_0_4 c2_0_5 f2_0_5 c2_0_6 f2_0_6 c2_0_7 f2_0_7 c2_0_8 f2_0_8 c2_1_0 f2_1_0 c2_1_1 f2_1_1 c2_1_2 f2_1_2 c2_1_3 f2_1_3 c2_1_4 f2_1_4 c2_1_5 f2_1_5 c2_1_6 f2_1_6 c2_1_7 f2_1_7 c2_1_8 f2_1_8
  go_wp2_with fail
  go_ret
  exact ⟨rfl, hB3⟩

end Go.Proofs.Ytjdjfjokniingaa
