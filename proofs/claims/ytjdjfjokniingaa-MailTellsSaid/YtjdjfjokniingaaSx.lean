/- retroactref16.requests on data that are alike. -/
import Derived.Test.YtjdjfjokniingaaSw
namespace Go.Proofs.Ytjdjfjokniingaa
open Go.RowKit

structure ReqC where
  path : ByteArray
  name : ByteArray
  args : Sl
  ord : Int
  reply : ByteArray
  sent : Int
  tick : Int
  isOpen : Bool
abbrev reqL (r : ReqC) : List Value := [.string r.path, .string r.name, .slice r.args.a r.args.n r.args.c, .int .i64 r.ord, .string r.reply, .int .i64 r.sent, .int .i64 r.tick, .bool r.isOpen]
/-- two requests that are alike -/
def ReqSame (w : World) (a b : ReqC) : Prop := b = { a with args := b.args } ∧ SameVs w a.args b.args
theorem ReqSame.below {w W : World} {a b : ReqC} (h : ReqSame w a b) (hb : Below w.heap.size w W) : ReqSame W a b := ⟨h.1, h.2.below hb⟩

set_option maxRecDepth 100000 in
set_option maxHeartbeats 1600000 in
theorem requests_true (xs ys : List ReqC) (n : Nat) (A1 A2 : Option Addr) (c1 c2 : Nat) (w : World) (h1 : Rd w w.heap.size 8 A1 n (xs.flatMap reqL)) (h2 : Rd w w.heap.size 8 A2 n (ys.flatMap reqL)) (hn : n ≤ 9223372036854775807)
    (hs : ∀ (k : Nat) (x y : ReqC), xs[k]? = some x → ys[k]? = some y → ReqSame w x y) :
    Calls Try.prog 69 #[.slice A1 n c1, .slice A2 n c2] w fun e w' => e = .returned (.bool true) ∧ Below w.heap.size w w' := by
  have H1 := Lib.hid h1
  have H2 := Lib.hid h2
  have HS := Lib.hid hs
  clear h1 h2 hs
  go_enter Try.func69, Try.ntmps69
  go_wp2
  go_loopw [5] (fun i wr => ∃ k : Nat, k ≤ n ∧ i = .int .i64 k ∧ Below w.heap.size w wr) (fun i _ => n - (intOf i).toNat)
  case atStart => exact ⟨0, Nat.zero_le _, rfl, Below.refl _ _⟩
  case round =>
    obtain ⟨k, hk, rfl, hbel⟩ := hrel
    by_cases hlt : k < n
    · obtain ⟨b1, o1, x, hA, hb1, ex, hc1⟩ := H1.out.at_ (fun _ => rfl) (by omega) hlt
      obtain ⟨b2, o2, y, hB, hb2, ey, hc2⟩ := H2.out.at_ (fun _ => rfl) (by omega) hlt
      have hsz := hbel.size
      obtain ⟨hy, hxy⟩ := (HS.out k x y ex ey).below hbel
      generalize hv : y.args = v at hy hxy
      subst hy
      clear hv
      have x0 : wr.cell? ⟨b1, o1 + k * 8, none⟩ = some (.string x.path) := (hbel.cell (p := ⟨b1, o1 + k * 8, none⟩) hb1).trans (hc1 0 _ rfl)
      have x1 : wr.cell? ⟨b1, o1 + k * 8 + 1, none⟩ = some (.string x.name) := (hbel.cell (p := ⟨b1, o1 + k * 8 + 1, none⟩) hb1).trans (hc1 1 _ rfl)
      have x2 : wr.cell? ⟨b1, o1 + k * 8 + 2, none⟩ = some (.slice x.args.a x.args.n x.args.c) := (hbel.cell (p := ⟨b1, o1 + k * 8 + 2, none⟩) hb1).trans (hc1 2 _ rfl)
      have x3 : wr.cell? ⟨b1, o1 + k * 8 + 3, none⟩ = some (.int .i64 x.ord) := (hbel.cell (p := ⟨b1, o1 + k * 8 + 3, none⟩) hb1).trans (hc1 3 _ rfl)
      have x4 : wr.cell? ⟨b1, o1 + k * 8 + 4, none⟩ = some (.string x.reply) := (hbel.cell (p := ⟨b1, o1 + k * 8 + 4, none⟩) hb1).trans (hc1 4 _ rfl)
      have x5 : wr.cell? ⟨b1, o1 + k * 8 + 5, none⟩ = some (.int .i64 x.sent) := (hbel.cell (p := ⟨b1, o1 + k * 8 + 5, none⟩) hb1).trans (hc1 5 _ rfl)
      have x6 : wr.cell? ⟨b1, o1 + k * 8 + 6, none⟩ = some (.int .i64 x.tick) := (hbel.cell (p := ⟨b1, o1 + k * 8 + 6, none⟩) hb1).trans (hc1 6 _ rfl)
      have x7 : wr.cell? ⟨b1, o1 + k * 8 + 7, none⟩ = some (.bool x.isOpen) := (hbel.cell (p := ⟨b1, o1 + k * 8 + 7, none⟩) hb1).trans (hc1 7 _ rfl)
      have y0 : wr.cell? ⟨b2, o2 + k * 8, none⟩ = some (.string x.path) := (hbel.cell (p := ⟨b2, o2 + k * 8, none⟩) hb2).trans (hc2 0 _ rfl)
      have y1 : wr.cell? ⟨b2, o2 + k * 8 + 1, none⟩ = some (.string x.name) := (hbel.cell (p := ⟨b2, o2 + k * 8 + 1, none⟩) hb2).trans (hc2 1 _ rfl)
      have y2 : wr.cell? ⟨b2, o2 + k * 8 + 2, none⟩ = some (.slice v.a v.n v.c) := (hbel.cell (p := ⟨b2, o2 + k * 8 + 2, none⟩) hb2).trans (hc2 2 _ rfl)
      have y3 : wr.cell? ⟨b2, o2 + k * 8 + 3, none⟩ = some (.int .i64 x.ord) := (hbel.cell (p := ⟨b2, o2 + k * 8 + 3, none⟩) hb2).trans (hc2 3 _ rfl)
      have y4 : wr.cell? ⟨b2, o2 + k * 8 + 4, none⟩ = some (.string x.reply) := (hbel.cell (p := ⟨b2, o2 + k * 8 + 4, none⟩) hb2).trans (hc2 4 _ rfl)
      have y5 : wr.cell? ⟨b2, o2 + k * 8 + 5, none⟩ = some (.int .i64 x.sent) := (hbel.cell (p := ⟨b2, o2 + k * 8 + 5, none⟩) hb2).trans (hc2 5 _ rfl)
      have y6 : wr.cell? ⟨b2, o2 + k * 8 + 6, none⟩ = some (.int .i64 x.tick) := (hbel.cell (p := ⟨b2, o2 + k * 8 + 6, none⟩) hb2).trans (hc2 6 _ rfl)
      have y7 : wr.cell? ⟨b2, o2 + k * 8 + 7, none⟩ = some (.bool x.isOpen) := (hbel.cell (p := ⟨b2, o2 + k * 8 + 7, none⟩) hb2).trans (hc2 7 _ rfl)
      have HXY := Lib.hid hxy
      have hixA : ∀ W : World, Sem.run Try.prog (Instr.indexAt 26 (.slice A1 n c1) (.int .i64 (k : Int))) W = .ok (.pointer (some ⟨b1, o1 + k * 8, none⟩)) W := by intro W; rw [hA]; go_simp
      have hixB : ∀ W : World, Sem.run Try.prog (Instr.indexAt 26 (.slice A2 n c2) (.int .i64 (k : Int))) W = .ok (.pointer (some ⟨b2, o2 + k * 8, none⟩)) W := by intro W; rw [hB]; go_simp
      clear hA hB ex ey hc1 hc2 hxy
      have n1 : ¬ b1 = wr.heap.size := by omega
      have n2 : ¬ b2 = wr.heap.size := by omega
      have n3 : b1 < wr.heap.size := by omega
      have n4 : b2 < wr.heap.size := by omega
      have HBEL := Lib.hid hbel
      clear hbel
      go_wp2_with fail
      refine (HXY.out _ (by repeat (first | (with_reducible exact Below.refl _ _) | (with_reducible assumption) | refine Below.setCell ?_ (by first | omega | (simp; omega) | (simp; done)) _ | refine Below.alloc ?_ (by first | omega | (simp; omega) | (simp; done)) _ | refine Below.drew ?_))).mono ?_
      rintro e v1 ⟨rfl, h1⟩
      have z1 := h1.size
      try simp at z1
      have hB1 : Below wr.heap.size wr v1 := Below.call (w := wr) (by repeat (first | (with_reducible exact Below.refl _ _) | (with_reducible assumption) | refine Below.setCell ?_ (by first | omega | (simp; omega) | (simp; done)) _ | refine Below.alloc ?_ (by first | omega | (simp; omega) | (simp; done)) _ | refine Below.drew ?_)) h1
      obtain ⟨k1_0, kc, kf⟩ := keepB h1 (wr.heap.size) (by first | omega | (simp; omega) | (simp; done))
      have c1_0_0 : v1.cell? ⟨wr.heap.size, 0, none⟩ = some (.string x.path) := (kc 0).trans (by simp [go_sem, *])
      have f1_0_0 : v1.frozen? ⟨wr.heap.size, 0, none⟩ = false := (kf 0).trans (by simp [go_sem, *])
      have c1_0_1 : v1.cell? ⟨wr.heap.size, 1, none⟩ = some (.string x.name) := (kc 1).trans (by simp [go_sem, *])
      have f1_0_1 : v1.frozen? ⟨wr.heap.size, 1, none⟩ = false := (kf 1).trans (by simp [go_sem, *])
      have c1_0_2 : v1.cell? ⟨wr.heap.size, 2, none⟩ = some (.slice x.args.a x.args.n x.args.c) := (kc 2).trans (by simp [go_sem, *])
      have f1_0_2 : v1.frozen? ⟨wr.heap.size, 2, none⟩ = false := (kf 2).trans (by simp [go_sem, *])
      have c1_0_3 : v1.cell? ⟨wr.heap.size, 3, none⟩ = some (.int .i64 x.ord) := (kc 3).trans (by simp [go_sem, *])
      have f1_0_3 : v1.frozen? ⟨wr.heap.size, 3, none⟩ = false := (kf 3).trans (by simp [go_sem, *])
      have c1_0_4 : v1.cell? ⟨wr.heap.size, 4, none⟩ = some (.string x.reply) := (kc 4).trans (by simp [go_sem, *])
      have f1_0_4 : v1.frozen? ⟨wr.heap.size, 4, none⟩ = false := (kf 4).trans (by simp [go_sem, *])
      have c1_0_5 : v1.cell? ⟨wr.heap.size, 5, none⟩ = some (.int .i64 x.sent) := (kc 5).trans (by simp [go_sem, *])
      have f1_0_5 : v1.frozen? ⟨wr.heap.size, 5, none⟩ = false := (kf 5).trans (by simp [go_sem, *])
      have c1_0_6 : v1.cell? ⟨wr.heap.size, 6, none⟩ = some (.int .i64 x.tick) := (kc 6).trans (by simp [go_sem, *])
      have f1_0_6 : v1.frozen? ⟨wr.heap.size, 6, none⟩ = false := (kf 6).trans (by simp [go_sem, *])
      have c1_0_7 : v1.cell? ⟨wr.heap.size, 7, none⟩ = some (.bool x.isOpen) := (kc 7).trans (by simp [go_sem, *])
      have f1_0_7 : v1.frozen? ⟨wr.heap.size, 7, none⟩ = false := (kf 7).trans (by simp [go_sem, *])
      clear kc kf
      obtain ⟨k1_1, kc, kf⟩ := keepB h1 (wr.heap.size + 1) (by first | omega | (simp; omega) | (simp; done))
      have c1_1_0 : v1.cell? ⟨wr.heap.size + 1, 0, none⟩ = some (.string x.path) := (kc 0).trans (by simp [go_sem, *])
      have f1_1_0 : v1.frozen? ⟨wr.heap.size + 1, 0, none⟩ = false := (kf 0).trans (by simp [go_sem, *])
      have c1_1_1 : v1.cell? ⟨wr.heap.size + 1, 1, none⟩ = some (.string x.name) := (kc 1).trans (by simp [go_sem, *])
      have f1_1_1 : v1.frozen? ⟨wr.heap.size + 1, 1, none⟩ = false := (kf 1).trans (by simp [go_sem, *])
      have c1_1_2 : v1.cell? ⟨wr.heap.size + 1, 2, none⟩ = some (.slice v.a v.n v.c) := (kc 2).trans (by simp [go_sem, *])
      have f1_1_2 : v1.frozen? ⟨wr.heap.size + 1, 2, none⟩ = false := (kf 2).trans (by simp [go_sem, *])
      have c1_1_3 : v1.cell? ⟨wr.heap.size + 1, 3, none⟩ = some (.int .i64 x.ord) := (kc 3).trans (by simp [go_sem, *])
      have f1_1_3 : v1.frozen? ⟨wr.heap.size + 1, 3, none⟩ = false := (kf 3).trans (by simp [go_sem, *])
      have c1_1_4 : v1.cell? ⟨wr.heap.size + 1, 4, none⟩ = some (.string x.reply) := (kc 4).trans (by simp [go_sem, *])
      have f1_1_4 : v1.frozen? ⟨wr.heap.size + 1, 4, none⟩ = false := (kf 4).trans (by simp [go_sem, *])
      have c1_1_5 : v1.cell? ⟨wr.heap.size + 1, 5, none⟩ = some (.int .i64 x.sent) := (kc 5).trans (by simp [go_sem, *])
      have f1_1_5 : v1.frozen? ⟨wr.heap.size + 1, 5, none⟩ = false := (kf 5).trans (by simp [go_sem, *])
      have c1_1_6 : v1.cell? ⟨wr.heap.size + 1, 6, none⟩ = some (.int .i64 x.tick) := (kc 6).trans (by simp [go_sem, *])
      have f1_1_6 : v1.frozen? ⟨wr.heap.size + 1, 6, none⟩ = false := (kf 6).trans (by simp [go_sem, *])
      have c1_1_7 : v1.cell? ⟨wr.heap.size + 1, 7, none⟩ = some (.bool x.isOpen) := (kc 7).trans (by simp [go_sem, *])
      have f1_1_7 : v1.frozen? ⟨wr.heap.size + 1, 7, none⟩ = false := (kf 7).trans (by simp [go_sem, *])
      clear kc kf
      go_wp2_with fail
      go_roundw
      case rel => exact ⟨k + 1, by omega, by go_num, Below.call HBEL.out hB1⟩
      case measure => simp [intOf]; omega
    · go_wp2_with fail
      go_ret
      exact ⟨rfl, hbel⟩
end Go.Proofs.Ytjdjfjokniingaa
