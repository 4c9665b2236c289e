/- The contract of retroactlaw20.small: the example has the documented results. -/
import Derived.Test.YtjdjfjokniingaaSl
namespace Go.Proofs.Ytjdjfjokniingaa
open Go.RowKit

theorem rd_block {W : World} {g k n : Nat} {t : TypeId} {fr : Nat × Nat} {cs : List Value} (h : W.heap[g]? = some (.cells cs.toArray t fr)) (hl : cs.length = n * k) : Rd W W.heap.size k (some ⟨g, 0, none⟩) n cs :=
  ⟨hl, fun _ => ⟨g, 0, rfl, (Array.getElem?_eq_some_iff.1 h).1, fun j u hu => by simp [World.cell?, h, hu]⟩⟩
theorem heap_keep {W w1 : World} {g : Nat} {o : Obj} (h : W.heap[g]? = some o) (hb : Below W.heap.size W w1) : w1.heap[g]? = some o := (hb.block g (Array.getElem?_eq_some_iff.1 h).1).trans h

theorem five (w : World) (o0 o1 o2 o3 o4 : Obj) : (((((w.alloc o0).alloc o1).alloc o2).alloc o3).alloc o4).heap[w.heap.size + 1]? = some o1 ∧ (((((w.alloc o0).alloc o1).alloc o2).alloc o3).alloc o4).heap[w.heap.size + 1 + 1]? = some o2 ∧ (((((w.alloc o0).alloc o1).alloc o2).alloc o3).alloc o4).heap[w.heap.size + 1 + 1 + 1 + 1]? = some o4 := by
  simp only [World.alloc, Array.getElem?_push, Array.size_push]
  refine ⟨?_, ?_, ?_⟩
  all_goals (repeat (first | rw [if_pos trivial] | rw [if_neg (by omega)]))

theorem two_new (w : World) (o o' : Obj) : ((w.alloc o).alloc o').drew.heap[w.heap.size + 1]? = some o' := by
  show ((w.alloc o).alloc o').heap[w.heap.size + 1]? = some o'
  simp only [World.alloc, Array.getElem?_push, Array.size_push]
  rw [if_pos trivial]

namespace S20
def ups : List Bool := [true, true]
def mail (B : Nat) : Sl := ⟨some ⟨B, 0, none⟩, 1, 1⟩
def sl0 : Sl := ⟨none, 0, 0⟩
def ls (B : Nat) : List LiveC := [⟨⟨#[48]⟩, ⟨#[]⟩, 0, sl0, sl0, 0, 0, false, mail B⟩, ⟨⟨#[48, 46, 49]⟩, ⟨#[]⟩, 1, sl0, sl0, 0, 0, false, mail B⟩, ⟨⟨#[48, 46, 50]⟩, ⟨#[]⟩, 0, sl0, sl0, 0, 0, false, sl0⟩, ⟨⟨#[48, 46, 51]⟩, ⟨#[]⟩, 0, sl0, sl0, 0, 0, true, mail B⟩]
def fls : List FlyC := [⟨1, 0, ⟨#[48]⟩, ⟨⟨#[]⟩, ⟨#[]⟩, sl0, 0⟩⟩, ⟨0, 1, ⟨#[48, 46, 49]⟩, ⟨⟨#[]⟩, ⟨#[]⟩, sl0, 0⟩⟩, ⟨1, 0, ⟨#[48]⟩, ⟨⟨#[]⟩, ⟨#[]⟩, sl0, 0⟩⟩]
def sys (B : Nat) : SysC := ⟨⟨some ⟨B + 1, 0, none⟩, 2, 2⟩, 0, 0, 0, ⟨some ⟨B + 1 + 1, 0, none⟩, 4, 4⟩, ⟨some ⟨B + 1 + 1 + 1 + 1, 0, none⟩, 3, 3⟩, sl0, sl0, 0⟩
def want : List ActnC := [⟨⟨#[48]⟩, 0, 0⟩, ⟨⟨#[48, 46, 49]⟩, 0, 0⟩, ⟨⟨#[]⟩, 0, 1⟩, ⟨⟨#[]⟩, 1, 0⟩]
theorem enabled_want (B : Nat) : Sy.enabled ups (ls B) (fls.map chOf) = want := by
  rw [Sy.enabled, Sy.srt_dd]
  rfl
/-- the blocks of the example -/
def St (B : Nat) (W : World) : Prop :=
  W.heap[B + 1]? = some (.cells #[.bool true, .bool true] 4 (0, 0)) ∧ W.heap[B + 1 + 1]? = some (.cells #[.string ⟨#[48]⟩, .string ⟨#[]⟩, .int .i64 0, .slice none 0 0, .slice none 0 0, .int .i64 0, .int .i64 0, .bool false, .slice (some ⟨B, 0, none⟩) 1 1, .string ⟨#[48, 46, 49]⟩, .string ⟨#[]⟩, .int .i64 1, .slice none 0 0, .slice none 0 0, .int .i64 0, .int .i64 0, .bool false, .slice (some ⟨B, 0, none⟩) 1 1, .string ⟨#[48, 46, 50]⟩, .string ⟨#[]⟩, .int .i64 0, .slice none 0 0, .slice none 0 0, .int .i64 0, .int .i64 0, .bool false, .slice none 0 0, .string ⟨#[48, 46, 51]⟩, .string ⟨#[]⟩, .int .i64 0, .slice none 0 0, .slice none 0 0, .int .i64 0, .int .i64 0, .bool true, .slice (some ⟨B, 0, none⟩) 1 1] 76 (0, 0)) ∧ W.heap[B + 1 + 1 + 1 + 1]? = some (.cells #[.int .i64 1, .int .i64 0, .string ⟨#[48]⟩, .string ⟨#[]⟩, .string ⟨#[]⟩, .slice none 0 0, .int .i64 0, .int .i64 0, .int .i64 1, .string ⟨#[48, 46, 49]⟩, .string ⟨#[]⟩, .string ⟨#[]⟩, .slice none 0 0, .int .i64 0, .int .i64 1, .int .i64 0, .string ⟨#[48]⟩, .string ⟨#[]⟩, .string ⟨#[]⟩, .slice none 0 0, .int .i64 0] 66 (0, 0))
theorem St.keep {B : Nat} {W w1 : World} (h : St B W) (hb : Below W.heap.size W w1) : St B w1 := ⟨heap_keep h.1 hb, heap_keep h.2.1 hb, heap_keep h.2.2 hb⟩
theorem St.alloc {B : Nat} {W : World} (h : St B W) (o : Obj) : St B (W.alloc o) := h.keep ((Below.refl _ _).alloc (Nat.le_refl _) o)
theorem fls_wf : ∀ f ∈ fls, (Lit.int .i64 f.x).wf = true ∧ (Lit.int .i64 f.y).wf = true := by
  intro f hf
  simp only [fls, List.mem_cons, List.not_mem_nil, or_false] at hf
  rcases hf with rfl | rfl | rfl <;> exact ⟨by decide, by decide⟩
theorem en (B : Nat) (W : World) (h : St B W) : Calls Try.prog 53 #[.agg #[.slice (some ⟨B + 1, 0, none⟩) 2 2, .int .i64 0, .int .i64 0, .int .i64 0, .slice (some ⟨B + 1 + 1, 0, none⟩) 4 4, .slice (some ⟨B + 1 + 1 + 1 + 1, 0, none⟩) 3 3, .slice none 0 0, .slice none 0 0, .int .i64 0]] W fun e w' => ∃ v : Sl, e = .returned (.slice v.a 4 v.c) ∧ Rd w' w'.heap.size 3 v.a 4 (want.flatMap actnL) ∧ Below W.heap.size W w' := by
  have := enabled_any (sys B) (ls B) fls ups W (rd_block (t := 4) (fr := (0, 0)) (cs := [.bool true, .bool true]) h.1 rfl) (rd_block (t := 76) (fr := (0, 0)) (cs := (ls B).flatMap liveL) h.2.1 rfl) (rd_block (t := 66) (fr := (0, 0)) (cs := fls.flatMap flyL) h.2.2 rfl) (show 4 * 128 ≤ 140737488351232 by decide) (show 3 * 64 ≤ 140737488351232 by decide) fls_wf
  rw [enabled_want] at this
  refine this.mono fun e w' ⟨v, he, hv, hb⟩ => ?_
  have hn : v.n = 4 := by have := hv.1; simp [want] at this; omega
  rw [hn] at he hv
  exact ⟨v, he, hv, hb⟩
theorem ch (B : Nat) (n : Int) (p : ByteArray) (x y : Int) (W : World) (h : St B W) (h1 : -9223372036854775808 ≤ n) (h2 : n ≤ 9223372036854775807) (ha : Sy.choose want n = ⟨p, x, y⟩) :
    Calls Try.prog 50 #[.agg #[.slice (some ⟨B + 1, 0, none⟩) 2 2, .int .i64 0, .int .i64 0, .int .i64 0, .slice (some ⟨B + 1 + 1, 0, none⟩) 4 4, .slice (some ⟨B + 1 + 1 + 1 + 1, 0, none⟩) 3 3, .slice none 0 0, .slice none 0 0, .int .i64 0], .int .i64 n] W fun e w' => e = .returned (.tuple #[.agg #[.string p, .int .i64 x, .int .i64 y], .bool true]) ∧ Below W.heap.size W w' := by
  have := choose_any (sys B) (ls B) fls ups n W (rd_block (t := 4) (fr := (0, 0)) (cs := [.bool true, .bool true]) h.1 rfl) (rd_block (t := 76) (fr := (0, 0)) (cs := (ls B).flatMap liveL) h.2.1 rfl) (rd_block (t := 66) (fr := (0, 0)) (cs := fls.flatMap flyL) h.2.2 rfl) (show 4 * 128 ≤ 140737488351232 by decide) (show 3 * 64 ≤ 140737488351232 by decide) fls_wf h1 h2
  rw [enabled_want, ha] at this
  exact this
theorem ch0 (n : Int) (W : World) (h1 : -9223372036854775808 ≤ n) (h2 : n ≤ 9223372036854775807) :
    Calls Try.prog 50 #[.agg #[.slice none 0 0, .int .i64 0, .int .i64 0, .int .i64 0, .slice none 0 0, .slice none 0 0, .slice none 0 0, .slice none 0 0, .int .i64 0], .int .i64 n] W fun e w' => e = .returned (.tuple #[.agg #[.string ⟨#[]⟩, .int .i64 0, .int .i64 0], .bool false]) ∧ Below W.heap.size W w' := by
  have := choose_any ⟨sl0, 0, 0, 0, sl0, sl0, sl0, sl0, 0⟩ [] [] [] n W Rd.none_ Rd.none_ Rd.none_ (by decide) (by decide) (by simp) h1 h2
  have e : Sy.enabled [] [] (([] : List FlyC).map chOf) = [] := by rw [Sy.enabled, Sy.srt_dd]; rfl
  rw [e] at this
  exact this
end S20

set_option maxRecDepth 100000 in
set_option maxHeartbeats 4000000 in
theorem small20 (w : World) : Calls Try.prog 48 #[] w fun e w' => e = .returned (.bool true) ∧ Below w.heap.size w w' := by
  go_enter Try.func48, Try.ntmps48
  go_wp2_with fail
  refine (S20.en w.heap.size _ ⟨(five w _ _ _ _ _).1, (five w _ _ _ _ _).2.1, (five w _ _ _ _ _).2.2⟩).mono ?_
  rintro e v1 ⟨vl, rfl, hvl, h1⟩
  have HS1 := Lib.hid (S20.St.keep ⟨(five w _ _ _ _ _).1, (five w _ _ _ _ _).2.1, (five w _ _ _ _ _).2.2⟩ h1)
  have z1 := h1.size
  try simp at z1
  have hB1 : Below w.heap.size w v1 := Below.call (w := w) (by repeat (first | (with_reducible exact Below.refl _ _) | (with_reducible assumption) | refine Below.setCell ?_ (by first | omega | (simp; omega) | (simp; done)) _ | refine Below.alloc ?_ (by first | omega | (simp; omega) | (simp; done)) _ | refine Below.drew ?_)) h1
  obtain ⟨k1_0, kc, kf⟩ := keepB h1 (w.heap.size + 1 + 1 + 1) (by first | omega | (simp; omega) | (simp; done))
  have c1_0_0 : v1.cell? ⟨w.heap.size + 1 + 1 + 1, 0, none⟩ = some (.slice (some ⟨w.heap.size + 1, 0, none⟩) 2 2) := (kc 0).trans (by simp [go_sem, *])
  have f1_0_0 : v1.frozen? ⟨w.heap.size + 1 + 1 + 1, 0, none⟩ = false := (kf 0).trans (by simp [go_sem, *])
  have c1_0_1 : v1.cell? ⟨w.heap.size + 1 + 1 + 1, 1, none⟩ = some (.int .i64 0) := (kc 1).trans (by simp [go_sem, *])
  have f1_0_1 : v1.frozen? ⟨w.heap.size + 1 + 1 + 1, 1, none⟩ = false := (kf 1).trans (by simp [go_sem, *])
  have c1_0_2 : v1.cell? ⟨w.heap.size + 1 + 1 + 1, 2, none⟩ = some (.int .i64 0) := (kc 2).trans (by simp [go_sem, *])
  have f1_0_2 : v1.frozen? ⟨w.heap.size + 1 + 1 + 1, 2, none⟩ = false := (kf 2).trans (by simp [go_sem, *])
  have c1_0_3 : v1.cell? ⟨w.heap.size + 1 + 1 + 1, 3, none⟩ = some (.int .i64 0) := (kc 3).trans (by simp [go_sem, *])
  have f1_0_3 : v1.frozen? ⟨w.heap.size + 1 + 1 + 1, 3, none⟩ = false := (kf 3).trans (by simp [go_sem, *])
  have c1_0_4 : v1.cell? ⟨w.heap.size + 1 + 1 + 1, 4, none⟩ = some (.slice (some ⟨w.heap.size + 1 + 1, 0, none⟩) 4 4) := (kc 4).trans (by simp [go_sem, *])
  have f1_0_4 : v1.frozen? ⟨w.heap.size + 1 + 1 + 1, 4, none⟩ = false := (kf 4).trans (by simp [go_sem, *])
  have c1_0_5 : v1.cell? ⟨w.heap.size + 1 + 1 + 1, 5, none⟩ = some (.slice (some ⟨w.heap.size + 1 + 1 + 1 + 1, 0, none⟩) 3 3) := (kc 5).trans (by simp [go_sem, *])
  have f1_0_5 : v1.frozen? ⟨w.heap.size + 1 + 1 + 1, 5, none⟩ = false := (kf 5).trans (by simp [go_sem, *])
  have c1_0_6 : v1.cell? ⟨w.heap.size + 1 + 1 + 1, 6, none⟩ = some (.slice none 0 0) := (kc 6).trans (by simp [go_sem, *])
  have f1_0_6 : v1.frozen? ⟨w.heap.size + 1 + 1 + 1, 6, none⟩ = false := (kf 6).trans (by simp [go_sem, *])
  have c1_0_7 : v1.cell? ⟨w.heap.size + 1 + 1 + 1, 7, none⟩ = some (.slice none 0 0) := (kc 7).trans (by simp [go_sem, *])
  have f1_0_7 : v1.frozen? ⟨w.heap.size + 1 + 1 + 1, 7, none⟩ = false := (kf 7).trans (by simp [go_sem, *])
  have c1_0_8 : v1.cell? ⟨w.heap.size + 1 + 1 + 1, 8, none⟩ = some (.int .i64 0) := (kc 8).trans (by simp [go_sem, *])
  have f1_0_8 : v1.frozen? ⟨w.heap.size + 1 + 1 + 1, 8, none⟩ = false := (kf 8).trans (by simp [go_sem, *])
  clear kc kf
  have HVL := Lib.hid hvl
  clear hvl
  go_wp2_with fail
  refine (S20.ch w.heap.size (-1) ⟨#[]⟩ 1 0 _ HS1.out (by decide) (by decide) rfl).mono ?_
  rintro e v2 ⟨rfl, h2⟩
  have z2 := h2.size
  try simp at z2
  have hB2 : Below w.heap.size w v2 := Below.call (w := w) (by repeat (first | (with_reducible exact Below.refl _ _) | (with_reducible assumption) | refine Below.setCell ?_ (by first | omega | (simp; omega) | (simp; done)) _ | refine Below.alloc ?_ (by first | omega | (simp; omega) | (simp; done)) _ | refine Below.drew ?_)) h2
  obtain ⟨k2_0, kc, kf⟩ := keepB h2 (w.heap.size + 1 + 1 + 1) (by first | omega | (simp; omega) | (simp; done))
  have c2_0_0 : v2.cell? ⟨w.heap.size + 1 + 1 + 1, 0, none⟩ = some (.slice (some ⟨w.heap.size + 1, 0, none⟩) 2 2) := (kc 0).trans (by simp [go_sem, *])
  have f2_0_0 : v2.frozen? ⟨w.heap.size + 1 + 1 + 1, 0, none⟩ = false := (kf 0).trans (by simp [go_sem, *])
  have c2_0_1 : v2.cell? ⟨w.heap.size + 1 + 1 + 1, 1, none⟩ = some (.int .i64 0) := (kc 1).trans (by simp [go_sem, *])
  have f2_0_1 : v2.frozen? ⟨w.heap.size + 1 + 1 + 1, 1, none⟩ = false := (kf 1).trans (by simp [go_sem, *])
  have c2_0_2 : v2.cell? ⟨w.heap.size + 1 + 1 + 1, 2, none⟩ = some (.int .i64 0) := (kc 2).trans (by simp [go_sem, *])
  have f2_0_2 : v2.frozen? ⟨w.heap.size + 1 + 1 + 1, 2, none⟩ = false := (kf 2).trans (by simp [go_sem, *])
  have c2_0_3 : v2.cell? ⟨w.heap.size + 1 + 1 + 1, 3, none⟩ = some (.int .i64 0) := (kc 3).trans (by simp [go_sem, *])
  have f2_0_3 : v2.frozen? ⟨w.heap.size + 1 + 1 + 1, 3, none⟩ = false := (kf 3).trans (by simp [go_sem, *])
  have c2_0_4 : v2.cell? ⟨w.heap.size + 1 + 1 + 1, 4, none⟩ = some (.slice (some ⟨w.heap.size + 1 + 1, 0, none⟩) 4 4) := (kc 4).trans (by simp [go_sem, *])
  have f2_0_4 : v2.frozen? ⟨w.heap.size + 1 + 1 + 1, 4, none⟩ = false := (kf 4).trans (by simp [go_sem, *])
  have c2_0_5 : v2.cell? ⟨w.heap.size + 1 + 1 + 1, 5, none⟩ = some (.slice (some ⟨w.heap.size + 1 + 1 + 1 + 1, 0, none⟩) 3 3) := (kc 5).trans (by simp [go_sem, *])
  have f2_0_5 : v2.frozen? ⟨w.heap.size + 1 + 1 + 1, 5, none⟩ = false := (kf 5).trans (by simp [go_sem, *])
  have c2_0_6 : v2.cell? ⟨w.heap.size + 1 + 1 + 1, 6, none⟩ = some (.slice none 0 0) := (kc 6).trans (by simp [go_sem, *])
  have f2_0_6 : v2.frozen? ⟨w.heap.size + 1 + 1 + 1, 6, none⟩ = false := (kf 6).trans (by simp [go_sem, *])
  have c2_0_7 : v2.cell? ⟨w.heap.size + 1 + 1 + 1, 7, none⟩ = some (.slice none 0 0) := (kc 7).trans (by simp [go_sem, *])
  have f2_0_7 : v2.frozen? ⟨w.heap.size + 1 + 1 + 1, 7, none⟩ = false := (kf 7).trans (by simp [go_sem, *])
  have c2_0_8 : v2.cell? ⟨w.heap.size + 1 + 1 + 1, 8, none⟩ = some (.int .i64 0) := (kc 8).trans (by simp [go_sem, *])
  have f2_0_8 : v2.frozen? ⟨w.heap.size + 1 + 1 + 1, 8, none⟩ = false := (kf 8).trans (by simp [go_sem, *])
  clear kc kf
  clear c1_0_0 f1_0_0 c1_0_1 f1_0_1 c1_0_2 f1_0_2 c1_0_3 f1_0_3 c1_0_4 f1_0_4 c1_0_5 f1_0_5 c1_0_6 f1_0_6 c1_0_7 f1_0_7 c1_0_8 f1_0_8
  have HS2 := Lib.hid (S20.St.keep HS1.out h2)
  go_wp2_with fail
  refine (S20.ch w.heap.size 5 ⟨#[48, 46, 49]⟩ 0 0 _ (HS2.out.alloc _) (by decide) (by decide) rfl).mono ?_
  rintro e v3 ⟨rfl, h3⟩
  have z3 := h3.size
  try simp at z3
  have hB3 : Below w.heap.size w v3 := Below.call (w := w) (by repeat (first | (with_reducible exact Below.refl _ _) | (with_reducible assumption) | refine Below.setCell ?_ (by first | omega | (simp; omega) | (simp; done)) _ | refine Below.alloc ?_ (by first | omega | (simp; omega) | (simp; done)) _ | refine Below.drew ?_)) h3
  obtain ⟨k3_0, kc, kf⟩ := keepB h3 (w.heap.size + 1 + 1 + 1) (by first | omega | (simp; omega) | (simp; done))
  have c3_0_0 : v3.cell? ⟨w.heap.size + 1 + 1 + 1, 0, none⟩ = some (.slice (some ⟨w.heap.size + 1, 0, none⟩) 2 2) := (kc 0).trans (by simp [go_sem, *])
  have f3_0_0 : v3.frozen? ⟨w.heap.size + 1 + 1 + 1, 0, none⟩ = false := (kf 0).trans (by simp [go_sem, *])
  have c3_0_1 : v3.cell? ⟨w.heap.size + 1 + 1 + 1, 1, none⟩ = some (.int .i64 0) := (kc 1).trans (by simp [go_sem, *])
  have f3_0_1 : v3.frozen? ⟨w.heap.size + 1 + 1 + 1, 1, none⟩ = false := (kf 1).trans (by simp [go_sem, *])
  have c3_0_2 : v3.cell? ⟨w.heap.size + 1 + 1 + 1, 2, none⟩ = some (.int .i64 0) := (kc 2).trans (by simp [go_sem, *])
  have f3_0_2 : v3.frozen? ⟨w.heap.size + 1 + 1 + 1, 2, none⟩ = false := (kf 2).trans (by simp [go_sem, *])
  have c3_0_3 : v3.cell? ⟨w.heap.size + 1 + 1 + 1, 3, none⟩ = some (.int .i64 0) := (kc 3).trans (by simp [go_sem, *])
  have f3_0_3 : v3.frozen? ⟨w.heap.size + 1 + 1 + 1, 3, none⟩ = false := (kf 3).trans (by simp [go_sem, *])
  have c3_0_4 : v3.cell? ⟨w.heap.size + 1 + 1 + 1, 4, none⟩ = some (.slice (some ⟨w.heap.size + 1 + 1, 0, none⟩) 4 4) := (kc 4).trans (by simp [go_sem, *])
  have f3_0_4 : v3.frozen? ⟨w.heap.size + 1 + 1 + 1, 4, none⟩ = false := (kf 4).trans (by simp [go_sem, *])
  have c3_0_5 : v3.cell? ⟨w.heap.size + 1 + 1 + 1, 5, none⟩ = some (.slice (some ⟨w.heap.size + 1 + 1 + 1 + 1, 0, none⟩) 3 3) := (kc 5).trans (by simp [go_sem, *])
  have f3_0_5 : v3.frozen? ⟨w.heap.size + 1 + 1 + 1, 5, none⟩ = false := (kf 5).trans (by simp [go_sem, *])
  have c3_0_6 : v3.cell? ⟨w.heap.size + 1 + 1 + 1, 6, none⟩ = some (.slice none 0 0) := (kc 6).trans (by simp [go_sem, *])
  have f3_0_6 : v3.frozen? ⟨w.heap.size + 1 + 1 + 1, 6, none⟩ = false := (kf 6).trans (by simp [go_sem, *])
  have c3_0_7 : v3.cell? ⟨w.heap.size + 1 + 1 + 1, 7, none⟩ = some (.slice none 0 0) := (kc 7).trans (by simp [go_sem, *])
  have f3_0_7 : v3.frozen? ⟨w.heap.size + 1 + 1 + 1, 7, none⟩ = false := (kf 7).trans (by simp [go_sem, *])
  have c3_0_8 : v3.cell? ⟨w.heap.size + 1 + 1 + 1, 8, none⟩ = some (.int .i64 0) := (kc 8).trans (by simp [go_sem, *])
  have f3_0_8 : v3.frozen? ⟨w.heap.size + 1 + 1 + 1, 8, none⟩ = false := (kf 8).trans (by simp [go_sem, *])
  clear kc kf
  obtain ⟨k3_1, kc, kf⟩ := keepB h3 (v2.heap.size) (by first | omega | (simp; omega) | (simp; done))
  have c3_1_0 : v3.cell? ⟨v2.heap.size, 0, none⟩ = some (.string ⟨#[]⟩) := (kc 0).trans (by simp [go_sem, *])
  have f3_1_0 : v3.frozen? ⟨v2.heap.size, 0, none⟩ = false := (kf 0).trans (by simp [go_sem, *])
  have c3_1_1 : v3.cell? ⟨v2.heap.size, 1, none⟩ = some (.int .i64 1) := (kc 1).trans (by simp [go_sem, *])
  have f3_1_1 : v3.frozen? ⟨v2.heap.size, 1, none⟩ = false := (kf 1).trans (by simp [go_sem, *])
  have c3_1_2 : v3.cell? ⟨v2.heap.size, 2, none⟩ = some (.int .i64 0) := (kc 2).trans (by simp [go_sem, *])
  have f3_1_2 : v3.frozen? ⟨v2.heap.size, 2, none⟩ = false := (kf 2).trans (by simp [go_sem, *])
  clear kc kf
  clear c2_0_0 f2_0_0 c2_0_1 f2_0_1 c2_0_2 f2_0_2 c2_0_3 f2_0_3 c2_0_4 f2_0_4 c2_0_5 f2_0_5 c2_0_6 f2_0_6 c2_0_7 f2_0_7 c2_0_8 f2_0_8
  go_wp2_with fail
  refine (S20.ch0 3 _ (by decide) (by decide)).mono ?_
  rintro e v4 ⟨rfl, h4⟩
  have z4 := h4.size
  try simp at z4
  have hB4 : Below w.heap.size w v4 := Below.call (w := w) (by repeat (first | (with_reducible exact Below.refl _ _) | (with_reducible assumption) | refine Below.setCell ?_ (by first | omega | (simp; omega) | (simp; done)) _ | refine Below.alloc ?_ (by first | omega | (simp; omega) | (simp; done)) _ | refine Below.drew ?_)) h4
  obtain ⟨k4_0, kc, kf⟩ := keepB h4 (w.heap.size + 1 + 1 + 1) (by first | omega | (simp; omega) | (simp; done))
  have c4_0_0 : v4.cell? ⟨w.heap.size + 1 + 1 + 1, 0, none⟩ = some (.slice (some ⟨w.heap.size + 1, 0, none⟩) 2 2) := (kc 0).trans (by simp [go_sem, *])
  have f4_0_0 : v4.frozen? ⟨w.heap.size + 1 + 1 + 1, 0, none⟩ = false := (kf 0).trans (by simp [go_sem, *])
  have c4_0_1 : v4.cell? ⟨w.heap.size + 1 + 1 + 1, 1, none⟩ = some (.int .i64 0) := (kc 1).trans (by simp [go_sem, *])
  have f4_0_1 : v4.frozen? ⟨w.heap.size + 1 + 1 + 1, 1, none⟩ = false := (kf 1).trans (by simp [go_sem, *])
  have c4_0_2 : v4.cell? ⟨w.heap.size + 1 + 1 + 1, 2, none⟩ = some (.int .i64 0) := (kc 2).trans (by simp [go_sem, *])
  have f4_0_2 : v4.frozen? ⟨w.heap.size + 1 + 1 + 1, 2, none⟩ = false := (kf 2).trans (by simp [go_sem, *])
  have c4_0_3 : v4.cell? ⟨w.heap.size + 1 + 1 + 1, 3, none⟩ = some (.int .i64 0) := (kc 3).trans (by simp [go_sem, *])
  have f4_0_3 : v4.frozen? ⟨w.heap.size + 1 + 1 + 1, 3, none⟩ = false := (kf 3).trans (by simp [go_sem, *])
  have c4_0_4 : v4.cell? ⟨w.heap.size + 1 + 1 + 1, 4, none⟩ = some (.slice (some ⟨w.heap.size + 1 + 1, 0, none⟩) 4 4) := (kc 4).trans (by simp [go_sem, *])
  have f4_0_4 : v4.frozen? ⟨w.heap.size + 1 + 1 + 1, 4, none⟩ = false := (kf 4).trans (by simp [go_sem, *])
  have c4_0_5 : v4.cell? ⟨w.heap.size + 1 + 1 + 1, 5, none⟩ = some (.slice (some ⟨w.heap.size + 1 + 1 + 1 + 1, 0, none⟩) 3 3) := (kc 5).trans (by simp [go_sem, *])
  have f4_0_5 : v4.frozen? ⟨w.heap.size + 1 + 1 + 1, 5, none⟩ = false := (kf 5).trans (by simp [go_sem, *])
  have c4_0_6 : v4.cell? ⟨w.heap.size + 1 + 1 + 1, 6, none⟩ = some (.slice none 0 0) := (kc 6).trans (by simp [go_sem, *])
  have f4_0_6 : v4.frozen? ⟨w.heap.size + 1 + 1 + 1, 6, none⟩ = false := (kf 6).trans (by simp [go_sem, *])
  have c4_0_7 : v4.cell? ⟨w.heap.size + 1 + 1 + 1, 7, none⟩ = some (.slice none 0 0) := (kc 7).trans (by simp [go_sem, *])
  have f4_0_7 : v4.frozen? ⟨w.heap.size + 1 + 1 + 1, 7, none⟩ = false := (kf 7).trans (by simp [go_sem, *])
  have c4_0_8 : v4.cell? ⟨w.heap.size + 1 + 1 + 1, 8, none⟩ = some (.int .i64 0) := (kc 8).trans (by simp [go_sem, *])
  have f4_0_8 : v4.frozen? ⟨w.heap.size + 1 + 1 + 1, 8, none⟩ = false := (kf 8).trans (by simp [go_sem, *])
  clear kc kf
  obtain ⟨k4_1, kc, kf⟩ := keepB h4 (v2.heap.size) (by first | omega | (simp; omega) | (simp; done))
  have c4_1_0 : v4.cell? ⟨v2.heap.size, 0, none⟩ = some (.string ⟨#[]⟩) := (kc 0).trans (by simp [go_sem, *])
  have f4_1_0 : v4.frozen? ⟨v2.heap.size, 0, none⟩ = false := (kf 0).trans (by simp [go_sem, *])
  have c4_1_1 : v4.cell? ⟨v2.heap.size, 1, none⟩ = some (.int .i64 1) := (kc 1).trans (by simp [go_sem, *])
  have f4_1_1 : v4.frozen? ⟨v2.heap.size, 1, none⟩ = false := (kf 1).trans (by simp [go_sem, *])
  have c4_1_2 : v4.cell? ⟨v2.heap.size, 2, none⟩ = some (.int .i64 0) := (kc 2).trans (by simp [go_sem, *])
  have f4_1_2 : v4.frozen? ⟨v2.heap.size, 2, none⟩ = false := (kf 2).trans (by simp [go_sem, *])
  clear kc kf
  obtain ⟨k4_2, kc, kf⟩ := keepB h4 (v3.heap.size) (by first | omega | (simp; omega) | (simp; done))
  have c4_2_0 : v4.cell? ⟨v3.heap.size, 0, none⟩ = some (.string ⟨#[48, 46, 49]⟩) := (kc 0).trans (by simp [go_sem, *])
  have f4_2_0 : v4.frozen? ⟨v3.heap.size, 0, none⟩ = false := (kf 0).trans (by simp [go_sem, *])
  have c4_2_1 : v4.cell? ⟨v3.heap.size, 1, none⟩ = some (.int .i64 0) := (kc 1).trans (by simp [go_sem, *])
  have f4_2_1 : v4.frozen? ⟨v3.heap.size, 1, none⟩ = false := (kf 1).trans (by simp [go_sem, *])
  have c4_2_2 : v4.cell? ⟨v3.heap.size, 2, none⟩ = some (.int .i64 0) := (kc 2).trans (by simp [go_sem, *])
  have f4_2_2 : v4.frozen? ⟨v3.heap.size, 2, none⟩ = false := (kf 2).trans (by simp [go_sem, *])
  clear kc kf
  clear c3_0_0 f3_0_0 c3_0_1 f3_0_1 c3_0_2 f3_0_2 c3_0_3 f3_0_3 c3_0_4 f3_0_4 c3_0_5 f3_0_5 c3_0_6 f3_0_6 c3_0_7 f3_0_7 c3_0_8 f3_0_8 c3_1_0 f3_1_0 c3_1_1 f3_1_1 c3_1_2 f3_1_2
  go_wp2_with fail
  have HV2 := Lib.hid (Below.call (w := v1) (Below.refl _ _) h2)
  have HV3 := Lib.hid (Below.call (w := v1) (HV2.out.alloc (by omega) (.cells #[.string ⟨#[]⟩, .int .i64 1, .int .i64 0] 81)) h3)
  have HV4 := Lib.hid (Below.call (w := v1) (HV3.out.alloc (by omega) (.cells #[.string ⟨#[48, 46, 49]⟩, .int .i64 0, .int .i64 0] 81)) h4)
  have HSM := Lib.hid (fun (W : World) (hW : Below v4.heap.size v4 W) (hw : W.heap[v4.heap.size + 1]? = some (.cells #[.string ⟨#[48]⟩, .int .i64 0, .int .i64 0, .string ⟨#[48, 46, 49]⟩, .int .i64 0, .int .i64 0, .string ⟨#[]⟩, .int .i64 0, .int .i64 1, .string ⟨#[]⟩, .int .i64 1, .int .i64 0] 81 (0, 0))) => sameA_true vl.a (some ⟨v4.heap.size + 1, 0, none⟩) vl.c 4 S20.want W ((HVL.out.below (Below.call (w := v1) HV4.out hW) (Nat.le_refl _)).more (by have := hW.size; omega)) (rd_block (t := 81) (fr := (0, 0)) (cs := S20.want.flatMap actnL) hw rfl) (by decide))
  clear h1 h2 h3 h4 z1 HVL HS1 HS2 HV2 HV3 HV4
  go_region_held3 (fun w' => w'.cell? ⟨v2.heap.size, 0, none⟩ = some (.string ⟨#[]⟩) ∧ w'.cell? ⟨v2.heap.size, 1, none⟩ = some (.int .i64 1) ∧ w'.cell? ⟨v2.heap.size, 2, none⟩ = some (.int .i64 0) ∧ w'.cell? ⟨v3.heap.size, 0, none⟩ = some (.string ⟨#[48, 46, 49]⟩) ∧ w'.cell? ⟨v3.heap.size, 1, none⟩ = some (.int .i64 0) ∧ w'.cell? ⟨v3.heap.size, 2, none⟩ = some (.int .i64 0) ∧ w'.cell? ⟨v4.heap.size + 1, 3, none⟩ = some (.string ⟨#[48, 46, 49]⟩) ∧ w'.cell? ⟨v4.heap.size + 1, 4, none⟩ = some (.int .i64 0) ∧ w'.cell? ⟨v4.heap.size + 1, 5, none⟩ = some (.int .i64 0) ∧ w'.cell? ⟨v4.heap.size + 1, 9, none⟩ = some (.string ⟨#[]⟩) ∧ w'.cell? ⟨v4.heap.size + 1, 10, none⟩ = some (.int .i64 1) ∧ w'.cell? ⟨v4.heap.size + 1, 11, none⟩ = some (.int .i64 0)) (simp [go_sem, *])
    (first | (go_at_call 52; refine (HSM.out _ (((Below.refl _ _).alloc (Nat.le_refl _) _).alloc (by simp) _).drew (two_new _ _ _)).mono ?_; rintro e v5 ⟨rfl, h5⟩; have z5 := h5.size; simp at z5; have hB5 := Lib.hid (Below.call (w := w) (((hB4.alloc (by omega) _).alloc (by simp; omega) _).drew) h5); obtain ⟨k1, ka, kb⟩ := keepB h5 (v2.heap.size) (by simp; omega); obtain ⟨k1, kc, kd⟩ := keepB h5 (v3.heap.size) (by simp; omega); obtain ⟨k1, ke, kf⟩ := keepB h5 (v4.heap.size + 1) (by simp)))
  go_wp2_with fail
  go_ret
  exact ⟨rfl, hB5.out⟩
end Go.Proofs.Ytjdjfjokniingaa
