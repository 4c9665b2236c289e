/- The contracts of mail.without and timer.kept. -/
import Derived.Test.YtjdjfjokniingaaMb
namespace Go.Proofs.Ytjdjfjokniingaa
open Go.RowKit

abbrev flyV (f : FlyC) : Value := .agg #[.int .i64 f.x, .int .i64 f.y, .string f.path, .string f.l.src, .string f.l.msg, .slice f.l.args.a f.l.args.n f.l.args.c, .int .i64 f.l.sent]
def WoRel (T : Nat) (fs : List FlyC) (p : FlyC → Bool) (n : Nat) (w : World) (v i : Value) (wr : World) : Prop :=
  ∃ k : Nat, k ≤ n ∧ i = .int .i64 k ∧ wr.ownsRow w.heap.size T 7 v ((fs.take k).filter p).length (((fs.take k).filter p).flatMap flyL) ∧ Below w.heap.size w wr
theorem WoRel.keep {T : Nat} {fs : List FlyC} {p : FlyC → Bool} {n : Nat} {w wr w1 : World} {v : Value} {k : Nat} {a : FlyC} (hk : k < n) (ha : fs[k]? = some a) (hp : p a = false) (o : Obj)
    (hR : wr.ownsRow w.heap.size T 7 v ((fs.take k).filter p).length (((fs.take k).filter p).flatMap flyL)) (hB : Below w.heap.size w wr) (h1 : Below (wr.alloc o).heap.size (wr.alloc o) w1) : WoRel T fs p n w v (.int .i64 ((k + 1 : Nat) : Int)) w1 := by
  have e : (fs.take (k + 1)).filter p = (fs.take k).filter p := by rw [take_snoc' _ k a ha, List.filter_append]; simp [hp]
  refine ⟨k + 1, by omega, rfl, ?_, Below.call (hB.alloc hB.size o) h1⟩
  rw [e]
  exact own_below (hR.alloc o) h1
theorem WoRel.add {T : Nat} {fs : List FlyC} {p : FlyC → Bool} {n : Nat} {w wr w1 w3 : World} {v v' : Value} {k : Nat} {a : FlyC} (hk : k < n) (ha : fs[k]? = some a) (hp : p a = true) (o o' : Obj)
    (hR0 : wr.ownsRow w.heap.size T 7 v ((fs.take k).filter p).length (((fs.take k).filter p).flatMap flyL)) (hB : Below w.heap.size w wr) (h1 : Below (wr.alloc o).heap.size (wr.alloc o) w1)
    (hR : w3.ownsRow w.heap.size T 7 v' (((fs.take k).filter p).length + 1) ((((fs.take k).filter p).flatMap flyL) ++ flyL a)) (hg : (w1.alloc o').grownBy w3 v.ownBlock) : WoRel T fs p n w v' (.int .i64 ((k + 1 : Nat) : Int)) w3 := by
  have e : (fs.take (k + 1)).filter p = (fs.take k).filter p ++ [a] := by rw [take_snoc' _ k a ha, List.filter_append]; simp [hp]
  have s1 := h1.size
  have s2 := hB.size
  simp at s1
  refine ⟨k + 1, by omega, rfl, ?_, ?_⟩
  · rw [e]; simpa using hR
  · exact ((Below.call (hB.alloc hB.size o) h1).alloc (by omega) o').grown hg (by simp; omega) (row_base hR0)

set_option maxRecDepth 100000 in
set_option maxHeartbeats 1600000 in
theorem without85 (fs : List FlyC) (u : Sl) (bd : Value) (gone : FlyC → Bool) (w : World) (h : Rd w w.heap.size 7 u.a u.n (fs.flatMap flyL)) (hn : u.n ≤ 1000000)
    (hc : ∀ (W : World) (f : FlyC), Below w.heap.size w W → f ∈ fs → Calls Try.prog 86 #[flyV f, bd] W fun e w' => e = .returned (.bool (gone f)) ∧ Below W.heap.size W w') :
    Calls Try.prog 85 #[.slice u.a u.n u.c, .func (.func 86) #[] #[bd]] w (OwnPost 47 7 (fs.filter (fun f => !gone f)).length ((fs.filter (fun f => !gone f)).flatMap flyL) w) := by
  have H := Lib.hid h
  have HC := Lib.hid hc
  have HL := Lib.hid (h.len (fun _ => rfl) (by omega))
  clear h hc
  go_enter Try.func85, Try.ntmps85
  go_wp2
  go_loopw [5, 10] (WoRel 47 fs (fun f => !gone f) u.n w) (fun _ i _ => u.n - (intOf i).toNat)
  case atStart => exact ⟨0, Nat.zero_le _, rfl, World.ownsRow_nil _ _ _ _, Below.refl _ _⟩
  case round =>
    obtain ⟨k, hk, rfl, hrow, hB⟩ := hrel
    have hsz := hB.size
    have HR := Lib.hid hrow
    clear hrow
    by_cases hlt : k < u.n
    · obtain ⟨b, off, f, hA, hb, hfk, hcl⟩ := H.out.at_ (fun _ => rfl) (by omega) hlt
      have x0 : wr.cell? ⟨b, off + k * 7, none⟩ = some (.int .i64 f.x) := (hB.cell (p := ⟨b, off + k * 7, none⟩) hb).trans (hcl 0 _ rfl)
      have x1 : wr.cell? ⟨b, off + k * 7 + 1, none⟩ = some (.int .i64 f.y) := (hB.cell (p := ⟨b, off + k * 7 + 1, none⟩) hb).trans (hcl 1 _ rfl)
      have x2 : wr.cell? ⟨b, off + k * 7 + 2, none⟩ = some (.string f.path) := (hB.cell (p := ⟨b, off + k * 7 + 2, none⟩) hb).trans (hcl 2 _ rfl)
      have x3 : wr.cell? ⟨b, off + k * 7 + 3, none⟩ = some (.string f.l.src) := (hB.cell (p := ⟨b, off + k * 7 + 3, none⟩) hb).trans (hcl 3 _ rfl)
      have x4 : wr.cell? ⟨b, off + k * 7 + 4, none⟩ = some (.string f.l.msg) := (hB.cell (p := ⟨b, off + k * 7 + 4, none⟩) hb).trans (hcl 4 _ rfl)
      have x5 : wr.cell? ⟨b, off + k * 7 + 5, none⟩ = some (.slice f.l.args.a f.l.args.n f.l.args.c) := (hB.cell (p := ⟨b, off + k * 7 + 5, none⟩) hb).trans (hcl 5 _ rfl)
      have x6 : wr.cell? ⟨b, off + k * 7 + 6, none⟩ = some (.int .i64 f.l.sent) := (hB.cell (p := ⟨b, off + k * 7 + 6, none⟩) hb).trans (hcl 6 _ rfl)
      have hix : ∀ W : World, Sem.run Try.prog (Instr.indexAt 25 (.slice u.a u.n u.c) (.int .i64 (k : Int))) W = .ok (.pointer (some ⟨b, off + k * 7, none⟩)) W := by intro W; rw [hA]; go_simp
      have HF := Lib.hid hfk
      clear hA hfk hcl
      have n1 : ¬ b = wr.heap.size := by omega
      obtain ⟨i0, hi, hz0, hz1, hz2⟩ := info_parts info47
      have hln : ((fs.take k).filter (fun f => !gone f)).length ≤ k := Nat.le_trans (List.length_filter_le _ _) (by simp; omega)
      cases hg : gone f with
      | true =>
        go_wp2_with fail
        refine (HC.out _ f (hB.alloc hsz _) (List.mem_of_getElem? HF.out)).mono ?_
        rintro e w1 ⟨rfl, h1⟩
        have HH := Lib.hid h1
        clear h1
        rw [hg]
        go_wp2_with fail
        go_roundw
        case rel => exact WoRel.keep hlt HF.out (by simp [hg]) _ HR.out hB HH.out
        case measure => simp [intOf]; omega
      | false =>
        go_wp2_with fail
        refine (HC.out _ f (hB.alloc hsz _) (List.mem_of_getElem? HF.out)).mono ?_
        rintro e w1 ⟨rfl, h1⟩
        have z1 := h1.size
        simp at z1
        obtain ⟨g0, kc, kf⟩ := keepB h1 wr.heap.size (by simp)
        have c0 : w1.cell? ⟨wr.heap.size, 0, none⟩ = some (.int .i64 f.x) := (kc 0).trans (by simp [go_sem, *])
        have c1 : w1.cell? ⟨wr.heap.size, 1, none⟩ = some (.int .i64 f.y) := (kc 1).trans (by simp [go_sem, *])
        have c2 : w1.cell? ⟨wr.heap.size, 2, none⟩ = some (.string f.path) := (kc 2).trans (by simp [go_sem, *])
        have c3 : w1.cell? ⟨wr.heap.size, 3, none⟩ = some (.string f.l.src) := (kc 3).trans (by simp [go_sem, *])
        have c4 : w1.cell? ⟨wr.heap.size, 4, none⟩ = some (.string f.l.msg) := (kc 4).trans (by simp [go_sem, *])
        have c5 : w1.cell? ⟨wr.heap.size, 5, none⟩ = some (.slice f.l.args.a f.l.args.n f.l.args.c) := (kc 5).trans (by simp [go_sem, *])
        have c6 : w1.cell? ⟨wr.heap.size, 6, none⟩ = some (.int .i64 f.l.sent) := (kc 6).trans (by simp [go_sem, *])
        have HH := Lib.hid h1
        have HR1 := Lib.hid (own_below (HR.out.alloc _) h1)
        clear h1 kc kf x0 x1 x2 x3 x4 x5 x6
        rw [hg]
        go_wp2_with (at_builtin; refine wpList_append_own _ rfl (.tmp 18) (.tmp 20) 25 rfl w.heap.size 47 i0 _ 7 96 Try.underlying25 hi hz0 hz1 hz2 rfl (by decide) _ _ _ rfl (HR1.out.alloc _) ⟨w1.heap.size, 0, none⟩ 1 1 (flyL f) rfl rfl (cells_new _ _ _) (by simp [Value.oneCell']) (by rw [ml_val]; omega) (by omega) (by simp; omega) ?_; intro v' w3 ho hgr _; have HO := Lib.hid ho; have HG := Lib.hid hgr; clear ho hgr)
        go_roundw
        case rel => exact WoRel.add hlt HF.out (by simp [hg]) _ _ HR.out hB HH.out HO.out HG.out
        case measure => simp [intOf]; omega
    · have htk : fs.take k = fs := List.take_of_length_le (by have := HL.out; omega)
      rw [htk] at HR
      go_wp2_with fail
      go_ret
      obtain ⟨v, _, rfl, _⟩ := own_sl HR.out
      exact ⟨v, rfl, HR.out, hB⟩

set_option maxRecDepth 100000 in
set_option maxHeartbeats 1600000 in
theorem without87 (fs : List FlyC) (u : Sl) (bd : Value) (gone : FlyC → Bool) (w : World) (h : Rd w w.heap.size 7 u.a u.n (fs.flatMap flyL)) (hn : u.n ≤ 1000000)
    (hc : ∀ (W : World) (f : FlyC), Below w.heap.size w W → f ∈ fs → Calls Try.prog 88 #[flyV f, bd] W fun e w' => e = .returned (.bool (gone f)) ∧ Below W.heap.size W w') :
    Calls Try.prog 87 #[.slice u.a u.n u.c, .func (.func 88) #[] #[bd]] w (OwnPost 66 7 (fs.filter (fun f => !gone f)).length ((fs.filter (fun f => !gone f)).flatMap flyL) w) := by
  have H := Lib.hid h
  have HC := Lib.hid hc
  have HL := Lib.hid (h.len (fun _ => rfl) (by omega))
  clear h hc
  go_enter Try.func87, Try.ntmps87
  go_wp2
  go_loopw [5, 10] (WoRel 66 fs (fun f => !gone f) u.n w) (fun _ i _ => u.n - (intOf i).toNat)
  case atStart => exact ⟨0, Nat.zero_le _, rfl, World.ownsRow_nil _ _ _ _, Below.refl _ _⟩
  case round =>
    obtain ⟨k, hk, rfl, hrow, hB⟩ := hrel
    have hsz := hB.size
    have HR := Lib.hid hrow
    clear hrow
    by_cases hlt : k < u.n
    · obtain ⟨b, off, f, hA, hb, hfk, hcl⟩ := H.out.at_ (fun _ => rfl) (by omega) hlt
      have x0 : wr.cell? ⟨b, off + k * 7, none⟩ = some (.int .i64 f.x) := (hB.cell (p := ⟨b, off + k * 7, none⟩) hb).trans (hcl 0 _ rfl)
      have x1 : wr.cell? ⟨b, off + k * 7 + 1, none⟩ = some (.int .i64 f.y) := (hB.cell (p := ⟨b, off + k * 7 + 1, none⟩) hb).trans (hcl 1 _ rfl)
      have x2 : wr.cell? ⟨b, off + k * 7 + 2, none⟩ = some (.string f.path) := (hB.cell (p := ⟨b, off + k * 7 + 2, none⟩) hb).trans (hcl 2 _ rfl)
      have x3 : wr.cell? ⟨b, off + k * 7 + 3, none⟩ = some (.string f.l.src) := (hB.cell (p := ⟨b, off + k * 7 + 3, none⟩) hb).trans (hcl 3 _ rfl)
      have x4 : wr.cell? ⟨b, off + k * 7 + 4, none⟩ = some (.string f.l.msg) := (hB.cell (p := ⟨b, off + k * 7 + 4, none⟩) hb).trans (hcl 4 _ rfl)
      have x5 : wr.cell? ⟨b, off + k * 7 + 5, none⟩ = some (.slice f.l.args.a f.l.args.n f.l.args.c) := (hB.cell (p := ⟨b, off + k * 7 + 5, none⟩) hb).trans (hcl 5 _ rfl)
      have x6 : wr.cell? ⟨b, off + k * 7 + 6, none⟩ = some (.int .i64 f.l.sent) := (hB.cell (p := ⟨b, off + k * 7 + 6, none⟩) hb).trans (hcl 6 _ rfl)
      have hix : ∀ W : World, Sem.run Try.prog (Instr.indexAt 24 (.slice u.a u.n u.c) (.int .i64 (k : Int))) W = .ok (.pointer (some ⟨b, off + k * 7, none⟩)) W := by intro W; rw [hA]; go_simp
      have HF := Lib.hid hfk
      clear hA hfk hcl
      have n1 : ¬ b = wr.heap.size := by omega
      obtain ⟨i0, hi, hz0, hz1, hz2⟩ := info_parts info66
      have hln : ((fs.take k).filter (fun f => !gone f)).length ≤ k := Nat.le_trans (List.length_filter_le _ _) (by simp; omega)
      cases hg : gone f with
      | true =>
        go_wp2_with fail
        refine (HC.out _ f (hB.alloc hsz _) (List.mem_of_getElem? HF.out)).mono ?_
        rintro e w1 ⟨rfl, h1⟩
        have HH := Lib.hid h1
        clear h1
        rw [hg]
        go_wp2_with fail
        go_roundw
        case rel => exact WoRel.keep hlt HF.out (by simp [hg]) _ HR.out hB HH.out
        case measure => simp [intOf]; omega
      | false =>
        go_wp2_with fail
        refine (HC.out _ f (hB.alloc hsz _) (List.mem_of_getElem? HF.out)).mono ?_
        rintro e w1 ⟨rfl, h1⟩
        have z1 := h1.size
        simp at z1
        obtain ⟨g0, kc, kf⟩ := keepB h1 wr.heap.size (by simp)
        have c0 : w1.cell? ⟨wr.heap.size, 0, none⟩ = some (.int .i64 f.x) := (kc 0).trans (by simp [go_sem, *])
        have c1 : w1.cell? ⟨wr.heap.size, 1, none⟩ = some (.int .i64 f.y) := (kc 1).trans (by simp [go_sem, *])
        have c2 : w1.cell? ⟨wr.heap.size, 2, none⟩ = some (.string f.path) := (kc 2).trans (by simp [go_sem, *])
        have c3 : w1.cell? ⟨wr.heap.size, 3, none⟩ = some (.string f.l.src) := (kc 3).trans (by simp [go_sem, *])
        have c4 : w1.cell? ⟨wr.heap.size, 4, none⟩ = some (.string f.l.msg) := (kc 4).trans (by simp [go_sem, *])
        have c5 : w1.cell? ⟨wr.heap.size, 5, none⟩ = some (.slice f.l.args.a f.l.args.n f.l.args.c) := (kc 5).trans (by simp [go_sem, *])
        have c6 : w1.cell? ⟨wr.heap.size, 6, none⟩ = some (.int .i64 f.l.sent) := (kc 6).trans (by simp [go_sem, *])
        have HH := Lib.hid h1
        have HR1 := Lib.hid (own_below (HR.out.alloc _) h1)
        clear h1 kc kf x0 x1 x2 x3 x4 x5 x6
        rw [hg]
        go_wp2_with (at_builtin; refine wpList_append_own _ rfl (.tmp 18) (.tmp 20) 24 rfl w.heap.size 66 i0 _ 7 96 Try.underlying24 hi hz0 hz1 hz2 rfl (by decide) _ _ _ rfl (HR1.out.alloc _) ⟨w1.heap.size, 0, none⟩ 1 1 (flyL f) rfl rfl (cells_new _ _ _) (by simp [Value.oneCell']) (by rw [ml_val]; omega) (by omega) (by simp; omega) ?_; intro v' w3 ho hgr _; have HO := Lib.hid ho; have HG := Lib.hid hgr; clear ho hgr)
        go_roundw
        case rel => exact WoRel.add hlt HF.out (by simp [hg]) _ _ HR.out hB HH.out HO.out HG.out
        case measure => simp [intOf]; omega
    · have htk : fs.take k = fs := List.take_of_length_le (by have := HL.out; omega)
      rw [htk] at HR
      go_wp2_with fail
      go_ret
      obtain ⟨v, _, rfl, _⟩ := own_sl HR.out
      exact ⟨v, rfl, HR.out, hB⟩

set_option maxRecDepth 100000 in
set_option maxHeartbeats 1600000 in
theorem kept60 (fs : List FlyC) (u : Sl) (bd : Value) (gone : FlyC → Bool) (w : World) (h : Rd w w.heap.size 7 u.a u.n (fs.flatMap flyL)) (hn : u.n ≤ 1000000)
    (hc : ∀ (W : World) (f : FlyC), Below w.heap.size w W → f ∈ fs → Calls Try.prog 60 #[flyV f, bd] W fun e w' => e = .returned (.bool (gone f)) ∧ Below W.heap.size W w') :
    Calls Try.prog 61 #[.slice u.a u.n u.c, .func (.func 60) #[] #[bd]] w (OwnPost 47 7 (fs.filter (gone)).length ((fs.filter (gone)).flatMap flyL) w) := by
  have H := Lib.hid h
  have HC := Lib.hid hc
  have HL := Lib.hid (h.len (fun _ => rfl) (by omega))
  clear h hc
  go_enter Try.func61, Try.ntmps61
  go_wp2
  go_loopw [5, 10] (WoRel 47 fs (gone) u.n w) (fun _ i _ => u.n - (intOf i).toNat)
  case atStart => exact ⟨0, Nat.zero_le _, rfl, World.ownsRow_nil _ _ _ _, Below.refl _ _⟩
  case round =>
    obtain ⟨k, hk, rfl, hrow, hB⟩ := hrel
    have hsz := hB.size
    have HR := Lib.hid hrow
    clear hrow
    by_cases hlt : k < u.n
    · obtain ⟨b, off, f, hA, hb, hfk, hcl⟩ := H.out.at_ (fun _ => rfl) (by omega) hlt
      have x0 : wr.cell? ⟨b, off + k * 7, none⟩ = some (.int .i64 f.x) := (hB.cell (p := ⟨b, off + k * 7, none⟩) hb).trans (hcl 0 _ rfl)
      have x1 : wr.cell? ⟨b, off + k * 7 + 1, none⟩ = some (.int .i64 f.y) := (hB.cell (p := ⟨b, off + k * 7 + 1, none⟩) hb).trans (hcl 1 _ rfl)
      have x2 : wr.cell? ⟨b, off + k * 7 + 2, none⟩ = some (.string f.path) := (hB.cell (p := ⟨b, off + k * 7 + 2, none⟩) hb).trans (hcl 2 _ rfl)
      have x3 : wr.cell? ⟨b, off + k * 7 + 3, none⟩ = some (.string f.l.src) := (hB.cell (p := ⟨b, off + k * 7 + 3, none⟩) hb).trans (hcl 3 _ rfl)
      have x4 : wr.cell? ⟨b, off + k * 7 + 4, none⟩ = some (.string f.l.msg) := (hB.cell (p := ⟨b, off + k * 7 + 4, none⟩) hb).trans (hcl 4 _ rfl)
      have x5 : wr.cell? ⟨b, off + k * 7 + 5, none⟩ = some (.slice f.l.args.a f.l.args.n f.l.args.c) := (hB.cell (p := ⟨b, off + k * 7 + 5, none⟩) hb).trans (hcl 5 _ rfl)
      have x6 : wr.cell? ⟨b, off + k * 7 + 6, none⟩ = some (.int .i64 f.l.sent) := (hB.cell (p := ⟨b, off + k * 7 + 6, none⟩) hb).trans (hcl 6 _ rfl)
      have hix : ∀ W : World, Sem.run Try.prog (Instr.indexAt 25 (.slice u.a u.n u.c) (.int .i64 (k : Int))) W = .ok (.pointer (some ⟨b, off + k * 7, none⟩)) W := by intro W; rw [hA]; go_simp
      have HF := Lib.hid hfk
      clear hA hfk hcl
      have n1 : ¬ b = wr.heap.size := by omega
      obtain ⟨i0, hi, hz0, hz1, hz2⟩ := info_parts info47
      have hln : ((fs.take k).filter (gone)).length ≤ k := Nat.le_trans (List.length_filter_le _ _) (by simp; omega)
      cases hg : gone f with
      | false =>
        go_wp2_with fail
        refine (HC.out _ f (hB.alloc hsz _) (List.mem_of_getElem? HF.out)).mono ?_
        rintro e w1 ⟨rfl, h1⟩
        have HH := Lib.hid h1
        clear h1
        rw [hg]
        go_wp2_with fail
        go_roundw
        case rel => exact WoRel.keep hlt HF.out (by simp [hg]) _ HR.out hB HH.out
        case measure => simp [intOf]; omega
      | true =>
        go_wp2_with fail
        refine (HC.out _ f (hB.alloc hsz _) (List.mem_of_getElem? HF.out)).mono ?_
        rintro e w1 ⟨rfl, h1⟩
        have z1 := h1.size
        simp at z1
        obtain ⟨g0, kc, kf⟩ := keepB h1 wr.heap.size (by simp)
        have c0 : w1.cell? ⟨wr.heap.size, 0, none⟩ = some (.int .i64 f.x) := (kc 0).trans (by simp [go_sem, *])
        have c1 : w1.cell? ⟨wr.heap.size, 1, none⟩ = some (.int .i64 f.y) := (kc 1).trans (by simp [go_sem, *])
        have c2 : w1.cell? ⟨wr.heap.size, 2, none⟩ = some (.string f.path) := (kc 2).trans (by simp [go_sem, *])
        have c3 : w1.cell? ⟨wr.heap.size, 3, none⟩ = some (.string f.l.src) := (kc 3).trans (by simp [go_sem, *])
        have c4 : w1.cell? ⟨wr.heap.size, 4, none⟩ = some (.string f.l.msg) := (kc 4).trans (by simp [go_sem, *])
        have c5 : w1.cell? ⟨wr.heap.size, 5, none⟩ = some (.slice f.l.args.a f.l.args.n f.l.args.c) := (kc 5).trans (by simp [go_sem, *])
        have c6 : w1.cell? ⟨wr.heap.size, 6, none⟩ = some (.int .i64 f.l.sent) := (kc 6).trans (by simp [go_sem, *])
        have HH := Lib.hid h1
        have HR1 := Lib.hid (own_below (HR.out.alloc _) h1)
        clear h1 kc kf x0 x1 x2 x3 x4 x5 x6
        rw [hg]
        go_wp2_with (at_builtin; refine wpList_append_own _ rfl (.tmp 17) (.tmp 19) 25 rfl w.heap.size 47 i0 _ 7 96 Try.underlying25 hi hz0 hz1 hz2 rfl (by decide) _ _ _ rfl (HR1.out.alloc _) ⟨w1.heap.size, 0, none⟩ 1 1 (flyL f) rfl rfl (cells_new _ _ _) (by simp [Value.oneCell']) (by rw [ml_val]; omega) (by omega) (by simp; omega) ?_; intro v' w3 ho hgr _; have HO := Lib.hid ho; have HG := Lib.hid hgr; clear ho hgr)
        go_roundw
        case rel => exact WoRel.add hlt HF.out (by simp [hg]) _ _ HR.out hB HH.out HO.out HG.out
        case measure => simp [intOf]; omega
    · have htk : fs.take k = fs := List.take_of_length_le (by have := HL.out; omega)
      rw [htk] at HR
      go_wp2_with fail
      go_ret
      obtain ⟨v, _, rfl, _⟩ := own_sl HR.out
      exact ⟨v, rfl, HR.out, hB⟩

set_option maxRecDepth 100000 in
set_option maxHeartbeats 1600000 in
theorem kept62 (fs : List FlyC) (u : Sl) (bd : Value) (gone : FlyC → Bool) (w : World) (h : Rd w w.heap.size 7 u.a u.n (fs.flatMap flyL)) (hn : u.n ≤ 1000000)
    (hc : ∀ (W : World) (f : FlyC), Below w.heap.size w W → f ∈ fs → Calls Try.prog 62 #[flyV f, bd] W fun e w' => e = .returned (.bool (gone f)) ∧ Below W.heap.size W w') :
    Calls Try.prog 61 #[.slice u.a u.n u.c, .func (.func 62) #[] #[bd]] w (OwnPost 47 7 (fs.filter (gone)).length ((fs.filter (gone)).flatMap flyL) w) := by
  have H := Lib.hid h
  have HC := Lib.hid hc
  have HL := Lib.hid (h.len (fun _ => rfl) (by omega))
  clear h hc
  go_enter Try.func61, Try.ntmps61
  go_wp2
  go_loopw [5, 10] (WoRel 47 fs (gone) u.n w) (fun _ i _ => u.n - (intOf i).toNat)
  case atStart => exact ⟨0, Nat.zero_le _, rfl, World.ownsRow_nil _ _ _ _, Below.refl _ _⟩
  case round =>
    obtain ⟨k, hk, rfl, hrow, hB⟩ := hrel
    have hsz := hB.size
    have HR := Lib.hid hrow
    clear hrow
    by_cases hlt : k < u.n
    · obtain ⟨b, off, f, hA, hb, hfk, hcl⟩ := H.out.at_ (fun _ => rfl) (by omega) hlt
      have x0 : wr.cell? ⟨b, off + k * 7, none⟩ = some (.int .i64 f.x) := (hB.cell (p := ⟨b, off + k * 7, none⟩) hb).trans (hcl 0 _ rfl)
      have x1 : wr.cell? ⟨b, off + k * 7 + 1, none⟩ = some (.int .i64 f.y) := (hB.cell (p := ⟨b, off + k * 7 + 1, none⟩) hb).trans (hcl 1 _ rfl)
      have x2 : wr.cell? ⟨b, off + k * 7 + 2, none⟩ = some (.string f.path) := (hB.cell (p := ⟨b, off + k * 7 + 2, none⟩) hb).trans (hcl 2 _ rfl)
      have x3 : wr.cell? ⟨b, off + k * 7 + 3, none⟩ = some (.string f.l.src) := (hB.cell (p := ⟨b, off + k * 7 + 3, none⟩) hb).trans (hcl 3 _ rfl)
      have x4 : wr.cell? ⟨b, off + k * 7 + 4, none⟩ = some (.string f.l.msg) := (hB.cell (p := ⟨b, off + k * 7 + 4, none⟩) hb).trans (hcl 4 _ rfl)
      have x5 : wr.cell? ⟨b, off + k * 7 + 5, none⟩ = some (.slice f.l.args.a f.l.args.n f.l.args.c) := (hB.cell (p := ⟨b, off + k * 7 + 5, none⟩) hb).trans (hcl 5 _ rfl)
      have x6 : wr.cell? ⟨b, off + k * 7 + 6, none⟩ = some (.int .i64 f.l.sent) := (hB.cell (p := ⟨b, off + k * 7 + 6, none⟩) hb).trans (hcl 6 _ rfl)
      have hix : ∀ W : World, Sem.run Try.prog (Instr.indexAt 25 (.slice u.a u.n u.c) (.int .i64 (k : Int))) W = .ok (.pointer (some ⟨b, off + k * 7, none⟩)) W := by intro W; rw [hA]; go_simp
      have HF := Lib.hid hfk
      clear hA hfk hcl
      have n1 : ¬ b = wr.heap.size := by omega
      obtain ⟨i0, hi, hz0, hz1, hz2⟩ := info_parts info47
      have hln : ((fs.take k).filter (gone)).length ≤ k := Nat.le_trans (List.length_filter_le _ _) (by simp; omega)
      cases hg : gone f with
      | false =>
        go_wp2_with fail
        refine (HC.out _ f (hB.alloc hsz _) (List.mem_of_getElem? HF.out)).mono ?_
        rintro e w1 ⟨rfl, h1⟩
        have HH := Lib.hid h1
        clear h1
        rw [hg]
        go_wp2_with fail
        go_roundw
        case rel => exact WoRel.keep hlt HF.out (by simp [hg]) _ HR.out hB HH.out
        case measure => simp [intOf]; omega
      | true =>
        go_wp2_with fail
        refine (HC.out _ f (hB.alloc hsz _) (List.mem_of_getElem? HF.out)).mono ?_
        rintro e w1 ⟨rfl, h1⟩
        have z1 := h1.size
        simp at z1
        obtain ⟨g0, kc, kf⟩ := keepB h1 wr.heap.size (by simp)
        have c0 : w1.cell? ⟨wr.heap.size, 0, none⟩ = some (.int .i64 f.x) := (kc 0).trans (by simp [go_sem, *])
        have c1 : w1.cell? ⟨wr.heap.size, 1, none⟩ = some (.int .i64 f.y) := (kc 1).trans (by simp [go_sem, *])
        have c2 : w1.cell? ⟨wr.heap.size, 2, none⟩ = some (.string f.path) := (kc 2).trans (by simp [go_sem, *])
        have c3 : w1.cell? ⟨wr.heap.size, 3, none⟩ = some (.string f.l.src) := (kc 3).trans (by simp [go_sem, *])
        have c4 : w1.cell? ⟨wr.heap.size, 4, none⟩ = some (.string f.l.msg) := (kc 4).trans (by simp [go_sem, *])
        have c5 : w1.cell? ⟨wr.heap.size, 5, none⟩ = some (.slice f.l.args.a f.l.args.n f.l.args.c) := (kc 5).trans (by simp [go_sem, *])
        have c6 : w1.cell? ⟨wr.heap.size, 6, none⟩ = some (.int .i64 f.l.sent) := (kc 6).trans (by simp [go_sem, *])
        have HH := Lib.hid h1
        have HR1 := Lib.hid (own_below (HR.out.alloc _) h1)
        clear h1 kc kf x0 x1 x2 x3 x4 x5 x6
        rw [hg]
        go_wp2_with (at_builtin; refine wpList_append_own _ rfl (.tmp 17) (.tmp 19) 25 rfl w.heap.size 47 i0 _ 7 96 Try.underlying25 hi hz0 hz1 hz2 rfl (by decide) _ _ _ rfl (HR1.out.alloc _) ⟨w1.heap.size, 0, none⟩ 1 1 (flyL f) rfl rfl (cells_new _ _ _) (by simp [Value.oneCell']) (by rw [ml_val]; omega) (by omega) (by simp; omega) ?_; intro v' w3 ho hgr _; have HO := Lib.hid ho; have HG := Lib.hid hgr; clear ho hgr)
        go_roundw
        case rel => exact WoRel.add hlt HF.out (by simp [hg]) _ _ HR.out hB HH.out HO.out HG.out
        case measure => simp [intOf]; omega
    · have htk : fs.take k = fs := List.take_of_length_le (by have := HL.out; omega)
      rw [htk] at HR
      go_wp2_with fail
      go_ret
      obtain ⟨v, _, rfl, _⟩ := own_sl HR.out
      exact ⟨v, rfl, HR.out, hB⟩

set_option maxRecDepth 100000 in
set_option maxHeartbeats 1600000 in
theorem kept68 (fs : List FlyC) (u : Sl) (bd : Value) (gone : FlyC → Bool) (w : World) (h : Rd w w.heap.size 7 u.a u.n (fs.flatMap flyL)) (hn : u.n ≤ 1000000)
    (hc : ∀ (W : World) (f : FlyC), Below w.heap.size w W → f ∈ fs → Calls Try.prog 68 #[flyV f, bd] W fun e w' => e = .returned (.bool (gone f)) ∧ Below W.heap.size W w') :
    Calls Try.prog 61 #[.slice u.a u.n u.c, .func (.func 68) #[] #[bd]] w (OwnPost 47 7 (fs.filter (gone)).length ((fs.filter (gone)).flatMap flyL) w) := by
  have H := Lib.hid h
  have HC := Lib.hid hc
  have HL := Lib.hid (h.len (fun _ => rfl) (by omega))
  clear h hc
  go_enter Try.func61, Try.ntmps61
  go_wp2
  go_loopw [5, 10] (WoRel 47 fs (gone) u.n w) (fun _ i _ => u.n - (intOf i).toNat)
  case atStart => exact ⟨0, Nat.zero_le _, rfl, World.ownsRow_nil _ _ _ _, Below.refl _ _⟩
  case round =>
    obtain ⟨k, hk, rfl, hrow, hB⟩ := hrel
    have hsz := hB.size
    have HR := Lib.hid hrow
    clear hrow
    by_cases hlt : k < u.n
    · obtain ⟨b, off, f, hA, hb, hfk, hcl⟩ := H.out.at_ (fun _ => rfl) (by omega) hlt
      have x0 : wr.cell? ⟨b, off + k * 7, none⟩ = some (.int .i64 f.x) := (hB.cell (p := ⟨b, off + k * 7, none⟩) hb).trans (hcl 0 _ rfl)
      have x1 : wr.cell? ⟨b, off + k * 7 + 1, none⟩ = some (.int .i64 f.y) := (hB.cell (p := ⟨b, off + k * 7 + 1, none⟩) hb).trans (hcl 1 _ rfl)
      have x2 : wr.cell? ⟨b, off + k * 7 + 2, none⟩ = some (.string f.path) := (hB.cell (p := ⟨b, off + k * 7 + 2, none⟩) hb).trans (hcl 2 _ rfl)
      have x3 : wr.cell? ⟨b, off + k * 7 + 3, none⟩ = some (.string f.l.src) := (hB.cell (p := ⟨b, off + k * 7 + 3, none⟩) hb).trans (hcl 3 _ rfl)
      have x4 : wr.cell? ⟨b, off + k * 7 + 4, none⟩ = some (.string f.l.msg) := (hB.cell (p := ⟨b, off + k * 7 + 4, none⟩) hb).trans (hcl 4 _ rfl)
      have x5 : wr.cell? ⟨b, off + k * 7 + 5, none⟩ = some (.slice f.l.args.a f.l.args.n f.l.args.c) := (hB.cell (p := ⟨b, off + k * 7 + 5, none⟩) hb).trans (hcl 5 _ rfl)
      have x6 : wr.cell? ⟨b, off + k * 7 + 6, none⟩ = some (.int .i64 f.l.sent) := (hB.cell (p := ⟨b, off + k * 7 + 6, none⟩) hb).trans (hcl 6 _ rfl)
      have hix : ∀ W : World, Sem.run Try.prog (Instr.indexAt 25 (.slice u.a u.n u.c) (.int .i64 (k : Int))) W = .ok (.pointer (some ⟨b, off + k * 7, none⟩)) W := by intro W; rw [hA]; go_simp
      have HF := Lib.hid hfk
      clear hA hfk hcl
      have n1 : ¬ b = wr.heap.size := by omega
      obtain ⟨i0, hi, hz0, hz1, hz2⟩ := info_parts info47
      have hln : ((fs.take k).filter (gone)).length ≤ k := Nat.le_trans (List.length_filter_le _ _) (by simp; omega)
      cases hg : gone f with
      | false =>
        go_wp2_with fail
        refine (HC.out _ f (hB.alloc hsz _) (List.mem_of_getElem? HF.out)).mono ?_
        rintro e w1 ⟨rfl, h1⟩
        have HH := Lib.hid h1
        clear h1
        rw [hg]
        go_wp2_with fail
        go_roundw
        case rel => exact WoRel.keep hlt HF.out (by simp [hg]) _ HR.out hB HH.out
        case measure => simp [intOf]; omega
      | true =>
        go_wp2_with fail
        refine (HC.out _ f (hB.alloc hsz _) (List.mem_of_getElem? HF.out)).mono ?_
        rintro e w1 ⟨rfl, h1⟩
        have z1 := h1.size
        simp at z1
        obtain ⟨g0, kc, kf⟩ := keepB h1 wr.heap.size (by simp)
        have c0 : w1.cell? ⟨wr.heap.size, 0, none⟩ = some (.int .i64 f.x) := (kc 0).trans (by simp [go_sem, *])
        have c1 : w1.cell? ⟨wr.heap.size, 1, none⟩ = some (.int .i64 f.y) := (kc 1).trans (by simp [go_sem, *])
        have c2 : w1.cell? ⟨wr.heap.size, 2, none⟩ = some (.string f.path) := (kc 2).trans (by simp [go_sem, *])
        have c3 : w1.cell? ⟨wr.heap.size, 3, none⟩ = some (.string f.l.src) := (kc 3).trans (by simp [go_sem, *])
        have c4 : w1.cell? ⟨wr.heap.size, 4, none⟩ = some (.string f.l.msg) := (kc 4).trans (by simp [go_sem, *])
        have c5 : w1.cell? ⟨wr.heap.size, 5, none⟩ = some (.slice f.l.args.a f.l.args.n f.l.args.c) := (kc 5).trans (by simp [go_sem, *])
        have c6 : w1.cell? ⟨wr.heap.size, 6, none⟩ = some (.int .i64 f.l.sent) := (kc 6).trans (by simp [go_sem, *])
        have HH := Lib.hid h1
        have HR1 := Lib.hid (own_below (HR.out.alloc _) h1)
        clear h1 kc kf x0 x1 x2 x3 x4 x5 x6
        rw [hg]
        go_wp2_with (at_builtin; refine wpList_append_own _ rfl (.tmp 17) (.tmp 19) 25 rfl w.heap.size 47 i0 _ 7 96 Try.underlying25 hi hz0 hz1 hz2 rfl (by decide) _ _ _ rfl (HR1.out.alloc _) ⟨w1.heap.size, 0, none⟩ 1 1 (flyL f) rfl rfl (cells_new _ _ _) (by simp [Value.oneCell']) (by rw [ml_val]; omega) (by omega) (by simp; omega) ?_; intro v' w3 ho hgr _; have HO := Lib.hid ho; have HG := Lib.hid hgr; clear ho hgr)
        go_roundw
        case rel => exact WoRel.add hlt HF.out (by simp [hg]) _ _ HR.out hB HH.out HO.out HG.out
        case measure => simp [intOf]; omega
    · have htk : fs.take k = fs := List.take_of_length_le (by have := HL.out; omega)
      rw [htk] at HR
      go_wp2_with fail
      go_ret
      obtain ⟨v, _, rfl, _⟩ := own_sl HR.out
      exact ⟨v, rfl, HR.out, hB⟩
end Go.Proofs.Ytjdjfjokniingaa
