/- The contract of timer.Set. -/
import Derived.Test.YtjdjfjokniingaaUd
import Derived.Deep.RegionLawGrows
namespace Go.Proofs.Ytjdjfjokniingaa
open Go.RowKit

/-- the blocks from lo to hi have not been written -/
def Mid (lo hi : Nat) (w W : World) : Prop := w.heap.size ≤ W.heap.size ∧ ∀ b, lo ≤ b → b < hi → W.heap[b]? = w.heap[b]?
section
variable {lo hi : Nat} {w W V : World}
theorem Mid.refl (lo hi : Nat) (w : World) : Mid lo hi w w := ⟨Nat.le_refl _, fun _ _ _ => rfl⟩
theorem Mid.setCell {p : Addr} (h : Mid lo hi w W) (hp : p.block < lo ∨ hi ≤ p.block) (v : Value) : Mid lo hi w (W.setCell p v) :=
  ⟨by simpa using h.1, fun b h1 h2 => (heap_setCell_other W p b v (fun e => by omega)).trans (h.2 b h1 h2)⟩
theorem Mid.alloc (h : Mid lo hi w W) (hp : hi ≤ W.heap.size) (o : Obj) : Mid lo hi w (W.alloc o) :=
  ⟨Nat.le_trans h.1 (by simp), fun b h1 h2 => (Below.heap_alloc W o b (by omega)).trans (h.2 b h1 h2)⟩
theorem Mid.drew (h : Mid lo hi w W) : Mid lo hi w W.drew := h
theorem Mid.call (h : Mid lo hi w W) (hb : Below W.heap.size W V) (hp : hi ≤ W.heap.size) : Mid lo hi w V :=
  ⟨Nat.le_trans h.1 hb.size, fun b h1 h2 => (hb.block b (by omega)).trans (h.2 b h1 h2)⟩
theorem Mid.cell (h : Mid lo hi w W) {b : Nat} (h1 : lo ≤ b) (h2 : b < hi) (o : Nat) : W.cell? ⟨b, o, none⟩ = w.cell? ⟨b, o, none⟩ := World.cell?_of_block (a := ⟨b, o, none⟩) (h.2 b h1 h2)
theorem VR.mid {P : Nat → Prop} {u : Sl} {ts : List Tr} (h : VR P w u ts) (hm : Mid lo hi w W) (hP : ∀ b, P b → lo ≤ b) (hh : w.heap.size ≤ hi) : VR P W u ts :=
  (h.low.stay (fun b o hb => hm.cell (hP b hb.1) (by omega) o) hm.1).mono (fun _ hb => hb.1)
end
/-- an alarm has been appended -/
theorem als_snoc {P : Nat → Prop} {w v Wf : World} {u x : Sl} {ps : List (FlyC × AT)} {m B0 : Nat} {f : FlyC} {a : AT} (h : AlsR P w u ps) (hb : Below w.heap.size w Wf) (ho : v.ownsRow B0 47 7 (.slice x.a m x.c) m ((ps.map (·.1) ++ [f]).flatMap flyL)) (hr : Rd Wf Wf.heap.size 7 x.a m ((ps.map (·.1) ++ [f]).flatMap flyL)) (hw : w.heap.size ≤ B0) (ha : AlR (fun b => P b ∨ w.heap.size ≤ b) Wf f a) :
    Als (fun b => P b ∨ w.heap.size ≤ b) Wf ⟨x.a, m, x.c⟩ (ps.map (·.2) ++ [a]) := by
  refine ⟨ps ++ [(f, a)], ⟨?_, fun p hp => ?_, fun q hq _ => .inr ?_, own_cap ho⟩, by simp⟩
  · rw [List.map_append]; exact hr
  · rcases List.mem_append.1 hp with hp | hp
    · exact ((h.al p hp).below hb).mono (fun b hb => .inl hb)
    · rw [List.mem_singleton] at hp
      subst hp
      exact ha
  · have := row_base ho q.block (by rw [show x.a = some q from hq]; rfl)
    omega

set_option maxRecDepth 100000 in
set_option maxHeartbeats 6400000 in
set_option linter.unusedSimpArgs false in
set_option linter.unusedVariables false in
theorem set19 {P : Nat → Prop} (s : SysC) (σ : Tm.TS) (n : Int) (p : ByteArray) (l : LetC) (ts : List Tr) (w : World) (h : TmR P w s σ) (hl : VR P w l.args ts) (hn : s.alarms.n ≤ 1000000) :
    Calls Try.prog 19 #[sysV s, .int .i64 n, .string p, letV l] w (TmPost P w s (Tm.set σ n p l.src l.msg ts l.sent)) := by
  obtain ⟨⟨ps, hps, hsn⟩, hck, hsq⟩ := h
  have H := Lib.hid hps
  have HS := Lib.hid hsn
  have CK := Lib.hid hck
  have SQ := Lib.hid hsq
  have C := Lib.hid (fun (W : World) (hW : Below w.heap.size w W) => copies_any l.args ts W (hl.below hW))
  have CL := Lib.hid (fun (W : World) => clip59 s.alarms.a s.alarms.n s.alarms.c W hps.cap)
  have HMW := Lib.hid hps.rd
  clear hps hsn hck hsq hl
  obtain ⟨i6, hi6, hz60, hz61, hz62⟩ := info_parts info47
  go_enter Try.func19, Try.ntmps19
  go_wp2_with fail
  refine (C.out _ (by repeat (first | (with_reducible exact Below.refl _ _) | (with_reducible assumption) | ((with_reducible refine Below.setCell ?_ ?_ _); rotate_left; (focus (first | omega | (simp; omega) | (simp; done)))) | ((with_reducible refine Below.alloc ?_ ?_ _); rotate_left; (focus (first | omega | (simp; omega) | (simp; done)))) | (with_reducible refine Below.drew ?_)))).mono ?_
  rintro e v1 ⟨u1, rfl, hu1, h1⟩
  have z1 := h1.size
  try simp at z1
  have hB1 : Below w.heap.size w v1 := Below.call (w := w) (by repeat (first | (with_reducible exact Below.refl _ _) | (with_reducible assumption) | ((with_reducible refine Below.setCell ?_ ?_ _); rotate_left; (focus (first | omega | (simp; omega) | (simp; done)))) | ((with_reducible refine Below.alloc ?_ ?_ _); rotate_left; (focus (first | omega | (simp; omega) | (simp; done)))) | (with_reducible refine Below.drew ?_))) h1
  obtain ⟨k1_0, kc, kf⟩ := keepB h1 (w.heap.size) (by first | omega | (simp; omega) | (simp; done))
  have c1_0_0 : v1.cell? ⟨w.heap.size, 0, none⟩ = some (.slice s.up.a s.up.n s.up.c) := (kc 0).trans (by simp [go_sem, *])
  have f1_0_0 : v1.frozen? ⟨w.heap.size, 0, none⟩ = false := (kf 0).trans (by simp [go_sem, *])
  have c1_0_1 : v1.cell? ⟨w.heap.size, 1, none⟩ = some (.int .i64 s.moment) := (kc 1).trans (by simp [go_sem, *])
  have f1_0_1 : v1.frozen? ⟨w.heap.size, 1, none⟩ = false := (kf 1).trans (by simp [go_sem, *])
  have c1_0_2 : v1.cell? ⟨w.heap.size, 2, none⟩ = some (.int .i64 s.clock) := (kc 2).trans (by simp [go_sem, *])
  have f1_0_2 : v1.frozen? ⟨w.heap.size, 2, none⟩ = false := (kf 2).trans (by simp [go_sem, *])
  have c1_0_3 : v1.cell? ⟨w.heap.size, 3, none⟩ = some (.int .i64 s.seq) := (kc 3).trans (by simp [go_sem, *])
  have f1_0_3 : v1.frozen? ⟨w.heap.size, 3, none⟩ = false := (kf 3).trans (by simp [go_sem, *])
  have c1_0_4 : v1.cell? ⟨w.heap.size, 4, none⟩ = some (.slice s.actors.a s.actors.n s.actors.c) := (kc 4).trans (by simp [go_sem, *])
  have f1_0_4 : v1.frozen? ⟨w.heap.size, 4, none⟩ = false := (kf 4).trans (by simp [go_sem, *])
  have c1_0_5 : v1.cell? ⟨w.heap.size, 5, none⟩ = some (.slice s.flights.a s.flights.n s.flights.c) := (kc 5).trans (by simp [go_sem, *])
  have f1_0_5 : v1.frozen? ⟨w.heap.size, 5, none⟩ = false := (kf 5).trans (by simp [go_sem, *])
  have c1_0_6 : v1.cell? ⟨w.heap.size, 6, none⟩ = some (.slice s.alarms.a s.alarms.n s.alarms.c) := (kc 6).trans (by simp [go_sem, *])
  have f1_0_6 : v1.frozen? ⟨w.heap.size, 6, none⟩ = false := (kf 6).trans (by simp [go_sem, *])
  have c1_0_7 : v1.cell? ⟨w.heap.size, 7, none⟩ = some (.slice s.asked.a s.asked.n s.asked.c) := (kc 7).trans (by simp [go_sem, *])
  have f1_0_7 : v1.frozen? ⟨w.heap.size, 7, none⟩ = false := (kf 7).trans (by simp [go_sem, *])
  have c1_0_8 : v1.cell? ⟨w.heap.size, 8, none⟩ = some (.int .i64 s.dead) := (kc 8).trans (by simp [go_sem, *])
  have f1_0_8 : v1.frozen? ⟨w.heap.size, 8, none⟩ = false := (kf 8).trans (by simp [go_sem, *])
  clear kc kf
  obtain ⟨k1_1, kc, kf⟩ := keepB h1 (w.heap.size + 1) (by first | omega | (simp; omega) | (simp; done))
  have c1_1_0 : v1.cell? ⟨w.heap.size + 1, 0, none⟩ = some (.string l.src) := (kc 0).trans (by simp [go_sem, *])
  have f1_1_0 : v1.frozen? ⟨w.heap.size + 1, 0, none⟩ = false := (kf 0).trans (by simp [go_sem, *])
  have c1_1_1 : v1.cell? ⟨w.heap.size + 1, 1, none⟩ = some (.string l.msg) := (kc 1).trans (by simp [go_sem, *])
  have f1_1_1 : v1.frozen? ⟨w.heap.size + 1, 1, none⟩ = false := (kf 1).trans (by simp [go_sem, *])
  have c1_1_2 : v1.cell? ⟨w.heap.size + 1, 2, none⟩ = some (.slice l.args.a l.args.n l.args.c) := (kc 2).trans (by simp [go_sem, *])
  have f1_1_2 : v1.frozen? ⟨w.heap.size + 1, 2, none⟩ = false := (kf 2).trans (by simp [go_sem, *])
  have c1_1_3 : v1.cell? ⟨w.heap.size + 1, 3, none⟩ = some (.int .i64 l.sent) := (kc 3).trans (by simp [go_sem, *])
  have f1_1_3 : v1.frozen? ⟨w.heap.size + 1, 3, none⟩ = false := (kf 3).trans (by simp [go_sem, *])
  clear kc kf
  obtain ⟨k1_2, kc, kf⟩ := keepB h1 (w.heap.size + 1 + 1) (by first | omega | (simp; omega) | (simp; done))
  have c1_2_0 : v1.cell? ⟨w.heap.size + 1 + 1, 0, none⟩ = some (.slice none 0 0) := (kc 0).trans (by simp [go_sem, *])
  have f1_2_0 : v1.frozen? ⟨w.heap.size + 1 + 1, 0, none⟩ = false := (kf 0).trans (by simp [go_sem, *])
  have c1_2_1 : v1.cell? ⟨w.heap.size + 1 + 1, 1, none⟩ = some (.int .i64 0) := (kc 1).trans (by simp [go_sem, *])
  have f1_2_1 : v1.frozen? ⟨w.heap.size + 1 + 1, 1, none⟩ = false := (kf 1).trans (by simp [go_sem, *])
  have c1_2_2 : v1.cell? ⟨w.heap.size + 1 + 1, 2, none⟩ = some (.int .i64 0) := (kc 2).trans (by simp [go_sem, *])
  have f1_2_2 : v1.frozen? ⟨w.heap.size + 1 + 1, 2, none⟩ = false := (kf 2).trans (by simp [go_sem, *])
  have c1_2_3 : v1.cell? ⟨w.heap.size + 1 + 1, 3, none⟩ = some (.int .i64 0) := (kc 3).trans (by simp [go_sem, *])
  have f1_2_3 : v1.frozen? ⟨w.heap.size + 1 + 1, 3, none⟩ = false := (kf 3).trans (by simp [go_sem, *])
  have c1_2_4 : v1.cell? ⟨w.heap.size + 1 + 1, 4, none⟩ = some (.slice none 0 0) := (kc 4).trans (by simp [go_sem, *])
  have f1_2_4 : v1.frozen? ⟨w.heap.size + 1 + 1, 4, none⟩ = false := (kf 4).trans (by simp [go_sem, *])
  have c1_2_5 : v1.cell? ⟨w.heap.size + 1 + 1, 5, none⟩ = some (.slice none 0 0) := (kc 5).trans (by simp [go_sem, *])
  have f1_2_5 : v1.frozen? ⟨w.heap.size + 1 + 1, 5, none⟩ = false := (kf 5).trans (by simp [go_sem, *])
  have c1_2_6 : v1.cell? ⟨w.heap.size + 1 + 1, 6, none⟩ = some (.slice none 0 0) := (kc 6).trans (by simp [go_sem, *])
  have f1_2_6 : v1.frozen? ⟨w.heap.size + 1 + 1, 6, none⟩ = false := (kf 6).trans (by simp [go_sem, *])
  have c1_2_7 : v1.cell? ⟨w.heap.size + 1 + 1, 7, none⟩ = some (.slice none 0 0) := (kc 7).trans (by simp [go_sem, *])
  have f1_2_7 : v1.frozen? ⟨w.heap.size + 1 + 1, 7, none⟩ = false := (kf 7).trans (by simp [go_sem, *])
  have c1_2_8 : v1.cell? ⟨w.heap.size + 1 + 1, 8, none⟩ = some (.int .i64 0) := (kc 8).trans (by simp [go_sem, *])
  have f1_2_8 : v1.frozen? ⟨w.heap.size + 1 + 1, 8, none⟩ = false := (kf 8).trans (by simp [go_sem, *])
  clear kc kf
  have HU := Lib.hid hu1
  clear hu1 C
  go_wp2_with fail
  obtain ⟨X, hX⟩ : ∃ X, X = wrap64 (s.clock + min (max n 1) 1048576) := ⟨_, rfl⟩
  rw [← hX]
  have HX := Lib.hid hX
  clear hX
  refine wp_region_held_drew (S := (fun w' => w'.cell? ⟨v1.heap.size, 0, none⟩ = some (.int .i64 X) ∧ w'.cell? ⟨v1.heap.size, 1, none⟩ = some (.int .i64 s.seq) ∧ w'.cell? ⟨v1.heap.size, 2, none⟩ = some (.string p) ∧ w'.cell? ⟨v1.heap.size, 3, none⟩ = some (.string l.src) ∧ w'.cell? ⟨v1.heap.size, 4, none⟩ = some (.string l.msg) ∧ w'.cell? ⟨v1.heap.size, 5, none⟩ = some (.slice u1.a u1.n u1.c) ∧ w'.cell? ⟨v1.heap.size, 6, none⟩ = some (.int .i64 l.sent))) (by kernel_rfl) ?_ (fun hHeld => ?_)
  · simp [go_sem, *]
  refine wpAnyH_take (i := 0) (v := ?_) rfl (by kernel_rfl) (by kernel_rfl) (by kernel_rfl) (fun _ _ _ h => h) (Or.inl ⟨by rfl, ?_⟩) (by assumption) ?_
  rotate_left
  · intro w hSw; (try dsimp only at hSw); go_simp; (first | done | (with_reducible rfl))
  try simp only [Act.put, List.getElem_toArray, List.getElem_cons_succ, List.getElem_cons_zero, List.setIfInBounds_toArray, List.set_cons_zero, List.set_cons_succ]
  refine wpAnyH_take (i := 3) (v := ?_) rfl (by kernel_rfl) (by kernel_rfl) (by kernel_rfl) (fun _ _ _ h => h) (Or.inl ⟨by rfl, ?_⟩) (by assumption) ?_
  rotate_left
  · intro w hSw; (try dsimp only at hSw); go_simp; (first | done | (with_reducible rfl))
  try simp only [Act.put, List.getElem_toArray, List.getElem_cons_succ, List.getElem_cons_zero, List.setIfInBounds_toArray, List.set_cons_zero, List.set_cons_succ]
  refine wpAnyH_ready (rs := [1, 4]) (by kernel_rfl) (by simp) ?_
  refine AllReadyH.cons rfl (fun K hK => ?_) (AllReadyH.cons rfl (fun K hK => ?_) AllReadyH.nil)
  · go_simp
    refine hK.out _ _ ?_ (fun hHeld => ?_)
    · simp [go_sem, *]
    clear hK K
    try simp only [Act.put, List.getElem_toArray, List.getElem_cons_succ, List.getElem_cons_zero, List.setIfInBounds_toArray, List.set_cons_zero, List.set_cons_succ]
    refine wpAnyH_ready (rs := [2, 4]) (by kernel_rfl) (by simp) ?_
    refine AllReadyH.cons rfl (fun K hK => ?_) (AllReadyH.cons rfl (fun K hK => ?_) AllReadyH.nil)
    · go_simp
      refine (CL.out _).mono ?_
      rintro e _ ⟨rfl, rfl⟩
      refine hK.out _ _ ?_ (fun hHeld => ?_)
      · simp [go_sem, *]
      clear hK K
      try simp only [Act.put, List.getElem_toArray, List.getElem_cons_succ, List.getElem_cons_zero, List.setIfInBounds_toArray, List.set_cons_zero, List.set_cons_succ]
      refine wpAnyH_ready (rs := [4]) (by kernel_rfl) (by simp) ?_
      refine AllReadyH.cons rfl (fun K hK => ?_) AllReadyH.nil
      go_simp
      refine hK.out _ _ ?_ (fun hHeld => ?_)
      · simp [go_sem, *]
      clear hK K
      try simp only [Act.put, List.getElem_toArray, List.getElem_cons_succ, List.getElem_cons_zero, List.setIfInBounds_toArray, List.set_cons_zero, List.set_cons_succ]
      refine wpAnyH_ready (rs := [5]) (by kernel_rfl) (by simp) ?_
      refine AllReadyH.cons rfl (fun K hK => ?_) AllReadyH.nil
      refine step_append_grows rfl (.tmp 27) (.tmp 29) 25 rfl 47 i6 _ 7 96 Try.underlying25 hi6 hz60 hz61 hz62 rfl (by decide) s.alarms.a s.alarms.n s.alarms.n ((ps.map (·.1)).flatMap flyL) (by simp [Act.eval, Act.put]) (fun hA => ⟨HMW.out.none0 hA, HMW.out.none0 hA⟩) HMW.out.1 (HMW.out.below (by repeat (first | (with_reducible exact Below.refl _ _) | (with_reducible assumption) | ((with_reducible refine Below.setCell ?_ ?_ _); rotate_left; (focus (first | omega | (simp; omega) | (simp; done)))) | ((with_reducible refine Below.alloc ?_ ?_ _); rotate_left; (focus (first | omega | (simp; omega) | (simp; done)))) | (with_reducible refine Below.drew ?_))) (Nat.le_refl _)).holds ⟨v1.heap.size + 1, 0, none⟩ 1 1 (flyL (⟨X, s.seq, p, ⟨l.src, l.msg, u1, l.sent⟩⟩ : FlyC)) (by simp [Act.eval, Act.put]) rfl (cells_new0 _ _ _ _ (by simp)) (by simp [Value.oneCell']) (by omega) (by rw [ml_val]; omega) (by omega) ?_
      intro v5 v3 ho5 hg5
      obtain ⟨u5, _, rfl, hlo5⟩ := own_sl ho5
      have h3 := Below.of_grown hg5
      clear hg5
      have hM3 : Mid (w.heap.size + 1 + 1 + 1) v1.heap.size v1 v3 := Mid.call (by repeat (first | (with_reducible exact Mid.refl _ _ _) | (with_reducible assumption) | ((with_reducible refine Mid.setCell ?_ ?_ _); rotate_left; (focus (first | omega | (simp; omega) | (simp; done)))) | ((with_reducible refine Mid.alloc ?_ ?_ _); rotate_left; (focus (first | omega | (simp; omega) | (simp; done)))) | (with_reducible refine Mid.drew ?_))) h3 (by first | omega | (simp; omega) | (simp; done))
      have z3 := h3.size
      try simp at z3
      have hB3 : Below w.heap.size w v3 := Below.call (w := w) (by repeat (first | (with_reducible exact Below.refl _ _) | (with_reducible assumption) | ((with_reducible refine Below.setCell ?_ ?_ _); rotate_left; (focus (first | omega | (simp; omega) | (simp; done)))) | ((with_reducible refine Below.alloc ?_ ?_ _); rotate_left; (focus (first | omega | (simp; omega) | (simp; done)))) | (with_reducible refine Below.drew ?_))) h3
      obtain ⟨k3_0, kc, kf⟩ := keepB h3 (w.heap.size) (by first | omega | (simp; omega) | (simp; done))
      have c3_0_0 : v3.cell? ⟨w.heap.size, 0, none⟩ = some (.slice s.up.a s.up.n s.up.c) := (kc 0).trans (by simp [go_sem, *])
      have f3_0_0 : v3.frozen? ⟨w.heap.size, 0, none⟩ = false := (kf 0).trans (by simp [go_sem, *])
      have c3_0_1 : v3.cell? ⟨w.heap.size, 1, none⟩ = some (.int .i64 s.moment) := (kc 1).trans (by simp [go_sem, *])
      have f3_0_1 : v3.frozen? ⟨w.heap.size, 1, none⟩ = false := (kf 1).trans (by simp [go_sem, *])
      have c3_0_2 : v3.cell? ⟨w.heap.size, 2, none⟩ = some (.int .i64 s.clock) := (kc 2).trans (by simp [go_sem, *])
      have f3_0_2 : v3.frozen? ⟨w.heap.size, 2, none⟩ = false := (kf 2).trans (by simp [go_sem, *])
      have c3_0_3 : v3.cell? ⟨w.heap.size, 3, none⟩ = some (.int .i64 s.seq) := (kc 3).trans (by simp [go_sem, *])
      have f3_0_3 : v3.frozen? ⟨w.heap.size, 3, none⟩ = false := (kf 3).trans (by simp [go_sem, *])
      have c3_0_4 : v3.cell? ⟨w.heap.size, 4, none⟩ = some (.slice s.actors.a s.actors.n s.actors.c) := (kc 4).trans (by simp [go_sem, *])
      have f3_0_4 : v3.frozen? ⟨w.heap.size, 4, none⟩ = false := (kf 4).trans (by simp [go_sem, *])
      have c3_0_5 : v3.cell? ⟨w.heap.size, 5, none⟩ = some (.slice s.flights.a s.flights.n s.flights.c) := (kc 5).trans (by simp [go_sem, *])
      have f3_0_5 : v3.frozen? ⟨w.heap.size, 5, none⟩ = false := (kf 5).trans (by simp [go_sem, *])
      have c3_0_6 : v3.cell? ⟨w.heap.size, 6, none⟩ = some (.slice s.alarms.a s.alarms.n s.alarms.c) := (kc 6).trans (by simp [go_sem, *])
      have f3_0_6 : v3.frozen? ⟨w.heap.size, 6, none⟩ = false := (kf 6).trans (by simp [go_sem, *])
      have c3_0_7 : v3.cell? ⟨w.heap.size, 7, none⟩ = some (.slice s.asked.a s.asked.n s.asked.c) := (kc 7).trans (by simp [go_sem, *])
      have f3_0_7 : v3.frozen? ⟨w.heap.size, 7, none⟩ = false := (kf 7).trans (by simp [go_sem, *])
      have c3_0_8 : v3.cell? ⟨w.heap.size, 8, none⟩ = some (.int .i64 s.dead) := (kc 8).trans (by simp [go_sem, *])
      have f3_0_8 : v3.frozen? ⟨w.heap.size, 8, none⟩ = false := (kf 8).trans (by simp [go_sem, *])
      clear kc kf
      obtain ⟨k3_1, kc, kf⟩ := keepB h3 (w.heap.size + 1) (by first | omega | (simp; omega) | (simp; done))
      have c3_1_0 : v3.cell? ⟨w.heap.size + 1, 0, none⟩ = some (.string l.src) := (kc 0).trans (by simp [go_sem, *])
      have f3_1_0 : v3.frozen? ⟨w.heap.size + 1, 0, none⟩ = false := (kf 0).trans (by simp [go_sem, *])
      have c3_1_1 : v3.cell? ⟨w.heap.size + 1, 1, none⟩ = some (.string l.msg) := (kc 1).trans (by simp [go_sem, *])
      have f3_1_1 : v3.frozen? ⟨w.heap.size + 1, 1, none⟩ = false := (kf 1).trans (by simp [go_sem, *])
      have c3_1_2 : v3.cell? ⟨w.heap.size + 1, 2, none⟩ = some (.slice u1.a u1.n u1.c) := (kc 2).trans (by simp [go_sem, *])
      have f3_1_2 : v3.frozen? ⟨w.heap.size + 1, 2, none⟩ = false := (kf 2).trans (by simp [go_sem, *])
      have c3_1_3 : v3.cell? ⟨w.heap.size + 1, 3, none⟩ = some (.int .i64 l.sent) := (kc 3).trans (by simp [go_sem, *])
      have f3_1_3 : v3.frozen? ⟨w.heap.size + 1, 3, none⟩ = false := (kf 3).trans (by simp [go_sem, *])
      clear kc kf
      obtain ⟨k3_2, kc, kf⟩ := keepB h3 (w.heap.size + 1 + 1) (by first | omega | (simp; omega) | (simp; done))
      have c3_2_0 : v3.cell? ⟨w.heap.size + 1 + 1, 0, none⟩ = some (.slice none 0 0) := (kc 0).trans (by simp [go_sem, *])
      have f3_2_0 : v3.frozen? ⟨w.heap.size + 1 + 1, 0, none⟩ = false := (kf 0).trans (by simp [go_sem, *])
      have c3_2_1 : v3.cell? ⟨w.heap.size + 1 + 1, 1, none⟩ = some (.int .i64 0) := (kc 1).trans (by simp [go_sem, *])
      have f3_2_1 : v3.frozen? ⟨w.heap.size + 1 + 1, 1, none⟩ = false := (kf 1).trans (by simp [go_sem, *])
      have c3_2_2 : v3.cell? ⟨w.heap.size + 1 + 1, 2, none⟩ = some (.int .i64 0) := (kc 2).trans (by simp [go_sem, *])
      have f3_2_2 : v3.frozen? ⟨w.heap.size + 1 + 1, 2, none⟩ = false := (kf 2).trans (by simp [go_sem, *])
      have c3_2_3 : v3.cell? ⟨w.heap.size + 1 + 1, 3, none⟩ = some (.int .i64 0) := (kc 3).trans (by simp [go_sem, *])
      have f3_2_3 : v3.frozen? ⟨w.heap.size + 1 + 1, 3, none⟩ = false := (kf 3).trans (by simp [go_sem, *])
      have c3_2_4 : v3.cell? ⟨w.heap.size + 1 + 1, 4, none⟩ = some (.slice none 0 0) := (kc 4).trans (by simp [go_sem, *])
      have f3_2_4 : v3.frozen? ⟨w.heap.size + 1 + 1, 4, none⟩ = false := (kf 4).trans (by simp [go_sem, *])
      have c3_2_5 : v3.cell? ⟨w.heap.size + 1 + 1, 5, none⟩ = some (.slice none 0 0) := (kc 5).trans (by simp [go_sem, *])
      have f3_2_5 : v3.frozen? ⟨w.heap.size + 1 + 1, 5, none⟩ = false := (kf 5).trans (by simp [go_sem, *])
      have c3_2_6 : v3.cell? ⟨w.heap.size + 1 + 1, 6, none⟩ = some (.slice none 0 0) := (kc 6).trans (by simp [go_sem, *])
      have f3_2_6 : v3.frozen? ⟨w.heap.size + 1 + 1, 6, none⟩ = false := (kf 6).trans (by simp [go_sem, *])
      have c3_2_7 : v3.cell? ⟨w.heap.size + 1 + 1, 7, none⟩ = some (.slice none 0 0) := (kc 7).trans (by simp [go_sem, *])
      have f3_2_7 : v3.frozen? ⟨w.heap.size + 1 + 1, 7, none⟩ = false := (kf 7).trans (by simp [go_sem, *])
      have c3_2_8 : v3.cell? ⟨w.heap.size + 1 + 1, 8, none⟩ = some (.int .i64 0) := (kc 8).trans (by simp [go_sem, *])
      have f3_2_8 : v3.frozen? ⟨w.heap.size + 1 + 1, 8, none⟩ = false := (kf 8).trans (by simp [go_sem, *])
      clear kc kf
      obtain ⟨k3_3, kc, kf⟩ := keepB h3 (v1.heap.size) (by first | omega | (simp; omega) | (simp; done))
      have c3_3_0 : v3.cell? ⟨v1.heap.size, 0, none⟩ = some (.int .i64 X) := (kc 0).trans (by simp [go_sem, *])
      have f3_3_0 : v3.frozen? ⟨v1.heap.size, 0, none⟩ = false := (kf 0).trans (by simp [go_sem, *])
      have c3_3_1 : v3.cell? ⟨v1.heap.size, 1, none⟩ = some (.int .i64 s.seq) := (kc 1).trans (by simp [go_sem, *])
      have f3_3_1 : v3.frozen? ⟨v1.heap.size, 1, none⟩ = false := (kf 1).trans (by simp [go_sem, *])
      have c3_3_2 : v3.cell? ⟨v1.heap.size, 2, none⟩ = some (.string p) := (kc 2).trans (by simp [go_sem, *])
      have f3_3_2 : v3.frozen? ⟨v1.heap.size, 2, none⟩ = false := (kf 2).trans (by simp [go_sem, *])
      have c3_3_3 : v3.cell? ⟨v1.heap.size, 3, none⟩ = some (.string l.src) := (kc 3).trans (by simp [go_sem, *])
      have f3_3_3 : v3.frozen? ⟨v1.heap.size, 3, none⟩ = false := (kf 3).trans (by simp [go_sem, *])
      have c3_3_4 : v3.cell? ⟨v1.heap.size, 4, none⟩ = some (.string l.msg) := (kc 4).trans (by simp [go_sem, *])
      have f3_3_4 : v3.frozen? ⟨v1.heap.size, 4, none⟩ = false := (kf 4).trans (by simp [go_sem, *])
      have c3_3_5 : v3.cell? ⟨v1.heap.size, 5, none⟩ = some (.slice u1.a u1.n u1.c) := (kc 5).trans (by simp [go_sem, *])
      have f3_3_5 : v3.frozen? ⟨v1.heap.size, 5, none⟩ = false := (kf 5).trans (by simp [go_sem, *])
      have c3_3_6 : v3.cell? ⟨v1.heap.size, 6, none⟩ = some (.int .i64 l.sent) := (kc 6).trans (by simp [go_sem, *])
      have f3_3_6 : v3.frozen? ⟨v1.heap.size, 6, none⟩ = false := (kf 6).trans (by simp [go_sem, *])
      clear kc kf
      clear c1_0_0 f1_0_0 c1_0_1 f1_0_1 c1_0_2 f1_0_2 c1_0_3 f1_0_3 c1_0_4 f1_0_4 c1_0_5 f1_0_5 c1_0_6 f1_0_6 c1_0_7 f1_0_7 c1_0_8 f1_0_8 c1_1_0 f1_1_0 c1_1_1 f1_1_1 c1_1_2 f1_1_2 c1_1_3 f1_1_3 c1_2_0 f1_2_0 c1_2_1 f1_2_1 c1_2_2 f1_2_2 c1_2_3 f1_2_3 c1_2_4 f1_2_4 c1_2_5 f1_2_5 c1_2_6 f1_2_6 c1_2_7 f1_2_7 c1_2_8 f1_2_8
      have HO5 := Lib.hid (show v3.ownsRow (v1.heap.size + 1 + 1) 47 7 (.slice u5.a (s.alarms.n + 1) u5.c) (s.alarms.n + 1) ((ps.map (·.1) ++ [(⟨X, s.seq, p, ⟨l.src, l.msg, u1, l.sent⟩⟩ : FlyC)]).flatMap flyL) by simpa using ho5)
      clear ho5 hlo5
      refine hK.out _ _ ?_ (fun hHeld => ?_)
      · simp [go_sem, *]
      clear hK K
      try simp only [Act.put, List.getElem_toArray, List.getElem_cons_succ, List.getElem_cons_zero, List.setIfInBounds_toArray, List.set_cons_zero, List.set_cons_succ]
      refine wpAnyH_take (i := 6) (v := ?_) rfl (by kernel_rfl) (by kernel_rfl) (by kernel_rfl) (fun _ _ _ h => h) (Or.inl ⟨by rfl, ?_⟩) (by assumption) ?_
      rotate_left
      · intro w hSw; (try dsimp only at hSw); go_simp; (first | done | (with_reducible rfl))
      try simp only [Act.put, List.getElem_toArray, List.getElem_cons_succ, List.getElem_cons_zero, List.setIfInBounds_toArray, List.set_cons_zero, List.set_cons_succ]
      refine wpAnyH_ready (rs := [7]) (by kernel_rfl) (by simp) ?_
      refine AllReadyH.cons rfl (fun K hK => ?_) AllReadyH.nil
      go_simp
      refine hK.out _ _ ?_ (fun hHeld => ?_)
      · simp [go_sem, *]
      clear hK K
      try simp only [Act.put, List.getElem_toArray, List.getElem_cons_succ, List.getElem_cons_zero, List.setIfInBounds_toArray, List.set_cons_zero, List.set_cons_succ]
      refine wpAnyH_done (by kernel_rfl) ?_ _
      go_wp2_with fail
      obtain ⟨Wf, hWf⟩ : ∃ W, W = putSt ((v3.setCell ⟨w.heap.size, 6, none⟩ (.slice u5.a (s.alarms.n + 1) u5.c)).setCell ⟨w.heap.size, 3, none⟩ (.int .i64 (wrap64 (s.seq + 1)))) (w.heap.size + 1 + 1) { s with seq := wrap64 (s.seq + 1), alarms := ⟨u5.a, s.alarms.n + 1, u5.c⟩ } := ⟨_, rfl⟩
      have hBf : Below w.heap.size w Wf := by rw [hWf]; exact (by repeat (first | (with_reducible exact Below.refl _ _) | (with_reducible assumption) | ((with_reducible refine Below.setCell ?_ ?_ _); rotate_left; (focus (first | omega | (simp; omega) | (simp; done)))) | ((with_reducible refine Below.alloc ?_ ?_ _); rotate_left; (focus (first | omega | (simp; omega) | (simp; done)))) | (with_reducible refine Below.drew ?_)))
      have hMf : Mid (w.heap.size + 1 + 1 + 1) v1.heap.size v1 Wf := by rw [hWf]; exact (by repeat (first | (with_reducible exact Mid.refl _ _ _) | (with_reducible assumption) | ((with_reducible refine Mid.setCell ?_ ?_ _); rotate_left; (focus (first | omega | (simp; omega) | (simp; done)))) | ((with_reducible refine Mid.alloc ?_ ?_ _); rotate_left; (focus (first | omega | (simp; omega) | (simp; done)))) | (with_reducible refine Mid.drew ?_)))
      have hal : Als (fun b => P b ∨ w.heap.size ≤ b) Wf ⟨u5.a, s.alarms.n + 1, u5.c⟩ (ps.map (·.2) ++ [⟨X, s.seq, p, l.src, l.msg, ts, l.sent⟩]) := by
        refine als_snoc (B0 := v1.heap.size + 1 + 1) H.out hBf HO5.out ?_ (by omega) ⟨rfl, rfl, rfl, rfl, rfl, rfl, (HU.out.mid hMf (fun b hb => ?_) (Nat.le_refl _)).mono (fun b hb => ?_)⟩
        · rw [hWf]; exact own_off (own_set_other (own_set_other HO5.out _ _ (own_ne (R := w.heap.size) HO5.out (by omega))) _ _ (own_ne (R := w.heap.size) HO5.out (by omega))) (putSt_off _ _ _) (by omega)
        · simp at hb; omega
        · simp at hb; exact .inr (by omega)
      rw [HS.out, HX.out, CK.out, SQ.out] at hal
      have e : sysT s (Tm.set σ n p l.src l.msg ts l.sent) ⟨u5.a, s.alarms.n + 1, u5.c⟩ = { s with seq := wrap64 (s.seq + 1), alarms := ⟨u5.a, s.alarms.n + 1, u5.c⟩ } := by
        show ({ s with clock := σ.clock, seq := wrap64 (σ.seq + 1), alarms := ⟨u5.a, s.alarms.n + 1, u5.c⟩ } : SysC) = _
        rw [← CK.out, ← SQ.out]
      clear hMf hM3
      refine bodyPost_ret (v := sysV (sysT s (Tm.set σ n p l.src l.msg ts l.sent) ⟨u5.a, s.alarms.n + 1, u5.c⟩)) ?_ rfl ?_
      · rw [e]; simp [results, Try.results19, go_sem, *]
      · rw [hWf] at hal hBf; exact ⟨_, rfl, hal, hBf⟩
    · go_simp
      refine hK.out _ _ ?_ (fun hHeld => ?_)
      · simp [go_sem, *]
      clear hK K
      try simp only [Act.put, List.getElem_toArray, List.getElem_cons_succ, List.getElem_cons_zero, List.setIfInBounds_toArray, List.set_cons_zero, List.set_cons_succ]
      refine wpAnyH_ready (rs := [2]) (by kernel_rfl) (by simp) ?_
      refine AllReadyH.cons rfl (fun K hK => ?_) AllReadyH.nil
      go_simp
      refine (CL.out _).mono ?_
      rintro e _ ⟨rfl, rfl⟩
      refine hK.out _ _ ?_ (fun hHeld => ?_)
      · simp [go_sem, *]
      clear hK K
      try simp only [Act.put, List.getElem_toArray, List.getElem_cons_succ, List.getElem_cons_zero, List.setIfInBounds_toArray, List.set_cons_zero, List.set_cons_succ]
      refine wpAnyH_ready (rs := [5]) (by kernel_rfl) (by simp) ?_
      refine AllReadyH.cons rfl (fun K hK => ?_) AllReadyH.nil
      refine step_append_grows rfl (.tmp 27) (.tmp 29) 25 rfl 47 i6 _ 7 96 Try.underlying25 hi6 hz60 hz61 hz62 rfl (by decide) s.alarms.a s.alarms.n s.alarms.n ((ps.map (·.1)).flatMap flyL) (by simp [Act.eval, Act.put]) (fun hA => ⟨HMW.out.none0 hA, HMW.out.none0 hA⟩) HMW.out.1 (HMW.out.below (by repeat (first | (with_reducible exact Below.refl _ _) | (with_reducible assumption) | ((with_reducible refine Below.setCell ?_ ?_ _); rotate_left; (focus (first | omega | (simp; omega) | (simp; done)))) | ((with_reducible refine Below.alloc ?_ ?_ _); rotate_left; (focus (first | omega | (simp; omega) | (simp; done)))) | (with_reducible refine Below.drew ?_))) (Nat.le_refl _)).holds ⟨v1.heap.size + 1, 0, none⟩ 1 1 (flyL (⟨X, s.seq, p, ⟨l.src, l.msg, u1, l.sent⟩⟩ : FlyC)) (by simp [Act.eval, Act.put]) rfl (cells_new0 _ _ _ _ (by simp)) (by simp [Value.oneCell']) (by omega) (by rw [ml_val]; omega) (by omega) ?_
      intro v5 v3 ho5 hg5
      obtain ⟨u5, _, rfl, hlo5⟩ := own_sl ho5
      have h3 := Below.of_grown hg5
      clear hg5
      have hM3 : Mid (w.heap.size + 1 + 1 + 1) v1.heap.size v1 v3 := Mid.call (by repeat (first | (with_reducible exact Mid.refl _ _ _) | (with_reducible assumption) | ((with_reducible refine Mid.setCell ?_ ?_ _); rotate_left; (focus (first | omega | (simp; omega) | (simp; done)))) | ((with_reducible refine Mid.alloc ?_ ?_ _); rotate_left; (focus (first | omega | (simp; omega) | (simp; done)))) | (with_reducible refine Mid.drew ?_))) h3 (by first | omega | (simp; omega) | (simp; done))
      have z3 := h3.size
      try simp at z3
      have hB3 : Below w.heap.size w v3 := Below.call (w := w) (by repeat (first | (with_reducible exact Below.refl _ _) | (with_reducible assumption) | ((with_reducible refine Below.setCell ?_ ?_ _); rotate_left; (focus (first | omega | (simp; omega) | (simp; done)))) | ((with_reducible refine Below.alloc ?_ ?_ _); rotate_left; (focus (first | omega | (simp; omega) | (simp; done)))) | (with_reducible refine Below.drew ?_))) h3
      obtain ⟨k3_0, kc, kf⟩ := keepB h3 (w.heap.size) (by first | omega | (simp; omega) | (simp; done))
      have c3_0_0 : v3.cell? ⟨w.heap.size, 0, none⟩ = some (.slice s.up.a s.up.n s.up.c) := (kc 0).trans (by simp [go_sem, *])
      have f3_0_0 : v3.frozen? ⟨w.heap.size, 0, none⟩ = false := (kf 0).trans (by simp [go_sem, *])
      have c3_0_1 : v3.cell? ⟨w.heap.size, 1, none⟩ = some (.int .i64 s.moment) := (kc 1).trans (by simp [go_sem, *])
      have f3_0_1 : v3.frozen? ⟨w.heap.size, 1, none⟩ = false := (kf 1).trans (by simp [go_sem, *])
      have c3_0_2 : v3.cell? ⟨w.heap.size, 2, none⟩ = some (.int .i64 s.clock) := (kc 2).trans (by simp [go_sem, *])
      have f3_0_2 : v3.frozen? ⟨w.heap.size, 2, none⟩ = false := (kf 2).trans (by simp [go_sem, *])
      have c3_0_3 : v3.cell? ⟨w.heap.size, 3, none⟩ = some (.int .i64 s.seq) := (kc 3).trans (by simp [go_sem, *])
      have f3_0_3 : v3.frozen? ⟨w.heap.size, 3, none⟩ = false := (kf 3).trans (by simp [go_sem, *])
      have c3_0_4 : v3.cell? ⟨w.heap.size, 4, none⟩ = some (.slice s.actors.a s.actors.n s.actors.c) := (kc 4).trans (by simp [go_sem, *])
      have f3_0_4 : v3.frozen? ⟨w.heap.size, 4, none⟩ = false := (kf 4).trans (by simp [go_sem, *])
      have c3_0_5 : v3.cell? ⟨w.heap.size, 5, none⟩ = some (.slice s.flights.a s.flights.n s.flights.c) := (kc 5).trans (by simp [go_sem, *])
      have f3_0_5 : v3.frozen? ⟨w.heap.size, 5, none⟩ = false := (kf 5).trans (by simp [go_sem, *])
      have c3_0_6 : v3.cell? ⟨w.heap.size, 6, none⟩ = some (.slice s.alarms.a s.alarms.n s.alarms.c) := (kc 6).trans (by simp [go_sem, *])
      have f3_0_6 : v3.frozen? ⟨w.heap.size, 6, none⟩ = false := (kf 6).trans (by simp [go_sem, *])
      have c3_0_7 : v3.cell? ⟨w.heap.size, 7, none⟩ = some (.slice s.asked.a s.asked.n s.asked.c) := (kc 7).trans (by simp [go_sem, *])
      have f3_0_7 : v3.frozen? ⟨w.heap.size, 7, none⟩ = false := (kf 7).trans (by simp [go_sem, *])
      have c3_0_8 : v3.cell? ⟨w.heap.size, 8, none⟩ = some (.int .i64 s.dead) := (kc 8).trans (by simp [go_sem, *])
      have f3_0_8 : v3.frozen? ⟨w.heap.size, 8, none⟩ = false := (kf 8).trans (by simp [go_sem, *])
      clear kc kf
      obtain ⟨k3_1, kc, kf⟩ := keepB h3 (w.heap.size + 1) (by first | omega | (simp; omega) | (simp; done))
      have c3_1_0 : v3.cell? ⟨w.heap.size + 1, 0, none⟩ = some (.string l.src) := (kc 0).trans (by simp [go_sem, *])
      have f3_1_0 : v3.frozen? ⟨w.heap.size + 1, 0, none⟩ = false := (kf 0).trans (by simp [go_sem, *])
      have c3_1_1 : v3.cell? ⟨w.heap.size + 1, 1, none⟩ = some (.string l.msg) := (kc 1).trans (by simp [go_sem, *])
      have f3_1_1 : v3.frozen? ⟨w.heap.size + 1, 1, none⟩ = false := (kf 1).trans (by simp [go_sem, *])
      have c3_1_2 : v3.cell? ⟨w.heap.size + 1, 2, none⟩ = some (.slice u1.a u1.n u1.c) := (kc 2).trans (by simp [go_sem, *])
      have f3_1_2 : v3.frozen? ⟨w.heap.size + 1, 2, none⟩ = false := (kf 2).trans (by simp [go_sem, *])
      have c3_1_3 : v3.cell? ⟨w.heap.size + 1, 3, none⟩ = some (.int .i64 l.sent) := (kc 3).trans (by simp [go_sem, *])
      have f3_1_3 : v3.frozen? ⟨w.heap.size + 1, 3, none⟩ = false := (kf 3).trans (by simp [go_sem, *])
      clear kc kf
      obtain ⟨k3_2, kc, kf⟩ := keepB h3 (w.heap.size + 1 + 1) (by first | omega | (simp; omega) | (simp; done))
      have c3_2_0 : v3.cell? ⟨w.heap.size + 1 + 1, 0, none⟩ = some (.slice none 0 0) := (kc 0).trans (by simp [go_sem, *])
      have f3_2_0 : v3.frozen? ⟨w.heap.size + 1 + 1, 0, none⟩ = false := (kf 0).trans (by simp [go_sem, *])
      have c3_2_1 : v3.cell? ⟨w.heap.size + 1 + 1, 1, none⟩ = some (.int .i64 0) := (kc 1).trans (by simp [go_sem, *])
      have f3_2_1 : v3.frozen? ⟨w.heap.size + 1 + 1, 1, none⟩ = false := (kf 1).trans (by simp [go_sem, *])
      have c3_2_2 : v3.cell? ⟨w.heap.size + 1 + 1, 2, none⟩ = some (.int .i64 0) := (kc 2).trans (by simp [go_sem, *])
      have f3_2_2 : v3.frozen? ⟨w.heap.size + 1 + 1, 2, none⟩ = false := (kf 2).trans (by simp [go_sem, *])
      have c3_2_3 : v3.cell? ⟨w.heap.size + 1 + 1, 3, none⟩ = some (.int .i64 0) := (kc 3).trans (by simp [go_sem, *])
      have f3_2_3 : v3.frozen? ⟨w.heap.size + 1 + 1, 3, none⟩ = false := (kf 3).trans (by simp [go_sem, *])
      have c3_2_4 : v3.cell? ⟨w.heap.size + 1 + 1, 4, none⟩ = some (.slice none 0 0) := (kc 4).trans (by simp [go_sem, *])
      have f3_2_4 : v3.frozen? ⟨w.heap.size + 1 + 1, 4, none⟩ = false := (kf 4).trans (by simp [go_sem, *])
      have c3_2_5 : v3.cell? ⟨w.heap.size + 1 + 1, 5, none⟩ = some (.slice none 0 0) := (kc 5).trans (by simp [go_sem, *])
      have f3_2_5 : v3.frozen? ⟨w.heap.size + 1 + 1, 5, none⟩ = false := (kf 5).trans (by simp [go_sem, *])
      have c3_2_6 : v3.cell? ⟨w.heap.size + 1 + 1, 6, none⟩ = some (.slice none 0 0) := (kc 6).trans (by simp [go_sem, *])
      have f3_2_6 : v3.frozen? ⟨w.heap.size + 1 + 1, 6, none⟩ = false := (kf 6).trans (by simp [go_sem, *])
      have c3_2_7 : v3.cell? ⟨w.heap.size + 1 + 1, 7, none⟩ = some (.slice none 0 0) := (kc 7).trans (by simp [go_sem, *])
      have f3_2_7 : v3.frozen? ⟨w.heap.size + 1 + 1, 7, none⟩ = false := (kf 7).trans (by simp [go_sem, *])
      have c3_2_8 : v3.cell? ⟨w.heap.size + 1 + 1, 8, none⟩ = some (.int .i64 0) := (kc 8).trans (by simp [go_sem, *])
      have f3_2_8 : v3.frozen? ⟨w.heap.size + 1 + 1, 8, none⟩ = false := (kf 8).trans (by simp [go_sem, *])
      clear kc kf
      obtain ⟨k3_3, kc, kf⟩ := keepB h3 (v1.heap.size) (by first | omega | (simp; omega) | (simp; done))
      have c3_3_0 : v3.cell? ⟨v1.heap.size, 0, none⟩ = some (.int .i64 X) := (kc 0).trans (by simp [go_sem, *])
      have f3_3_0 : v3.frozen? ⟨v1.heap.size, 0, none⟩ = false := (kf 0).trans (by simp [go_sem, *])
      have c3_3_1 : v3.cell? ⟨v1.heap.size, 1, none⟩ = some (.int .i64 s.seq) := (kc 1).trans (by simp [go_sem, *])
      have f3_3_1 : v3.frozen? ⟨v1.heap.size, 1, none⟩ = false := (kf 1).trans (by simp [go_sem, *])
      have c3_3_2 : v3.cell? ⟨v1.heap.size, 2, none⟩ = some (.string p) := (kc 2).trans (by simp [go_sem, *])
      have f3_3_2 : v3.frozen? ⟨v1.heap.size, 2, none⟩ = false := (kf 2).trans (by simp [go_sem, *])
      have c3_3_3 : v3.cell? ⟨v1.heap.size, 3, none⟩ = some (.string l.src) := (kc 3).trans (by simp [go_sem, *])
      have f3_3_3 : v3.frozen? ⟨v1.heap.size, 3, none⟩ = false := (kf 3).trans (by simp [go_sem, *])
      have c3_3_4 : v3.cell? ⟨v1.heap.size, 4, none⟩ = some (.string l.msg) := (kc 4).trans (by simp [go_sem, *])
      have f3_3_4 : v3.frozen? ⟨v1.heap.size, 4, none⟩ = false := (kf 4).trans (by simp [go_sem, *])
      have c3_3_5 : v3.cell? ⟨v1.heap.size, 5, none⟩ = some (.slice u1.a u1.n u1.c) := (kc 5).trans (by simp [go_sem, *])
      have f3_3_5 : v3.frozen? ⟨v1.heap.size, 5, none⟩ = false := (kf 5).trans (by simp [go_sem, *])
      have c3_3_6 : v3.cell? ⟨v1.heap.size, 6, none⟩ = some (.int .i64 l.sent) := (kc 6).trans (by simp [go_sem, *])
      have f3_3_6 : v3.frozen? ⟨v1.heap.size, 6, none⟩ = false := (kf 6).trans (by simp [go_sem, *])
      clear kc kf
      clear c1_0_0 f1_0_0 c1_0_1 f1_0_1 c1_0_2 f1_0_2 c1_0_3 f1_0_3 c1_0_4 f1_0_4 c1_0_5 f1_0_5 c1_0_6 f1_0_6 c1_0_7 f1_0_7 c1_0_8 f1_0_8 c1_1_0 f1_1_0 c1_1_1 f1_1_1 c1_1_2 f1_1_2 c1_1_3 f1_1_3 c1_2_0 f1_2_0 c1_2_1 f1_2_1 c1_2_2 f1_2_2 c1_2_3 f1_2_3 c1_2_4 f1_2_4 c1_2_5 f1_2_5 c1_2_6 f1_2_6 c1_2_7 f1_2_7 c1_2_8 f1_2_8
      have HO5 := Lib.hid (show v3.ownsRow (v1.heap.size + 1 + 1) 47 7 (.slice u5.a (s.alarms.n + 1) u5.c) (s.alarms.n + 1) ((ps.map (·.1) ++ [(⟨X, s.seq, p, ⟨l.src, l.msg, u1, l.sent⟩⟩ : FlyC)]).flatMap flyL) by simpa using ho5)
      clear ho5 hlo5
      refine hK.out _ _ ?_ (fun hHeld => ?_)
      · simp [go_sem, *]
      clear hK K
      try simp only [Act.put, List.getElem_toArray, List.getElem_cons_succ, List.getElem_cons_zero, List.setIfInBounds_toArray, List.set_cons_zero, List.set_cons_succ]
      refine wpAnyH_take (i := 6) (v := ?_) rfl (by kernel_rfl) (by kernel_rfl) (by kernel_rfl) (fun _ _ _ h => h) (Or.inl ⟨by rfl, ?_⟩) (by assumption) ?_
      rotate_left
      · intro w hSw; (try dsimp only at hSw); go_simp; (first | done | (with_reducible rfl))
      try simp only [Act.put, List.getElem_toArray, List.getElem_cons_succ, List.getElem_cons_zero, List.setIfInBounds_toArray, List.set_cons_zero, List.set_cons_succ]
      refine wpAnyH_ready (rs := [7]) (by kernel_rfl) (by simp) ?_
      refine AllReadyH.cons rfl (fun K hK => ?_) AllReadyH.nil
      go_simp
      refine hK.out _ _ ?_ (fun hHeld => ?_)
      · simp [go_sem, *]
      clear hK K
      try simp only [Act.put, List.getElem_toArray, List.getElem_cons_succ, List.getElem_cons_zero, List.setIfInBounds_toArray, List.set_cons_zero, List.set_cons_succ]
      refine wpAnyH_done (by kernel_rfl) ?_ _
      go_wp2_with fail
      obtain ⟨Wf, hWf⟩ : ∃ W, W = putSt ((v3.setCell ⟨w.heap.size, 6, none⟩ (.slice u5.a (s.alarms.n + 1) u5.c)).setCell ⟨w.heap.size, 3, none⟩ (.int .i64 (wrap64 (s.seq + 1)))) (w.heap.size + 1 + 1) { s with seq := wrap64 (s.seq + 1), alarms := ⟨u5.a, s.alarms.n + 1, u5.c⟩ } := ⟨_, rfl⟩
      have hBf : Below w.heap.size w Wf := by rw [hWf]; exact (by repeat (first | (with_reducible exact Below.refl _ _) | (with_reducible assumption) | ((with_reducible refine Below.setCell ?_ ?_ _); rotate_left; (focus (first | omega | (simp; omega) | (simp; done)))) | ((with_reducible refine Below.alloc ?_ ?_ _); rotate_left; (focus (first | omega | (simp; omega) | (simp; done)))) | (with_reducible refine Below.drew ?_)))
      have hMf : Mid (w.heap.size + 1 + 1 + 1) v1.heap.size v1 Wf := by rw [hWf]; exact (by repeat (first | (with_reducible exact Mid.refl _ _ _) | (with_reducible assumption) | ((with_reducible refine Mid.setCell ?_ ?_ _); rotate_left; (focus (first | omega | (simp; omega) | (simp; done)))) | ((with_reducible refine Mid.alloc ?_ ?_ _); rotate_left; (focus (first | omega | (simp; omega) | (simp; done)))) | (with_reducible refine Mid.drew ?_)))
      have hal : Als (fun b => P b ∨ w.heap.size ≤ b) Wf ⟨u5.a, s.alarms.n + 1, u5.c⟩ (ps.map (·.2) ++ [⟨X, s.seq, p, l.src, l.msg, ts, l.sent⟩]) := by
        refine als_snoc (B0 := v1.heap.size + 1 + 1) H.out hBf HO5.out ?_ (by omega) ⟨rfl, rfl, rfl, rfl, rfl, rfl, (HU.out.mid hMf (fun b hb => ?_) (Nat.le_refl _)).mono (fun b hb => ?_)⟩
        · rw [hWf]; exact own_off (own_set_other (own_set_other HO5.out _ _ (own_ne (R := w.heap.size) HO5.out (by omega))) _ _ (own_ne (R := w.heap.size) HO5.out (by omega))) (putSt_off _ _ _) (by omega)
        · simp at hb; omega
        · simp at hb; exact .inr (by omega)
      rw [HS.out, HX.out, CK.out, SQ.out] at hal
      have e : sysT s (Tm.set σ n p l.src l.msg ts l.sent) ⟨u5.a, s.alarms.n + 1, u5.c⟩ = { s with seq := wrap64 (s.seq + 1), alarms := ⟨u5.a, s.alarms.n + 1, u5.c⟩ } := by
        show ({ s with clock := σ.clock, seq := wrap64 (σ.seq + 1), alarms := ⟨u5.a, s.alarms.n + 1, u5.c⟩ } : SysC) = _
        rw [← CK.out, ← SQ.out]
      clear hMf hM3
      refine bodyPost_ret (v := sysV (sysT s (Tm.set σ n p l.src l.msg ts l.sent) ⟨u5.a, s.alarms.n + 1, u5.c⟩)) ?_ rfl ?_
      · rw [e]; simp [results, Try.results19, go_sem, *]
      · rw [hWf] at hal hBf; exact ⟨_, rfl, hal, hBf⟩
  · go_simp
    refine hK.out _ _ ?_ (fun hHeld => ?_)
    · simp [go_sem, *]
    clear hK K
    try simp only [Act.put, List.getElem_toArray, List.getElem_cons_succ, List.getElem_cons_zero, List.setIfInBounds_toArray, List.set_cons_zero, List.set_cons_succ]
    refine wpAnyH_ready (rs := [1]) (by kernel_rfl) (by simp) ?_
    refine AllReadyH.cons rfl (fun K hK => ?_) AllReadyH.nil
    go_simp
    refine hK.out _ _ ?_ (fun hHeld => ?_)
    · simp [go_sem, *]
    clear hK K
    try simp only [Act.put, List.getElem_toArray, List.getElem_cons_succ, List.getElem_cons_zero, List.setIfInBounds_toArray, List.set_cons_zero, List.set_cons_succ]
    refine wpAnyH_ready (rs := [2]) (by kernel_rfl) (by simp) ?_
    refine AllReadyH.cons rfl (fun K hK => ?_) AllReadyH.nil
    go_simp
    refine (CL.out _).mono ?_
    rintro e _ ⟨rfl, rfl⟩
    refine hK.out _ _ ?_ (fun hHeld => ?_)
    · simp [go_sem, *]
    clear hK K
    try simp only [Act.put, List.getElem_toArray, List.getElem_cons_succ, List.getElem_cons_zero, List.setIfInBounds_toArray, List.set_cons_zero, List.set_cons_succ]
    refine wpAnyH_ready (rs := [5]) (by kernel_rfl) (by simp) ?_
    refine AllReadyH.cons rfl (fun K hK => ?_) AllReadyH.nil
    refine step_append_grows rfl (.tmp 27) (.tmp 29) 25 rfl 47 i6 _ 7 96 Try.underlying25 hi6 hz60 hz61 hz62 rfl (by decide) s.alarms.a s.alarms.n s.alarms.n ((ps.map (·.1)).flatMap flyL) (by simp [Act.eval, Act.put]) (fun hA => ⟨HMW.out.none0 hA, HMW.out.none0 hA⟩) HMW.out.1 (HMW.out.below (by repeat (first | (with_reducible exact Below.refl _ _) | (with_reducible assumption) | ((with_reducible refine Below.setCell ?_ ?_ _); rotate_left; (focus (first | omega | (simp; omega) | (simp; done)))) | ((with_reducible refine Below.alloc ?_ ?_ _); rotate_left; (focus (first | omega | (simp; omega) | (simp; done)))) | (with_reducible refine Below.drew ?_))) (Nat.le_refl _)).holds ⟨v1.heap.size + 1, 0, none⟩ 1 1 (flyL (⟨X, s.seq, p, ⟨l.src, l.msg, u1, l.sent⟩⟩ : FlyC)) (by simp [Act.eval, Act.put]) rfl (cells_new0 _ _ _ _ (by simp)) (by simp [Value.oneCell']) (by omega) (by rw [ml_val]; omega) (by omega) ?_
    intro v5 v3 ho5 hg5
    obtain ⟨u5, _, rfl, hlo5⟩ := own_sl ho5
    have h3 := Below.of_grown hg5
    clear hg5
    have hM3 : Mid (w.heap.size + 1 + 1 + 1) v1.heap.size v1 v3 := Mid.call (by repeat (first | (with_reducible exact Mid.refl _ _ _) | (with_reducible assumption) | ((with_reducible refine Mid.setCell ?_ ?_ _); rotate_left; (focus (first | omega | (simp; omega) | (simp; done)))) | ((with_reducible refine Mid.alloc ?_ ?_ _); rotate_left; (focus (first | omega | (simp; omega) | (simp; done)))) | (with_reducible refine Mid.drew ?_))) h3 (by first | omega | (simp; omega) | (simp; done))
    have z3 := h3.size
    try simp at z3
    have hB3 : Below w.heap.size w v3 := Below.call (w := w) (by repeat (first | (with_reducible exact Below.refl _ _) | (with_reducible assumption) | ((with_reducible refine Below.setCell ?_ ?_ _); rotate_left; (focus (first | omega | (simp; omega) | (simp; done)))) | ((with_reducible refine Below.alloc ?_ ?_ _); rotate_left; (focus (first | omega | (simp; omega) | (simp; done)))) | (with_reducible refine Below.drew ?_))) h3
    obtain ⟨k3_0, kc, kf⟩ := keepB h3 (w.heap.size) (by first | omega | (simp; omega) | (simp; done))
    have c3_0_0 : v3.cell? ⟨w.heap.size, 0, none⟩ = some (.slice s.up.a s.up.n s.up.c) := (kc 0).trans (by simp [go_sem, *])
    have f3_0_0 : v3.frozen? ⟨w.heap.size, 0, none⟩ = false := (kf 0).trans (by simp [go_sem, *])
    have c3_0_1 : v3.cell? ⟨w.heap.size, 1, none⟩ = some (.int .i64 s.moment) := (kc 1).trans (by simp [go_sem, *])
    have f3_0_1 : v3.frozen? ⟨w.heap.size, 1, none⟩ = false := (kf 1).trans (by simp [go_sem, *])
    have c3_0_2 : v3.cell? ⟨w.heap.size, 2, none⟩ = some (.int .i64 s.clock) := (kc 2).trans (by simp [go_sem, *])
    have f3_0_2 : v3.frozen? ⟨w.heap.size, 2, none⟩ = false := (kf 2).trans (by simp [go_sem, *])
    have c3_0_3 : v3.cell? ⟨w.heap.size, 3, none⟩ = some (.int .i64 s.seq) := (kc 3).trans (by simp [go_sem, *])
    have f3_0_3 : v3.frozen? ⟨w.heap.size, 3, none⟩ = false := (kf 3).trans (by simp [go_sem, *])
    have c3_0_4 : v3.cell? ⟨w.heap.size, 4, none⟩ = some (.slice s.actors.a s.actors.n s.actors.c) := (kc 4).trans (by simp [go_sem, *])
    have f3_0_4 : v3.frozen? ⟨w.heap.size, 4, none⟩ = false := (kf 4).trans (by simp [go_sem, *])
    have c3_0_5 : v3.cell? ⟨w.heap.size, 5, none⟩ = some (.slice s.flights.a s.flights.n s.flights.c) := (kc 5).trans (by simp [go_sem, *])
    have f3_0_5 : v3.frozen? ⟨w.heap.size, 5, none⟩ = false := (kf 5).trans (by simp [go_sem, *])
    have c3_0_6 : v3.cell? ⟨w.heap.size, 6, none⟩ = some (.slice s.alarms.a s.alarms.n s.alarms.c) := (kc 6).trans (by simp [go_sem, *])
    have f3_0_6 : v3.frozen? ⟨w.heap.size, 6, none⟩ = false := (kf 6).trans (by simp [go_sem, *])
    have c3_0_7 : v3.cell? ⟨w.heap.size, 7, none⟩ = some (.slice s.asked.a s.asked.n s.asked.c) := (kc 7).trans (by simp [go_sem, *])
    have f3_0_7 : v3.frozen? ⟨w.heap.size, 7, none⟩ = false := (kf 7).trans (by simp [go_sem, *])
    have c3_0_8 : v3.cell? ⟨w.heap.size, 8, none⟩ = some (.int .i64 s.dead) := (kc 8).trans (by simp [go_sem, *])
    have f3_0_8 : v3.frozen? ⟨w.heap.size, 8, none⟩ = false := (kf 8).trans (by simp [go_sem, *])
    clear kc kf
    obtain ⟨k3_1, kc, kf⟩ := keepB h3 (w.heap.size + 1) (by first | omega | (simp; omega) | (simp; done))
    have c3_1_0 : v3.cell? ⟨w.heap.size + 1, 0, none⟩ = some (.string l.src) := (kc 0).trans (by simp [go_sem, *])
    have f3_1_0 : v3.frozen? ⟨w.heap.size + 1, 0, none⟩ = false := (kf 0).trans (by simp [go_sem, *])
    have c3_1_1 : v3.cell? ⟨w.heap.size + 1, 1, none⟩ = some (.string l.msg) := (kc 1).trans (by simp [go_sem, *])
    have f3_1_1 : v3.frozen? ⟨w.heap.size + 1, 1, none⟩ = false := (kf 1).trans (by simp [go_sem, *])
    have c3_1_2 : v3.cell? ⟨w.heap.size + 1, 2, none⟩ = some (.slice u1.a u1.n u1.c) := (kc 2).trans (by simp [go_sem, *])
    have f3_1_2 : v3.frozen? ⟨w.heap.size + 1, 2, none⟩ = false := (kf 2).trans (by simp [go_sem, *])
    have c3_1_3 : v3.cell? ⟨w.heap.size + 1, 3, none⟩ = some (.int .i64 l.sent) := (kc 3).trans (by simp [go_sem, *])
    have f3_1_3 : v3.frozen? ⟨w.heap.size + 1, 3, none⟩ = false := (kf 3).trans (by simp [go_sem, *])
    clear kc kf
    obtain ⟨k3_2, kc, kf⟩ := keepB h3 (w.heap.size + 1 + 1) (by first | omega | (simp; omega) | (simp; done))
    have c3_2_0 : v3.cell? ⟨w.heap.size + 1 + 1, 0, none⟩ = some (.slice none 0 0) := (kc 0).trans (by simp [go_sem, *])
    have f3_2_0 : v3.frozen? ⟨w.heap.size + 1 + 1, 0, none⟩ = false := (kf 0).trans (by simp [go_sem, *])
    have c3_2_1 : v3.cell? ⟨w.heap.size + 1 + 1, 1, none⟩ = some (.int .i64 0) := (kc 1).trans (by simp [go_sem, *])
    have f3_2_1 : v3.frozen? ⟨w.heap.size + 1 + 1, 1, none⟩ = false := (kf 1).trans (by simp [go_sem, *])
    have c3_2_2 : v3.cell? ⟨w.heap.size + 1 + 1, 2, none⟩ = some (.int .i64 0) := (kc 2).trans (by simp [go_sem, *])
    have f3_2_2 : v3.frozen? ⟨w.heap.size + 1 + 1, 2, none⟩ = false := (kf 2).trans (by simp [go_sem, *])
    have c3_2_3 : v3.cell? ⟨w.heap.size + 1 + 1, 3, none⟩ = some (.int .i64 0) := (kc 3).trans (by simp [go_sem, *])
    have f3_2_3 : v3.frozen? ⟨w.heap.size + 1 + 1, 3, none⟩ = false := (kf 3).trans (by simp [go_sem, *])
    have c3_2_4 : v3.cell? ⟨w.heap.size + 1 + 1, 4, none⟩ = some (.slice none 0 0) := (kc 4).trans (by simp [go_sem, *])
    have f3_2_4 : v3.frozen? ⟨w.heap.size + 1 + 1, 4, none⟩ = false := (kf 4).trans (by simp [go_sem, *])
    have c3_2_5 : v3.cell? ⟨w.heap.size + 1 + 1, 5, none⟩ = some (.slice none 0 0) := (kc 5).trans (by simp [go_sem, *])
    have f3_2_5 : v3.frozen? ⟨w.heap.size + 1 + 1, 5, none⟩ = false := (kf 5).trans (by simp [go_sem, *])
    have c3_2_6 : v3.cell? ⟨w.heap.size + 1 + 1, 6, none⟩ = some (.slice none 0 0) := (kc 6).trans (by simp [go_sem, *])
    have f3_2_6 : v3.frozen? ⟨w.heap.size + 1 + 1, 6, none⟩ = false := (kf 6).trans (by simp [go_sem, *])
    have c3_2_7 : v3.cell? ⟨w.heap.size + 1 + 1, 7, none⟩ = some (.slice none 0 0) := (kc 7).trans (by simp [go_sem, *])
    have f3_2_7 : v3.frozen? ⟨w.heap.size + 1 + 1, 7, none⟩ = false := (kf 7).trans (by simp [go_sem, *])
    have c3_2_8 : v3.cell? ⟨w.heap.size + 1 + 1, 8, none⟩ = some (.int .i64 0) := (kc 8).trans (by simp [go_sem, *])
    have f3_2_8 : v3.frozen? ⟨w.heap.size + 1 + 1, 8, none⟩ = false := (kf 8).trans (by simp [go_sem, *])
    clear kc kf
    obtain ⟨k3_3, kc, kf⟩ := keepB h3 (v1.heap.size) (by first | omega | (simp; omega) | (simp; done))
    have c3_3_0 : v3.cell? ⟨v1.heap.size, 0, none⟩ = some (.int .i64 X) := (kc 0).trans (by simp [go_sem, *])
    have f3_3_0 : v3.frozen? ⟨v1.heap.size, 0, none⟩ = false := (kf 0).trans (by simp [go_sem, *])
    have c3_3_1 : v3.cell? ⟨v1.heap.size, 1, none⟩ = some (.int .i64 s.seq) := (kc 1).trans (by simp [go_sem, *])
    have f3_3_1 : v3.frozen? ⟨v1.heap.size, 1, none⟩ = false := (kf 1).trans (by simp [go_sem, *])
    have c3_3_2 : v3.cell? ⟨v1.heap.size, 2, none⟩ = some (.string p) := (kc 2).trans (by simp [go_sem, *])
    have f3_3_2 : v3.frozen? ⟨v1.heap.size, 2, none⟩ = false := (kf 2).trans (by simp [go_sem, *])
    have c3_3_3 : v3.cell? ⟨v1.heap.size, 3, none⟩ = some (.string l.src) := (kc 3).trans (by simp [go_sem, *])
    have f3_3_3 : v3.frozen? ⟨v1.heap.size, 3, none⟩ = false := (kf 3).trans (by simp [go_sem, *])
    have c3_3_4 : v3.cell? ⟨v1.heap.size, 4, none⟩ = some (.string l.msg) := (kc 4).trans (by simp [go_sem, *])
    have f3_3_4 : v3.frozen? ⟨v1.heap.size, 4, none⟩ = false := (kf 4).trans (by simp [go_sem, *])
    have c3_3_5 : v3.cell? ⟨v1.heap.size, 5, none⟩ = some (.slice u1.a u1.n u1.c) := (kc 5).trans (by simp [go_sem, *])
    have f3_3_5 : v3.frozen? ⟨v1.heap.size, 5, none⟩ = false := (kf 5).trans (by simp [go_sem, *])
    have c3_3_6 : v3.cell? ⟨v1.heap.size, 6, none⟩ = some (.int .i64 l.sent) := (kc 6).trans (by simp [go_sem, *])
    have f3_3_6 : v3.frozen? ⟨v1.heap.size, 6, none⟩ = false := (kf 6).trans (by simp [go_sem, *])
    clear kc kf
    clear c1_0_0 f1_0_0 c1_0_1 f1_0_1 c1_0_2 f1_0_2 c1_0_3 f1_0_3 c1_0_4 f1_0_4 c1_0_5 f1_0_5 c1_0_6 f1_0_6 c1_0_7 f1_0_7 c1_0_8 f1_0_8 c1_1_0 f1_1_0 c1_1_1 f1_1_1 c1_1_2 f1_1_2 c1_1_3 f1_1_3 c1_2_0 f1_2_0 c1_2_1 f1_2_1 c1_2_2 f1_2_2 c1_2_3 f1_2_3 c1_2_4 f1_2_4 c1_2_5 f1_2_5 c1_2_6 f1_2_6 c1_2_7 f1_2_7 c1_2_8 f1_2_8
    have HO5 := Lib.hid (show v3.ownsRow (v1.heap.size + 1 + 1) 47 7 (.slice u5.a (s.alarms.n + 1) u5.c) (s.alarms.n + 1) ((ps.map (·.1) ++ [(⟨X, s.seq, p, ⟨l.src, l.msg, u1, l.sent⟩⟩ : FlyC)]).flatMap flyL) by simpa using ho5)
    clear ho5 hlo5
    refine hK.out _ _ ?_ (fun hHeld => ?_)
    · simp [go_sem, *]
    clear hK K
    try simp only [Act.put, List.getElem_toArray, List.getElem_cons_succ, List.getElem_cons_zero, List.setIfInBounds_toArray, List.set_cons_zero, List.set_cons_succ]
    refine wpAnyH_take (i := 6) (v := ?_) rfl (by kernel_rfl) (by kernel_rfl) (by kernel_rfl) (fun _ _ _ h => h) (Or.inl ⟨by rfl, ?_⟩) (by assumption) ?_
    rotate_left
    · intro w hSw; (try dsimp only at hSw); go_simp; (first | done | (with_reducible rfl))
    try simp only [Act.put, List.getElem_toArray, List.getElem_cons_succ, List.getElem_cons_zero, List.setIfInBounds_toArray, List.set_cons_zero, List.set_cons_succ]
    refine wpAnyH_ready (rs := [7]) (by kernel_rfl) (by simp) ?_
    refine AllReadyH.cons rfl (fun K hK => ?_) AllReadyH.nil
    go_simp
    refine hK.out _ _ ?_ (fun hHeld => ?_)
    · simp [go_sem, *]
    clear hK K
    try simp only [Act.put, List.getElem_toArray, List.getElem_cons_succ, List.getElem_cons_zero, List.setIfInBounds_toArray, List.set_cons_zero, List.set_cons_succ]
    refine wpAnyH_done (by kernel_rfl) ?_ _
    go_wp2_with fail
    obtain ⟨Wf, hWf⟩ : ∃ W, W = putSt ((v3.setCell ⟨w.heap.size, 6, none⟩ (.slice u5.a (s.alarms.n + 1) u5.c)).setCell ⟨w.heap.size, 3, none⟩ (.int .i64 (wrap64 (s.seq + 1)))) (w.heap.size + 1 + 1) { s with seq := wrap64 (s.seq + 1), alarms := ⟨u5.a, s.alarms.n + 1, u5.c⟩ } := ⟨_, rfl⟩
    have hBf : Below w.heap.size w Wf := by rw [hWf]; exact (by repeat (first | (with_reducible exact Below.refl _ _) | (with_reducible assumption) | ((with_reducible refine Below.setCell ?_ ?_ _); rotate_left; (focus (first | omega | (simp; omega) | (simp; done)))) | ((with_reducible refine Below.alloc ?_ ?_ _); rotate_left; (focus (first | omega | (simp; omega) | (simp; done)))) | (with_reducible refine Below.drew ?_)))
    have hMf : Mid (w.heap.size + 1 + 1 + 1) v1.heap.size v1 Wf := by rw [hWf]; exact (by repeat (first | (with_reducible exact Mid.refl _ _ _) | (with_reducible assumption) | ((with_reducible refine Mid.setCell ?_ ?_ _); rotate_left; (focus (first | omega | (simp; omega) | (simp; done)))) | ((with_reducible refine Mid.alloc ?_ ?_ _); rotate_left; (focus (first | omega | (simp; omega) | (simp; done)))) | (with_reducible refine Mid.drew ?_)))
    have hal : Als (fun b => P b ∨ w.heap.size ≤ b) Wf ⟨u5.a, s.alarms.n + 1, u5.c⟩ (ps.map (·.2) ++ [⟨X, s.seq, p, l.src, l.msg, ts, l.sent⟩]) := by
      refine als_snoc (B0 := v1.heap.size + 1 + 1) H.out hBf HO5.out ?_ (by omega) ⟨rfl, rfl, rfl, rfl, rfl, rfl, (HU.out.mid hMf (fun b hb => ?_) (Nat.le_refl _)).mono (fun b hb => ?_)⟩
      · rw [hWf]; exact own_off (own_set_other (own_set_other HO5.out _ _ (own_ne (R := w.heap.size) HO5.out (by omega))) _ _ (own_ne (R := w.heap.size) HO5.out (by omega))) (putSt_off _ _ _) (by omega)
      · simp at hb; omega
      · simp at hb; exact .inr (by omega)
    rw [HS.out, HX.out, CK.out, SQ.out] at hal
    have e : sysT s (Tm.set σ n p l.src l.msg ts l.sent) ⟨u5.a, s.alarms.n + 1, u5.c⟩ = { s with seq := wrap64 (s.seq + 1), alarms := ⟨u5.a, s.alarms.n + 1, u5.c⟩ } := by
      show ({ s with clock := σ.clock, seq := wrap64 (σ.seq + 1), alarms := ⟨u5.a, s.alarms.n + 1, u5.c⟩ } : SysC) = _
      rw [← CK.out, ← SQ.out]
    clear hMf hM3
    refine bodyPost_ret (v := sysV (sysT s (Tm.set σ n p l.src l.msg ts l.sent) ⟨u5.a, s.alarms.n + 1, u5.c⟩)) ?_ rfl ?_
    · rw [e]; simp [results, Try.results19, go_sem, *]
    · rw [hWf] at hal hBf; exact ⟨_, rfl, hal, hBf⟩
end Go.Proofs.Ytjdjfjokniingaa
