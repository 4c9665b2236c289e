/- The walk of SchedPosts. -/
import Derived.Test.YtjdjfjokniingaaMf
import Derived.Test.YtjdjfjokniingaaMg
namespace Go.Proofs.Ytjdjfjokniingaa
open Go.RowKit

set_option maxRecDepth 100000 in
set_option maxHeartbeats 16000000 in
theorem posts_walk (s : SysC) (σ : PS) (p : ByteArray) (l : LetC) (node : Int) (w : World) (hs : SysR w s σ) (hd : PSD w σ) (hnu : s.up.n ≤ 9223372036854775807) :
    Calls Try.prog 16 #[sysV s, .string p, letV l, .int .i64 node] w fun e w' => e = .returned (.bool true) ∧ Below w.heap.size w w' := by
  obtain ⟨qs, hq1, hq2, hq3⟩ := hs.ac
  obtain ⟨ls, hls⟩ : ∃ ls, qs.map (·.1) = ls := ⟨_, rfl⟩
  rw [hls] at hq1
  have hpath : σ.acts.map (·.path) = ls.map (·.path) := by rw [← hq3, ← hls]; simp [plOf]
  have hwf : ∀ f ∈ σ.fls, WfI f.x ∧ WfI f.y := fun f hf => ⟨(hd.fl f hf).x, (hd.fl f hf).y⟩
  obtain ⟨L, hL⟩ : ∃ L, Ml.en σ = L := ⟨_, rfl⟩
  obtain ⟨M, hM⟩ : ∃ M, Ml.en (Ml.post σ p l).1 = M := ⟨_, rfl⟩
  obtain ⟨D, hD⟩ : ∃ D, Ml.en (Ml.drop σ node) = D := ⟨_, rfl⟩
  have hlen : σ.acts.length = s.actors.n := hs.na.symm
  have hlf : σ.fls.length = s.flights.n := hs.nfl
  have hmod : ∀ (i : Nat) (f : PL → PL), (σ.acts.modify i f).length = σ.acts.length := fun i f => by simp
  have hpl : (Ml.post σ p l).1.acts.length = σ.acts.length ∧ (Ml.post σ p l).1.fls = σ.fls := by
    unfold Ml.post
    split
    · split
      · exact ⟨hmod _ _, rfl⟩
      · exact ⟨rfl, rfl⟩
    · exact ⟨rfl, rfl⟩
  have hl1 : s.actors.n ≤ 100 → s.flights.n ≤ 100 → L.length ≤ 200 ∧ M.length ≤ 200 ∧ D.length ≤ 200 := fun h1 h2 => by
    have e1 := en_len σ
    have e2 := en_len (Ml.post σ p l).1
    have e3 := en_len (Ml.drop σ node)
    have e4 : (Ml.drop σ node).acts.length = σ.acts.length := by simp [Ml.drop]
    have e5 : (Ml.drop σ node).fls.length ≤ σ.fls.length := List.length_filter_le _ _
    rw [hL] at e1
    rw [hM, hpl.1, hpl.2] at e2
    rw [hD, e4] at e3
    omega
  have HLL := Lib.hid hl1
  have C0 := Lib.hid (fun (W : World) (hW : Below w.heap.size w W) => few_any s ls W (hq1.up hW))
  have C5 := Lib.hid (fun (W : World) (hW : Below w.heap.size w W) (hb : s.actors.n ≤ 100) => named_any s ls W (hq1.up hW) hb)
  have CE : Hid (∀ W, Below w.heap.size w W → s.actors.n ≤ 100 → s.flights.n ≤ 100 → Calls Try.prog 53 #[sysV s] W fun e w' => ∃ v : Sl, e = .returned (.slice v.a L.length v.c) ∧ Rd w' w'.heap.size 3 v.a L.length (L.flatMap actnL) ∧ Below W.heap.size W w') := Lib.hid (fun W hW h1 h2 => by
    have := en_any s σ W (hs.below hW) (by omega) (by omega) hwf
    rw [hL] at this
    exact this)
  obtain ⟨ok, hok⟩ : ∃ ok, (Ml.post σ p l).2 = ok := ⟨_, rfl⟩
  have CP : Hid (∀ W, Below w.heap.size w W → s.actors.n ≤ 100 → Calls Try.prog 33 #[sysV s, .string p, letV l] W fun e w' => ∃ s', e = .returned (.tuple #[sysV s', .bool ok]) ∧ SysR w' s' (Ml.post σ p l).1 ∧ Below W.heap.size W w') := Lib.hid (fun W hW h1 => by
    have := post_any s σ p l W (hs.below hW) (by omega) hnu
    unfold SysPost at this
    rw [hok] at this
    exact this)
  have CM : Hid (∀ W s', SysR W s' (Ml.post σ p l).1 → s.actors.n ≤ 100 → s.flights.n ≤ 100 → Calls Try.prog 53 #[sysV s'] W fun e w' => ∃ v : Sl, e = .returned (.slice v.a M.length v.c) ∧ Rd w' w'.heap.size 3 v.a M.length (M.flatMap actnL) ∧ Below W.heap.size W w') := Lib.hid (fun W s' hs' h1 h2 => by
    have e1 := hs'.na
    have e2 := hs'.nfl
    rw [hpl.1] at e1
    rw [hpl.2] at e2
    have := en_any s' _ W hs' (by omega) (by omega) (by rw [hpl.2]; exact hwf)
    rw [hM] at this
    exact this)
  have CR : Hid (∀ W, Below w.heap.size w W → s.actors.n ≤ 100 → s.flights.n ≤ 100 → s.alarms.n ≤ 100 → Calls Try.prog 42 #[sysV s, .int .i64 node] W fun e w' => ∃ s', e = .returned (sysV s') ∧ SysR w' s' (Ml.drop σ node) ∧ Below W.heap.size W w') := Lib.hid (fun W hW h1 h2 h3 =>
    drop_any s σ node W (hs.below hW) (by omega) (by omega) (by omega) (fun a ha => (hd.ac a ha).path) (fun f hf => (hd.al f hf).l.src))
  have CD : Hid (∀ W s', SysR W s' (Ml.drop σ node) → s.actors.n ≤ 100 → s.flights.n ≤ 100 → Calls Try.prog 53 #[sysV s'] W fun e w' => ∃ v : Sl, e = .returned (.slice v.a D.length v.c) ∧ Rd w' w'.heap.size 3 v.a D.length (D.flatMap actnL) ∧ Below W.heap.size W w') := Lib.hid (fun W s' hs' h1 h2 => by
    have e1 := hs'.na
    have e2 := hs'.nfl
    have e4 : (Ml.drop σ node).acts.length = σ.acts.length := by simp [Ml.drop]
    have e5 : (Ml.drop σ node).fls.length ≤ σ.fls.length := List.length_filter_le _ _
    have := en_any s' _ W hs' (by omega) (by omega) (fun f hf => hwf f (List.mem_filter.1 hf).1)
    rw [hD] at this
    exact this)
  have CF := Lib.hid (fun (W : World) (q : ByteArray) (hW : Below w.heap.size w W) (hb : s.actors.n ≤ 100) => find_any s ls q W (hq1.up hW) (by omega))
  have K1 : Hid (∀ a ∈ L, a ∈ M) := Lib.hid (by rw [← hL, ← hM]; exact Ml.post_keeps σ p l)
  have K2 : Hid (∀ a ∈ M, a ∉ L → ok = true ∧ a.path = p) := Lib.hid (by rw [← hL, ← hM, ← hok]; exact Ml.post_adds σ p l)
  have hpp : (∀ a ∈ ls, a.path.toList.isEmpty = false) → ∀ a ∈ σ.acts, a.path.toList.isEmpty = false := fun h a ha => by
    have : a.path ∈ ls.map (·.path) := by rw [← hpath]; exact List.mem_map_of_mem ha
    obtain ⟨b, hb, e⟩ := List.mem_map.1 this
    rw [← e]; exact h b hb
  have K3 : Hid ((∀ a ∈ ls, a.path.toList.isEmpty = false) → ∀ a ∈ D, a.path.toList.isEmpty = true → a.x ≠ node ∧ a.y ≠ node) := Lib.hid (fun h => by rw [← hD]; exact Ml.drop_chan σ node (hpp h))
  have K4 : Hid ((∀ (j k : Nat) (a b : LiveC), j < k → ls[j]? = some a → ls[k]? = some b → a.path ≠ b.path) → ∀ a ∈ D, a.path.toList.isEmpty = false → ∃ k q, Ml.find (ls.map (·.path)) a.path = some k ∧ ls[k]? = some q ∧ q.node ≠ node) := Lib.hid (fun h => by
    rw [← hD]
    intro a ha he
    have hg : ∀ k : Nat, σ.acts[k]? = (ls[k]?).map (fun b => plOf (b, ((qs[k]?).map (fun z => z.2)).getD [])) := fun k => by
      rw [← hq3, ← hls, List.getElem?_map, List.getElem?_map]
      cases qs[k]? <;> rfl
    obtain ⟨k, q, h1, h2, h3⟩ := Ml.drop_act σ node (fun j k x y hjk hx hy => by
      rw [hg] at hx hy
      cases ex : ls[j]? with
      | none => rw [ex] at hx; simp at hx
      | some b =>
        cases ey : ls[k]? with
        | none => rw [ey] at hy; simp at hy
        | some c =>
          rw [ex] at hx; rw [ey] at hy
          simp at hx hy
          rw [← hx, ← hy]
          exact h j k b c hjk ex ey) a ha he
    rw [hpath] at h1
    rw [hg] at h2
    cases ex : ls[k]? with
    | none => rw [ex] at h2; simp at h2
    | some b =>
      rw [ex] at h2
      simp at h2
      rw [← h2] at h3
      exact ⟨k, b, h1, ex, h3⟩)
  have HA := Lib.hid hq1
  have HLEN := Lib.hid (hq1.len (fun _ => rfl) (by omega))
  clear hq1 hq2 hq3 hls hpath hwf hL hM hD hlen hlf hmod hpl hl1 hpp hs hd hok
  go_enter Try.func16, Try.ntmps16
  go_wp2_with fail
  refine (small20 _).mono ?_
  rintro e v1 ⟨rfl, h1⟩
  have z1 := h1.size
  try simp at z1
  have hB1 : Below w.heap.size w v1 := Below.call (w := w) (by repeat (first | (with_reducible exact Below.refl _ _) | (with_reducible assumption) | refine Below.setCell ?_ (by first | omega | (simp; omega) | (simp; done)) _ | refine Below.alloc ?_ (by first | omega | (simp; omega) | (simp; done)) _ | refine Below.drew ?_)) h1
  obtain ⟨k1_0, kc, kf⟩ := keepB h1 (w.heap.size) (by first | omega | (simp; omega) | (simp; done))
  have c1_0_0 : v1.cell? ⟨w.heap.size, 0, none⟩ = some (.slice s.up.a s.up.n s.up.c) := (kc 0).trans (by simp [go_sem, *])
  have c1_0_1 : v1.cell? ⟨w.heap.size, 1, none⟩ = some (.int .i64 s.moment) := (kc 1).trans (by simp [go_sem, *])
  have c1_0_2 : v1.cell? ⟨w.heap.size, 2, none⟩ = some (.int .i64 s.clock) := (kc 2).trans (by simp [go_sem, *])
  have c1_0_3 : v1.cell? ⟨w.heap.size, 3, none⟩ = some (.int .i64 s.seq) := (kc 3).trans (by simp [go_sem, *])
  have c1_0_4 : v1.cell? ⟨w.heap.size, 4, none⟩ = some (.slice s.actors.a s.actors.n s.actors.c) := (kc 4).trans (by simp [go_sem, *])
  have c1_0_5 : v1.cell? ⟨w.heap.size, 5, none⟩ = some (.slice s.flights.a s.flights.n s.flights.c) := (kc 5).trans (by simp [go_sem, *])
  have c1_0_6 : v1.cell? ⟨w.heap.size, 6, none⟩ = some (.slice s.alarms.a s.alarms.n s.alarms.c) := (kc 6).trans (by simp [go_sem, *])
  have c1_0_7 : v1.cell? ⟨w.heap.size, 7, none⟩ = some (.slice s.asked.a s.asked.n s.asked.c) := (kc 7).trans (by simp [go_sem, *])
  have c1_0_8 : v1.cell? ⟨w.heap.size, 8, none⟩ = some (.int .i64 s.dead) := (kc 8).trans (by simp [go_sem, *])
  clear kc kf
  obtain ⟨k1_1, kc, kf⟩ := keepB h1 (w.heap.size + 1) (by first | omega | (simp; omega) | (simp; done))
  have c1_1_0 : v1.cell? ⟨w.heap.size + 1, 0, none⟩ = some (.string l.src) := (kc 0).trans (by simp [go_sem, *])
  have c1_1_1 : v1.cell? ⟨w.heap.size + 1, 1, none⟩ = some (.string l.msg) := (kc 1).trans (by simp [go_sem, *])
  have c1_1_2 : v1.cell? ⟨w.heap.size + 1, 2, none⟩ = some (.slice l.args.a l.args.n l.args.c) := (kc 2).trans (by simp [go_sem, *])
  have c1_1_3 : v1.cell? ⟨w.heap.size + 1, 3, none⟩ = some (.int .i64 l.sent) := (kc 3).trans (by simp [go_sem, *])
  clear kc kf
  go_wp2_with fail
  refine (C0.out _ (by repeat (first | (with_reducible exact Below.refl _ _) | (with_reducible assumption) | refine Below.setCell ?_ (by first | omega | (simp; omega) | (simp; done)) _ | refine Below.alloc ?_ (by first | omega | (simp; omega) | (simp; done)) _ | refine Below.drew ?_))).mono ?_
  rintro e v2 ⟨x, rfl, hx, h2⟩
  have z2 := h2.size
  try simp at z2
  have hB2 : Below w.heap.size w v2 := Below.call (w := w) (by repeat (first | (with_reducible exact Below.refl _ _) | (with_reducible assumption) | refine Below.setCell ?_ (by first | omega | (simp; omega) | (simp; done)) _ | refine Below.alloc ?_ (by first | omega | (simp; omega) | (simp; done)) _ | refine Below.drew ?_)) h2
  obtain ⟨k2_0, kc, kf⟩ := keepB h2 (w.heap.size) (by first | omega | (simp; omega) | (simp; done))
  have c2_0_0 : v2.cell? ⟨w.heap.size, 0, none⟩ = some (.slice s.up.a s.up.n s.up.c) := (kc 0).trans (by simp [go_sem, *])
  have c2_0_1 : v2.cell? ⟨w.heap.size, 1, none⟩ = some (.int .i64 s.moment) := (kc 1).trans (by simp [go_sem, *])
  have c2_0_2 : v2.cell? ⟨w.heap.size, 2, none⟩ = some (.int .i64 s.clock) := (kc 2).trans (by simp [go_sem, *])
  have c2_0_3 : v2.cell? ⟨w.heap.size, 3, none⟩ = some (.int .i64 s.seq) := (kc 3).trans (by simp [go_sem, *])
  have c2_0_4 : v2.cell? ⟨w.heap.size, 4, none⟩ = some (.slice s.actors.a s.actors.n s.actors.c) := (kc 4).trans (by simp [go_sem, *])
  have c2_0_5 : v2.cell? ⟨w.heap.size, 5, none⟩ = some (.slice s.flights.a s.flights.n s.flights.c) := (kc 5).trans (by simp [go_sem, *])
  have c2_0_6 : v2.cell? ⟨w.heap.size, 6, none⟩ = some (.slice s.alarms.a s.alarms.n s.alarms.c) := (kc 6).trans (by simp [go_sem, *])
  have c2_0_7 : v2.cell? ⟨w.heap.size, 7, none⟩ = some (.slice s.asked.a s.asked.n s.asked.c) := (kc 7).trans (by simp [go_sem, *])
  have c2_0_8 : v2.cell? ⟨w.heap.size, 8, none⟩ = some (.int .i64 s.dead) := (kc 8).trans (by simp [go_sem, *])
  clear kc kf
  obtain ⟨k2_1, kc, kf⟩ := keepB h2 (w.heap.size + 1) (by first | omega | (simp; omega) | (simp; done))
  have c2_1_0 : v2.cell? ⟨w.heap.size + 1, 0, none⟩ = some (.string l.src) := (kc 0).trans (by simp [go_sem, *])
  have c2_1_1 : v2.cell? ⟨w.heap.size + 1, 1, none⟩ = some (.string l.msg) := (kc 1).trans (by simp [go_sem, *])
  have c2_1_2 : v2.cell? ⟨w.heap.size + 1, 2, none⟩ = some (.slice l.args.a l.args.n l.args.c) := (kc 2).trans (by simp [go_sem, *])
  have c2_1_3 : v2.cell? ⟨w.heap.size + 1, 3, none⟩ = some (.int .i64 l.sent) := (kc 3).trans (by simp [go_sem, *])
  clear kc kf
  clear c1_0_0 c1_0_1 c1_0_2 c1_0_3 c1_0_4 c1_0_5 c1_0_6 c1_0_7 c1_0_8 c1_1_0 c1_1_1 c1_1_2 c1_1_3
  cases x with
  | false =>
    clear hx
    go_wp2_with fail
    go_ret
    exact ⟨rfl, by with_reducible assumption⟩
  | true =>
  obtain ⟨ba, bf, bl⟩ := hx rfl
  obtain ⟨bL, bM, bD⟩ := HLL.out ba bf
  clear hx
  go_wp2_with fail
  refine (C5.out _ (by repeat (first | (with_reducible exact Below.refl _ _) | (with_reducible assumption) | refine Below.setCell ?_ (by first | omega | (simp; omega) | (simp; done)) _ | refine Below.alloc ?_ (by first | omega | (simp; omega) | (simp; done)) _ | refine Below.drew ?_)) ba).mono ?_
  rintro e v3 ⟨x, rfl, hx, h3⟩
  have z3 := h3.size
  try simp at z3
  have hB3 : Below w.heap.size w v3 := Below.call (w := w) (by repeat (first | (with_reducible exact Below.refl _ _) | (with_reducible assumption) | refine Below.setCell ?_ (by first | omega | (simp; omega) | (simp; done)) _ | refine Below.alloc ?_ (by first | omega | (simp; omega) | (simp; done)) _ | refine Below.drew ?_)) h3
  obtain ⟨k3_0, kc, kf⟩ := keepB h3 (w.heap.size) (by first | omega | (simp; omega) | (simp; done))
  have c3_0_0 : v3.cell? ⟨w.heap.size, 0, none⟩ = some (.slice s.up.a s.up.n s.up.c) := (kc 0).trans (by simp [go_sem, *])
  have c3_0_1 : v3.cell? ⟨w.heap.size, 1, none⟩ = some (.int .i64 s.moment) := (kc 1).trans (by simp [go_sem, *])
  have c3_0_2 : v3.cell? ⟨w.heap.size, 2, none⟩ = some (.int .i64 s.clock) := (kc 2).trans (by simp [go_sem, *])
  have c3_0_3 : v3.cell? ⟨w.heap.size, 3, none⟩ = some (.int .i64 s.seq) := (kc 3).trans (by simp [go_sem, *])
  have c3_0_4 : v3.cell? ⟨w.heap.size, 4, none⟩ = some (.slice s.actors.a s.actors.n s.actors.c) := (kc 4).trans (by simp [go_sem, *])
  have c3_0_5 : v3.cell? ⟨w.heap.size, 5, none⟩ = some (.slice s.flights.a s.flights.n s.flights.c) := (kc 5).trans (by simp [go_sem, *])
  have c3_0_6 : v3.cell? ⟨w.heap.size, 6, none⟩ = some (.slice s.alarms.a s.alarms.n s.alarms.c) := (kc 6).trans (by simp [go_sem, *])
  have c3_0_7 : v3.cell? ⟨w.heap.size, 7, none⟩ = some (.slice s.asked.a s.asked.n s.asked.c) := (kc 7).trans (by simp [go_sem, *])
  have c3_0_8 : v3.cell? ⟨w.heap.size, 8, none⟩ = some (.int .i64 s.dead) := (kc 8).trans (by simp [go_sem, *])
  clear kc kf
  obtain ⟨k3_1, kc, kf⟩ := keepB h3 (w.heap.size + 1) (by first | omega | (simp; omega) | (simp; done))
  have c3_1_0 : v3.cell? ⟨w.heap.size + 1, 0, none⟩ = some (.string l.src) := (kc 0).trans (by simp [go_sem, *])
  have c3_1_1 : v3.cell? ⟨w.heap.size + 1, 1, none⟩ = some (.string l.msg) := (kc 1).trans (by simp [go_sem, *])
  have c3_1_2 : v3.cell? ⟨w.heap.size + 1, 2, none⟩ = some (.slice l.args.a l.args.n l.args.c) := (kc 2).trans (by simp [go_sem, *])
  have c3_1_3 : v3.cell? ⟨w.heap.size + 1, 3, none⟩ = some (.int .i64 l.sent) := (kc 3).trans (by simp [go_sem, *])
  clear kc kf
  clear c2_0_0 c2_0_1 c2_0_2 c2_0_3 c2_0_4 c2_0_5 c2_0_6 c2_0_7 c2_0_8 c2_1_0 c2_1_1 c2_1_2 c2_1_3
  cases x with
  | true =>
    clear hx
    go_wp2_with fail
    go_ret
    exact ⟨rfl, by with_reducible assumption⟩
  | false =>
  have HP := Lib.hid (hx rfl)
  clear hx h1 h2 h3 hB1 hB2
  have HB3 := Lib.hid hB3
  clear hB3
  go_wp2_with fail
  go_loopw [10] (fun i wr => ∃ k : Nat, k ≤ s.actors.n ∧ i = .int .i64 k ∧ Hid (∀ (j1 j2 : Nat) (a b : LiveC), j1 < j2 → j2 < k → ls[j1]? = some a → ls[j2]? = some b → a.path ≠ b.path) ∧ ∃ m, wr = v3.drewN m) (fun i _ => s.actors.n - (intOf i).toNat)
  case atStart => exact ⟨0, Nat.zero_le _, rfl, fun j1 j2 a b _ h => absurd h (by omega), 0, rfl⟩
  case round =>
    obtain ⟨k, hk, rfl, HJ, m, rfl⟩ := hrel
    by_cases hlt : k < s.actors.n
    · obtain ⟨b, off, a, hA, hb, hak, hc⟩ := HA.out.at_ (fun _ => rfl) (by omega) hlt
      have xk : v3.cell? ⟨b, off + k * 9, none⟩ = some (.string a.path) := (HB3.out.cell (p := ⟨b, off + k * 9, none⟩) hb).trans (hc 0 _ rfl)
      have hixk : ∀ W : World, Sem.run Try.prog (Instr.indexAt 23 (.slice s.actors.a s.actors.n s.actors.c) (.int .i64 (k : Int))) W = .ok (.pointer (some ⟨b, off + k * 9, none⟩)) W := by intro W; rw [hA]; go_simp
      have HAk := Lib.hid hA
      have HK := Lib.hid hak
      clear hA hak hc
      go_wp2_with fail
      go_loopw [11] (fun i wr => ∃ j : Nat, j ≤ k ∧ i = .int .i64 j ∧ Hid (∀ (j1 : Nat) (x : LiveC), j1 < j → ls[j1]? = some x → x.path ≠ a.path) ∧ ∃ m, wr = v3.drewN m) (fun i _ => k - (intOf i).toNat)
      case atStart => exact ⟨0, Nat.zero_le _, rfl, fun j1 x h => absurd h (by omega), m, rfl⟩
      case round =>
        obtain ⟨j, hj, rfl, HI, m', rfl⟩ := hrel
        by_cases hjk : j < k
        · obtain ⟨b', off', x, hA', hb', hxj, hc'⟩ := HA.out.at_ (fun _ => rfl) (by omega) (show j < s.actors.n by omega)
          have e := HAk.out
          rw [hA'] at e
          simp only [Option.some.injEq, Addr.mk.injEq] at e
          obtain ⟨rfl, rfl, _⟩ := e
          have xj : v3.cell? ⟨b', off' + j * 9, none⟩ = some (.string x.path) := (HB3.out.cell (p := ⟨b', off' + j * 9, none⟩) hb).trans (hc' 0 _ rfl)
          have hjn : j < s.actors.n := by omega
          have hixj : ∀ W : World, Sem.run Try.prog (Instr.indexAt 23 (.slice s.actors.a s.actors.n s.actors.c) (.int .i64 (j : Int))) W = .ok (.pointer (some ⟨b', off' + j * 9, none⟩)) W := by intro W; rw [hA']; go_simp
          have HX := Lib.hid hxj
          clear hA' hxj hc'
          by_cases hp : x.path = a.path
          · have te := str_yes hp
            clear hp
            go_wp2_with fail
            go_quiet (fail)
            go_wp2_with fail
            go_ret
            exact ⟨rfl, below_drewN (below_drewN HB3.out _) _⟩
          · have te := str_no hp
            have HN := Lib.hid (show ∀ (j1 : Nat) (y : LiveC), j1 < j + 1 → ls[j1]? = some y → y.path ≠ a.path from fun j1 y h1 hy => by
              by_cases h : j1 < j
              · exact HI.out j1 y h hy
              · have : j1 = j := by omega
                subst this
                rw [HX.out] at hy
                injection hy with hy
                rw [← hy]; exact hp)
            clear hp
            go_wp2_with fail
            go_quiet (fail)
            go_wp2_with fail
            go_roundw
            case rel => exact ⟨j + 1, by omega, by go_num, HN, _, rfl⟩
            case measure => simp [intOf]; omega
        · have HN := Lib.hid (show ∀ (j1 j2 : Nat) (x y : LiveC), j1 < j2 → j2 < k + 1 → ls[j1]? = some x → ls[j2]? = some y → x.path ≠ y.path from fun j1 j2 x y h12 h2 hx hy => by
            by_cases h : j2 < k
            · exact HJ.out j1 j2 x y h12 h hx hy
            · have : j2 = k := by omega
              subst this
              rw [HK.out] at hy
              injection hy with hy
              rw [← hy]
              exact HI.out j1 x (by omega) hx)
          go_wp2_with fail
          go_roundw
          case rel => exact ⟨k + 1, by omega, by go_num, HN, _, rfl⟩
          case measure => simp [intOf]; omega
    · have HDI := Lib.hid (show ∀ (j k : Nat) (a b : LiveC), j < k → ls[j]? = some a → ls[k]? = some b → a.path ≠ b.path from fun j1 j2 a b h12 ha hb => HJ.out j1 j2 a b h12 (by have h1 := (List.getElem?_eq_some_iff.1 hb).1; have h2 := HLEN.out; omega) ha hb)
      have c4_0_0 : (v3.drewN m).cell? ⟨w.heap.size, 0, none⟩ = some (.slice s.up.a s.up.n s.up.c) := c3_0_0
      have c4_0_1 : (v3.drewN m).cell? ⟨w.heap.size, 1, none⟩ = some (.int .i64 s.moment) := c3_0_1
      have c4_0_2 : (v3.drewN m).cell? ⟨w.heap.size, 2, none⟩ = some (.int .i64 s.clock) := c3_0_2
      have c4_0_3 : (v3.drewN m).cell? ⟨w.heap.size, 3, none⟩ = some (.int .i64 s.seq) := c3_0_3
      have c4_0_4 : (v3.drewN m).cell? ⟨w.heap.size, 4, none⟩ = some (.slice s.actors.a s.actors.n s.actors.c) := c3_0_4
      have c4_0_5 : (v3.drewN m).cell? ⟨w.heap.size, 5, none⟩ = some (.slice s.flights.a s.flights.n s.flights.c) := c3_0_5
      have c4_0_6 : (v3.drewN m).cell? ⟨w.heap.size, 6, none⟩ = some (.slice s.alarms.a s.alarms.n s.alarms.c) := c3_0_6
      have c4_0_7 : (v3.drewN m).cell? ⟨w.heap.size, 7, none⟩ = some (.slice s.asked.a s.asked.n s.asked.c) := c3_0_7
      have c4_0_8 : (v3.drewN m).cell? ⟨w.heap.size, 8, none⟩ = some (.int .i64 s.dead) := c3_0_8
      have c4_1_0 : (v3.drewN m).cell? ⟨w.heap.size + 1, 0, none⟩ = some (.string l.src) := c3_1_0
      have c4_1_1 : (v3.drewN m).cell? ⟨w.heap.size + 1, 1, none⟩ = some (.string l.msg) := c3_1_1
      have c4_1_2 : (v3.drewN m).cell? ⟨w.heap.size + 1, 2, none⟩ = some (.slice l.args.a l.args.n l.args.c) := c3_1_2
      have c4_1_3 : (v3.drewN m).cell? ⟨w.heap.size + 1, 3, none⟩ = some (.int .i64 l.sent) := c3_1_3
      have HB4 := Lib.hid (below_drewN HB3.out m)
      have z4 : w.heap.size + 1 < (v3.drewN m).heap.size := by show _ < v3.heap.size; omega
      clear HB3 HJ c3_0_0 c3_0_1 c3_0_2 c3_0_3 c3_0_4 c3_0_5 c3_0_6 c3_0_7 c3_0_8 c3_1_0 c3_1_1 c3_1_2 c3_1_3
      generalize v3.drewN m = v4 at *
      have hB4 := HB4.out
      go_wp2_with fail
      refine (CE.out _ hB4 ba bf).mono ?_
      rintro e v5 ⟨lv, rfl, hl, h5⟩
      have z5 := h5.size
      try simp at z5
      have hB5 : Below w.heap.size w v5 := Below.call (w := w) (by repeat (first | (with_reducible exact Below.refl _ _) | (with_reducible assumption) | refine Below.setCell ?_ (by first | omega | (simp; omega) | (simp; done)) _ | refine Below.alloc ?_ (by first | omega | (simp; omega) | (simp; done)) _ | refine Below.drew ?_)) h5
      obtain ⟨k5_0, kc, kf⟩ := keepB h5 (w.heap.size) (by first | omega | (simp; omega) | (simp; done))
      have c5_0_0 : v5.cell? ⟨w.heap.size, 0, none⟩ = some (.slice s.up.a s.up.n s.up.c) := (kc 0).trans (by simp [go_sem, *])
      have c5_0_1 : v5.cell? ⟨w.heap.size, 1, none⟩ = some (.int .i64 s.moment) := (kc 1).trans (by simp [go_sem, *])
      have c5_0_2 : v5.cell? ⟨w.heap.size, 2, none⟩ = some (.int .i64 s.clock) := (kc 2).trans (by simp [go_sem, *])
      have c5_0_3 : v5.cell? ⟨w.heap.size, 3, none⟩ = some (.int .i64 s.seq) := (kc 3).trans (by simp [go_sem, *])
      have c5_0_4 : v5.cell? ⟨w.heap.size, 4, none⟩ = some (.slice s.actors.a s.actors.n s.actors.c) := (kc 4).trans (by simp [go_sem, *])
      have c5_0_5 : v5.cell? ⟨w.heap.size, 5, none⟩ = some (.slice s.flights.a s.flights.n s.flights.c) := (kc 5).trans (by simp [go_sem, *])
      have c5_0_6 : v5.cell? ⟨w.heap.size, 6, none⟩ = some (.slice s.alarms.a s.alarms.n s.alarms.c) := (kc 6).trans (by simp [go_sem, *])
      have c5_0_7 : v5.cell? ⟨w.heap.size, 7, none⟩ = some (.slice s.asked.a s.asked.n s.asked.c) := (kc 7).trans (by simp [go_sem, *])
      have c5_0_8 : v5.cell? ⟨w.heap.size, 8, none⟩ = some (.int .i64 s.dead) := (kc 8).trans (by simp [go_sem, *])
      clear kc kf
      obtain ⟨k5_1, kc, kf⟩ := keepB h5 (w.heap.size + 1) (by first | omega | (simp; omega) | (simp; done))
      have c5_1_0 : v5.cell? ⟨w.heap.size + 1, 0, none⟩ = some (.string l.src) := (kc 0).trans (by simp [go_sem, *])
      have c5_1_1 : v5.cell? ⟨w.heap.size + 1, 1, none⟩ = some (.string l.msg) := (kc 1).trans (by simp [go_sem, *])
      have c5_1_2 : v5.cell? ⟨w.heap.size + 1, 2, none⟩ = some (.slice l.args.a l.args.n l.args.c) := (kc 2).trans (by simp [go_sem, *])
      have c5_1_3 : v5.cell? ⟨w.heap.size + 1, 3, none⟩ = some (.int .i64 l.sent) := (kc 3).trans (by simp [go_sem, *])
      clear kc kf
      clear c4_0_0 c4_0_1 c4_0_2 c4_0_3 c4_0_4 c4_0_5 c4_0_6 c4_0_7 c4_0_8 c4_1_0 c4_1_1 c4_1_2 c4_1_3
      have HL5 := Lib.hid hl; clear hl
      go_wp2_with fail
      refine (CP.out _ hB5 ba).mono ?_
      rintro e v6 ⟨s6, rfl, hs6, h6⟩
      have z6 := h6.size
      try simp at z6
      have hB6 : Below w.heap.size w v6 := Below.call (w := w) (by repeat (first | (with_reducible exact Below.refl _ _) | (with_reducible assumption) | refine Below.setCell ?_ (by first | omega | (simp; omega) | (simp; done)) _ | refine Below.alloc ?_ (by first | omega | (simp; omega) | (simp; done)) _ | refine Below.drew ?_)) h6
      obtain ⟨k6_0, kc, kf⟩ := keepB h6 (w.heap.size) (by first | omega | (simp; omega) | (simp; done))
      have c6_0_0 : v6.cell? ⟨w.heap.size, 0, none⟩ = some (.slice s.up.a s.up.n s.up.c) := (kc 0).trans (by simp [go_sem, *])
      have c6_0_1 : v6.cell? ⟨w.heap.size, 1, none⟩ = some (.int .i64 s.moment) := (kc 1).trans (by simp [go_sem, *])
      have c6_0_2 : v6.cell? ⟨w.heap.size, 2, none⟩ = some (.int .i64 s.clock) := (kc 2).trans (by simp [go_sem, *])
      have c6_0_3 : v6.cell? ⟨w.heap.size, 3, none⟩ = some (.int .i64 s.seq) := (kc 3).trans (by simp [go_sem, *])
      have c6_0_4 : v6.cell? ⟨w.heap.size, 4, none⟩ = some (.slice s.actors.a s.actors.n s.actors.c) := (kc 4).trans (by simp [go_sem, *])
      have c6_0_5 : v6.cell? ⟨w.heap.size, 5, none⟩ = some (.slice s.flights.a s.flights.n s.flights.c) := (kc 5).trans (by simp [go_sem, *])
      have c6_0_6 : v6.cell? ⟨w.heap.size, 6, none⟩ = some (.slice s.alarms.a s.alarms.n s.alarms.c) := (kc 6).trans (by simp [go_sem, *])
      have c6_0_7 : v6.cell? ⟨w.heap.size, 7, none⟩ = some (.slice s.asked.a s.asked.n s.asked.c) := (kc 7).trans (by simp [go_sem, *])
      have c6_0_8 : v6.cell? ⟨w.heap.size, 8, none⟩ = some (.int .i64 s.dead) := (kc 8).trans (by simp [go_sem, *])
      clear kc kf
      obtain ⟨k6_1, kc, kf⟩ := keepB h6 (w.heap.size + 1) (by first | omega | (simp; omega) | (simp; done))
      have c6_1_0 : v6.cell? ⟨w.heap.size + 1, 0, none⟩ = some (.string l.src) := (kc 0).trans (by simp [go_sem, *])
      have c6_1_1 : v6.cell? ⟨w.heap.size + 1, 1, none⟩ = some (.string l.msg) := (kc 1).trans (by simp [go_sem, *])
      have c6_1_2 : v6.cell? ⟨w.heap.size + 1, 2, none⟩ = some (.slice l.args.a l.args.n l.args.c) := (kc 2).trans (by simp [go_sem, *])
      have c6_1_3 : v6.cell? ⟨w.heap.size + 1, 3, none⟩ = some (.int .i64 l.sent) := (kc 3).trans (by simp [go_sem, *])
      clear kc kf
      clear c5_0_0 c5_0_1 c5_0_2 c5_0_3 c5_0_4 c5_0_5 c5_0_6 c5_0_7 c5_0_8 c5_1_0 c5_1_1 c5_1_2 c5_1_3
      have HS6 := Lib.hid hs6; clear hs6
      have HL6 := Lib.hid (HL5.out.up h6)
      go_wp2_with fail
      refine (CM.out _ s6 (HS6.out.below ((Below.refl _ _).alloc (Nat.le_refl _) _)) ba bf).mono ?_
      rintro e v7 ⟨mv, rfl, hm, h7⟩
      have z7 := h7.size
      try simp at z7
      have hB7 : Below w.heap.size w v7 := Below.call (w := w) (by repeat (first | (with_reducible exact Below.refl _ _) | (with_reducible assumption) | refine Below.setCell ?_ (by first | omega | (simp; omega) | (simp; done)) _ | refine Below.alloc ?_ (by first | omega | (simp; omega) | (simp; done)) _ | refine Below.drew ?_)) h7
      obtain ⟨k7_0, kc, kf⟩ := keepB h7 (w.heap.size) (by first | omega | (simp; omega) | (simp; done))
      have c7_0_0 : v7.cell? ⟨w.heap.size, 0, none⟩ = some (.slice s.up.a s.up.n s.up.c) := (kc 0).trans (by simp [go_sem, *])
      have c7_0_1 : v7.cell? ⟨w.heap.size, 1, none⟩ = some (.int .i64 s.moment) := (kc 1).trans (by simp [go_sem, *])
      have c7_0_2 : v7.cell? ⟨w.heap.size, 2, none⟩ = some (.int .i64 s.clock) := (kc 2).trans (by simp [go_sem, *])
      have c7_0_3 : v7.cell? ⟨w.heap.size, 3, none⟩ = some (.int .i64 s.seq) := (kc 3).trans (by simp [go_sem, *])
      have c7_0_4 : v7.cell? ⟨w.heap.size, 4, none⟩ = some (.slice s.actors.a s.actors.n s.actors.c) := (kc 4).trans (by simp [go_sem, *])
      have c7_0_5 : v7.cell? ⟨w.heap.size, 5, none⟩ = some (.slice s.flights.a s.flights.n s.flights.c) := (kc 5).trans (by simp [go_sem, *])
      have c7_0_6 : v7.cell? ⟨w.heap.size, 6, none⟩ = some (.slice s.alarms.a s.alarms.n s.alarms.c) := (kc 6).trans (by simp [go_sem, *])
      have c7_0_7 : v7.cell? ⟨w.heap.size, 7, none⟩ = some (.slice s.asked.a s.asked.n s.asked.c) := (kc 7).trans (by simp [go_sem, *])
      have c7_0_8 : v7.cell? ⟨w.heap.size, 8, none⟩ = some (.int .i64 s.dead) := (kc 8).trans (by simp [go_sem, *])
      clear kc kf
      obtain ⟨k7_1, kc, kf⟩ := keepB h7 (w.heap.size + 1) (by first | omega | (simp; omega) | (simp; done))
      have c7_1_0 : v7.cell? ⟨w.heap.size + 1, 0, none⟩ = some (.string l.src) := (kc 0).trans (by simp [go_sem, *])
      have c7_1_1 : v7.cell? ⟨w.heap.size + 1, 1, none⟩ = some (.string l.msg) := (kc 1).trans (by simp [go_sem, *])
      have c7_1_2 : v7.cell? ⟨w.heap.size + 1, 2, none⟩ = some (.slice l.args.a l.args.n l.args.c) := (kc 2).trans (by simp [go_sem, *])
      have c7_1_3 : v7.cell? ⟨w.heap.size + 1, 3, none⟩ = some (.int .i64 l.sent) := (kc 3).trans (by simp [go_sem, *])
      clear kc kf
      clear c6_0_0 c6_0_1 c6_0_2 c6_0_3 c6_0_4 c6_0_5 c6_0_6 c6_0_7 c6_0_8 c6_1_0 c6_1_1 c6_1_2 c6_1_3
      have HM7 := Lib.hid hm; clear hm
      have HL7 := Lib.hid (HL6.out.up (Below.call (w := v6) ((Below.refl _ _).alloc (Nat.le_refl _) _) h7))
      clear h5 h6 h7 hB4 hB5 hB6 HB4 HL5 HL6 HS6
      have HB7 := Lib.hid hB7; clear hB7
      go_wp2_with fail
      go_loopw [16] (fun i wr => ∃ k : Nat, k ≤ L.length ∧ i = .int .i64 k ∧ Below v7.heap.size v7 wr) (fun i _ => L.length - (intOf i).toNat)
      case atStart => exact ⟨0, Nat.zero_le _, rfl, Below.refl _ _⟩
      case round =>
        obtain ⟨k, hk, rfl, hB⟩ := hrel
        have zr := hB.size
        by_cases hlt : k < L.length
        · skip
          obtain ⟨b, off, a, hA, hb, hak, hc⟩ := HL7.out.at_ (fun _ => rfl) (by omega) hlt
          have x0 : wr.cell? ⟨b, off + k * 3, none⟩ = some (.string a.path) := (hB.cell (p := ⟨b, off + k * 3, none⟩) hb).trans (hc 0 _ rfl)
          have x1 : wr.cell? ⟨b, off + k * 3 + 1, none⟩ = some (.int .i64 a.x) := (hB.cell (p := ⟨b, off + k * 3 + 1, none⟩) hb).trans (hc 1 _ rfl)
          have x2 : wr.cell? ⟨b, off + k * 3 + 2, none⟩ = some (.int .i64 a.y) := (hB.cell (p := ⟨b, off + k * 3 + 2, none⟩) hb).trans (hc 2 _ rfl)
          have hix : ∀ W : World, Sem.run Try.prog (Instr.indexAt 85 (.slice lv.a L.length lv.c) (.int .i64 (k : Int))) W = .ok (.pointer (some ⟨b, off + k * 3, none⟩)) W := by intro W; rw [hA]; go_simp
          have HX := Lib.hid (List.mem_of_getElem? hak)
          clear hA hak hc
          have hmem : decide (a ∈ M) = true := by simpa using K1.out a HX.out
          have HH := Lib.hid (fun (W : World) (hW : Below wr.heap.size wr W) => has_any M mv.a mv.c a W ((HM7.out.up hB).up hW) (by omega))
          rw [hmem] at HH
          have HBB := Lib.hid hB
          clear hmem hB
          go_wp2_with fail
          refine (HH.out _ (Below.refl _ _)).mono ?_
          rintro e w1 ⟨rfl, h1⟩
          have H1 := Lib.hid (Below.call HBB.out h1)
          clear h1
          go_wp2_with fail
          go_roundw
          case rel => exact ⟨k + 1, by omega, by go_num, H1.out⟩
          case measure => simp [intOf]; omega
        · have hBw := Below.call HB7.out hB
          have c8_0_0 : wr.cell? ⟨w.heap.size, 0, none⟩ = some (.slice s.up.a s.up.n s.up.c) := (hB.cell (p := ⟨w.heap.size, 0, none⟩) (show w.heap.size < v7.heap.size by omega)).trans c7_0_0
          have c8_0_1 : wr.cell? ⟨w.heap.size, 1, none⟩ = some (.int .i64 s.moment) := (hB.cell (p := ⟨w.heap.size, 1, none⟩) (show w.heap.size < v7.heap.size by omega)).trans c7_0_1
          have c8_0_2 : wr.cell? ⟨w.heap.size, 2, none⟩ = some (.int .i64 s.clock) := (hB.cell (p := ⟨w.heap.size, 2, none⟩) (show w.heap.size < v7.heap.size by omega)).trans c7_0_2
          have c8_0_3 : wr.cell? ⟨w.heap.size, 3, none⟩ = some (.int .i64 s.seq) := (hB.cell (p := ⟨w.heap.size, 3, none⟩) (show w.heap.size < v7.heap.size by omega)).trans c7_0_3
          have c8_0_4 : wr.cell? ⟨w.heap.size, 4, none⟩ = some (.slice s.actors.a s.actors.n s.actors.c) := (hB.cell (p := ⟨w.heap.size, 4, none⟩) (show w.heap.size < v7.heap.size by omega)).trans c7_0_4
          have c8_0_5 : wr.cell? ⟨w.heap.size, 5, none⟩ = some (.slice s.flights.a s.flights.n s.flights.c) := (hB.cell (p := ⟨w.heap.size, 5, none⟩) (show w.heap.size < v7.heap.size by omega)).trans c7_0_5
          have c8_0_6 : wr.cell? ⟨w.heap.size, 6, none⟩ = some (.slice s.alarms.a s.alarms.n s.alarms.c) := (hB.cell (p := ⟨w.heap.size, 6, none⟩) (show w.heap.size < v7.heap.size by omega)).trans c7_0_6
          have c8_0_7 : wr.cell? ⟨w.heap.size, 7, none⟩ = some (.slice s.asked.a s.asked.n s.asked.c) := (hB.cell (p := ⟨w.heap.size, 7, none⟩) (show w.heap.size < v7.heap.size by omega)).trans c7_0_7
          have c8_0_8 : wr.cell? ⟨w.heap.size, 8, none⟩ = some (.int .i64 s.dead) := (hB.cell (p := ⟨w.heap.size, 8, none⟩) (show w.heap.size < v7.heap.size by omega)).trans c7_0_8
          have HL8 := Lib.hid (HL7.out.up hB)
          have HM8 := Lib.hid (HM7.out.up hB)
          have HB8 := Lib.hid hBw
          clear hB hBw HL7 HM7 HB7 c7_0_0 c7_0_1 c7_0_2 c7_0_3 c7_0_4 c7_0_5 c7_0_6 c7_0_7 c7_0_8 c7_1_0 c7_1_1 c7_1_2 c7_1_3
          go_wp2_with fail
          obtain ⟨v8, hv8⟩ : ∃ v8 : World, v8 = wr := ⟨_, rfl⟩
          subst hv8
          go_loopw [17] (fun i wr => ∃ k : Nat, k ≤ M.length ∧ i = .int .i64 k ∧ Below v8.heap.size v8 wr) (fun i _ => M.length - (intOf i).toNat)
          case atStart => exact ⟨0, Nat.zero_le _, rfl, Below.refl _ _⟩
          case round =>
            obtain ⟨k, hk, rfl, hB⟩ := hrel
            have zq := hB.size
            by_cases hlt : k < M.length
            · skip
              obtain ⟨b, off, a, hA, hb, hak, hc⟩ := HM8.out.at_ (fun _ => rfl) (by omega) hlt
              have x0 : wr.cell? ⟨b, off + k * 3, none⟩ = some (.string a.path) := (hB.cell (p := ⟨b, off + k * 3, none⟩) hb).trans (hc 0 _ rfl)
              have x1 : wr.cell? ⟨b, off + k * 3 + 1, none⟩ = some (.int .i64 a.x) := (hB.cell (p := ⟨b, off + k * 3 + 1, none⟩) hb).trans (hc 1 _ rfl)
              have x2 : wr.cell? ⟨b, off + k * 3 + 2, none⟩ = some (.int .i64 a.y) := (hB.cell (p := ⟨b, off + k * 3 + 2, none⟩) hb).trans (hc 2 _ rfl)
              have hix : ∀ W : World, Sem.run Try.prog (Instr.indexAt 85 (.slice mv.a M.length mv.c) (.int .i64 (k : Int))) W = .ok (.pointer (some ⟨b, off + k * 3, none⟩)) W := by intro W; rw [hA]; go_simp
              have HX := Lib.hid (List.mem_of_getElem? hak)
              clear hA hak hc
              have HH := Lib.hid (fun (W : World) (hW : Below wr.heap.size wr W) => has_any L lv.a lv.c a W ((HL8.out.up hB).up hW) (by omega))
              have HBB := Lib.hid hB
              clear hB
              cases hmem : decide (a ∈ L) with
              | true =>
                rw [hmem] at HH
                clear hmem
                go_wp2_with fail
                refine (HH.out _ (Below.refl _ _)).mono ?_
                rintro e w1 ⟨rfl, h1⟩
                have H1 := Lib.hid (Below.call HBB.out h1)
                clear h1
                go_wp2_with fail
                go_roundw
                case rel => exact ⟨k + 1, by omega, by go_num, H1.out⟩
                case measure => simp [intOf]; omega
              | false =>
                rw [hmem] at HH
                obtain ⟨hok, hpa⟩ := K2.out a HX.out (by simpa using hmem)
                have tp : (a.path.toList != p.toList) = false := by rw [hpa]; simp
                have tq : (a.path.toList == p.toList) = true := str_yes hpa
                have tk : (!ok) = false := by rw [hok]; rfl
                clear hmem hpa hok
                go_wp2_with fail
                refine (HH.out _ (Below.refl _ _)).mono ?_
                rintro e w1 ⟨rfl, h1⟩
                have H1 := Lib.hid (Below.call HBB.out h1)
                have y0 : w1.cell? ⟨b, off + k * 3, none⟩ = some (.string a.path) := (h1.cell (p := ⟨b, off + k * 3, none⟩) (show b < wr.heap.size by omega)).trans x0
                clear h1 x0 x1 x2
                go_wp2_with fail
                go_roundw
                case rel => exact ⟨k + 1, by omega, by go_num, H1.out⟩
                case measure => simp [intOf]; omega
            · have hBw := Below.call HB8.out hB
              have c9_0_0 : wr.cell? ⟨w.heap.size, 0, none⟩ = some (.slice s.up.a s.up.n s.up.c) := (hB.cell (p := ⟨w.heap.size, 0, none⟩) (show w.heap.size < v8.heap.size by omega)).trans c8_0_0
              have c9_0_1 : wr.cell? ⟨w.heap.size, 1, none⟩ = some (.int .i64 s.moment) := (hB.cell (p := ⟨w.heap.size, 1, none⟩) (show w.heap.size < v8.heap.size by omega)).trans c8_0_1
              have c9_0_2 : wr.cell? ⟨w.heap.size, 2, none⟩ = some (.int .i64 s.clock) := (hB.cell (p := ⟨w.heap.size, 2, none⟩) (show w.heap.size < v8.heap.size by omega)).trans c8_0_2
              have c9_0_3 : wr.cell? ⟨w.heap.size, 3, none⟩ = some (.int .i64 s.seq) := (hB.cell (p := ⟨w.heap.size, 3, none⟩) (show w.heap.size < v8.heap.size by omega)).trans c8_0_3
              have c9_0_4 : wr.cell? ⟨w.heap.size, 4, none⟩ = some (.slice s.actors.a s.actors.n s.actors.c) := (hB.cell (p := ⟨w.heap.size, 4, none⟩) (show w.heap.size < v8.heap.size by omega)).trans c8_0_4
              have c9_0_5 : wr.cell? ⟨w.heap.size, 5, none⟩ = some (.slice s.flights.a s.flights.n s.flights.c) := (hB.cell (p := ⟨w.heap.size, 5, none⟩) (show w.heap.size < v8.heap.size by omega)).trans c8_0_5
              have c9_0_6 : wr.cell? ⟨w.heap.size, 6, none⟩ = some (.slice s.alarms.a s.alarms.n s.alarms.c) := (hB.cell (p := ⟨w.heap.size, 6, none⟩) (show w.heap.size < v8.heap.size by omega)).trans c8_0_6
              have c9_0_7 : wr.cell? ⟨w.heap.size, 7, none⟩ = some (.slice s.asked.a s.asked.n s.asked.c) := (hB.cell (p := ⟨w.heap.size, 7, none⟩) (show w.heap.size < v8.heap.size by omega)).trans c8_0_7
              have c9_0_8 : wr.cell? ⟨w.heap.size, 8, none⟩ = some (.int .i64 s.dead) := (hB.cell (p := ⟨w.heap.size, 8, none⟩) (show w.heap.size < v8.heap.size by omega)).trans c8_0_8
              clear hB HB8 HL8 HM8 c8_0_0 c8_0_1 c8_0_2 c8_0_3 c8_0_4 c8_0_5 c8_0_6 c8_0_7 c8_0_8
              go_wp2_with fail
              refine (CR.out _ hBw ba bf bl).mono ?_
              rintro e w8 ⟨s8, rfl, hs8, h8⟩
              have z8 := h8.size
              have hBx := Below.call hBw h8
              have d8_0 : w8.cell? ⟨w.heap.size, 0, none⟩ = some (.slice s.up.a s.up.n s.up.c) := (h8.cell (p := ⟨w.heap.size, 0, none⟩) (show w.heap.size < wr.heap.size by omega)).trans c9_0_0
              have d8_1 : w8.cell? ⟨w.heap.size, 1, none⟩ = some (.int .i64 s.moment) := (h8.cell (p := ⟨w.heap.size, 1, none⟩) (show w.heap.size < wr.heap.size by omega)).trans c9_0_1
              have d8_2 : w8.cell? ⟨w.heap.size, 2, none⟩ = some (.int .i64 s.clock) := (h8.cell (p := ⟨w.heap.size, 2, none⟩) (show w.heap.size < wr.heap.size by omega)).trans c9_0_2
              have d8_3 : w8.cell? ⟨w.heap.size, 3, none⟩ = some (.int .i64 s.seq) := (h8.cell (p := ⟨w.heap.size, 3, none⟩) (show w.heap.size < wr.heap.size by omega)).trans c9_0_3
              have d8_4 : w8.cell? ⟨w.heap.size, 4, none⟩ = some (.slice s.actors.a s.actors.n s.actors.c) := (h8.cell (p := ⟨w.heap.size, 4, none⟩) (show w.heap.size < wr.heap.size by omega)).trans c9_0_4
              have d8_5 : w8.cell? ⟨w.heap.size, 5, none⟩ = some (.slice s.flights.a s.flights.n s.flights.c) := (h8.cell (p := ⟨w.heap.size, 5, none⟩) (show w.heap.size < wr.heap.size by omega)).trans c9_0_5
              have d8_6 : w8.cell? ⟨w.heap.size, 6, none⟩ = some (.slice s.alarms.a s.alarms.n s.alarms.c) := (h8.cell (p := ⟨w.heap.size, 6, none⟩) (show w.heap.size < wr.heap.size by omega)).trans c9_0_6
              have d8_7 : w8.cell? ⟨w.heap.size, 7, none⟩ = some (.slice s.asked.a s.asked.n s.asked.c) := (h8.cell (p := ⟨w.heap.size, 7, none⟩) (show w.heap.size < wr.heap.size by omega)).trans c9_0_7
              have d8_8 : w8.cell? ⟨w.heap.size, 8, none⟩ = some (.int .i64 s.dead) := (h8.cell (p := ⟨w.heap.size, 8, none⟩) (show w.heap.size < wr.heap.size by omega)).trans c9_0_8
              have HS8 := Lib.hid hs8
              clear hs8 c9_0_0 c9_0_1 c9_0_2 c9_0_3 c9_0_4 c9_0_5 c9_0_6 c9_0_7 c9_0_8
              go_wp2_with fail
              refine (CD.out _ s8 HS8.out ba bf).mono ?_
              rintro e w9 ⟨dv, rfl, hdv, h9⟩
              have z9 := h9.size
              have HBy := Lib.hid (Below.call hBx h9)
              have d9_0 : w9.cell? ⟨w.heap.size, 0, none⟩ = some (.slice s.up.a s.up.n s.up.c) := (h9.cell (p := ⟨w.heap.size, 0, none⟩) (show w.heap.size < w8.heap.size by omega)).trans d8_0
              have d9_1 : w9.cell? ⟨w.heap.size, 1, none⟩ = some (.int .i64 s.moment) := (h9.cell (p := ⟨w.heap.size, 1, none⟩) (show w.heap.size < w8.heap.size by omega)).trans d8_1
              have d9_2 : w9.cell? ⟨w.heap.size, 2, none⟩ = some (.int .i64 s.clock) := (h9.cell (p := ⟨w.heap.size, 2, none⟩) (show w.heap.size < w8.heap.size by omega)).trans d8_2
              have d9_3 : w9.cell? ⟨w.heap.size, 3, none⟩ = some (.int .i64 s.seq) := (h9.cell (p := ⟨w.heap.size, 3, none⟩) (show w.heap.size < w8.heap.size by omega)).trans d8_3
              have d9_4 : w9.cell? ⟨w.heap.size, 4, none⟩ = some (.slice s.actors.a s.actors.n s.actors.c) := (h9.cell (p := ⟨w.heap.size, 4, none⟩) (show w.heap.size < w8.heap.size by omega)).trans d8_4
              have d9_5 : w9.cell? ⟨w.heap.size, 5, none⟩ = some (.slice s.flights.a s.flights.n s.flights.c) := (h9.cell (p := ⟨w.heap.size, 5, none⟩) (show w.heap.size < w8.heap.size by omega)).trans d8_5
              have d9_6 : w9.cell? ⟨w.heap.size, 6, none⟩ = some (.slice s.alarms.a s.alarms.n s.alarms.c) := (h9.cell (p := ⟨w.heap.size, 6, none⟩) (show w.heap.size < w8.heap.size by omega)).trans d8_6
              have d9_7 : w9.cell? ⟨w.heap.size, 7, none⟩ = some (.slice s.asked.a s.asked.n s.asked.c) := (h9.cell (p := ⟨w.heap.size, 7, none⟩) (show w.heap.size < w8.heap.size by omega)).trans d8_7
              have d9_8 : w9.cell? ⟨w.heap.size, 8, none⟩ = some (.int .i64 s.dead) := (h9.cell (p := ⟨w.heap.size, 8, none⟩) (show w.heap.size < w8.heap.size by omega)).trans d8_8
              have HD9 := Lib.hid hdv
              clear hdv h8 h9 hBw hBx HS8 d8_0 d8_1 d8_2 d8_3 d8_4 d8_5 d8_6 d8_7 d8_8
              go_wp2_with fail
              go_loopw [19] (fun i wr => ∃ k : Nat, k ≤ D.length ∧ i = .int .i64 k ∧ Below w9.heap.size w9 wr) (fun i _ => D.length - (intOf i).toNat)
              case atStart => exact ⟨0, Nat.zero_le _, rfl, Below.refl _ _⟩
              case round =>
                obtain ⟨k, hk, rfl, hB⟩ := hrel
                have zt := hB.size
                have HBZ := Lib.hid (Below.call HBy.out hB)
                by_cases hlt : k < D.length
                · skip
                  obtain ⟨b, off, a, hA, hb, hak, hc⟩ := HD9.out.at_ (fun _ => rfl) (by omega) hlt
                  have x0 : wr.cell? ⟨b, off + k * 3, none⟩ = some (.string a.path) := (hB.cell (p := ⟨b, off + k * 3, none⟩) hb).trans (hc 0 _ rfl)
                  have x1 : wr.cell? ⟨b, off + k * 3 + 1, none⟩ = some (.int .i64 a.x) := (hB.cell (p := ⟨b, off + k * 3 + 1, none⟩) hb).trans (hc 1 _ rfl)
                  have x2 : wr.cell? ⟨b, off + k * 3 + 2, none⟩ = some (.int .i64 a.y) := (hB.cell (p := ⟨b, off + k * 3 + 2, none⟩) hb).trans (hc 2 _ rfl)
                  have hix : ∀ W : World, Sem.run Try.prog (Instr.indexAt 85 (.slice dv.a D.length dv.c) (.int .i64 (k : Int))) W = .ok (.pointer (some ⟨b, off + k * 3, none⟩)) W := by intro W; rw [hA]; go_simp
                  have HX := Lib.hid (List.mem_of_getElem? hak)
                  clear hA hak hc
                  have q0 : wr.cell? ⟨w.heap.size, 0, none⟩ = some (.slice s.up.a s.up.n s.up.c) := (hB.cell (p := ⟨w.heap.size, 0, none⟩) (show w.heap.size < w9.heap.size by omega)).trans d9_0
                  have q1 : wr.cell? ⟨w.heap.size, 1, none⟩ = some (.int .i64 s.moment) := (hB.cell (p := ⟨w.heap.size, 1, none⟩) (show w.heap.size < w9.heap.size by omega)).trans d9_1
                  have q2 : wr.cell? ⟨w.heap.size, 2, none⟩ = some (.int .i64 s.clock) := (hB.cell (p := ⟨w.heap.size, 2, none⟩) (show w.heap.size < w9.heap.size by omega)).trans d9_2
                  have q3 : wr.cell? ⟨w.heap.size, 3, none⟩ = some (.int .i64 s.seq) := (hB.cell (p := ⟨w.heap.size, 3, none⟩) (show w.heap.size < w9.heap.size by omega)).trans d9_3
                  have q4 : wr.cell? ⟨w.heap.size, 4, none⟩ = some (.slice s.actors.a s.actors.n s.actors.c) := (hB.cell (p := ⟨w.heap.size, 4, none⟩) (show w.heap.size < w9.heap.size by omega)).trans d9_4
                  have q5 : wr.cell? ⟨w.heap.size, 5, none⟩ = some (.slice s.flights.a s.flights.n s.flights.c) := (hB.cell (p := ⟨w.heap.size, 5, none⟩) (show w.heap.size < w9.heap.size by omega)).trans d9_5
                  have q6 : wr.cell? ⟨w.heap.size, 6, none⟩ = some (.slice s.alarms.a s.alarms.n s.alarms.c) := (hB.cell (p := ⟨w.heap.size, 6, none⟩) (show w.heap.size < w9.heap.size by omega)).trans d9_6
                  have q7 : wr.cell? ⟨w.heap.size, 7, none⟩ = some (.slice s.asked.a s.asked.n s.asked.c) := (hB.cell (p := ⟨w.heap.size, 7, none⟩) (show w.heap.size < w9.heap.size by omega)).trans d9_7
                  have q8 : wr.cell? ⟨w.heap.size, 8, none⟩ = some (.int .i64 s.dead) := (hB.cell (p := ⟨w.heap.size, 8, none⟩) (show w.heap.size < w9.heap.size by omega)).trans d9_8
                  have HBB := Lib.hid hB
                  have n1 : b < wr.heap.size := by omega
                  have n2 : w.heap.size < wr.heap.size := by omega
                  clear hB d9_0 d9_1 d9_2 d9_3 d9_4 d9_5 d9_6 d9_7 d9_8
                  cases te : a.path.toList.isEmpty with
                  | true =>
                    obtain ⟨nx, ny⟩ := K3.out HP.out a HX.out te
                    have t1 : (a.x == node) = false := by simp [nx]
                    have t2 : (a.y == node) = false := by simp [ny]
                    clear nx ny
                    obtain ⟨o, ho⟩ : ∃ o, Ml.find (ls.map (·.path)) a.path = o := ⟨_, rfl⟩
                    clear ho
                    go_wp2_with fail
                    go_region_held3 (fun w' => w'.cell? ⟨w.heap.size, 0, none⟩ = some (.slice s.up.a s.up.n s.up.c) ∧ w'.cell? ⟨w.heap.size, 1, none⟩ = some (.int .i64 s.moment) ∧ w'.cell? ⟨w.heap.size, 2, none⟩ = some (.int .i64 s.clock) ∧ w'.cell? ⟨w.heap.size, 3, none⟩ = some (.int .i64 s.seq) ∧ w'.cell? ⟨w.heap.size, 4, none⟩ = some (.slice s.actors.a s.actors.n s.actors.c) ∧ w'.cell? ⟨w.heap.size, 5, none⟩ = some (.slice s.flights.a s.flights.n s.flights.c) ∧ w'.cell? ⟨w.heap.size, 6, none⟩ = some (.slice s.alarms.a s.alarms.n s.alarms.c) ∧ w'.cell? ⟨w.heap.size, 7, none⟩ = some (.slice s.asked.a s.asked.n s.asked.c) ∧ w'.cell? ⟨w.heap.size, 8, none⟩ = some (.int .i64 s.dead) ∧ w'.cell? ⟨b, off + k * 3, none⟩ = some (.string a.path)) (simp [go_sem, *])
                      (first | (go_at_call 44; refine (CF.out _ a.path HBZ.out.drew ba).mono ?_; rintro e w1 ⟨rfl, h1⟩; have hz1 := h1.size; simp at hz1; have H1 := Lib.hid (Below.call (w := w9) (HBB.out.drew) h1); obtain ⟨k1, k2, k3⟩ := keepB h1 w.heap.size (by simp; omega); obtain ⟨m1, m2, m3⟩ := keepB h1 b (by simp; omega); have H2 := Lib.hid (Below.call (w := wr) ((Below.refl _ _).drew) h1)))
                    go_wp2_with fail
                    go_roundw
                    case rel => exact ⟨k + 1, by omega, by go_num, H1.out⟩
                    case measure => simp [intOf]; omega
                  | false =>
                    obtain ⟨k', q, hf, hq, hn⟩ := K4.out HDI.out a HX.out te
                    have t1 : (q.node == node) = false := by simp [hn]
                    have CF2 := Lib.hid (fun (W : World) (hW : Below w.heap.size w W) => CF.out W a.path hW ba)
                    rw [hf] at CF2
                    have hkn : k' < s.actors.n := by have h1 := (List.getElem?_eq_some_iff.1 hq).1; have h2 := HLEN.out; omega
                    obtain ⟨b2, off2, q2, hA2, hb2, hq2, hc2⟩ := HA.out.at_ (fun _ => rfl) (by omega) hkn
                    have eq2 : q2 = q := by rw [hq] at hq2; injection hq2 with h; exact h.symm
                    subst eq2
                    have y2 : wr.cell? ⟨b2, off2 + k' * 9 + 2, none⟩ = some (.int .i64 q2.node) := (HBZ.out.cell (p := ⟨b2, off2 + k' * 9 + 2, none⟩) hb2).trans (hc2 2 _ rfl)
                    have hix2 : ∀ W : World, Sem.run Try.prog (Instr.indexAt 23 (.slice s.actors.a s.actors.n s.actors.c) (.int .i64 (k' : Int))) W = .ok (.pointer (some ⟨b2, off2 + k' * 9, none⟩)) W := by intro W; rw [hA2]; go_simp
                    clear hn hf hq hq2 hA2 hc2
                    go_wp2_with fail
                    go_region_held3 (fun w' => w'.cell? ⟨w.heap.size, 0, none⟩ = some (.slice s.up.a s.up.n s.up.c) ∧ w'.cell? ⟨w.heap.size, 1, none⟩ = some (.int .i64 s.moment) ∧ w'.cell? ⟨w.heap.size, 2, none⟩ = some (.int .i64 s.clock) ∧ w'.cell? ⟨w.heap.size, 3, none⟩ = some (.int .i64 s.seq) ∧ w'.cell? ⟨w.heap.size, 4, none⟩ = some (.slice s.actors.a s.actors.n s.actors.c) ∧ w'.cell? ⟨w.heap.size, 5, none⟩ = some (.slice s.flights.a s.flights.n s.flights.c) ∧ w'.cell? ⟨w.heap.size, 6, none⟩ = some (.slice s.alarms.a s.alarms.n s.alarms.c) ∧ w'.cell? ⟨w.heap.size, 7, none⟩ = some (.slice s.asked.a s.asked.n s.asked.c) ∧ w'.cell? ⟨w.heap.size, 8, none⟩ = some (.int .i64 s.dead) ∧ w'.cell? ⟨b, off + k * 3, none⟩ = some (.string a.path)) (simp [go_sem, *])
                      (first | (go_at_call 44; refine (CF2.out _ HBZ.out.drew).mono ?_; rintro e w1 ⟨rfl, h1⟩; have hz1 := h1.size; simp at hz1; have H1 := Lib.hid (Below.call (w := w9) (HBB.out.drew) h1); obtain ⟨k1, k2, k3⟩ := keepB h1 w.heap.size (by simp; omega); obtain ⟨m1, m2, m3⟩ := keepB h1 b (by simp; omega); have r2 : w1.cell? ⟨b2, off2 + k' * 9 + 2, none⟩ = some (.int .i64 q2.node) := (h1.cell (p := ⟨b2, off2 + k' * 9 + 2, none⟩) (show b2 < wr.heap.size by omega)).trans y2))
                    go_wp2_with fail
                    go_roundw
                    case rel => exact ⟨k + 1, by omega, by go_num, H1.out⟩
                    case measure => simp [intOf]; omega
                · go_wp2_with fail
                  go_ret
                  exact ⟨rfl, HBZ.out⟩
end Go.Proofs.Ytjdjfjokniingaa
