/- The contract of mail.Drop. -/
import Derived.Test.YtjdjfjokniingaaMc
import Derived.Test.YtjdjfjokniingaaMd
import Derived.Test.YtjdjfjokniingaaMm
import Derived.StillTailTactics
namespace Go.Proofs.Ytjdjfjokniingaa
open Go.RowKit

namespace Ml
/-- whether the first actor at a path is on the node -/
def here (node : Int) (ps : List (ByteArray × Int)) (p : ByteArray) : Option Bool := (ps.find? fun a => decide (a.1 = p)).map fun a => decide (a.2 = node)
theorem here_snoc (node : Int) (ps : List (ByteArray × Int)) (a : ByteArray × Int) (p : ByteArray) : here node (ps ++ [a]) p = (match here node ps p with | some x => some x | none => if a.1 = p then some (decide (a.2 = node)) else none) := by
  unfold here
  rw [List.find?_append]
  cases ps.find? (fun a => decide (a.1 = p)) with
  | some x => rfl
  | none =>
    by_cases h : a.1 = p
    · simp [h]
    · simp [h]
def pn (ps : List PL) : List (ByteArray × Int) := ps.map fun a => (a.path, a.node)
def drop (σ : PS) (node : Int) : PS :=
  { σ with acts := σ.acts.map fun a => if a.node = node then { a with mail := [] } else a
           als := σ.als.filter fun f => !((here node (pn σ.acts) f.l.src).getD false)
           fls := σ.fls.filter fun f => !(decide (f.x = node) || decide (f.y = node)) }
end Ml
/-- an actor whose mail is gone if it is on the node -/
def dz (node : Int) (a : LiveC) : LiveC := if a.node = node then { a with mail := ⟨none, 0, 0⟩ } else a
def pnL (ls : List LiveC) : List (ByteArray × Int) := ls.map fun a => (a.path, a.node)

set_option maxRecDepth 100000 in
set_option maxHeartbeats 800000 in
theorem drop86 (f : FlyC) (bm b : Nat) (n : Nat) (h : ByteArray → Option Bool) (w : World) (hm : OwnsS w bm n h) (hb : BoxAt w b [.map (some bm)]) (hs : f.l.src.size ≤ maxLen) :
    Calls Try.prog 86 #[flyV f, .pointer (some ⟨b, 0, none⟩)] w fun e w' => e = .returned (.bool ((h f.l.src).getD false)) ∧ Below w.heap.size w w' := by
  have c0 : w.cell? ⟨b, 0, none⟩ = some (.map (some bm)) := hb.2.1 0 _ rfl
  have n0 := hb.1
  have hl := (hm.alloc (.cells #[.int .i64 f.x, .int .i64 f.y, .string f.path, .string f.l.src, .string f.l.msg, .slice f.l.args.a f.l.args.n f.l.args.c, .int .i64 f.l.sent] 47)).look hs
  clear hm hb
  generalize (h f.l.src).getD false = x at *
  go_enter Try.func86, Try.ntmps86
  go_wp2
  go_ret
  exact ⟨rfl, (Below.refl _ _).alloc (Nat.le_refl _) _⟩
set_option maxRecDepth 100000 in
set_option maxHeartbeats 800000 in
theorem drop88 (f : FlyC) (node : Int) (b : Nat) (w : World) (hb : BoxAt w b [.int .i64 node]) :
    Calls Try.prog 88 #[flyV f, .pointer (some ⟨b, 0, none⟩)] w fun e w' => e = .returned (.bool (decide (f.x = node) || decide (f.y = node))) ∧ Below w.heap.size w w' := by
  have c0 : w.cell? ⟨b, 0, none⟩ = some (.int .i64 node) := hb.2.1 0 _ rfl
  have n0 := hb.1
  clear hb
  by_cases k1 : f.x = node
  · have t1 : (f.x == node) = true := by simp [k1]
    have HX : Hid ((decide (f.x = node) || decide (f.y = node)) = true) := Lib.hid (by simp [k1])
    clear k1
    go_enter Try.func88, Try.ntmps88
    go_wp2
    go_ret
    exact ⟨ret_bool HX.out.symm, (Below.refl _ _).alloc (Nat.le_refl _) _⟩
  · have t1 : (f.x == node) = false := by simp [k1]
    by_cases k2 : f.y = node
    · have t2 : (f.y == node) = true := by simp [k2]
      have HX : Hid ((decide (f.x = node) || decide (f.y = node)) = true) := Lib.hid (by simp [k2])
      clear k1 k2
      go_enter Try.func88, Try.ntmps88
      go_wp2
      go_ret
      exact ⟨ret_bool HX.out.symm, (Below.refl _ _).alloc (Nat.le_refl _) _⟩
    · have t2 : (f.y == node) = false := by simp [k2]
      have HX : Hid ((decide (f.x = node) || decide (f.y = node)) = false) := Lib.hid (by simp [k1, k2])
      clear k1 k2
      go_enter Try.func88, Try.ntmps88
      go_wp2
      go_ret
      exact ⟨ret_bool HX.out.symm, (Below.refl _ _).alloc (Nat.le_refl _) _⟩

/-- what the loop of Drop has done behind k actors -/
def DrRel (ls : List LiveC) (node : Int) (u : Sl) (n R B0 : Nat) (sb : List Value) (w : World) (i : Value) (wr : World) : Prop :=
  ∃ k : Nat, k ≤ n ∧ i = .int .i64 k ∧ (BoxAt wr R sb ∧ BoxAt wr (R + 1) [.int .i64 node] ∧ BoxAt wr (R + 1 + 1) [.slice none 0 0, .int .i64 0, .int .i64 0, .int .i64 0, .slice none 0 0, .slice none 0 0, .slice none 0 0, .slice none 0 0, .int .i64 0] ∧ BoxAt wr (R + 1 + 1 + 1 + 1) [.map (some (R + 1 + 1 + 1))]) ∧
    wr.ownsRow B0 76 9 (.slice u.a n u.c) n ((((ls.take k).map (dz node)) ++ ls.drop k).flatMap liveL) ∧ OwnsS wr (R + 1 + 1 + 1) k (Ml.here node (pnL (ls.take k))) ∧ Below w.heap.size w wr

theorem dr_set {ls : List LiveC} {node : Int} {k : Nat} {a : LiveC} (h : ls[k]? = some a) : ((ls.take k).map (dz node) ++ ls.drop k).set k (dz node a) = (ls.take (k + 1)).map (dz node) ++ ls.drop (k + 1) := by
  obtain ⟨hk, rfl⟩ := List.getElem?_eq_some_iff.1 h
  rw [List.set_append_right _ _ (by simp; omega), List.take_succ_eq_append_getElem hk, List.map_append, List.append_assoc]
  simp [Nat.min_eq_left (Nat.le_of_lt hk)]
  rw [List.drop_eq_getElem_cons hk]
  rfl
theorem DrRel.step {ls : List LiveC} {node : Int} {u : Sl} {n R B0 : Nat} {sb : List Value} {w w3 : World} {k : Nat} {a : LiveC} {f : ByteArray → Option Bool} (hk : k < n) (ha : ls[k]? = some a)
    (hb : BoxAt w3 R sb ∧ BoxAt w3 (R + 1) [.int .i64 node] ∧ BoxAt w3 (R + 1 + 1) [.slice none 0 0, .int .i64 0, .int .i64 0, .int .i64 0, .slice none 0 0, .slice none 0 0, .slice none 0 0, .slice none 0 0, .int .i64 0] ∧ BoxAt w3 (R + 1 + 1 + 1 + 1) [.map (some (R + 1 + 1 + 1))])
    (ho : w3.ownsRow B0 76 9 (.slice u.a n u.c) n (((((ls.take k).map (dz node)) ++ ls.drop k).set k (dz node a)).flatMap liveL)) (hm : OwnsS w3 (R + 1 + 1 + 1) (k + 1) f) (hf : ∀ p, f p = Ml.here node (pnL (ls.take k) ++ [(a.path, a.node)]) p) (hB : Below w.heap.size w w3) :
    DrRel ls node u n R B0 sb w (.int .i64 ((k + 1 : Nat) : Int)) w3 := by
  refine ⟨k + 1, by omega, rfl, hb, ?_, ?_, hB⟩
  · rw [← dr_set ha]; exact ho
  · refine hm.congr fun p => ?_
    rw [hf p, take_snoc' _ k a ha]
    simp [pnL]
theorem own_store_a {w : World} {base n c g : Nat} {A : Option Addr} {rs : List LiveC} (hA : A = some ⟨g, 0, none⟩) (h : w.ownsRow base 76 9 (.slice A n c) n (rs.flatMap liveL)) {i : Nat} {r : LiveC} (hr : rs[i]? = some r) (m : Sl) :
    (w.setCell ⟨g, i * 9 + 8, none⟩ (.slice m.a m.n m.c)).ownsRow base 76 9 (.slice A n c) n ((rs.set i { r with mail := m }).flatMap liveL) := by
  subst hA
  exact own_store h (fun _ => rfl) (by omega) hr { r with mail := m } rfl
theorem dz_yes {node : Int} {a : LiveC} (h : a.node = node) : dz node a = { a with mail := ⟨none, 0, 0⟩ } := if_pos h
theorem set_same {ls : List LiveC} {node : Int} {k : Nat} {a : LiveC} (h : ((ls.take k).map (dz node) ++ ls.drop k)[k]? = some a) (hn : ¬ a.node = node) : ((ls.take k).map (dz node) ++ ls.drop k).set k (dz node a) = (ls.take k).map (dz node) ++ ls.drop k := by
  obtain ⟨hk, e⟩ := List.getElem?_eq_some_iff.1 h
  rw [show dz node a = a from if_neg hn, ← e, List.set_getElem_self]
theorem here_known {node : Int} {ps : List (ByteArray × Int)} {p q : ByteArray} {m : Int} {x : Bool} (h : Ml.here node ps p = some x) : Ml.here node ps q = Ml.here node (ps ++ [(p, m)]) q := by
  rw [Ml.here_snoc]
  cases e : Ml.here node ps q with
  | some y => rfl
  | none =>
    by_cases hp : p = q
    · subst hp; rw [h] at e; cases e
    · simp [hp]
theorem here_new {node : Int} {ps : List (ByteArray × Int)} {p q : ByteArray} {m : Int} (y : Bool) (hy : y = decide (m = node)) (h : Ml.here node ps p = none) : (if q = p then some y else Ml.here node ps q) = Ml.here node (ps ++ [(p, m)]) q := by
  rw [Ml.here_snoc]
  by_cases hp : q = p
  · subst hp; rw [h, if_pos rfl]; simp [hy]
  · rw [if_neg hp]
    cases Ml.here node ps q with
    | some x => rfl
    | none => simp only; rw [if_neg (fun h => hp h.symm)]
theorem own_ne {w : World} {base T k n R : Nat} {v : Value} {xs : List Value} (h : w.ownsRow base T k v n xs) (hb : R < base) : v.ownBlock ≠ some R := fun e => by have := row_base h R e; omega
theorem own_off {w w' : World} {base T k n c R : Nat} {A : Option Addr} {xs : List Value} (h : w.ownsRow base T k (.slice A n c) n xs) (ho : Off R w w') (hb : R < base) : Rd w' w'.heap.size k A n xs :=
  (own_rd h).off ho (fun q hq e => by have := row_base h q.block (by rw [hq]; rfl); omega)
theorem own_loc {w : World} {base T k n c B : Nat} {A : Option Addr} {xs : List Value} (h : w.ownsRow base T k (.slice A n c) n xs) (hb : B ≤ base) : Loc (fun b => B ≤ b) A n := fun q hq _ => by have := row_base h q.block (by rw [hq]; rfl); omega
theorem sysR_drop {P : Nat → Prop} {w Wf : World} {s : SysC} {σ : PS} {node : Int} {qs : List (LiveC × List LetC)} {ls : List LiveC} {u x2 x3 : Sl} {m2 m3 : Nat} {L2 L3 : List FlyC} (H : SysR P w s σ) (HQ2 : ∀ q ∈ qs, MailAt P w q.1 q.2) (HQ3 : qs.map plOf = σ.acts) (hls : qs.map (·.1) = ls) (hB : Below w.heap.size w Wf)
    (ho : Rd Wf Wf.heap.size 9 u.a s.actors.n ((ls.map (dz node)).flatMap liveL)) (h2 : Rd Wf Wf.heap.size 7 x2.a m2 (L2.flatMap flyL)) (c2 : m2 ≤ x2.c) (h3 : Rd Wf Wf.heap.size 7 x3.a m3 (L3.flatMap flyL)) (c3 : m3 ≤ x3.c)
    (e2 : L2 = σ.als.filter (fun f => !((Ml.here node (pnL ls) f.l.src).getD false))) (e3 : L3 = σ.fls.filter (fun f => !(decide (f.x = node) || decide (f.y = node)))) (l1 : Loc (fun b => w.heap.size ≤ b) u.a s.actors.n) (l2 : Loc (fun b => w.heap.size ≤ b) x2.a m2) (l3 : Loc (fun b => w.heap.size ≤ b) x3.a m3) :
    SysR (fun b => P b ∨ w.heap.size ≤ b) Wf { s with actors := ⟨u.a, s.actors.n, u.c⟩, alarms := ⟨x2.a, m2, x2.c⟩, flights := ⟨x3.a, m3, x3.c⟩ } (Ml.drop σ node) := by
  have h := (H.below hB).mono (Q := fun b => P b ∨ w.heap.size ≤ b) (fun b hb => .inl hb)
  have hpn : pnL ls = Ml.pn σ.acts := by rw [← HQ3, ← hls]; simp [pnL, Ml.pn, plOf]
  refine { h with ac := ?_, al := ?_, fl := ?_, cf := c3, cl := c2, la := l1.mono (fun b hb => .inr hb), ll := l2.mono (fun b hb => .inr hb), lf := l3.mono (fun b hb => .inr hb) }
  · refine ⟨qs.map fun q => (dz node q.1, if q.1.node = node then [] else q.2), ?_, fun q hq => ?_, ?_⟩
    · have e : (qs.map fun q => (dz node q.1, if q.1.node = node then ([] : List LetC) else q.2)).map (·.1) = ls.map (dz node) := by rw [← hls]; simp
      rw [e]
      exact ho
    · obtain ⟨p, hp, rfl⟩ := List.mem_map.1 hq
      have hm := ((HQ2 p hp).below hB).mono (Q := fun b => P b ∨ w.heap.size ≤ b) (fun b hb => .inl hb)
      by_cases hn : p.1.node = node
      · simp only [dz, if_pos hn]
        exact ⟨Rd.none_, Nat.le_refl _, fun q hq => by cases hq⟩
      · simp only [dz, if_neg hn]
        exact hm
    · show _ = σ.acts.map _
      rw [← HQ3, List.map_map, List.map_map]
      refine List.map_congr_left fun q _ => ?_
      by_cases hn : q.1.node = node
      · simp [plOf, dz, hn]
      · simp [plOf, dz, hn]
  · show Rd Wf Wf.heap.size 7 x3.a m3 ((σ.fls.filter _).flatMap flyL)
    rw [← e3]; exact h3
  · show Rd Wf Wf.heap.size 7 x2.a m2 ((σ.als.filter _).flatMap flyL)
    rw [← hpn, ← e2]; exact h2
theorem drop_key {P : Nat → Prop} {w wr v2 v3 Wf : World} {s : SysC} {σ : PS} {node : Int} {qs : List (LiveC × List LetC)} {ls : List LiveC} {u x2 x3 : Sl} {m2 m3 R B0 : Nat} {L2 L3 : List FlyC} {y2 y3 : Value} (H : SysR P w s σ) (HQ2 : ∀ q ∈ qs, MailAt P w q.1 q.2) (HQ3 : qs.map plOf = σ.acts) (hls : qs.map (·.1) = ls)
    (HO : wr.ownsRow B0 76 9 (.slice u.a s.actors.n u.c) s.actors.n ((ls.map (dz node)).flatMap liveL)) (hB0 : R + 1 + 1 < B0) (HH2 : Below wr.heap.size wr v2) (HX2 : v2.ownsRow wr.heap.size 47 7 (.slice x2.a m2 x2.c) m2 (L2.flatMap flyL)) (hR : R + 1 + 1 < wr.heap.size)
    (HH3 : Below (v2.setCell ⟨R, 6, none⟩ y2).heap.size (v2.setCell ⟨R, 6, none⟩ y2) v3) (HX3 : v3.ownsRow (v2.setCell ⟨R, 6, none⟩ y2).heap.size 66 7 (.slice x3.a m3 x3.c) m3 (L3.flatMap flyL))
    (e2 : L2 = σ.als.filter (fun f => !((Ml.here node (pnL ls) f.l.src).getD false))) (e3 : L3 = σ.fls.filter (fun f => !(decide (f.x = node) || decide (f.y = node)))) (hb : Below w.heap.size w Wf) (hoff : Off (R + 1 + 1) (v3.setCell ⟨R, 5, none⟩ y3) Wf) (hwR : w.heap.size ≤ R) :
    SysR (fun b => P b ∨ w.heap.size ≤ b) Wf { s with actors := ⟨u.a, s.actors.n, u.c⟩, alarms := ⟨x2.a, m2, x2.c⟩, flights := ⟨x3.a, m3, x3.c⟩ } (Ml.drop σ node) := by
  have z2 := HH2.size
  have z3 : v2.heap.size ≤ v3.heap.size := by have := HH3.size; simpa using this
  have hsz : (v2.setCell ⟨R, 6, none⟩ y2).heap.size = v2.heap.size := by simp
  have o1 := own_set_other (own_below (own_set_other (own_below HO HH2) ⟨R, 6, none⟩ y2 (own_ne (R := R) HO (by omega))) HH3) ⟨R, 5, none⟩ y3 (own_ne (R := R) HO (by omega))
  have o2 := own_set_other (own_below (own_set_other HX2 ⟨R, 6, none⟩ y2 (own_ne (R := R) HX2 (by omega))) HH3) ⟨R, 5, none⟩ y3 (own_ne (R := R) HX2 (by omega))
  have o3 := own_set_other HX3 ⟨R, 5, none⟩ y3 (own_ne (R := R) HX3 (by rw [hsz]; omega))
  exact sysR_drop H HQ2 HQ3 hls hb (own_off o1 hoff (by omega)) (own_off o2 hoff (by omega)) (own_cap HX2) (own_off o3 hoff (by rw [hsz]; omega)) (own_cap HX3) e2 e3 (own_loc HO (by omega)) (own_loc HX2 (by omega)) (own_loc HX3 (by rw [hsz]; omega))
theorem own_drewN {w : World} {base T k n : Nat} {v : Value} {xs : List Value} (h : w.ownsRow base T k v n xs) (m : Nat) : (w.drewN m).ownsRow base T k v n xs := h
theorem dr_at {ls : List LiveC} {node : Int} {k : Nat} {a : LiveC} (h : ((ls.take k).map (dz node) ++ ls.drop k)[k]? = some a) (hk : k < ls.length) : ls[k]? = some a := by
  rw [List.getElem?_append_right (by simp; omega)] at h
  simpa [Nat.min_eq_left (Nat.le_of_lt hk)] using h
set_option maxRecDepth 100000 in
set_option maxHeartbeats 800000 in
set_option linter.unusedSimpArgs false in
theorem drop_any {P : Nat → Prop} (s : SysC) (σ : PS) (node : Int) (w : World) (h : SysR P w s σ) (hna : s.actors.n ≤ 1000000) (hnl : s.alarms.n ≤ 1000000) (hnf : s.flights.n ≤ 1000000) (hp : ∀ a ∈ σ.acts, a.path.size ≤ maxLen) (hl : ∀ f ∈ σ.als, f.l.src.size ≤ maxLen) :
    Calls Try.prog 42 #[sysV s, .int .i64 node] w fun e w' => ∃ s', e = .returned (sysV s') ∧ SysR (fun b => P b ∨ w.heap.size ≤ b) w' s' (Ml.drop σ node) ∧ Below w.heap.size w w' := by
  obtain ⟨qs, hq1, hq2, hq3⟩ := h.ac
  obtain ⟨ls, hls⟩ : ∃ ls, qs.map (·.1) = ls := ⟨_, rfl⟩
  rw [hls] at hq1
  have HLEN := Lib.hid (hq1.len (fun _ => rfl) (by omega))
  have HPS : Hid (∀ a ∈ ls, a.path.size ≤ maxLen) := Lib.hid (fun a ha => by
    rw [← hls] at ha
    obtain ⟨q, hq, rfl⟩ := List.mem_map.1 ha
    exact hp (plOf q) (by rw [← hq3]; exact List.mem_map_of_mem hq))
  have HQ1 := Lib.hid hq1
  have HQ2 := Lib.hid hq2
  have HQ3 := Lib.hid hq3
  have HLS := Lib.hid hls
  have H := Lib.hid h
  have HAL := Lib.hid hl
  clear h hq1 hq2 hq3 hls hp hl
  have hmm := @run_makeMap Try.prog
  go_enter Try.func42, Try.ntmps42
  go_wp2_with fail
  refine (clone75 ls _ _ _ _ (HQ1.out.up (by repeat (first | (with_reducible exact Below.refl _ _) | (with_reducible assumption) | ((with_reducible refine Below.setCell ?_ ?_ _); rotate_left; (focus (first | omega | (simp; omega) | (simp; done)))) | ((with_reducible refine Below.alloc ?_ ?_ _); rotate_left; (focus (first | omega | (simp; omega) | (simp; done)))) | (with_reducible refine Below.drew ?_)))) hna).mono ?_
  rintro e v1 ⟨u, rfl, ho, h1⟩
  have z1 := h1.size
  simp at z1
  have HO := Lib.hid (show v1.ownsRow (w.heap.size + 1 + 1 + 1 + 1 + 1) 76 9 (.slice u.a s.actors.n u.c) s.actors.n (ls.flatMap liveL) by simpa using ho)
  have B0 : BoxAt v1 w.heap.size [.slice s.up.a s.up.n s.up.c, .int .i64 s.moment, .int .i64 s.clock, .int .i64 s.seq, .slice s.actors.a s.actors.n s.actors.c, .slice s.flights.a s.flights.n s.flights.c, .slice s.alarms.a s.alarms.n s.alarms.c, .slice s.asked.a s.asked.n s.asked.c, .int .i64 s.dead] := (((((BoxAt.new w 28 [.slice s.up.a s.up.n s.up.c, .int .i64 s.moment, .int .i64 s.clock, .int .i64 s.seq, .slice s.actors.a s.actors.n s.actors.c, .slice s.flights.a s.flights.n s.flights.c, .slice s.alarms.a s.alarms.n s.alarms.c, .slice s.asked.a s.asked.n s.asked.c, .int .i64 s.dead] _ rfl).alloc _).alloc _).alloc _).alloc _).call h1
  have B1 : BoxAt v1 (w.heap.size + 1) [.int .i64 node] := ((((BoxAt.new _ 3 [.int .i64 node] _ (by simp)).alloc _).alloc _).alloc _).call h1
  have B2 : BoxAt v1 (w.heap.size + 1 + 1) [.slice none 0 0, .int .i64 0, .int .i64 0, .int .i64 0, .slice none 0 0, .slice none 0 0, .slice none 0 0, .slice none 0 0, .int .i64 0] := (((BoxAt.new _ 28 [.slice none 0 0, .int .i64 0, .int .i64 0, .int .i64 0, .slice none 0 0, .slice none 0 0, .slice none 0 0, .slice none 0 0, .int .i64 0] _ (by simp)).alloc _).alloc _).call h1
  have B4 : BoxAt v1 (w.heap.size + 1 + 1 + 1 + 1) [.map (some (w.heap.size + 1 + 1 + 1))] := (BoxAt.new _ 113 [.map (some (w.heap.size + 1 + 1 + 1))] _ (by simp)).call h1
  have BM : OwnsS v1 (w.heap.size + 1 + 1 + 1) 0 (fun _ => none) := ((OwnsS.made (b := w.heap.size + 1 + 1 + 1) (by simp) (fun _ => rfl)).alloc _).below h1 (by simp)
  have hB1 : Below w.heap.size w v1 := Below.call (w := w) (by repeat (first | (with_reducible exact Below.refl _ _) | (with_reducible assumption) | ((with_reducible refine Below.setCell ?_ ?_ _); rotate_left; (focus (first | omega | (simp; omega) | (simp; done)))) | ((with_reducible refine Below.alloc ?_ ?_ _); rotate_left; (focus (first | omega | (simp; omega) | (simp; done)))) | (with_reducible refine Below.drew ?_))) h1
  have c4 : v1.cell? ⟨w.heap.size, 4, none⟩ = some (.slice s.actors.a s.actors.n s.actors.c) := B0.2.1 4 _ rfl
  have f4 : v1.frozen? ⟨w.heap.size, 4, none⟩ = false := B0.2.2 4
  have HB0 := Lib.hid B0
  have HB1 := Lib.hid B1
  have HB2 := Lib.hid B2
  have HB4 := Lib.hid B4
  have HBM := Lib.hid BM
  have HBW := Lib.hid hB1
  clear B0 B1 B2 B4 BM hB1 h1 ho hmm
  go_wp2_with fail
  go_loopw [18] (DrRel ls node u s.actors.n w.heap.size (w.heap.size + 1 + 1 + 1 + 1 + 1) [.slice s.up.a s.up.n s.up.c, .int .i64 s.moment, .int .i64 s.clock, .int .i64 s.seq, .slice u.a s.actors.n u.c, .slice s.flights.a s.flights.n s.flights.c, .slice s.alarms.a s.alarms.n s.alarms.c, .slice s.asked.a s.asked.n s.asked.c, .int .i64 s.dead] w) (fun i _ => s.actors.n - (intOf i).toNat)
  case atStart =>
    refine ⟨0, Nat.zero_le _, rfl, ⟨HB0.out.set 4 _ (by simp), HB1.out.setOther _ _ (by first | omega | (simp; omega) | (simp; done)), HB2.out.setOther _ _ (by first | omega | (simp; omega) | (simp; done)), HB4.out.setOther _ _ (by first | omega | (simp; omega) | (simp; done))⟩, ?_, HBM.out.setCell (by first | omega | (simp; omega) | (simp; done)) _, HBW.out.setCell (Nat.le_refl _) _⟩
    refine own_set_other HO.out _ _ (fun e => ?_)
    have := row_base HO.out _ e
    simp at this
    omega
  case round =>
    clear HO HB0 HB1 HB2 HB4 HBM HBW c4 f4
    obtain ⟨k, hk, rfl, ⟨B0, B1, B2, B4⟩, ho, BM, hB⟩ := hrel
    have HO := Lib.hid ho
    have HB0 := Lib.hid B0
    have HB1 := Lib.hid B1
    have HB2 := Lib.hid B2
    have HB4 := Lib.hid B4
    have HBM := Lib.hid BM
    have HBW := Lib.hid hB
    by_cases hlt : k < s.actors.n
    · obtain ⟨g, a, hA, hg1, hg2, hak, hc, hfz⟩ := own_at ho (fun _ => rfl) (by omega) hlt
      have HAK := Lib.hid (dr_at hak (by have := HLEN.out; omega))
      have HAL2 := Lib.hid hak
      have c4 : wr.cell? ⟨w.heap.size, 4, none⟩ = some (.slice u.a s.actors.n u.c) := B0.2.1 4 _ rfl
      have d0 : wr.cell? ⟨w.heap.size + 1, 0, none⟩ = some (.int .i64 node) := B1.2.1 0 _ rfl
      have e0 : wr.cell? ⟨w.heap.size + 1 + 1 + 1 + 1, 0, none⟩ = some (.map (some (w.heap.size + 1 + 1 + 1))) := B4.2.1 0 _ rfl
      have x0 : wr.cell? ⟨g, k * 9, none⟩ = some (.string a.path) := hc 0 _ rfl
      have x2 : wr.cell? ⟨g, k * 9 + 2, none⟩ = some (.int .i64 a.node) := hc 2 _ rfl
      have x8 : wr.cell? ⟨g, k * 9 + 8, none⟩ = some (.slice a.mail.a a.mail.n a.mail.c) := hc 8 _ rfl
      have f8 : wr.frozen? ⟨g, k * 9 + 8, none⟩ = false := hfz _
      have hix : ∀ W : World, Sem.run Try.prog (Instr.indexAt 23 (.slice u.a s.actors.n u.c) (.int .i64 (k : Int))) W = .ok (.pointer (some ⟨g, k * 9, none⟩)) W := by intro W; rw [hA]; go_simp
      have HA := Lib.hid hA
      have zb : w.heap.size + 1 + 1 + 1 + 1 < wr.heap.size := B4.1
      have hpz := HPS.out a (List.mem_of_getElem? HAK.out)
      have hlk : ∀ m, Sem.run Try.prog (Instr.lookup 113 (.map (some (w.heap.size + 1 + 1 + 1))) (.string a.path) true) (wr.drewN m) = .ok (.tuple #[.bool ((Ml.here node (pnL (ls.take k)) a.path).getD false), .bool (Ml.here node (pnL (ls.take k)) a.path).isSome]) (wr.drewN m) := fun m => (BM.drewN m).lookOk hpz
      clear hA hak hc hfz B0 B1 B2 B4 BM hB ho
      cases hh : Ml.here node (pnL (ls.take k)) a.path with
      | some x =>
        rw [hh] at hlk
        go_wp2_with fail
        go_quiet (fail)
        have c4q : (wr.drewN nq).cell? ⟨w.heap.size, 4, none⟩ = some (.slice u.a s.actors.n u.c) := c4
        have d0q : (wr.drewN nq).cell? ⟨w.heap.size + 1, 0, none⟩ = some (.int .i64 node) := d0
        have e0q : (wr.drewN nq).cell? ⟨w.heap.size + 1 + 1 + 1 + 1, 0, none⟩ = some (.map (some (w.heap.size + 1 + 1 + 1))) := e0
        have x0q : (wr.drewN nq).cell? ⟨g, k * 9, none⟩ = some (.string a.path) := x0
        have x2q : (wr.drewN nq).cell? ⟨g, k * 9 + 2, none⟩ = some (.int .i64 a.node) := x2
        have x8q : (wr.drewN nq).cell? ⟨g, k * 9 + 8, none⟩ = some (.slice a.mail.a a.mail.n a.mail.c) := x8
        have f8q : (wr.drewN nq).frozen? ⟨g, k * 9 + 8, none⟩ = false := f8
        have HOq : Hid ((wr.drewN nq).ownsRow (w.heap.size + 1 + 1 + 1 + 1 + 1) 76 9 (.slice u.a s.actors.n u.c) s.actors.n ((((ls.take k).map (dz node)) ++ ls.drop k).flatMap liveL)) := HO
        have HB0q : Hid (BoxAt (wr.drewN nq) w.heap.size [.slice s.up.a s.up.n s.up.c, .int .i64 s.moment, .int .i64 s.clock, .int .i64 s.seq, .slice u.a s.actors.n u.c, .slice s.flights.a s.flights.n s.flights.c, .slice s.alarms.a s.alarms.n s.alarms.c, .slice s.asked.a s.asked.n s.asked.c, .int .i64 s.dead]) := HB0
        have HB1q : Hid (BoxAt (wr.drewN nq) (w.heap.size + 1) [.int .i64 node]) := HB1
        have HB2q : Hid (BoxAt (wr.drewN nq) (w.heap.size + 1 + 1) [.slice none 0 0, .int .i64 0, .int .i64 0, .int .i64 0, .slice none 0 0, .slice none 0 0, .slice none 0 0, .slice none 0 0, .int .i64 0]) := HB2
        have HB4q : Hid (BoxAt (wr.drewN nq) (w.heap.size + 1 + 1 + 1 + 1) [.map (some (w.heap.size + 1 + 1 + 1))]) := HB4
        have HBMq : Hid (OwnsS (wr.drewN nq) (w.heap.size + 1 + 1 + 1) k (Ml.here node (pnL (ls.take k)))) := HBM
        have HBWq : Hid (Below w.heap.size w (wr.drewN nq)) := Lib.hid (below_drewN HBW.out nq)
        have zbq : w.heap.size + 1 + 1 + 1 + 1 < (wr.drewN nq).heap.size := zb
        have hg2q : g < (wr.drewN nq).heap.size := hg2
        clear c4 d0 e0 x0 x2 x8 f8 HO HB0 HB1 HB2 HB4 HBM HBW zb hg2 hlk
        generalize wr.drewN nq = wd at *
        by_cases hn : a.node = node
        · have t1 : (a.node == node) = true := by simp [hn]
          go_wp2_with fail
          go_quiet (fail)
          go_wp2_with fail
          go_roundw
          case rel => exact DrRel.step hlt HAK.out ⟨HB0q.out.setOther _ _ (by first | omega | (simp; omega) | (simp; done)), HB1q.out.setOther _ _ (by first | omega | (simp; omega) | (simp; done)), HB2q.out.setOther _ _ (by first | omega | (simp; omega) | (simp; done)), HB4q.out.setOther _ _ (by first | omega | (simp; omega) | (simp; done))⟩ (by rw [dz_yes hn]; exact own_store_a HA.out HOq.out HAL2.out ⟨none, 0, 0⟩) ((HBMq.out.mono (Nat.le_succ k)).setCell (by first | omega | (simp; omega) | (simp; done)) _) (fun p => here_known hh) ((below_drewN HBWq.out _).setCell (by first | omega | (simp; omega) | (simp; done)) _)
          case measure => simp [intOf]; omega
        · have t1 : (a.node == node) = false := by simp [hn]
          go_wp2_with fail
          go_quiet (fail)
          go_wp2_with fail
          go_roundw
          case rel => exact DrRel.step hlt HAK.out ⟨HB0q.out, HB1q.out, HB2q.out, HB4q.out⟩ (by rw [set_same HAL2.out hn]; exact HOq.out) (HBMq.out.mono (Nat.le_succ k)) (fun p => here_known hh) (below_drewN HBWq.out _)
          case measure => simp [intOf]; omega
      | none =>
        rw [hh] at hlk
        go_wp2_with fail
        go_quiet (fail)
        have c4q : (wr.drewN nq).cell? ⟨w.heap.size, 4, none⟩ = some (.slice u.a s.actors.n u.c) := c4
        have d0q : (wr.drewN nq).cell? ⟨w.heap.size + 1, 0, none⟩ = some (.int .i64 node) := d0
        have e0q : (wr.drewN nq).cell? ⟨w.heap.size + 1 + 1 + 1 + 1, 0, none⟩ = some (.map (some (w.heap.size + 1 + 1 + 1))) := e0
        have x0q : (wr.drewN nq).cell? ⟨g, k * 9, none⟩ = some (.string a.path) := x0
        have x2q : (wr.drewN nq).cell? ⟨g, k * 9 + 2, none⟩ = some (.int .i64 a.node) := x2
        have x8q : (wr.drewN nq).cell? ⟨g, k * 9 + 8, none⟩ = some (.slice a.mail.a a.mail.n a.mail.c) := x8
        have f8q : (wr.drewN nq).frozen? ⟨g, k * 9 + 8, none⟩ = false := f8
        have HOq : Hid ((wr.drewN nq).ownsRow (w.heap.size + 1 + 1 + 1 + 1 + 1) 76 9 (.slice u.a s.actors.n u.c) s.actors.n ((((ls.take k).map (dz node)) ++ ls.drop k).flatMap liveL)) := HO
        have HB0q : Hid (BoxAt (wr.drewN nq) w.heap.size [.slice s.up.a s.up.n s.up.c, .int .i64 s.moment, .int .i64 s.clock, .int .i64 s.seq, .slice u.a s.actors.n u.c, .slice s.flights.a s.flights.n s.flights.c, .slice s.alarms.a s.alarms.n s.alarms.c, .slice s.asked.a s.asked.n s.asked.c, .int .i64 s.dead]) := HB0
        have HB1q : Hid (BoxAt (wr.drewN nq) (w.heap.size + 1) [.int .i64 node]) := HB1
        have HB2q : Hid (BoxAt (wr.drewN nq) (w.heap.size + 1 + 1) [.slice none 0 0, .int .i64 0, .int .i64 0, .int .i64 0, .slice none 0 0, .slice none 0 0, .slice none 0 0, .slice none 0 0, .int .i64 0]) := HB2
        have HB4q : Hid (BoxAt (wr.drewN nq) (w.heap.size + 1 + 1 + 1 + 1) [.map (some (w.heap.size + 1 + 1 + 1))]) := HB4
        have HBMq : Hid (OwnsS (wr.drewN nq) (w.heap.size + 1 + 1 + 1) k (Ml.here node (pnL (ls.take k)))) := HBM
        have HBWq : Hid (Below w.heap.size w (wr.drewN nq)) := Lib.hid (below_drewN HBW.out nq)
        have zbq : w.heap.size + 1 + 1 + 1 + 1 < (wr.drewN nq).heap.size := zb
        have hg2q : g < (wr.drewN nq).heap.size := hg2
        clear c4 d0 e0 x0 x2 x8 f8 HO HB0 HB1 HB2 HB4 HBM HBW zb hg2 hlk
        generalize wr.drewN nq = wd at *
        by_cases hn : a.node = node
        · have t1 : (a.node == node) = true := by simp [hn]
          go_wp2_with fail
          refine wp_region_held_drew (S := (fun w' => w'.cell? ⟨w.heap.size + 1 + 1 + 1 + 1, 0, none⟩ = some (.map (some (w.heap.size + 1 + 1 + 1))) ∧ w'.cell? ⟨w.heap.size + 1, 0, none⟩ = some (.int .i64 node) ∧ w'.cell? ⟨g, k * 9, none⟩ = some (.string a.path) ∧ w'.cell? ⟨g, k * 9 + 2, none⟩ = some (.int .i64 a.node))) (by kernel_rfl) ?_ (fun hHeld => ?_)
          · simp [go_sem, *]
          refine wpAnyH_take (i := 0) (v := ?_) rfl (by kernel_rfl) (by kernel_rfl) (by kernel_rfl) (fun _ _ _ h => h) (Or.inl ⟨by rfl, ?_⟩) (by assumption) ?_
          rotate_left
          · intro w hSw; (try dsimp only at hSw); go_simp; (first | done | (with_reducible rfl))
          try simp only [Act.put, List.getElem_toArray, List.getElem_cons_succ, List.getElem_cons_zero, List.setIfInBounds_toArray, List.set_cons_zero, List.set_cons_succ]
          refine wpAnyH_take (i := 1) (v := ?_) rfl (by kernel_rfl) (by kernel_rfl) (by kernel_rfl) (fun _ _ _ h => h) (Or.inl ⟨by rfl, ?_⟩) (by assumption) ?_
          rotate_left
          · intro w hSw; (try dsimp only at hSw); go_simp; (first | done | (with_reducible rfl))
          try simp only [Act.put, List.getElem_toArray, List.getElem_cons_succ, List.getElem_cons_zero, List.setIfInBounds_toArray, List.set_cons_zero, List.set_cons_succ]
          refine wpAnyH_take (i := 2) (v := ?_) rfl (by kernel_rfl) (by kernel_rfl) (by kernel_rfl) (fun _ _ _ h => h) (Or.inl ⟨by rfl, ?_⟩) (by assumption) ?_
          rotate_left
          · intro w hSw; (try dsimp only at hSw); go_simp; (first | done | (with_reducible rfl))
          try simp only [Act.put, List.getElem_toArray, List.getElem_cons_succ, List.getElem_cons_zero, List.setIfInBounds_toArray, List.set_cons_zero, List.set_cons_succ]
          refine wpAnyH_take (i := 3) (v := ?_) rfl (by kernel_rfl) (by kernel_rfl) (by kernel_rfl) (fun _ _ _ h => h) (Or.inl ⟨by rfl, ?_⟩) (by assumption) ?_
          rotate_left
          · intro w hSw; (try dsimp only at hSw); go_simp; (first | done | (with_reducible rfl))
          try simp only [Act.put, List.getElem_toArray, List.getElem_cons_succ, List.getElem_cons_zero, List.setIfInBounds_toArray, List.set_cons_zero, List.set_cons_succ]
          refine wpAnyH_take (i := 4) (v := ?_) rfl (by kernel_rfl) (by kernel_rfl) (by kernel_rfl) (fun _ _ _ h => h) (Or.inl ⟨by rfl, ?_⟩) (by assumption) ?_
          rotate_left
          · intro w hSw; (try dsimp only at hSw); go_simp; (first | done | (with_reducible rfl))
          try simp only [Act.put, List.getElem_toArray, List.getElem_cons_succ, List.getElem_cons_zero, List.setIfInBounds_toArray, List.set_cons_zero, List.set_cons_succ]
          refine wpAnyH_take (i := 5) (v := ?_) rfl (by kernel_rfl) (by kernel_rfl) (by kernel_rfl) (fun _ _ _ h => h) (Or.inl ⟨by rfl, ?_⟩) (by assumption) ?_
          rotate_left
          · intro w hSw; (try dsimp only at hSw); go_simp; (first | done | (with_reducible rfl))
          try simp only [Act.put, List.getElem_toArray, List.getElem_cons_succ, List.getElem_cons_zero, List.setIfInBounds_toArray, List.set_cons_zero, List.set_cons_succ]
          refine wpAnyH_take (i := 6) (v := ?_) rfl (by kernel_rfl) (by kernel_rfl) (by kernel_rfl) (fun _ _ _ h => h) (Or.inl ⟨by rfl, ?_⟩) (by assumption) ?_
          rotate_left
          · intro w hSw; (try dsimp only at hSw); go_simp; (first | done | (with_reducible rfl))
          try simp only [Act.put, List.getElem_toArray, List.getElem_cons_succ, List.getElem_cons_zero, List.setIfInBounds_toArray, List.set_cons_zero, List.set_cons_succ]
          refine wpAnyH_take (i := 7) (v := ?_) rfl (by kernel_rfl) (by kernel_rfl) (by kernel_rfl) (fun _ _ _ h => h) (Or.inl ⟨by rfl, ?_⟩) (by assumption) ?_
          rotate_left
          · intro w hSw; (try dsimp only at hSw); go_simp; (first | done | (with_reducible rfl))
          try simp only [Act.put, List.getElem_toArray, List.getElem_cons_succ, List.getElem_cons_zero, List.setIfInBounds_toArray, List.set_cons_zero, List.set_cons_succ]
          refine wpAnyH_take (i := 8) (v := ?_) rfl (by kernel_rfl) (by kernel_rfl) (by kernel_rfl) (fun _ _ _ h => h) (Or.inl ⟨by rfl, ?_⟩) (by assumption) ?_
          rotate_left
          · intro w hSw; (try dsimp only at hSw); go_simp; (first | done | (with_reducible rfl))
          try simp only [Act.put, List.getElem_toArray, List.getElem_cons_succ, List.getElem_cons_zero, List.setIfInBounds_toArray, List.set_cons_zero, List.set_cons_succ]
          refine wpAnyH_take (i := 9) (v := ?_) rfl (by kernel_rfl) (by kernel_rfl) (by kernel_rfl) (fun _ _ _ h => h) (Or.inl ⟨by rfl, ?_⟩) (by assumption) ?_
          rotate_left
          · intro w hSw; (try dsimp only at hSw); go_simp; (first | done | (with_reducible rfl))
          try simp only [Act.put, List.getElem_toArray, List.getElem_cons_succ, List.getElem_cons_zero, List.setIfInBounds_toArray, List.set_cons_zero, List.set_cons_succ]
          refine wpAnyH_take (i := 10) (v := ?_) rfl (by kernel_rfl) (by kernel_rfl) (by kernel_rfl) (fun _ _ _ h => h) (Or.inl ⟨by rfl, ?_⟩) (by assumption) ?_
          rotate_left
          · intro w hSw; (try dsimp only at hSw); go_simp; (first | done | (with_reducible rfl))
          try simp only [Act.put, List.getElem_toArray, List.getElem_cons_succ, List.getElem_cons_zero, List.setIfInBounds_toArray, List.set_cons_zero, List.set_cons_succ]
          refine wpAnyH_ready (rs := [11]) (by kernel_rfl) (by simp) ?_
          refine AllReadyH.cons rfl (fun K hK => ?_) AllReadyH.nil
          try simp only [Act.put, List.getElem_toArray, List.getElem_cons_succ, List.getElem_cons_zero, List.setIfInBounds_toArray, List.set_cons_zero, List.set_cons_succ]
          refine step_put_s (by simp [Region.wanted]) (.tmp 36) (.tmp 40) (.tmp 46) rfl (by simp [Act.eval, Act.put]) (HBMq.out.drew) (by rw [ml_val]; omega) a.path true (by simp [Act.eval, Act.put]) (by simp [Act.eval, Act.put]) hpz ?_
          intro w2 hM2 hgr
          have c4' : w2.cell? ⟨w.heap.size, 4, none⟩ = some (.slice u.a s.actors.n u.c) := (World.cell?_of_block (a := ⟨w.heap.size, 4, none⟩) (hgr.block (w.heap.size) (by show _ < wd.heap.size; omega) (by first | omega | (simp; omega) | (simp; done)))).trans (by simp [go_sem, *])
          have d0' : w2.cell? ⟨w.heap.size + 1, 0, none⟩ = some (.int .i64 node) := (World.cell?_of_block (a := ⟨w.heap.size + 1, 0, none⟩) (hgr.block (w.heap.size + 1) (by show _ < wd.heap.size; omega) (by first | omega | (simp; omega) | (simp; done)))).trans (by simp [go_sem, *])
          have e0' : w2.cell? ⟨w.heap.size + 1 + 1 + 1 + 1, 0, none⟩ = some (.map (some (w.heap.size + 1 + 1 + 1))) := (World.cell?_of_block (a := ⟨w.heap.size + 1 + 1 + 1 + 1, 0, none⟩) (hgr.block (w.heap.size + 1 + 1 + 1 + 1) (by show _ < wd.heap.size; omega) (by first | omega | (simp; omega) | (simp; done)))).trans (by simp [go_sem, *])
          have x0' : w2.cell? ⟨g, k * 9, none⟩ = some (.string a.path) := (World.cell?_of_block (a := ⟨g, k * 9, none⟩) (hgr.block (g) (by show _ < wd.heap.size; omega) (by first | omega | (simp; omega) | (simp; done)))).trans (by simp [go_sem, *])
          have x2' : w2.cell? ⟨g, k * 9 + 2, none⟩ = some (.int .i64 a.node) := (World.cell?_of_block (a := ⟨g, k * 9 + 2, none⟩) (hgr.block (g) (by show _ < wd.heap.size; omega) (by first | omega | (simp; omega) | (simp; done)))).trans (by simp [go_sem, *])
          have x8' : w2.cell? ⟨g, k * 9 + 8, none⟩ = some (.slice a.mail.a a.mail.n a.mail.c) := (World.cell?_of_block (a := ⟨g, k * 9 + 8, none⟩) (hgr.block (g) (by show _ < wd.heap.size; omega) (by first | omega | (simp; omega) | (simp; done)))).trans (by simp [go_sem, *])
          have f8' : w2.frozen? ⟨g, k * 9 + 8, none⟩ = false := (World.frozen?_of_block (a := ⟨g, k * 9 + 8, none⟩) (hgr.block g (by show _ < wd.heap.size; omega) (by first | omega | (simp; omega) | (simp; done)))).trans (by simp [go_sem, *])
          have HM2 := Lib.hid hM2
          have HGR := Lib.hid hgr
          clear hM2 hgr c4q d0q e0q x0q x2q x8q f8q
          refine hK.out _ _ ?_ (fun hHeld => ?_)
          · simp [go_sem, *]
          clear hK K
          try simp only [Act.put, List.getElem_toArray, List.getElem_cons_succ, List.getElem_cons_zero, List.setIfInBounds_toArray, List.set_cons_zero, List.set_cons_succ]
          refine wpAnyH_done (by kernel_rfl) ?_ _
          go_wp2_with fail
          go_quiet (fail)
          go_wp2_with fail
          go_roundw
          case rel => exact DrRel.step hlt HAK.out ⟨(HB0q.out.drew.kept HGR.out (by first | omega | (simp; omega) | (simp; done))).setOther _ _ (by first | omega | (simp; omega) | (simp; done)), (HB1q.out.drew.kept HGR.out (by first | omega | (simp; omega) | (simp; done))).setOther _ _ (by first | omega | (simp; omega) | (simp; done)), (HB2q.out.drew.kept HGR.out (by first | omega | (simp; omega) | (simp; done))).setOther _ _ (by first | omega | (simp; omega) | (simp; done)), (HB4q.out.drew.kept HGR.out (by first | omega | (simp; omega) | (simp; done))).setOther _ _ (by first | omega | (simp; omega) | (simp; done))⟩ (by rw [dz_yes hn]; exact own_store_a HA.out (HOq.out.drew.kept HGR.out (by rw [HA.out]; exact .inr (by simp [Value.ownBlock]; omega))) HAL2.out ⟨none, 0, 0⟩) (HM2.out.setCell (by first | omega | (simp; omega) | (simp; done)) _) (fun p => here_new true (by simp [hn]) hh) ((below_drewN (HBWq.out.drew.grown HGR.out (by show _ ≤ wd.heap.size; omega) (fun q hq => by injection hq with hq; omega)) _).setCell (by first | omega | (simp; omega) | (simp; done)) _)
          case measure => simp [intOf]; omega
        · have t1 : (a.node == node) = false := by simp [hn]
          go_wp2_with fail
          refine wp_region_held_drew (S := (fun w' => w'.cell? ⟨w.heap.size + 1 + 1 + 1 + 1, 0, none⟩ = some (.map (some (w.heap.size + 1 + 1 + 1))) ∧ w'.cell? ⟨w.heap.size + 1, 0, none⟩ = some (.int .i64 node) ∧ w'.cell? ⟨g, k * 9, none⟩ = some (.string a.path) ∧ w'.cell? ⟨g, k * 9 + 2, none⟩ = some (.int .i64 a.node))) (by kernel_rfl) ?_ (fun hHeld => ?_)
          · simp [go_sem, *]
          refine wpAnyH_take (i := 0) (v := ?_) rfl (by kernel_rfl) (by kernel_rfl) (by kernel_rfl) (fun _ _ _ h => h) (Or.inl ⟨by rfl, ?_⟩) (by assumption) ?_
          rotate_left
          · intro w hSw; (try dsimp only at hSw); go_simp; (first | done | (with_reducible rfl))
          try simp only [Act.put, List.getElem_toArray, List.getElem_cons_succ, List.getElem_cons_zero, List.setIfInBounds_toArray, List.set_cons_zero, List.set_cons_succ]
          refine wpAnyH_take (i := 1) (v := ?_) rfl (by kernel_rfl) (by kernel_rfl) (by kernel_rfl) (fun _ _ _ h => h) (Or.inl ⟨by rfl, ?_⟩) (by assumption) ?_
          rotate_left
          · intro w hSw; (try dsimp only at hSw); go_simp; (first | done | (with_reducible rfl))
          try simp only [Act.put, List.getElem_toArray, List.getElem_cons_succ, List.getElem_cons_zero, List.setIfInBounds_toArray, List.set_cons_zero, List.set_cons_succ]
          refine wpAnyH_take (i := 2) (v := ?_) rfl (by kernel_rfl) (by kernel_rfl) (by kernel_rfl) (fun _ _ _ h => h) (Or.inl ⟨by rfl, ?_⟩) (by assumption) ?_
          rotate_left
          · intro w hSw; (try dsimp only at hSw); go_simp; (first | done | (with_reducible rfl))
          try simp only [Act.put, List.getElem_toArray, List.getElem_cons_succ, List.getElem_cons_zero, List.setIfInBounds_toArray, List.set_cons_zero, List.set_cons_succ]
          refine wpAnyH_take (i := 3) (v := ?_) rfl (by kernel_rfl) (by kernel_rfl) (by kernel_rfl) (fun _ _ _ h => h) (Or.inl ⟨by rfl, ?_⟩) (by assumption) ?_
          rotate_left
          · intro w hSw; (try dsimp only at hSw); go_simp; (first | done | (with_reducible rfl))
          try simp only [Act.put, List.getElem_toArray, List.getElem_cons_succ, List.getElem_cons_zero, List.setIfInBounds_toArray, List.set_cons_zero, List.set_cons_succ]
          refine wpAnyH_take (i := 4) (v := ?_) rfl (by kernel_rfl) (by kernel_rfl) (by kernel_rfl) (fun _ _ _ h => h) (Or.inl ⟨by rfl, ?_⟩) (by assumption) ?_
          rotate_left
          · intro w hSw; (try dsimp only at hSw); go_simp; (first | done | (with_reducible rfl))
          try simp only [Act.put, List.getElem_toArray, List.getElem_cons_succ, List.getElem_cons_zero, List.setIfInBounds_toArray, List.set_cons_zero, List.set_cons_succ]
          refine wpAnyH_take (i := 5) (v := ?_) rfl (by kernel_rfl) (by kernel_rfl) (by kernel_rfl) (fun _ _ _ h => h) (Or.inl ⟨by rfl, ?_⟩) (by assumption) ?_
          rotate_left
          · intro w hSw; (try dsimp only at hSw); go_simp; (first | done | (with_reducible rfl))
          try simp only [Act.put, List.getElem_toArray, List.getElem_cons_succ, List.getElem_cons_zero, List.setIfInBounds_toArray, List.set_cons_zero, List.set_cons_succ]
          refine wpAnyH_take (i := 6) (v := ?_) rfl (by kernel_rfl) (by kernel_rfl) (by kernel_rfl) (fun _ _ _ h => h) (Or.inl ⟨by rfl, ?_⟩) (by assumption) ?_
          rotate_left
          · intro w hSw; (try dsimp only at hSw); go_simp; (first | done | (with_reducible rfl))
          try simp only [Act.put, List.getElem_toArray, List.getElem_cons_succ, List.getElem_cons_zero, List.setIfInBounds_toArray, List.set_cons_zero, List.set_cons_succ]
          refine wpAnyH_take (i := 7) (v := ?_) rfl (by kernel_rfl) (by kernel_rfl) (by kernel_rfl) (fun _ _ _ h => h) (Or.inl ⟨by rfl, ?_⟩) (by assumption) ?_
          rotate_left
          · intro w hSw; (try dsimp only at hSw); go_simp; (first | done | (with_reducible rfl))
          try simp only [Act.put, List.getElem_toArray, List.getElem_cons_succ, List.getElem_cons_zero, List.setIfInBounds_toArray, List.set_cons_zero, List.set_cons_succ]
          refine wpAnyH_take (i := 8) (v := ?_) rfl (by kernel_rfl) (by kernel_rfl) (by kernel_rfl) (fun _ _ _ h => h) (Or.inl ⟨by rfl, ?_⟩) (by assumption) ?_
          rotate_left
          · intro w hSw; (try dsimp only at hSw); go_simp; (first | done | (with_reducible rfl))
          try simp only [Act.put, List.getElem_toArray, List.getElem_cons_succ, List.getElem_cons_zero, List.setIfInBounds_toArray, List.set_cons_zero, List.set_cons_succ]
          refine wpAnyH_take (i := 9) (v := ?_) rfl (by kernel_rfl) (by kernel_rfl) (by kernel_rfl) (fun _ _ _ h => h) (Or.inl ⟨by rfl, ?_⟩) (by assumption) ?_
          rotate_left
          · intro w hSw; (try dsimp only at hSw); go_simp; (first | done | (with_reducible rfl))
          try simp only [Act.put, List.getElem_toArray, List.getElem_cons_succ, List.getElem_cons_zero, List.setIfInBounds_toArray, List.set_cons_zero, List.set_cons_succ]
          refine wpAnyH_take (i := 10) (v := ?_) rfl (by kernel_rfl) (by kernel_rfl) (by kernel_rfl) (fun _ _ _ h => h) (Or.inl ⟨by rfl, ?_⟩) (by assumption) ?_
          rotate_left
          · intro w hSw; (try dsimp only at hSw); go_simp; (first | done | (with_reducible rfl))
          try simp only [Act.put, List.getElem_toArray, List.getElem_cons_succ, List.getElem_cons_zero, List.setIfInBounds_toArray, List.set_cons_zero, List.set_cons_succ]
          refine wpAnyH_ready (rs := [11]) (by kernel_rfl) (by simp) ?_
          refine AllReadyH.cons rfl (fun K hK => ?_) AllReadyH.nil
          try simp only [Act.put, List.getElem_toArray, List.getElem_cons_succ, List.getElem_cons_zero, List.setIfInBounds_toArray, List.set_cons_zero, List.set_cons_succ]
          refine step_put_s (by simp [Region.wanted]) (.tmp 36) (.tmp 40) (.tmp 46) rfl (by simp [Act.eval, Act.put]) (HBMq.out.drew) (by rw [ml_val]; omega) a.path false (by simp [Act.eval, Act.put]) (by simp [Act.eval, Act.put]) hpz ?_
          intro w2 hM2 hgr
          have c4' : w2.cell? ⟨w.heap.size, 4, none⟩ = some (.slice u.a s.actors.n u.c) := (World.cell?_of_block (a := ⟨w.heap.size, 4, none⟩) (hgr.block (w.heap.size) (by show _ < wd.heap.size; omega) (by first | omega | (simp; omega) | (simp; done)))).trans (by simp [go_sem, *])
          have d0' : w2.cell? ⟨w.heap.size + 1, 0, none⟩ = some (.int .i64 node) := (World.cell?_of_block (a := ⟨w.heap.size + 1, 0, none⟩) (hgr.block (w.heap.size + 1) (by show _ < wd.heap.size; omega) (by first | omega | (simp; omega) | (simp; done)))).trans (by simp [go_sem, *])
          have e0' : w2.cell? ⟨w.heap.size + 1 + 1 + 1 + 1, 0, none⟩ = some (.map (some (w.heap.size + 1 + 1 + 1))) := (World.cell?_of_block (a := ⟨w.heap.size + 1 + 1 + 1 + 1, 0, none⟩) (hgr.block (w.heap.size + 1 + 1 + 1 + 1) (by show _ < wd.heap.size; omega) (by first | omega | (simp; omega) | (simp; done)))).trans (by simp [go_sem, *])
          have x0' : w2.cell? ⟨g, k * 9, none⟩ = some (.string a.path) := (World.cell?_of_block (a := ⟨g, k * 9, none⟩) (hgr.block (g) (by show _ < wd.heap.size; omega) (by first | omega | (simp; omega) | (simp; done)))).trans (by simp [go_sem, *])
          have x2' : w2.cell? ⟨g, k * 9 + 2, none⟩ = some (.int .i64 a.node) := (World.cell?_of_block (a := ⟨g, k * 9 + 2, none⟩) (hgr.block (g) (by show _ < wd.heap.size; omega) (by first | omega | (simp; omega) | (simp; done)))).trans (by simp [go_sem, *])
          have x8' : w2.cell? ⟨g, k * 9 + 8, none⟩ = some (.slice a.mail.a a.mail.n a.mail.c) := (World.cell?_of_block (a := ⟨g, k * 9 + 8, none⟩) (hgr.block (g) (by show _ < wd.heap.size; omega) (by first | omega | (simp; omega) | (simp; done)))).trans (by simp [go_sem, *])
          have f8' : w2.frozen? ⟨g, k * 9 + 8, none⟩ = false := (World.frozen?_of_block (a := ⟨g, k * 9 + 8, none⟩) (hgr.block g (by show _ < wd.heap.size; omega) (by first | omega | (simp; omega) | (simp; done)))).trans (by simp [go_sem, *])
          have HM2 := Lib.hid hM2
          have HGR := Lib.hid hgr
          clear hM2 hgr c4q d0q e0q x0q x2q x8q f8q
          refine hK.out _ _ ?_ (fun hHeld => ?_)
          · simp [go_sem, *]
          clear hK K
          try simp only [Act.put, List.getElem_toArray, List.getElem_cons_succ, List.getElem_cons_zero, List.setIfInBounds_toArray, List.set_cons_zero, List.set_cons_succ]
          refine wpAnyH_done (by kernel_rfl) ?_ _
          go_wp2_with fail
          go_quiet (fail)
          go_wp2_with fail
          go_roundw
          case rel => exact DrRel.step hlt HAK.out ⟨(HB0q.out.drew.kept HGR.out (by first | omega | (simp; omega) | (simp; done))).drewN _, (HB1q.out.drew.kept HGR.out (by first | omega | (simp; omega) | (simp; done))).drewN _, (HB2q.out.drew.kept HGR.out (by first | omega | (simp; omega) | (simp; done))).drewN _, (HB4q.out.drew.kept HGR.out (by first | omega | (simp; omega) | (simp; done))).drewN _⟩ (by rw [set_same HAL2.out hn]; exact own_drewN (HOq.out.drew.kept HGR.out (by rw [HA.out]; exact .inr (by simp [Value.ownBlock]; omega))) _) (HM2.out.drewN _) (fun p => here_new false (by simp [hn]) hh) (below_drewN (HBWq.out.drew.grown HGR.out (by show _ ≤ wd.heap.size; omega) (fun q hq => by injection hq with hq; omega)) _)
          case measure => simp [intOf]; omega
    · obtain rfl : k = s.actors.n := by omega
      clear hlt hk
      have E1 : (ls.take s.actors.n).map (dz node) ++ ls.drop s.actors.n = ls.map (dz node) := by rw [List.take_of_length_le (by have := HLEN.out; omega), List.drop_eq_nil_of_le (by have := HLEN.out; omega), List.append_nil]
      have E2 : ls.take s.actors.n = ls := List.take_of_length_le (by have := HLEN.out; omega)
      rw [E1] at HO
      rw [E2] at HBM
      have c6 : wr.cell? ⟨w.heap.size, 6, none⟩ = some (.slice s.alarms.a s.alarms.n s.alarms.c) := B0.2.1 6 _ rfl
      have zb : w.heap.size + 1 + 1 + 1 + 1 < wr.heap.size := B4.1
      clear E1 E2 B0 B1 B2 B4 ho BM hB
      go_wp2_with fail
      refine (without85 σ.als s.alarms (.pointer (some ⟨w.heap.size + 1 + 1 + 1 + 1, 0, none⟩)) (fun f => (Ml.here node (pnL ls) f.l.src).getD false) _ (H.out.al.up HBW.out) hnl (fun W f hW hf => drop86 f (w.heap.size + 1 + 1 + 1) (w.heap.size + 1 + 1 + 1 + 1) _ _ W (HBM.out.below hW (by first | omega | (simp; omega) | (simp; done))) (HB4.out.call hW) (HAL.out f hf))).mono ?_
      rintro e v2 ⟨x2, rfl, hx2, h2⟩
      have z2 := h2.size
      have HX2 := Lib.hid hx2
      have HH2 := Lib.hid h2
      have c6' : v2.cell? ⟨w.heap.size, 6, none⟩ = some (.slice s.alarms.a s.alarms.n s.alarms.c) := (HB0.out.call h2).2.1 6 _ rfl
      have f6' : v2.frozen? ⟨w.heap.size, 6, none⟩ = false := (HB0.out.call h2).2.2 6
      have c5' : v2.cell? ⟨w.heap.size, 5, none⟩ = some (.slice s.flights.a s.flights.n s.flights.c) := (HB0.out.call h2).2.1 5 _ rfl
      have hB2 : Below w.heap.size w v2 := Below.call HBW.out h2
      clear hx2 h2 c6
      go_wp2_with fail
      refine (without87 σ.fls s.flights (.pointer (some ⟨w.heap.size + 1, 0, none⟩)) (fun f => decide (f.x = node) || decide (f.y = node)) _ (H.out.fl.up (hB2.setCell (Nat.le_refl _) _)) hnf (fun W f hW hf => drop88 f node (w.heap.size + 1) W (((HB1.out.call HH2.out).setOther _ _ (by first | omega | (simp; omega) | (simp; done))).call hW))).mono ?_
      rintro e v3 ⟨x3, rfl, hx3, h3⟩
      have z3 := h3.size
      simp at z3
      have HX3 := Lib.hid hx3
      have HH3 := Lib.hid h3
      have hB3 : Below w.heap.size w v3 := Below.call (hB2.setCell (Nat.le_refl _) _) h3
      have BB : BoxAt v3 w.heap.size [.slice s.up.a s.up.n s.up.c, .int .i64 s.moment, .int .i64 s.clock, .int .i64 s.seq, .slice u.a s.actors.n u.c, .slice s.flights.a s.flights.n s.flights.c, .slice x2.a (σ.als.filter (fun f => !((Ml.here node (pnL ls) f.l.src).getD false))).length x2.c, .slice s.asked.a s.asked.n s.asked.c, .int .i64 s.dead] := ((HB0.out.call HH2.out).set 6 _ (by simp)).call h3
      have BZ : BoxAt v3 (w.heap.size + 1 + 1) [.slice none 0 0, .int .i64 0, .int .i64 0, .int .i64 0, .slice none 0 0, .slice none 0 0, .slice none 0 0, .slice none 0 0, .int .i64 0] := ((HB2.out.call HH2.out).setOther _ _ (by first | omega | (simp; omega) | (simp; done))).call h3
      have p0 : v3.cell? ⟨w.heap.size, 0, none⟩ = some (.slice s.up.a s.up.n s.up.c) := BB.2.1 0 _ rfl
      have p1 : v3.cell? ⟨w.heap.size, 1, none⟩ = some (.int .i64 s.moment) := BB.2.1 1 _ rfl
      have p2 : v3.cell? ⟨w.heap.size, 2, none⟩ = some (.int .i64 s.clock) := BB.2.1 2 _ rfl
      have p3 : v3.cell? ⟨w.heap.size, 3, none⟩ = some (.int .i64 s.seq) := BB.2.1 3 _ rfl
      have p4 : v3.cell? ⟨w.heap.size, 4, none⟩ = some (.slice u.a s.actors.n u.c) := BB.2.1 4 _ rfl
      have p5 : v3.cell? ⟨w.heap.size, 5, none⟩ = some (.slice s.flights.a s.flights.n s.flights.c) := BB.2.1 5 _ rfl
      have p6 : v3.cell? ⟨w.heap.size, 6, none⟩ = some (.slice x2.a (σ.als.filter (fun f => !((Ml.here node (pnL ls) f.l.src).getD false))).length x2.c) := BB.2.1 6 _ rfl
      have p7 : v3.cell? ⟨w.heap.size, 7, none⟩ = some (.slice s.asked.a s.asked.n s.asked.c) := BB.2.1 7 _ rfl
      have p8 : v3.cell? ⟨w.heap.size, 8, none⟩ = some (.int .i64 s.dead) := BB.2.1 8 _ rfl
      have pf : v3.frozen? ⟨w.heap.size, 5, none⟩ = false := BB.2.2 5
      have r0 : v3.cell? ⟨w.heap.size + 1 + 1, 0, none⟩ = some (.slice none 0 0) := BZ.2.1 0 _ rfl
      have rf0 : v3.frozen? ⟨w.heap.size + 1 + 1, 0, none⟩ = false := BZ.2.2 0
      have r1 : v3.cell? ⟨w.heap.size + 1 + 1, 1, none⟩ = some (.int .i64 0) := BZ.2.1 1 _ rfl
      have rf1 : v3.frozen? ⟨w.heap.size + 1 + 1, 1, none⟩ = false := BZ.2.2 1
      have r2 : v3.cell? ⟨w.heap.size + 1 + 1, 2, none⟩ = some (.int .i64 0) := BZ.2.1 2 _ rfl
      have rf2 : v3.frozen? ⟨w.heap.size + 1 + 1, 2, none⟩ = false := BZ.2.2 2
      have r3 : v3.cell? ⟨w.heap.size + 1 + 1, 3, none⟩ = some (.int .i64 0) := BZ.2.1 3 _ rfl
      have rf3 : v3.frozen? ⟨w.heap.size + 1 + 1, 3, none⟩ = false := BZ.2.2 3
      have r4 : v3.cell? ⟨w.heap.size + 1 + 1, 4, none⟩ = some (.slice none 0 0) := BZ.2.1 4 _ rfl
      have rf4 : v3.frozen? ⟨w.heap.size + 1 + 1, 4, none⟩ = false := BZ.2.2 4
      have r5 : v3.cell? ⟨w.heap.size + 1 + 1, 5, none⟩ = some (.slice none 0 0) := BZ.2.1 5 _ rfl
      have rf5 : v3.frozen? ⟨w.heap.size + 1 + 1, 5, none⟩ = false := BZ.2.2 5
      have r6 : v3.cell? ⟨w.heap.size + 1 + 1, 6, none⟩ = some (.slice none 0 0) := BZ.2.1 6 _ rfl
      have rf6 : v3.frozen? ⟨w.heap.size + 1 + 1, 6, none⟩ = false := BZ.2.2 6
      have r7 : v3.cell? ⟨w.heap.size + 1 + 1, 7, none⟩ = some (.slice none 0 0) := BZ.2.1 7 _ rfl
      have rf7 : v3.frozen? ⟨w.heap.size + 1 + 1, 7, none⟩ = false := BZ.2.2 7
      have r8 : v3.cell? ⟨w.heap.size + 1 + 1, 8, none⟩ = some (.int .i64 0) := BZ.2.1 8 _ rfl
      have rf8 : v3.frozen? ⟨w.heap.size + 1 + 1, 8, none⟩ = false := BZ.2.2 8
      have KEY := Lib.hid (fun (Wf : World) (y3 : Value) hb hoff => drop_key (Wf := Wf) (y3 := y3) (R := w.heap.size) H.out HQ2.out HQ3.out HLS.out HO.out (by omega) HH2.out HX2.out (by omega) HH3.out HX3.out rfl rfl hb hoff (Nat.le_refl _))
      clear BB BZ hx3 h3 c5' c6' f6'
      go_wp2_with fail
      refine bodyPost_ret (v := sysV { s with actors := ⟨u.a, s.actors.n, u.c⟩, alarms := ⟨x2.a, (σ.als.filter (fun f => !((Ml.here node (pnL ls) f.l.src).getD false))).length, x2.c⟩, flights := ⟨x3.a, (σ.fls.filter (fun f => !(decide (f.x = node) || decide (f.y = node)))).length, x3.c⟩ }) (by simp [results, Try.results42, go_sem, *]) rfl ⟨_, rfl, KEY.out _ _ (by repeat (first | (with_reducible exact Below.refl _ _) | (with_reducible assumption) | ((with_reducible refine Below.setCell ?_ ?_ _); rotate_left; (focus (first | omega | (simp; omega) | (simp; done)))) | ((with_reducible refine Below.alloc ?_ ?_ _); rotate_left; (focus (first | omega | (simp; omega) | (simp; done)))) | (with_reducible refine Below.drew ?_))) (by repeat (first | (with_reducible exact Off.refl _ _) | (with_reducible refine Off.set ?_ _ _) | (with_reducible refine Off.drew ?_))), (by repeat (first | (with_reducible exact Below.refl _ _) | (with_reducible assumption) | ((with_reducible refine Below.setCell ?_ ?_ _); rotate_left; (focus (first | omega | (simp; omega) | (simp; done)))) | ((with_reducible refine Below.alloc ?_ ?_ _); rotate_left; (focus (first | omega | (simp; omega) | (simp; done)))) | (with_reducible refine Below.drew ?_)))⟩
end Go.Proofs.Ytjdjfjokniingaa
