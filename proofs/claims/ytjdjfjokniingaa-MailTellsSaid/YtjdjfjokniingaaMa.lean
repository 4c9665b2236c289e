/- Paths among the actors: mail.Find, mail.reachable; slices.Clone, slices.Clip. -/
import Derived.Test.YtjdjfjokniingaaSy
import Derived.Test.YtjdjfjokniingaaAp2
import Derived.Test.YtjdjfjokniingaaSc
import Derived.ArgAppend
namespace Go.Proofs.Ytjdjfjokniingaa
open Go.RowKit

theorem bytes_inj {a b : ByteArray} (h : a.toList = b.toList) : a = b := by
  rw [ByteArray.toList_eq, ByteArray.toList_eq] at h
  exact ByteArray.ext (Array.toList_inj.1 h)
theorem str_yes {a b : ByteArray} (h : a = b) : (a.toList == b.toList) = true := by rw [h]; simp
theorem str_no {a b : ByteArray} (h : a ≠ b) : (a.toList == b.toList) = false := by
  cases h' : (a.toList == b.toList) with
  | false => rfl
  | true => exact absurd (bytes_inj (by simpa using h')) h

namespace Ml
def find (ps : List ByteArray) (p : ByteArray) : Option Nat := ps.findIdx? fun q => decide (q = p)
theorem find_some {ps : List ByteArray} {p : ByteArray} {k : Nat} (h1 : ps[k]? = some p) (h2 : ∀ (j : Nat) (q : ByteArray), j < k → ps[j]? = some q → q ≠ p) : find ps p = some k := by
  obtain ⟨hk, hp⟩ := List.getElem?_eq_some_iff.1 h1
  unfold find
  rw [List.findIdx?_eq_some_iff_getElem]
  refine ⟨hk, by simp [hp], fun j hj => ?_⟩
  have := h2 j ps[j] hj (List.getElem?_eq_getElem (by omega))
  simpa using this
theorem find_none {ps : List ByteArray} {p : ByteArray} (h : ∀ (j : Nat) (q : ByteArray), ps[j]? = some q → q ≠ p) : find ps p = none := by
  unfold find
  rw [List.findIdx?_eq_none_iff]
  intro q hq
  obtain ⟨j, hj⟩ := List.getElem?_of_mem hq
  simpa using h j q hj
theorem find_spec {ps : List ByteArray} {p : ByteArray} {k : Nat} (h : find ps p = some k) : ps[k]? = some p ∧ ∀ j q, j < k → ps[j]? = some q → q ≠ p := by
  unfold find at h
  rw [List.findIdx?_eq_some_iff_getElem] at h
  obtain ⟨hk, h1, h2⟩ := h
  refine ⟨by rw [List.getElem?_eq_getElem hk]; simpa using h1, fun j q hj hq => ?_⟩
  obtain ⟨hj', rfl⟩ := List.getElem?_eq_some_iff.1 hq
  simpa using h2 j hj
theorem find_spec_none {ps : List ByteArray} {p : ByteArray} (h : find ps p = none) : ∀ q ∈ ps, q ≠ p := by
  unfold find at h
  rw [List.findIdx?_eq_none_iff] at h
  intro q hq
  simpa using h q hq
end Ml

theorem ret_find {o : Option Nat} {k : Nat} (h : o = some k) : Ending.returned (.tuple #[.int .i64 (k : Int), .bool true]) = .returned (.tuple #[.int .i64 (o.getD 0 : Nat), .bool o.isSome]) := by rw [h]; rfl
theorem ret_find0 {o : Option Nat} (h : o = none) : Ending.returned (.tuple #[.int .i64 0, .bool false]) = .returned (.tuple #[.int .i64 (o.getD 0 : Nat), .bool o.isSome]) := by rw [h]; rfl
set_option maxRecDepth 100000 in
set_option maxHeartbeats 800000 in
theorem find_any (s : SysC) (ls : List LiveC) (p : ByteArray) (w : World) (hac : Rd w w.heap.size 9 s.actors.a s.actors.n (ls.flatMap liveL)) (hbn : s.actors.n ≤ 9223372036854775807) :
    Calls Try.prog 44 #[sysV s, .string p] w fun e w' => e = .returned (.tuple #[.int .i64 ((Ml.find (ls.map (·.path)) p).getD 0 : Nat), .bool (Ml.find (ls.map (·.path)) p).isSome]) ∧ Below w.heap.size w w' := by
  have HA := Lib.hid hac
  have HL := Lib.hid (hac.len (fun _ => rfl) (by omega))
  clear hac
  go_enter Try.func44, Try.ntmps44
  go_wp2
  go_loop [10] (fun i => ∃ k : Nat, k ≤ s.actors.n ∧ i = .int .i64 k ∧ Hid (∀ j q, j < k → (ls.map (·.path))[j]? = some q → q ≠ p)) (fun i => s.actors.n - (intOf i).toNat)
  case atStart => exact ⟨0, Nat.zero_le _, rfl, fun j a hj => absurd hj (by omega)⟩
  case round =>
    obtain ⟨k, hk, rfl, HJ⟩ := hrel
    by_cases hlt : k < s.actors.n
    · obtain ⟨b, off, a, hA, hb, hak, hc⟩ := HA.out.at_ (fun _ => rfl) (by omega) hlt
      have c0 : w.cell? ⟨b, off + k * 9, none⟩ = some (.string a.path) := hc 0 _ rfl
      have hix : ∀ W : World, Sem.run Try.prog (Instr.indexAt 23 (.slice s.actors.a s.actors.n s.actors.c) (.int .i64 (k : Int))) W = .ok (.pointer (some ⟨b, off + k * 9, none⟩)) W := by intro W; rw [hA]; go_simp
      have HAK := Lib.hid (show (ls.map (·.path))[k]? = some a.path by rw [List.getElem?_map, hak]; rfl)
      clear hA hak hc
      have n1 : ¬ b = w.heap.size := by omega
      by_cases hp : a.path = p
      · have te := str_yes hp
        have HF : Hid (Ml.find (ls.map (·.path)) p = some k) := Ml.find_some (by rw [HAK.out, hp]) HJ.out
        clear hp
        go_wp2_with fail
        go_ret2
        exact ⟨ret_find HF.out, (Below.refl _ _).alloc (Nat.le_refl _) _⟩
      · have te := str_no hp
        have HN := Lib.hid (show ∀ j q, j < k + 1 → (ls.map (·.path))[j]? = some q → q ≠ p from fun j q hj hq => by
          by_cases h : j < k
          · exact HJ.out j q h hq
          · have : j = k := by omega
            subst this
            rw [HAK.out] at hq
            injection hq with hq
            rw [← hq]; exact hp)
        clear hp
        go_wp2_with fail
        go_round
        case rel => exact ⟨k + 1, by omega, by go_num, HN⟩
        case measure => simp [intOf]; omega
    · have HF : Hid (Ml.find (ls.map (·.path)) p = none) := Ml.find_none fun j q hq => HJ.out j q (by have h1 := (List.getElem?_eq_some_iff.1 hq).1; have h2 := HL.out; simp at h1; omega) hq
      go_wp2_with fail
      go_ret2
      exact ⟨ret_find0 HF.out, (Below.refl _ _).alloc (Nat.le_refl _) _⟩

namespace Ml
def up (ups : List Bool) (n : Int) : Bool := decide (0 ≤ n) && decide (n < (ups.length : Int)) && ups.getD n.toNat false
def okA (ups : List Bool) (a : LiveC) : Bool := !a.stopped && up ups a.node
/-- the index of the actor at a path, if it is reachable -/
def reach (ups : List Bool) (ls : List LiveC) (p : ByteArray) : Option Nat := (find (ls.map (·.path)) p).filter fun i => (ls[i]?).any (okA ups)
end Ml
def ReachPost (o : Option Nat) (w : World) (e : Ending) (w' : World) : Prop := ∃ i : Nat, e = .returned (.tuple #[.int .i64 (i : Int), .bool o.isSome]) ∧ (∀ k, o = some k → i = k) ∧ Below w.heap.size w w'
theorem reachPost_no {o : Option Nat} {w w' : World} (i : Nat) (h : o = none) (hb : Below w.heap.size w w') : ReachPost o w (.returned (.tuple #[.int .i64 (i : Int), .bool false])) w' := ⟨i, by rw [h]; rfl, (by rw [h]; intro k hk; cases hk), hb⟩
theorem reachPost_yes {o : Option Nat} {w w' : World} (i : Nat) (h : o = some i) (hb : Below w.heap.size w w') : ReachPost o w (.returned (.tuple #[.int .i64 (i : Int), .bool true])) w' := ⟨i, by rw [h]; rfl, (by rw [h]; intro k hk; injection hk), hb⟩

set_option maxRecDepth 100000 in
set_option maxHeartbeats 1600000 in
theorem reach_any (s : SysC) (ls : List LiveC) (ups : List Bool) (p : ByteArray) (w : World) (hup : Rd w w.heap.size 1 s.up.a s.up.n (ups.map .bool)) (hac : Rd w w.heap.size 9 s.actors.a s.actors.n (ls.flatMap liveL)) (hbn : s.actors.n ≤ 9223372036854775807) (hbu : s.up.n ≤ 9223372036854775807) :
    Calls Try.prog 74 #[sysV s, .string p] w (ReachPost (Ml.reach ups ls p) w) := by
  have C := Lib.hid (fun (W : World) (hW : Below w.heap.size w W) => find_any s ls p W ((hac.below hW (Nat.le_refl _)).more hW.size) hbn)
  have HA := Lib.hid hac
  have HU := Lib.hid hup
  have HL := Lib.hid (hac.len (fun _ => rfl) (by omega))
  have HLU := Lib.hid (show ups.length = s.up.n by have := hup.1; simpa using this)
  clear hac hup
  cases hf : Ml.find (ls.map (·.path)) p with
  | none =>
    have HR : Hid (Ml.reach ups ls p = none) := Lib.hid (by unfold Ml.reach; rw [hf]; rfl)
    rw [hf] at C
    clear hf
    go_enter Try.func74, Try.ntmps74
    go_wp2_with fail
    refine (C.out _ ((Below.refl _ _).alloc (Nat.le_refl _) _)).mono ?_
    rintro e v1 ⟨rfl, h1⟩
    have z1 := h1.size
    simp at z1
    have HB := Lib.hid (Below.call (w := w) ((Below.refl _ _).alloc (Nat.le_refl _) _) h1)
    clear h1
    go_wp2_with fail
    go_ret2
    exact reachPost_no 0 HR.out HB.out
  | some i =>
    obtain ⟨hp, _⟩ := Ml.find_spec hf
    have hi : i < s.actors.n := by
      have h1 := (List.getElem?_eq_some_iff.1 hp).1
      have h2 := HL.out
      simp at h1; omega
    obtain ⟨b, off, a, hA, hb, hak, hc⟩ := HA.out.at_ (fun _ => rfl) (by omega) hi
    have HR : Hid (Ml.reach ups ls p = if Ml.okA ups a then some i else none) := Lib.hid (by unfold Ml.reach; rw [hf]; simp [Option.filter, hak])
    rw [hf] at C
    have c2 : w.cell? ⟨b, off + i * 9 + 2, none⟩ = some (.int .i64 a.node) := hc 2 _ rfl
    have c7 : w.cell? ⟨b, off + i * 9 + 7, none⟩ = some (.bool a.stopped) := hc 7 _ rfl
    have hix : ∀ W : World, Sem.run Try.prog (Instr.indexAt 23 (.slice s.actors.a s.actors.n s.actors.c) (.int .i64 (i : Int))) W = .ok (.pointer (some ⟨b, off + i * 9, none⟩)) W := by intro W; rw [hA]; go_simp
    clear hA hak hc hp hf
    go_enter Try.func74, Try.ntmps74
    go_wp2_with fail
    refine (C.out _ ((Below.refl _ _).alloc (Nat.le_refl _) _)).mono ?_
    rintro e v1 ⟨rfl, h1⟩
    have z1 := h1.size
    simp at z1
    have HB := Lib.hid (Below.call (w := w) ((Below.refl _ _).alloc (Nat.le_refl _) _) h1)
    obtain ⟨g0, kc, kf⟩ := keepB h1 w.heap.size (by simp)
    have q0 : v1.cell? ⟨w.heap.size, 0, none⟩ = some (.slice s.up.a s.up.n s.up.c) := (kc 0).trans (by simp [go_sem])
    have q4 : v1.cell? ⟨w.heap.size, 4, none⟩ = some (.slice s.actors.a s.actors.n s.actors.c) := (kc 4).trans (by simp [go_sem])
    clear kc kf
    have d2 : v1.cell? ⟨b, off + i * 9 + 2, none⟩ = some (.int .i64 a.node) := (HB.out.cell (p := ⟨b, off + i * 9 + 2, none⟩) hb).trans c2
    have d7 : v1.cell? ⟨b, off + i * 9 + 7, none⟩ = some (.bool a.stopped) := (HB.out.cell (p := ⟨b, off + i * 9 + 7, none⟩) hb).trans c7
    clear h1 c2 c7
    cases k1 : a.stopped with
    | true =>
      have HN : Hid (Ml.reach ups ls p = none) := Lib.hid (by rw [HR.out]; simp [Ml.okA, k1])
      rw [k1] at d7
      clear k1
      go_wp2_with fail
      go_ret2
      exact reachPost_no 0 HN.out HB.out
    | false =>
    rw [k1] at d7
    cases k2 : decide (0 ≤ a.node) with
    | false =>
      have HN : Hid (Ml.reach ups ls p = none) := Lib.hid (by rw [HR.out]; simp only [Ml.okA, Ml.up, k1, k2]; simp)
      clear k1
      go_wp2_with fail
      go_quiet (fail)
      go_wp2_with fail
      go_ret2
      exact reachPost_no i HN.out (below_drewN HB.out _)
    | true =>
    cases k3 : decide (a.node < (s.up.n : Int)) with
    | false =>
      have HN : Hid (Ml.reach ups ls p = none) := Lib.hid (by rw [HR.out]; simp only [Ml.okA, Ml.up, k1, k2, HLU.out, k3]; simp)
      clear k1
      go_wp2_with fail
      go_quiet (fail)
      go_wp2_with fail
      go_ret2
      exact reachPost_no i HN.out (below_drewN HB.out _)
    | true =>
    obtain ⟨nd, hnd⟩ : ∃ nd : Nat, a.node = (nd : Int) := ⟨a.node.toNat, by simp at k2; omega⟩
    have hnl : nd < s.up.n := by simp [hnd] at k3; omega
    obtain ⟨b2, o2, hA2, hb2, hc2⟩ := HU.out.2 (by omega)
    obtain ⟨u, hu⟩ : ∃ u, ups[nd]? = some u := ⟨ups[nd]'(by rw [HLU.out]; exact hnl), List.getElem?_eq_getElem _⟩
    have x0 : v1.cell? ⟨b2, o2 + nd, none⟩ = some (.bool u) := (HB.out.cell (p := ⟨b2, o2 + nd, none⟩) hb2).trans (hc2 nd _ (by simp [hu]))
    have hix2 : ∀ W : World, Sem.run Try.prog (Instr.indexAt 22 (.slice s.up.a s.up.n s.up.c) (.int .i64 (nd : Int))) W = .ok (.pointer (some ⟨b2, o2 + nd, none⟩)) W := by intro W; rw [hA2]; go_simp
    have HN : Hid (Ml.reach ups ls p = if u then some i else none) := Lib.hid (by rw [HR.out]; simp only [Ml.okA, Ml.up, k1, k2, HLU.out, k3]; simp [hnd, hu])
    rw [hnd] at d2 k2 k3
    clear k1 hA2 hc2 hu hnd
    cases u with
    | false =>
      go_wp2_with fail
      go_quiet (fail)
      go_wp2_with fail
      go_ret2
      exact reachPost_no i HN.out (below_drewN HB.out _)
    | true =>
      go_wp2_with fail
      go_quiet (fail)
      go_wp2_with fail
      go_ret2
      exact reachPost_yes i HN.out (below_drewN HB.out _)

/-- a row in new memory is handed back -/
def OwnPost (T k n : Nat) (xs : List Value) (w : World) (e : Ending) (w' : World) : Prop := ∃ u : Sl, e = .returned (.slice u.a n u.c) ∧ w'.ownsRow w.heap.size T k (.slice u.a n u.c) n xs ∧ Below w.heap.size w w'
theorem live_one (ls : List LiveC) : ∀ u ∈ ls.flatMap liveL, u.oneCell' = true := by
  intro u hu
  obtain ⟨a, _, h⟩ := List.mem_flatMap.1 hu
  simp at h
  rcases h with rfl | rfl | rfl | rfl | rfl | rfl | rfl | rfl | rfl <;> rfl
theorem fly_one (ls : List FlyC) : ∀ u ∈ ls.flatMap flyL, u.oneCell' = true := by
  intro u hu
  obtain ⟨a, _, h⟩ := List.mem_flatMap.1 hu
  simp at h
  rcases h with rfl | rfl | rfl | rfl | rfl | rfl | rfl <;> rfl
theorem let_one (ls : List LetC) : ∀ u ∈ ls.flatMap letL, u.oneCell' = true := by
  intro u hu
  obtain ⟨a, _, h⟩ := List.mem_flatMap.1 hu
  simp at h
  rcases h with rfl | rfl | rfl | rfl <;> rfl
theorem info76 : (Try.prog.info? 76).map (fun i => (i.zero, i.size, i.bytes)) = some (some (.agg #[.string ⟨#[]⟩, .string ⟨#[]⟩, .int .i64 0, .slice none 0 0, .slice none 0 0, .int .i64 0, .int .i64 0, .bool false, .slice none 0 0]), 9, 136) := by kernel_rfl
theorem info66 : (Try.prog.info? 66).map (fun i => (i.zero, i.size, i.bytes)) = some (some (.agg #[.int .i64 0, .int .i64 0, .string ⟨#[]⟩, .string ⟨#[]⟩, .string ⟨#[]⟩, .slice none 0 0, .int .i64 0]), 7, 96) := by kernel_rfl
theorem info47 : (Try.prog.info? 47).map (fun i => (i.zero, i.size, i.bytes)) = some (some (.agg #[.int .i64 0, .int .i64 0, .string ⟨#[]⟩, .string ⟨#[]⟩, .string ⟨#[]⟩, .slice none 0 0, .int .i64 0]), 7, 96) := by kernel_rfl
theorem info34 : (Try.prog.info? 34).map (fun i => (i.zero, i.size, i.bytes)) = some (some (.agg #[.string ⟨#[]⟩, .string ⟨#[]⟩, .slice none 0 0, .int .i64 0]), 4, 64) := by kernel_rfl

set_option maxRecDepth 100000 in
set_option maxHeartbeats 800000 in
theorem clone75 (ls : List LiveC) (A : Option Addr) (n c : Nat) (w : World) (h : Rd w w.heap.size 9 A n (ls.flatMap liveL)) (hn : n ≤ 1000000) :
    Calls Try.prog 75 #[.slice A n c] w (OwnPost 76 9 n (ls.flatMap liveL) w) := by
  cases A with
  | none =>
    have hn0 : n = 0 := by
      rcases Nat.eq_zero_or_pos n with h0 | h0
      · exact h0
      · obtain ⟨b, off, h, _⟩ := h.2 h0; cases h
    subst hn0
    have HX : Hid (ls.flatMap liveL = []) := Lib.hid (List.eq_nil_of_length_eq_zero (by simpa using h.1))
    clear h
    have hq : ∀ W, Sem.run Try.prog (binOp BinOp.eql 23 (.slice none 0 c) (.slice none 0 0)) W = .ok (.bool true) W := fun W => Lib.run_eql_slice_nil (P := Try.prog) W 23 76 none 0 c 0 0 Try.underlying23
    go_enter Try.func75, Try.ntmps75
    go_wp2
    go_ret
    refine ⟨⟨none, 0, 0⟩, rfl, ?_, Below.refl _ _⟩
    rw [HX.out]
    exact World.ownsRow_nil _ _ _ _
  | some ad =>
    have H := Lib.hid h
    clear h
    obtain ⟨i7, hi7, hz70, hz71, hz72⟩ := info_parts info76
    have hq : ∀ W, Sem.run Try.prog (binOp BinOp.eql 23 (.slice (some ad) n c) (.slice none 0 0)) W = .ok (.bool false) W := fun W => Lib.run_eql_slice_nil (P := Try.prog) W 23 76 (some ad) n c 0 0 Try.underlying23
    go_enter Try.func75, Try.ntmps75
    go_wp2_with (at_builtin; refine wpList_append_lit _ 76 rfl (.tmp 5) (.tmp 6) 23 rfl i7 _ 9 136 Try.underlying23 hi7 hz70 hz71 hz72 rfl (by decide) _ rfl (by simp) _ _ _ _ (ls.flatMap liveL) rfl H.out (Nat.le_refl _) (live_one ls) (by omega) (by omega) ?_; intro u1 v1 hr1 ho1 h1; have HO := Lib.hid ho1; have HB := Lib.hid h1; clear hr1 ho1 h1)
    go_ret
    exact ⟨u1, rfl, HO.out, HB.out⟩
set_option maxHeartbeats 800000 in
theorem clip76 (A : Option Addr) (n c : Nat) (w : World) (hc : n ≤ c) :
    Calls Try.prog 76 #[.slice A n c] w fun e w' => e = .returned (.slice A n n) ∧ w = w' := by
  go_enter Try.func76, Try.ntmps76
  go_wp2
  go_ret
  exact ⟨rfl, rfl⟩
end Go.Proofs.Ytjdjfjokniingaa
