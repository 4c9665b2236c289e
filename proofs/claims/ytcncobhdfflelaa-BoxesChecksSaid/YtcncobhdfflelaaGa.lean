/- The contract of the statements' own 'plain'. -/
import Derived.Test.YtcncobhdfflelaaFb
namespace Go.Proofs.Ytcncobhdfflelaa
open Go.RowKit

abbrev LnM := LnC × List Int
/-- a row of linear conditions that can be read -/
structure LnsRd (w : World) (u : Sl) (qs : List LnM) : Prop where
  rd : Rd w w.heap.size 2 u.a u.n ((qs.map (·.1)).flatMap lnL)
  el : ∀ q ∈ qs, Rd w w.heap.size 1 q.1.cf.a q.1.cf.n (ints q.2)
theorem LnsRd.up {w W : World} {u : Sl} {qs : List LnM} (h : LnsRd w u qs) (hb : Below w.heap.size w W) : LnsRd W u qs := ⟨h.rd.up hb, fun q hq => (h.el q hq).up hb⟩
theorem LnsRd.len {w : World} {u : Sl} {qs : List LnM} (h : LnsRd w u qs) : qs.length = u.n := by have := h.rd.len (fun _ => rfl) (by omega); simpa using this
def lnP (q : LnM) : List Int × Int := (q.2, q.1.bd)
theorem line_at {w : World} {u : Sl} {qs : List LnM} (h : LnsRd w u qs) {i : Nat} (hi : i < u.n) :
    ∃ (b off : Nat) (q : LnM), qs[i]? = some q ∧ b < w.heap.size ∧ (∀ W, Sem.run Try.prog (Instr.indexAt 23 (.slice u.a u.n u.c) (.int .i64 (i : Int))) W = .ok (.pointer (some ⟨b, off, none⟩)) W) ∧ w.cell? ⟨b, off, none⟩ = some (.slice q.1.cf.a q.1.cf.n q.1.cf.c) ∧ w.cell? ⟨b, off + 1, none⟩ = some (.int .i64 q.1.bd) := by
  obtain ⟨b, off, e, hA, hb, hek, hc⟩ := h.rd.at_ (fun _ => rfl) (by omega) hi
  have hl := h.len
  have hkl : i < qs.length := by omega
  obtain ⟨q, hq⟩ : ∃ q, qs[i]? = some q := ⟨_, List.getElem?_eq_getElem hkl⟩
  have eq1 : q.1 = e := by rw [List.getElem?_map, hq] at hek; simpa using hek
  subst eq1
  refine ⟨b, off + i * 2, q, hq, hb, fun W => ?_, hc 0 _ rfl, hc 1 _ rfl⟩
  rw [hA]
  go_simp
namespace Bx
def okB (k : Int) (l : List Int) : Bool := l.all fun x => !(decide (x < -k)) && !(decide (k < x))
def okL (c : List Int × Int) : Bool := decide (c.1.length ≤ 6) && okB 1000 c.1
/-- what the statements ask of their arguments -/
def plainB (lo hi : List Int) (cs : List (List Int × Int)) : Bool := decide (lo.length ≤ 4) && decide (hi.length ≤ 4) && decide (cs.length ≤ 4) && okB 1000000 lo && okB 1000000 hi && cs.all okL
theorem okB_at {k : Int} {l : List Int} {i : Nat} {x : Int} (h : l[i]? = some x) : okB k (l.drop i) = (!(decide (x < -k)) && !(decide (k < x)) && okB k (l.drop (i + 1))) := by
  obtain ⟨h1, rfl⟩ := List.getElem?_eq_some_iff.1 h
  rw [List.drop_eq_getElem_cons h1, okB, List.all_cons]
  rfl
theorem okB_end {k : Int} {l : List Int} {i : Nat} (h : l.length ≤ i) : okB k (l.drop i) = true := by rw [List.drop_eq_nil_of_le h]; rfl
theorem okB_in {k : Int} {l : List Int} (h : okB k l = true) : ∀ x ∈ l, -k ≤ x ∧ x ≤ k := fun x hx => by
  unfold okB at h
  rw [List.all_eq_true] at h
  have := h x hx
  simp only [Bool.and_eq_true, Bool.not_eq_true', decide_eq_false_iff_not] at this
  omega
theorem plainB_spec {lo hi : List Int} {cs : List (List Int × Int)} (h : plainB lo hi cs = true) : lo.length ≤ 4 ∧ hi.length ≤ 4 ∧ cs.length ≤ 4 ∧ Dom lo ∧ Dom hi ∧ ∀ c ∈ cs, c.1.length ≤ 6 ∧ Cof c.1 := by
  unfold plainB at h
  simp only [Bool.and_eq_true, decide_eq_true_eq, List.all_eq_true] at h
  obtain ⟨⟨⟨⟨⟨h1, h2⟩, h3⟩, h4⟩, h5⟩, h6⟩ := h
  refine ⟨h1, h2, h3, okB_in h4, okB_in h5, fun c hc => ?_⟩
  have := h6 c hc
  unfold okL at this
  simp only [Bool.and_eq_true, decide_eq_true_eq] at this
  exact ⟨this.1, okB_in this.2⟩
end Bx

set_option linter.unusedSimpArgs false in
set_option linter.unusedVariables false in
set_option maxRecDepth 100000 in
set_option maxHeartbeats 6400000 in
theorem plain10 (A D : Option Addr) (n m c d : Nat) (lo hi : List Int) (u : Sl) (qs : List LnM) (w : World) (hx : Rd w w.heap.size 1 A n (ints lo)) (hy : Rd w w.heap.size 1 D m (ints hi)) (hu : LnsRd w u qs) :
    Calls Try.prog 10 #[.slice A n c, .slice D m d, .slice u.a u.n u.c] w fun e w' => e = .returned (.bool (Bx.plainB lo hi (qs.map lnP))) ∧ Below w.heap.size w w' := by
  have HX := Lib.hid hx
  have HY := Lib.hid hy
  have HU := Lib.hid hu
  have HL := Lib.hid (show lo.length = n by simpa using hx.1)
  have HM := Lib.hid (show hi.length = m by simpa using hy.1)
  have HQ := Lib.hid hu.len
  clear hx hy hu
  by_cases g1 : n ≤ 4
  · by_cases g2 : m ≤ 4
    · by_cases g3 : u.n ≤ 4
      · have HP : Hid (Bx.plainB lo hi (qs.map lnP) = (Bx.okB 1000000 lo && Bx.okB 1000000 hi && (qs.map lnP).all Bx.okL)) := Lib.hid (by unfold Bx.plainB; rw [HL.out, HM.out, List.length_map, HQ.out]; simp [g1, g2, g3])
        have t1 : decide ((4 : Int) < (n : Int)) = false := by simp; omega
        have t2 : decide ((4 : Int) < (m : Int)) = false := by simp; omega
        have t3 : decide ((4 : Int) < (u.n : Int)) = false := by simp; omega
        go_enter Try.func10, Try.ntmps10
        go_wp2_with fail
        go_loop [7] (fun i => ∃ k : Nat, k ≤ n ∧ i = .int .i64 k ∧ Hid (Bx.okB 1000000 (lo.drop k) = Bx.okB 1000000 lo)) (fun i => n - (intOf i).toNat)
        case atStart => exact ⟨0, Nat.zero_le _, rfl, Lib.hid rfl⟩
        case round =>
          obtain ⟨k, hk, rfl, HK⟩ := hrel
          by_cases hlt : k < n
          · obtain ⟨b1, o1, x, e1, ix1, c1, _, _⟩ := rd_int HX.out c hlt
            have HS := Lib.hid (Bx.okB_at (k := 1000000) e1)
            clear e1
            by_cases q1 : x < -1000000
            · have HF : Hid (Bx.plainB lo hi (qs.map lnP) = false) := Lib.hid (by rw [HP.out, ← HK.out, HS.out]; simp [q1])
              go_wp2_with fail
              go_ret
              exact ⟨ret_bool HF.out.symm, Below.refl _ _⟩
            · have t5 : decide (x < -1000000) = false := by simpa using q1
              by_cases q2 : 1000000 < x
              · have HF : Hid (Bx.plainB lo hi (qs.map lnP) = false) := Lib.hid (by rw [HP.out, ← HK.out, HS.out]; simp [q2])
                go_wp2_with fail
                go_ret
                exact ⟨ret_bool HF.out.symm, Below.refl _ _⟩
              · have t6 : decide (1000000 < x) = false := by simpa using q2
                have HF : Hid (Bx.okB 1000000 (lo.drop (k + 1)) = Bx.okB 1000000 lo) := Lib.hid (by rw [← HK.out, HS.out]; simp only [t5, t6]; rfl)
                go_wp2_with fail
                go_round
                case rel => exact ⟨k + 1, by omega, by go_num, HF⟩
                case measure => simp [intOf]; omega
          · have HO : Hid (Bx.okB 1000000 lo = true) := Lib.hid (by rw [← HK.out, Bx.okB_end (by rw [HL.out]; omega)])
            go_wp2_with fail
            clear hlt hk HK
            go_loop [8] (fun i => ∃ k : Nat, k ≤ m ∧ i = .int .i64 k ∧ Hid (Bx.okB 1000000 (hi.drop k) = Bx.okB 1000000 hi)) (fun i => m - (intOf i).toNat)
            case atStart => exact ⟨0, Nat.zero_le _, rfl, Lib.hid rfl⟩
            case round =>
              obtain ⟨k, hk, rfl, HK⟩ := hrel
              by_cases hlt : k < m
              · obtain ⟨b1, o1, x, e1, ix1, c1, _, _⟩ := rd_int HY.out d hlt
                have HS := Lib.hid (Bx.okB_at (k := 1000000) e1)
                clear e1
                by_cases q1 : x < -1000000
                · have HF : Hid (Bx.plainB lo hi (qs.map lnP) = false) := Lib.hid (by rw [HP.out, ← HK.out, HS.out]; simp [q1])
                  go_wp2_with fail
                  go_ret
                  exact ⟨ret_bool HF.out.symm, Below.refl _ _⟩
                · have t5 : decide (x < -1000000) = false := by simpa using q1
                  by_cases q2 : 1000000 < x
                  · have HF : Hid (Bx.plainB lo hi (qs.map lnP) = false) := Lib.hid (by rw [HP.out, ← HK.out, HS.out]; simp [q2])
                    go_wp2_with fail
                    go_ret
                    exact ⟨ret_bool HF.out.symm, Below.refl _ _⟩
                  · have t6 : decide (1000000 < x) = false := by simpa using q2
                    have HF : Hid (Bx.okB 1000000 (hi.drop (k + 1)) = Bx.okB 1000000 hi) := Lib.hid (by rw [← HK.out, HS.out]; simp only [t5, t6]; rfl)
                    go_wp2_with fail
                    go_round
                    case rel => exact ⟨k + 1, by omega, by go_num, HF⟩
                    case measure => simp [intOf]; omega
              · have HO2 : Hid (Bx.plainB lo hi (qs.map lnP) = (qs.map lnP).all Bx.okL) := Lib.hid (by rw [HP.out, HO.out, ← HK.out, Bx.okB_end (by rw [HM.out]; omega)]; rfl)
                go_wp2_with fail
                clear hlt hk HK HO
                go_loop [9] (fun i => ∃ k : Nat, k ≤ u.n ∧ i = .int .i64 k ∧ Hid (((qs.map lnP).drop k).all Bx.okL = (qs.map lnP).all Bx.okL)) (fun i => u.n - (intOf i).toNat)
                case atStart => exact ⟨0, Nat.zero_le _, rfl, Lib.hid rfl⟩
                case round =>
                  obtain ⟨k, hk, rfl, HK⟩ := hrel
                  by_cases hlt : k < u.n
                  · obtain ⟨b1, o1, q, hqi, hb1, ix1, c1, c2⟩ := line_at HU.out hlt
                    have QE := Lib.hid (HU.out.el q (List.mem_of_getElem? hqi))
                    have hdk : (qs.map lnP).drop k = lnP q :: (qs.map lnP).drop (k + 1) := by
                      have h1 : (qs.map lnP)[k]? = some (lnP q) := by rw [List.getElem?_map, hqi]; rfl
                      obtain ⟨h2, h3⟩ := List.getElem?_eq_some_iff.1 h1
                      rw [List.drop_eq_getElem_cons h2, h3]
                    have HZ : Hid ((qs.map lnP).all Bx.okL = (Bx.okL (lnP q) && ((qs.map lnP).drop (k + 1)).all Bx.okL)) := Lib.hid (by rw [← HK.out, hdk, List.all_cons])
                    have HLQ := Lib.hid (show q.2.length = q.1.cf.n by have := QE.out.1; rw [List.length_map] at this; omega)
                    clear hqi hdk
                    by_cases g6 : q.1.cf.n ≤ 6
                    · have t7 : decide ((6 : Int) < (q.1.cf.n : Int)) = false := by simp; omega
                      have HLQ2 : Hid (Bx.okL (lnP q) = Bx.okB 1000 q.2) := Lib.hid (by unfold Bx.okL lnP; rw [HLQ.out]; simp [g6])
                      go_wp2_with fail
                      go_loop [10] (fun i => ∃ j : Nat, j ≤ q.1.cf.n ∧ i = .int .i64 j ∧ Hid (Bx.okB 1000 (q.2.drop j) = Bx.okB 1000 q.2)) (fun i => q.1.cf.n - (intOf i).toNat)
                      case atStart => exact ⟨0, Nat.zero_le _, rfl, Lib.hid rfl⟩
                      case round =>
                        obtain ⟨j, hj, rfl, HJ⟩ := hrel
                        by_cases hlj : j < q.1.cf.n
                        · obtain ⟨b2, o2, x, e1, ix2, c3, _, _⟩ := rd_int QE.out q.1.cf.c hlj
                          have HS := Lib.hid (Bx.okB_at (k := 1000) e1)
                          clear e1
                          by_cases q1 : x < -1000
                          · have HF : Hid (Bx.plainB lo hi (qs.map lnP) = false) := Lib.hid (by rw [HO2.out, HZ.out, HLQ2.out, ← HJ.out, HS.out]; simp [q1])
                            go_wp2_with fail
                            go_ret
                            exact ⟨ret_bool HF.out.symm, Below.refl _ _⟩
                          · have t5 : decide (x < -1000) = false := by simpa using q1
                            by_cases q2 : 1000 < x
                            · have HF : Hid (Bx.plainB lo hi (qs.map lnP) = false) := Lib.hid (by rw [HO2.out, HZ.out, HLQ2.out, ← HJ.out, HS.out]; simp [q2])
                              go_wp2_with fail
                              go_ret
                              exact ⟨ret_bool HF.out.symm, Below.refl _ _⟩
                            · have t6 : decide (1000 < x) = false := by simpa using q2
                              have HF : Hid (Bx.okB 1000 (q.2.drop (j + 1)) = Bx.okB 1000 q.2) := Lib.hid (by rw [← HJ.out, HS.out]; simp only [t5, t6]; rfl)
                              go_wp2_with fail
                              go_round
                              case rel => exact ⟨j + 1, by omega, by go_num, HF⟩
                              case measure => simp [intOf]; omega
                        · have HF : Hid (((qs.map lnP).drop (k + 1)).all Bx.okL = (qs.map lnP).all Bx.okL) := Lib.hid (by rw [HZ.out, HLQ2.out, ← HJ.out, Bx.okB_end (by rw [HLQ.out]; omega)]; rfl)
                          go_wp2_with fail
                          go_round
                          case rel => exact ⟨k + 1, by omega, by go_num, HF⟩
                          case measure => simp [intOf]; omega
                    · have t7 : decide ((6 : Int) < (q.1.cf.n : Int)) = true := by simp; omega
                      have HF : Hid (Bx.plainB lo hi (qs.map lnP) = false) := Lib.hid (by rw [HO2.out, HZ.out]; unfold Bx.okL lnP; rw [HLQ.out]; simp [g6])
                      go_wp2_with fail
                      go_ret
                      exact ⟨ret_bool HF.out.symm, Below.refl _ _⟩
                  · have HF : Hid (Bx.plainB lo hi (qs.map lnP) = true) := Lib.hid (by rw [HO2.out, ← HK.out, List.drop_eq_nil_of_le (by rw [List.length_map, HQ.out]; omega)]; rfl)
                    go_wp2_with fail
                    go_ret
                    exact ⟨ret_bool HF.out.symm, Below.refl _ _⟩
      · have HF : Hid (Bx.plainB lo hi (qs.map lnP) = false) := Lib.hid (by unfold Bx.plainB; rw [HL.out, HM.out, List.length_map, HQ.out]; simp [g3])
        have t1 : decide ((4 : Int) < (n : Int)) = false := by simp; omega
        have t2 : decide ((4 : Int) < (m : Int)) = false := by simp; omega
        have t3 : decide ((4 : Int) < (u.n : Int)) = true := by simp; omega
        go_enter Try.func10, Try.ntmps10
        go_wp2_with fail
        go_ret
        exact ⟨ret_bool HF.out.symm, Below.refl _ _⟩
    · have HF : Hid (Bx.plainB lo hi (qs.map lnP) = false) := Lib.hid (by unfold Bx.plainB; rw [HL.out, HM.out]; simp [g2])
      have t1 : decide ((4 : Int) < (n : Int)) = false := by simp; omega
      have t2 : decide ((4 : Int) < (m : Int)) = true := by simp; omega
      go_enter Try.func10, Try.ntmps10
      go_wp2_with fail
      go_ret
      exact ⟨ret_bool HF.out.symm, Below.refl _ _⟩
  · have HF : Hid (Bx.plainB lo hi (qs.map lnP) = false) := Lib.hid (by unfold Bx.plainB; rw [HL.out]; simp [g1])
    have t1 : decide ((4 : Int) < (n : Int)) = true := by simp; omega
    go_enter Try.func10, Try.ntmps10
    go_wp2_with fail
    go_ret
    exact ⟨ret_bool HF.out.symm, Below.refl _ _⟩
end Go.Proofs.Ytcncobhdfflelaa
