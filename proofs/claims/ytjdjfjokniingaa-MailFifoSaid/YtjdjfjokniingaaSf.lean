/- The contract of sched.Choose. -/
import Derived.Test.YtjdjfjokniingaaSe
namespace Go.Proofs.Ytjdjfjokniingaa
open Go.RowKit

namespace Sy
/-- the action with the number n modulo the number of actions -/
def choose (l : List ActnC) (n : Int) : ActnC := l.getD (n % (l.length : Int)).toNat ⟨⟨#[]⟩, 0, 0⟩
theorem enabled_len (ups : List Bool) (ls : List LiveC) (cs : List (Int × Int)) : (enabled ups ls cs).length ≤ ls.length + cs.length := by
  simp only [enabled, List.length_append, List.length_map, srt, List.length_mergeSort]
  have := readies_len ups ls
  have := dd_len cs
  omega
/-- the index that Go's text reckons -/
theorem choose_idx (l : List ActnC) (n : Int) (h : 0 < l.length) : ∃ i : Nat, i < l.length ∧ ((0 ≤ n.tmod l.length ∧ n.tmod l.length = i) ∨ (n.tmod l.length < 0 ∧ n.tmod l.length + l.length = i)) ∧ ∃ a, l[i]? = some a ∧ choose l n = a := by
  have hl : (0 : Int) < l.length := by omega
  have h1 := Int.emod_nonneg n (show (l.length : Int) ≠ 0 by omega)
  have h2 := Int.emod_lt_of_pos n hl
  refine ⟨(n % (l.length : Int)).toNat, by omega, ?_, l[(n % (l.length : Int)).toNat]'(by omega), List.getElem?_eq_getElem (by omega), ?_⟩
  · rw [Int.tmod_eq_emod]
    by_cases hc : 0 ≤ n ∨ (l.length : Int) ∣ n
    · rw [if_pos hc]; left; omega
    · rw [if_neg hc]; right; omega
  · simp [choose, List.getD, List.getElem?_eq_getElem (show (n % (l.length : Int)).toNat < l.length by omega)]
end Sy

set_option maxHeartbeats 1600000 in
theorem choose_any (s : SysC) (ls : List LiveC) (fls : List FlyC) (ups : List Bool) (n : Int) (w : World) (hup : Rd w w.heap.size 1 s.up.a s.up.n (ups.map .bool)) (hac : Rd w w.heap.size 9 s.actors.a s.actors.n (ls.flatMap liveL)) (hfl : Rd w w.heap.size 7 s.flights.a s.flights.n (fls.flatMap flyL))
    (hba : s.actors.n * 128 ≤ 140737488351232) (hbf : s.flights.n * 64 ≤ 140737488351232) (hwf : ∀ f ∈ fls, (Lit.int .i64 f.x).wf = true ∧ (Lit.int .i64 f.y).wf = true) (hn1 : -9223372036854775808 ≤ n) (hn2 : n ≤ 9223372036854775807) :
    Calls Try.prog 50 #[sysV s, .int .i64 n] w fun e w' => e = .returned (.tuple #[.agg (actnL (Sy.choose (Sy.enabled ups ls (fls.map chOf)) n)).toArray, .bool (!(Sy.enabled ups ls (fls.map chOf)).isEmpty)]) ∧ Below w.heap.size w w' := by
  have _u := And.intro hn1 hn2
  clear _u
  have hcon := fun (W : World) (hW : Below w.heap.size w W) => enabled_any s ls fls ups W ((hup.below hW (Nat.le_refl _)).more hW.size) ((hac.below hW (Nat.le_refl _)).more hW.size) ((hfl.below hW (Nat.le_refl _)).more hW.size) hba hbf hwf
  have hel := Sy.enabled_len ups ls (fls.map chOf)
  have hl1 := hac.len (fun _ => rfl) (by omega)
  have hl2 := hfl.len (fun _ => rfl) (by omega)
  generalize Sy.enabled ups ls (fls.map chOf) = L at hcon hel ⊢
  have hL : L.length ≤ 281474976710656 := by simp at hel; omega
  have HC := Lib.hid hcon
  clear hcon hup hac hfl hwf hel hl1 hl2
  cases hemp : L with
  | nil =>
    subst hemp
    go_enter Try.func50, Try.ntmps50
    go_wp2_with fail
    refine (HC.out _ (((Below.refl _ _).alloc (Nat.le_refl _) _).alloc (by simp) _)).mono ?_
    rintro e w1 ⟨v, rfl, hv, h1⟩
    have hvn : v.n = 0 := by have := hv.1; simp at this; omega
    obtain ⟨va, vn, vc⟩ := v
    simp only at hvn
    subst hvn
    have hz1 := h1.size
    simp at hz1
    obtain ⟨k1, k2, k3⟩ := keepB h1 (w.heap.size + 1) (by simp)
    have f0 : w1.frozen? ⟨w.heap.size + 1, 0, none⟩ = false := (k3 0).trans (by simp [go_sem])
    have f1 : w1.frozen? ⟨w.heap.size + 1, 1, none⟩ = false := (k3 1).trans (by simp [go_sem])
    have f2 : w1.frozen? ⟨w.heap.size + 1, 2, none⟩ = false := (k3 2).trans (by simp [go_sem])
    have c0 : w1.cell? ⟨w.heap.size + 1, 0, none⟩ = some (.string ⟨#[]⟩) := (k2 0).trans (by simp [go_sem])
    have c1 : w1.cell? ⟨w.heap.size + 1, 1, none⟩ = some (.int .i64 0) := (k2 1).trans (by simp [go_sem])
    have c2 : w1.cell? ⟨w.heap.size + 1, 2, none⟩ = some (.int .i64 0) := (k2 2).trans (by simp [go_sem])
    have H1 := Lib.hid (Below.call (w := w) (((Below.refl _ _).alloc (Nat.le_refl _) _).alloc (by simp) _) h1)
    clear hv h1 k2 k3
    go_wp2_with fail
    refine bodyPost_ret (v := .tuple #[.agg #[.string ⟨#[]⟩, .int .i64 0, .int .i64 0], .bool false]) (by simp [results, Try.results50, go_sem, *]) rfl ⟨rfl, ?_⟩
    exact ((H1.out.setCell (by simp) _).setCell (by simp) _).setCell (by simp) _
  | cons x r =>
    have hne : 0 < L.length := by rw [hemp]; simp
    have hnb : (L.isEmpty) = false := by rw [hemp]; rfl
    rw [← hemp, hnb]
    have HE := Lib.hid hemp
    clear hemp
    obtain ⟨i, hi, hm, a, ha, hch⟩ := Sy.choose_idx L n hne
    have hti := Int.tmod_lt_of_pos n (show (0 : Int) < L.length by omega)
    have htl := Int.lt_tmod_of_pos n (show (0 : Int) < L.length by omega)
    have z0 : ((L.length : Int) == 0) = false := beq_eq_false_iff_ne.2 (by omega)
    have z1 : (L.length == 0) = false := beq_eq_false_iff_ne.2 (by omega)
    rw [hch]
    have HA := Lib.hid ha
    clear ha hch hnb
    rcases hm with ⟨s1, hm⟩ | ⟨s1, hm⟩
    · have HM := Lib.hid hm
      clear hm
      have s2 : decide (n.tmod (L.length : Int) < 0) = false := by simp; exact s1
      go_enter Try.func50, Try.ntmps50
      go_wp2_with fail
      refine (HC.out _ (((Below.refl _ _).alloc (Nat.le_refl _) _).alloc (by simp) _)).mono ?_
      rintro e w1 ⟨v, rfl, hv, h1⟩
      have hvl := hv.len (fun _ => rfl) (by omega)
      obtain ⟨va, vn, vc⟩ := v
      simp only at hvl hv
      subst hvl
      obtain ⟨b, off, a', hAd, hb, hai, hcells⟩ := hv.at_ (fun _ => rfl) (by omega) hi
      have ea : a' = a := by have := HA.out; rw [hai] at this; injection this
      subst ea
      have hz1 := h1.size
      simp at hz1
      obtain ⟨k1, k2, k3⟩ := keepB h1 (w.heap.size + 1) (by simp)
      have f0 : w1.frozen? ⟨w.heap.size + 1, 0, none⟩ = false := (k3 0).trans (by simp [go_sem])
      have f1 : w1.frozen? ⟨w.heap.size + 1, 1, none⟩ = false := (k3 1).trans (by simp [go_sem])
      have f2 : w1.frozen? ⟨w.heap.size + 1, 2, none⟩ = false := (k3 2).trans (by simp [go_sem])
      have c0 : w1.cell? ⟨w.heap.size + 1, 0, none⟩ = some (.string ⟨#[]⟩) := (k2 0).trans (by simp [go_sem])
      have c1 : w1.cell? ⟨w.heap.size + 1, 1, none⟩ = some (.int .i64 0) := (k2 1).trans (by simp [go_sem])
      have c2 : w1.cell? ⟨w.heap.size + 1, 2, none⟩ = some (.int .i64 0) := (k2 2).trans (by simp [go_sem])
      have d0 : w1.cell? ⟨b, off + i * 3, none⟩ = some (.string a'.path) := hcells 0 _ rfl
      have d1 : w1.cell? ⟨b, off + i * 3 + 1, none⟩ = some (.int .i64 a'.x) := hcells 1 _ rfl
      have d2 : w1.cell? ⟨b, off + i * 3 + 2, none⟩ = some (.int .i64 a'.y) := hcells 2 _ rfl
      have H1 := Lib.hid (Below.call (w := w) (((Below.refl _ _).alloc (Nat.le_refl _) _).alloc (by simp) _) h1)
      have hix : ∀ W : World, Sem.run Try.prog (Instr.indexAt 85 (.slice va L.length vc) (.int .i64 (n.tmod (L.length : Int)))) W = .ok (.pointer (some ⟨b, off + i * 3, none⟩)) W := by intro W; rw [hAd, HM.out]; go_simp
      clear hv h1 k2 k3 hcells hai hAd
      go_wp2_with fail
      refine bodyPost_ret (v := .tuple #[.agg #[.string a'.path, .int .i64 a'.x, .int .i64 a'.y], .bool true]) (by simp [results, Try.results50, go_sem, *]) rfl ⟨rfl, ?_⟩
      exact ((H1.out.setCell (by simp) _).setCell (by simp) _).setCell (by simp) _
    · have HM := Lib.hid hm
      clear hm
      have s2 : decide (n.tmod (L.length : Int) < 0) = true := by simp; exact s1
      go_enter Try.func50, Try.ntmps50
      go_wp2_with fail
      refine (HC.out _ (((Below.refl _ _).alloc (Nat.le_refl _) _).alloc (by simp) _)).mono ?_
      rintro e w1 ⟨v, rfl, hv, h1⟩
      have hvl := hv.len (fun _ => rfl) (by omega)
      obtain ⟨va, vn, vc⟩ := v
      simp only at hvl hv
      subst hvl
      obtain ⟨b, off, a', hAd, hb, hai, hcells⟩ := hv.at_ (fun _ => rfl) (by omega) hi
      have ea : a' = a := by have := HA.out; rw [hai] at this; injection this
      subst ea
      have hz1 := h1.size
      simp at hz1
      obtain ⟨k1, k2, k3⟩ := keepB h1 (w.heap.size + 1) (by simp)
      have f0 : w1.frozen? ⟨w.heap.size + 1, 0, none⟩ = false := (k3 0).trans (by simp [go_sem])
      have f1 : w1.frozen? ⟨w.heap.size + 1, 1, none⟩ = false := (k3 1).trans (by simp [go_sem])
      have f2 : w1.frozen? ⟨w.heap.size + 1, 2, none⟩ = false := (k3 2).trans (by simp [go_sem])
      have c0 : w1.cell? ⟨w.heap.size + 1, 0, none⟩ = some (.string ⟨#[]⟩) := (k2 0).trans (by simp [go_sem])
      have c1 : w1.cell? ⟨w.heap.size + 1, 1, none⟩ = some (.int .i64 0) := (k2 1).trans (by simp [go_sem])
      have c2 : w1.cell? ⟨w.heap.size + 1, 2, none⟩ = some (.int .i64 0) := (k2 2).trans (by simp [go_sem])
      have d0 : w1.cell? ⟨b, off + i * 3, none⟩ = some (.string a'.path) := hcells 0 _ rfl
      have d1 : w1.cell? ⟨b, off + i * 3 + 1, none⟩ = some (.int .i64 a'.x) := hcells 1 _ rfl
      have d2 : w1.cell? ⟨b, off + i * 3 + 2, none⟩ = some (.int .i64 a'.y) := hcells 2 _ rfl
      have H1 := Lib.hid (Below.call (w := w) (((Below.refl _ _).alloc (Nat.le_refl _) _).alloc (by simp) _) h1)
      have hix : ∀ W : World, Sem.run Try.prog (Instr.indexAt 85 (.slice va L.length vc) (.int .i64 (n.tmod (L.length : Int) + (L.length : Int)))) W = .ok (.pointer (some ⟨b, off + i * 3, none⟩)) W := by intro W; rw [hAd, HM.out]; go_simp
      clear hv h1 k2 k3 hcells hai hAd
      go_wp2_with fail
      refine bodyPost_ret (v := .tuple #[.agg #[.string a'.path, .int .i64 a'.x, .int .i64 a'.y], .bool true]) (by simp [results, Try.results50, go_sem, *]) rfl ⟨rfl, ?_⟩
      exact ((H1.out.setCell (by simp) _).setCell (by simp) _).setCell (by simp) _
end Go.Proofs.Ytjdjfjokniingaa
