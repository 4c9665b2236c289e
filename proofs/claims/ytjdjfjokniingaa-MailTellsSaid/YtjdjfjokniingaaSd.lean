/- The sort of channels: its contract over a row of the call's own. -/
import Derived.Test.YtjdjfjokniingaaSb
import Derived.Test.YtjdjfjokniingaaSm
import Derived.Test.YtjdjfjokniingaaPl
import Derived.Test.YtjdjfjokniingaaSd2
import Derived.Test.YtjdjfjokniingaaShelf
namespace Go.Proofs.Ytjdjfjokniingaa
open Go.RowKit Go.Shelf
namespace Sy
def chLt (a b : Int × Int) : Bool := decide (a.1 < b.1) || (decide (a.1 = b.1) && decide (a.2 < b.2))
def srt (l : List (Int × Int)) : List (Int × Int) := l.mergeSort fun x y => !chLt y x
end Sy

theorem rd_of_own {w : World} {base e k n : Nat} {v : Value} {xs : List Value} (h : w.ownsRow base e k v n xs) : ∃ s : Sl, v = s.v ∧ Rd w w.heap.size k s.a s.n xs := by
  rcases h.2 with ⟨rfl, rfl⟩ | ⟨g, cap, cur, rfl, hb, hg, hn, hc, hs, hx⟩
  · exact ⟨⟨none, 0, 0⟩, rfl, h.1, fun h => absurd h (by simp)⟩
  · refine ⟨⟨some ⟨g, 0, none⟩, n, cap⟩, rfl, h.1, fun _ => ⟨g, 0, rfl, (Array.getElem?_eq_some_iff.1 hg).1, fun j u hu => ?_⟩⟩
    have hj : j < n * k := by rw [← h.1]; exact (List.getElem?_eq_some_iff.1 hu).1
    rw [Nat.zero_add, h.cellAt j hj, hu]

theorem own_slice {w : World} {base e k n : Nat} {v : Value} {xs : List Value} (h : w.ownsRow base e k v n xs) : ∃ s : Sl, v = .slice s.a s.n s.c ∧ s.n = n := by
  rcases h.2 with ⟨rfl, rfl⟩ | ⟨g, cap, cur, rfl, _⟩
  · exact ⟨⟨none, 0, 0⟩, rfl, rfl⟩
  · exact ⟨⟨some ⟨g, 0, none⟩, n, cap⟩, rfl, rfl⟩
theorem row_mono {w : World} {base base' e k n : Nat} {v : Value} {xs : List Value} (h : w.ownsRow base e k v n xs) (hb : base' ≤ base) : w.ownsRow base' e k v n xs := by
  refine ⟨h.1, ?_⟩
  rcases h.2 with h | ⟨g, cap, cur, h1, h2, h3⟩
  · exact .inl h
  · exact .inr ⟨g, cap, cur, h1, by omega, h3⟩
/-- rows of two element types do not share a block -/
theorem own_apart {w : World} {base base' e e' k k' n n' : Nat} {v v' : Value} {xs xs' : List Value} (h : w.ownsRow base e k v n xs) (h' : w.ownsRow base' e' k' v' n' xs') (hne : e ≠ e') : v.ownBlock = none ∨ v.ownBlock ≠ v'.ownBlock := by
  rcases h.2 with ⟨rfl, _⟩ | ⟨g, cap, cur, rfl, _, hg, _⟩
  · exact .inl rfl
  · refine .inr fun hb => ?_
    rcases h'.2 with ⟨rfl, _⟩ | ⟨g', cap', cur', rfl, _, hg', _⟩
    · simp [Value.ownBlock] at hb
    · simp [Value.ownBlock] at hb
      subst hb
      rw [hg] at hg'
      injection hg' with hg'
      injection hg' with _ hg'
      exact hne hg'
theorem rd_own {w : World} {base e k n c : Nat} {A : Option Addr} {xs : List Value} (h : w.ownsRow base e k (.slice A n c) n xs) : Rd w w.heap.size k A n xs := by
  obtain ⟨s, hs, hr⟩ := rd_of_own h
  injection hs with h1 h2 h3
  rw [h1, h2]
  exact hr

def chCf (x y : Int × Int) : Int := Sy.orI (Sy.cmpI x.1 y.1) (Sy.cmpI x.2 y.2)
theorem chCf_lt (x y : Int × Int) : ltOf chCf x y = Sy.chLt x y := by
  unfold ltOf chCf Sy.orI Sy.cmpI Sy.chLt
  rw [Bool.eq_iff_iff]
  simp only [decide_eq_true_eq, Bool.or_eq_true, Bool.and_eq_true]
  repeat' split
  all_goals omega
theorem ch_ext {x y : Int × Int} (h1 : x.1 = y.1) (h2 : x.2 = y.2) : x = y := Prod.ext h1 h2
theorem chLt_swo : Sort.SWO (ltOf chCf) where
  irrefl x := by rw [chCf_lt]; simp [Sy.chLt]
  trans x y z h1 h2 := by rw [chCf_lt] at *; simp [Sy.chLt] at *; omega
  ntrans x y z h1 h2 := by rw [chCf_lt] at *; simp [Sy.chLt] at *; omega
theorem chLt_total (x y : Int × Int) (h1 : ltOf chCf x y = false) (h2 : ltOf chCf y x = false) : x = y := by
  rw [chCf_lt] at *; simp [Sy.chLt] at *; exact ch_ext (by omega) (by omega)
theorem cmpLays102 (blk off size : Nat) (w : World) : CmpLays Try.prog 102 #[] chanL 2 chCf blk off size w := fun _ _ _ _ x y => chanCmp_any x.1 x.2 y.1 y.2 _

theorem sortCh_any (base : Nat) (v : Value) (d : List (Int × Int)) (w : World) (hr : w.ownsRow base 122 2 v d.length (d.flatMap chanL)) (hb : base ≤ w.heap.size) (hd : d.length * 16 ≤ 140737488351232) :
    Calls Try.prog 101 #[v, .func (.func 102) #[] #[]] w fun e w' => e = .returned (.tuple #[]) ∧ w'.ownsRow base 122 2 v d.length ((Sy.srt d).flatMap chanL) ∧ Below base w w' := by
  rcases hr.2 with ⟨rfl, h0⟩ | ⟨g, cap, cur, rfl, hg, hh, _⟩
  · have hd0 : d = [] := List.eq_nil_of_length_eq_zero h0
    subst hd0
    exact (AnyF.slices_SortFunc_none (P := Try.prog) Try.sortCh none 0 (.func (.func 102) #[] #[]) w).mono fun e w' ⟨he, hw⟩ => ⟨he, by rw [hw]; simpa [Sy.srt] using hr, by rw [hw]; exact Below.refl _ _⟩
  · have eg : ∀ args w, (callFunc 102 args).run Try.prog w = .ok (.enter 102 args) w := enters_of Try.func102 (by kernel_rfl) rfl
    have hgs : g < w.heap.size := (Array.getElem?_eq_some_iff.1 hh).1
    have hH : Sort.HoldsK chanL 2 w g 0 d.toArray := by
      unfold Sort.HoldsK
      rw [flatK_eq chanL 2 (fun _ => rfl) (by omega)]
      exact holds_of_row hr
    have hcon := AnyQ.slices_SortFunc_total (P := Try.prog) Try.sortCh 2 Try.isAgg122 Try.sizeOf122 chanL (fun _ => rfl) (fun x v hv => by simp [chanL] at hv; rcases hv with rfl | rfl <;> rfl) chCf chLt_swo 102 #[] g 0 cap d.toArray w eg (cmpLays102 g 0 d.toArray.size w) hH hgs (by simp; omega) chLt_total
    have hcon' : Calls Try.prog 101 #[.slice (some ⟨g, 0, none⟩) d.toArray.size cap, .func (.func 102) #[] #[]] w _ := hcon
    rw [List.size_toArray] at hcon'
    refine hcon'.mono fun e w' ⟨he, n, os, hw⟩ => ⟨he, ?_⟩
    have es : (d.toArray.toList.mergeSort fun x y => !(ltOf chCf) y x) = Sy.srt d := by
      simp only [Sy.srt, chCf_lt]
    rw [es] at hw
    have hw2 : w' = Sort.grow (Sort.putRow id (Sort.ahead w n) g 0 ((Sy.srt d).flatMap chanL).toArray) os := by
      rw [hw]; unfold sortWorldK Sort.putRowK; rw [flatK_eq chanL 2 (fun _ => rfl) (by omega)]
    rw [hw2]
    refine ⟨row_sorted hr ?_, ?_⟩
    · rw [flatMap_len chanL 2 (fun _ => rfl), flatMap_len chanL 2 (fun _ => rfl)]; simp [Sy.srt]
    · exact (Below.refl _ _).grown (grownBy_sortedV _) hb (fun k e => by injection e with e; omega)
end Go.Proofs.Ytjdjfjokniingaa
