/- mail.split. -/
import Derived.Test.YtjdjfjokniingaaPd
import Derived.RangeFuncBox
import Derived.Maps.AppendAt
namespace Go.Proofs.Ytjdjfjokniingaa
open Go.RowKit Go.Shelf
attribute [local go_sem] Oper.semAt_some

theorem comps96 (path : ByteArray) (w : World) :
    Calls Try.prog 96 #[.string path] w fun e w' => e = .returned (.func (.func 105) #[] #[.pointer (some ⟨w.heap.size, 0, none⟩)]) ∧ w' = w.alloc (.cells #[.string path] 9) := by
  go_enter Try.func96, Try.ntmps96
  go_wp2
  go_ret
  exact ⟨rfl, rfl⟩

namespace Ml
/-- The loop of split. -/
def accP : List (Int × Bool) → List Int → Option (List Int)
  | [], l => some l
  | c :: cs, l => if c.2 = false ∨ (l = [] ∧ c.1 ≠ 0) then none else accP cs (l ++ [c.1])
def splitP (path : ByteArray) : Option (List Int) := if 200 < path.size then none else accP (comps path) []
end Ml

theorem row_shape {A : World} {base e n : Nat} {v : Value} {xs : List Value} (h : A.ownsRow base e 1 v n xs) : ∃ ao cap, v = .slice ao n cap := by
  rcases h.2 with ⟨rfl, rfl⟩ | ⟨g, cap, cur, rfl, _⟩
  · exact ⟨_, _, rfl⟩
  · exact ⟨_, _, rfl⟩

theorem Ml.accP_at {cs : List (Int × Bool)} {k : Nat} {n : Int} {ok : Bool} {l : List Int} (hk : k < cs.length) (hx : cs.getD k (0, false) = (n, ok)) :
    Ml.accP (cs.drop k) l = if ok = false ∨ (l = [] ∧ n ≠ 0) then none else Ml.accP (cs.drop (k + 1)) (l ++ [n]) := by
  rw [List.getD_eq_getElem?_getD, List.getElem?_eq_getElem hk] at hx
  rw [List.drop_eq_getElem_cons hk, show cs[k] = (n, ok) from hx, Ml.accP]

theorem info3' : (Try.prog.info? 3).map (fun i => (i.zero, i.size, i.bytes)) = some (some (.int .i64 0), 1, 8) := by kernel_rfl

/-- What the loop of split keeps: k components have come. -/
def SplI (w : World) (path : ByteArray) (k : Nat) (W : World) : Prop :=
  ∃ (acc : List Int) (v sv : Value), Boxed W w.heap.size 100 (.slice none 0 0) ∧ Boxed W (w.heap.size + 1) 4 (.bool false) ∧ Boxed W (w.heap.size + 1 + 1) 100 v ∧ Boxed W (w.heap.size + 1 + 1 + 1) 9 sv ∧ W.ownsRow w.heap.size 3 1 v acc.length (acc.map (Value.int .i64)) ∧ Hid (Ml.accP ((Ml.comps path).drop k) acc = Ml.accP (Ml.comps path) []) ∧ acc.length ≤ k ∧ Below w.heap.size w W
def SplX (w : World) (path : ByteArray) (W : World) : Prop :=
  Boxed W w.heap.size 100 (.slice none 0 0) ∧ Boxed W (w.heap.size + 1) 4 (.bool false) ∧ Below w.heap.size w W ∧ Ml.accP (Ml.comps path) [] = none

theorem boxed_below {A A' : World} {B : Nat} {t : TypeId} {v : Value} (h : Boxed A B t v) (hb : Below A.heap.size A A') : Boxed A' B t v := (hb.block _ h.lt).trans h
theorem boxed_set {A : World} {B C : Nat} {t : TypeId} {v : Value} (u : Value) (h : Boxed A B t v) (hne : B ≠ C) : Boxed (A.setCell ⟨C, 0, none⟩ u) B t v := (Below.heap_setCell A ⟨C, 0, none⟩ u B hne).trans h
theorem boxed_put {A : World} {B l : Nat} {t : TypeId} {v : Value} {o o' : Obj} (h : Boxed A B t v) (hl : A.heap[l]? = some o') (ho : o'.isCells = false) : Boxed (A.putObj l o) B t v := by
  refine (World.putObj_heap_other ?_).trans h
  rintro rfl
  rw [show A.heap[B]? = _ from h] at hl
  cases hl
  cases ho
theorem boxed_app {W w1 : World} {B C : Nat} {t e n₀ size k : Nat} {u v v' : Value} {xs : List Value} {tmp : Obj} (hb : Boxed W B t u) (hte : t ≠ e) (hrow : W.ownsRow n₀ e size v k xs) (hgrow : (W.alloc tmp).grownBy w1 v.ownBlock) (hne : B ≠ C) : Boxed (w1.setCell ⟨C, 0, none⟩ v') B t u :=
  boxed_set _ ((hb.alloc tmp).kept hgrow (hb.not_row hte hrow)) hne
theorem splI1 (w : World) (path : ByteArray) (k : Nat) (A A' : World) (h : SplI w path k A) (hb : Below A.heap.size A A') : SplI w path k A' := by
  obtain ⟨acc, v, sv, b1, b2, b3, b4, hrow, HA, hal, hB⟩ := h
  exact ⟨acc, v, sv, boxed_below b1 hb, boxed_below b2 hb, boxed_below b3 hb, boxed_below b4 hb, own_below hrow hb, HA, hal, hB.trans (hb.mono hB.size)⟩
theorem splI2 (w : World) (path : ByteArray) (k : Nat) (A : World) (u : Value) (h : SplI w path k A) : SplI w path k (A.setCell ⟨w.heap.size + 1 + 1 + 1, 0, none⟩ u) := by
  obtain ⟨acc, v, sv, b1, b2, b3, b4, hrow, HA, hal, hB⟩ := h
  exact ⟨acc, v, u, boxed_set u b1 (by omega), boxed_set u b2 (by omega), boxed_set u b3 (by omega), b4.set u, ownsRow_setCell_other hrow (b4.not_row (by decide) hrow).symm u, HA, hal, hB.setCell (p := ⟨w.heap.size + 1 + 1 + 1, 0, none⟩) (by show w.heap.size ≤ w.heap.size + 1 + 1 + 1; omega) u⟩
theorem splI3 (w : World) (path : ByteArray) (w4 : World) (h4 : w.heap.size ≤ w4.heap.size) (k : Nat) (A : World) (l : Nat) (o o' : Obj) (h : SplI w path k A) (hl4 : w4.heap.size ≤ l) (hl : A.heap[l]? = some o') (ho : o'.isCells = false) : SplI w path k (A.putObj l o) := by
  obtain ⟨acc, v, sv, b1, b2, b3, b4, hrow, HA, hal, hB⟩ := h
  have hle : w.heap.size ≤ l := by omega
  exact ⟨acc, v, sv, boxed_put b1 hl ho, boxed_put b2 hl ho, boxed_put b3 hl ho, boxed_put b4 hl ho, ownsRow_putObj hrow o hl ho, HA, hal, hB.grown (grownBy_putObj' A l o) hB.size (fun k e => by cases e; exact hle)⟩
theorem splX3 (w : World) (path : ByteArray) (w4 : World) (h4 : w.heap.size ≤ w4.heap.size) (A : World) (l : Nat) (o o' : Obj) (h : SplX w path A) (hl4 : w4.heap.size ≤ l) (hl : A.heap[l]? = some o') (ho : o'.isCells = false) : SplX w path (A.putObj l o) := by
  obtain ⟨b1, b2, hB, hn⟩ := h
  exact ⟨boxed_put b1 hl ho, boxed_put b2 hl ho, hB.grown (grownBy_putObj' A l o) hB.size (fun k e => by cases e; omega), hn⟩

theorem Ml.comps_len (path : ByteArray) : (Ml.comps path).length ≤ path.size + 1 := by
  have h : ∀ l : List UInt8, (Ml.splitD l).length ≤ l.length + 1 := by
    intro l
    induction l with
    | nil => simp [Ml.splitD]
    | cons c l ih =>
      rw [Ml.splitD]
      split
      · simp; omega
      · split
        · simp
        · rename_i h t he
          rw [he] at ih
          simp at ih ⊢; omega
  have := h path.data.toList
  rw [Array.length_toList] at this
  unfold Ml.comps
  rw [List.length_map]
  exact this

set_option linter.unusedSimpArgs false in
set_option linter.unusedVariables false in
set_option maxHeartbeats 8000000 in
set_option maxRecDepth 1000000 in
theorem split70 (path : ByteArray) (w : World) (hmax : path.size ≤ maxLen) :
    Calls Try.prog 70 #[.string path] w fun e w' => Below w.heap.size w w' ∧ ∃ v, (∃ ok, e = .returned (.tuple #[v, .bool ok]) ∧ ok = (Ml.splitP path).isSome) ∧ w'.ownsRow w.heap.size 3 1 v ((Ml.splitP path).getD []).length (((Ml.splitP path).getD []).map (Value.int .i64)) := by
  refine (callsIn_wide (n := 3)).1 ?_
  refine callsIn_of_wp_marks Try.func70 rfl trivial ?_ rfl
  simp only [Try.ntmps70, List.size_toArray, List.length_cons, List.length_nil, Nat.reduceAdd, Nat.reduceSub, Array.replicate_succ, Array.replicate_zero, List.push_toArray, List.append_toArray, List.nil_append, List.cons_append]
  by_cases hlong : 200 < path.size
  · have hl2 : (200 : Int) < path.size := by omega
    have b1 := Boxed.new w 100 (.slice none 0 0)
    have b2 := Boxed.new (w.alloc (.cells #[.slice none 0 0] 100)) 4 (.bool false)
    have b1' := b1.alloc (.cells #[.bool false] 4)
    rw [World.size_alloc] at b2
    have c1 := b1'.cell
    have c2 := b2.cell
    gi_wp2_with fail
    refine ⟨.tuple #[.slice none 0 0, .bool false], ?_, ?_⟩
    · simp [results, Try.f70, go_sem, c1, c2]
    · have hn : Ml.splitP path = none := by simp [Ml.splitP, hlong]
      rw [hn]
      exact ⟨((Below.refl _ w).alloc (Nat.le_refl _) _).alloc (by simp) _, _, ⟨_, rfl, rfl⟩, World.ownsRow_nil _ _ _ _⟩
  · have hl2 : ¬ (200 : Int) < path.size := by omega
    have hsp : Ml.splitP path = Ml.accP (Ml.comps path) [] := by simp [Ml.splitP, hlong]
    rw [hsp]
    have HN := Lib.hid (Ml.comps_len path)
    gi_wp2_with fail
    refine ⟨trivial, (callsIn_wide.2 (comps96 path _)).mono ?_⟩
    rintro e w4 ⟨rfl, hw4⟩
    simp only [World.size_alloc] at hw4 ⊢
    have b1 : Boxed w4 w.heap.size 100 (.slice none 0 0) := by rw [hw4]; exact (((Boxed.new w 100 _).alloc _).alloc _).alloc _
    have b2 : Boxed w4 (w.heap.size + 1) 4 (.bool false) := by
      rw [hw4]
      have := ((Boxed.new (w.alloc (.cells #[.slice none 0 0] 100)) 4 (.bool false)).alloc (.cells #[.slice none 0 0] 100)).alloc (.cells #[.string path] 9)
      rwa [World.size_alloc] at this
    have b3 : Boxed w4 (w.heap.size + 1 + 1) 100 (.slice none 0 0) := by
      rw [hw4]
      have := (Boxed.new ((w.alloc (.cells #[.slice none 0 0] 100)).alloc (.cells #[.bool false] 4)) 100 (.slice none 0 0)).alloc (.cells #[.string path] 9)
      simpa only [World.size_alloc] using this
    have b4 : Boxed w4 (w.heap.size + 1 + 1 + 1) 9 (.string path) := by
      rw [hw4]
      have := Boxed.new (((w.alloc (.cells #[.slice none 0 0] 100)).alloc (.cells #[.bool false] 4)).alloc (.cells #[.slice none 0 0] 100)) 9 (.string path)
      simpa only [World.size_alloc] using this
    have hbw : Below w.heap.size w w4 := by
      rw [hw4]; exact ((((Below.refl _ w).alloc (Nat.le_refl _) _).alloc (by simp) _).alloc (by simp; omega) _).alloc (by simp; omega) _
    clear hw4
    gi_wp2_with fail
    obtain ⟨i0, hi, hz0, hz1, hz2⟩ := info_parts info3'
    refine wpIn_range_box (gf := 105) (lb := #[.pointer (some ⟨w.heap.size + 1 + 1 + 1, 0, none⟩)]) (B := w.heap.size + 1 + 1 + 1) rfl (enters_of Try.func105 (by kernel_rfl) rfl)
      (comps105 _ _ path w4 (by omega) b4) b4.lt (fun _ => rfl) (SplI w path) (SplX w path) (splI1 w path) (splI2 w path) (splI3 w path w4 (by have := b1.lt; omega)) (splX3 w path w4 (by have := b1.lt; omega))
      ⟨[], .slice none 0 0, .string path, b1, b2, b3, b4, World.ownsRow_nil _ _ _ _, rfl, by simp, hbw⟩
      (fun k => { tmps := #[.string path, undef, .pointer (some ⟨w.heap.size, 0, none⟩), .pointer (some ⟨w.heap.size + 1, 0, none⟩), .pointer (some ⟨w.heap.size + 1 + 1, 0, none⟩), .int .i64 ((Ml.comps path).getD k (0, false)).1, .bool ((Ml.comps path).getD k (0, false)).2, .string path, .int .i64 path.size, .bool false, .string path, .func (.func 105) #[] #[.pointer (some ⟨w.heap.size + 1 + 1 + 1, 0, none⟩)], .int .i64 ((Ml.comps path).getD k (0, false)).1, .bool ((Ml.comps path).getD k (0, false)).2, undef, undef, undef, undef, undef, undef, undef, undef, undef, undef, undef, undef, undef, undef, undef, undef], defers := [] }) ?assign ?body ?done ?stop
    case assign =>
      intro l k W K hK
      gi_wp2_with fail
      exact hK
    case body =>
      rintro l k W hk ⟨acc, v, sv, b1, b2, b3, b4, hrow, HA, hal, hB⟩
      obtain ⟨n, ok, hx⟩ : ∃ n ok, (Ml.comps path).getD k (0, false) = (n, ok) := ⟨_, _, rfl⟩
      have hst := Ml.accP_at (l := acc) hk hx
      rw [hx]
      have HS := Lib.hid hst
      clear hst hx
      obtain ⟨ao, cap, rfl⟩ := row_shape hrow
      obtain ⟨L, hL⟩ : ∃ L, acc.length = L := ⟨_, rfl⟩
      rw [hL] at hrow hal b3
      have HL := Lib.hid hL
      clear hL
      have HN2 := HN.out
      have c3 := b3.cell
      have f1 := b1.frozen
      have c1 := b1.cell
      have f2 := (boxed_set (.slice none 0 0) b2 (C := w.heap.size) (by omega)).frozen
      have c2 := (boxed_set (.slice none 0 0) b2 (C := w.heap.size) (by omega)).cell
      have hL0 : L = 0 ↔ acc = [] := by rw [← HL.out]; exact List.length_eq_zero_iff
      have HL0 := Lib.hid hL0
      clear hL0
      by_cases hbad : ok = false ∨ (acc = [] ∧ n ≠ 0)
      · have hz : Ml.accP (Ml.comps path) [] = none := by rw [← HA.out, HS.out, if_pos hbad]
        have HZ := Lib.hid hz
        clear hz
        by_cases hok : ok = false
        · subst hok
          clear hbad
          gi_wp2_with fail
          refine ⟨(KeepsOthers.setCell _ _ _).trans (KeepsOthers.setCell _ _ _), boxed_set _ (b1.set _) (by omega), Boxed.set _ (boxed_set _ b2 (by omega)), (hB.setCell (p := ⟨w.heap.size, 0, none⟩) (Nat.le_refl _) _).setCell (p := ⟨w.heap.size + 1, 0, none⟩) (by show w.heap.size ≤ w.heap.size + 1; omega) _, HZ.out⟩
        · have hb2 : acc = [] ∧ n ≠ 0 := by simpa [hok] using hbad
          have hok : ok = true := by simpa using hok
          subst hok
          obtain ⟨h3, h4⟩ := hb2
          have h0 : L = 0 := HL0.out.2 h3
          subst h0
          clear hbad h3
          gi_wp2_with fail
          refine ⟨(KeepsOthers.setCell _ _ _).trans (KeepsOthers.setCell _ _ _), boxed_set _ (b1.set _) (by omega), Boxed.set _ (boxed_set _ b2 (by omega)), (hB.setCell (p := ⟨w.heap.size, 0, none⟩) (Nat.le_refl _) _).setCell (p := ⟨w.heap.size + 1, 0, none⟩) (by show w.heap.size ≤ w.heap.size + 1; omega) _, HZ.out⟩
      · have hz : Ml.accP ((Ml.comps path).drop (k + 1)) (acc ++ [n]) = Ml.accP (Ml.comps path) [] := by rw [← HA.out, HS.out, if_neg hbad]
        have HZ := Lib.hid hz
        clear hz
        have hok : ok = true := by cases ok <;> simp_all
        subst hok
        by_cases h0 : L = 0
        · have hn : n = 0 := by
            have : acc = [] := HL0.out.1 h0
            simpa [this] using hbad
          subst hn
          subst h0
          clear hbad
          gi_wp2_with (gi_at_builtin; refine wpListIn_append_own _ rfl _ _ 100 rfl w.heap.size 3 i0 (.int .i64 0) 1 8 Try.underlying100 hi hz0 hz1 hz2 rfl (by decide) _ _ _ rfl (hrow.alloc _) ⟨W.heap.size, 0, none⟩ 1 1 [.int .i64 0] rfl rfl (cell_one_new _ _ _) (by simp [Value.oneCell']) (by unfold maxLen; omega) (by omega) (by have := hB.size; simp; omega) ?_; intro v' w1 hown' hgrow _; obtain ⟨g', cap', rfl⟩ := ownsRow_succ hown'; obtain ⟨hv1, hv2, hr2, hk2, hb2⟩ := b3.appended (by decide) hrow hB.size (by omega) hown' hgrow; have hc1 := hv1.cell; have hf1 := hv1.frozen)
          exact ⟨hk2, (boxed_app b4 (by decide) hrow hgrow (by omega)).trans (show W.heap[w.heap.size + 1 + 1 + 1]? = _ from b4).symm, acc ++ [0], _, sv, boxed_app b1 (by decide) hrow hgrow (by omega), boxed_app b2 (by decide) hrow hgrow (by omega), hv2, boxed_app b4 (by decide) hrow hgrow (by omega), by rw [List.length_append, HL.out, List.map_append]; exact hr2, HZ, by rw [List.length_append, HL.out]; show _ + 1 ≤ _; omega, hB.trans hb2⟩
        · have h1 : ¬ (L : Int) = 0 := by omega
          clear hbad
          gi_wp2_with (gi_at_builtin; refine wpListIn_append_own _ rfl _ _ 100 rfl w.heap.size 3 i0 (.int .i64 0) 1 8 Try.underlying100 hi hz0 hz1 hz2 rfl (by decide) _ _ _ rfl (hrow.alloc _) ⟨W.heap.size, 0, none⟩ 1 1 [.int .i64 n] rfl rfl (cell_one_new _ _ _) (by simp [Value.oneCell']) (by unfold maxLen; omega) (by omega) (by have := hB.size; simp; omega) ?_; intro v' w1 hown' hgrow _; obtain ⟨g', cap', rfl⟩ := ownsRow_succ hown'; obtain ⟨hv1, hv2, hr2, hk2, hb2⟩ := b3.appended (by decide) hrow hB.size (by omega) hown' hgrow; have hc1 := hv1.cell; have hf1 := hv1.frozen)
          exact ⟨hk2, (boxed_app b4 (by decide) hrow hgrow (by omega)).trans (show W.heap[w.heap.size + 1 + 1 + 1]? = _ from b4).symm, acc ++ [n], _, sv, boxed_app b1 (by decide) hrow hgrow (by omega), boxed_app b2 (by decide) hrow hgrow (by omega), hv2, boxed_app b4 (by decide) hrow hgrow (by omega), by rw [List.length_append, HL.out, List.map_append]; exact hr2, HZ, by rw [List.length_append, HL.out]; show _ + 1 ≤ _; omega, hB.trans hb2⟩
    case done =>
      rintro D W hD ⟨acc, v, sv, b1, b2, b3, b4, hrow, HA, hal, hB⟩ hK
      have hz : Ml.accP (Ml.comps path) [] = some acc := by
        rw [← HA.out, List.drop_eq_nil_of_le (Nat.le_refl _)]; rfl
      have HZ := Lib.hid hz
      clear hz
      obtain ⟨ao, cap, hv⟩ := row_shape hrow
      subst hv
      have c3 := b3.cell
      have f1 := b1.frozen
      have c1 := b1.cell
      have f2 := (boxed_set (.slice ao acc.length cap) b2 (C := w.heap.size) (by omega)).frozen
      have c2 := (boxed_set (.slice ao acc.length cap) b2 (C := w.heap.size) (by omega)).cell
      have b5 := boxed_set (.bool true) (b1.set (.slice ao acc.length cap)) (C := w.heap.size + 1) (by omega)
      have b6 := Boxed.set (.bool true) (boxed_set (.slice ao acc.length cap) b2 (C := w.heap.size) (by omega))
      have hrow2 := ownsRow_setCell_other (a := ⟨w.heap.size, 0, none⟩) hrow (b1.not_row (by decide) hrow).symm (.slice ao acc.length cap)
      have hrow3 := ownsRow_setCell_other (a := ⟨w.heap.size + 1, 0, none⟩) hrow2 ((boxed_set (.slice ao acc.length cap) b2 (C := w.heap.size) (by omega)).not_row (by decide) hrow2).symm (.bool true)
      have hB3 := (hB.setCell (p := ⟨w.heap.size, 0, none⟩) (Nat.le_refl _) (.slice ao acc.length cap)).setCell (p := ⟨w.heap.size + 1, 0, none⟩) (by show w.heap.size ≤ w.heap.size + 1; omega) (.bool true)
      have hK3 := ((KeepsOthers.setCell W ⟨w.heap.size, 0, none⟩ (.slice ao acc.length cap)).trans (KeepsOthers.setCell _ ⟨w.heap.size + 1, 0, none⟩ (.bool true))).same D _ hK rfl
      gi_wp2_with fail
      refine ⟨by simp, .inl ⟨_, _, rfl, run_takeDeferred hK3, ?_⟩⟩
      have c5 := (boxed_put (o := .deferred none) b5 hK3 rfl).cell
      have c6 := (boxed_put (o := .deferred none) b6 hK3 rfl).cell
      refine ⟨.tuple #[.slice ao acc.length cap, .bool true], ?_, ?_⟩
      · simp [results, Try.f70, go_sem, c5, c6]
      · rw [HZ.out]
        exact ⟨hB3.grown (grownBy_putObj' _ D _) hB3.size (fun k e => by cases e; have := b1.lt; have := hbw.size; omega), _, ⟨_, rfl, rfl⟩, ownsRow_putObj hrow3 _ hK3 rfl⟩
    case stop =>
      rintro D W hD ⟨b1, b2, hB, hn⟩ hK
      have HZ := Lib.hid hn
      clear hn
      gi_wp2_with fail
      refine ⟨by simp, .inl ⟨_, _, rfl, run_takeDeferred hK, ?_⟩⟩
      have c5 := (boxed_put (o := .deferred none) b1 hK rfl).cell
      have c6 := (boxed_put (o := .deferred none) b2 hK rfl).cell
      refine ⟨.tuple #[.slice none 0 0, .bool false], ?_, ?_⟩
      · simp [results, Try.f70, go_sem, c5, c6]
      · rw [HZ.out]
        exact ⟨hB.grown (grownBy_putObj' _ D _) hB.size (fun k e => by cases e; have := hbw.size; omega), _, ⟨_, rfl, rfl⟩, World.ownsRow_nil _ _ _ _⟩
end Go.Proofs.Ytjdjfjokniingaa
