/- Rows of boxes behind the library's sort; the contract of slices.SortFunc at boxes. -/
import Derived.Test.YtcncobhdfflelaaCa
import Derived.Test.YtcncobhdfflelaaShelf
import Derived.Shelf.GgSortFunc.RowK
import Derived.Shelf.GgSortFunc.InsertionK
namespace Go.Proofs.Ytcncobhdfflelaa
open Go.RowKit Go.Shelf

section
open Go.Sort
theorem flatMap_len {α : Type} (enc : α → List Value) (k : Nat) (hk : ∀ x, (enc x).length = k) : ∀ l : List α, (l.flatMap enc).length = l.length * k
  | [] => by simp
  | x :: r => by rw [List.flatMap_cons, List.length_append, hk, flatMap_len enc k hk r, List.length_cons, Nat.succ_mul]; omega

theorem flatMap_get {α : Type} [Inhabited α] (enc : α → List Value) (k : Nat) (hk : ∀ x, (enc x).length = k) (h0 : 0 < k) : ∀ (l : List α) (t : Nat), t < l.length * k → (l.flatMap enc)[t]? = (enc (l[t / k]!))[t % k]?
  | [], t, h => by simp at h
  | x :: r, t, h => by
    rw [List.flatMap_cons]
    by_cases ht : t < k
    · rw [List.getElem?_append_left (by rw [hk]; exact ht), Nat.div_eq_of_lt ht, Nat.mod_eq_of_lt ht]
      rfl
    · obtain ⟨u, rfl⟩ : ∃ u, t = u + k := ⟨t - k, by omega⟩
      rw [List.length_cons, Nat.succ_mul] at h
      rw [List.getElem?_append_right (by rw [hk]; omega), hk, Nat.add_sub_cancel, flatMap_get enc k hk h0 r u (by omega), Nat.add_div_right _ h0, Nat.add_mod_right]
      rfl

theorem flatK_eq {α : Type} [Inhabited α] (enc : α → List Value) (k : Nat) (hk : ∀ x, (enc x).length = k) (h0 : 0 < k) (l : List α) : flatK enc k l.toArray = (l.flatMap enc).toArray := by
  refine ext_get! (by simp [flatMap_len enc k hk]) fun t ht => ?_
  have ht' : t < l.length * k := by simpa using ht
  rw [get_flatK _ _ _ t (by simpa using ht')]
  have h1 := flatMap_get enc k hk h0 l t ht'
  simp only [List.getElem!_toArray, List.getElem!_eq_getElem?_getD] at h1 ⊢
  rw [h1]

theorem heap_sortedV {w : World} {g n : Nat} {os : Array Obj} {cur : Array Value} {e : TypeId} {fr : Nat × Nat} (d : Array Value) (hb : w.heap[g]? = some (.cells cur e fr)) :
    (grow (putRow id (Sort.ahead w n) g 0 d) os).heap[g]? = some (.cells (putCells id 0 d cur) e fr) := by
  have hg : g < w.heap.size := (Array.getElem?_eq_some_iff.1 hb).1
  rw [heap_grow_old _ _ (by simpa using hg)]
  simp [putRow, mapBlock, Sort.ahead, Array.getElem?_modify, hb, onCells]
theorem grownBy_sortedV {w : World} {g n : Nat} {os : Array Obj} (d : Array Value) : w.grownBy (grow (putRow id (Sort.ahead w n) g 0 d) os) (some g) := by
  refine ⟨rfl, rfl, rfl, by simp, fun k hk hne => ?_⟩
  rw [heap_grow_old _ _ (by simpa using hk)]
  have : g ≠ k := fun e => hne (by rw [e])
  simp [putRow, mapBlock, Sort.ahead, Array.getElem?_modify, this]
theorem take_putCellsV (cur : Array Value) (ts : List Value) (h : ts.length ≤ cur.size) : (putCells id 0 ts.toArray cur).toList.take ts.length = ts := by
  apply List.ext_getElem?
  intro j
  by_cases hj : j < ts.length
  · rw [List.getElem?_take_of_lt hj, Array.getElem?_toList]
    simp [putCells, hj, show j < cur.size by omega]
  · rw [List.getElem?_take_eq_none (by omega), List.getElem?_eq_none (by omega)]
theorem holds_of_row {w : World} {base e k n g cap : Nat} {xs : List Value} (h : w.ownsRow base e k (.slice (some ⟨g, 0, none⟩) n cap) n xs) : Holds id w g 0 xs.toArray := by
  intro j hj
  have hj' : j < n * k := by rw [← h.1]; simpa using hj
  refine ⟨?_, h.frozenAt (0 + j)⟩
  rw [Nat.zero_add, h.cellAt j hj']
  simp at hj
  simp [hj]
/-- behind the sort the same slice owns the sorted cells, and nothing else has changed -/
theorem row_sorted {w : World} {base e k n g cap m : Nat} {os : Array Obj} {xs ys : List Value} (h : w.ownsRow base e k (.slice (some ⟨g, 0, none⟩) n cap) n xs) (hl : ys.length = xs.length) :
    (grow (putRow id (Sort.ahead w m) g 0 ys.toArray) os).ownsRow base e k (.slice (some ⟨g, 0, none⟩) n cap) n ys := by
  rcases h.2 with ⟨h0, _⟩ | ⟨g', cap', cur, hv, hg, hh, hn, hc, hs, ht⟩
  · cases h0
  · simp only [Value.slice.injEq, Option.some.injEq, Addr.mk.injEq] at hv
    obtain ⟨⟨rfl, _⟩, _, rfl⟩ := hv
    have hle : ys.length ≤ cur.size := by rw [hl, h.1, hs]; exact Nat.mul_le_mul_right _ hn
    exact ⟨by rw [hl, h.1], .inr ⟨g, cap, _, rfl, hg, heap_sortedV _ hh, hn, hc, by simp [putCells, hs], by rw [← h.1, ← hl]; exact take_putCellsV cur ys hle⟩⟩
end
theorem cmp62 (x y : BxC) (lx ly : List Int) (W : World) (hx : Rd W W.heap.size 1 x.lo.a x.lo.n (ints lx)) (hy : Rd W W.heap.size 1 y.lo.a y.lo.n (ints ly)) (hn : x.lo.n ≤ 1000000) (hm : y.lo.n ≤ 1000000) :
    Calls Try.prog 62 #[bxV x, bxV y] W fun e w' => e = .returned (.int .i64 (Bx.cmpL lx ly)) ∧ ∃ q os, w' = Sort.grow (W.drewN q) os := by
  have C := Lib.hid (fun (X : World) (hX : Below W.heap.size W X) => compare63 x.lo.a y.lo.a x.lo.n y.lo.n x.lo.c y.lo.c lx ly X (hx.up hX) (hy.up hX) hn hm)
  clear hx hy
  go_enter Try.func62, Try.ntmps62
  go_wp2_with fail
  refine (C.out _ (((Below.refl _ _).alloc (Nat.le_refl _) _).alloc (by simp) _)).mono ?_
  rintro e w1 ⟨rfl, rfl⟩
  go_wp2_with fail
  go_ret
  exact ⟨rfl, 0, #[_, _], by rw [Sort.alloc_eq_grow, Sort.alloc_eq_grow, Sort.grow_grow]; rfl⟩

/-- a box whose rows lie in an older world -/
def MemB (w0 : World) : Type := { q : BxM // Rd w0 w0.heap.size 1 q.1.lo.a q.1.lo.n (ints q.2.1) ∧ Rd w0 w0.heap.size 1 q.1.hi.a q.1.hi.n (ints q.2.2) ∧ q.1.lo.n ≤ 1000000 }
instance (w0 : World) : Inhabited (MemB w0) := ⟨⟨(⟨⟨none, 0, 0⟩, ⟨none, 0, 0⟩, false⟩, [], []), Rd.none_, Rd.none_, by decide⟩⟩
def encB (w0 : World) (x : MemB w0) : List Value := bxL x.1.1
def cfB (w0 : World) (x y : MemB w0) : Int := Bx.cmpL x.1.2.1 y.1.2.1
theorem swoB (w0 : World) : Sort.SWO (ltOf (cfB w0)) where
  irrefl x := by unfold ltOf cfB; rw [Bx.cmpL_refl]; rfl
  trans x y z h1 h2 := by
    unfold ltOf cfB at *
    simp only [decide_eq_true_eq] at *
    exact Bx.cmpL_trans h1 h2
  ntrans x y z h1 h2 := by
    unfold ltOf cfB at *
    simp only [decide_eq_false_iff_not] at *
    intro h3
    rw [Bx.cmpL_swap y.1.2.1 x.1.2.1] at h1
    by_cases h4 : Bx.cmpL y.1.2.1 x.1.2.1 = 0
    · rw [Bx.cmpL_eq h4] at h2
      exact h2 h3
    · exact h2 (Bx.cmpL_trans (by omega) h3)
theorem sort_lays (w0 w : World) (hB : Below w0.heap.size w0 w) (g size : Nat) (hg : w0.heap.size ≤ g) : CmpLays Try.prog 62 #[] (encB w0) 3 (cfB w0) g 0 size w := fun m os dk _ x y => by
  have hgr : w.grownBy (sortWorldK (encB w0) 3 w g 0 m dk os) (some g) := by
    unfold sortWorldK Sort.putRowK
    exact grownBy_sortedV _
  have hb2 : Below w0.heap.size w0 (sortWorldK (encB w0) 3 w g 0 m dk os) := hB.grown hgr hB.size (fun k hk => by injection hk with hk; omega)
  exact cmp62 x.1.1 y.1.1 x.1.2.1 y.1.2.1 _ (x.2.1.up hb2) (y.2.1.up hb2) x.2.2.2 y.2.2.2
theorem sort61 (w0 w : World) (hB : Below w0.heap.size w0 w) (d : List (MemB w0)) (g cap : Nat) (hr : w.ownsRow w0.heap.size 44 3 (.slice (some ⟨g, 0, none⟩) d.length cap) d.length (d.flatMap (encB w0))) (hd : d.length ≤ 1000000) :
    Calls Try.prog 61 #[.slice (some ⟨g, 0, none⟩) d.length cap, .func (.func 62) #[] #[]] w fun e w' => e = .returned (.tuple #[]) ∧ ∃ d' : List (MemB w0), d'.Perm d ∧ d'.Pairwise (fun a b => ¬ Bx.cmpL b.1.2.1 a.1.2.1 < 0) ∧ w'.ownsRow w0.heap.size 44 3 (.slice (some ⟨g, 0, none⟩) d.length cap) d.length (d'.flatMap (encB w0)) ∧ Below w0.heap.size w0 w' := by
  have eg : ∀ args w, (callFunc 62 args).run Try.prog w = .ok (.enter 62 args) w := enters_of Try.func62 (by kernel_rfl) rfl
  have hlt := hr.lt g rfl
  have hH : Sort.HoldsK (encB w0) 3 w g 0 d.toArray := by
    unfold Sort.HoldsK
    rw [flatK_eq (encB w0) 3 (fun _ => rfl) (by omega)]
    exact holds_of_row hr
  have hcon := AnyQ.slices_SortFunc (P := Try.prog) Try.sortBx 3 Try.isAgg44 Try.sizeOf44 (encB w0) (fun _ => rfl) (fun x v hv => by simp [encB] at hv; rcases hv with rfl | rfl | rfl <;> rfl) (cfB w0) (swoB w0) 62 #[] g 0 cap d.toArray w eg (sort_lays w0 w hB g d.toArray.size hlt.1) hH hlt.2 (by simp; omega)
  have hcon' : Calls Try.prog 61 #[.slice (some ⟨g, 0, none⟩) d.toArray.size cap, .func (.func 62) #[] #[]] w _ := hcon
  rw [List.size_toArray] at hcon'
  refine hcon'.mono fun e w' ⟨he, d', n, os, hp, hs, hw⟩ => ⟨he, d'.toList, ?_, ?_, ?_, ?_⟩
  · have h1 := hp.2.2
    have h2 : d'.size = d.length := by rw [hp.1]; simp
    have e1 : d'.extract 0 d.length = d' := by rw [← h2]; exact Array.extract_size
    have e2 : d.toArray.extract 0 d.length = d.toArray := by
      have : d.toArray.size = d.length := by simp
      rw [← this]; exact Array.extract_size
    rw [e1, e2] at h1
    exact h1
  · rw [List.pairwise_iff_getElem]
    intro i j hi hj hij
    have h2 : d'.size = d.length := by rw [hp.1]; simp
    have hj' : j < d'.size := by simpa using hj
    have hi' : i < d'.size := by simpa using hi
    have := hs i j (Nat.zero_le _) hij (by omega)
    unfold ltOf cfB at this
    simp only [decide_eq_false_iff_not] at this
    rw [getElem!_pos d' j hj', getElem!_pos d' i hi'] at this
    simpa using this
  · have hw2 : w' = Sort.grow (Sort.putRow id (Sort.ahead w n) g 0 (d'.toList.flatMap (encB w0)).toArray) os := by
      rw [hw]; unfold sortWorldK Sort.putRowK
      rw [← flatK_eq (encB w0) 3 (fun _ => rfl) (by omega) d'.toList]
    rw [hw2]
    refine row_sorted hr ?_
    rw [flatMap_len (encB w0) 3 (fun _ => rfl), flatMap_len (encB w0) 3 (fun _ => rfl)]
    have h2 : d'.size = d.length := by rw [hp.1]; simp
    simp [h2]
  · rw [hw]
    refine hB.grown (row := some g) ?_ hB.size (fun k hk => by injection hk with hk; omega)
    unfold sortWorldK Sort.putRowK
    exact grownBy_sortedV _
end Go.Proofs.Ytcncobhdfflelaa
