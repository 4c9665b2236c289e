/- A map from strings to bools that the call has made; a box of the call's own. -/
import Derived.Test.YtjdjfjokniingaaMb
import Derived.Test.YtjdjfjokniingaaSm
import Derived.Maps.OwnSet
namespace Go.Proofs.Ytjdjfjokniingaa
open Go.RowKit Go.Maps

def skey (p : ByteArray) : Lit := .string p.data.toList
theorem skey_inj {p q : ByteArray} (h : skey p = skey q) : p = q := by
  injection h with h
  exact ByteArray.ext (Array.toList_inj.1 h)
/-- block b is a map of at most n entries that holds f -/
def OwnsS (w : World) (b n : Nat) (f : ByteArray → Option Bool) : Prop :=
  ∃ D : DataW Unit, w.ownsMap Try.prog 9 (plainElem Try.prog 4) b n D ∧ ∀ p : ByteArray, p.size ≤ maxLen → Maps.has D (skey p) = (f p).isSome ∧ D.atKey (skey p) (.lit (.bool false)) = .lit (.bool ((f p).getD false))
theorem keyed9 : Keyed Try.prog 9 := string_keyed Try.underlying9
theorem key9 {p : ByteArray} (h : p.size ≤ maxLen) : keyOf Try.prog 9 (.string p) = some (skey p) := WideMaps.keyOf_string_mk Try.underlying9 h
theorem OwnsS.made {w : World} {b : Nat} (hb : b = w.heap.size) {f : ByteArray → Option Bool} (hf : ∀ p, f p = none) : OwnsS (w.alloc (.map #[] 0)) b 0 f := by
  subst hb
  exact ⟨_, World.ownsMap_made w Try.prog 9 _, fun p _ => by rw [hf p]; exact ⟨rfl, rfl⟩⟩
section
variable {w w' : World} {b n : Nat} {f : ByteArray → Option Bool}
theorem OwnsS.kept {row : Option Nat} (h : OwnsS w b n f) (hg : w.grownBy w' row) (hne : some b ≠ row) : OwnsS w' b n f := by
  obtain ⟨D, h1, h2⟩ := h
  exact ⟨D, h1.kept hg hne, h2⟩
theorem OwnsS.alloc (h : OwnsS w b n f) (o : Obj) : OwnsS (w.alloc o) b n f := by
  obtain ⟨D, h1, h2⟩ := h
  exact ⟨D, h1.alloc o, h2⟩
theorem OwnsS.setCell (h : OwnsS w b n f) {a : Addr} (ha : b ≠ a.block) (u : Value) : OwnsS (w.setCell a u) b n f := by
  obtain ⟨D, h1, h2⟩ := h
  exact ⟨D, h1.setCell ha u, h2⟩
theorem OwnsS.drew (h : OwnsS w b n f) : OwnsS w.drew b n f := h
theorem OwnsS.drewN (h : OwnsS w b n f) (m : Nat) : OwnsS (w.drewN m) b n f := h
theorem OwnsS.mono {m : Nat} (h : OwnsS w b n f) (hm : n ≤ m) : OwnsS w b m f := by
  obtain ⟨D, h1, h2⟩ := h
  exact ⟨D, h1.mono hm, h2⟩
theorem OwnsS.lt (h : OwnsS w b n f) : b < w.heap.size := by
  obtain ⟨D, h1, _⟩ := h
  exact h1.lt
theorem OwnsS.below {C : Nat} (h : OwnsS w b n f) (hb : Below C w w') (hC : b < C) : OwnsS w' b n f := by
  obtain ⟨D, ⟨es, cl, h1, h2⟩, h3⟩ := h
  exact ⟨D, ⟨es, cl, (hb.block b hC).trans h1, h2⟩, h3⟩
theorem OwnsS.congr {g : ByteArray → Option Bool} (h : OwnsS w b n f) (hg : ∀ p, f p = g p) : OwnsS w b n g := by
  have : f = g := funext hg
  subst this
  exact h
theorem OwnsS.look (h : OwnsS w b n f) {p : ByteArray} (hp : p.size ≤ maxLen) : (Instr.lookup 113 (.map (some b)) (.string p) false).run Try.prog w = .ok (.bool ((f p).getD false)) w := by
  obtain ⟨D, h1, h2⟩ := h
  obtain ⟨v, ps, hrun, hv⟩ := h1.lookup keyed9 Try.underlying113 (zero4 w) (plainElem_bool Try.underlying4 false) (key9 hp)
  rw [(h2 p hp).2] at hv
  obtain ⟨y, rfl, hy⟩ := plainElem_bool_inv Try.underlying4 hv
  simp at hy
  rw [← hy.1] at hrun
  exact hrun
theorem OwnsS.lookOk (h : OwnsS w b n f) {p : ByteArray} (hp : p.size ≤ maxLen) : (Instr.lookup 113 (.map (some b)) (.string p) true).run Try.prog w = .ok (.tuple #[.bool ((f p).getD false), .bool (f p).isSome]) w := by
  obtain ⟨D, h1, h2⟩ := h
  obtain ⟨v, ps, hrun, hv⟩ := h1.look_ok keyed9 Try.underlying113 (zero4 w) (plainElem_bool Try.underlying4 false) (key9 hp)
  rw [(h2 p hp).2] at hv
  obtain ⟨y, rfl, hy⟩ := plainElem_bool_inv Try.underlying4 hv
  simp at hy
  rw [← hy.1, (h2 p hp).1] at hrun
  exact hrun
theorem OwnsS.put (h : OwnsS w b n f) (hn : n < maxLen) {p : ByteArray} (hp : p.size ≤ maxLen) (x : Bool) :
    ∃ w', (Instr.mapUpdate 113 (.map (some b)) (.string p) (.bool x)).run Try.prog w = .ok () w' ∧ OwnsS w' b (n + 1) (fun q => if q = p then some x else f q) ∧ w.grownBy w' (some b) := by
  obtain ⟨D, h1, h2⟩ := h
  have hD := h1.isMap
  obtain ⟨w', hrun, h3, h4⟩ := h1.update keyed9 Try.underlying113 hn (key9 hp) (plainElem_bool Try.underlying4 x)
  refine ⟨w', hrun, ⟨_, h3, fun q hq => ?_⟩, h4⟩
  by_cases e : q = p
  · subst e
    dsimp only
    rw [if_pos rfl]
    exact ⟨has_put_same hD (keyed9.key (key9 hq)) _, atKey_put_same hD (keyed9.key (key9 hq)) _ _⟩
  · have hne : skey q ≠ skey p := fun h => e (skey_inj h)
    dsimp only
    rw [if_neg e, has_put_other hne, atKey_put_other hne]
    exact h2 q hq
end

/-- a box of the call's own: its cells, which may be written -/
def BoxAt (w : World) (b : Nat) (vs : List Value) : Prop := b < w.heap.size ∧ (∀ j v, vs[j]? = some v → w.cell? ⟨b, j, none⟩ = some v) ∧ ∀ j, w.frozen? ⟨b, j, none⟩ = false
section
variable {w w' : World} {b : Nat} {vs : List Value}
theorem BoxAt.of_block (h : BoxAt w b vs) (hs : w.heap.size ≤ w'.heap.size) (hb : w'.heap[b]? = w.heap[b]?) : BoxAt w' b vs :=
  ⟨Nat.lt_of_lt_of_le h.1 hs, fun j v hv => (World.cell?_of_block (a := ⟨b, j, none⟩) hb).trans (h.2.1 j v hv), fun j => (World.frozen?_of_block (a := ⟨b, j, none⟩) hb).trans (h.2.2 j)⟩
theorem BoxAt.kept {row : Option Nat} (h : BoxAt w b vs) (hg : w.grownBy w' row) (hne : some b ≠ row) : BoxAt w' b vs := h.of_block hg.size (hg.block b h.1 hne)
theorem BoxAt.below {C : Nat} (h : BoxAt w b vs) (hb : Below C w w') (hC : b < C) : BoxAt w' b vs := h.of_block hb.size (hb.block b hC)
theorem BoxAt.call (h : BoxAt w b vs) (hb : Below w.heap.size w w') : BoxAt w' b vs := h.below hb h.1
theorem BoxAt.alloc (h : BoxAt w b vs) (o : Obj) : BoxAt (w.alloc o) b vs := h.call ((Below.refl _ _).alloc (Nat.le_refl _) _)
theorem BoxAt.setOther (h : BoxAt w b vs) (p : Addr) (v : Value) (hne : p.block ≠ b) : BoxAt (w.setCell p v) b vs := h.of_block (by simp) (heap_setCell_other w p b v (fun e => hne e.symm))
theorem BoxAt.drew (h : BoxAt w b vs) : BoxAt w.drew b vs := h
theorem BoxAt.drewN (h : BoxAt w b vs) (m : Nat) : BoxAt (w.drewN m) b vs := h
end
theorem BoxAt.new (w : World) (t : TypeId) (vs : List Value) (b : Nat) (hb : w.heap.size = b) : BoxAt (w.alloc (.cells vs.toArray t)) b vs := by
  subst hb
  refine ⟨by simp, fun j v hv => ?_, fun j => by simp [go_sem]⟩
  have := cells_new w t vs j v hv
  have e : (⟨w.heap.size, 0, none⟩ : Addr).add j = ⟨w.heap.size, j, none⟩ := by unfold Addr.add; split <;> simp_all
  rwa [e] at this
theorem BoxAt.set {w : World} {b : Nat} {vs : List Value} (h : BoxAt w b vs) (j : Nat) (v : Value) (hj : j < vs.length) : BoxAt (w.setCell ⟨b, j, none⟩ v) b (vs.set j v) := by
  refine ⟨by simpa using h.1, fun i u hu => ?_, fun i => by simpa using h.2.2 i⟩
  by_cases e : j = i
  · subst e
    rw [List.getElem?_set_self hj] at hu
    injection hu with hu
    subst hu
    exact World.cell?_setCell_same' w _ _ (by rw [h.2.1 j _ (List.getElem?_eq_getElem hj)]; rfl)
  · rw [List.getElem?_set_ne e] at hu
    have hne : (⟨b, j, none⟩ : Addr) ≠ ⟨b, i, none⟩ := fun h => e (by injection h)
    refine Eq.trans ?_ (h.2.1 i u hu)
    first | exact World.cell?_setCell_other w _ _ _ hne | exact World.cell?_setCell_other w hne | exact World.cell?_setCell_other _ hne
theorem wpList_put_s {w : World} {ops : Array Oper} {rest : List Oper} {o : Oper} {a : Act} {Q : Exit → Act → World → Prop} {b n : Nat} {f : ByteArray → Option Bool}
    (hg : o.guard = none) (m x v : Operand) (hop : o.op = Op.mapUpdate 113 m x v) (hm : a.eval m = .map (some b)) (hown : OwnsS w b n f) (hn : n < maxLen) (p : ByteArray) (y : Bool) (hx : a.eval x = .string p) (hv : a.eval v = .bool y) (hp : p.size ≤ maxLen)
    (hK : ∀ w', OwnsS w' b (n + 1) (fun q => if q = p then some y else f q) → w.grownBy w' (some b) → wpList Try.prog ops Q rest (a.put o.dst undef) w') :
    wpList Try.prog ops Q (o :: rest) a w := by
  refine wpList_plain hg fun K' hK' => ?_
  obtain ⟨w', hrun, r1, r2⟩ := hown.put hn hp y
  unfold Oper.wp
  simp [execOp, hop, hm, hx, hv, hrun, Result.andThen]
  exact hK' _ _ (hK w' r1 r2)
theorem step_put_s {w : World} {c : Prop} [Decidable c] {o : Oper} {a : Act} {K : Act → World → Prop} {Q : Exit → Act → World → Prop} {E : Prop} {b n : Nat} {f : ByteArray → Option Bool}
    (hc : c) (m x v : Operand) (hop : o.op = Op.mapUpdate 113 m x v) (hm : a.eval m = .map (some b)) (hown : OwnsS w b n f) (hn : n < maxLen) (p : ByteArray) (y : Bool) (hx : a.eval x = .string p) (hv : a.eval v = .bool y) (hp : p.size ≤ maxLen)
    (hK : ∀ w', OwnsS w' b (n + 1) (fun q => if q = p then some y else f q) → w.grownBy w' (some b) → K (a.put o.dst undef) w') :
    if c then Oper.wp Try.prog o a w K Q else E := by
  rw [if_pos hc]
  obtain ⟨w', hrun, r1, r2⟩ := hown.put hn hp y
  unfold Oper.wp
  simp [execOp, hop, hm, hx, hv, hrun, Result.andThen]
  exact hK w' r1 r2
end Go.Proofs.Ytjdjfjokniingaa
