/- A map from keys to bools that the call has made: one word for it, its lookup and its store; the key of a channel. -/
import Derived.Test.YtjdjfjokniingaaRows
import Derived.Test.YtjdjfjokniingaaKit
import Derived.Maps.Own
import Derived.Maps.Views
import Derived.DeepKeys4
namespace Go.Proofs.Ytjdjfjokniingaa
open Go.RowKit Go.Maps

theorem laidOut : laidOutB Try.prog = true := by kernel_rfl
theorem zero4 (w : World) : (zeroValue 4).run Try.prog w = .ok (.bool false) w := by kernel_rfl

theorem plainElem_bool_inv {H : Type} {P : Program} {e : TypeId} (he : P.underlying e = some .bool) {v : Value} {z : DataW H × List MemPlace} (h : plainElem P e v = some z) : ∃ x, v = .bool x ∧ z = (.lit (.bool x), []) := by
  unfold plainElem at h
  rw [he] at h
  cases v <;> simp at h
  exact ⟨_, rfl, h.symm⟩

/-- block b is a map of at most n entries, and what it holds at a key (false where it holds nothing) is whether p -/
def OwnsB (w : World) (kt : TypeId) (b n : Nat) (p : Lit → Prop) : Prop :=
  ∃ D : DataW Unit, w.ownsMap Try.prog kt (plainElem Try.prog 4) b n D ∧ ∀ kl, WideAt.IsKeyLit kl → ∃ x : Bool, D.atKey kl (.lit (.bool false)) = .lit (.bool x) ∧ (x = true ↔ p kl)

theorem OwnsB.made (w : World) (kt : TypeId) : OwnsB (w.alloc (.map #[] 0)) kt w.heap.size 0 (fun _ => False) :=
  ⟨_, World.ownsMap_made w Try.prog kt _, fun _ _ => ⟨false, rfl, by simp⟩⟩
theorem OwnsB.made' {w : World} {kt : TypeId} {b : Nat} {p : Lit → Prop} (hb : b = w.heap.size) (hp : ∀ l, ¬ p l) : OwnsB (w.alloc (.map #[] 0)) kt b 0 p := by
  subst hb
  exact ⟨_, World.ownsMap_made w Try.prog kt _, fun l _ => ⟨false, rfl, by simp [hp l]⟩⟩
section
variable {w w' : World} {kt : TypeId} {b n : Nat} {p : Lit → Prop}
theorem OwnsB.kept {row : Option Nat} (h : OwnsB w kt b n p) (hg : w.grownBy w' row) (hne : some b ≠ row) : OwnsB w' kt b n p := by
  obtain ⟨D, h1, h2⟩ := h
  exact ⟨D, h1.kept hg hne, h2⟩
theorem OwnsB.alloc (h : OwnsB w kt b n p) (o : Obj) : OwnsB (w.alloc o) kt b n p := by
  obtain ⟨D, h1, h2⟩ := h
  exact ⟨D, h1.alloc o, h2⟩
theorem OwnsB.drew (h : OwnsB w kt b n p) : OwnsB w.drew kt b n p := h
theorem OwnsB.drewN (h : OwnsB w kt b n p) (m : Nat) : OwnsB (w.drewN m) kt b n p := h
theorem OwnsB.iff_ {q : Lit → Prop} (h : OwnsB w kt b n p) (hpq : ∀ l, p l ↔ q l) : OwnsB w kt b n q := by
  obtain ⟨D, h1, h2⟩ := h
  exact ⟨D, h1, fun l hl => let ⟨x, e, hx⟩ := h2 l hl; ⟨x, e, hx.trans (hpq l)⟩⟩
theorem OwnsB.mono {m : Nat} (h : OwnsB w kt b n p) (hm : n ≤ m) : OwnsB w kt b m p := by
  obtain ⟨D, h1, h2⟩ := h
  exact ⟨D, h1.mono hm, h2⟩
theorem OwnsB.lt (h : OwnsB w kt b n p) : b < w.heap.size := by
  obtain ⟨D, h1, _⟩ := h
  exact h1.lt
theorem OwnsB.below {C : Nat} (h : OwnsB w kt b n p) (hb : Below C w w') (hC : b < C) : OwnsB w' kt b n p := by
  obtain ⟨D, ⟨es, cl, h1, h2⟩, h3⟩ := h
  exact ⟨D, ⟨es, cl, (hb.block b hC).trans h1, h2⟩, h3⟩
theorem OwnsB.look {t : TypeId} (h : OwnsB w kt b n p) (K : Keyed Try.prog kt) (ht : Try.prog.underlying t = some (.map kt 4)) {key : Value} {kl : Lit} (hkey : keyOf Try.prog kt key = some kl) :
    ∃ x : Bool, (Instr.lookup t (.map (some b)) key false).run Try.prog w = .ok (.bool x) w ∧ (x = true ↔ p kl) := by
  obtain ⟨D, h1, h2⟩ := h
  obtain ⟨v, ps, hrun, hv⟩ := h1.lookup K ht (zero4 w) (plainElem_bool Try.underlying4 false) hkey
  obtain ⟨x, hx, hp⟩ := h2 kl (K.key hkey)
  rw [hx] at hv
  obtain ⟨y, rfl, hy⟩ := plainElem_bool_inv Try.underlying4 hv
  simp at hy
  rw [← hy.1] at hrun
  exact ⟨x, hrun, hp⟩
theorem OwnsB.put {t : TypeId} (h : OwnsB w kt b n p) (K : Keyed Try.prog kt) (ht : Try.prog.underlying t = some (.map kt 4)) (hn : n < maxLen) {key : Value} {kl : Lit} (hkey : keyOf Try.prog kt key = some kl) (x : Bool) :
    ∃ w', (Instr.mapUpdate t (.map (some b)) key (.bool x)).run Try.prog w = .ok () w' ∧ OwnsB w' kt b (n + 1) (fun l => (l = kl ∧ x = true) ∨ (l ≠ kl ∧ p l)) ∧ w.grownBy w' (some b) := by
  obtain ⟨D, h1, h2⟩ := h
  obtain ⟨w', hrun, h3, h4⟩ := h1.update K ht hn hkey (plainElem_bool Try.underlying4 x)
  refine ⟨w', hrun, ⟨_, h3, fun l hl => ?_⟩, h4⟩
  by_cases e : l = kl
  · subst e
    obtain ⟨es, cl, _, _, _, rfl⟩ := h1
    exact ⟨x, atKey_put_same ⟨_, rfl⟩ hl _ _, by simp⟩
  · obtain ⟨y, hy, hp⟩ := h2 l hl
    exact ⟨y, by rw [atKey_put_other e, hy], by simp [e, hp]⟩
end

theorem wpList_put_b {w : World} {ops : Array Oper} {rest : List Oper} {o : Oper} {a : Act} {Q : Exit → Act → World → Prop} {kt : TypeId} {b n : Nat} {p : Lit → Prop}
    (hg : o.guard = none) (m x v : Operand) (t : TypeId) (hop : o.op = Op.mapUpdate t m x v) (K : Keyed Try.prog kt) (ht : Try.prog.underlying t = some (.map kt 4))
    (hm : a.eval m = .map (some b)) (hown : OwnsB w kt b n p) (hn : n < maxLen) (key : Value) (kl : Lit) (y : Bool) (hx : a.eval x = key) (hv : a.eval v = .bool y) (hkey : keyOf Try.prog kt key = some kl)
    (hK : ∀ w', OwnsB w' kt b (n + 1) (fun l => (l = kl ∧ y = true) ∨ (l ≠ kl ∧ p l)) → w.grownBy w' (some b) → wpList Try.prog ops Q rest (a.put o.dst undef) w') :
    wpList Try.prog ops Q (o :: rest) a w := by
  refine wpList_plain hg fun K' hK' => ?_
  obtain ⟨w', hrun, r1, r2⟩ := hown.put K ht hn hkey y
  unfold Oper.wp
  simp [execOp, hop, hm, hx, hv, hrun, Result.andThen]
  exact hK' _ _ (hK w' r1 r2)

/-- the key of a channel -/
def chKey (c : Int × Int) : Lit := .string (keyBytes [.int .i64 c.1, .int .i64 c.2])
theorem keyType122 : Try.prog.keyType 122 = true := by kernel_rfl
theorem cells122 : Try.prog.cellsOf 122 = 2 := by kernel_rfl
theorem cells3 : Try.prog.cellsOf 3 = 1 := by kernel_rfl
theorem types_size : ∃ m, Try.prog.types.size = m + 1 := ⟨Try.prog.types.size - 1, by have : 1 ≤ Try.prog.types.size := of_decide_eq_true (by kernel_rfl); omega⟩
theorem keyed122 : Keyed Try.prog 122 := Keyed.of_law (deep_law_laid laidOut (m := 2) (by omega) (of_decide_eq_true (by kernel_rfl)) (by kernel_rfl) (by rw [Try.underlying122]))
theorem keyOf_ch (c : Int × Int) (h1 : (Lit.int .i64 c.1).wf = true) (h2 : (Lit.int .i64 c.2).wf = true) : keyOf Try.prog 122 (.agg #[.int .i64 c.1, .int .i64 c.2]) = some (chKey c) := by
  obtain ⟨m, hm⟩ := types_size
  unfold keyOf
  rw [Try.underlying122]
  simp only
  rw [if_pos (by simp [keyType122, Value.formed, Try.underlying122, cells122]), hm]
  unfold Program.keyLits
  rw [Try.underlying122]
  simp [Value.cells, cells122, cells3, Program.keyLits, Try.underlying3, h1, h2, chKey]
theorem chKey_inj {c d : Int × Int} (h1 : (Lit.int .i64 c.1).wf = true) (h2 : (Lit.int .i64 c.2).wf = true) (h3 : (Lit.int .i64 d.1).wf = true) (h4 : (Lit.int .i64 d.2).wf = true) (h : chKey c = chKey d) : c = d := by
  have e := keyed122.inj (keyOf_ch c h1 h2) (h ▸ keyOf_ch d h3 h4)
  simp at e
  exact Prod.ext e.1 e.2
end Go.Proofs.Ytjdjfjokniingaa
