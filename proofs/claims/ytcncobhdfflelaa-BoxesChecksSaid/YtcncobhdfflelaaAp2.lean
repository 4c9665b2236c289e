/- append onto an empty literal: the result reads as what was appended, and nothing that was there has changed. -/
import Derived.Test.YtcncobhdfflelaaAp
import Derived.Laws.OwnMore
namespace Go.Proofs.Ytcncobhdfflelaa
open Go.RowKit

/-- a slice's three words -/
structure Sl where
  a : Option Addr
  n : Nat
  c : Nat

theorem own_rd {w : World} {base e k n c : Nat} {A : Option Addr} {xs : List Value} (h : w.ownsRow base e k (.slice A n c) n xs) : Rd w w.heap.size k A n xs := by
  obtain ⟨h1, h2⟩ := h
  refine ⟨h1, fun hn => ?_⟩
  rcases h2 with ⟨_, h0⟩ | ⟨g, cap, cur, hv, _, hg, hnc, _, hsz, htk⟩
  · omega
  · injection hv with hA hn' hc'
    subst hA hc'
    have hb : g < w.heap.size := (Array.getElem?_eq_some_iff.1 hg).1
    refine ⟨g, 0, rfl, hb, fun j u hu => ?_⟩
    have hj : j < n * k := by rw [← h1]; exact (List.getElem?_eq_some_iff.1 hu).1
    have := World.ownsRow.cellAt (w := w) (base := base) (e := e) (size := k) (g := g) (n := n) (cap := c) (xs := xs) ⟨h1, .inr ⟨g, c, cur, rfl, by assumption, hg, hnc, by assumption, hsz, htk⟩⟩ j hj
    rw [Nat.zero_add, this, hu]

theorem own_sl {w : World} {base e k n : Nat} {v : Value} {xs : List Value} (h : w.ownsRow base e k v n xs) : ∃ u : Sl, u.n = n ∧ v = .slice u.a n u.c ∧ ∀ g, u.a.map (·.block) = some g → base ≤ g := by
  rcases h.2 with ⟨rfl, rfl⟩ | ⟨g, cap, cur, rfl, hb, _⟩
  · exact ⟨⟨none, 0, 0⟩, rfl, rfl, fun g h => by cases h⟩
  · exact ⟨⟨some ⟨g, 0, none⟩, n, cap⟩, rfl, rfl, fun g' h => by simp at h; omega⟩

section
variable {P : Program}
theorem wpList_append_lit {ops : Array Oper} {rest : List Oper} {o : Oper} {a : Act} {Q : Exit → Act → World → Prop} (W : World) (T : TypeId) (hgd : o.guard = none) (s x : Operand) (t : TypeId)
    (ho : o.op = .call { callee := .builtin .append, args := #[s, x], argTypes := #[t, t] })
    (i : TypeInfo) (z : Value) (size bytes : Nat) (ht : P.underlying t = some (.slice T)) (hi : P.info? T = some i) (hz : i.zero = some z)
    (hsize : i.size = size) (hby : i.bytes = bytes) (hzs : z.cells.size = size) (hsz : 0 < size)
    (g : Nat) (hs : a.eval s = .slice (some ⟨g, 0, none⟩) 0 0) (hg : W.heap.size = g) (B : Nat) (A : Option Addr) (m c : Nat) (news : List Value) (hx : a.eval x = .slice A m c) (hr : Rd W B size A m news) (hB : B ≤ W.heap.size) (h1 : ∀ u ∈ news, u.oneCell' = true)
    (h63 : m ≤ 9223372036854775807) (hbytes : m * bytes ≤ 140737488355328)
    (h : ∀ (u : Sl) w', Rd w' w'.heap.size size u.a m news → w'.ownsRow W.heap.size T size (.slice u.a m u.c) m news → Below W.heap.size W w' → wpList P ops Q rest (a.put o.dst (.slice u.a m u.c)) w') : wpList P ops Q (o :: rest) a (W.alloc (.cells #[] T)) := by
  subst hg
  have hml : maxLen = 9223372036854775807 := by unfold maxLen; decide
  refine wpList_append_rd _ hgd s x t ho W.heap.size T i z size bytes ht hi hz hsize hby hzs hsz (.slice (some ⟨W.heap.size, 0, none⟩) 0 0) 0 [] hs (World.ownsRow_lit W #[] 0 (Nat.le_refl _) (Nat.zero_le _) (by simp)) B A m c news hx
    (hr.below ((Below.refl _ _).alloc (Nat.le_refl _) _) hB) h1 (by rw [hml]; omega) (by simpa using hbytes) (by simp) (fun v' w' ho hg => ?_)
  have ho' : w'.ownsRow W.heap.size T size v' m news := by simpa using ho
  obtain ⟨u, hu, rfl, _⟩ := own_sl ho'
  refine h u w' (own_rd ho') ho' (((Below.refl _ _).alloc (Nat.le_refl _) _).grown hg (by simp) (fun k hk => ?_))
  injection hk with hk
  subst hk
  exact Nat.le_refl _
end
end Go.Proofs.Ytcncobhdfflelaa
