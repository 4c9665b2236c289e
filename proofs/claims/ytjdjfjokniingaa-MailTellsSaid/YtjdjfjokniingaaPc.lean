/- A range over a function whose iterator writes a captured box between two rounds. -/
import Derived.Test.YtjdjfjokniingaaPb
import Derived.RangeFuncNested
import Derived.RangeFuncBound
import Derived.RangeFuncCalls
import Derived.RangeFuncLeaves
import Derived.Shelf.Abstract
import Derived.Shelf.RegionOpen
import Derived.WalkKit
import Derived.OwnWalkIn
import Derived.TacticsInMore
import Derived.LoopNIn
import Derived.LoopIn
namespace Go.Proofs.Ytjdjfjokniingaa
open Go.RowKit

/-- What an iterator over N elements does that keeps its own state in the box B: each round is asked in the world that the one before left, with new blocks and with B turned. -/
def SeqBox (n gf : Nat) (lb : Array Value) (encs : Nat → Array Value) (N B : Nat) (w : World) : Prop :=
  ∀ (l : Nat) (J : Nat → World → Prop) (Jx : World → Prop) (W : World), Below w.heap.size w W →
    (∀ k A A', J k A → Below A.heap.size A A' → J k A') →
    (∀ k A v, J k A → J k (A.setCell ⟨B, 0, none⟩ v)) →
    (∀ k A, k < N → J k A → YieldAt Fence.wide (n - 1) Try.prog l (encs k) A fun e A' =>
      (e = .returned (.bool true) ∧ J (k + 1) A' ∧ A'.heap[B]? = A.heap[B]?) ∨ (e = .returned (.bool false) ∧ Jx A')) →
    J 0 W →
    CallsIn Fence.wide n Try.prog gf (#[.func (.yield l) #[] #[]] ++ lb) W fun e W' => (∃ v, e = .returned v) ∧ (J N W' ∨ Jx W')

/-- How a round's body may end: it goes on, B as it was; or it returns. -/
def boxPost (B : Nat) (I Ix : World → Prop) (W : World) : Exit → Act → World → Prop
  | .normal, _, W' => KeepsOthers W W' ∧ W'.heap[B]? = W.heap[B]? ∧ I W'
  | .ret, _, W' => KeepsOthers W W' ∧ Ix W'
  | _, _, _ => False

theorem wpIn_range_box {n : Nat} {g : Operand} {ps : Array Tmp} {assign body : Code} {Q : Exit → Act → World → Prop} {a : Act} {w : World}
    {gf : Nat} {lb : Array Value} (hg : a.eval g = .func (.func gf) #[] lb) (eg : ∀ args w, (callFunc gf args).run Try.prog w = .ok (.enter gf args) w)
    {encs : Nat → Array Value} {N B : Nat} (hseq : SeqBox (n - 1) gf lb encs N B w) (hB : B < w.heap.size) (hps : ∀ k, (encs k).size = ps.size)
    (I : Nat → World → Prop) (Ix : World → Prop)
    (hI1 : ∀ k A A', I k A → Below A.heap.size A A' → I k A')
    (hI2 : ∀ k A v, I k A → I k (A.setCell ⟨B, 0, none⟩ v))
    (hI3 : ∀ k A l o o', I k A → w.heap.size ≤ l → A.heap[l]? = some o' → o'.isCells = false → I k (A.putObj l o))
    (hX3 : ∀ A l o o', Ix A → w.heap.size ≤ l → A.heap[l]? = some o' → o'.isCells = false → Ix (A.putObj l o))
    (h0 : I 0 w) (a₁ : Nat → Act)
    (hassign : ∀ (l k : Nat) (W : World) (K : Act → World → Prop), K (a₁ k) W →
      assign.wpIn (Fence.wide.inRound l) (n - 1 - 1) Try.prog (Exit.then K (fun _ _ _ => False)) { tmps := (ps.zip (encs k)).foldl (fun t (p, v) => t.setIfInBounds p v) a.tmps, defers := [] } W)
    (hbody : ∀ (l k : Nat) (W : World), k < N → I k W → body.wpIn (Fence.wide.inRound l) (n - 1 - 1) Try.prog (boxPost B (I (k + 1)) Ix W) (a₁ k) W)
    (hdone : ∀ (D : Nat) (W : World), w.heap.size ≤ D → I N W → W.heap[D]? = some (.deferred (some [])) → Q .normal { a with defers := { target := .collected D, args := #[] } :: a.defers } W)
    (hstop : ∀ (D : Nat) (W : World), w.heap.size ≤ D → Ix W → W.heap[D]? = some (.deferred (some [])) → Code.ret.wpIn Fence.wide n Try.prog Q { a with defers := { target := .collected D, args := #[] } :: a.defers } W) :
    (Code.rangeFunc g ps assign body).wpIn Fence.wide n Try.prog Q a w := by
  refine wpIn_rangeFunc ?_
  intro fn hfn
  rw [show Fence.wide.round = none from rfl]
  obtain ⟨D, hD⟩ : ∃ D, D = w.heap.size := ⟨_, rfl⟩
  obtain ⟨rec, hrec⟩ : ∃ rec : LoopState → Option Code → Loop, rec = fun st pe => { state := st, pending := pe, fn, tmps := a.tmps, params := ps, assign, body, defers := w.heap.size } := ⟨_, rfl⟩
  obtain ⟨W1, hW1⟩ : ∃ W1, (w.alloc (.deferred (some []))).alloc (.loop (rec .ready none)) = W1 := ⟨_, rfl⟩
  have hbW : Below w.heap.size w W1 := by
    rw [← hW1]; exact ((Below.refl _ w).alloc (Nat.le_refl _) _).alloc (by simp) _
  have hL : W1.heap[D + 1]? = some (.loop (rec .ready none)) := by
    rw [← hW1, hD]
    have := World.alloc_heap_new (w.alloc (.deferred (some []))) (.loop (rec .ready none))
    rwa [World.size_alloc] at this
  have hK : W1.heap[D]? = some (.deferred (some [])) := by
    rw [← hW1, hD]
    exact (Below.heap_alloc _ _ _ (by simp)).trans (World.alloc_heap_new w _)
  refine ⟨w.heap.size + 1, [{ target := .collected w.heap.size, args := #[] }], W1, { target := .fn (.func gf) lb, args := #[.func (.yield (w.heap.size + 1)) #[] #[]] }, W1, gf,
    #[.func (.yield (w.heap.size + 1)) #[] #[]] ++ lb, W1, ?_, ?_, ?_, ?_, fun h => (by simp [Fence.wide] at h), ?_⟩
  · rw [← hW1, hrec]; exact run_enterLoop_outer _ _ _ _ _
  · simp only [resolve, hg]
    simp [go_sem]
  · intro f' _; trivial
  · simp [invoke, go_sem, eg]
  rw [← hD]
  have hlt0 : ∀ {A : World} {st : LoopState} {pe : Option Code}, A.heap[D + 1]? = some (.loop (rec st pe)) → D + 1 < A.heap.size := fun h => (Array.getElem?_eq_some_iff.1 h).1
  refine (hseq (D + 1)
    (fun k A => I k A ∧ A.heap[D + 1]? = some (.loop (rec .ready none)) ∧ A.heap[D]? = some (.deferred (some [])))
    (fun A => Ix A ∧ A.heap[D + 1]? = some (.loop (rec .done (some .ret))) ∧ A.heap[D]? = some (.deferred (some [])))
    W1 hbW ?_ ?_ ?_ ⟨hI1 0 w W1 h0 hbW, hL, hK⟩).mono ?_
  · rintro k A A' ⟨h1, h2, h3⟩ hb
    have := hlt0 h2
    exact ⟨hI1 k A A' h1 hb, (hb.block _ this).trans h2, (hb.block _ (by omega)).trans h3⟩
  · rintro k A v ⟨h1, h2, h3⟩
    have hk := KeepsOthers.setCell A ⟨B, 0, none⟩ v
    exact ⟨hI2 k A v h1, hk.same _ _ h2 rfl, hk.same _ _ h3 rfl⟩
  · rintro k A hkN ⟨hi, hl, hd⟩
    have hlt := hlt0 hl
    have hy := run_yield (P := Try.prog) (args := encs k) hl (by rw [hrec]; exact hps k)
    rw [hrec] at hy
    refine ⟨fn, _, assign, body, hy, roundIn_of_wpIn hfn (hassign _ k A _ ⟨_, run_beginRound hl (by rw [hrec]), ?_⟩)⟩
    have hl2 : (A.putObj (D + 1) (.loop { rec .ready none with state := .busy })).heap[D + 1]? = some (.loop { rec .ready none with state := .busy }) := World.putObj_heap_same hlt
    have hd2 : (A.putObj (D + 1) (.loop { rec .ready none with state := .busy })).heap[D]? = some (.deferred (some [])) := (World.putObj_heap_other (by omega)).trans hd
    have hB2 : (A.putObj (D + 1) (.loop { rec .ready none with state := .busy })).heap[B]? = A.heap[B]? := World.putObj_heap_other (by omega)
    refine wpIn_mono (hbody _ k _ hkN (hI3 k A _ _ _ hi (by omega) hl rfl)) ?_
    intro e a3 W3 hp
    cases e with
    | normal =>
      obtain ⟨hk3, hB3, hi3⟩ := hp
      have hl3 := hk3.same _ _ hl2 rfl
      have hlt3 : D + 1 < W3.heap.size := (Array.getElem?_eq_some_iff.1 hl3).1
      have hr := run_endRound (P := Try.prog) none hl3
      rw [hrec] at hr
      refine ⟨_, _, hr, .inl ⟨rfl, ⟨hI3 _ _ _ _ _ hi3 (by omega) hl3 rfl, ?_, (World.putObj_heap_other (by omega)).trans (hk3.same _ _ hd2 rfl)⟩, (World.putObj_heap_other (by omega)).trans (hB3.trans hB2)⟩⟩
      rw [hrec]
      exact World.putObj_heap_same hlt3
    | ret =>
      obtain ⟨hk3, hi3⟩ := hp
      have hl3 := hk3.same _ _ hl2 rfl
      have hlt3 : D + 1 < W3.heap.size := (Array.getElem?_eq_some_iff.1 hl3).1
      have hr := run_endRound (P := Try.prog) (some .ret) hl3
      rw [hrec] at hr
      refine ⟨_, _, hr, .inr ⟨rfl, hX3 _ _ _ _ hi3 (by omega) hl3 rfl, ?_, (World.putObj_heap_other (by omega)).trans (hk3.same _ _ hd2 rfl)⟩⟩
      rw [hrec]
      exact World.putObj_heap_same hlt3
    | exit id => exact hp.elim
    | goto t => exact hp.elim
    | panic ch => exact hp.elim
    | outgrown => exact hp.elim
  · rintro e W2 ⟨⟨v, rfl⟩, (⟨hi, hl, hd⟩ | ⟨hi, hl, hd⟩)⟩
    · have hlt := hlt0 hl
      refine ⟨none, _, by have := run_endLoop (P := Try.prog) hl (by rw [hrec]; simp); rw [hrec] at this; exact this, ?_⟩
      rw [← hD]
      exact hdone D _ (by omega) (hI3 _ _ _ _ _ hi (by omega) hl rfl) ((World.putObj_heap_other (by omega)).trans hd)
    · have hlt := hlt0 hl
      refine ⟨some .ret, _, by have := run_endLoop (P := Try.prog) hl (by rw [hrec]; simp); rw [hrec] at this; exact this, ?_⟩
      rw [← hD]
      exact hstop D _ (by omega) (hX3 _ _ _ _ hi (by omega) hl rfl) ((World.putObj_heap_other (by omega)).trans hd)
end Go.Proofs.Ytjdjfjokniingaa
