/- A class of worlds for the lexical walk of a region that draws: nothing below B has changed, and the listed cells hold the listed values. -/
import Derived.Test.YtjdppnkmhgihnaaQuiet
import Derived.Below
namespace Go.Proofs.Ytjdppnkmhgihnaa
open Go.RowKit

def CellsAre : List (Nat × Nat × Value) → World → Prop
  | [], _ => True
  | p :: r, w => w.cell? ⟨p.1, p.2.1, none⟩ = some p.2.2 ∧ CellsAre r w
def InHeap : List (Nat × Nat × Value) → World → Prop
  | [], _ => True
  | p :: r, w => p.1 < w.heap.size ∧ InHeap r w

theorem CellsAre.keep {W w1 : World} (hb : Below W.heap.size W w1) : ∀ {L : List (Nat × Nat × Value)}, InHeap L W → CellsAre L W → CellsAre L w1
  | [], _, _ => trivial
  | p :: _, hi, h => ⟨(hb.cell (p := ⟨p.1, p.2.1, none⟩) hi.1).trans h.1, CellsAre.keep hb hi.2 h.2⟩
theorem InHeap.keep {W w1 : World} (hb : Below W.heap.size W w1) : ∀ {L : List (Nat × Nat × Value)}, InHeap L W → InHeap L w1
  | [], _ => trivial
  | _ :: _, hi => ⟨Nat.lt_of_lt_of_le hi.1 hb.size, InHeap.keep hb hi.2⟩
theorem CellsAre.drew : ∀ {W : World} {L : List (Nat × Nat × Value)}, CellsAre L W → CellsAre L W.drew
  | _, [], _ => trivial
  | _, _ :: _, h => ⟨h.1, CellsAre.drew h.2⟩
theorem InHeap.drew : ∀ {W : World} {L : List (Nat × Nat × Value)}, InHeap L W → InHeap L W.drew
  | _, [], _ => trivial
  | _, _ :: _, h => ⟨h.1, InHeap.drew h.2⟩

/-- since w nothing below w's end has changed, and the cells of L are there -/
def HeldAt (w : World) (L : List (Nat × Nat × Value)) (wx : World) : Prop := Below w.heap.size w wx ∧ InHeap L wx ∧ CellsAre L wx

theorem HeldAt.call {w W w1 : World} {L : List (Nat × Nat × Value)} (h : HeldAt w L W) (hb : Below W.heap.size W w1) : HeldAt w L w1 :=
  ⟨h.1.trans (hb.mono h.1.size), h.2.1.keep hb, CellsAre.keep hb h.2.1 h.2.2⟩
theorem HeldAt.drew {w W : World} {L : List (Nat × Nat × Value)} (h : HeldAt w L W) : HeldAt w L W.drew := ⟨h.1.drew, h.2.1.drew, h.2.2.drew⟩
end Go.Proofs.Ytjdppnkmhgihnaa
