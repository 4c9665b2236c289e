/- Values as trees, and what it means that a slice of values reads as a list of trees. -/
import Derived.Test.YtjdjfjokniingaaDat
namespace Go.Proofs.Ytjdjfjokniingaa
open Go.RowKit

inductive Tr where
  | node (kind : Int) (t : ByteArray) (n m : Int) (s : ByteArray) (l : List Tr)
def Tr.kind : Tr → Int | .node k _ _ _ _ _ => k
def Tr.t : Tr → ByteArray | .node _ t _ _ _ _ => t
def Tr.n : Tr → Int | .node _ _ n _ _ _ => n
def Tr.m : Tr → Int | .node _ _ _ m _ _ => m
def Tr.s : Tr → ByteArray | .node _ _ _ _ s _ => s
def Tr.l : Tr → List Tr | .node _ _ _ _ _ l => l

/-- the six cells of a value whose list is the slice v -/
abbrev valL (p : Tr × Sl) : List Value := [.int .i64 p.1.kind, .string p.1.t, .int .i64 p.1.n, .int .i64 p.1.m, .string p.1.s, .slice p.2.a p.2.n p.2.c]

/-- the slice at A reads, to the depth d, as the trees ts; all of it below block B, no list longer than M -/
def RdV (w : World) (B M : Nat) : Nat → List Tr → Option Addr → Prop
  | 0, ts, _ => ts = []
  | d + 1, ts, A => ∃ ps : List (Tr × Sl), ps.map (·.1) = ts ∧ ps.length ≤ M ∧ Rd w B 6 A ps.length (ps.flatMap valL) ∧ ∀ p ∈ ps, p.2.n = p.1.l.length ∧ RdV w B M d p.1.l p.2.a

theorem RdV.keep {w w' : World} {B B' M : Nat} (hk : ∀ b o, b < B → w'.cell? ⟨b, o, none⟩ = w.cell? ⟨b, o, none⟩) (hB : B ≤ B') : ∀ (d : Nat) (ts : List Tr) (A : Option Addr), RdV w B M d ts A → RdV w' B' M d ts A
  | 0, _, _, h => h
  | d + 1, _, _, ⟨ps, h1, hm, h2, h3⟩ => ⟨ps, h1, hm, (h2.keep hk).more hB, fun p hp => ⟨(h3 p hp).1, RdV.keep hk hB d _ _ (h3 p hp).2⟩⟩
theorem RdV.below {w w' : World} {d M : Nat} {ts : List Tr} {A : Option Addr} (h : RdV w w.heap.size M d ts A) (hb : Below w.heap.size w w') : RdV w' w'.heap.size M d ts A :=
  RdV.keep (fun b o hlt => hb.cell (p := ⟨b, o, none⟩) hlt) hb.size d ts A h
theorem RdV.nil_ {w : World} {B M d : Nat} {A : Option Addr} : RdV w B M d [] A := by
  cases d with
  | zero => rfl
  | succ d => exact ⟨[], rfl, Nat.zero_le _, Rd.none_, by simp⟩
theorem RdV.deeper {w : World} {B M : Nat} : ∀ (d : Nat) (ts : List Tr) (A : Option Addr), RdV w B M d ts A → RdV w B M (d + 1) ts A
  | 0, _, _, h => by cases h; exact RdV.nil_
  | d + 1, _, _, ⟨ps, h1, hm, h2, h3⟩ => ⟨ps, h1, hm, h2, fun p hp => ⟨(h3 p hp).1, RdV.deeper d _ _ (h3 p hp).2⟩⟩
theorem RdV.deep {w : World} {B M : Nat} {d e : Nat} (h : d ≤ e) {ts : List Tr} {A : Option Addr} (hr : RdV w B M d ts A) : RdV w B M e ts A := by
  induction h with
  | refl => exact hr
  | step _ ih => exact RdV.deeper _ _ _ ih
theorem RdV.len {w : World} {B M d : Nat} {ts : List Tr} {A : Option Addr} (h : RdV w B M d ts A) : ts.length ≤ M := by
  cases d with
  | zero => cases h; exact Nat.zero_le _
  | succ d => obtain ⟨ps, h1, h2, _⟩ := h; rw [← h1]; simpa using h2
/-- element k of the trees -/
theorem RdV.at_ {w : World} {B M d : Nat} {ts : List Tr} {A : Option Addr} (h : RdV w B M d ts A) {k : Nat} (hk : k < ts.length) :
    ∃ b off x v d', ts[k]? = some x ∧ A = some ⟨b, off, none⟩ ∧ b < B ∧ d = d' + 1 ∧ v.n = x.l.length ∧ RdV w B M d' x.l v.a ∧ ∀ j u, (valL (x, v))[j]? = some u → w.cell? ⟨b, off + k * 6 + j, none⟩ = some u := by
  cases d with
  | zero => cases h; simp at hk
  | succ d =>
    obtain ⟨ps, h1, _, h2, h3⟩ := h
    have hl : ps.length = ts.length := by rw [← h1]; simp
    obtain ⟨b, off, p, e1, e2, e3, e4⟩ := h2.at_ (fun _ => rfl) (by omega) (i := k) (by omega)
    have hp := h3 p (List.mem_of_getElem? e3)
    exact ⟨b, off, p.1, p.2, d, by rw [← h1, List.getElem?_map, e3]; rfl, e1, e2, rfl, hp.1, hp.2, e4⟩
end Go.Proofs.Ytjdjfjokniingaa
