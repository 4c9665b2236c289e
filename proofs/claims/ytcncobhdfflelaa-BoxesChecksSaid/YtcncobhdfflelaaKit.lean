/- Words for memory, steps of the lexical walk of a region that draws its order, and the row's last step. -/
import Derived.Deep.Quiet
import Derived.Deep.QuietTactic
import Derived.Below
import Derived.ProofKit
import Derived.WalkKit
import Derived.WalkSpells
import Derived.WalkLawsBesides
import Derived.Lib.Hide
import Derived.BigQuiet
import Derived.Deep.RegionHeld3
import Derived.Deep.DeepCutAuto
namespace Go.Proofs.Ytcncobhdfflelaa
open Go.RowKit

section
variable {P : Program} {ops : Array Oper} {C : World → Prop} {Q : Act → Prop} {a : Act} {o : Oper} {rest : List Oper}

theorem quiet_start {l : List Oper} {id : Nat} {Q : Exit → Act → World → Prop} {w : World} (C : World → Prop) (hm : P.follows .mixedOrders = true) (hB : Region.lexB .any l.toArray = true) (hC : C w.drew)
    (h : wpQuiet P l.toArray C (fun a' => ∀ w', C w' → Q .normal a' w') l a) : (Code.region id l.toArray true).wp P Q a w :=
  wp_region_quiet (C := C) hm hB hC (by simpa using h)

theorem quiet_skip (hw : Region.wanted o (yielded ops a.tmps) = false) (k : wpQuiet P ops C Q rest (a.put o.dst undef)) : wpQuiet P ops C Q (o :: rest) a := by
  unfold wpQuiet; rw [hw]; exact k

theorem quiet_value (v : Value) (hw : Region.wanted o (yielded ops a.tmps) = true) (h : ∀ w, C w → (execOp a.eval o).run P w = .ok (.value v) w)
    (k : wpQuiet P ops C Q rest (a.put o.dst v)) : wpQuiet P ops C Q (o :: rest) a := by
  unfold wpQuiet; rw [if_pos hw]
  exact ⟨v, fun w hc => by unfold Oper.quietAt; rw [h w hc]; exact ⟨rfl, rfl⟩, k⟩

theorem quiet_call (v : Value) (f : FuncId) (args : Array Value) (hw : Region.wanted o (yielded ops a.tmps) = true) (h : ∀ w, C w → (execOp a.eval o).run P w = .ok (.enter f args) w)
    (hc : ∀ w, C w → Calls P f args w fun e w'' => e = .returned v ∧ C w'') (k : wpQuiet P ops C Q rest (a.put o.dst v)) : wpQuiet P ops C Q (o :: rest) a := by
  unfold wpQuiet; rw [if_pos hw]
  exact ⟨v, fun w hcw => by unfold Oper.quietAt; rw [h w hcw]; exact ⟨rfl, hc w hcw⟩, k⟩

theorem quiet_value_plain (v : Value) (hg : o.guard = none) (h : ∀ w, C w → (execOp a.eval o).run P w = .ok (.value v) w)
    (k : wpQuiet P ops C Q rest (a.put o.dst v)) : wpQuiet P ops C Q (o :: rest) a := quiet_value v (by simp [Region.wanted, hg]) h k

theorem quiet_call_plain (v : Value) (f : FuncId) (args : Array Value) (hg : o.guard = none) (h : ∀ w, C w → (execOp a.eval o).run P w = .ok (.enter f args) w)
    (hc : ∀ w, C w → Calls P f args w fun e w'' => e = .returned v ∧ C w'') (k : wpQuiet P ops C Q rest (a.put o.dst v)) : wpQuiet P ops C Q (o :: rest) a := quiet_call v f args (by simp [Region.wanted, hg]) h hc k

theorem wanted_plain {o : Oper} {f : Nat → Option Bool} (hg : o.guard = none) : Region.wanted o f = true := by simp [Region.wanted, hg]
end

def CellsAre : List (Nat × Nat × Value) → World → Prop
  | [], _ => True
  | p :: r, w => w.cell? ⟨p.1, p.2.1, none⟩ = some p.2.2 ∧ CellsAre r w
def InHeap : List (Nat × Nat × Value) → World → Prop
  | [], _ => True
  | p :: r, w => p.1 < w.heap.size ∧ InHeap r w

theorem CellsAre.keep {W w1 : World} (hb : Below W.heap.size W w1) : ∀ {L : List (Nat × Nat × Value)}, InHeap L W → CellsAre L W → CellsAre L w1
  | [], _, _ => trivial
  | p :: _, hi, h => ⟨(hb.cell (p := ⟨p.1, p.2.1, none⟩) hi.1).trans h.1, CellsAre.keep hb hi.2 h.2⟩
theorem InHeap.keep {W w1 : World} (hb : Below W.heap.size W w1) : ∀ {L : List (Nat × Nat × Value)}, InHeap L W → InHeap L w1
  | [], _ => trivial
  | _ :: _, hi => ⟨Nat.lt_of_lt_of_le hi.1 hb.size, InHeap.keep hb hi.2⟩
theorem CellsAre.drew : ∀ {W : World} {L : List (Nat × Nat × Value)}, CellsAre L W → CellsAre L W.drew
  | _, [], _ => trivial
  | _, _ :: _, h => ⟨h.1, CellsAre.drew h.2⟩
theorem InHeap.drew : ∀ {W : World} {L : List (Nat × Nat × Value)}, InHeap L W → InHeap L W.drew
  | _, [], _ => trivial
  | _, _ :: _, h => ⟨h.1, InHeap.drew h.2⟩

/-- since w nothing below w's end has changed, and the cells of L are there -/
def HeldAt (w : World) (L : List (Nat × Nat × Value)) (wx : World) : Prop := Below w.heap.size w wx ∧ InHeap L wx ∧ CellsAre L wx

theorem HeldAt.call {w W w1 : World} {L : List (Nat × Nat × Value)} (h : HeldAt w L W) (hb : Below W.heap.size W w1) : HeldAt w L w1 :=
  ⟨h.1.trans (hb.mono h.1.size), h.2.1.keep hb, CellsAre.keep hb h.2.1 h.2.2⟩
theorem HeldAt.drew {w W : World} {L : List (Nat × Nat × Value)} (h : HeldAt w L W) : HeldAt w L W.drew := ⟨h.1.drew, h.2.1.drew, h.2.2.drew⟩

theorem bcell {W w1 : World} (hb : Below W.heap.size W w1) : (∀ b o, b < W.heap.size → w1.cell? ⟨b, o, none⟩ = W.cell? ⟨b, o, none⟩) ∧ (∀ b o, b < W.heap.size → w1.frozen? ⟨b, o, none⟩ = W.frozen? ⟨b, o, none⟩) :=
  ⟨fun b o h => hb.cell (p := ⟨b, o, none⟩) h, fun b o h => hb.frozen (p := ⟨b, o, none⟩) h⟩
theorem keepB {W w1 : World} (hb : Below W.heap.size W w1) (B : Nat) (h : B < W.heap.size) :
    B < w1.heap.size ∧ (∀ o, w1.cell? ⟨B, o, none⟩ = W.cell? ⟨B, o, none⟩) ∧ (∀ o, w1.frozen? ⟨B, o, none⟩ = W.frozen? ⟨B, o, none⟩) :=
  ⟨Nat.lt_of_lt_of_le h hb.size, fun o => (bcell hb).1 B o h, fun o => (bcell hb).2 B o h⟩
theorem Below.call {w W w1 : World} (h : Below w.heap.size w W) (hb : Below W.heap.size W w1) : Below w.heap.size w w1 := h.trans (hb.mono h.size)
theorem below_drewN {B : Nat} {a w : World} (h : Below B a w) (n : Nat) : Below B a (w.drewN n) := ⟨h.os, h.tape, h.output, h.size, h.block⟩
theorem ret_bool {a b : Bool} (h : a = b) : Ending.returned (.bool a) = .returned (.bool b) := by rw [h]
theorem ret_int {k : IntKind} {a b : Int} (h : a = b) : Ending.returned (.int k a) = .returned (.int k b) := by rw [h]

/-- the slice (address A, n elements of k cells) lies below block B and holds the cells xs -/
def Rd (w : World) (B k : Nat) (A : Option Addr) (n : Nat) (xs : List Value) : Prop :=
  xs.length = n * k ∧ (0 < n → ∃ b off, A = some ⟨b, off, none⟩ ∧ b < B ∧ ∀ j u, xs[j]? = some u → w.cell? ⟨b, off + j, none⟩ = some u)

section
variable {w w' : World} {B B' k n : Nat} {A : Option Addr} {xs : List Value}
theorem Rd.none_ : Rd w B k A 0 [] := ⟨by simp, fun h => absurd h (by omega)⟩
theorem Rd.keep (h : Rd w B k A n xs) (hk : ∀ b o, b < B → w'.cell? ⟨b, o, none⟩ = w.cell? ⟨b, o, none⟩) : Rd w' B k A n xs :=
  ⟨h.1, fun hn => by
    obtain ⟨b, off, e, hb, hc⟩ := h.2 hn
    exact ⟨b, off, e, hb, fun j u hu => (hk _ _ hb).trans (hc j u hu)⟩⟩
theorem Rd.more (h : Rd w B k A n xs) (hB : B ≤ B') : Rd w B' k A n xs :=
  ⟨h.1, fun hn => by
    obtain ⟨b, off, e, hb, hc⟩ := h.2 hn
    exact ⟨b, off, e, by omega, hc⟩⟩
theorem Rd.below (h : Rd w B k A n xs) {C : Nat} (hb : Below C w w') (hC : B ≤ C) : Rd w' B k A n xs := h.keep fun b o hp => hb.cell (p := ⟨b, o, none⟩) (show b < C by omega)
theorem Rd.drew (h : Rd w B k A n xs) : Rd w.drew B k A n xs := h
theorem Rd.drewN (h : Rd w B k A n xs) (m : Nat) : Rd (w.drewN m) B k A n xs := h
/-- element i of a row of records: its cells, at the places that the walk computes -/
theorem Rd.at_ {α : Type} {rs : List α} {enc : α → List Value} (h : Rd w B k A n (rs.flatMap enc)) (hk : ∀ r, (enc r).length = k) (h0 : 0 < k) {i : Nat} (hi : i < n) :
    ∃ b off r, A = some ⟨b, off, none⟩ ∧ b < B ∧ rs[i]? = some r ∧ ∀ j u, (enc r)[j]? = some u → w.cell? ⟨b, off + i * k + j, none⟩ = some u := by
  obtain ⟨b, off, e, hb, hc⟩ := h.2 (by omega)
  have key : ∀ (rs : List α) (i : Nat), i * k < (rs.flatMap enc).length → ∃ r, rs[i]? = some r ∧ ∀ j u, (enc r)[j]? = some u → (rs.flatMap enc)[i * k + j]? = some u := by
    intro rs
    induction rs with
    | nil => intro i hi; simp at hi
    | cons r rs ih =>
      intro i hi
      cases i with
      | zero => exact ⟨r, rfl, fun j u hu => by
          have hl : j < (enc r).length := (List.getElem?_eq_some_iff.1 hu).1
          rw [List.flatMap_cons, Nat.zero_mul, Nat.zero_add, List.getElem?_append_left hl]; exact hu⟩
      | succ i =>
        rw [List.flatMap_cons, List.length_append, hk, Nat.succ_mul] at hi
        obtain ⟨r', h1, h2⟩ := ih i (by omega)
        refine ⟨r', by simpa using h1, fun j u hu => ?_⟩
        rw [List.flatMap_cons, List.getElem?_append_right (by rw [hk, Nat.succ_mul]; omega), hk, Nat.succ_mul]
        rw [show i * k + k + j - k = i * k + j by omega]
        exact h2 j u hu
  have hlt : i * k < (rs.flatMap enc).length := by
    rw [h.1]; exact Nat.mul_lt_mul_of_pos_right hi h0
  obtain ⟨r, h1, h2⟩ := key rs i hlt
  exact ⟨b, off, r, e, hb, h1, fun j u hu => by rw [Nat.add_assoc]; exact hc _ _ (h2 j u hu)⟩
theorem Rd.len {α : Type} {rs : List α} {enc : α → List Value} (h : Rd w B k A n (rs.flatMap enc)) (hk : ∀ r, (enc r).length = k) (h0 : 0 < k) : rs.length = n := by
  have e : (rs.flatMap enc).length = rs.length * k := by
    induction rs with
    | nil => simp
    | cons r rs ih =>
      have ih' : (rs.flatMap enc).length = rs.length * k := by
        clear h ih
        induction rs with
        | nil => simp
        | cons r rs ih => rw [List.flatMap_cons, List.length_append, hk, ih, List.length_cons, Nat.succ_mul]; omega
      rw [List.flatMap_cons, List.length_append, hk, ih', List.length_cons, Nat.succ_mul]; omega
  exact Nat.eq_of_mul_eq_mul_right h0 (e.symm.trans h.1)
end

open Go.ChangeShapes in
theorem args_back {H : Type} {enc : TypeId × Value → H} {P : Program} (hl : laidOutB P = true) {W W' : World} (hb : Below W.heap.size W W') :
    ∀ (ts : List TypeId) (vs : List Value) (ds : List (DataW H)) (ps : List MemPlace), (ts.all fun t => P.readableRec t && decide (t < P.types.size)) = true →
      DataW.TrodAll enc P W 0 (fun _ => true) true ts vs ds ps → (∀ x ∈ ps, x.block < W.heap.size) → DataW.TrodAll enc P W' 0 (fun b => decide (b < W.heap.size)) true ts vs ds ps
  | [], vs, ds, ps, _, h, _ => by
    obtain ⟨rfl, rfl, rfl⟩ := trodAll_nil h
    rfl
  | t :: ts, vs, ds, ps, hr, h, hlt => by
    obtain ⟨v, vs', d, ds', p, q, rfl, rfl, rfl, h0, h1⟩ := trodAll_cons h
    simp only [List.all_cons, Bool.and_eq_true, decide_eq_true_eq] at hr
    exact ⟨p, q, Below.trod hl hr.1.1 hr.1.2 h0 hb (fun x hx => hlt x (List.mem_append.2 (Or.inl hx))), args_back hl hb ts vs' ds' q hr.2 h1 (fun x hx => hlt x (List.mem_append.2 (Or.inr hx))), rfl⟩


end Go.Proofs.Ytcncobhdfflelaa
