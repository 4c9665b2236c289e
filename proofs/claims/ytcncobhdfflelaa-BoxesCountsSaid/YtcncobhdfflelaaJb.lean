/- The plain law of BoxesCounts; an append that says where its row lies, outside a region that draws. -/
import Derived.Test.YtcncobhdfflelaaJa
namespace Go.Proofs.Ytcncobhdfflelaa
open Go.RowKit
namespace Bx
/-- 1 where the conditions hold, at a point of two coordinates cut to n -/
def ind (cs : List (List Int × Int)) (n : Nat) (x y : Int) : Nat := if allAt cs ([x, y].take n) = true then 1 else 0
def rowC (cs : List (List Int × Int)) (n : Nat) (a1 b1 x : Int) : Nat := sumR (ind cs n x) a1 b1
theorem sumR_one (f : Int → Nat) (a : Int) : sumR f a a = f a := by
  unfold sumR
  rw [show (a - a + 1).toNat = 1 by omega, sumI, sumI, Nat.add_zero]
theorem sumI_last (f : Int → Nat) (a : Int) (n : Nat) : sumI f a (n + 1) = sumI f a n + f (a + n) := by
  rw [sumI_add, sumI, sumI, Nat.add_zero]
theorem ind_le (cs : List (List Int × Int)) (n : Nat) (x y : Int) : ind cs n x y ≤ 1 := by
  unfold ind
  split <;> omega
/-- the two loops over the coordinates count the points of the domain -/
theorem cnt_two {lo hi : List Int} {n : Nat} (cs : List (List Int × Int)) (h1 : lo.length = n) (h2 : hi.length = n) (hn : n ≤ 2) (hle : ∀ (i : Nat) (x y : Int), lo[i]? = some x → hi[i]? = some y → -40 ≤ x ∧ x ≤ y ∧ y ≤ 40) :
    ∃ a0 a1 b0 b1, lo ++ List.replicate (2 - n) 0 = [a0, a1] ∧ hi ++ List.replicate (2 - n) 0 = [b0, b1] ∧ -40 ≤ a0 ∧ a0 ≤ b0 ∧ b0 ≤ 40 ∧ -40 ≤ a1 ∧ a1 ≤ b1 ∧ b1 ≤ 40 ∧ cnt (lo, hi) (allAt cs) = sumR (rowC cs n a1 b1) a0 b0 := by
  subst h1
  match lo, hi, h2 with
  | [], [], _ =>
    refine ⟨0, 0, 0, 0, rfl, rfl, by decide, by decide, by decide, by decide, by decide, by decide, ?_⟩
    rw [sumR_one]
    unfold rowC
    rw [sumR_one]
    rfl
  | [a], [b], _ =>
    have h := hle 0 a b rfl rfl
    refine ⟨a, 0, b, 0, rfl, rfl, by omega, by omega, by omega, by decide, by decide, by decide, ?_⟩
    show sumR (fun x => cntF [] fun p => allAt cs (x :: p)) a b = _
    refine sumR_ext fun x _ _ => ?_
    unfold rowC
    rw [sumR_one]
    rfl
  | [a, a'], [b, b'], _ =>
    have h := hle 0 a b rfl rfl
    have h' := hle 1 a' b' rfl rfl
    exact ⟨a, a', b, b', rfl, rfl, by omega, by omega, by omega, by omega, by omega, by omega, rfl⟩
/-- what Count says of the boxes that hold -/
theorem Part.count {lo hi : List Int} {cs : List (List Int × Int)} {r : List Box} (h : Part (fun a b => verd a b cs 1) (lo, hi) r []) (hl : hi.length = lo.length) (hb : cnt (lo, hi) (allAt cs) ≤ 1000000) : countF r 0 = (cnt (lo, hi) (allAt cs) : Int) := by
  have h3 := h.sum (allAt cs)
  rw [List.append_nil] at h3
  have e : sumH r = cnt (lo, hi) (allAt cs) := by
    rw [← h3]
    refine sumH_eq (fun b hb => ?_) h.vd
    have := h.len b hb
    have a := this.l1
    have c := this.l2
    exact a.trans c.symm
  rw [countF_sum (Int.le_refl 0) (fun b hb => ?_) (by rw [e]; omega), e, Int.zero_add]
  have hs := (h.len b hb).self hl
  have a := (h.len b hb).l1
  have c := (h.len b hb).l2
  refine ⟨a.trans c.symm, ?_⟩
  have key : ∀ {l m : List Int}, (∀ (i : Nat) (x y : Int), l[i]? = some x → m[i]? = some y → x ≤ y) → ordered l m = true := by
    intro l
    induction l with
    | nil => intro m _; rfl
    | cons x l ih =>
      intro m hm
      cases m with
      | nil => rfl
      | cons y m =>
        rw [ordered, ih (fun i p q h1 h2 => hm (i + 1) p q (by simpa using h1) (by simpa using h2))]
        have := hm 0 x y rfl rfl
        simp
        omega
  exact key fun i x y h1 h2 => (hs.in_ i x y x y h1 h2 h1 h2).2.1
end Bx
theorem wpList_append_sl {P : Program} {ops : Array Oper} {rest : List Oper} {o : Oper} {a : Act} {Q : Exit → Act → World → Prop} {w : World}
    (hg : o.guard = none) (s x : Operand) (t : TypeId) (hop : o.op = Op.call { callee := Callee.builtin Builtin.append, args := #[s, x], argTypes := #[t, t] })
    (base : Nat) (e : TypeId) (i : TypeInfo) (z : Value) (size bytes : Nat) (h1 : P.underlying t = some (.slice e)) (h2 : P.info? e = some i) (h3 : i.zero = some z) (h4 : i.size = size) (h5 : i.bytes = bytes) (h6 : z.cells.size = size) (h7 : 0 < size)
    (A : Option Addr) (n cp : Nat) (xs : List Value) (hs : a.eval s = .slice A n cp) (hown : w.ownsRow base e size (.slice A n cp) n xs)
    (ad : Addr) (m c : Nat) (news : List Value) (hx : a.eval x = .slice (some ad) m c) (hn : news.length = m * size) (hc : ∀ j u, news[j]? = some u → w.cell? (ad.add j) = some u) (h1c : ∀ u ∈ news, u.oneCell' = true)
    (b1 : n + m ≤ maxLen) (b2 : (n + m) * bytes ≤ 140737488355328) (hbase : base ≤ w.heap.size)
    (hK : ∀ (u : Sl) w', w'.ownsRow base e size (.slice u.a (n + m) u.c) (n + m) (xs ++ news) → w.grownBy w' (Value.slice A n cp).ownBlock → (∀ g, (Value.slice u.a (n + m) u.c).ownBlock = some g → (Value.slice A n cp).ownBlock = some g ∨ w.heap.size ≤ g) → wpList P ops Q rest (a.put o.dst (.slice u.a (n + m) u.c)) w') :
    wpList P ops Q (o :: rest) a w := by
  refine wpList_plain hg fun K hk => ?_
  obtain ⟨u, w', hrun, r1, r2, r3⟩ := run_append_sl (P := P) w base t o.type e i z size bytes h1 h2 h3 h4 h5 h6 h7 A n cp xs hown ad m c news hn hc h1c b1 b2 hbase
  unfold Oper.wp
  simp [execOp, hop, resolve, invoke, builtin, hs, hx, hrun, Result.andThen]
  exact hk _ _ (hK u w' r1 r2 r3)
end Go.Proofs.Ytcncobhdfflelaa
