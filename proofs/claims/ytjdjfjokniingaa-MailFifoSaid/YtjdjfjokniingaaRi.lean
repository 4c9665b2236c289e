/- The plain law of MailFifo, and its walk. -/
import Derived.Test.YtjdjfjokniingaaRf
namespace Go.Proofs.Ytjdjfjokniingaa
open Go.RowKit
namespace Ml
theorem mailed_mailed (σ : PS) (i : Nat) (f g : List LetC → List LetC) : mailed (mailed σ i f) i g = mailed σ i (fun m => g (f m)) := by
  simp only [mailed, List.modify_modify_eq]
  rfl
theorem mailed_id (σ : PS) (i : Nat) : mailed σ i (fun m => m) = σ := by
  have h : ∀ (l : List PL) (i : Nat), l.modify i (fun a => { a with mail := a.mail }) = l := by
    intro l
    induction l with
    | nil => intro i; simp
    | cons x l ih => intro i; cases i with
      | zero => rfl
      | succ i => rw [List.modify_succ_cons, ih]
  unfold mailed
  rw [h]
theorem mailed_at {σ : PS} {i : Nat} {f : List LetC → List LetC} {a : PL} (ha : σ.acts[i]? = some a) : (mailed σ i f).acts[i]? = some { a with mail := f a.mail } := by
  simp [mailed, ha]
theorem mailed_paths (σ : PS) (i : Nat) (f : List LetC → List LetC) : (mailed σ i f).acts.map (·.path) = σ.acts.map (·.path) := by
  have h : ∀ (l : List PL) (i : Nat), (l.modify i (fun a => { a with mail := f a.mail })).map (·.path) = l.map (·.path) := by
    intro l
    induction l with
    | nil => intro i; simp
    | cons x l ih => intro i; cases i with
      | zero => rfl
      | succ i => rw [List.modify_succ_cons, List.map_cons, ih]; rfl
  exact h _ _
theorem reach_iff {σ : PS} {p : ByteArray} {i : Nat} {a : PL} (hf : find (σ.acts.map (·.path)) p = some i) (ha : σ.acts[i]? = some a) : reachP σ p = if okP σ.ups a then some i else none := by
  unfold reachP
  rw [hf]
  simp only [Option.filter, ha, Option.any_some]
theorem reach_mailed {σ : PS} {p : ByteArray} {i : Nat} {a : PL} (f : List LetC → List LetC) (hf : find (σ.acts.map (·.path)) p = some i) (ha : σ.acts[i]? = some a) : reachP (mailed σ i f) p = if okP σ.ups a then some i else none := by
  rw [reach_iff (i := i) (a := { a with mail := f a.mail }) (by rw [mailed_paths]; exact hf) (mailed_at ha)]
  rfl
/-- a state without mail and flights, in which the letters ls lie in the box of actor i and the letters fs fly to it -/
def lain (σ : PS) (i : Nat) (x y : Int) (p : ByteArray) (ls fs : List LetC) : PS := { mailed σ i (fun _ => ls) with fls := fs.map fun l => ⟨x, y, p, l⟩ }
section
variable {σ : PS} {p : ByteArray} {i : Nat} {a : PL} {x y : Int}
theorem lain_at (ha : σ.acts[i]? = some a) (ls fs : List LetC) : (lain σ i x y p ls fs).acts[i]? = some { a with mail := ls } := mailed_at (f := fun _ => ls) ha
theorem lain_find (hf : find (σ.acts.map (·.path)) p = some i) (ls fs : List LetC) : find ((lain σ i x y p ls fs).acts.map (·.path)) p = some i := by
  show find ((mailed σ i (fun _ => ls)).acts.map (·.path)) p = some i
  rw [mailed_paths]; exact hf
theorem lain_reach (hf : find (σ.acts.map (·.path)) p = some i) (ha : σ.acts[i]? = some a) (ls fs : List LetC) : reachP (lain σ i x y p ls fs) p = if okP σ.ups a then some i else none := by
  rw [reach_iff (lain_find hf ls fs) (lain_at ha ls fs)]
  rfl
theorem lain_mailed (ls fs : List LetC) (f : List LetC → List LetC) : mailed (lain σ i x y p ls fs) i f = lain σ i x y p (f ls) fs := by
  have := mailed_mailed σ i (fun _ => ls) f
  unfold mailed at this
  unfold lain mailed
  simp only [PS.mk.injEq] at this ⊢
  simp only [true_and, and_true] at this ⊢
  exact this
theorem lain_zero (ha : σ.acts[i]? = some a) (hm : a.mail = []) (hn : σ.fls = []) : lain σ i x y p [] [] = σ := by
  have h : σ.acts.modify i (fun a => { a with mail := [] }) = σ.acts := by
    rw [modify_get _ _ _ _ ha]
    apply List.ext_getElem?
    intro j
    by_cases hj : i = j
    · subst hj
      rw [List.getElem?_set_self (by exact (List.getElem?_eq_some_iff.1 ha).1), ha]
      cases a
      simp only at hm
      simp [hm]
    · rw [List.getElem?_set_ne hj]
  unfold lain mailed
  cases σ
  simp only at h hn
  simp [h, hn]
theorem post_lain (hf : find (σ.acts.map (·.path)) p = some i) (ha : σ.acts[i]? = some a) (hu : okP σ.ups a = true) (ls fs : List LetC) (l : LetC) (hl : ls.length < 1024) : post (lain σ i x y p ls fs) p l = (lain σ i x y p (ls ++ [l]) fs, true) := by
  unfold post
  rw [lain_reach hf ha, hu]
  simp only [if_true, lain_at ha, Option.map_some, Option.getD_some, hl]
  rw [lain_mailed]
theorem send_near (hf : find (σ.acts.map (·.path)) p = some i) (ha : σ.acts[i]? = some a) (hu : okP σ.ups a = true) (hxy : a.node = x) (ls : List LetC) (l : LetC) (hl : ls.length < 1024) : send (lain σ i x y p ls []) x p l = (lain σ i x y p (ls ++ [l]) [], true) := by
  unfold send
  rw [lain_reach hf ha, hu]
  simp only [if_true, nodeOf, lain_at ha, Option.map_some, Option.getD_some, hxy]
  exact post_lain hf ha hu ls [] l hl
theorem send_far (hf : find (σ.acts.map (·.path)) p = some i) (ha : σ.acts[i]? = some a) (hu : okP σ.ups a = true) (hxy : ¬ a.node = x) (hy : a.node = y) (fs : List LetC) (l : LetC) (hl : fs.length < 1024) : send (lain σ i x y p [] fs) x p l = (lain σ i x y p [] (fs ++ [l]), true) := by
  unfold send
  rw [lain_reach hf ha, hu]
  have hc : chan (lain σ i x y p [] fs).fls x a.node < 1024 := by
    have := chan_le (lain σ i x y p [] fs).fls x a.node
    have h2 : (lain σ i x y p [] fs).fls.length = fs.length := by simp [lain]
    omega
  simp only [if_true, nodeOf, lain_at ha, Option.map_some, Option.getD_some, hxy, if_false, hc]
  simp [lain, hy]
theorem send_lost (hf : find (σ.acts.map (·.path)) p = some i) (ha : σ.acts[i]? = some a) (hu : okP σ.ups a = false) (l : LetC) : send σ x p l = (lost σ, false) := by
  unfold send
  rw [reach_iff hf ha, hu]
  rfl
theorem arrive_none (h : σ.fls = []) : arrive σ x y = (σ, flyZ, false) := by
  unfold arrive idx
  rw [h]
  rfl
theorem arrive_lain (hf : find (σ.acts.map (·.path)) p = some i) (ha : σ.acts[i]? = some a) (hu : okP σ.ups a = true) (ls fs : List LetC) (l : LetC) (hl : ls.length < 1024) : (arrive (lain σ i x y p ls (l :: fs)) x y).1 = lain σ i x y p (ls ++ [l]) fs := by
  have h1 : idx (lain σ i x y p ls (l :: fs)).fls x y = some 0 := by
    unfold idx lain
    simp only [List.map_cons]
    rw [List.findIdx?_cons]
    simp [onCh]
  unfold arrive
  rw [h1]
  simp only
  have h2 : ((lain σ i x y p ls (l :: fs)).fls[0]?).getD flyZ = ⟨x, y, p, l⟩ := by simp [lain]
  rw [h2]
  have h3 : ({ lain σ i x y p ls (l :: fs) with fls := (lain σ i x y p ls (l :: fs)).fls.take 0 ++ (lain σ i x y p ls (l :: fs)).fls.drop (0 + 1) } : PS) = lain σ i x y p ls fs := by simp [lain]
  rw [h3, post_lain hf ha hu ls fs l hl]
theorem take_lain (hf : find (σ.acts.map (·.path)) p = some i) (ha : σ.acts[i]? = some a) (ls fs : List LetC) (l : LetC) : take (lain σ i x y p (l :: ls) fs) p = (lain σ i x y p ls fs, l, true) := by
  unfold take
  rw [lain_find hf]
  simp only [lain_at ha, Option.map_some, Option.getD_some]
  rw [lain_mailed]
  rfl
theorem take_empty (hf : find (σ.acts.map (·.path)) p = some i) (ha : σ.acts[i]? = some a) (hm : a.mail = []) : take σ p = (σ, letZ, false) := by
  unfold take
  rw [hf]
  simp only [ha, Option.map_some, Option.getD_some, hm]
end

/-- the states of MailFifo: while the letters are sent, while they arrive, while they are taken -/
def lostN (σ : PS) : Nat → PS
  | 0 => σ
  | n + 1 => lost (lostN σ n)
theorem lostN_acts (σ : PS) : ∀ n, (lostN σ n).acts = σ.acts ∧ (lostN σ n).ups = σ.ups ∧ (lostN σ n).fls = σ.fls
  | 0 => ⟨rfl, rfl, rfl⟩
  | n + 1 => lostN_acts σ n
/-- what the walk of MailFifo needs of its states: S while the letters are sent, A while they arrive, T while they are taken -/
structure Fifo (σ : PS) (x y : Int) (p : ByteArray) (l : List LetC) (r : Bool) (S A T : Nat → PS) : Prop where
  s0 : S 0 = σ
  sn : ∀ k m, l[k]? = some m → send (S k) x p m = (S (k + 1), r)
  a0 : A 0 = S l.length
  an : ∀ k, k < l.length → (arrive (A k) x y).1 = A (k + 1)
  t0 : T 0 = A l.length
  tn : r = true → ∀ k m, l[k]? = some m → take (T k) p = (T (k + 1), m, true)
  te : (take (T (if r then l.length else 0)) p).2.2 = false
  sz : ∀ k, (S k).acts.length = σ.acts.length ∧ (S k).ups.length = σ.ups.length ∧ (S k).fls.length ≤ l.length
  az : ∀ k, (A k).acts.length = σ.acts.length ∧ (A k).ups.length = σ.ups.length ∧ (A k).fls.length ≤ l.length
  tz : ∀ k, (T k).acts.length = σ.acts.length ∧ (T k).ups.length = σ.ups.length ∧ (T k).fls.length ≤ l.length
theorem lain_sz (σ : PS) (i : Nat) (x y : Int) (p : ByteArray) (l f : List LetC) (n : Nat) (hf : f.length ≤ n) : (lain σ i x y p l f).acts.length = σ.acts.length ∧ (lain σ i x y p l f).ups.length = σ.ups.length ∧ (lain σ i x y p l f).fls.length ≤ n := by
  refine ⟨by simp [lain, mailed], rfl, ?_⟩
  have : (lain σ i x y p l f).fls.length = f.length := by simp [lain]
  omega
theorem take_more {α : Type} {l : List α} {k : Nat} {m : α} (h : l[k]? = some m) : l.take (k + 1) = l.take k ++ [m] := by
  rw [List.take_add_one, h]; rfl
theorem drop_more {α : Type} {l : List α} {k : Nat} {m : α} (h : l[k]? = some m) : l.drop k = m :: l.drop (k + 1) := by
  obtain ⟨h1, h2⟩ := List.getElem?_eq_some_iff.1 h
  rw [List.drop_eq_getElem_cons h1, h2]
theorem fifo {σ : PS} {p : ByteArray} {i : Nat} {a : PL} (x : Int) (l : List LetC) (hf : find (σ.acts.map (·.path)) p = some i) (ha : σ.acts[i]? = some a) (hm : a.mail = []) (hn : σ.fls = []) (hl : l.length ≤ 20) : ∃ S A T, Fifo σ x a.node p l (okP σ.ups a) S A T := by
  cases hu : okP σ.ups a with
  | false =>
    have hs : ∀ k m, send (lostN σ k) x p m = (lostN σ (k + 1), false) := fun k m => by
      have h := lostN_acts σ k
      exact send_lost (i := i) (a := a) (by rw [h.1]; exact hf) (by rw [h.1]; exact ha) (by rw [h.2.1]; exact hu) m
    have hz : ∀ k, (lostN σ k).acts.length = σ.acts.length ∧ (lostN σ k).ups.length = σ.ups.length ∧ (lostN σ k).fls.length ≤ l.length := fun k => by
      have h := lostN_acts σ k
      refine ⟨by rw [h.1], by rw [h.2.1], by rw [h.2.2, hn]; simp⟩
    refine ⟨fun k => lostN σ k, fun _ => lostN σ l.length, fun _ => lostN σ l.length, ⟨rfl, fun k m _ => hs k m, rfl, fun k _ => ?_, rfl, fun h => by simp at h, ?_, hz, fun _ => hz _, fun _ => hz _⟩⟩
    · rw [arrive_none (by rw [(lostN_acts σ l.length).2.2]; exact hn)]
    · have h := lostN_acts σ l.length
      rw [take_empty (i := i) (a := a) (by rw [h.1]; exact hf) (by rw [h.1]; exact ha) hm]
  | true =>
    have htk : ∀ k m, l[k]? = some m → take (lain σ i x a.node p (l.drop k) []) p = (lain σ i x a.node p (l.drop (k + 1)) [], m, true) := fun k m h => by
      rw [drop_more h, take_lain hf ha]
    have hte : (take (lain σ i x a.node p (l.drop (if true = true then l.length else 0)) []) p).2.2 = false := by
      rw [if_pos rfl, List.drop_length, lain_zero ha hm hn, take_empty hf ha hm]
    by_cases hx : a.node = x
    · refine ⟨fun k => lain σ i x a.node p (l.take k) [], fun _ => lain σ i x a.node p l [], fun k => lain σ i x a.node p (l.drop k) [], ⟨?_, fun k m h => ?_, ?_, fun k _ => ?_, ?_, fun _ => htk, hte, fun k => lain_sz _ _ _ _ _ _ _ _ (by simp), fun k => lain_sz _ _ _ _ _ _ _ _ (by simp), fun k => lain_sz _ _ _ _ _ _ _ _ (by simp)⟩⟩
      · rw [List.take_zero]; exact lain_zero ha hm hn
      · rw [take_more h]
        exact send_near hf ha hu hx _ m (by simp; omega)
      · rw [List.take_length]
      · rw [arrive_none rfl]
      · rw [List.drop_zero]
    · refine ⟨fun k => lain σ i x a.node p [] (l.take k), fun k => lain σ i x a.node p (l.take k) (l.drop k), fun k => lain σ i x a.node p (l.drop k) [], ⟨?_, fun k m h => ?_, ?_, fun k h => ?_, ?_, fun _ => htk, hte, fun k => lain_sz _ _ _ _ _ _ _ _ (by simp; omega), fun k => lain_sz _ _ _ _ _ _ _ _ (by simp), fun k => lain_sz _ _ _ _ _ _ _ _ (by simp)⟩⟩
      · rw [List.take_zero]; exact lain_zero ha hm hn
      · rw [take_more h]
        exact send_far hf ha hu hx rfl _ m (by simp; omega)
      · rw [List.take_length, List.take_zero, List.drop_zero]
      · have hk := List.getElem?_eq_getElem h
        rw [drop_more hk, take_more hk]
        exact arrive_lain hf ha hu _ _ _ (by simp; omega)
      · rw [List.take_length, List.drop_length, List.drop_zero]
end Ml

theorem below_al2 (w : World) (o : Obj) : Below w.heap.size w (w.alloc o) := (Below.refl _ w).alloc (Nat.le_refl _) _
theorem mails_zero : ∀ (l : List PL), Ml.mails l = 0 → ∀ a ∈ l, a.mail = []
  | [], _, a, h => by cases h
  | x :: l, hz, a, h => by
    simp only [Ml.mails, List.map_cons, List.sum_cons] at hz
    rcases List.mem_cons.1 h with rfl | h
    · exact List.eq_nil_of_length_eq_zero (by omega)
    · exact mails_zero l (by unfold Ml.mails; omega) a h
/-- a row of the call's own that begins later -/
theorem own_lower {w : World} {b0 base e k n : Nat} {v : Value} {xs : List Value} (h : w.ownsRow base e k v n xs) (hb : b0 ≤ base) : w.ownsRow b0 e k v n xs := by
  refine ⟨h.1, ?_⟩
  rcases h.2 with h1 | ⟨g, cap, cur, h1, h2, h3⟩
  · exact .inl h1
  · exact .inr ⟨g, cap, cur, h1, Nat.le_trans hb h2, h3⟩
/-- append to a row of the call's own: the block is the old one or a new one -/
theorem wpList_append_own2 (w : World) {ops : Array Oper} {rest : List Oper} {o : Oper} {a : Act} {Q : Exit → Act → World → Prop} (hgd : o.guard = none) (s x : Operand) (t : TypeId)
    (ho : o.op = .call { callee := .builtin .append, args := #[s, x], argTypes := #[t, t] })
    (base : Nat) (e : TypeId) (i : TypeInfo) (z : Value) (size bytes : Nat) (ht : Try.prog.underlying t = some (.slice e)) (hi : Try.prog.info? e = some i) (hz : i.zero = some z)
    (hsize : i.size = size) (hby : i.bytes = bytes) (hzs : z.cells.size = size) (hsz : 0 < size)
    (v : Value) (n : Nat) (xs : List Value) (hs : a.eval s = v) (hown : w.ownsRow base e size v n xs)
    (ad : Addr) (m c : Nat) (news : List Value) (hx : a.eval x = .slice (some ad) m c) (hl : news.length = m * size) (hnews : ∀ j u, news[j]? = some u → w.cell? (ad.add j) = some u) (h1 : ∀ u ∈ news, u.oneCell' = true)
    (h63 : n + m ≤ maxLen) (hbytes : (n + m) * bytes ≤ 140737488355328) (hbase : base ≤ w.heap.size) (hm : 0 < m)
    (h : ∀ v' w', w'.ownsRow base e size v' (n + m) (xs ++ news) → w.grownBy w' v.ownBlock → (v'.ownBlock = v.ownBlock ∨ ∀ g, v'.ownBlock = some g → w.heap.size ≤ g) → wpList Try.prog ops Q rest (a.put o.dst v') w') : wpList Try.prog ops Q (o :: rest) a w := by
  have fin : ∀ v' w', w'.ownsRow w.heap.size e size v' (n + m) (xs ++ news) → w.grownBy w' none → wpList Try.prog ops Q rest (a.put o.dst v') w' := fun v' w' r1 r2 => by
    refine h v' w' (own_lower r1 hbase) ⟨r2.os, r2.tape, r2.output, r2.size, fun k hk _ => r2.block k hk (by simp)⟩ (.inr fun g hg => ?_)
    obtain ⟨u, _, rfl, hu⟩ := own_sl r1
    refine hu g ?_
    cases hua : u.a with
    | none => rw [hua] at hg; simp [Value.ownBlock] at hg
    | some q => rw [hua] at hg; simpa [Value.ownBlock] using hg
  rcases hown.2 with ⟨rfl, h0⟩ | ⟨g, cap, cur, rfl, hb, hg, hnc, hrest⟩
  · subst h0
    have hxs : xs = [] := List.eq_nil_of_length_eq_zero (by have := hown.1; simpa using this)
    subst hxs
    exact wpList_append_grows w hgd s x t ho e i z size bytes ht hi hz hsize hby hzs hsz none 0 0 [] hs (fun _ => ⟨rfl, rfl⟩) (by simp) (fun b hb => by cases hb) ad m c news hx hl hnews h1 (by omega) h63 hbytes fin
  · by_cases hfit : n + m ≤ cap
    · exact wpList_append_fits w hgd s x t ho base e i size ht hi hsize g n cap xs hs hown ad m c news hx hl hnews h1 hfit (fun w' r1 r2 => h _ w' r1 r2 (.inl rfl))
    · exact wpList_append_grows w hgd s x t ho e i z size bytes ht hi hz hsize hby hzs hsz (some ⟨g, 0, none⟩) n cap xs hs (fun h => by cases h) hown.1 (own_rd hown).holds ad m c news hx hl hnews h1 (by omega) h63 hbytes fin
/-- the block of a slice, or none -/
def ApartS (X : Nat) (v : Value) (b : Nat) : Prop := b ≠ X ∧ v.ownBlock ≠ some b
/-- what the loops keep: the state's box X holds a state that reads as τ -/
structure FiRel (w : World) (X : Nat) (τ : PS) (v : Value) (wr : World) : Prop where
  b : Below w.heap.size w wr
  x : ∃ sx : SysC, BoxAt wr X (sysL sx) ∧ SysR (ApartS X v) wr sx τ
/-- the letters that were sent lie in a row of the call's own, apart from X -/
def SentAt (w : World) (X : Nat) (ls : List LetC) (v : Value) (wr : World) : Prop := wr.ownsRow w.heap.size 34 4 v ls.length (ls.flatMap letL) ∧ v.ownBlock ≠ some X
theorem own_lt {w : World} {base e k n : Nat} {v : Value} {xs : List Value} (h : w.ownsRow base e k v n xs) {g : Nat} (hg : v.ownBlock = some g) : g < w.heap.size := by
  rcases h.2 with ⟨rfl, _⟩ | ⟨g', cap, cur, rfl, hb, hh, _⟩
  · simp [Value.ownBlock] at hg
  · simp [Value.ownBlock] at hg
    subst hg
    exact (Array.getElem?_eq_some_iff.1 hh).1
theorem SentAt.below {w : World} {X : Nat} {ls : List LetC} {v : Value} {wr W : World} (h : SentAt w X ls v wr) (hb : Below wr.heap.size wr W) : SentAt w X ls v W := ⟨own_below h.1 hb, h.2⟩
theorem own_put {w : World} {base e k n X : Nat} {v : Value} {xs : List Value} {s : SysC} (h : w.ownsRow base e k v n xs) (hn : v.ownBlock ≠ some X) : (putSys w X s).ownsRow base e k v n xs :=
  own_set_other (own_set_other (own_set_other (own_set_other (own_set_other (own_set_other (own_set_other (own_set_other (own_set_other h _ _ hn) _ _ hn) _ _ hn) _ _ hn) _ _ hn) _ _ hn) _ _ hn) _ _ hn) _ _ hn
theorem SentAt.put {w : World} {X : Nat} {ls : List LetC} {v : Value} {wr : World} (h : SentAt w X ls v wr) (s : SysC) : SentAt w X ls v (putSys wr X s) := ⟨own_put h.1 h.2, h.2⟩
/-- a state that a call has handed back is stored into X -/
theorem FiRel.step {w : World} {X : Nat} {υ : PS} {v : Value} {wr : World} {sx s1 : SysC} {ls : List LetC} (hw : w.heap.size ≤ X) (hB : Below w.heap.size w wr) (hX : BoxAt wr X (sysL sx)) (hS : SentAt w X ls v wr) (hr : SysR (ApartS X v) wr s1 υ) : FiRel w X υ v (putSys wr X s1) ∧ SentAt w X ls v (putSys wr X s1) :=
  ⟨⟨putSys_below hB hw, s1, putSys_box hX, hr.stay (fun b o hb => (putSys_off wr X s1).2 b o hb.1) (Nat.le_of_eq (putSys_off wr X s1).1.symm)⟩, hS.put s1⟩
abbrev sysZ : SysC := ⟨⟨none, 0, 0⟩, 0, 0, 0, ⟨none, 0, 0⟩, ⟨none, 0, 0⟩, ⟨none, 0, 0⟩, ⟨none, 0, 0⟩, 0⟩
theorem FiRel.below {w : World} {X : Nat} {τ : PS} {v : Value} {wr W : World} (h : FiRel w X τ v wr) (hb : Below wr.heap.size wr W) : FiRel w X τ v W := by
  obtain ⟨h1, sx, h2, h3⟩ := h
  exact ⟨Below.call h1 hb, sx, h2.call hb, h3.below hb⟩
/-- a letter has been appended -/
theorem FiRel.append {w : World} {X : Nat} {τ : PS} {v v' : Value} {wr W : World} {ls : List LetC} (h : FiRel w X τ v wr) (hS : SentAt w X ls v wr) (hg : wr.grownBy W v.ownBlock) (hv : v'.ownBlock = v.ownBlock ∨ ∀ g, v'.ownBlock = some g → wr.heap.size ≤ g) (m : LetC) (ho : W.ownsRow w.heap.size 34 4 v' (ls.length + 1) (ls.flatMap letL ++ letL m)) : FiRel w X τ v' W ∧ SentAt w X (ls ++ [m]) v' W := by
  obtain ⟨h1, sx, h2, h3⟩ := h
  have hXv : v'.ownBlock ≠ some X := by
    rcases hv with e | e
    · rw [e]; exact hS.2
    · intro e2; have := e X e2; have := h2.1; omega
  refine ⟨⟨h1.grown hg (by have := h1.size; omega) (row_base hS.1), sx, h2.kept hg (fun e => hS.2 e.symm), ?_⟩, ⟨by simpa using ho, hXv⟩⟩
  refine (h3.low.stay (fun b o hb => ?_) hg.size).mono (fun b hb => ⟨hb.1.1, ?_⟩)
  · exact World.cell?_of_block (a := ⟨b, o, none⟩) (hg.block b hb.2 (fun e => hb.1.2 e.symm))
  · rcases hv with e | e
    · rw [e]; exact hb.1.2
    · intro e2; have := e b e2; omega
set_option linter.unusedSimpArgs false in
set_option linter.unusedVariables false in
set_option maxRecDepth 100000 in
set_option maxHeartbeats 64000000 in
theorem fifo_walk (s : SysC) (σ : PS) (x : Int) (p : ByteArray) (l : Sl) (ms : List LetC) (w : World) (hr : SysR (fun b => b < w.heap.size) w s σ) (hz : PSZ 140737488355328 σ) (ho : Rd w w.heap.size 4 l.a l.n (ms.flatMap letL)) (hml : ms.length = l.n) (hd : ∀ m ∈ ms, LetD w m) (hln : l.n ≤ 9223372036854775807) :
    Calls Try.prog 11 #[sysV s, .int .i64 x, .string p, .slice l.a l.n l.c] w fun e w' => e = .returned (.bool true) ∧ Below w.heap.size w w' := by
  have R0 := Lib.hid hr
  have Z0 := Lib.hid hz
  have RO := Lib.hid ho
  have ML := Lib.hid hml
  have DL := Lib.hid hd
  clear hr hz ho hml hd
  go_enter Try.func11, Try.ntmps11
  go_wp2_with fail
  refine (small27 _).mono ?_
  rintro e w1 ⟨rfl, hb⟩
  have HB : Hid (Below w.heap.size w w1) := Lib.hid (Below.call (below_al2 w _) hb)
  have BS : Hid (BoxAt w1 w.heap.size (sysL s)) := Lib.hid ((BoxAt.new w 28 (sysL s) _ rfl).call hb)
  clear hb
  obtain ⟨c0, c1, c2, c3, c4, c5, c6, c7, c8⟩ := sbox_cells BS.out
  go_wp2_with fail
  refine (few_R s σ w1 (R0.out.below HB.out) Z0.out).mono ?_
  rintro e w2 ⟨y, rfl, hx, hb⟩
  replace HB := Lib.hid (Below.call HB.out hb)
  replace BS := Lib.hid (BS.out.call hb)
  clear hb c0 c1 c2 c3 c4 c5 c6 c7 c8
  obtain ⟨c0, c1, c2, c3, c4, c5, c6, c7, c8⟩ := sbox_cells BS.out
  cases y with
  | false =>
    clear hx
    go_wp2_with fail
    go_ret
    exact ⟨rfl, HB.out⟩
  | true =>
  have ht := hx rfl
  clear hx
  have hhe : Ml.held σ ≤ 60 := by unfold Ml.total at ht; unfold Ml.held; omega
  have hac : σ.acts.length ≤ 60 := by unfold Ml.total at ht; omega
  have hup : σ.ups.length ≤ 60 := by unfold Ml.total at ht; omega
  clear ht Z0
  go_wp2_with fail
  refine (held_R s σ w2 (R0.out.below HB.out) (by omega) (by omega)).mono ?_
  rintro e w3 ⟨rfl, hb⟩
  replace HB := Lib.hid (Below.call HB.out hb)
  replace BS := Lib.hid (BS.out.call hb)
  clear hb c0 c1 c2 c3 c4 c5 c6 c7 c8
  obtain ⟨c0, c1, c2, c3, c4, c5, c6, c7, c8⟩ := sbox_cells BS.out
  obtain ⟨hv, hhv⟩ : ∃ v, Ml.held σ = v := ⟨_, rfl⟩
  rw [hhv]
  rcases Nat.eq_zero_or_pos hv with k0 | k0
  rotate_left
  · clear hhv
    go_wp2_with fail
    go_ret
    exact ⟨rfl, HB.out⟩
  subst k0
  cases k3 : decide ((20 : Int) < (l.n : Int)) with
  | true =>
    go_wp2_with fail
    go_ret
    exact ⟨rfl, HB.out⟩
  | false =>
  have hl20 : l.n ≤ 20 := by simp at k3; omega
  have hh0 : Ml.held σ = 0 := hhv
  have hfl0 : σ.fls = [] := List.eq_nil_of_length_eq_zero (by unfold Ml.held at hh0; omega)
  have hm0 : Ml.mails σ.acts = 0 := by unfold Ml.held at hh0; omega
  have HM := Lib.hid (mails_zero σ.acts hm0)
  have HF := Lib.hid hfl0
  obtain ⟨qs, q1, q2, q3⟩ := (R0.out.below HB.out).ac
  have hpp : (qs.map (·.1)).map (·.path) = σ.acts.map (·.path) := by rw [← q3, List.map_map, List.map_map]; rfl
  have CF := find_any s (qs.map (·.1)) p w3 q1 (by rw [R0.out.na]; omega)
  rw [hpp] at CF
  clear hpp q1 q2 q3 hh0 hfl0 hm0 hhv
  go_wp2_with fail
  refine CF.mono ?_
  clear CF
  rintro e w4 ⟨rfl, hb⟩
  replace HB := Lib.hid (Below.call HB.out hb)
  replace BS := Lib.hid (BS.out.call hb)
  clear hb c0 c1 c2 c3 c4 c5 c6 c7 c8
  cases hf : Ml.find (σ.acts.map (·.path)) p with
  | none =>
    go_wp2_with fail
    go_ret
    exact ⟨rfl, HB.out⟩
  | some i =>
  obtain ⟨a, ha⟩ := Ml.find_lt hf
  have hia : i < s.actors.n := by rw [R0.out.na]; exact (List.getElem?_eq_some_iff.1 ha).1
  obtain ⟨b, of, u, hix, hbw, hc, hm, hau⟩ := act_at (R0.out.below HB.out) hia _ rfl
  rw [ha] at hau
  obtain ⟨S, A, T, FI0⟩ := Ml.fifo x ms hf ha (HM.out a (List.mem_of_getElem? ha)) HF.out (by rw [ML.out]; exact hl20)
  have hnode : u.1.node = a.node := by injection hau with hau; rw [hau]; rfl
  obtain ⟨r, hrr⟩ : ∃ r, r = Ml.okP σ.ups a := ⟨_, rfl⟩
  rw [← hrr] at FI0
  obtain ⟨y, hy⟩ : ∃ y, y = a.node := ⟨_, rfl⟩
  rw [← hy] at FI0
  have FI := Lib.hid FI0
  obtain ⟨x0, x1, x2, x3, x4, x5, x6, x7, x8⟩ := hc
  rw [hnode, ← hy] at x2
  have hw4 : w.heap.size < w4.heap.size := BS.out.1
  have n1 : ¬ b = w4.heap.size := by omega
  clear FI0 hrr hy hnode hau hm ha hf HM HF x0 x1 x3 x4 x5 x6 x7 x8
  obtain ⟨c0, c1, c2, c3, c4, c5, c6, c7, c8⟩ := sbox_cells BS.out
  go_wp2_with fail
  obtain ⟨v4, hV⟩ : ∃ v, v = w4.alloc (.cells #[.slice s.up.a s.up.n s.up.c, .int .i64 s.moment, .int .i64 s.clock, .int .i64 s.seq, .slice s.actors.a s.actors.n s.actors.c, .slice s.flights.a s.flights.n s.flights.c, .slice s.alarms.a s.alarms.n s.alarms.c, .slice s.asked.a s.asked.n s.asked.c, .int .i64 s.dead] 28) := ⟨_, rfl⟩
  have HBv : Hid (Below w.heap.size w v4) := Lib.hid (by rw [hV]; exact Below.call HB.out (below_al2 w4 _))
  have BX : Hid (BoxAt v4 w4.heap.size (sysL s)) := Lib.hid (by rw [hV]; exact BoxAt.new w4 28 (sysL s) _ rfl)
  have RX : Hid (SysR (fun b => b ≠ w4.heap.size) v4 s σ) := Lib.hid ((R0.out.below HBv.out).mono (fun b hb => by have h : b < w.heap.size := hb; omega))
  obtain ⟨X, hXX⟩ : ∃ X, X = w4.heap.size := ⟨_, rfl⟩
  rw [← hXX] at BX RX
  have hX : w.heap.size < X := by omega
  rw [← hV, ← hXX]
  clear hV hXX BS HB c0 c1 c2 c3 c4 c5 c6 c7 c8 x2 hix n1 hbw hw4 hia
  go_loopw [14, 15] (fun v i wr => ∃ k : Nat, k ≤ l.n ∧ i = .int .i64 k ∧ FiRel w X (S k) v wr ∧ SentAt w X (if r then ms.take k else []) v wr) (fun _ i _ => l.n - (intOf i).toNat)
  case atStart =>
    refine ⟨0, Nat.zero_le _, rfl, ⟨HBv.out, s, BX.out, by rw [FI.out.s0]; exact RX.out.mono (fun b hb => ⟨hb, by simp [Value.ownBlock]⟩)⟩, ?_⟩
    have e : (if r = true then ms.take 0 else []) = [] := by cases r <;> rfl
    rw [e]
    exact ⟨World.ownsRow_nil _ _ _ _, by simp [Value.ownBlock]⟩
  case round =>
    obtain ⟨k, hk, rfl, ⟨hB, sx, hXb, hR⟩, hS⟩ := hrel
    have HB := Lib.hid hB
    clear HBv BX RX
    have BX := Lib.hid hXb
    have RX := Lib.hid hR
    have SN := Lib.hid hS
    clear hB hXb hR hS
    by_cases hlt : k < l.n
    · obtain ⟨b, off, m, hA, hbw, hmk, hc⟩ := RO.out.at_ (fun _ => rfl) (by omega) hlt
      have hix : ∀ W : World, Sem.run Try.prog (Instr.indexAt 74 (.slice l.a l.n l.c) (.int .i64 (k : Int))) W = .ok (.pointer (some ⟨b, off + k * 4, none⟩)) W := by intro W; rw [hA]; go_simp
      have x0 : wr.cell? ⟨b, off + k * 4, none⟩ = some (.string m.src) := (HB.out.cell (p := ⟨b, off + k * 4, none⟩) hbw).trans (hc 0 _ rfl)
      have x1 : wr.cell? ⟨b, off + k * 4 + 1, none⟩ = some (.string m.msg) := (HB.out.cell (p := ⟨b, off + k * 4 + 1, none⟩) hbw).trans (hc 1 _ rfl)
      have x2 : wr.cell? ⟨b, off + k * 4 + 2, none⟩ = some (.slice m.args.a m.args.n m.args.c) := (HB.out.cell (p := ⟨b, off + k * 4 + 2, none⟩) hbw).trans (hc 2 _ rfl)
      have x3 : wr.cell? ⟨b, off + k * 4 + 3, none⟩ = some (.int .i64 m.sent) := (HB.out.cell (p := ⟨b, off + k * 4 + 3, none⟩) hbw).trans (hc 3 _ rfl)
      have hwr : X < wr.heap.size := BX.out.1
      have hbr : b < wr.heap.size := by omega
      have n1 : ¬ b = X := by omega
      have CS := Lib.hid (fun (W : World) (hW : Below wr.heap.size wr W) => send_any sx (S k) x p m W (RX.out.low.below hW) (by rw [RX.out.na, (FI.out.sz k).1]; omega) (by rw [← RX.out.nu, (FI.out.sz k).2.1]; omega) (by rw [← RX.out.nfl]; have := (FI.out.sz k).2.2; rw [ML.out] at this; omega))
      rw [FI.out.sn k m hmk] at CS
      have CS1 : Hid (∀ W, Below wr.heap.size wr W → Calls Try.prog 35 #[sysV sx, .int .i64 x, .string p, letV m] W fun e w' => ∃ s1, e = .returned (.tuple #[sysV s1, .bool r]) ∧ SysR (ApartS X u14) w' s1 (S (k + 1)) ∧ Below wr.heap.size wr w') := Lib.hid (fun W hW => by
        refine (CS.out W hW).mono ?_
        rintro e w' ⟨s1, he, rr, hb⟩
        have h1 := hW.size
        exact ⟨s1, he, rr.mono (fun b h => h.elim (fun h => h.1) (fun h => ⟨by have := BX.out.1; omega, fun e => by have := own_lt SN.out.1 e; omega⟩)), Below.call hW hb⟩)
      have CS2 : Hid (∀ W, Below wr.heap.size wr W → wr.heap.size + 1 ≤ W.heap.size → Calls Try.prog 35 #[sysV sx, .int .i64 x, .string p, letV m] W fun e w' => ∃ s1, e = .returned (.tuple #[sysV s1, .bool r]) ∧ SysR (fun b => ApartS X u14 b ∧ b ≠ wr.heap.size) w' s1 (S (k + 1)) ∧ Below wr.heap.size wr w' ∧ Below W.heap.size W w') := Lib.hid (fun W hW hz => by
        refine (CS.out W hW).mono ?_
        rintro e w' ⟨s1, he, rr, hb⟩
        have h1 := hb.size
        exact ⟨s1, he, rr.mono (fun b h => h.elim (fun h => ⟨h.1, by have := h.2; omega⟩) (fun h => ⟨⟨by have := BX.out.1; omega, fun e => by have := own_lt SN.out.1 e; omega⟩, by omega⟩)), Below.call hW hb, hb⟩)
      have HK := Lib.hid hmk
      clear hA hc hmk RX CS
      obtain ⟨c0, c1, c2, c3, c4, c5, c6, c7, c8⟩ := sbox_cells BX.out
      cases r with
      | false =>
        go_wp2_with fail
        go_region_held3 (fun w' => w'.cell? ⟨X, 0, none⟩ = some (.slice sx.up.a sx.up.n sx.up.c) ∧ w'.cell? ⟨X, 1, none⟩ = some (.int .i64 sx.moment) ∧ w'.cell? ⟨X, 2, none⟩ = some (.int .i64 sx.clock) ∧ w'.cell? ⟨X, 3, none⟩ = some (.int .i64 sx.seq) ∧ w'.cell? ⟨X, 4, none⟩ = some (.slice sx.actors.a sx.actors.n sx.actors.c) ∧ w'.cell? ⟨X, 5, none⟩ = some (.slice sx.flights.a sx.flights.n sx.flights.c) ∧ w'.cell? ⟨X, 6, none⟩ = some (.slice sx.alarms.a sx.alarms.n sx.alarms.c) ∧ w'.cell? ⟨X, 7, none⟩ = some (.slice sx.asked.a sx.asked.n sx.asked.c) ∧ w'.cell? ⟨X, 8, none⟩ = some (.int .i64 sx.dead) ∧ w'.cell? ⟨b, off + k * 4, none⟩ = some (.string m.src) ∧ w'.cell? ⟨b, off + k * 4 + 1, none⟩ = some (.string m.msg) ∧ w'.cell? ⟨b, off + k * 4 + 2, none⟩ = some (.slice m.args.a m.args.n m.args.c) ∧ w'.cell? ⟨b, off + k * 4 + 3, none⟩ = some (.int .i64 m.sent)) (simp [go_sem, *])
          (first
          | (go_at_call 35; with_reducible refine (CS1.out _ (Below.refl _ wr).drew).mono ?_; intro e w5 hpo; obtain ⟨s1, he, rr, hb5⟩ := hpo; subst he; have z5 := hb5.size; have H5 := Lib.hid hb5; have R5 := Lib.hid rr; obtain ⟨k1, k2, k3⟩ := keepB hb5 X (by omega); obtain ⟨m1, m2, m3⟩ := keepB hb5 b (by omega); clear hb5 rr)
          | (go_at_call 35; with_reducible refine (CS2.out _ ((Below.refl _ wr).alloc (Nat.le_refl _) _).drew (by simp)).mono ?_; intro e w5 hpo; obtain ⟨s1, he, rr, hb5, hb6⟩ := hpo; subst he; have z5 := hb6.size; simp at z5; obtain ⟨j1, j2, j3⟩ := keepB hb6 wr.heap.size (by simp); clear hb6; have H5 := Lib.hid hb5; have R5 := Lib.hid rr; obtain ⟨k1, k2, k3⟩ := keepB hb5 X (by omega); obtain ⟨m1, m2, m3⟩ := keepB hb5 b (by omega); clear hb5 rr))
        · obtain ⟨v6, hV⟩ : ∃ v, v = w5.alloc (.cells #[.slice s1.up.a s1.up.n s1.up.c, .int .i64 s1.moment, .int .i64 s1.clock, .int .i64 s1.seq, .slice s1.actors.a s1.actors.n s1.actors.c, .slice s1.flights.a s1.flights.n s1.flights.c, .slice s1.alarms.a s1.alarms.n s1.alarms.c, .slice s1.asked.a s1.asked.n s1.asked.c, .int .i64 s1.dead] 28) := ⟨_, rfl⟩
          have H6 : Hid (Below wr.heap.size wr v6) := Lib.hid (by rw [hV]; exact Below.call H5.out (below_al2 w5 _))
          have BY : Hid (BoxAt v6 w5.heap.size (sysL s1)) := Lib.hid (by rw [hV]; exact BoxAt.new w5 28 (sysL s1) _ rfl)
          have BX6 := Lib.hid (BX.out.call H6.out)
          have S6 := Lib.hid (SN.out.below H6.out)
          have R6 : Hid (SysR (ApartS X u14) v6 s1 (S (k + 1))) := Lib.hid (by rw [hV]; exact R5.out.below (below_al2 w5 _))
          clear x0 x1 x2 x3
          have hY : X ≠ w5.heap.size := by omega
          have hYs : w5.heap.size < v6.heap.size := BY.out.1
          have hXs : X < v6.heap.size := BX6.out.1
          have hbs : b < v6.heap.size := by have := H6.out.size; omega
          have n2 : ¬ b = v6.heap.size := by omega
          have FS := Lib.hid (FiRel.step (Nat.le_of_lt hX) (Below.call HB.out H6.out) BX6.out S6.out R6.out)
          skip
          rw [← hV]
          clear hV CS1 CS2 BX SN H5 R5 H6 R6 S6 k1 k2 k3 m1 m2 m3 z5 hwr hbr c0 c1 c2 c3 c4 c5 c6 c7 c8
          obtain ⟨c0, c1, c2, c3, c4, c5, c6, c7, c8⟩ := sbox_cells BY.out
          obtain ⟨d0, d1, d2, d3, d4, d5, d6, d7, d8⟩ := sbox_cells BX6.out
          obtain ⟨f0, f1, f2, f3, f4, f5, f6, f7, f8⟩ := sbox_free BX6.out
          clear BY BX6 HB
          go_wp2_with fail
          go_roundw
          case rel => exact ⟨k + 1, by omega, by go_num, FS.out.1, by simpa using FS.out.2⟩
          case measure => simp [intOf]; omega
        · have BY5 : BoxAt w5 wr.heap.size (sysL sysZ) := by
            have h := BoxAt.new wr 28 (sysL sysZ) _ rfl
            exact ⟨j1, fun j v hv => (j2 j).trans (h.2.1 j v hv), fun j => (j3 j).trans (h.2.2 j)⟩
          obtain ⟨v6, hV⟩ : ∃ v, v = putSys w5 wr.heap.size s1 := ⟨_, rfl⟩
          have H6 : Hid (Below wr.heap.size wr v6) := Lib.hid (by rw [hV]; exact putSys_below H5.out (Nat.le_refl _))
          have BY : Hid (BoxAt v6 wr.heap.size (sysL s1)) := Lib.hid (by rw [hV]; exact putSys_box BY5)
          have BX6 := Lib.hid (BX.out.call H6.out)
          have S6 := Lib.hid (SN.out.below H6.out)
          have R6 : Hid (SysR (ApartS X u14) v6 s1 (S (k + 1))) := Lib.hid (by rw [hV]; exact (R5.out.stay (fun b o hb => (putSys_off w5 wr.heap.size s1).2 b o hb.2) (Nat.le_of_eq (putSys_off w5 wr.heap.size s1).1.symm)).mono (fun b hb => hb.1))
          clear BY5
          clear x0 x1 x2 x3
          have hY : X ≠ wr.heap.size := by omega
          have hYs : wr.heap.size < v6.heap.size := BY.out.1
          have hXs : X < v6.heap.size := BX6.out.1
          have hbs : b < v6.heap.size := by have := H6.out.size; omega
          have n2 : ¬ b = v6.heap.size := by omega
          have FS := Lib.hid (FiRel.step (Nat.le_of_lt hX) (Below.call HB.out H6.out) BX6.out S6.out R6.out)
          dsimp only [putSys] at hV
          rw [← hV]
          clear hV CS1 CS2 BX SN H5 R5 H6 R6 S6 k1 k2 k3 m1 m2 m3 j1 j2 j3 z5 hwr hbr c0 c1 c2 c3 c4 c5 c6 c7 c8
          obtain ⟨c0, c1, c2, c3, c4, c5, c6, c7, c8⟩ := sbox_cells BY.out
          obtain ⟨d0, d1, d2, d3, d4, d5, d6, d7, d8⟩ := sbox_cells BX6.out
          obtain ⟨f0, f1, f2, f3, f4, f5, f6, f7, f8⟩ := sbox_free BX6.out
          clear BY BX6 HB
          go_wp2_with fail
          go_roundw
          case rel => exact ⟨k + 1, by omega, by go_num, FS.out.1, by simpa using FS.out.2⟩
          case measure => simp [intOf]; omega
      | true =>
        go_wp2_with fail
        go_region_held3 (fun w' => w'.cell? ⟨X, 0, none⟩ = some (.slice sx.up.a sx.up.n sx.up.c) ∧ w'.cell? ⟨X, 1, none⟩ = some (.int .i64 sx.moment) ∧ w'.cell? ⟨X, 2, none⟩ = some (.int .i64 sx.clock) ∧ w'.cell? ⟨X, 3, none⟩ = some (.int .i64 sx.seq) ∧ w'.cell? ⟨X, 4, none⟩ = some (.slice sx.actors.a sx.actors.n sx.actors.c) ∧ w'.cell? ⟨X, 5, none⟩ = some (.slice sx.flights.a sx.flights.n sx.flights.c) ∧ w'.cell? ⟨X, 6, none⟩ = some (.slice sx.alarms.a sx.alarms.n sx.alarms.c) ∧ w'.cell? ⟨X, 7, none⟩ = some (.slice sx.asked.a sx.asked.n sx.asked.c) ∧ w'.cell? ⟨X, 8, none⟩ = some (.int .i64 sx.dead) ∧ w'.cell? ⟨b, off + k * 4, none⟩ = some (.string m.src) ∧ w'.cell? ⟨b, off + k * 4 + 1, none⟩ = some (.string m.msg) ∧ w'.cell? ⟨b, off + k * 4 + 2, none⟩ = some (.slice m.args.a m.args.n m.args.c) ∧ w'.cell? ⟨b, off + k * 4 + 3, none⟩ = some (.int .i64 m.sent)) (simp [go_sem, *])
          (first
          | (go_at_call 35; with_reducible refine (CS1.out _ (Below.refl _ wr).drew).mono ?_; intro e w5 hpo; obtain ⟨s1, he, rr, hb5⟩ := hpo; subst he; have z5 := hb5.size; have H5 := Lib.hid hb5; have R5 := Lib.hid rr; obtain ⟨k1, k2, k3⟩ := keepB hb5 X (by omega); obtain ⟨m1, m2, m3⟩ := keepB hb5 b (by omega); clear hb5 rr)
          | (go_at_call 35; with_reducible refine (CS2.out _ ((Below.refl _ wr).alloc (Nat.le_refl _) _).drew (by simp)).mono ?_; intro e w5 hpo; obtain ⟨s1, he, rr, hb5, hb6⟩ := hpo; subst he; have z5 := hb6.size; simp at z5; obtain ⟨j1, j2, j3⟩ := keepB hb6 wr.heap.size (by simp); clear hb6; have H5 := Lib.hid hb5; have R5 := Lib.hid rr; obtain ⟨k1, k2, k3⟩ := keepB hb5 X (by omega); obtain ⟨m1, m2, m3⟩ := keepB hb5 b (by omega); clear hb5 rr))
        · obtain ⟨v6, hV⟩ : ∃ v, v = w5.alloc (.cells #[.slice s1.up.a s1.up.n s1.up.c, .int .i64 s1.moment, .int .i64 s1.clock, .int .i64 s1.seq, .slice s1.actors.a s1.actors.n s1.actors.c, .slice s1.flights.a s1.flights.n s1.flights.c, .slice s1.alarms.a s1.alarms.n s1.alarms.c, .slice s1.asked.a s1.asked.n s1.asked.c, .int .i64 s1.dead] 28) := ⟨_, rfl⟩
          have H6 : Hid (Below wr.heap.size wr v6) := Lib.hid (by rw [hV]; exact Below.call H5.out (below_al2 w5 _))
          have BY : Hid (BoxAt v6 w5.heap.size (sysL s1)) := Lib.hid (by rw [hV]; exact BoxAt.new w5 28 (sysL s1) _ rfl)
          have BX6 := Lib.hid (BX.out.call H6.out)
          have S6 := Lib.hid (SN.out.below H6.out)
          have R6 : Hid (SysR (ApartS X u14) v6 s1 (S (k + 1))) := Lib.hid (by rw [hV]; exact R5.out.below (below_al2 w5 _))
          replace x0 := (H6.out.cell (p := ⟨b, off + k * 4, none⟩) hbr).trans x0
          replace x1 := (H6.out.cell (p := ⟨b, off + k * 4 + 1, none⟩) hbr).trans x1
          replace x2 := (H6.out.cell (p := ⟨b, off + k * 4 + 2, none⟩) hbr).trans x2
          replace x3 := (H6.out.cell (p := ⟨b, off + k * 4 + 3, none⟩) hbr).trans x3
          have hY : X ≠ w5.heap.size := by omega
          have hYs : w5.heap.size < v6.heap.size := BY.out.1
          have hXs : X < v6.heap.size := BX6.out.1
          have hbs : b < v6.heap.size := by have := H6.out.size; omega
          have n2 : ¬ b = v6.heap.size := by omega
          have FS := Lib.hid (FiRel.step (Nat.le_of_lt hX) (Below.call HB.out H6.out) BX6.out S6.out R6.out)
          skip
          rw [← hV]
          clear hV CS1 CS2 BX SN H5 R5 H6 R6 S6 k1 k2 k3 m1 m2 m3 z5 hwr hbr c0 c1 c2 c3 c4 c5 c6 c7 c8
          obtain ⟨c0, c1, c2, c3, c4, c5, c6, c7, c8⟩ := sbox_cells BY.out
          obtain ⟨d0, d1, d2, d3, d4, d5, d6, d7, d8⟩ := sbox_cells BX6.out
          obtain ⟨f0, f1, f2, f3, f4, f5, f6, f7, f8⟩ := sbox_free BX6.out
          clear BY BX6 HB
          obtain ⟨i0, hi, hz0, hz1, hz2⟩ := info_parts info34
          have hlen : (if true = true then ms.take k else []).length ≤ 20 := by simp; omega
          have FA := Lib.hid (And.intro (FS.out.1.below (below_al2 _ (.cells #[.string m.src, .string m.msg, .slice m.args.a m.args.n m.args.c, .int .i64 m.sent] 34))) (FS.out.2.below (below_al2 _ (.cells #[.string m.src, .string m.msg, .slice m.args.a m.args.n m.args.c, .int .i64 m.sent] 34))))
          have hsz6 : w.heap.size ≤ v6.heap.size := by omega
          clear FS
          have P1 : Hid ((if true = true then ms.take k else []).length + 1 ≤ maxLen ∧ ((if true = true then ms.take k else []).length + 1) * 64 ≤ 140737488355328) := Lib.hid ⟨by rw [ml_val]; omega, by omega⟩
          have P2 : Hid (w.heap.size ≤ ((putSys v6 X s1).alloc (.cells #[.string m.src, .string m.msg, .slice m.args.a m.args.n m.args.c, .int .i64 m.sent] 34)).heap.size) := Lib.hid (by simp; omega)
          have P3 : Hid (∀ j u, (letL m)[j]? = some u → ((putSys v6 X s1).alloc (.cells #[.string m.src, .string m.msg, .slice m.args.a m.args.n m.args.c, .int .i64 m.sent] 34)).cell? ((⟨v6.heap.size, 0, none⟩ : Addr).add j) = some u) := Lib.hid (cells_new0 (putSys v6 X s1) 34 (letL m) v6.heap.size (putSys_off v6 X s1).1)
          have P4 : Hid (∀ u ∈ letL m, u.oneCell' = true) := Lib.hid (by simp [Value.oneCell'])
          clear hlen hsz6
          go_wp2_with (at_builtin; refine wpList_append_own2 _ rfl (.tmp 79) (.tmp 84) 74 rfl w.heap.size 34 i0 _ 4 64 Try.underlying74 hi hz0 hz1 hz2 rfl (by decide) u14 _ _ (by simp [Act.eval]) FA.out.2.1 ⟨v6.heap.size, 0, none⟩ 1 1 (letL m) (by simp [Act.eval]) rfl P3.out P4.out P1.out.1 P1.out.2 P2.out Nat.one_pos ?_; intro v' w9 ho hgr hor; have HO := Lib.hid ho; have HG := Lib.hid hgr; have HO2 := Lib.hid hor; clear ho hgr hor)
          have FF := Lib.hid (FiRel.append FA.out.1 FA.out.2 HG.out HO2.out m HO.out)
          have HT : Hid (ms.take (k + 1) = ms.take k ++ [m]) := Lib.hid (by rw [List.take_add_one, HK.out]; rfl)
          go_roundw
          case rel => exact ⟨k + 1, by omega, by go_num, FF.out.1, by have h9 := FF.out.2; simp only [if_true] at h9 ⊢; rw [HT.out]; exact h9⟩
          case measure => simp [intOf]; omega
        · have BY5 : BoxAt w5 wr.heap.size (sysL sysZ) := by
            have h := BoxAt.new wr 28 (sysL sysZ) _ rfl
            exact ⟨j1, fun j v hv => (j2 j).trans (h.2.1 j v hv), fun j => (j3 j).trans (h.2.2 j)⟩
          obtain ⟨v6, hV⟩ : ∃ v, v = putSys w5 wr.heap.size s1 := ⟨_, rfl⟩
          have H6 : Hid (Below wr.heap.size wr v6) := Lib.hid (by rw [hV]; exact putSys_below H5.out (Nat.le_refl _))
          have BY : Hid (BoxAt v6 wr.heap.size (sysL s1)) := Lib.hid (by rw [hV]; exact putSys_box BY5)
          have BX6 := Lib.hid (BX.out.call H6.out)
          have S6 := Lib.hid (SN.out.below H6.out)
          have R6 : Hid (SysR (ApartS X u14) v6 s1 (S (k + 1))) := Lib.hid (by rw [hV]; exact (R5.out.stay (fun b o hb => (putSys_off w5 wr.heap.size s1).2 b o hb.2) (Nat.le_of_eq (putSys_off w5 wr.heap.size s1).1.symm)).mono (fun b hb => hb.1))
          clear BY5
          replace x0 := (H6.out.cell (p := ⟨b, off + k * 4, none⟩) hbr).trans x0
          replace x1 := (H6.out.cell (p := ⟨b, off + k * 4 + 1, none⟩) hbr).trans x1
          replace x2 := (H6.out.cell (p := ⟨b, off + k * 4 + 2, none⟩) hbr).trans x2
          replace x3 := (H6.out.cell (p := ⟨b, off + k * 4 + 3, none⟩) hbr).trans x3
          have hY : X ≠ wr.heap.size := by omega
          have hYs : wr.heap.size < v6.heap.size := BY.out.1
          have hXs : X < v6.heap.size := BX6.out.1
          have hbs : b < v6.heap.size := by have := H6.out.size; omega
          have n2 : ¬ b = v6.heap.size := by omega
          have FS := Lib.hid (FiRel.step (Nat.le_of_lt hX) (Below.call HB.out H6.out) BX6.out S6.out R6.out)
          dsimp only [putSys] at hV
          rw [← hV]
          clear hV CS1 CS2 BX SN H5 R5 H6 R6 S6 k1 k2 k3 m1 m2 m3 j1 j2 j3 z5 hwr hbr c0 c1 c2 c3 c4 c5 c6 c7 c8
          obtain ⟨c0, c1, c2, c3, c4, c5, c6, c7, c8⟩ := sbox_cells BY.out
          obtain ⟨d0, d1, d2, d3, d4, d5, d6, d7, d8⟩ := sbox_cells BX6.out
          obtain ⟨f0, f1, f2, f3, f4, f5, f6, f7, f8⟩ := sbox_free BX6.out
          clear BY BX6 HB
          obtain ⟨i0, hi, hz0, hz1, hz2⟩ := info_parts info34
          have hlen : (if true = true then ms.take k else []).length ≤ 20 := by simp; omega
          have FA := Lib.hid (And.intro (FS.out.1.below (below_al2 _ (.cells #[.string m.src, .string m.msg, .slice m.args.a m.args.n m.args.c, .int .i64 m.sent] 34))) (FS.out.2.below (below_al2 _ (.cells #[.string m.src, .string m.msg, .slice m.args.a m.args.n m.args.c, .int .i64 m.sent] 34))))
          have hsz6 : w.heap.size ≤ v6.heap.size := by omega
          clear FS
          have P1 : Hid ((if true = true then ms.take k else []).length + 1 ≤ maxLen ∧ ((if true = true then ms.take k else []).length + 1) * 64 ≤ 140737488355328) := Lib.hid ⟨by rw [ml_val]; omega, by omega⟩
          have P2 : Hid (w.heap.size ≤ ((putSys v6 X s1).alloc (.cells #[.string m.src, .string m.msg, .slice m.args.a m.args.n m.args.c, .int .i64 m.sent] 34)).heap.size) := Lib.hid (by simp; omega)
          have P3 : Hid (∀ j u, (letL m)[j]? = some u → ((putSys v6 X s1).alloc (.cells #[.string m.src, .string m.msg, .slice m.args.a m.args.n m.args.c, .int .i64 m.sent] 34)).cell? ((⟨v6.heap.size, 0, none⟩ : Addr).add j) = some u) := Lib.hid (cells_new0 (putSys v6 X s1) 34 (letL m) v6.heap.size (putSys_off v6 X s1).1)
          have P4 : Hid (∀ u ∈ letL m, u.oneCell' = true) := Lib.hid (by simp [Value.oneCell'])
          clear hlen hsz6
          go_wp2_with (at_builtin; refine wpList_append_own2 _ rfl (.tmp 79) (.tmp 84) 74 rfl w.heap.size 34 i0 _ 4 64 Try.underlying74 hi hz0 hz1 hz2 rfl (by decide) u14 _ _ (by simp [Act.eval]) FA.out.2.1 ⟨v6.heap.size, 0, none⟩ 1 1 (letL m) (by simp [Act.eval]) rfl P3.out P4.out P1.out.1 P1.out.2 P2.out Nat.one_pos ?_; intro v' w9 ho hgr hor; have HO := Lib.hid ho; have HG := Lib.hid hgr; have HO2 := Lib.hid hor; clear ho hgr hor)
          have FF := Lib.hid (FiRel.append FA.out.1 FA.out.2 HG.out HO2.out m HO.out)
          have HT : Hid (ms.take (k + 1) = ms.take k ++ [m]) := Lib.hid (by rw [List.take_add_one, HK.out]; rfl)
          go_roundw
          case rel => exact ⟨k + 1, by omega, by go_num, FF.out.1, by have h9 := FF.out.2; simp only [if_true] at h9 ⊢; rw [HT.out]; exact h9⟩
          case measure => simp [intOf]; omega
    · have hkl : k = l.n := by omega
      subst hkl
      obtain ⟨L, hL⟩ : ∃ L, L = (if r then ms else []) := ⟨_, rfl⟩
      have hLt : (if r = true then ms.take l.n else []) = L := by rw [hL]; cases r with | false => rfl | true => (simp only [if_true]; exact List.take_of_length_le (by rw [ML.out]; exact Nat.le_refl _))
      rw [hLt] at SN
      clear hLt
      have hLn : L.length ≤ 20 := by rw [hL]; cases r <;> simp; have := ML.out; omega
      have HL := Lib.hid hL
      clear hL
      obtain ⟨u9, -, e9, -⟩ := own_sl SN.out.1
      subst e9
      have FR : Hid (FiRel w X (A 0) (.slice u9.a L.length u9.c) wr) := Lib.hid ⟨HB.out, sx, BX.out, by rw [FI.out.a0, ML.out]; exact RX.out⟩
      clear HB BX RX hlt hk
      go_wp2_with fail
      obtain ⟨w7, hw7⟩ : ∃ w7 : World, w7 = wr := ⟨_, rfl⟩
      rw [← hw7] at FR SN ⊢
      clear hw7
      go_loopw [18] (fun i wr => ∃ k : Nat, k ≤ l.n ∧ i = .int .i64 k ∧ FiRel w X (A k) (.slice u9.a L.length u9.c) wr ∧ SentAt w X L (.slice u9.a L.length u9.c) wr) (fun i _ => l.n - (intOf i).toNat)
      case atStart => exact ⟨0, Nat.zero_le _, rfl, FR.out, SN.out⟩
      case round =>
        clear FR SN
        obtain ⟨k, hk, rfl, ⟨hB, sx, hXb, hR⟩, hS⟩ := hrel
        have HB := Lib.hid hB
        have BX := Lib.hid hXb
        have RX := Lib.hid hR
        have SN := Lib.hid hS
        clear hB hXb hR hS
        have hwr : X < wr.heap.size := BX.out.1
        by_cases hlt : k < l.n
        · have CA := Lib.hid (arrive_any sx (A k) x y wr RX.out.low (by rw [RX.out.na, (FI.out.az k).1]; omega) (by rw [← RX.out.nu, (FI.out.az k).2.1]; omega) (by rw [← RX.out.nfl]; have := (FI.out.az k).2.2; rw [ML.out] at this; omega))
          have HA := Lib.hid (FI.out.an k (by rw [ML.out]; exact hlt))
          obtain ⟨c0, c1, c2, c3, c4, c5, c6, c7, c8⟩ := sbox_cells BX.out
          go_wp2_with fail
          refine CA.out.mono ?_
          rintro e w5 ⟨s1, rfl, rr, hb5⟩
          rw [HA.out] at rr
          generalize (Ml.arrive (A k) x y).2.1 = fl at *
          generalize (Ml.arrive (A k) x y).2.2 = ok at *
          have FS := Lib.hid (FiRel.step (Nat.le_of_lt hX) (Below.call HB.out hb5) (BX.out.call hb5) (SN.out.below hb5) (rr.mono (fun b h => h.elim (fun h => h.1) (fun h => ⟨by omega, fun e => by have := own_lt SN.out.1 e; omega⟩))))
          have BX5 := Lib.hid (BX.out.call hb5)
          have hx5 : X < w5.heap.size := BX5.out.1
          have n5 : ¬ X = w5.heap.size := by omega
          clear hb5 rr CA HA BX RX SN HB c0 c1 c2 c3 c4 c5 c6 c7 c8
          obtain ⟨c0, c1, c2, c3, c4, c5, c6, c7, c8⟩ := sbox_cells BX5.out
          obtain ⟨f0, f1, f2, f3, f4, f5, f6, f7, f8⟩ := sbox_free BX5.out
          have FF := Lib.hid (And.intro ((FS.out.1.below (below_al2 _ (.cells #[.slice s1.up.a s1.up.n s1.up.c, .int .i64 s1.moment, .int .i64 s1.clock, .int .i64 s1.seq, .slice s1.actors.a s1.actors.n s1.actors.c, .slice s1.flights.a s1.flights.n s1.flights.c, .slice s1.alarms.a s1.alarms.n s1.alarms.c, .slice s1.asked.a s1.asked.n s1.asked.c, .int .i64 s1.dead] 28))).below (below_al2 _ (.cells #[.int .i64 fl.x, .int .i64 fl.y, .string fl.path, .string fl.l.src, .string fl.l.msg, .slice fl.l.args.a fl.l.args.n fl.l.args.c, .int .i64 fl.l.sent] 66))) ((FS.out.2.below (below_al2 _ (.cells #[.slice s1.up.a s1.up.n s1.up.c, .int .i64 s1.moment, .int .i64 s1.clock, .int .i64 s1.seq, .slice s1.actors.a s1.actors.n s1.actors.c, .slice s1.flights.a s1.flights.n s1.flights.c, .slice s1.alarms.a s1.alarms.n s1.alarms.c, .slice s1.asked.a s1.asked.n s1.asked.c, .int .i64 s1.dead] 28))).below (below_al2 _ (.cells #[.int .i64 fl.x, .int .i64 fl.y, .string fl.path, .string fl.l.src, .string fl.l.msg, .slice fl.l.args.a fl.l.args.n fl.l.args.c, .int .i64 fl.l.sent] 66))))
          clear FS BX5
          go_wp2_with fail
          go_roundw
          case rel => exact ⟨k + 1, by omega, by go_num, FF.out.1, FF.out.2⟩
          case measure => simp [intOf]; omega
        · have hkl : k = l.n := by omega
          subst hkl
          have FR : Hid (FiRel w X (T 0) (.slice u9.a L.length u9.c) wr) := Lib.hid ⟨HB.out, sx, BX.out, by rw [FI.out.t0, ML.out]; exact RX.out⟩
          clear HB BX RX hlt hk hwr
          go_wp2_with fail
          obtain ⟨w8, hw8⟩ : ∃ w8 : World, w8 = wr := ⟨_, rfl⟩
          rw [← hw8] at FR SN ⊢
          clear hw8
          go_loopw [22] (fun i wr => ∃ k : Nat, k ≤ L.length ∧ i = .int .i64 k ∧ FiRel w X (T k) (.slice u9.a L.length u9.c) wr ∧ SentAt w X L (.slice u9.a L.length u9.c) wr) (fun i _ => L.length - (intOf i).toNat)
          case atStart => exact ⟨0, Nat.zero_le _, rfl, FR.out, SN.out⟩
          case round =>
            clear FR SN
            obtain ⟨k, hk, rfl, ⟨hB, sx, hXb, hR⟩, hS⟩ := hrel
            have HB := Lib.hid hB
            have BX := Lib.hid hXb
            have RX := Lib.hid hR
            have SN := Lib.hid hS
            clear hB hXb hR hS
            have hwr : X < wr.heap.size := BX.out.1
            have CT := Lib.hid (take_any sx (T k) p wr RX.out.low (by rw [RX.out.na, (FI.out.tz k).1]; omega))
            obtain ⟨c0, c1, c2, c3, c4, c5, c6, c7, c8⟩ := sbox_cells BX.out
            by_cases hlt : k < L.length
            · obtain ⟨lt, hlt1⟩ : ∃ lt, L[k]? = some lt := ⟨_, List.getElem?_eq_getElem hlt⟩
              have hr1 : r = true := by
                cases hrv : r with
                | true => rfl
                | false => have := HL.out; rw [hrv] at this; rw [this] at hlt; simp at hlt
              have hmk : ms[k]? = some lt := by have := HL.out; rw [hr1] at this; rw [this] at hlt1; simpa using hlt1
              rw [FI.out.tn hr1 k lt hmk] at CT
              have LS : Hid (LetSame w lt lt) := Lib.hid (DL.out lt (List.mem_of_getElem? hmk)).self
              have HLT := Lib.hid hlt1
              clear hr1 hmk hlt1
              go_wp2_with fail
              refine CT.out.mono ?_
              rintro e w5 ⟨s1, rfl, rr, hb5⟩
              dsimp only at rr
              have FS := Lib.hid (FiRel.step (Nat.le_of_lt hX) (Below.call HB.out hb5) (BX.out.call hb5) (SN.out.below hb5) (rr.mono (fun b h => h.elim (fun h => h.1) (fun h => ⟨by omega, fun e => by have := own_lt SN.out.1 e; omega⟩))))
              have BX5 := Lib.hid (BX.out.call hb5)
              have hx5 : X < w5.heap.size := BX5.out.1
              have n5 : ¬ X = w5.heap.size := by omega
              clear hb5 rr CT BX RX SN HB c0 c1 c2 c3 c4 c5 c6 c7 c8
              obtain ⟨c0, c1, c2, c3, c4, c5, c6, c7, c8⟩ := sbox_cells BX5.out
              obtain ⟨f0, f1, f2, f3, f4, f5, f6, f7, f8⟩ := sbox_free BX5.out
              have FF := Lib.hid (And.intro ((FS.out.1.below (below_al2 _ (.cells #[.slice s1.up.a s1.up.n s1.up.c, .int .i64 s1.moment, .int .i64 s1.clock, .int .i64 s1.seq, .slice s1.actors.a s1.actors.n s1.actors.c, .slice s1.flights.a s1.flights.n s1.flights.c, .slice s1.alarms.a s1.alarms.n s1.alarms.c, .slice s1.asked.a s1.asked.n s1.asked.c, .int .i64 s1.dead] 28))).below (below_al2 _ (.cells #[.string lt.src, .string lt.msg, .slice lt.args.a lt.args.n lt.args.c, .int .i64 lt.sent] 34))) ((FS.out.2.below (below_al2 _ (.cells #[.slice s1.up.a s1.up.n s1.up.c, .int .i64 s1.moment, .int .i64 s1.clock, .int .i64 s1.seq, .slice s1.actors.a s1.actors.n s1.actors.c, .slice s1.flights.a s1.flights.n s1.flights.c, .slice s1.alarms.a s1.alarms.n s1.alarms.c, .slice s1.asked.a s1.asked.n s1.asked.c, .int .i64 s1.dead] 28))).below (below_al2 _ (.cells #[.string lt.src, .string lt.msg, .slice lt.args.a lt.args.n lt.args.c, .int .i64 lt.sent] 34))))
              clear FS BX5
              go_wp2_with fail
              obtain ⟨v6, hV⟩ : ∃ v, v = ((putSys w5 X s1).alloc (.cells #[.slice s1.up.a s1.up.n s1.up.c, .int .i64 s1.moment, .int .i64 s1.clock, .int .i64 s1.seq, .slice s1.actors.a s1.actors.n s1.actors.c, .slice s1.flights.a s1.flights.n s1.flights.c, .slice s1.alarms.a s1.alarms.n s1.alarms.c, .slice s1.asked.a s1.asked.n s1.asked.c, .int .i64 s1.dead] 28)).alloc (.cells #[.string lt.src, .string lt.msg, .slice lt.args.a lt.args.n lt.args.c, .int .i64 lt.sent] 34) := ⟨_, rfl⟩
              have BL : Hid (BoxAt v6 (w5.heap.size + 1) (letL lt)) := Lib.hid (by rw [hV]; exact BoxAt.new _ 34 (letL lt) _ (by simp))
              rw [← hV] at FF
              dsimp only [putSys] at hV
              rw [← hV]
              clear hV c0 c1 c2 c3 c4 c5 c6 c7 c8 f0 f1 f2 f3 f4 f5 f6 f7 f8 n5 hx5
              obtain ⟨g, lt2, hga, hgb, hgs, hg1, hgc, -⟩ := own_at FF.out.2.1 (fun _ => rfl) (by omega) (i := k) hlt
              have e2 : lt2 = lt := by rw [HLT.out] at hg1; injection hg1 with hg1; exact hg1.symm
              subst e2
              have hix : ∀ W : World, Sem.run Try.prog (Instr.indexAt 74 (.slice u9.a L.length u9.c) (.int .i64 (k : Int))) W = .ok (.pointer (some ⟨g, k * 4, none⟩)) W := by intro W; rw [hga]; go_simp
              have x0 : v6.cell? ⟨g, k * 4, none⟩ = some (.string lt2.src) := hgc 0 _ rfl
              have x1 : v6.cell? ⟨g, k * 4 + 1, none⟩ = some (.string lt2.msg) := hgc 1 _ rfl
              have x2 : v6.cell? ⟨g, k * 4 + 2, none⟩ = some (.slice lt2.args.a lt2.args.n lt2.args.c) := hgc 2 _ rfl
              have x3 : v6.cell? ⟨g, k * 4 + 3, none⟩ = some (.int .i64 lt2.sent) := hgc 3 _ rfl
              have y0 : v6.cell? ⟨w5.heap.size + 1, 0, none⟩ = some (.string lt2.src) := BL.out.2.1 0 _ rfl
              have y1 : v6.cell? ⟨w5.heap.size + 1, 1, none⟩ = some (.string lt2.msg) := BL.out.2.1 1 _ rfl
              have y2 : v6.cell? ⟨w5.heap.size + 1, 2, none⟩ = some (.slice lt2.args.a lt2.args.n lt2.args.c) := BL.out.2.1 2 _ rfl
              have y3 : v6.cell? ⟨w5.heap.size + 1, 3, none⟩ = some (.int .i64 lt2.sent) := BL.out.2.1 3 _ rfl
              have hl6 : w5.heap.size + 1 < v6.heap.size := BL.out.1
              clear hga hgb hg1 hgc
              go_region_held3 (fun w' => w'.cell? ⟨g, k * 4, none⟩ = some (.string lt2.src) ∧ w'.cell? ⟨g, k * 4 + 1, none⟩ = some (.string lt2.msg) ∧ w'.cell? ⟨g, k * 4 + 2, none⟩ = some (.slice lt2.args.a lt2.args.n lt2.args.c) ∧ w'.cell? ⟨g, k * 4 + 3, none⟩ = some (.int .i64 lt2.sent) ∧ w'.cell? ⟨w5.heap.size + 1, 0, none⟩ = some (.string lt2.src) ∧ w'.cell? ⟨w5.heap.size + 1, 1, none⟩ = some (.string lt2.msg) ∧ w'.cell? ⟨w5.heap.size + 1, 2, none⟩ = some (.slice lt2.args.a lt2.args.n lt2.args.c) ∧ w'.cell? ⟨w5.heap.size + 1, 3, none⟩ = some (.int .i64 lt2.sent)) (simp [go_sem, *])
                (first | (go_at_call 39; with_reducible refine (sameLetter_true lt2 lt2 _ ((LS.out.below FF.out.1.b).below (Below.refl _ v6).drew)).mono ?_; rintro e w9 ⟨rfl, h9⟩; have H9 : Hid (Below v6.heap.size v6 w9) := Lib.hid (Below.call (Below.refl _ v6).drew h9); have z9 := h9.size; simp at z9; obtain ⟨k1, k2, k3⟩ := keepB h9 g (by simp; omega); obtain ⟨m1, m2, m3⟩ := keepB h9 (w5.heap.size + 1) (by simp; omega); clear h9))
              have FG := Lib.hid (And.intro (FF.out.1.below H9.out) (FF.out.2.below H9.out))
              clear FF H9 BL x0 x1 x2 x3 y0 y1 y2 y3 k1 k2 k3 m1 m2 m3 hix
              go_wp2_with fail
              go_roundw
              case rel => exact ⟨k + 1, by omega, by go_num, FG.out.1, FG.out.2⟩
              case measure => simp [intOf]; omega
            · have hkl : k = L.length := by omega
              have hte : (Ml.take (T k) p).2.2 = false := by
                have h9 := FI.out.te
                have e : (if r = true then ms.length else 0) = k := by
                  rw [hkl, HL.out]
                  cases r <;> rfl
                rw [e] at h9
                exact h9
              go_wp2_with fail
              refine CT.out.mono ?_
              rintro e w5 ⟨s1, rfl, rr, hb5⟩
              rw [hte]
              generalize (Ml.take (T k) p).2.1 = lt at *
              have HZ := Lib.hid (Below.call HB.out hb5)
              clear hb5 rr CT BX RX SN HB c0 c1 c2 c3 c4 c5 c6 c7 c8 hte
              go_wp2_with fail
              go_ret
              exact ⟨rfl, ((HZ.out.alloc HZ.out.size _).alloc (by have := HZ.out.size; simp; omega) _)⟩
end Go.Proofs.Ytjdjfjokniingaa
