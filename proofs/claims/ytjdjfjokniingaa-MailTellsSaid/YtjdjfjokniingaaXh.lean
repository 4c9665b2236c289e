/- The plain law of MailTells: what the operations keep. -/
import Derived.Test.YtjdjfjokniingaaXg
import Derived.Test.YtjdjfjokniingaaRe
import Derived.Deep.CutBlock
namespace Go.Proofs.Ytjdjfjokniingaa
open Go.RowKit

theorem mem_modify2 {α : Type} {f : α → α} {a : α} : ∀ {l : List α} {i : Nat}, a ∈ l.modify i f → a ∈ l ∨ ∃ b ∈ l, a = f b
  | [], i, h => by simp at h
  | x :: l, 0, h => by
    rw [List.modify_zero_cons] at h
    rcases List.mem_cons.1 h with rfl | h
    · exact .inr ⟨x, List.mem_cons_self, rfl⟩
    · exact .inl (List.mem_cons_of_mem _ h)
  | x :: l, i + 1, h => by
    rw [List.modify_succ_cons] at h
    rcases List.mem_cons.1 h with rfl | h
    · exact .inl List.mem_cons_self
    · rcases mem_modify2 h with h | ⟨b, hb, e⟩
      · exact .inl (List.mem_cons_of_mem _ h)
      · exact .inr ⟨b, List.mem_cons_of_mem _ hb, e⟩
theorem PSD.mailed {w : World} {σ : PS} {i : Nat} {f : List LetC → List LetC} (h : PSD w σ) (hf : ∀ l, (∀ m ∈ l, LetD w m) → ∀ m ∈ f l, LetD w m) : PSD w (Ml.mailed σ i f) := by
  have hac : ∀ a ∈ (Ml.mailed σ i f).acts, PLD w a := by
    intro a ha
    rcases mem_modify2 ha with ha | ⟨b, hb, rfl⟩
    · exact h.ac a ha
    · exact { node := (h.ac b hb).node, path := (h.ac b hb).path, init := (h.ac b hb).init, vars := (h.ac b hb).vars, mail := hf _ (h.ac b hb).mail }
  exact { h with ac := hac }
theorem wfI_wrap (x : Int) : WfI (wrap64 x) := by unfold WfI wrap64; omega
theorem PSD.lost {w : World} {σ : PS} (h : PSD w σ) : PSD w (Ml.lost σ) := { h with dd := wfI_wrap _ }
theorem PSD.post {w : World} {σ : PS} (p : ByteArray) {l : LetC} (h : PSD w σ) (hl : LetD w l) : PSD w (Ml.post σ p l).1 := by
  unfold Ml.post
  split
  · split
    · exact h.mailed fun k hk m hm => by
        rcases List.mem_append.1 hm with hm | hm
        · exact hk m hm
        · rw [List.mem_singleton.1 hm]; exact hl
    · exact h.lost
  · exact h.lost
theorem wfI_node {w : World} {σ : PS} (h : PSD w σ) (i : Nat) : WfI (Ml.nodeOf σ i) := by
  unfold Ml.nodeOf
  cases hi : σ.acts[i]? with
  | none => simp [WfI]
  | some a => exact (h.ac a (List.mem_of_getElem? hi)).node
theorem PSD.send {w : World} {σ : PS} {x : Int} (p : ByteArray) {l : LetC} (h : PSD w σ) (hx : WfI x) (hl : LetD w l) : PSD w (Ml.send σ x p l).1 := by
  unfold Ml.send
  split
  · rename_i i _
    split
    · exact h.post p hl
    · split
      · have hfl : ∀ f ∈ σ.fls ++ [(⟨x, Ml.nodeOf σ i, p, l⟩ : FlyC)], FlyD w f := by
          intro f hf
          rcases List.mem_append.1 hf with hf | hf
          · exact h.fl f hf
          · rw [List.mem_singleton.1 hf]; exact ⟨hx, wfI_node h i, hl⟩
        exact { h with fl := hfl }
      · exact h.lost
  · exact h.lost
theorem letZ_deep (w : World) : LetD w letZ := ⟨⟨0, [], rfl, by simp [RdV]⟩, by simp [letZ, WfI], by simp [letZ, ByteArray.size]⟩
theorem take_deep {w : World} {σ : PS} (p : ByteArray) (h : PSD w σ) : PSD w (Ml.take σ p).1 ∧ LetD w (Ml.take σ p).2.1 := by
  unfold Ml.take
  split
  · rename_i i hi
    obtain ⟨a, ha⟩ := Ml.find_lt hi
    simp only [ha, Option.map_some, Option.getD_some]
    cases hm : a.mail with
    | nil => exact ⟨h, letZ_deep w⟩
    | cons m r =>
      exact ⟨h.mailed fun k hk z hz => hk z (List.mem_of_mem_tail hz), (h.ac a (List.mem_of_getElem? ha)).mail m (by rw [hm]; exact List.mem_cons_self)⟩
  · exact ⟨h, letZ_deep w⟩
theorem arrive_deep {w : World} {σ : PS} (x y : Int) (h : PSD w σ) : PSD w (Ml.arrive σ x y).1 ∧ LetD w (Ml.arrive σ x y).2.1.l := by
  unfold Ml.arrive
  split
  · rename_i i hi
    have hl : LetD w ((σ.fls[i]?).getD flyZ).l := by
      cases hf : σ.fls[i]? with
      | none => exact letZ_deep w
      | some f => exact (h.fl f (List.mem_of_getElem? hf)).l
    refine ⟨PSD.post _ ?_ hl, hl⟩
    have hfl : ∀ f ∈ σ.fls.take i ++ σ.fls.drop (i + 1), FlyD w f := by
      intro f hf
      rcases List.mem_append.1 hf with hf | hf
      · exact h.fl f (List.mem_of_mem_take hf)
      · exact h.fl f (List.mem_of_mem_drop hf)
    exact { h with fl := hfl }
  · exact ⟨h, letZ_deep w⟩
theorem post_rs (σ : PS) (p : ByteArray) (l : LetC) : (Ml.post σ p l).1.rs = σ.rs := by
  unfold Ml.post
  split
  · split <;> rfl
  · rfl
theorem send_rs (σ : PS) (x : Int) (p : ByteArray) (l : LetC) : (Ml.send σ x p l).1.rs = σ.rs := by
  unfold Ml.send
  split
  · split
    · exact post_rs σ p l
    · split <;> rfl
  · rfl
theorem take_rs (σ : PS) (p : ByteArray) : (Ml.take σ p).1.rs = σ.rs := by
  unfold Ml.take
  split
  · split <;> rfl
  · rfl
theorem arrive_rs (σ : PS) (x y : Int) : (Ml.arrive σ x y).1.rs = σ.rs := by
  unfold Ml.arrive
  split
  · exact post_rs _ _ _
  · rfl
/-- a state of the loop: small, and read to all its depth since the call -/
structure TeOk (w : World) (τ : PS) (k : Nat) : Prop where
  ac : τ.acts.length ≤ 60
  al : τ.als.length ≤ 60
  up : τ.ups.length ≤ 60
  rq : τ.rs.length ≤ 60
  le : Ml.held τ ≤ 60 + k
  deep : PSD w τ
section
variable {w : World} {τ : PS} {k : Nat}
theorem TeOk.stay (h : TeOk w τ k) : TeOk w τ (k + 1) := { h with le := by have := h.le; omega }
theorem TeOk.grown {υ : PS} {d : Int} (h : TeOk w τ k) (g : Ml.Grows τ υ d) (hr : υ.rs = τ.rs) (hd : PSD w υ) : TeOk w υ (k + 1) :=
  ⟨by rw [g.ac]; exact h.ac, by rw [g.al]; exact h.al, by rw [g.up]; exact h.up, by rw [hr]; exact h.rq, by have := h.le; have := g.le; omega, hd⟩
theorem TeOk.post (h : TeOk w τ k) (p : ByteArray) {l : LetC} (hl : LetD w l) : TeOk w (Ml.post τ p l).1 (k + 1) := h.grown (Ml.post_grows τ p l) (post_rs τ p l) (h.deep.post p hl)
theorem TeOk.send (h : TeOk w τ k) (x : Int) (p : ByteArray) {l : LetC} (hx : WfI x) (hl : LetD w l) : TeOk w (Ml.send τ x p l).1 (k + 1) := h.grown (Ml.send_grows τ x p l) (send_rs τ x p l) (h.deep.send p hx hl)
theorem TeOk.take (h : TeOk w τ k) (p : ByteArray) : TeOk w (Ml.take τ p).1 (k + 1) := by
  cases hb : (Ml.take τ p).2.2 with
  | true => exact h.grown (Ml.take_yes hb) (take_rs τ p) (take_deep p h.deep).1
  | false => rw [Ml.take_no hb]; exact h.stay
theorem TeOk.arrive (h : TeOk w τ k) (x y : Int) : TeOk w (Ml.arrive τ x y).1 (k + 1) := by
  obtain ⟨_, h1, h2, h3, h4⟩ := Ml.arrive_grows τ x y
  exact ⟨by rw [h1]; exact h.ac, by rw [h2]; exact h.al, by rw [h3]; exact h.up, by rw [arrive_rs]; exact h.rq, by have := h.le; omega, (arrive_deep x y h.deep).1⟩
theorem mails_zap (node : Int) : ∀ l : List PL, Ml.mails (l.map (Ml.zap node)) ≤ Ml.mails l
  | [] => Nat.le_refl _
  | a :: l => by
    have := mails_zap node l
    have h2 : (Ml.zap node a).mail.length ≤ a.mail.length := by unfold Ml.zap; split <;> simp
    simp only [Ml.mails, List.map_cons, List.sum_cons] at this ⊢
    omega
theorem TeOk.drop (h : TeOk w τ k) (node : Int) : TeOk w (Ml.drop τ node) (k + 1) := by
  refine ⟨by rw [Ml.drop_acts, List.length_map]; exact h.ac, Nat.le_trans (List.length_filter_le _ _) h.al, h.up, h.rq, ?_, h.deep.drop node⟩
  have h1 := mails_zap node τ.acts
  have h2 : (Ml.drop τ node).fls.length ≤ τ.fls.length := List.length_filter_le _ _
  have h3 := h.le
  unfold Ml.held at h3 ⊢
  rw [Ml.drop_acts]
  omega
theorem mails_le : ∀ {l : List PL} {a : PL}, a ∈ l → a.mail.length ≤ Ml.mails l
  | x :: l, a, h => by
    simp only [Ml.mails, List.map_cons, List.sum_cons]
    rcases List.mem_cons.1 h with rfl | h
    · omega
    · have := mails_le h
      simp only [Ml.mails] at this
      omega
theorem TeOk.ml (h : TeOk w τ k) {a : PL} (ha : a ∈ τ.acts) : a.mail.length ≤ 60 + k := by
  have h1 := mails_le ha
  have h2 := h.le
  unfold Ml.held at h2
  omega
theorem TeOk.fl (h : TeOk w τ k) : τ.fls.length ≤ 60 + k := by
  have h2 := h.le
  unfold Ml.held at h2
  omega
theorem TeOk.psz (h : TeOk w τ k) (hk : k ≤ 31) : PSZ 9223372036854775807 τ :=
  ⟨by have := h.up; omega, by have := h.ac; omega, by have := h.fl; omega, by have := h.al; omega, by have := h.rq; omega, fun a ha => by have := h.ml ha; omega⟩
end
/-- the blocks that are neither of the two boxes -/
abbrev NotXY (X Y : Nat) : Nat → Prop := fun b => b ≠ X ∧ b ≠ Y
theorem putX_R {W : World} {X Y : Nat} {s t : SysC} {σ : PS} (h : SysR (NotXY X Y) W t σ) : SysR (NotXY X Y) (putSys W X s) t σ :=
  h.stay (fun b o hb => (putSys_off W X s).2 b o hb.1) (Nat.le_of_eq (putSys_off W X s).1.symm)
theorem putY_R {W : World} {X Y : Nat} {s t : SysC} {σ : PS} (h : SysR (NotXY X Y) W t σ) : SysR (NotXY X Y) (putSys W Y s) t σ :=
  h.stay (fun b o hb => (putSys_off W Y s).2 b o hb.2) (Nat.le_of_eq (putSys_off W Y s).1.symm)
/-- what the loop of MailTells keeps -/
def TeRel (w : World) (X Y : Nat) (m : Nat) (i : Value) (wr : World) : Prop :=
  ∃ (k : Nat) (sx sy : SysC) (τ : PS), k ≤ m ∧ i = .int .i64 k ∧ Below w.heap.size w wr ∧ BoxAt wr X (sysL sx) ∧ BoxAt wr Y (sysL sy) ∧ SysR (NotXY X Y) wr sx τ ∧ SysR (NotXY X Y) wr sy τ ∧ TeOk w τ k

theorem op_cells {W : World} {B : Nat} {p : OpC} (h : BoxAt W B (opL p)) : W.cell? ⟨B, 0, none⟩ = some (.int .i64 p.op) ∧ W.cell? ⟨B, 1, none⟩ = some (.int .i64 p.x) ∧ W.cell? ⟨B, 2, none⟩ = some (.int .i64 p.y) ∧ W.cell? ⟨B, 3, none⟩ = some (.string p.path) ∧ W.cell? ⟨B, 4, none⟩ = some (.string p.l.src) ∧ W.cell? ⟨B, 5, none⟩ = some (.string p.l.msg) ∧ W.cell? ⟨B, 6, none⟩ = some (.slice p.l.args.a p.l.args.n p.l.args.c) ∧ W.cell? ⟨B, 7, none⟩ = some (.int .i64 p.l.sent) := ⟨h.2.1 0 _ rfl, h.2.1 1 _ rfl, h.2.1 2 _ rfl, h.2.1 3 _ rfl, h.2.1 4 _ rfl, h.2.1 5 _ rfl, h.2.1 6 _ rfl, h.2.1 7 _ rfl⟩
theorem find44_R {P : Nat → Prop} {s : SysC} {σ : PS} {w : World} (h : SysR P w s σ) (hn : s.actors.n ≤ 1000000) (p : ByteArray) :
    Calls Try.prog 44 #[sysV s, .string p] w fun e w' => e = .returned (.tuple #[.int .i64 ((Ml.find (σ.acts.map (·.path)) p).getD 0 : Nat), .bool (Ml.find (σ.acts.map (·.path)) p).isSome]) ∧ Below w.heap.size w w' := by
  obtain ⟨qs, h1, _, h3⟩ := h.ac
  have := find_any s (qs.map (·.1)) p w h1 (by omega)
  rw [show (qs.map (·.1)).map (·.path) = σ.acts.map (·.path) by rw [← h3]; simp [plOf]] at this
  exact this
theorem find45_R {P : Nat → Prop} {s : SysC} {σ : PS} {w : World} (h : SysR P w s σ) (hn : s.actors.n ≤ 1000000) (p : ByteArray) :
    Calls Try.prog 45 #[sysV s, .string p] w fun e w' => e = .returned (.tuple #[.int .i64 ((Ml.find (σ.acts.map (·.path)) p).getD 0 : Nat), .bool (Ml.find (σ.acts.map (·.path)) p).isSome]) ∧ Below w.heap.size w w' := by
  obtain ⟨qs, h1, _, h3⟩ := h.ac
  have := find45 s (qs.map (·.1)) p w h1 (by omega)
  rw [show (qs.map (·.1)).map (·.path) = σ.acts.map (·.path) by rw [← h3]; simp [plOf]] at this
  exact this
theorem notXY {X Y N : Nat} {P : Nat → Prop} (hX : X < N) (hY : Y < N) (hP : ∀ b, P b → NotXY X Y b) : ∀ b, P b ∨ N ≤ b → NotXY X Y b := fun b h => h.elim (hP b) (fun h => ⟨by omega, by omega⟩)
/-- what the switch of the round leaves -/
def TeCut (w : World) (X Y B k : Nat) (p : OpC) (wx : World) : Prop :=
  ∃ (s1 s2 : SysC) (υ : PS), Below w.heap.size w wx ∧ BoxAt wx X (sysL s1) ∧ BoxAt wx Y (sysL s2) ∧ BoxAt wx B (opL p) ∧ SysR (NotXY X Y) wx s1 υ ∧ SysR (NotXY X Y) wx s2 υ ∧ TeOk w υ (k + 1)
theorem below_one (w : World) (o : Obj) : Below w.heap.size w (w.alloc o) := (Below.refl _ w).alloc (Nat.le_refl _) _
/-- the part of a text that branches on a slot -/
def condOn (t : Nat) : Code → Option Code
  | .cond (.tmp n) a b => if n = t then some (.cond (.tmp n) a b) else match condOn t a with
    | some c => some c
    | none => condOn t b
  | .cond _ a b => match condOn t a with
    | some c => some c
    | none => condOn t b
  | .seq a b => match condOn t a with
    | some c => some c
    | none => condOn t b
  | .block _ c => condOn t c
  | .scope c => condOn t c
  | .loop c => condOn t c
  | _ => none
noncomputable def condCode (t : Nat) : Code := ((Try.f9.body.bind (condOn t)).getD .skip)
/-- Drop hands a state back -/
def DropPost (P : Nat → Prop) (τ : PS) (w : World) (e : Ending) (w' : World) : Prop := ∃ s', e = .returned (sysV s') ∧ SysR (fun b => P b ∨ w.heap.size ≤ b) w' s' τ ∧ Below w.heap.size w w'
end Go.Proofs.Ytjdjfjokniingaa
