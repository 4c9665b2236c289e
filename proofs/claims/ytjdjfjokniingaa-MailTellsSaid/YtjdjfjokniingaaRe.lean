/- retroactref16.Same on two states that read as one plain state; the plain law of mail.Drop. -/
import Derived.Test.YtjdjfjokniingaaRb
namespace Go.Proofs.Ytjdjfjokniingaa
open Go.RowKit

/-- two actors in memory that read as one plain actor -/
theorem live_same {P Q : Nat → Prop} {w : World} {q q' : LiveC × List LetC} (h1 : MailAt P w q.1 q.2) (h2 : MailAt Q w q'.1 q'.2) (he : plOf q = plOf q') (hd : PLD w (plOf q)) (hl : (plOf q).mail.length ≤ 9223372036854775807) : LiveSame w q.1 q'.1 := by
  obtain ⟨⟨p, t, nd, ini, va, kd, rs, st, ml⟩, ms⟩ := q
  obtain ⟨⟨p', t', nd', ini', va', kd', rs', st', ml'⟩, ms'⟩ := q'
  simp only [plOf, PL.mk.injEq] at he
  obtain ⟨rfl, rfl, rfl, rfl, rfl, rfl, rfl, rfl, rfl⟩ := he
  refine ⟨rfl, rfl, rfl, rfl, rfl, rfl, hd.init.self, hd.vars.self, fun W hW => ?_⟩
  have n1 : ms.length = ml.n := h1.rd.len (fun _ => rfl) (by omega)
  have n2 : ms.length = ml'.n := h2.rd.len (fun _ => rfl) (by omega)
  have r1 := h1.rd.up hW
  have r2 := h2.rd.up hW
  simp only at r1 r2
  rw [← n1] at r1
  rw [← n2] at r2
  show Calls Try.prog 89 #[.slice ml.a ml.n ml.c, .slice ml'.a ml'.n ml'.c] W _
  rw [← n1, ← n2]
  refine sameLetters_true ms ms _ _ _ _ _ W r1 r2 hl fun k x y hx hy => ?_
  rw [hx] at hy
  cases hy
  exact ((hd.mail x (List.mem_of_getElem? hx)).below hW).self
theorem acts_same {P Q : Nat → Prop} {w : World} {qs qs' : List (LiveC × List LetC)} {acts : List PL} (h1 : ∀ q ∈ qs, MailAt P w q.1 q.2) (h2 : ∀ q ∈ qs', MailAt Q w q.1 q.2) (e1 : qs.map plOf = acts) (e2 : qs'.map plOf = acts) (hd : ∀ a ∈ acts, PLD w a) (hl : ∀ a ∈ acts, a.mail.length ≤ 9223372036854775807) :
    ∀ (k : Nat) (x y : LiveC), (qs.map (·.1))[k]? = some x → (qs'.map (·.1))[k]? = some y → LiveSame w x y := by
  intro k x y hx hy
  rw [List.getElem?_map] at hx hy
  cases hq : qs[k]? with
  | none => rw [hq] at hx; cases hx
  | some q =>
    cases hq' : qs'[k]? with
    | none => rw [hq'] at hy; cases hy
    | some q' =>
      rw [hq] at hx
      rw [hq'] at hy
      simp only [Option.map_some, Option.some.injEq] at hx hy
      subst hx hy
      have m1 : acts[k]? = some (plOf q) := by rw [← e1, List.getElem?_map, hq]; rfl
      have m2 : acts[k]? = some (plOf q') := by rw [← e2, List.getElem?_map, hq']; rfl
      rw [m1] at m2
      injection m2 with m2
      exact live_same (h1 q (List.mem_of_getElem? hq)) (h2 q' (List.mem_of_getElem? hq')) m2 (hd _ (List.mem_of_getElem? m1)) (hl _ (List.mem_of_getElem? m1))

theorem same_R {P Q : Nat → Prop} (s t : SysC) (σ : PS) (w : World) (h1 : SysR P w s σ) (h2 : SysR Q w t σ) (hd : PSD w σ) (hz : PSZ 9223372036854775807 σ) :
    Calls Try.prog 26 #[sysV s, sysV t] w fun e w' => e = .returned (.bool true) ∧ Below w.heap.size w w' := by
  obtain ⟨qs, a1, a2, a3⟩ := h1.ac
  obtain ⟨qs', b1, b2, b3⟩ := h2.ac
  have r1 := h1.rq.len (fun _ => rfl) (by omega)
  have r2 := h2.rq.len (fun _ => rfl) (by omega)
  have u1 := h1.up
  have u2 := h2.up
  have f1 := h1.fl
  have f2 := h2.fl
  have l1 := h1.al
  have l2 := h2.al
  have g1 := h1.rq
  have g2 := h2.rq
  have hself : ∀ (fs : List FlyC), (∀ f ∈ fs, FlyD w f) → ∀ (k : Nat) (x y : FlyC), fs[k]? = some x → fs[k]? = some y → FlySame w x y := fun fs hf k x y hx hy => by
    rw [hx] at hy
    cases hy
    exact (hf x (List.mem_of_getElem? hx)).self
  dsimp only [sysV]
  rw [h1.mo, h2.mo, h1.ck, h2.ck, h1.sq, h2.sq, h1.dd, h2.dd]
  rw [← h1.nu] at u1 ⊢
  rw [← h2.nu] at u2 ⊢
  rw [h1.na] at a1 ⊢
  rw [h2.na] at b1 ⊢
  rw [← h1.nfl] at f1 ⊢
  rw [← h2.nfl] at f2 ⊢
  rw [← h1.nal] at l1 ⊢
  rw [← h2.nal] at l2 ⊢
  rw [← r1] at g1 ⊢
  rw [← r2] at g2 ⊢
  exact same_raw _ _ _ _ _ _ _ _ _ _ _ _ _ _ _ _ _ _ _ _ _ _ _ _ _ _ _ _ _ σ.ups (qs.map (·.1)) (qs'.map (·.1)) σ.fls σ.fls σ.als σ.als σ.rs σ.rs w u1 u2 a1 b1 f1 f2 l1 l2 g1 g2 hz.up hz.ac hz.fl hz.al hz.rq (acts_same a2 b2 a3 b3 hd.ac hz.ml) (hself _ hd.fl) (hself _ hd.al) (fun k x y hx hy => by
    rw [hx] at hy
    cases hy
    exact (hd.rq x (List.mem_of_getElem? hx)).self)

namespace Ml
def zap (node : Int) (a : PL) : PL := if a.node = node then { a with mail := [] } else a
theorem zap_node (node : Int) (a : PL) : (zap node a).node = a.node := by unfold zap; split <;> rfl
theorem zap_path (node : Int) (a : PL) : (zap node a).path = a.path := by unfold zap; split <;> rfl
theorem zap_zap (node : Int) (a : PL) : zap node (zap node a) = zap node a := by
  unfold zap
  by_cases h : a.node = node
  · simp [h]
  · simp [h]
theorem pn_zap (node : Int) (l : List PL) : pn (l.map (zap node)) = pn l := by
  unfold pn
  rw [List.map_map]
  apply List.map_congr_left
  intro a _
  simp [zap_node, zap_path]
theorem drop_acts (σ : PS) (node : Int) : (drop σ node).acts = σ.acts.map (zap node) := rfl
theorem drop_drop (σ : PS) (node : Int) : drop (drop σ node) node = drop σ node := by
  have h1 : (drop (drop σ node) node).acts = (drop σ node).acts := by
    rw [drop_acts, drop_acts, List.map_map]
    apply List.map_congr_left
    intro a _
    exact zap_zap node a
  have h2 : (drop (drop σ node) node).als = (drop σ node).als := by
    show (List.filter _ (List.filter _ σ.als)) = List.filter _ σ.als
    rw [drop_acts, pn_zap, List.filter_filter]
    congr 1
    funext f
    simp
  have h3 : (drop (drop σ node) node).fls = (drop σ node).fls := by
    show (List.filter _ (List.filter _ σ.fls)) = List.filter _ σ.fls
    rw [List.filter_filter]
    congr 1
    funext f
    simp
  have e : ∀ a b : PS, a.ups = b.ups → a.moment = b.moment → a.clock = b.clock → a.seq = b.seq → a.acts = b.acts → a.fls = b.fls → a.als = b.als → a.rs = b.rs → a.dead = b.dead → a = b := by
    intro a b; cases a; cases b; simp; intro a1 a2 a3 a4 a5 a6 a7 a8 a9; exact ⟨a1, a2, a3, a4, a5, a6, a7, a8, a9⟩
  exact e _ _ rfl rfl rfl rfl h1 h3 h2 rfl rfl
end Ml
theorem PLD.zap {w : World} {a : PL} (node : Int) (h : PLD w a) : PLD w (Ml.zap node a) := by
  unfold Ml.zap
  split
  · exact ⟨h.node, h.path, h.init, h.vars, fun m hm => by simp at hm⟩
  · exact h
theorem PSD.drop {w : World} {σ : PS} (node : Int) (h : PSD w σ) : PSD w (Ml.drop σ node) :=
  ⟨fun a ha => by
    obtain ⟨b, hb, rfl⟩ := List.mem_map.1 ha
    exact (h.ac b hb).zap node, fun f hf => h.fl f (List.mem_filter.1 hf).1, fun f hf => h.al f (List.mem_filter.1 hf).1, h.rq, h.ck, h.sq, h.dd⟩
theorem PSZ.drop {N : Nat} {σ : PS} (node : Int) (h : PSZ N σ) : PSZ N (Ml.drop σ node) :=
  ⟨h.up, by rw [Ml.drop_acts, List.length_map]; exact h.ac, Nat.le_trans (List.length_filter_le _ _) h.fl, Nat.le_trans (List.length_filter_le _ _) h.al, h.rq, fun a ha => by
    obtain ⟨b, hb, rfl⟩ := List.mem_map.1 ha
    have := h.ml b hb
    split
    · exact Nat.zero_le _
    · exact this⟩
theorem PSZ.mono {N M : Nat} {σ : PS} (h : PSZ N σ) (hm : N ≤ M) : PSZ M σ := ⟨Nat.le_trans h.up hm, Nat.le_trans h.ac hm, Nat.le_trans h.fl hm, Nat.le_trans h.al hm, Nat.le_trans h.rq hm, fun a ha => Nat.le_trans (h.ml a ha) hm⟩
end Go.Proofs.Ytjdjfjokniingaa
