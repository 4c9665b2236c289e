/- A state that was opened to all its depth reads as a plain state. -/
import Derived.Test.YtjdjfjokniingaaMe
namespace Go.Proofs.Ytjdjfjokniingaa
open Go.RowKit

structure PLD (w : World) (a : PL) : Prop where
  node : WfI a.node
  path : a.path.size ≤ maxLen
  init : VTr w a.init
  vars : VTr w a.vars
  mail : ∀ m ∈ a.mail, LetD w m
/-- what is known of a plain state that came in -/
structure PSD (w : World) (σ : PS) : Prop where
  ac : ∀ a ∈ σ.acts, PLD w a
  fl : ∀ f ∈ σ.fls, FlyD w f
  al : ∀ f ∈ σ.als, FlyD w f
  rq : ∀ r ∈ σ.rs, ReqD w r
  ck : WfI σ.clock
  sq : WfI σ.seq
  dd : WfI σ.dead
theorem PLD.below {w W : World} {a : PL} (h : PLD w a) (hb : Below w.heap.size w W) : PLD W a := ⟨h.node, h.path, h.init.below hb, h.vars.below hb, fun m hm => (h.mail m hm).below hb⟩
theorem PSD.below {w W : World} {σ : PS} (h : PSD w σ) (hb : Below w.heap.size w W) : PSD W σ :=
  ⟨fun a ha => (h.ac a ha).below hb, fun f hf => (h.fl f hf).below hb, fun f hf => (h.al f hf).below hb, fun r hr => (h.rq r hr).below hb, h.ck, h.sq, h.dd⟩
theorem rd_loc {w : World} {k n : Nat} {A : Option Addr} {xs : List Value} (h : Rd w w.heap.size k A n xs) : Loc (fun b => b < w.heap.size) A n := fun q hq hn => by
  obtain ⟨b, off, e, hb, _⟩ := h.2 hn
  rw [hq] at e
  injection e with e
  subst e
  exact hb
theorem mails_of {w : World} : ∀ (ls : List LiveC), (∀ a ∈ ls, LiveD w a) → ∃ qs : List (LiveC × List LetC), qs.map (·.1) = ls ∧ (∀ q ∈ qs, MailAt (fun b => b < w.heap.size) w q.1 q.2) ∧ ∀ q ∈ qs, PLD w (plOf q)
  | [], _ => ⟨[], rfl, by simp, by simp⟩
  | a :: ls, h => by
    obtain ⟨qs, h1, h2, h3⟩ := mails_of ls (fun b hb => h b (List.mem_cons_of_mem _ hb))
    have ha := h a List.mem_cons_self
    obtain ⟨ms, hm, hd⟩ := ha.mail
    refine ⟨(a, ms) :: qs, by simp [h1], fun q hq => ?_, fun q hq => ?_⟩
    · rcases List.mem_cons.1 hq with rfl | hq
      · exact ⟨hm, ha.cap, rd_loc hm⟩
      · exact h2 q hq
    · rcases List.mem_cons.1 hq with rfl | hq
      · exact ⟨ha.node, ha.path, ha.init, ha.vars, hd⟩
      · exact h3 q hq
theorem sysR_of {w : World} {s : SysC} {ups : List Bool} {ls : List LiveC} {fls als : List FlyC} {rs : List ReqC} (h : SysD w s ups ls fls als rs) :
    ∃ σ : PS, SysR (fun b => b < w.heap.size) w s σ ∧ PSD w σ := by
  obtain ⟨qs, h1, h2, h3⟩ := mails_of ls h.da
  refine ⟨⟨ups, s.moment, s.clock, s.seq, qs.map plOf, fls, als, rs, s.dead⟩, ⟨h.up, ⟨qs, by rw [h1]; exact h.ac, h2, rfl⟩, h.fl, h.al, h.rq, h.cf, h.cl, rfl, rfl, rfl, rfl, rd_loc h.up, rd_loc h.ac, rd_loc h.fl, rd_loc h.al, rd_loc h.rq⟩, ⟨fun a ha => ?_, h.df, h.dl, h.dr, h.ck, h.sq, h.dd⟩⟩
  obtain ⟨q, hq, rfl⟩ := List.mem_map.1 ha
  exact h3 q hq
end Go.Proofs.Ytjdjfjokniingaa
