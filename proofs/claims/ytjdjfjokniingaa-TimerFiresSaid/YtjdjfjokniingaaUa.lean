/- Values as trees in blocks that a predicate allows; alarms without their memory; the plain model of the timer. -/
import Derived.Test.YtjdjfjokniingaaOz
import Derived.Test.YtjdjfjokniingaaTb
namespace Go.Proofs.Ytjdjfjokniingaa
open Go.RowKit

/-- a slice of values reads, to the depth d, as the trees ts, in blocks that P allows; no list longer than M -/
def RdP (P : Nat → Prop) (w : World) (M : Nat) : Nat → List Tr → Option Addr → Prop
  | 0, ts, _ => ts = []
  | d + 1, ts, A => ∃ ps : List (Tr × Sl), ps.map (·.1) = ts ∧ ps.length ≤ M ∧ Rd w w.heap.size 6 A ps.length (ps.flatMap valL) ∧ Loc P A ps.length ∧ ∀ p ∈ ps, p.2.n = p.1.l.length ∧ RdP P w M d p.1.l p.2.a
theorem RdP.rdv {P : Nat → Prop} {w : World} {M : Nat} : ∀ (d : Nat) (ts : List Tr) (A : Option Addr), RdP P w M d ts A → RdV w w.heap.size M d ts A
  | 0, _, _, h => h
  | d + 1, _, _, ⟨ps, h1, h2, h3, _, h5⟩ => ⟨ps, h1, h2, h3, fun p hp => ⟨(h5 p hp).1, RdP.rdv d _ _ (h5 p hp).2⟩⟩
theorem RdP.of {w : World} {M : Nat} : ∀ (d : Nat) (ts : List Tr) (A : Option Addr), RdV w w.heap.size M d ts A → RdP (fun b => b < w.heap.size) w M d ts A
  | 0, _, _, h => h
  | d + 1, _, _, ⟨ps, h1, h2, h3, h5⟩ => ⟨ps, h1, h2, h3, rd_loc h3, fun p hp => ⟨(h5 p hp).1, RdP.of d _ _ (h5 p hp).2⟩⟩
theorem RdP.stay {P : Nat → Prop} {w W : World} {M : Nat} (hk : ∀ b o, P b → W.cell? ⟨b, o, none⟩ = w.cell? ⟨b, o, none⟩) (hs : w.heap.size ≤ W.heap.size) : ∀ (d : Nat) (ts : List Tr) (A : Option Addr), RdP P w M d ts A → RdP P W M d ts A
  | 0, _, _, h => h
  | d + 1, _, _, ⟨ps, h1, h2, h3, h4, h5⟩ => ⟨ps, h1, h2, h3.stay h4 hk hs, h4, fun p hp => ⟨(h5 p hp).1, RdP.stay hk hs d _ _ (h5 p hp).2⟩⟩
theorem RdP.mono {P Q : Nat → Prop} {w : World} {M : Nat} (hm : ∀ b, P b → Q b) : ∀ (d : Nat) (ts : List Tr) (A : Option Addr), RdP P w M d ts A → RdP Q w M d ts A
  | 0, _, _, h => h
  | d + 1, _, _, ⟨ps, h1, h2, h3, h4, h5⟩ => ⟨ps, h1, h2, h3, h4.mono hm, fun p hp => ⟨(h5 p hp).1, RdP.mono hm d _ _ (h5 p hp).2⟩⟩
theorem RdP.below {P : Nat → Prop} {w W : World} {M : Nat} (hb : Below w.heap.size w W) : ∀ (d : Nat) (ts : List Tr) (A : Option Addr), RdP P w M d ts A → RdP P W M d ts A
  | 0, _, _, h => h
  | d + 1, _, _, ⟨ps, h1, h2, h3, h4, h5⟩ => ⟨ps, h1, h2, h3.up hb, h4, fun p hp => ⟨(h5 p hp).1, RdP.below hb d _ _ (h5 p hp).2⟩⟩
theorem RdP.low {P : Nat → Prop} {w : World} {M : Nat} : ∀ (d : Nat) (ts : List Tr) (A : Option Addr), RdP P w M d ts A → RdP (fun b => P b ∧ b < w.heap.size) w M d ts A
  | 0, _, _, h => h
  | d + 1, _, _, ⟨ps, h1, h2, h3, h4, h5⟩ => ⟨ps, h1, h2, h3, fun q hq hn => ⟨h4 q hq hn, rd_loc h3 q hq hn⟩, fun p hp => ⟨(h5 p hp).1, RdP.low d _ _ (h5 p hp).2⟩⟩
theorem RdP.nil_ {P : Nat → Prop} {w : World} {M d : Nat} {A : Option Addr} : RdP P w M d [] A := by
  cases d with
  | zero => rfl
  | succ d => exact ⟨[], rfl, Nat.zero_le _, Rd.none_, fun q _ h => absurd h (by simp), by simp⟩
theorem RdV.wider {w : World} {B M N : Nat} (h : M ≤ N) : ∀ (d : Nat) (ts : List Tr) (A : Option Addr), RdV w B M d ts A → RdV w B N d ts A
  | 0, _, _, h => h
  | d + 1, _, _, ⟨ps, h1, h2, h3, h5⟩ => ⟨ps, h1, Nat.le_trans h2 h, h3, fun p hp => ⟨(h5 p hp).1, RdV.wider h d _ _ (h5 p hp).2⟩⟩

/-- the longest list of values that memory can hold -/
abbrev NV : Nat := 1759218604441
/-- the slice u reads as the trees ts, in blocks that P allows -/
structure VR (P : Nat → Prop) (w : World) (u : Sl) (ts : List Tr) : Prop where
  len : ts.length = u.n
  tr : ∃ d, RdP P w NV d ts u.a
section
variable {P Q : Nat → Prop} {w W : World} {u v : Sl} {ts : List Tr}
theorem VR.stay (h : VR P w u ts) (hk : ∀ b o, P b → W.cell? ⟨b, o, none⟩ = w.cell? ⟨b, o, none⟩) (hs : w.heap.size ≤ W.heap.size) : VR P W u ts := ⟨h.len, h.tr.imp fun d hd => RdP.stay hk hs d _ _ hd⟩
theorem VR.mono (h : VR P w u ts) (hm : ∀ b, P b → Q b) : VR Q w u ts := ⟨h.len, h.tr.imp fun d hd => RdP.mono hm d _ _ hd⟩
theorem VR.below (h : VR P w u ts) (hb : Below w.heap.size w W) : VR P W u ts := ⟨h.len, h.tr.imp fun d hd => RdP.below hb d _ _ hd⟩
theorem VR.low (h : VR P w u ts) : VR (fun b => P b ∧ b < w.heap.size) w u ts := ⟨h.len, h.tr.imp fun d hd => RdP.low d _ _ hd⟩
theorem VR.vtr (h : VR P w u ts) : VTr w u := by
  obtain ⟨d, hd⟩ := h.tr
  exact ⟨d, ts, h.len, RdV.wider (by decide) d _ _ (RdP.rdv d _ _ hd)⟩
theorem VR.none_ {c : Nat} : VR P w ⟨none, 0, c⟩ [] := ⟨rfl, 0, rfl⟩
/-- two slices that read as the same trees -/
theorem VR.same (h1 : VR P w u ts) (h2 : VR Q w v ts) : SameVs w u v := by
  obtain ⟨d, hd⟩ := h1.tr
  obtain ⟨e, he⟩ := h2.tr
  intro W hW
  have r1 := RdV.deep (Nat.le_max_left d e) (RdV.below (RdP.rdv d _ _ hd) hW)
  have r2 := RdV.deep (Nat.le_max_right d e) (RdV.below (RdP.rdv e _ _ he) hW)
  rw [← h1.len, ← h2.len]
  exact sameValues_true NV (by decide) (max d e) ts _ _ _ _ W r1 r2
end

/-- an alarm without its memory -/
structure AT where
  x : Int
  y : Int
  path : ByteArray
  src : ByteArray
  msg : ByteArray
  ts : List Tr
  sent : Int
/-- an alarm in memory reads as one without -/
structure AlR (P : Nat → Prop) (w : World) (f : FlyC) (a : AT) : Prop where
  x : f.x = a.x
  y : f.y = a.y
  path : f.path = a.path
  src : f.l.src = a.src
  msg : f.l.msg = a.msg
  sent : f.l.sent = a.sent
  v : VR P w f.l.args a.ts
/-- a row of alarms in memory reads as alarms -/
structure AlsR (P : Nat → Prop) (w : World) (u : Sl) (ps : List (FlyC × AT)) : Prop where
  rd : Rd w w.heap.size 7 u.a u.n ((ps.map (·.1)).flatMap flyL)
  al : ∀ p ∈ ps, AlR P w p.1 p.2
  loc : Loc P u.a u.n
  cap : u.n ≤ u.c
/-- the row reads as the plain alarms -/
def Als (P : Nat → Prop) (w : World) (u : Sl) (ats : List AT) : Prop := ∃ ps, AlsR P w u ps ∧ ps.map (·.2) = ats
section
variable {P Q : Nat → Prop} {w W : World} {f g : FlyC} {a : AT} {u v : Sl} {ps : List (FlyC × AT)} {ats : List AT}
theorem AlR.stay (h : AlR P w f a) (hk : ∀ b o, P b → W.cell? ⟨b, o, none⟩ = w.cell? ⟨b, o, none⟩) (hs : w.heap.size ≤ W.heap.size) : AlR P W f a := { h with v := h.v.stay hk hs }
theorem AlR.mono (h : AlR P w f a) (hm : ∀ b, P b → Q b) : AlR Q w f a := { h with v := h.v.mono hm }
theorem AlR.below (h : AlR P w f a) (hb : Below w.heap.size w W) : AlR P W f a := { h with v := h.v.below hb }
theorem AlR.low (h : AlR P w f a) : AlR (fun b => P b ∧ b < w.heap.size) w f a := { h with v := h.v.low }
theorem AlR.same (h1 : AlR P w f a) (h2 : AlR Q w g a) : f.x = g.x ∧ f.y = g.y ∧ f.path = g.path ∧ LetSame w f.l g.l :=
  ⟨h1.x.trans h2.x.symm, h1.y.trans h2.y.symm, h1.path.trans h2.path.symm, h1.src.trans h2.src.symm, h1.msg.trans h2.msg.symm, h1.sent.trans h2.sent.symm, h1.v.same h2.v⟩
theorem AlsR.stay (h : AlsR P w u ps) (hk : ∀ b o, P b → W.cell? ⟨b, o, none⟩ = w.cell? ⟨b, o, none⟩) (hs : w.heap.size ≤ W.heap.size) : AlsR P W u ps := ⟨h.rd.stay h.loc hk hs, fun p hp => (h.al p hp).stay hk hs, h.loc, h.cap⟩
theorem AlsR.mono (h : AlsR P w u ps) (hm : ∀ b, P b → Q b) : AlsR Q w u ps := ⟨h.rd, fun p hp => (h.al p hp).mono hm, h.loc.mono hm, h.cap⟩
theorem AlsR.below (h : AlsR P w u ps) (hb : Below w.heap.size w W) : AlsR P W u ps := ⟨h.rd.up hb, fun p hp => (h.al p hp).below hb, h.loc, h.cap⟩
theorem AlsR.low (h : AlsR P w u ps) : AlsR (fun b => P b ∧ b < w.heap.size) w u ps := ⟨h.rd, fun p hp => (h.al p hp).low, fun q hq hn => ⟨h.loc q hq hn, rd_loc h.rd q hq hn⟩, h.cap⟩
theorem AlsR.len (h : AlsR P w u ps) : ps.length = u.n := by
  have := h.rd.len (fun _ => rfl) (by omega)
  simpa using this
theorem Als.stay (h : Als P w u ats) (hk : ∀ b o, P b → W.cell? ⟨b, o, none⟩ = w.cell? ⟨b, o, none⟩) (hs : w.heap.size ≤ W.heap.size) : Als P W u ats := h.imp fun _ h => ⟨h.1.stay hk hs, h.2⟩
theorem Als.mono (h : Als P w u ats) (hm : ∀ b, P b → Q b) : Als Q w u ats := h.imp fun _ h => ⟨h.1.mono hm, h.2⟩
theorem Als.below (h : Als P w u ats) (hb : Below w.heap.size w W) : Als P W u ats := h.imp fun _ h => ⟨h.1.below hb, h.2⟩
theorem Als.low (h : Als P w u ats) : Als (fun b => P b ∧ b < w.heap.size) w u ats := h.imp fun _ h => ⟨h.1.low, h.2⟩
theorem Als.len (h : Als P w u ats) : ats.length = u.n := by
  obtain ⟨ps, h1, rfl⟩ := h
  rw [List.length_map]
  exact h1.len
theorem Als.none_ {c : Nat} : Als P w ⟨none, 0, c⟩ [] := ⟨[], ⟨by simpa using Rd.none_, by simp, fun q _ h => absurd h (by simp), Nat.zero_le _⟩, rfl⟩
end

namespace Tm
structure TS where
  clock : Int
  seq : Int
  als : List AT
def span (n : Int) : Int := min (max n 1) 1048576
def set (σ : TS) (n : Int) (p src msg : ByteArray) (ts : List Tr) (sent : Int) : TS := ⟨σ.clock, wrap64 (σ.seq + 1), σ.als ++ [⟨wrap64 (σ.clock + span n), σ.seq, p, src, msg, ts, sent⟩]⟩
def leT (a b : AT) : Bool := decide (a.x < b.x ∨ (a.x = b.x ∧ a.y ≤ b.y))
def tickS (σ : TS) : TS := if σ.clock ≥ 1073741824 then σ else ⟨wrap64 (σ.clock + 1), σ.seq, σ.als.filter fun a => !decide (a.x ≤ wrap64 (σ.clock + 1))⟩
def tickD (σ : TS) : List AT := if σ.clock ≥ 1073741824 then [] else St.isort leT (σ.als.filter fun a => decide (a.x ≤ wrap64 (σ.clock + 1)))
def clear (σ : TS) (p : ByteArray) : TS := { σ with als := σ.als.filter fun a => decide (a.src ≠ p) }
end Tm

/-- sorting the rows in memory sorts the plain alarms -/
theorem isort_pairs {α β : Type} (le : α → α → Bool) (le' : β → β → Bool) : ∀ (n : Nat) (ps : List (α × β)), ps.length = n → (∀ p ∈ ps, ∀ q ∈ ps, le p.1 q.1 = le' p.2 q.2) → ∃ qs : List (α × β), qs.map (·.1) = St.isort le (ps.map (·.1)) ∧ qs.map (·.2) = St.isort le' (ps.map (·.2)) ∧ ∀ q ∈ qs, q ∈ ps := by
  have hmg : ∀ (A : List (α × β)) (b : α × β), (∀ p ∈ A, le p.1 b.1 = le' p.2 b.2) → ∃ qs : List (α × β), qs.map (·.1) = St.mg le (A.map (·.1)) [b.1] ∧ qs.map (·.2) = St.mg le' (A.map (·.2)) [b.2] ∧ ∀ q ∈ qs, q ∈ A ∨ q = b := by
    intro A b
    induction A with
    | nil => intro _; exact ⟨[b], by simp [St.mg], by simp [St.mg], by simp⟩
    | cons x A ih =>
      intro h
      have hx := h x List.mem_cons_self
      cases hle : le x.1 b.1 with
      | true =>
        obtain ⟨qs, h1, h2, h3⟩ := ih (fun p hp => h p (List.mem_cons_of_mem _ hp))
        rw [hle] at hx
        refine ⟨x :: qs, ?_, ?_, fun q hq => ?_⟩
        · rw [List.map_cons, List.map_cons, St.mg_yes hle, h1]
        · rw [List.map_cons, List.map_cons, St.mg_yes hx.symm, h2]
        · rcases List.mem_cons.1 hq with rfl | hq
          · simp
          · rcases h3 q hq with h | h
            · exact .inl (List.mem_cons_of_mem _ h)
            · exact .inr h
      | false =>
        rw [hle] at hx
        refine ⟨b :: x :: A, ?_, ?_, fun q hq => ?_⟩
        · rw [List.map_cons, List.map_cons, St.mg_no hle, St.mg_nil]
        · rw [List.map_cons, List.map_cons, St.mg_no hx.symm, St.mg_nil]
        · rcases List.mem_cons.1 hq with rfl | hq
          · simp
          · exact .inl hq
  intro n
  induction n with
  | zero =>
    intro ps hn _
    have : ps = [] := List.eq_nil_of_length_eq_zero hn
    subst this
    exact ⟨[], rfl, rfl, by simp⟩
  | succ n ih =>
    intro ps hn h
    obtain ⟨A, b, rfl⟩ : ∃ A b, ps = A ++ [b] := by
      rcases List.eq_nil_or_concat ps with rfl | ⟨A, b, h⟩
      · simp at hn
      · exact ⟨A, b, by simpa using h⟩
    obtain ⟨qs, h1, h2, h3⟩ := ih A (by simpa using hn) (fun p hp q hq => h p (by simp [hp]) q (by simp [hq]))
    obtain ⟨rs, g1, g2, g3⟩ := hmg qs b (fun p hp => h p (by simp [h3 p hp]) b (by simp))
    refine ⟨rs, ?_, ?_, fun q hq => ?_⟩
    · rw [g1, h1, List.map_append, List.map_cons, List.map_nil, St.isort_snoc]
    · rw [g2, h2, List.map_append, List.map_cons, List.map_nil, St.isort_snoc]
    · rcases g3 q hq with h | rfl
      · simp [h3 q h]
      · simp
end Go.Proofs.Ytjdjfjokniingaa
