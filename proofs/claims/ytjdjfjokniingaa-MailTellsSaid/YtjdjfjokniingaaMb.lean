/- The plain state of the mail layer, and how a state reads as one; rows that are written. -/
import Derived.Test.YtjdjfjokniingaaMa
import Derived.Test.YtjdjfjokniingaaOd
namespace Go.Proofs.Ytjdjfjokniingaa
open Go.RowKit

theorem own_at {α : Type} {w : World} {base T k n c : Nat} {A : Option Addr} {rs : List α} {enc : α → List Value} (h : w.ownsRow base T k (.slice A n c) n (rs.flatMap enc)) (hk : ∀ r, (enc r).length = k) (h0 : 0 < k) {i : Nat} (hi : i < n) :
    ∃ g r, A = some ⟨g, 0, none⟩ ∧ base ≤ g ∧ g < w.heap.size ∧ rs[i]? = some r ∧ (∀ j u, (enc r)[j]? = some u → w.cell? ⟨g, i * k + j, none⟩ = some u) ∧ ∀ j, w.frozen? ⟨g, j, none⟩ = false := by
  rcases h.2 with ⟨_, h'⟩ | ⟨g, cap, cur, hv, hb, hg, _⟩
  · omega
  · injection hv with hA _ hc
    subst hA hc
    obtain ⟨b, off, r, e1, e2, e3, e4⟩ := (own_rd h).at_ hk h0 hi
    simp only [Option.some.injEq, Addr.mk.injEq] at e1
    obtain ⟨rfl, rfl, _⟩ := e1
    refine ⟨g, r, rfl, hb, e2, e3, fun j u hu => ?_, fun j => h.frozenAt j⟩
    have := e4 j u hu
    simpa using this

theorem set_flatMap {α : Type} {enc : α → List Value} {k : Nat} (hk : ∀ r, (enc r).length = k) {j : Nat} {v : Value} (hj : j < k) {r' : α} : ∀ (rs : List α) (i : Nat) (r : α), rs[i]? = some r → enc r' = (enc r).set j v → (rs.flatMap enc).set (i * k + j) v = (rs.set i r').flatMap enc
  | [], i, r, h, _ => by simp at h
  | x :: rs, 0, r, h, he => by
    simp at h
    subst h
    rw [List.flatMap_cons, List.set_cons_zero, List.flatMap_cons, Nat.zero_mul, Nat.zero_add, List.set_append_left _ _ (by rw [hk]; exact hj), he]
  | x :: rs, i + 1, r, h, he => by
    rw [List.flatMap_cons, List.set_cons_succ, List.flatMap_cons, List.set_append_right _ _ (by rw [hk, Nat.succ_mul]; omega), hk, Nat.succ_mul]
    rw [show i * k + k + j - k = i * k + j by omega, set_flatMap hk hj rs i r (by simpa using h) he]

theorem own_store {α : Type} {w : World} {base T k n c g : Nat} {rs : List α} {enc : α → List Value} (h : w.ownsRow base T k (.slice (some ⟨g, 0, none⟩) n c) n (rs.flatMap enc)) (hk : ∀ r, (enc r).length = k) {i j : Nat} {v : Value} (hj : j < k) {r : α} (hr : rs[i]? = some r) (r' : α) (he : enc r' = (enc r).set j v) :
    (w.setCell ⟨g, i * k + j, none⟩ v).ownsRow base T k (.slice (some ⟨g, 0, none⟩) n c) n ((rs.set i r').flatMap enc) := by
  have := (h.stored (i * k + j) v).1
  rw [set_flatMap hk hj rs i r hr he] at this
  exact this

/-- an actor without its memory -/
structure PL where
  path : ByteArray
  type : ByteArray
  node : Int
  init : Sl
  vars : Sl
  kids : Int
  rest : Int
  stopped : Bool
  mail : List LetC
def plOf (q : LiveC × List LetC) : PL := ⟨q.1.path, q.1.type, q.1.node, q.1.init, q.1.vars, q.1.kids, q.1.rest, q.1.stopped, q.2⟩
/-- a state without its memory -/
structure PS where
  ups : List Bool
  moment : Int
  clock : Int
  seq : Int
  acts : List PL
  fls : List FlyC
  als : List FlyC
  rs : List ReqC
  dead : Int
/-- a slice that is not empty lies in a block that P allows -/
def Loc (P : Nat → Prop) (A : Option Addr) (n : Nat) : Prop := ∀ q, A = some q → 0 < n → P q.block
theorem Loc.mono {P Q : Nat → Prop} {A : Option Addr} {n : Nat} (h : Loc P A n) (hm : ∀ b, P b → Q b) : Loc Q A n := fun q h1 h2 => hm _ (h q h1 h2)
structure MailAt (P : Nat → Prop) (w : World) (a : LiveC) (ms : List LetC) : Prop where
  rd : Rd w w.heap.size 4 a.mail.a a.mail.n (ms.flatMap letL)
  cap : a.mail.n ≤ a.mail.c
  loc : Loc P a.mail.a a.mail.n
theorem MailAt.below {P : Nat → Prop} {w W : World} {a : LiveC} {ms : List LetC} (h : MailAt P w a ms) (hb : Below w.heap.size w W) : MailAt P W a ms := ⟨h.rd.up hb, h.cap, h.loc⟩
theorem MailAt.mono {P Q : Nat → Prop} {w : World} {a : LiveC} {ms : List LetC} (h : MailAt P w a ms) (hm : ∀ b, P b → Q b) : MailAt Q w a ms := ⟨h.rd, h.cap, h.loc.mono hm⟩
/-- the actors' row reads as plain actors -/
def ActsAt (P : Nat → Prop) (w : World) (u : Sl) (ps : List PL) : Prop := ∃ qs : List (LiveC × List LetC), Rd w w.heap.size 9 u.a u.n ((qs.map (·.1)).flatMap liveL) ∧ (∀ q ∈ qs, MailAt P w q.1 q.2) ∧ qs.map plOf = ps
theorem ActsAt.below {P : Nat → Prop} {w W : World} {u : Sl} {ps : List PL} (h : ActsAt P w u ps) (hb : Below w.heap.size w W) : ActsAt P W u ps := by
  obtain ⟨qs, h1, h2, h3⟩ := h
  exact ⟨qs, h1.up hb, fun q hq => (h2 q hq).below hb, h3⟩
structure SysR (P : Nat → Prop) (w : World) (s : SysC) (σ : PS) : Prop where
  up : Rd w w.heap.size 1 s.up.a s.up.n (σ.ups.map .bool)
  ac : ActsAt P w s.actors σ.acts
  fl : Rd w w.heap.size 7 s.flights.a s.flights.n (σ.fls.flatMap flyL)
  al : Rd w w.heap.size 7 s.alarms.a s.alarms.n (σ.als.flatMap flyL)
  rq : Rd w w.heap.size 8 s.asked.a s.asked.n (σ.rs.flatMap reqL)
  cf : s.flights.n ≤ s.flights.c
  cl : s.alarms.n ≤ s.alarms.c
  mo : s.moment = σ.moment
  ck : s.clock = σ.clock
  sq : s.seq = σ.seq
  dd : s.dead = σ.dead
  lu : Loc P s.up.a s.up.n
  la : Loc P s.actors.a s.actors.n
  lf : Loc P s.flights.a s.flights.n
  ll : Loc P s.alarms.a s.alarms.n
  lr : Loc P s.asked.a s.asked.n
theorem SysR.below {P : Nat → Prop} {w W : World} {s : SysC} {σ : PS} (h : SysR P w s σ) (hb : Below w.heap.size w W) : SysR P W s σ :=
  { h with up := h.up.up hb, ac := h.ac.below hb, fl := h.fl.up hb, al := h.al.up hb, rq := h.rq.up hb }
theorem SysR.mono {P Q : Nat → Prop} {w : World} {s : SysC} {σ : PS} (h : SysR P w s σ) (hm : ∀ b, P b → Q b) : SysR Q w s σ := by
  obtain ⟨qs, h1, h2, h3⟩ := h.ac
  exact { up := h.up, ac := ⟨qs, h1, fun q hq => (h2 q hq).mono hm, h3⟩, fl := h.fl, al := h.al, rq := h.rq, cf := h.cf, cl := h.cl, mo := h.mo, ck := h.ck, sq := h.sq, dd := h.dd, lu := h.lu.mono hm, la := h.la.mono hm, lf := h.lf.mono hm, ll := h.ll.mono hm, lr := h.lr.mono hm }
theorem Rd.stay {P : Nat → Prop} {w W : World} {k n : Nat} {A : Option Addr} {xs : List Value} (h : Rd w w.heap.size k A n xs) (hl : Loc P A n) (hk : ∀ b o, P b → W.cell? ⟨b, o, none⟩ = w.cell? ⟨b, o, none⟩) (hs : w.heap.size ≤ W.heap.size) : Rd W W.heap.size k A n xs := by
  refine ⟨h.1, fun hn => ?_⟩
  obtain ⟨b, off, e, hb, hc⟩ := h.2 hn
  exact ⟨b, off, e, by omega, fun j u hu => (hk b _ (hl _ e hn)).trans (hc j u hu)⟩
/-- a state stays if no block that P allows is written -/
theorem SysR.stay {P : Nat → Prop} {w W : World} {s : SysC} {σ : PS} (h : SysR P w s σ) (hk : ∀ b o, P b → W.cell? ⟨b, o, none⟩ = w.cell? ⟨b, o, none⟩) (hs : w.heap.size ≤ W.heap.size) : SysR P W s σ := by
  obtain ⟨qs, h1, h2, h3⟩ := h.ac
  exact { up := h.up.stay h.lu hk hs, ac := ⟨qs, h1.stay h.la hk hs, fun q hq => ⟨(h2 q hq).rd.stay (h2 q hq).loc hk hs, (h2 q hq).cap, (h2 q hq).loc⟩, h3⟩, fl := h.fl.stay h.lf hk hs, al := h.al.stay h.ll hk hs, rq := h.rq.stay h.lr hk hs, cf := h.cf, cl := h.cl, mo := h.mo, ck := h.ck, sq := h.sq, dd := h.dd, lu := h.lu, la := h.la, lf := h.lf, ll := h.ll, lr := h.lr }
theorem SysR.na {P : Nat → Prop} {w : World} {s : SysC} {σ : PS} (h : SysR P w s σ) : s.actors.n = σ.acts.length := by
  obtain ⟨qs, h1, _, h3⟩ := h.ac
  have := h1.len (fun _ => rfl) (by omega)
  rw [← h3, ← this]
  simp
theorem SysR.nu {P : Nat → Prop} {w : World} {s : SysC} {σ : PS} (h : SysR P w s σ) : σ.ups.length = s.up.n := by have := h.up.1; simpa using this
theorem SysR.nfl {P : Nat → Prop} {w : World} {s : SysC} {σ : PS} (h : SysR P w s σ) : σ.fls.length = s.flights.n := h.fl.len (fun _ => rfl) (by omega)
theorem SysR.nal {P : Nat → Prop} {w : World} {s : SysC} {σ : PS} (h : SysR P w s σ) : σ.als.length = s.alarms.n := h.al.len (fun _ => rfl) (by omega)

namespace Ml
def okP (ups : List Bool) (a : PL) : Bool := !a.stopped && up ups a.node
/-- the index of the actor at a path, if it is reachable -/
def reachP (σ : PS) (p : ByteArray) : Option Nat := (find (σ.acts.map (·.path)) p).filter fun i => (σ.acts[i]?).any (okP σ.ups)
def lost (σ : PS) : PS := { σ with dead := wrap64 (σ.dead + 1) }
def mailed (σ : PS) (i : Nat) (f : List LetC → List LetC) : PS := { σ with acts := σ.acts.modify i fun a => { a with mail := f a.mail } }
def post (σ : PS) (p : ByteArray) (l : LetC) : PS × Bool :=
  match reachP σ p with
  | some i => if ((σ.acts[i]?).map (·.mail.length)).getD 0 < 1024 then (mailed σ i (· ++ [l]), true) else (lost σ, false)
  | none => (lost σ, false)
theorem reach_eq (ups : List Bool) (qs : List (LiveC × List LetC)) (σ : PS) (hq : qs.map plOf = σ.acts) (hu : ups = σ.ups) (p : ByteArray) : reach ups (qs.map (·.1)) p = reachP σ p := by
  unfold reach reachP
  rw [← hq, hu]
  have e1 : List.map (·.path) (qs.map (·.1)) = List.map (·.path) (qs.map plOf) := by simp [plOf]
  rw [e1]
  congr 1
  funext i
  rw [List.getElem?_map, List.getElem?_map]
  cases qs[i]? <;> rfl
end Ml

/-- only block R has been written -/
def Off (R : Nat) (w w' : World) : Prop := w'.heap.size = w.heap.size ∧ ∀ b o, b ≠ R → w'.cell? ⟨b, o, none⟩ = w.cell? ⟨b, o, none⟩
theorem Off.refl (R : Nat) (w : World) : Off R w w := ⟨rfl, fun _ _ _ => rfl⟩
theorem Off.set {R : Nat} {w w' : World} (h : Off R w w') (o : Nat) (v : Value) : Off R w (w'.setCell ⟨R, o, none⟩ v) :=
  ⟨by simpa using h.1, fun b j hb => (World.cell?_setCell_far w' ⟨R, o, none⟩ ⟨b, j, none⟩ v (fun e => hb e.symm)).trans (h.2 b j hb)⟩
theorem Off.drew {R : Nat} {w w' : World} (h : Off R w w') : Off R w w'.drew := h
theorem Rd.off {R : Nat} {w w' : World} {k n : Nat} {A : Option Addr} {xs : List Value} (h : Rd w w.heap.size k A n xs) (ho : Off R w w') (hne : ∀ q, A = some q → q.block ≠ R) : Rd w' w'.heap.size k A n xs := by
  refine ⟨h.1, fun hn => ?_⟩
  obtain ⟨b, off, e, hb, hc⟩ := h.2 hn
  refine ⟨b, off, e, by rw [ho.1]; exact hb, fun j u hu => (ho.2 b _ (hne _ e)).trans (hc j u hu)⟩
theorem Rd.holds {w : World} {B k n : Nat} {A : Option Addr} {xs : List Value} (h : Rd w B k A n xs) : ∀ b, A = some b → ∀ j u, xs[j]? = some u → w.cell? (b.add j) = some u := by
  intro b hA j u hu
  rcases Nat.eq_zero_or_pos n with h0 | h0
  · subst h0
    have hnil : xs = [] := List.eq_nil_of_length_eq_zero (by simpa using h.1)
    subst hnil
    simp at hu
  · obtain ⟨b', off, he, _, hc⟩ := h.2 h0
    rw [hA] at he
    injection he with he
    subst he
    have e : (⟨b', off, none⟩ : Addr).add j = ⟨b', off + j, none⟩ := by unfold Addr.add; split <;> simp_all
    rw [e]
    exact hc j u hu
theorem Rd.none0 {w : World} {B k n : Nat} {A : Option Addr} {xs : List Value} (h : Rd w B k A n xs) (hA : A = none) : n = 0 := by
  rcases Nat.eq_zero_or_pos n with h0 | h0
  · exact h0
  · obtain ⟨b, off, he, _⟩ := h.2 h0
    rw [hA] at he
    cases he
theorem Below.of_grown {w w' : World} (h : w.grownBy w' none) : Below w.heap.size w w' := ⟨h.os, h.tape, h.output, h.size, fun k hk => h.block k hk (by simp)⟩
theorem own_set_other {w : World} {base T k n : Nat} {v : Value} {xs : List Value} (h : w.ownsRow base T k v n xs) (p : Addr) (x : Value) (hne : v.ownBlock ≠ some p.block) : (w.setCell p x).ownsRow base T k v n xs :=
  h.kept (row := some p.block) ⟨rfl, rfl, rfl, by simp, fun j _ hj => heap_setCell_other w p j x (fun e => hj (by simp [e]))⟩ (.inr hne)
theorem own_below {w w' : World} {base T k n : Nat} {v : Value} {xs : List Value} (h : w.ownsRow base T k v n xs) (hb : Below w.heap.size w w') : w'.ownsRow base T k v n xs :=
  h.kept (row := none) ⟨hb.os, hb.tape, hb.output, hb.size, fun i hi _ => hb.block i hi⟩ (by cases v.ownBlock <;> simp)
theorem cells_new0 (w : World) (t : TypeId) (cs : List Value) (g : Nat) (hg : w.heap.size = g) : ∀ j u, cs[j]? = some u → (w.alloc (.cells cs.toArray t)).cell? ((⟨g, 0, none⟩ : Addr).add j) = some u := by
  subst hg
  exact cells_new w t cs

theorem modify_get {α : Type} (f : α → α) : ∀ (l : List α) (i : Nat) (x : α), l[i]? = some x → l.modify i f = l.set i (f x)
  | [], i, x, h => by simp at h
  | y :: l, 0, x, h => by simp at h; subst h; rfl
  | y :: l, i + 1, x, h => by
    rw [List.modify_succ_cons, List.set_cons_succ, modify_get f l i x (by simpa using h)]
/-- an actor's mail has been replaced -/
theorem acts_mailed {P : Nat → Prop} {w : World} {u : Sl} {qs : List (LiveC × List LetC)} {i : Nat} {a : LiveC} {ms ms' : List LetC} {m : Sl} {acts : List PL} (f : List LetC → List LetC) (hf : f ms = ms') (hqi : qs[i]? = some (a, ms)) (hq3 : qs.map plOf = acts)
    (hr : Rd w w.heap.size 9 u.a u.n (((qs.map (·.1)).set i { a with mail := m }).flatMap liveL)) (hm : MailAt P w { a with mail := m } ms') (hold : ∀ q ∈ qs, MailAt P w q.1 q.2) :
    ActsAt P w u (acts.modify i fun p => { p with mail := f p.mail }) := by
  refine ⟨qs.set i ({ a with mail := m }, ms'), ?_, fun q hq => ?_, ?_⟩
  · rw [List.map_set]
    exact hr
  · rcases List.mem_or_eq_of_mem_set hq with hq | rfl
    · exact hold q hq
    · exact hm
  · subst hf
    rw [List.map_set, hq3, modify_get _ acts i (plOf (a, ms)) (by rw [← hq3, List.getElem?_map, hqi]; rfl)]
    rfl
theorem own_cap {w : World} {base T k n c : Nat} {A : Option Addr} {xs : List Value} (h : w.ownsRow base T k (.slice A n c) n xs) : n ≤ c := by
  rcases h.2 with ⟨hv, h0⟩ | ⟨g, cap, cur, hv, _, _, hnc, _⟩
  · omega
  · injection hv with _ _ hc
    omega
/-- an actor's mail has been replaced in a clone of the row -/
theorem sysR_mailed {P : Nat → Prop} {w v3 Wf : World} {s : SysC} {σ : PS} {qs : List (LiveC × List LetC)} {i n : Nat} {a : LiveC} {ms ms' : List LetC} {u m : Sl} {g R B0 : Nat} (f : List LetC → List LetC) (hf : f ms = ms') (H : SysR P w s σ) (HQ2 : ∀ q ∈ qs, MailAt P w q.1 q.2) (HQ3 : qs.map plOf = σ.acts) (HQI : qs[i]? = some (a, ms))
    (hB : Below w.heap.size w Wf) (hA : u.a = some ⟨g, 0, none⟩) (ho : v3.ownsRow B0 76 9 (.slice u.a n u.c) n ((qs.map (·.1)).flatMap liveL))
    (hm : Rd v3 v3.heap.size 4 m.a m.n (ms'.flatMap letL)) (hmc : m.n ≤ m.c) (hmg : ∀ q, m.a = some q → q.block ≠ g ∧ q.block ≠ R) (hgR : g ≠ R) (hoff : Off R (v3.setCell ⟨g, i * 9 + 8, none⟩ (.slice m.a m.n m.c)) Wf) (hg0 : w.heap.size ≤ g) (hml : Loc (fun b => P b ∨ w.heap.size ≤ b) m.a m.n) :
    SysR (fun b => P b ∨ w.heap.size ≤ b) Wf { s with actors := ⟨u.a, n, u.c⟩ } (Ml.mailed σ i f) := by
  have h := (H.below hB).mono (Q := fun b => P b ∨ w.heap.size ≤ b) (fun b hb => .inl hb)
  refine { h with ac := ?_, la := fun q hq _ => .inr ?_ }
  refine acts_mailed (m := m) f hf HQI HQ3 ?_ ⟨?_, hmc, hml⟩ (fun q hq => ((HQ2 q hq).below hB).mono (fun b hb => .inl hb))
  · rw [hA] at ho ⊢
    have h1 := own_store (i := i) (j := 8) (v := .slice m.a m.n m.c) ho (fun _ => rfl) (by omega) (r := a) (by rw [List.getElem?_map, HQI]; rfl) { a with mail := m } rfl
    exact (own_rd h1).off hoff (fun q hq => by injection hq with hq; subst hq; exact hgR)
  · exact (hm.off ((Off.refl g v3).set (i * 9 + 8) _) (fun q hq => (hmg q hq).1)).off hoff (fun q hq => (hmg q hq).2)
  · have e : u.a = some q := hq
    rw [hA] at e
    injection e with e
    subst e
    exact hg0
end Go.Proofs.Ytjdjfjokniingaa
