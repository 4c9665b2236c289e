/- The contract of mail.Take. -/
import Derived.Test.YtjdjfjokniingaaMj
namespace Go.Proofs.Ytjdjfjokniingaa
open Go.RowKit

def letZ : LetC := ⟨⟨#[]⟩, ⟨#[]⟩, ⟨none, 0, 0⟩, 0⟩
namespace Ml
def take (σ : PS) (p : ByteArray) : PS × LetC × Bool :=
  match find (σ.acts.map (·.path)) p with
  | some i => match ((σ.acts[i]?).map (·.mail)).getD [] with
    | m :: _ => (mailed σ i List.tail, m, true)
    | [] => (σ, letZ, false)
  | none => (σ, letZ, false)
end Ml
/-- a state, a letter and a bool are handed back -/
def SysLet (P : Nat → Prop) (r : PS × LetC × Bool) (w : World) (e : Ending) (w' : World) : Prop := ∃ s : SysC, e = .returned (.tuple #[sysV s, letV r.2.1, .bool r.2.2]) ∧ SysR (fun b => P b ∨ w.heap.size ≤ b) w' s r.1 ∧ Below w.heap.size w w'
theorem sysLet {P : Nat → Prop} {r : PS × LetC × Bool} {w w' : World} {s : SysC} {σ : PS} {l : LetC} {b : Bool} (hr : r = (σ, l, b)) (h : SysR (fun b => P b ∨ w.heap.size ≤ b) w' s σ) (hb : Below w.heap.size w w') : SysLet P r w (.returned (.tuple #[sysV s, letV l, .bool b])) w' := by subst hr; exact ⟨s, rfl, h, hb⟩
/-- only two blocks have been written -/
def Off2 (R Q : Nat) (w w' : World) : Prop := w'.heap.size = w.heap.size ∧ ∀ b o, b ≠ R → b ≠ Q → w'.cell? ⟨b, o, none⟩ = w.cell? ⟨b, o, none⟩
theorem Off2.refl (R Q : Nat) (w : World) : Off2 R Q w w := ⟨rfl, fun _ _ _ _ => rfl⟩
theorem Off2.set1 {R Q : Nat} {w w' : World} (h : Off2 R Q w w') (o : Nat) (v : Value) : Off2 R Q w (w'.setCell ⟨R, o, none⟩ v) :=
  ⟨by simpa using h.1, fun b j hb hq => (World.cell?_setCell_far w' ⟨R, o, none⟩ ⟨b, j, none⟩ v (fun e => hb e.symm)).trans (h.2 b j hb hq)⟩
theorem Off2.set2 {R Q : Nat} {w w' : World} (h : Off2 R Q w w') (o : Nat) (v : Value) : Off2 R Q w (w'.setCell ⟨Q, o, none⟩ v) :=
  ⟨by simpa using h.1, fun b j hb hq => (World.cell?_setCell_far w' ⟨Q, o, none⟩ ⟨b, j, none⟩ v (fun e => hq e.symm)).trans (h.2 b j hb hq)⟩
theorem Off2.drew {R Q : Nat} {w w' : World} (h : Off2 R Q w w') : Off2 R Q w w'.drew := h
theorem Rd.off2 {R Q : Nat} {w w' : World} {k n : Nat} {A : Option Addr} {xs : List Value} (h : Rd w w.heap.size k A n xs) (ho : Off2 R Q w w') (hne : ∀ q, A = some q → q.block ≠ R ∧ q.block ≠ Q) : Rd w' w'.heap.size k A n xs := by
  refine ⟨h.1, fun hn => ?_⟩
  obtain ⟨b, off, e, hb, hc⟩ := h.2 hn
  refine ⟨b, off, e, by rw [ho.1]; exact hb, fun j u hu => (ho.2 b _ (hne _ e).1 (hne _ e).2).trans (hc j u hu)⟩
/-- an actor's mail has been replaced in a clone of the row; two boxes have been written since -/
theorem sysR_mailed2 {P : Nat → Prop} {w v3 Wf : World} {s : SysC} {σ : PS} {qs : List (LiveC × List LetC)} {i n : Nat} {a : LiveC} {ms ms' : List LetC} {u m : Sl} {g R Q B0 : Nat} (f : List LetC → List LetC) (hf : f ms = ms') (H : SysR P w s σ) (HQ2 : ∀ q ∈ qs, MailAt P w q.1 q.2) (HQ3 : qs.map plOf = σ.acts) (HQI : qs[i]? = some (a, ms))
    (hB : Below w.heap.size w Wf) (hA : u.a = some ⟨g, 0, none⟩) (ho : v3.ownsRow B0 76 9 (.slice u.a n u.c) n ((qs.map (·.1)).flatMap liveL))
    (hm : Rd v3 v3.heap.size 4 m.a m.n (ms'.flatMap letL)) (hmc : m.n ≤ m.c) (hmg : ∀ q, m.a = some q → q.block ≠ g ∧ q.block ≠ R ∧ q.block ≠ Q) (hgR : g ≠ R) (hgQ : g ≠ Q) (hoff : Off2 R Q (v3.setCell ⟨g, i * 9 + 8, none⟩ (.slice m.a m.n m.c)) Wf) (hg0 : w.heap.size ≤ g) (hml : Loc (fun b => P b ∨ w.heap.size ≤ b) m.a m.n) :
    SysR (fun b => P b ∨ w.heap.size ≤ b) Wf { s with actors := ⟨u.a, n, u.c⟩ } (Ml.mailed σ i f) := by
  have h := (H.below hB).mono (Q := fun b => P b ∨ w.heap.size ≤ b) (fun b hb => .inl hb)
  refine { h with ac := ?_, la := fun q hq _ => .inr ?_ }
  refine acts_mailed (m := m) f hf HQI HQ3 ?_ ⟨?_, hmc, hml⟩ (fun q hq => ((HQ2 q hq).below hB).mono (fun b hb => .inl hb))
  · rw [hA] at ho ⊢
    have h1 := own_store (i := i) (j := 8) (v := .slice m.a m.n m.c) ho (fun _ => rfl) (by omega) (r := a) (by rw [List.getElem?_map, HQI]; rfl) { a with mail := m } rfl
    exact (own_rd h1).off2 hoff (fun q hq => by injection hq with hq; subst hq; exact ⟨hgR, hgQ⟩)
  · exact (hm.off ((Off.refl g v3).set (i * 9 + 8) _) (fun q hq => (hmg q hq).1)).off2 hoff (fun q hq => (hmg q hq).2)
  · have e : u.a = some q := hq
    rw [hA] at e
    injection e with e
    subst e
    exact hg0

theorem take_key {P : Nat → Prop} {w v3 Wf : World} {s : SysC} {σ : PS} {qs : List (LiveC × List LetC)} {i n : Nat} {a : LiveC} {ms rs : List LetC} {m' : LetC} {u : Sl} {A' : Option Addr} {g R B0 : Nat} (H : SysR P w s σ) (HQ2 : ∀ q ∈ qs, MailAt P w q.1 q.2) (HQ3 : qs.map plOf = σ.acts) (HQI : qs[i]? = some (a, ms)) (hmr : ms = m' :: rs)
    (hB3 : Below w.heap.size w v3) (hA : u.a = some ⟨g, 0, none⟩) (ho : v3.ownsRow B0 76 9 (.slice u.a n u.c) n ((qs.map (·.1)).flatMap liveL)) (hml : Rd w w.heap.size 4 a.mail.a a.mail.n (ms.flatMap letL))
    (hrd : ∀ (W : World) (C : Nat), Rd W C 4 a.mail.a a.mail.n (ms.flatMap letL) → Rd W C 4 A' (a.mail.n - 1) ((ms.flatMap letL).drop 4)) (hbk : ∀ q, A' = some q → q.block < w.heap.size) (hcap : a.mail.n ≤ a.mail.c) (hg : w.heap.size ≤ R ∧ R + 1 < g) (hB : Below w.heap.size w Wf) (hoff : Off2 R (R + 1) (v3.setCell ⟨g, i * 9 + 8, none⟩ (.slice A' (a.mail.n - 1) (a.mail.c - 1))) Wf) (hbl : ∀ q, A' = some q → ∃ q0, a.mail.a = some q0 ∧ q.block = q0.block) (h0 : 0 < a.mail.n) :
    SysR (fun b => P b ∨ w.heap.size ≤ b) Wf { s with actors := ⟨u.a, n, u.c⟩ } (Ml.mailed σ i List.tail) := by
  refine sysR_mailed2 (ms' := rs) (m := ⟨A', a.mail.n - 1, a.mail.c - 1⟩) (g := g) (R := R) (Q := R + 1) List.tail (by rw [hmr]; rfl) H HQ2 HQ3 HQI hB hA ho ?_ (by show a.mail.n - 1 ≤ a.mail.c - 1; omega) (fun q hq => ?_) (by omega) (by omega) hoff (by omega) (fun q hq _ => ?_)
  · have := hrd v3 v3.heap.size (hml.up hB3)
    rw [hmr] at this
    simpa using this
  · have := hbk q hq
    omega
  · obtain ⟨q0, e1, e2⟩ := hbl q hq
    rw [e2]
    exact .inl ((HQ2 _ (List.mem_of_getElem? HQI)).loc q0 e1 h0)

set_option maxRecDepth 100000 in
set_option maxHeartbeats 4000000 in
theorem take_none {P : Nat → Prop} (s : SysC) (σ : PS) (p : ByteArray) (w : World) (h : SysR P w s σ) (hna : s.actors.n ≤ 1000000) (hr : Ml.find (σ.acts.map (·.path)) p = none) :
    Calls Try.prog 37 #[sysV s, .string p] w (SysLet P (Ml.take σ p) w) := by
  have HP : Hid (Ml.take σ p = (σ, letZ, false)) := Lib.hid (by unfold Ml.take; rw [hr])
  obtain ⟨qs, hq1, hq2, hq3⟩ := h.ac
  have hpath : (qs.map (·.1)).map (·.path) = σ.acts.map (·.path) := by rw [← hq3]; simp [plOf]
  have C := Lib.hid (fun (W : World) (hW : Below w.heap.size w W) => find_any s (qs.map (·.1)) p W (hq1.up hW) (by omega))
  rw [hpath, hr] at C
  have H := Lib.hid h
  clear h hr hq1 hq2 hq3 hpath
  go_enter Try.func37, Try.ntmps37
  go_wp2_with fail
  refine (C.out _ (by repeat (first | (with_reducible exact Below.refl _ _) | (with_reducible assumption) | ((with_reducible refine Below.setCell ?_ ?_ _); rotate_left; (focus (first | omega | (simp; omega) | (simp; done)))) | ((with_reducible refine Below.alloc ?_ ?_ _); rotate_left; (focus (first | omega | (simp; omega) | (simp; done)))) | (with_reducible refine Below.drew ?_)))).mono ?_
  rintro e v1 ⟨rfl, h1⟩
  have z1 := h1.size
  try simp at z1
  have hB1 : Below w.heap.size w v1 := Below.call (w := w) (by repeat (first | (with_reducible exact Below.refl _ _) | (with_reducible assumption) | ((with_reducible refine Below.setCell ?_ ?_ _); rotate_left; (focus (first | omega | (simp; omega) | (simp; done)))) | ((with_reducible refine Below.alloc ?_ ?_ _); rotate_left; (focus (first | omega | (simp; omega) | (simp; done)))) | (with_reducible refine Below.drew ?_))) h1
  obtain ⟨k1_0, kc, kf⟩ := keepB h1 (w.heap.size) (by first | omega | (simp; omega) | (simp; done))
  have c1_0_0 : v1.cell? ⟨w.heap.size, 0, none⟩ = some (.slice s.up.a s.up.n s.up.c) := (kc 0).trans (by simp [go_sem, *])
  have f1_0_0 : v1.frozen? ⟨w.heap.size, 0, none⟩ = false := (kf 0).trans (by simp [go_sem, *])
  have c1_0_1 : v1.cell? ⟨w.heap.size, 1, none⟩ = some (.int .i64 s.moment) := (kc 1).trans (by simp [go_sem, *])
  have f1_0_1 : v1.frozen? ⟨w.heap.size, 1, none⟩ = false := (kf 1).trans (by simp [go_sem, *])
  have c1_0_2 : v1.cell? ⟨w.heap.size, 2, none⟩ = some (.int .i64 s.clock) := (kc 2).trans (by simp [go_sem, *])
  have f1_0_2 : v1.frozen? ⟨w.heap.size, 2, none⟩ = false := (kf 2).trans (by simp [go_sem, *])
  have c1_0_3 : v1.cell? ⟨w.heap.size, 3, none⟩ = some (.int .i64 s.seq) := (kc 3).trans (by simp [go_sem, *])
  have f1_0_3 : v1.frozen? ⟨w.heap.size, 3, none⟩ = false := (kf 3).trans (by simp [go_sem, *])
  have c1_0_4 : v1.cell? ⟨w.heap.size, 4, none⟩ = some (.slice s.actors.a s.actors.n s.actors.c) := (kc 4).trans (by simp [go_sem, *])
  have f1_0_4 : v1.frozen? ⟨w.heap.size, 4, none⟩ = false := (kf 4).trans (by simp [go_sem, *])
  have c1_0_5 : v1.cell? ⟨w.heap.size, 5, none⟩ = some (.slice s.flights.a s.flights.n s.flights.c) := (kc 5).trans (by simp [go_sem, *])
  have f1_0_5 : v1.frozen? ⟨w.heap.size, 5, none⟩ = false := (kf 5).trans (by simp [go_sem, *])
  have c1_0_6 : v1.cell? ⟨w.heap.size, 6, none⟩ = some (.slice s.alarms.a s.alarms.n s.alarms.c) := (kc 6).trans (by simp [go_sem, *])
  have f1_0_6 : v1.frozen? ⟨w.heap.size, 6, none⟩ = false := (kf 6).trans (by simp [go_sem, *])
  have c1_0_7 : v1.cell? ⟨w.heap.size, 7, none⟩ = some (.slice s.asked.a s.asked.n s.asked.c) := (kc 7).trans (by simp [go_sem, *])
  have f1_0_7 : v1.frozen? ⟨w.heap.size, 7, none⟩ = false := (kf 7).trans (by simp [go_sem, *])
  have c1_0_8 : v1.cell? ⟨w.heap.size, 8, none⟩ = some (.int .i64 s.dead) := (kc 8).trans (by simp [go_sem, *])
  have f1_0_8 : v1.frozen? ⟨w.heap.size, 8, none⟩ = false := (kf 8).trans (by simp [go_sem, *])
  clear kc kf
  obtain ⟨k1_1, kc, kf⟩ := keepB h1 (w.heap.size + 1) (by first | omega | (simp; omega) | (simp; done))
  have c1_1_0 : v1.cell? ⟨w.heap.size + 1, 0, none⟩ = some (.slice none 0 0) := (kc 0).trans (by simp [go_sem, *])
  have f1_1_0 : v1.frozen? ⟨w.heap.size + 1, 0, none⟩ = false := (kf 0).trans (by simp [go_sem, *])
  have c1_1_1 : v1.cell? ⟨w.heap.size + 1, 1, none⟩ = some (.int .i64 0) := (kc 1).trans (by simp [go_sem, *])
  have f1_1_1 : v1.frozen? ⟨w.heap.size + 1, 1, none⟩ = false := (kf 1).trans (by simp [go_sem, *])
  have c1_1_2 : v1.cell? ⟨w.heap.size + 1, 2, none⟩ = some (.int .i64 0) := (kc 2).trans (by simp [go_sem, *])
  have f1_1_2 : v1.frozen? ⟨w.heap.size + 1, 2, none⟩ = false := (kf 2).trans (by simp [go_sem, *])
  have c1_1_3 : v1.cell? ⟨w.heap.size + 1, 3, none⟩ = some (.int .i64 0) := (kc 3).trans (by simp [go_sem, *])
  have f1_1_3 : v1.frozen? ⟨w.heap.size + 1, 3, none⟩ = false := (kf 3).trans (by simp [go_sem, *])
  have c1_1_4 : v1.cell? ⟨w.heap.size + 1, 4, none⟩ = some (.slice none 0 0) := (kc 4).trans (by simp [go_sem, *])
  have f1_1_4 : v1.frozen? ⟨w.heap.size + 1, 4, none⟩ = false := (kf 4).trans (by simp [go_sem, *])
  have c1_1_5 : v1.cell? ⟨w.heap.size + 1, 5, none⟩ = some (.slice none 0 0) := (kc 5).trans (by simp [go_sem, *])
  have f1_1_5 : v1.frozen? ⟨w.heap.size + 1, 5, none⟩ = false := (kf 5).trans (by simp [go_sem, *])
  have c1_1_6 : v1.cell? ⟨w.heap.size + 1, 6, none⟩ = some (.slice none 0 0) := (kc 6).trans (by simp [go_sem, *])
  have f1_1_6 : v1.frozen? ⟨w.heap.size + 1, 6, none⟩ = false := (kf 6).trans (by simp [go_sem, *])
  have c1_1_7 : v1.cell? ⟨w.heap.size + 1, 7, none⟩ = some (.slice none 0 0) := (kc 7).trans (by simp [go_sem, *])
  have f1_1_7 : v1.frozen? ⟨w.heap.size + 1, 7, none⟩ = false := (kf 7).trans (by simp [go_sem, *])
  have c1_1_8 : v1.cell? ⟨w.heap.size + 1, 8, none⟩ = some (.int .i64 0) := (kc 8).trans (by simp [go_sem, *])
  have f1_1_8 : v1.frozen? ⟨w.heap.size + 1, 8, none⟩ = false := (kf 8).trans (by simp [go_sem, *])
  clear kc kf
  obtain ⟨k1_2, kc, kf⟩ := keepB h1 (w.heap.size + 1 + 1) (by first | omega | (simp; omega) | (simp; done))
  have c1_2_0 : v1.cell? ⟨w.heap.size + 1 + 1, 0, none⟩ = some (.string ⟨#[]⟩) := (kc 0).trans (by simp [go_sem, *])
  have f1_2_0 : v1.frozen? ⟨w.heap.size + 1 + 1, 0, none⟩ = false := (kf 0).trans (by simp [go_sem, *])
  have c1_2_1 : v1.cell? ⟨w.heap.size + 1 + 1, 1, none⟩ = some (.string ⟨#[]⟩) := (kc 1).trans (by simp [go_sem, *])
  have f1_2_1 : v1.frozen? ⟨w.heap.size + 1 + 1, 1, none⟩ = false := (kf 1).trans (by simp [go_sem, *])
  have c1_2_2 : v1.cell? ⟨w.heap.size + 1 + 1, 2, none⟩ = some (.slice none 0 0) := (kc 2).trans (by simp [go_sem, *])
  have f1_2_2 : v1.frozen? ⟨w.heap.size + 1 + 1, 2, none⟩ = false := (kf 2).trans (by simp [go_sem, *])
  have c1_2_3 : v1.cell? ⟨w.heap.size + 1 + 1, 3, none⟩ = some (.int .i64 0) := (kc 3).trans (by simp [go_sem, *])
  have f1_2_3 : v1.frozen? ⟨w.heap.size + 1 + 1, 3, none⟩ = false := (kf 3).trans (by simp [go_sem, *])
  clear kc kf
  go_wp2_with fail
  refine bodyPost_ret (v := .tuple #[sysV s, letV letZ, .bool false]) (by simp [results, Try.results37, go_sem, letZ, *]) rfl (sysLet HP.out ((H.out.below (by repeat (first | (with_reducible exact Below.refl _ _) | (with_reducible assumption) | ((with_reducible refine Below.setCell ?_ ?_ _); rotate_left; (focus (first | omega | (simp; omega) | (simp; done)))) | ((with_reducible refine Below.alloc ?_ ?_ _); rotate_left; (focus (first | omega | (simp; omega) | (simp; done)))) | (with_reducible refine Below.drew ?_)))).mono (fun b hb => .inl hb)) (by repeat (first | (with_reducible exact Below.refl _ _) | (with_reducible assumption) | ((with_reducible refine Below.setCell ?_ ?_ _); rotate_left; (focus (first | omega | (simp; omega) | (simp; done)))) | ((with_reducible refine Below.alloc ?_ ?_ _); rotate_left; (focus (first | omega | (simp; omega) | (simp; done)))) | (with_reducible refine Below.drew ?_))))

set_option maxRecDepth 100000 in
set_option maxHeartbeats 4000000 in
set_option linter.unusedSimpArgs false in
theorem take_empty {P : Nat → Prop} (s : SysC) (σ : PS) (p : ByteArray) (w : World) (h : SysR P w s σ) (hna : s.actors.n ≤ 1000000) (i : Nat) (hr : Ml.find (σ.acts.map (·.path)) p = some i) (a : LiveC) (ms : List LetC) (qs : List (LiveC × List LetC)) (hq1 : Rd w w.heap.size 9 s.actors.a s.actors.n ((qs.map (·.1)).flatMap liveL)) (hq2 : ∀ q ∈ qs, MailAt P w q.1 q.2) (hq3 : qs.map plOf = σ.acts) (hqi : qs[i]? = some (a, ms)) (hm : ((a.mail.n : Int) == 0) = true) :
    Calls Try.prog 37 #[sysV s, .string p] w (SysLet P (Ml.take σ p) w) := by
  have hms : ms.length = a.mail.n := (hq2 _ (List.mem_of_getElem? hqi)).rd.len (fun _ => rfl) (by omega)
  have hai : σ.acts[i]? = some (plOf (a, ms)) := by rw [← hq3, List.getElem?_map, hqi]; rfl
  have HP : Hid (Ml.take σ p = (σ, letZ, false)) := Lib.hid (by
    have : ms = [] := List.eq_nil_of_length_eq_zero (by simp at hm; omega)
    subst this
    unfold Ml.take; rw [hr]; simp only [hai]; rfl)
  have hpath : (qs.map (·.1)).map (·.path) = σ.acts.map (·.path) := by rw [← hq3]; simp [plOf]
  have C := Lib.hid (fun (W : World) (hW : Below w.heap.size w W) => find_any s (qs.map (·.1)) p W (hq1.up hW) (by omega))
  rw [hpath, hr] at C
  have hil : i < s.actors.n := by
    have h1 := hq1.len (fun _ => rfl) (by omega)
    have h2 := (List.getElem?_eq_some_iff.1 hqi).1
    simp at h1; omega
  obtain ⟨b, off, a', hA, hb, hak, hc⟩ := hq1.at_ (fun _ => rfl) (by omega) hil
  have ea : a' = a := by rw [List.getElem?_map, hqi] at hak; simpa using hak.symm
  subst ea
  have c8 : w.cell? ⟨b, off + i * 9 + 8, none⟩ = some (.slice a'.mail.a a'.mail.n a'.mail.c) := hc 8 _ rfl
  have hix : ∀ W : World, Sem.run Try.prog (Instr.indexAt 23 (.slice s.actors.a s.actors.n s.actors.c) (.int .i64 (i : Int))) W = .ok (.pointer (some ⟨b, off + i * 9, none⟩)) W := by intro W; rw [hA]; go_simp
  have H := Lib.hid h
  have HQ1 := Lib.hid hq1
  have HQ2 := Lib.hid hq2
  have HQ3 := Lib.hid hq3
  have HQI := Lib.hid hqi
  have HMS := Lib.hid hms
  clear h hr hq1 hq2 hq3 hqi hA hak hc hms hai hpath
  go_enter Try.func37, Try.ntmps37
  go_wp2_with fail
  refine (C.out _ (by repeat (first | (with_reducible exact Below.refl _ _) | (with_reducible assumption) | ((with_reducible refine Below.setCell ?_ ?_ _); rotate_left; (focus (first | omega | (simp; omega) | (simp; done)))) | ((with_reducible refine Below.alloc ?_ ?_ _); rotate_left; (focus (first | omega | (simp; omega) | (simp; done)))) | (with_reducible refine Below.drew ?_)))).mono ?_
  rintro e v1 ⟨rfl, h1⟩
  have z1 := h1.size
  try simp at z1
  have hB1 : Below w.heap.size w v1 := Below.call (w := w) (by repeat (first | (with_reducible exact Below.refl _ _) | (with_reducible assumption) | ((with_reducible refine Below.setCell ?_ ?_ _); rotate_left; (focus (first | omega | (simp; omega) | (simp; done)))) | ((with_reducible refine Below.alloc ?_ ?_ _); rotate_left; (focus (first | omega | (simp; omega) | (simp; done)))) | (with_reducible refine Below.drew ?_))) h1
  obtain ⟨k1_0, kc, kf⟩ := keepB h1 (w.heap.size) (by first | omega | (simp; omega) | (simp; done))
  have c1_0_0 : v1.cell? ⟨w.heap.size, 0, none⟩ = some (.slice s.up.a s.up.n s.up.c) := (kc 0).trans (by simp [go_sem, *])
  have f1_0_0 : v1.frozen? ⟨w.heap.size, 0, none⟩ = false := (kf 0).trans (by simp [go_sem, *])
  have c1_0_1 : v1.cell? ⟨w.heap.size, 1, none⟩ = some (.int .i64 s.moment) := (kc 1).trans (by simp [go_sem, *])
  have f1_0_1 : v1.frozen? ⟨w.heap.size, 1, none⟩ = false := (kf 1).trans (by simp [go_sem, *])
  have c1_0_2 : v1.cell? ⟨w.heap.size, 2, none⟩ = some (.int .i64 s.clock) := (kc 2).trans (by simp [go_sem, *])
  have f1_0_2 : v1.frozen? ⟨w.heap.size, 2, none⟩ = false := (kf 2).trans (by simp [go_sem, *])
  have c1_0_3 : v1.cell? ⟨w.heap.size, 3, none⟩ = some (.int .i64 s.seq) := (kc 3).trans (by simp [go_sem, *])
  have f1_0_3 : v1.frozen? ⟨w.heap.size, 3, none⟩ = false := (kf 3).trans (by simp [go_sem, *])
  have c1_0_4 : v1.cell? ⟨w.heap.size, 4, none⟩ = some (.slice s.actors.a s.actors.n s.actors.c) := (kc 4).trans (by simp [go_sem, *])
  have f1_0_4 : v1.frozen? ⟨w.heap.size, 4, none⟩ = false := (kf 4).trans (by simp [go_sem, *])
  have c1_0_5 : v1.cell? ⟨w.heap.size, 5, none⟩ = some (.slice s.flights.a s.flights.n s.flights.c) := (kc 5).trans (by simp [go_sem, *])
  have f1_0_5 : v1.frozen? ⟨w.heap.size, 5, none⟩ = false := (kf 5).trans (by simp [go_sem, *])
  have c1_0_6 : v1.cell? ⟨w.heap.size, 6, none⟩ = some (.slice s.alarms.a s.alarms.n s.alarms.c) := (kc 6).trans (by simp [go_sem, *])
  have f1_0_6 : v1.frozen? ⟨w.heap.size, 6, none⟩ = false := (kf 6).trans (by simp [go_sem, *])
  have c1_0_7 : v1.cell? ⟨w.heap.size, 7, none⟩ = some (.slice s.asked.a s.asked.n s.asked.c) := (kc 7).trans (by simp [go_sem, *])
  have f1_0_7 : v1.frozen? ⟨w.heap.size, 7, none⟩ = false := (kf 7).trans (by simp [go_sem, *])
  have c1_0_8 : v1.cell? ⟨w.heap.size, 8, none⟩ = some (.int .i64 s.dead) := (kc 8).trans (by simp [go_sem, *])
  have f1_0_8 : v1.frozen? ⟨w.heap.size, 8, none⟩ = false := (kf 8).trans (by simp [go_sem, *])
  clear kc kf
  obtain ⟨k1_1, kc, kf⟩ := keepB h1 (w.heap.size + 1) (by first | omega | (simp; omega) | (simp; done))
  have c1_1_0 : v1.cell? ⟨w.heap.size + 1, 0, none⟩ = some (.slice none 0 0) := (kc 0).trans (by simp [go_sem, *])
  have f1_1_0 : v1.frozen? ⟨w.heap.size + 1, 0, none⟩ = false := (kf 0).trans (by simp [go_sem, *])
  have c1_1_1 : v1.cell? ⟨w.heap.size + 1, 1, none⟩ = some (.int .i64 0) := (kc 1).trans (by simp [go_sem, *])
  have f1_1_1 : v1.frozen? ⟨w.heap.size + 1, 1, none⟩ = false := (kf 1).trans (by simp [go_sem, *])
  have c1_1_2 : v1.cell? ⟨w.heap.size + 1, 2, none⟩ = some (.int .i64 0) := (kc 2).trans (by simp [go_sem, *])
  have f1_1_2 : v1.frozen? ⟨w.heap.size + 1, 2, none⟩ = false := (kf 2).trans (by simp [go_sem, *])
  have c1_1_3 : v1.cell? ⟨w.heap.size + 1, 3, none⟩ = some (.int .i64 0) := (kc 3).trans (by simp [go_sem, *])
  have f1_1_3 : v1.frozen? ⟨w.heap.size + 1, 3, none⟩ = false := (kf 3).trans (by simp [go_sem, *])
  have c1_1_4 : v1.cell? ⟨w.heap.size + 1, 4, none⟩ = some (.slice none 0 0) := (kc 4).trans (by simp [go_sem, *])
  have f1_1_4 : v1.frozen? ⟨w.heap.size + 1, 4, none⟩ = false := (kf 4).trans (by simp [go_sem, *])
  have c1_1_5 : v1.cell? ⟨w.heap.size + 1, 5, none⟩ = some (.slice none 0 0) := (kc 5).trans (by simp [go_sem, *])
  have f1_1_5 : v1.frozen? ⟨w.heap.size + 1, 5, none⟩ = false := (kf 5).trans (by simp [go_sem, *])
  have c1_1_6 : v1.cell? ⟨w.heap.size + 1, 6, none⟩ = some (.slice none 0 0) := (kc 6).trans (by simp [go_sem, *])
  have f1_1_6 : v1.frozen? ⟨w.heap.size + 1, 6, none⟩ = false := (kf 6).trans (by simp [go_sem, *])
  have c1_1_7 : v1.cell? ⟨w.heap.size + 1, 7, none⟩ = some (.slice none 0 0) := (kc 7).trans (by simp [go_sem, *])
  have f1_1_7 : v1.frozen? ⟨w.heap.size + 1, 7, none⟩ = false := (kf 7).trans (by simp [go_sem, *])
  have c1_1_8 : v1.cell? ⟨w.heap.size + 1, 8, none⟩ = some (.int .i64 0) := (kc 8).trans (by simp [go_sem, *])
  have f1_1_8 : v1.frozen? ⟨w.heap.size + 1, 8, none⟩ = false := (kf 8).trans (by simp [go_sem, *])
  clear kc kf
  obtain ⟨k1_2, kc, kf⟩ := keepB h1 (w.heap.size + 1 + 1) (by first | omega | (simp; omega) | (simp; done))
  have c1_2_0 : v1.cell? ⟨w.heap.size + 1 + 1, 0, none⟩ = some (.string ⟨#[]⟩) := (kc 0).trans (by simp [go_sem, *])
  have f1_2_0 : v1.frozen? ⟨w.heap.size + 1 + 1, 0, none⟩ = false := (kf 0).trans (by simp [go_sem, *])
  have c1_2_1 : v1.cell? ⟨w.heap.size + 1 + 1, 1, none⟩ = some (.string ⟨#[]⟩) := (kc 1).trans (by simp [go_sem, *])
  have f1_2_1 : v1.frozen? ⟨w.heap.size + 1 + 1, 1, none⟩ = false := (kf 1).trans (by simp [go_sem, *])
  have c1_2_2 : v1.cell? ⟨w.heap.size + 1 + 1, 2, none⟩ = some (.slice none 0 0) := (kc 2).trans (by simp [go_sem, *])
  have f1_2_2 : v1.frozen? ⟨w.heap.size + 1 + 1, 2, none⟩ = false := (kf 2).trans (by simp [go_sem, *])
  have c1_2_3 : v1.cell? ⟨w.heap.size + 1 + 1, 3, none⟩ = some (.int .i64 0) := (kc 3).trans (by simp [go_sem, *])
  have f1_2_3 : v1.frozen? ⟨w.heap.size + 1 + 1, 3, none⟩ = false := (kf 3).trans (by simp [go_sem, *])
  clear kc kf
  have d8 : v1.cell? ⟨b, off + i * 9 + 8, none⟩ = some (.slice a'.mail.a a'.mail.n a'.mail.c) := (hB1.cell (p := ⟨b, off + i * 9 + 8, none⟩) hb).trans c8
  clear c8
  go_wp2_with fail
  refine bodyPost_ret (v := .tuple #[sysV s, letV letZ, .bool false]) (by simp [results, Try.results37, go_sem, letZ, *]) rfl (sysLet HP.out ((H.out.below (by repeat (first | (with_reducible exact Below.refl _ _) | (with_reducible assumption) | ((with_reducible refine Below.setCell ?_ ?_ _); rotate_left; (focus (first | omega | (simp; omega) | (simp; done)))) | ((with_reducible refine Below.alloc ?_ ?_ _); rotate_left; (focus (first | omega | (simp; omega) | (simp; done)))) | (with_reducible refine Below.drew ?_)))).mono (fun b hb => .inl hb)) (by repeat (first | (with_reducible exact Below.refl _ _) | (with_reducible assumption) | ((with_reducible refine Below.setCell ?_ ?_ _); rotate_left; (focus (first | omega | (simp; omega) | (simp; done)))) | ((with_reducible refine Below.alloc ?_ ?_ _); rotate_left; (focus (first | omega | (simp; omega) | (simp; done)))) | (with_reducible refine Below.drew ?_))))

set_option maxRecDepth 100000 in
set_option maxHeartbeats 4000000 in
set_option linter.unusedSimpArgs false in
theorem take_some {P : Nat → Prop} (s : SysC) (σ : PS) (p : ByteArray) (w : World) (h : SysR P w s σ) (hna : s.actors.n ≤ 1000000) (i : Nat) (hr : Ml.find (σ.acts.map (·.path)) p = some i) (a : LiveC) (ms : List LetC) (qs : List (LiveC × List LetC)) (hq1 : Rd w w.heap.size 9 s.actors.a s.actors.n ((qs.map (·.1)).flatMap liveL)) (hq2 : ∀ q ∈ qs, MailAt P w q.1 q.2) (hq3 : qs.map plOf = σ.acts) (hqi : qs[i]? = some (a, ms)) (hm : ((a.mail.n : Int) == 0) = false) (m : LetC) (rs : List LetC) (hmr : ms = m :: rs) :
    Calls Try.prog 37 #[sysV s, .string p] w (SysLet P (Ml.take σ p) w) := by
  have hms : ms.length = a.mail.n := (hq2 _ (List.mem_of_getElem? hqi)).rd.len (fun _ => rfl) (by omega)
  have hai : σ.acts[i]? = some (plOf (a, ms)) := by rw [← hq3, List.getElem?_map, hqi]; rfl
  have HP : Hid (Ml.take σ p = (Ml.mailed σ i List.tail, m, true)) := Lib.hid (by unfold Ml.take; rw [hr]; simp only [hai]; subst hmr; rfl)
  have hpath : (qs.map (·.1)).map (·.path) = σ.acts.map (·.path) := by rw [← hq3]; simp [plOf]
  have C := Lib.hid (fun (W : World) (hW : Below w.heap.size w W) => find_any s (qs.map (·.1)) p W (hq1.up hW) (by omega))
  rw [hpath, hr] at C
  have hil : i < s.actors.n := by
    have h1 := hq1.len (fun _ => rfl) (by omega)
    have h2 := (List.getElem?_eq_some_iff.1 hqi).1
    simp at h1; omega
  obtain ⟨b, off, a', hA, hb, hak, hc⟩ := hq1.at_ (fun _ => rfl) (by omega) hil
  have ea : a' = a := by rw [List.getElem?_map, hqi] at hak; simpa using hak.symm
  subst ea
  have c8 : w.cell? ⟨b, off + i * 9 + 8, none⟩ = some (.slice a'.mail.a a'.mail.n a'.mail.c) := hc 8 _ rfl
  have hix : ∀ W : World, Sem.run Try.prog (Instr.indexAt 23 (.slice s.actors.a s.actors.n s.actors.c) (.int .i64 (i : Int))) W = .ok (.pointer (some ⟨b, off + i * 9, none⟩)) W := by intro W; rw [hA]; go_simp
  have H := Lib.hid h
  have HQ1 := Lib.hid hq1
  have HQ2 := Lib.hid hq2
  have HQ3 := Lib.hid hq3
  have HQI := Lib.hid hqi
  have HMS := Lib.hid hms
  clear h hr hq1 hq2 hq3 hqi hA hak hc hms hai hpath
  have h0 : 0 < a'.mail.n := by simp at hm; omega
  have hmail := (HQ2.out _ (List.mem_of_getElem? HQI.out)).rd
  have hcap := (HQ2.out _ (List.mem_of_getElem? HQI.out)).cap
  obtain ⟨A', hsl, hrd, hblk, hbl2⟩ := tail74 hmail h0 hcap
  obtain ⟨b3, off3, m', hA3, hb3, hm3, hc3⟩ := hmail.at_ (fun _ => rfl) (by omega) h0
  have em : m' = m := by simp [hmr] at hm3; exact hm3.symm
  subst em
  have y0 : w.cell? ⟨b3, off3, none⟩ = some (.string m'.src) := by have := hc3 0 _ rfl; simpa using this
  have y1 : w.cell? ⟨b3, off3 + 1, none⟩ = some (.string m'.msg) := by have := hc3 1 _ rfl; simpa using this
  have y2 : w.cell? ⟨b3, off3 + 2, none⟩ = some (.slice m'.args.a m'.args.n m'.args.c) := by have := hc3 2 _ rfl; simpa using this
  have y3 : w.cell? ⟨b3, off3 + 3, none⟩ = some (.int .i64 m'.sent) := by have := hc3 3 _ rfl; simpa using this
  have hix3 : ∀ W : World, Sem.run Try.prog (Instr.indexAt 74 (.slice a'.mail.a a'.mail.n a'.mail.c) (.int .i64 0)) W = .ok (.pointer (some ⟨b3, off3, none⟩)) W := by intro W; rw [hA3]; go_simp
  have HML := Lib.hid hmail; have HRD := Lib.hid hrd; have HBK := Lib.hid hblk; have HBL := Lib.hid hbl2
  clear hmail hrd hblk hbl2 hA3 hm3 hc3
  go_enter Try.func37, Try.ntmps37
  go_wp2_with fail
  refine (C.out _ (by repeat (first | (with_reducible exact Below.refl _ _) | (with_reducible assumption) | ((with_reducible refine Below.setCell ?_ ?_ _); rotate_left; (focus (first | omega | (simp; omega) | (simp; done)))) | ((with_reducible refine Below.alloc ?_ ?_ _); rotate_left; (focus (first | omega | (simp; omega) | (simp; done)))) | (with_reducible refine Below.drew ?_)))).mono ?_
  rintro e v1 ⟨rfl, h1⟩
  have z1 := h1.size
  try simp at z1
  have hB1 : Below w.heap.size w v1 := Below.call (w := w) (by repeat (first | (with_reducible exact Below.refl _ _) | (with_reducible assumption) | ((with_reducible refine Below.setCell ?_ ?_ _); rotate_left; (focus (first | omega | (simp; omega) | (simp; done)))) | ((with_reducible refine Below.alloc ?_ ?_ _); rotate_left; (focus (first | omega | (simp; omega) | (simp; done)))) | (with_reducible refine Below.drew ?_))) h1
  obtain ⟨k1_0, kc, kf⟩ := keepB h1 (w.heap.size) (by first | omega | (simp; omega) | (simp; done))
  have c1_0_0 : v1.cell? ⟨w.heap.size, 0, none⟩ = some (.slice s.up.a s.up.n s.up.c) := (kc 0).trans (by simp [go_sem, *])
  have f1_0_0 : v1.frozen? ⟨w.heap.size, 0, none⟩ = false := (kf 0).trans (by simp [go_sem, *])
  have c1_0_1 : v1.cell? ⟨w.heap.size, 1, none⟩ = some (.int .i64 s.moment) := (kc 1).trans (by simp [go_sem, *])
  have f1_0_1 : v1.frozen? ⟨w.heap.size, 1, none⟩ = false := (kf 1).trans (by simp [go_sem, *])
  have c1_0_2 : v1.cell? ⟨w.heap.size, 2, none⟩ = some (.int .i64 s.clock) := (kc 2).trans (by simp [go_sem, *])
  have f1_0_2 : v1.frozen? ⟨w.heap.size, 2, none⟩ = false := (kf 2).trans (by simp [go_sem, *])
  have c1_0_3 : v1.cell? ⟨w.heap.size, 3, none⟩ = some (.int .i64 s.seq) := (kc 3).trans (by simp [go_sem, *])
  have f1_0_3 : v1.frozen? ⟨w.heap.size, 3, none⟩ = false := (kf 3).trans (by simp [go_sem, *])
  have c1_0_4 : v1.cell? ⟨w.heap.size, 4, none⟩ = some (.slice s.actors.a s.actors.n s.actors.c) := (kc 4).trans (by simp [go_sem, *])
  have f1_0_4 : v1.frozen? ⟨w.heap.size, 4, none⟩ = false := (kf 4).trans (by simp [go_sem, *])
  have c1_0_5 : v1.cell? ⟨w.heap.size, 5, none⟩ = some (.slice s.flights.a s.flights.n s.flights.c) := (kc 5).trans (by simp [go_sem, *])
  have f1_0_5 : v1.frozen? ⟨w.heap.size, 5, none⟩ = false := (kf 5).trans (by simp [go_sem, *])
  have c1_0_6 : v1.cell? ⟨w.heap.size, 6, none⟩ = some (.slice s.alarms.a s.alarms.n s.alarms.c) := (kc 6).trans (by simp [go_sem, *])
  have f1_0_6 : v1.frozen? ⟨w.heap.size, 6, none⟩ = false := (kf 6).trans (by simp [go_sem, *])
  have c1_0_7 : v1.cell? ⟨w.heap.size, 7, none⟩ = some (.slice s.asked.a s.asked.n s.asked.c) := (kc 7).trans (by simp [go_sem, *])
  have f1_0_7 : v1.frozen? ⟨w.heap.size, 7, none⟩ = false := (kf 7).trans (by simp [go_sem, *])
  have c1_0_8 : v1.cell? ⟨w.heap.size, 8, none⟩ = some (.int .i64 s.dead) := (kc 8).trans (by simp [go_sem, *])
  have f1_0_8 : v1.frozen? ⟨w.heap.size, 8, none⟩ = false := (kf 8).trans (by simp [go_sem, *])
  clear kc kf
  obtain ⟨k1_1, kc, kf⟩ := keepB h1 (w.heap.size + 1) (by first | omega | (simp; omega) | (simp; done))
  have c1_1_0 : v1.cell? ⟨w.heap.size + 1, 0, none⟩ = some (.slice none 0 0) := (kc 0).trans (by simp [go_sem, *])
  have f1_1_0 : v1.frozen? ⟨w.heap.size + 1, 0, none⟩ = false := (kf 0).trans (by simp [go_sem, *])
  have c1_1_1 : v1.cell? ⟨w.heap.size + 1, 1, none⟩ = some (.int .i64 0) := (kc 1).trans (by simp [go_sem, *])
  have f1_1_1 : v1.frozen? ⟨w.heap.size + 1, 1, none⟩ = false := (kf 1).trans (by simp [go_sem, *])
  have c1_1_2 : v1.cell? ⟨w.heap.size + 1, 2, none⟩ = some (.int .i64 0) := (kc 2).trans (by simp [go_sem, *])
  have f1_1_2 : v1.frozen? ⟨w.heap.size + 1, 2, none⟩ = false := (kf 2).trans (by simp [go_sem, *])
  have c1_1_3 : v1.cell? ⟨w.heap.size + 1, 3, none⟩ = some (.int .i64 0) := (kc 3).trans (by simp [go_sem, *])
  have f1_1_3 : v1.frozen? ⟨w.heap.size + 1, 3, none⟩ = false := (kf 3).trans (by simp [go_sem, *])
  have c1_1_4 : v1.cell? ⟨w.heap.size + 1, 4, none⟩ = some (.slice none 0 0) := (kc 4).trans (by simp [go_sem, *])
  have f1_1_4 : v1.frozen? ⟨w.heap.size + 1, 4, none⟩ = false := (kf 4).trans (by simp [go_sem, *])
  have c1_1_5 : v1.cell? ⟨w.heap.size + 1, 5, none⟩ = some (.slice none 0 0) := (kc 5).trans (by simp [go_sem, *])
  have f1_1_5 : v1.frozen? ⟨w.heap.size + 1, 5, none⟩ = false := (kf 5).trans (by simp [go_sem, *])
  have c1_1_6 : v1.cell? ⟨w.heap.size + 1, 6, none⟩ = some (.slice none 0 0) := (kc 6).trans (by simp [go_sem, *])
  have f1_1_6 : v1.frozen? ⟨w.heap.size + 1, 6, none⟩ = false := (kf 6).trans (by simp [go_sem, *])
  have c1_1_7 : v1.cell? ⟨w.heap.size + 1, 7, none⟩ = some (.slice none 0 0) := (kc 7).trans (by simp [go_sem, *])
  have f1_1_7 : v1.frozen? ⟨w.heap.size + 1, 7, none⟩ = false := (kf 7).trans (by simp [go_sem, *])
  have c1_1_8 : v1.cell? ⟨w.heap.size + 1, 8, none⟩ = some (.int .i64 0) := (kc 8).trans (by simp [go_sem, *])
  have f1_1_8 : v1.frozen? ⟨w.heap.size + 1, 8, none⟩ = false := (kf 8).trans (by simp [go_sem, *])
  clear kc kf
  obtain ⟨k1_2, kc, kf⟩ := keepB h1 (w.heap.size + 1 + 1) (by first | omega | (simp; omega) | (simp; done))
  have c1_2_0 : v1.cell? ⟨w.heap.size + 1 + 1, 0, none⟩ = some (.string ⟨#[]⟩) := (kc 0).trans (by simp [go_sem, *])
  have f1_2_0 : v1.frozen? ⟨w.heap.size + 1 + 1, 0, none⟩ = false := (kf 0).trans (by simp [go_sem, *])
  have c1_2_1 : v1.cell? ⟨w.heap.size + 1 + 1, 1, none⟩ = some (.string ⟨#[]⟩) := (kc 1).trans (by simp [go_sem, *])
  have f1_2_1 : v1.frozen? ⟨w.heap.size + 1 + 1, 1, none⟩ = false := (kf 1).trans (by simp [go_sem, *])
  have c1_2_2 : v1.cell? ⟨w.heap.size + 1 + 1, 2, none⟩ = some (.slice none 0 0) := (kc 2).trans (by simp [go_sem, *])
  have f1_2_2 : v1.frozen? ⟨w.heap.size + 1 + 1, 2, none⟩ = false := (kf 2).trans (by simp [go_sem, *])
  have c1_2_3 : v1.cell? ⟨w.heap.size + 1 + 1, 3, none⟩ = some (.int .i64 0) := (kc 3).trans (by simp [go_sem, *])
  have f1_2_3 : v1.frozen? ⟨w.heap.size + 1 + 1, 3, none⟩ = false := (kf 3).trans (by simp [go_sem, *])
  clear kc kf
  have d8 : v1.cell? ⟨b, off + i * 9 + 8, none⟩ = some (.slice a'.mail.a a'.mail.n a'.mail.c) := (hB1.cell (p := ⟨b, off + i * 9 + 8, none⟩) hb).trans c8
  have z0' : v1.cell? ⟨b3, off3, none⟩ = some (.string m'.src) := (hB1.cell (p := ⟨b3, off3, none⟩) hb3).trans y0
  have z1' : v1.cell? ⟨b3, off3 + 1, none⟩ = some (.string m'.msg) := (hB1.cell (p := ⟨b3, off3 + 1, none⟩) hb3).trans y1
  have z2' : v1.cell? ⟨b3, off3 + 2, none⟩ = some (.slice m'.args.a m'.args.n m'.args.c) := (hB1.cell (p := ⟨b3, off3 + 2, none⟩) hb3).trans y2
  have z3' : v1.cell? ⟨b3, off3 + 3, none⟩ = some (.int .i64 m'.sent) := (hB1.cell (p := ⟨b3, off3 + 3, none⟩) hb3).trans y3
  clear c8 y0 y1 y2 y3
  go_wp2_with fail
  refine (clone75 _ _ _ _ _ (HQ1.out.up (by repeat (first | (with_reducible exact Below.refl _ _) | (with_reducible assumption) | ((with_reducible refine Below.setCell ?_ ?_ _); rotate_left; (focus (first | omega | (simp; omega) | (simp; done)))) | ((with_reducible refine Below.alloc ?_ ?_ _); rotate_left; (focus (first | omega | (simp; omega) | (simp; done)))) | (with_reducible refine Below.drew ?_)))) hna).mono ?_
  rintro e v2 ⟨u, rfl, ho, h2⟩
  clear d8 hix z0' z1' z2' z3' hix3
  have z2 := h2.size
  try simp at z2
  have hB2 : Below w.heap.size w v2 := Below.call (w := w) (by repeat (first | (with_reducible exact Below.refl _ _) | (with_reducible assumption) | ((with_reducible refine Below.setCell ?_ ?_ _); rotate_left; (focus (first | omega | (simp; omega) | (simp; done)))) | ((with_reducible refine Below.alloc ?_ ?_ _); rotate_left; (focus (first | omega | (simp; omega) | (simp; done)))) | (with_reducible refine Below.drew ?_))) h2
  obtain ⟨k2_0, kc, kf⟩ := keepB h2 (w.heap.size) (by first | omega | (simp; omega) | (simp; done))
  have c2_0_0 : v2.cell? ⟨w.heap.size, 0, none⟩ = some (.slice s.up.a s.up.n s.up.c) := (kc 0).trans (by simp [go_sem, *])
  have f2_0_0 : v2.frozen? ⟨w.heap.size, 0, none⟩ = false := (kf 0).trans (by simp [go_sem, *])
  have c2_0_1 : v2.cell? ⟨w.heap.size, 1, none⟩ = some (.int .i64 s.moment) := (kc 1).trans (by simp [go_sem, *])
  have f2_0_1 : v2.frozen? ⟨w.heap.size, 1, none⟩ = false := (kf 1).trans (by simp [go_sem, *])
  have c2_0_2 : v2.cell? ⟨w.heap.size, 2, none⟩ = some (.int .i64 s.clock) := (kc 2).trans (by simp [go_sem, *])
  have f2_0_2 : v2.frozen? ⟨w.heap.size, 2, none⟩ = false := (kf 2).trans (by simp [go_sem, *])
  have c2_0_3 : v2.cell? ⟨w.heap.size, 3, none⟩ = some (.int .i64 s.seq) := (kc 3).trans (by simp [go_sem, *])
  have f2_0_3 : v2.frozen? ⟨w.heap.size, 3, none⟩ = false := (kf 3).trans (by simp [go_sem, *])
  have c2_0_4 : v2.cell? ⟨w.heap.size, 4, none⟩ = some (.slice s.actors.a s.actors.n s.actors.c) := (kc 4).trans (by simp [go_sem, *])
  have f2_0_4 : v2.frozen? ⟨w.heap.size, 4, none⟩ = false := (kf 4).trans (by simp [go_sem, *])
  have c2_0_5 : v2.cell? ⟨w.heap.size, 5, none⟩ = some (.slice s.flights.a s.flights.n s.flights.c) := (kc 5).trans (by simp [go_sem, *])
  have f2_0_5 : v2.frozen? ⟨w.heap.size, 5, none⟩ = false := (kf 5).trans (by simp [go_sem, *])
  have c2_0_6 : v2.cell? ⟨w.heap.size, 6, none⟩ = some (.slice s.alarms.a s.alarms.n s.alarms.c) := (kc 6).trans (by simp [go_sem, *])
  have f2_0_6 : v2.frozen? ⟨w.heap.size, 6, none⟩ = false := (kf 6).trans (by simp [go_sem, *])
  have c2_0_7 : v2.cell? ⟨w.heap.size, 7, none⟩ = some (.slice s.asked.a s.asked.n s.asked.c) := (kc 7).trans (by simp [go_sem, *])
  have f2_0_7 : v2.frozen? ⟨w.heap.size, 7, none⟩ = false := (kf 7).trans (by simp [go_sem, *])
  have c2_0_8 : v2.cell? ⟨w.heap.size, 8, none⟩ = some (.int .i64 s.dead) := (kc 8).trans (by simp [go_sem, *])
  have f2_0_8 : v2.frozen? ⟨w.heap.size, 8, none⟩ = false := (kf 8).trans (by simp [go_sem, *])
  clear kc kf
  obtain ⟨k2_1, kc, kf⟩ := keepB h2 (w.heap.size + 1) (by first | omega | (simp; omega) | (simp; done))
  have c2_1_0 : v2.cell? ⟨w.heap.size + 1, 0, none⟩ = some (.slice none 0 0) := (kc 0).trans (by simp [go_sem, *])
  have f2_1_0 : v2.frozen? ⟨w.heap.size + 1, 0, none⟩ = false := (kf 0).trans (by simp [go_sem, *])
  have c2_1_1 : v2.cell? ⟨w.heap.size + 1, 1, none⟩ = some (.int .i64 0) := (kc 1).trans (by simp [go_sem, *])
  have f2_1_1 : v2.frozen? ⟨w.heap.size + 1, 1, none⟩ = false := (kf 1).trans (by simp [go_sem, *])
  have c2_1_2 : v2.cell? ⟨w.heap.size + 1, 2, none⟩ = some (.int .i64 0) := (kc 2).trans (by simp [go_sem, *])
  have f2_1_2 : v2.frozen? ⟨w.heap.size + 1, 2, none⟩ = false := (kf 2).trans (by simp [go_sem, *])
  have c2_1_3 : v2.cell? ⟨w.heap.size + 1, 3, none⟩ = some (.int .i64 0) := (kc 3).trans (by simp [go_sem, *])
  have f2_1_3 : v2.frozen? ⟨w.heap.size + 1, 3, none⟩ = false := (kf 3).trans (by simp [go_sem, *])
  have c2_1_4 : v2.cell? ⟨w.heap.size + 1, 4, none⟩ = some (.slice none 0 0) := (kc 4).trans (by simp [go_sem, *])
  have f2_1_4 : v2.frozen? ⟨w.heap.size + 1, 4, none⟩ = false := (kf 4).trans (by simp [go_sem, *])
  have c2_1_5 : v2.cell? ⟨w.heap.size + 1, 5, none⟩ = some (.slice none 0 0) := (kc 5).trans (by simp [go_sem, *])
  have f2_1_5 : v2.frozen? ⟨w.heap.size + 1, 5, none⟩ = false := (kf 5).trans (by simp [go_sem, *])
  have c2_1_6 : v2.cell? ⟨w.heap.size + 1, 6, none⟩ = some (.slice none 0 0) := (kc 6).trans (by simp [go_sem, *])
  have f2_1_6 : v2.frozen? ⟨w.heap.size + 1, 6, none⟩ = false := (kf 6).trans (by simp [go_sem, *])
  have c2_1_7 : v2.cell? ⟨w.heap.size + 1, 7, none⟩ = some (.slice none 0 0) := (kc 7).trans (by simp [go_sem, *])
  have f2_1_7 : v2.frozen? ⟨w.heap.size + 1, 7, none⟩ = false := (kf 7).trans (by simp [go_sem, *])
  have c2_1_8 : v2.cell? ⟨w.heap.size + 1, 8, none⟩ = some (.int .i64 0) := (kc 8).trans (by simp [go_sem, *])
  have f2_1_8 : v2.frozen? ⟨w.heap.size + 1, 8, none⟩ = false := (kf 8).trans (by simp [go_sem, *])
  clear kc kf
  obtain ⟨k2_2, kc, kf⟩ := keepB h2 (w.heap.size + 1 + 1) (by first | omega | (simp; omega) | (simp; done))
  have c2_2_0 : v2.cell? ⟨w.heap.size + 1 + 1, 0, none⟩ = some (.string ⟨#[]⟩) := (kc 0).trans (by simp [go_sem, *])
  have f2_2_0 : v2.frozen? ⟨w.heap.size + 1 + 1, 0, none⟩ = false := (kf 0).trans (by simp [go_sem, *])
  have c2_2_1 : v2.cell? ⟨w.heap.size + 1 + 1, 1, none⟩ = some (.string ⟨#[]⟩) := (kc 1).trans (by simp [go_sem, *])
  have f2_2_1 : v2.frozen? ⟨w.heap.size + 1 + 1, 1, none⟩ = false := (kf 1).trans (by simp [go_sem, *])
  have c2_2_2 : v2.cell? ⟨w.heap.size + 1 + 1, 2, none⟩ = some (.slice none 0 0) := (kc 2).trans (by simp [go_sem, *])
  have f2_2_2 : v2.frozen? ⟨w.heap.size + 1 + 1, 2, none⟩ = false := (kf 2).trans (by simp [go_sem, *])
  have c2_2_3 : v2.cell? ⟨w.heap.size + 1 + 1, 3, none⟩ = some (.int .i64 0) := (kc 3).trans (by simp [go_sem, *])
  have f2_2_3 : v2.frozen? ⟨w.heap.size + 1 + 1, 3, none⟩ = false := (kf 3).trans (by simp [go_sem, *])
  clear kc kf
  obtain ⟨k2_3, kc, kf⟩ := keepB h2 (v1.heap.size) (by first | omega | (simp; omega) | (simp; done))
  have c2_3_0 : v2.cell? ⟨v1.heap.size, 0, none⟩ = some (.string m'.src) := (kc 0).trans (by simp [go_sem, *])
  have f2_3_0 : v2.frozen? ⟨v1.heap.size, 0, none⟩ = false := (kf 0).trans (by simp [go_sem, *])
  have c2_3_1 : v2.cell? ⟨v1.heap.size, 1, none⟩ = some (.string m'.msg) := (kc 1).trans (by simp [go_sem, *])
  have f2_3_1 : v2.frozen? ⟨v1.heap.size, 1, none⟩ = false := (kf 1).trans (by simp [go_sem, *])
  have c2_3_2 : v2.cell? ⟨v1.heap.size, 2, none⟩ = some (.slice m'.args.a m'.args.n m'.args.c) := (kc 2).trans (by simp [go_sem, *])
  have f2_3_2 : v2.frozen? ⟨v1.heap.size, 2, none⟩ = false := (kf 2).trans (by simp [go_sem, *])
  have c2_3_3 : v2.cell? ⟨v1.heap.size, 3, none⟩ = some (.int .i64 m'.sent) := (kc 3).trans (by simp [go_sem, *])
  have f2_3_3 : v2.frozen? ⟨v1.heap.size, 3, none⟩ = false := (kf 3).trans (by simp [go_sem, *])
  clear kc kf
  clear c1_0_0 f1_0_0 c1_0_1 f1_0_1 c1_0_2 f1_0_2 c1_0_3 f1_0_3 c1_0_4 f1_0_4 c1_0_5 f1_0_5 c1_0_6 f1_0_6 c1_0_7 f1_0_7 c1_0_8 f1_0_8 c1_1_0 f1_1_0 c1_1_1 f1_1_1 c1_1_2 f1_1_2 c1_1_3 f1_1_3 c1_1_4 f1_1_4 c1_1_5 f1_1_5 c1_1_6 f1_1_6 c1_1_7 f1_1_7 c1_1_8 f1_1_8 c1_2_0 f1_2_0 c1_2_1 f1_2_1 c1_2_2 f1_2_2 c1_2_3 f1_2_3
  obtain ⟨g, a2, hA, hg1, hg2, hak, hc, hfz⟩ := own_at ho (fun _ => rfl) (by omega) hil
  have ea : a2 = a' := by rw [List.getElem?_map, HQI.out] at hak; simpa using hak.symm
  subst ea
  have c8 : v2.cell? ⟨g, i * 9 + 8, none⟩ = some (.slice a2.mail.a a2.mail.n a2.mail.c) := hc 8 _ rfl
  have f8 : v2.frozen? ⟨g, i * 9 + 8, none⟩ = false := hfz _
  have hix : ∀ W : World, Sem.run Try.prog (Instr.indexAt 23 (.slice u.a s.actors.n u.c) (.int .i64 (i : Int))) W = .ok (.pointer (some ⟨g, i * 9, none⟩)) W := by intro W; rw [hA]; go_simp
  have HA := Lib.hid hA
  have HO := Lib.hid ho
  simp at hg1
  clear hA ho hak hc hfz
  go_wp2_with fail
  have m1 : ¬ g = w.heap.size := by omega
  have m2 : ¬ g = w.heap.size + 1 := by omega
  have m3 : ¬ g = w.heap.size + 1 + 1 := by omega
  have m4 : ¬ g = v1.heap.size := by omega
  refine wp_region_held_drew (S := (fun w' => w'.cell? ⟨w.heap.size, 4, none⟩ = some (.slice u.a s.actors.n u.c))) (by kernel_rfl) ?_ (fun hHeld => ?_)
  · simp [go_sem, *]
  refine wpAnyH_take (i := 0) (v := ?_) rfl (by kernel_rfl) (by kernel_rfl) (by kernel_rfl) (fun _ _ _ h => h) (Or.inl ⟨by rfl, ?_⟩) (by assumption) ?_
  rotate_left
  · intro w hSw; (try dsimp only at hSw); go_simp; (first | done | (with_reducible rfl))
  try simp only [Act.put, List.getElem_toArray, List.getElem_cons_succ, List.getElem_cons_zero, List.setIfInBounds_toArray, List.set_cons_zero, List.set_cons_succ]
  refine wpAnyH_take (i := 1) (v := ?_) rfl (by kernel_rfl) (by kernel_rfl) (by kernel_rfl) (fun _ _ _ h => h) (Or.inl ⟨by rfl, ?_⟩) (by assumption) ?_
  rotate_left
  · intro w hSw; (try dsimp only at hSw); go_simp; (first | done | (with_reducible rfl))
  try simp only [Act.put, List.getElem_toArray, List.getElem_cons_succ, List.getElem_cons_zero, List.setIfInBounds_toArray, List.set_cons_zero, List.set_cons_succ]
  refine wpAnyH_take (i := 2) (v := ?_) rfl (by kernel_rfl) (by kernel_rfl) (by kernel_rfl) (fun _ _ _ h => h) (Or.inl ⟨by rfl, ?_⟩) (by assumption) ?_
  rotate_left
  · intro w hSw; (try dsimp only at hSw); go_simp; (first | done | (with_reducible rfl))
  try simp only [Act.put, List.getElem_toArray, List.getElem_cons_succ, List.getElem_cons_zero, List.setIfInBounds_toArray, List.set_cons_zero, List.set_cons_succ]
  refine wpAnyH_take (i := 3) (v := ?_) rfl (by kernel_rfl) (by kernel_rfl) (by kernel_rfl) (fun _ _ _ h => h) (Or.inl ⟨by rfl, ?_⟩) (by assumption) ?_
  rotate_left
  · intro w hSw; (try dsimp only at hSw); go_simp; (first | done | (with_reducible rfl))
  try simp only [Act.put, List.getElem_toArray, List.getElem_cons_succ, List.getElem_cons_zero, List.setIfInBounds_toArray, List.set_cons_zero, List.set_cons_succ]
  refine wpAnyH_take (i := 4) (v := ?_) rfl (by kernel_rfl) (by kernel_rfl) (by kernel_rfl) (fun _ _ _ h => h) (Or.inl ⟨by rfl, ?_⟩) (by assumption) ?_
  rotate_left
  · intro w hSw; (try dsimp only at hSw); go_simp; (first | done | (with_reducible rfl))
  try simp only [Act.put, List.getElem_toArray, List.getElem_cons_succ, List.getElem_cons_zero, List.setIfInBounds_toArray, List.set_cons_zero, List.set_cons_succ]
  refine wpAnyH_take (i := 5) (v := ?_) rfl (by kernel_rfl) (by kernel_rfl) (by kernel_rfl) (fun _ _ _ h => h) (Or.inl ⟨by rfl, ?_⟩) (by assumption) ?_
  rotate_left
  · intro w hSw; (try dsimp only at hSw); go_simp; (first | done | (with_reducible rfl))
  try simp only [Act.put, List.getElem_toArray, List.getElem_cons_succ, List.getElem_cons_zero, List.setIfInBounds_toArray, List.set_cons_zero, List.set_cons_succ]
  refine wpAnyH_take (i := 6) (v := ?_) rfl (by kernel_rfl) (by kernel_rfl) (by kernel_rfl) (fun _ _ _ h => h) (Or.inl ⟨by rfl, ?_⟩) (by assumption) ?_
  rotate_left
  · intro w hSw; (try dsimp only at hSw); go_simp; (first | done | (with_reducible rfl))
  try simp only [Act.put, List.getElem_toArray, List.getElem_cons_succ, List.getElem_cons_zero, List.setIfInBounds_toArray, List.set_cons_zero, List.set_cons_succ]
  refine wpAnyH_take (i := 7) (v := ?_) rfl (by kernel_rfl) (by kernel_rfl) (by kernel_rfl) (fun _ _ _ h => h) (Or.inl ⟨by rfl, ?_⟩) (by assumption) ?_
  rotate_left
  · intro w hSw; (try dsimp only at hSw); go_simp; (first | done | (with_reducible rfl))
  try simp only [Act.put, List.getElem_toArray, List.getElem_cons_succ, List.getElem_cons_zero, List.setIfInBounds_toArray, List.set_cons_zero, List.set_cons_succ]
  refine wpAnyH_ready (rs := [8]) (by kernel_rfl) (by simp) ?_
  refine AllReadyH.cons rfl (fun K hK => ?_) AllReadyH.nil
  go_simp
  refine hK.out _ _ ?_ (fun hHeld => ?_)
  · simp [go_sem, *]
  clear hK K
  try simp only [Act.put, List.getElem_toArray, List.getElem_cons_succ, List.getElem_cons_zero, List.setIfInBounds_toArray, List.set_cons_zero, List.set_cons_succ]
  refine wpAnyH_take (i := 9) (v := ?_) rfl (by kernel_rfl) (by kernel_rfl) (by kernel_rfl) (fun _ _ _ h => h) (Or.inl ⟨by rfl, ?_⟩) (by assumption) ?_
  rotate_left
  · intro w hSw; (try dsimp only at hSw); go_simp; (first | done | (with_reducible rfl))
  try simp only [Act.put, List.getElem_toArray, List.getElem_cons_succ, List.getElem_cons_zero, List.setIfInBounds_toArray, List.set_cons_zero, List.set_cons_succ]
  refine wpAnyH_take (i := 10) (v := ?_) rfl (by kernel_rfl) (by kernel_rfl) (by kernel_rfl) (fun _ _ _ h => h) (Or.inl ⟨by rfl, ?_⟩) (by assumption) ?_
  rotate_left
  · intro w hSw; (try dsimp only at hSw); go_simp; (first | done | (with_reducible rfl))
  try simp only [Act.put, List.getElem_toArray, List.getElem_cons_succ, List.getElem_cons_zero, List.setIfInBounds_toArray, List.set_cons_zero, List.set_cons_succ]
  refine wpAnyH_take (i := 11) (v := ?_) rfl (by kernel_rfl) (by kernel_rfl) (by kernel_rfl) (fun _ _ _ h => h) (Or.inl ⟨by rfl, ?_⟩) (by assumption) ?_
  rotate_left
  · intro w hSw; (try dsimp only at hSw); go_simp; (first | done | (with_reducible rfl))
  try simp only [Act.put, List.getElem_toArray, List.getElem_cons_succ, List.getElem_cons_zero, List.setIfInBounds_toArray, List.set_cons_zero, List.set_cons_succ]
  refine wpAnyH_ready (rs := [12]) (by kernel_rfl) (by simp) ?_
  refine AllReadyH.cons rfl (fun K hK => ?_) AllReadyH.nil
  go_simp
  refine hK.out _ _ ?_ (fun hHeld => ?_)
  · simp [go_sem, *]
  clear hK K
  try simp only [Act.put, List.getElem_toArray, List.getElem_cons_succ, List.getElem_cons_zero, List.setIfInBounds_toArray, List.set_cons_zero, List.set_cons_succ]
  refine wpAnyH_done (by kernel_rfl) ?_ _
  go_wp2_with fail
  have HBX := Lib.hid (show Below w.heap.size w (((v2.setCell ⟨w.heap.size, 4, none⟩ (.slice u.a s.actors.n u.c)).setCell ⟨g, i * 9 + 8, none⟩ (.slice A' (a2.mail.n - 1) (a2.mail.c - 1))).drew) from (by repeat (first | (with_reducible exact Below.refl _ _) | (with_reducible assumption) | ((with_reducible refine Below.setCell ?_ ?_ _); rotate_left; (focus (first | omega | (simp; omega) | (simp; done)))) | ((with_reducible refine Below.alloc ?_ ?_ _); rotate_left; (focus (first | omega | (simp; omega) | (simp; done)))) | (with_reducible refine Below.drew ?_))))
  have HO3 := Lib.hid (own_set_other HO.out ⟨w.heap.size, 4, none⟩ (.slice u.a s.actors.n u.c) (by rw [HA.out]; simp [Value.ownBlock]; omega))
  have g0_0 : (((v2.setCell ⟨w.heap.size, 4, none⟩ (.slice u.a s.actors.n u.c)).setCell ⟨g, i * 9 + 8, none⟩ (.slice A' (a2.mail.n - 1) (a2.mail.c - 1))).drew).cell? ⟨w.heap.size, 0, none⟩ = some (.slice s.up.a s.up.n s.up.c) := by simp [go_sem, *]
  have g0_1 : (((v2.setCell ⟨w.heap.size, 4, none⟩ (.slice u.a s.actors.n u.c)).setCell ⟨g, i * 9 + 8, none⟩ (.slice A' (a2.mail.n - 1) (a2.mail.c - 1))).drew).cell? ⟨w.heap.size, 1, none⟩ = some (.int .i64 s.moment) := by simp [go_sem, *]
  have g0_2 : (((v2.setCell ⟨w.heap.size, 4, none⟩ (.slice u.a s.actors.n u.c)).setCell ⟨g, i * 9 + 8, none⟩ (.slice A' (a2.mail.n - 1) (a2.mail.c - 1))).drew).cell? ⟨w.heap.size, 2, none⟩ = some (.int .i64 s.clock) := by simp [go_sem, *]
  have g0_3 : (((v2.setCell ⟨w.heap.size, 4, none⟩ (.slice u.a s.actors.n u.c)).setCell ⟨g, i * 9 + 8, none⟩ (.slice A' (a2.mail.n - 1) (a2.mail.c - 1))).drew).cell? ⟨w.heap.size, 3, none⟩ = some (.int .i64 s.seq) := by simp [go_sem, *]
  have g0_4 : (((v2.setCell ⟨w.heap.size, 4, none⟩ (.slice u.a s.actors.n u.c)).setCell ⟨g, i * 9 + 8, none⟩ (.slice A' (a2.mail.n - 1) (a2.mail.c - 1))).drew).cell? ⟨w.heap.size, 4, none⟩ = some (.slice u.a s.actors.n u.c) := by simp [go_sem, *]
  have g0_5 : (((v2.setCell ⟨w.heap.size, 4, none⟩ (.slice u.a s.actors.n u.c)).setCell ⟨g, i * 9 + 8, none⟩ (.slice A' (a2.mail.n - 1) (a2.mail.c - 1))).drew).cell? ⟨w.heap.size, 5, none⟩ = some (.slice s.flights.a s.flights.n s.flights.c) := by simp [go_sem, *]
  have g0_6 : (((v2.setCell ⟨w.heap.size, 4, none⟩ (.slice u.a s.actors.n u.c)).setCell ⟨g, i * 9 + 8, none⟩ (.slice A' (a2.mail.n - 1) (a2.mail.c - 1))).drew).cell? ⟨w.heap.size, 6, none⟩ = some (.slice s.alarms.a s.alarms.n s.alarms.c) := by simp [go_sem, *]
  have g0_7 : (((v2.setCell ⟨w.heap.size, 4, none⟩ (.slice u.a s.actors.n u.c)).setCell ⟨g, i * 9 + 8, none⟩ (.slice A' (a2.mail.n - 1) (a2.mail.c - 1))).drew).cell? ⟨w.heap.size, 7, none⟩ = some (.slice s.asked.a s.asked.n s.asked.c) := by simp [go_sem, *]
  have g0_8 : (((v2.setCell ⟨w.heap.size, 4, none⟩ (.slice u.a s.actors.n u.c)).setCell ⟨g, i * 9 + 8, none⟩ (.slice A' (a2.mail.n - 1) (a2.mail.c - 1))).drew).cell? ⟨w.heap.size, 8, none⟩ = some (.int .i64 s.dead) := by simp [go_sem, *]
  have g1_0 : (((v2.setCell ⟨w.heap.size, 4, none⟩ (.slice u.a s.actors.n u.c)).setCell ⟨g, i * 9 + 8, none⟩ (.slice A' (a2.mail.n - 1) (a2.mail.c - 1))).drew).cell? ⟨w.heap.size + 1, 0, none⟩ = some (.slice none 0 0) := by simp [go_sem, *]
  have e1_0 : (((v2.setCell ⟨w.heap.size, 4, none⟩ (.slice u.a s.actors.n u.c)).setCell ⟨g, i * 9 + 8, none⟩ (.slice A' (a2.mail.n - 1) (a2.mail.c - 1))).drew).frozen? ⟨w.heap.size + 1, 0, none⟩ = false := by simp [go_sem, *]
  have g1_1 : (((v2.setCell ⟨w.heap.size, 4, none⟩ (.slice u.a s.actors.n u.c)).setCell ⟨g, i * 9 + 8, none⟩ (.slice A' (a2.mail.n - 1) (a2.mail.c - 1))).drew).cell? ⟨w.heap.size + 1, 1, none⟩ = some (.int .i64 0) := by simp [go_sem, *]
  have e1_1 : (((v2.setCell ⟨w.heap.size, 4, none⟩ (.slice u.a s.actors.n u.c)).setCell ⟨g, i * 9 + 8, none⟩ (.slice A' (a2.mail.n - 1) (a2.mail.c - 1))).drew).frozen? ⟨w.heap.size + 1, 1, none⟩ = false := by simp [go_sem, *]
  have g1_2 : (((v2.setCell ⟨w.heap.size, 4, none⟩ (.slice u.a s.actors.n u.c)).setCell ⟨g, i * 9 + 8, none⟩ (.slice A' (a2.mail.n - 1) (a2.mail.c - 1))).drew).cell? ⟨w.heap.size + 1, 2, none⟩ = some (.int .i64 0) := by simp [go_sem, *]
  have e1_2 : (((v2.setCell ⟨w.heap.size, 4, none⟩ (.slice u.a s.actors.n u.c)).setCell ⟨g, i * 9 + 8, none⟩ (.slice A' (a2.mail.n - 1) (a2.mail.c - 1))).drew).frozen? ⟨w.heap.size + 1, 2, none⟩ = false := by simp [go_sem, *]
  have g1_3 : (((v2.setCell ⟨w.heap.size, 4, none⟩ (.slice u.a s.actors.n u.c)).setCell ⟨g, i * 9 + 8, none⟩ (.slice A' (a2.mail.n - 1) (a2.mail.c - 1))).drew).cell? ⟨w.heap.size + 1, 3, none⟩ = some (.int .i64 0) := by simp [go_sem, *]
  have e1_3 : (((v2.setCell ⟨w.heap.size, 4, none⟩ (.slice u.a s.actors.n u.c)).setCell ⟨g, i * 9 + 8, none⟩ (.slice A' (a2.mail.n - 1) (a2.mail.c - 1))).drew).frozen? ⟨w.heap.size + 1, 3, none⟩ = false := by simp [go_sem, *]
  have g1_4 : (((v2.setCell ⟨w.heap.size, 4, none⟩ (.slice u.a s.actors.n u.c)).setCell ⟨g, i * 9 + 8, none⟩ (.slice A' (a2.mail.n - 1) (a2.mail.c - 1))).drew).cell? ⟨w.heap.size + 1, 4, none⟩ = some (.slice none 0 0) := by simp [go_sem, *]
  have e1_4 : (((v2.setCell ⟨w.heap.size, 4, none⟩ (.slice u.a s.actors.n u.c)).setCell ⟨g, i * 9 + 8, none⟩ (.slice A' (a2.mail.n - 1) (a2.mail.c - 1))).drew).frozen? ⟨w.heap.size + 1, 4, none⟩ = false := by simp [go_sem, *]
  have g1_5 : (((v2.setCell ⟨w.heap.size, 4, none⟩ (.slice u.a s.actors.n u.c)).setCell ⟨g, i * 9 + 8, none⟩ (.slice A' (a2.mail.n - 1) (a2.mail.c - 1))).drew).cell? ⟨w.heap.size + 1, 5, none⟩ = some (.slice none 0 0) := by simp [go_sem, *]
  have e1_5 : (((v2.setCell ⟨w.heap.size, 4, none⟩ (.slice u.a s.actors.n u.c)).setCell ⟨g, i * 9 + 8, none⟩ (.slice A' (a2.mail.n - 1) (a2.mail.c - 1))).drew).frozen? ⟨w.heap.size + 1, 5, none⟩ = false := by simp [go_sem, *]
  have g1_6 : (((v2.setCell ⟨w.heap.size, 4, none⟩ (.slice u.a s.actors.n u.c)).setCell ⟨g, i * 9 + 8, none⟩ (.slice A' (a2.mail.n - 1) (a2.mail.c - 1))).drew).cell? ⟨w.heap.size + 1, 6, none⟩ = some (.slice none 0 0) := by simp [go_sem, *]
  have e1_6 : (((v2.setCell ⟨w.heap.size, 4, none⟩ (.slice u.a s.actors.n u.c)).setCell ⟨g, i * 9 + 8, none⟩ (.slice A' (a2.mail.n - 1) (a2.mail.c - 1))).drew).frozen? ⟨w.heap.size + 1, 6, none⟩ = false := by simp [go_sem, *]
  have g1_7 : (((v2.setCell ⟨w.heap.size, 4, none⟩ (.slice u.a s.actors.n u.c)).setCell ⟨g, i * 9 + 8, none⟩ (.slice A' (a2.mail.n - 1) (a2.mail.c - 1))).drew).cell? ⟨w.heap.size + 1, 7, none⟩ = some (.slice none 0 0) := by simp [go_sem, *]
  have e1_7 : (((v2.setCell ⟨w.heap.size, 4, none⟩ (.slice u.a s.actors.n u.c)).setCell ⟨g, i * 9 + 8, none⟩ (.slice A' (a2.mail.n - 1) (a2.mail.c - 1))).drew).frozen? ⟨w.heap.size + 1, 7, none⟩ = false := by simp [go_sem, *]
  have g1_8 : (((v2.setCell ⟨w.heap.size, 4, none⟩ (.slice u.a s.actors.n u.c)).setCell ⟨g, i * 9 + 8, none⟩ (.slice A' (a2.mail.n - 1) (a2.mail.c - 1))).drew).cell? ⟨w.heap.size + 1, 8, none⟩ = some (.int .i64 0) := by simp [go_sem, *]
  have e1_8 : (((v2.setCell ⟨w.heap.size, 4, none⟩ (.slice u.a s.actors.n u.c)).setCell ⟨g, i * 9 + 8, none⟩ (.slice A' (a2.mail.n - 1) (a2.mail.c - 1))).drew).frozen? ⟨w.heap.size + 1, 8, none⟩ = false := by simp [go_sem, *]
  have g2_0 : (((v2.setCell ⟨w.heap.size, 4, none⟩ (.slice u.a s.actors.n u.c)).setCell ⟨g, i * 9 + 8, none⟩ (.slice A' (a2.mail.n - 1) (a2.mail.c - 1))).drew).cell? ⟨w.heap.size + 1 + 1, 0, none⟩ = some (.string ⟨#[]⟩) := by simp [go_sem, *]
  have e2_0 : (((v2.setCell ⟨w.heap.size, 4, none⟩ (.slice u.a s.actors.n u.c)).setCell ⟨g, i * 9 + 8, none⟩ (.slice A' (a2.mail.n - 1) (a2.mail.c - 1))).drew).frozen? ⟨w.heap.size + 1 + 1, 0, none⟩ = false := by simp [go_sem, *]
  have g2_1 : (((v2.setCell ⟨w.heap.size, 4, none⟩ (.slice u.a s.actors.n u.c)).setCell ⟨g, i * 9 + 8, none⟩ (.slice A' (a2.mail.n - 1) (a2.mail.c - 1))).drew).cell? ⟨w.heap.size + 1 + 1, 1, none⟩ = some (.string ⟨#[]⟩) := by simp [go_sem, *]
  have e2_1 : (((v2.setCell ⟨w.heap.size, 4, none⟩ (.slice u.a s.actors.n u.c)).setCell ⟨g, i * 9 + 8, none⟩ (.slice A' (a2.mail.n - 1) (a2.mail.c - 1))).drew).frozen? ⟨w.heap.size + 1 + 1, 1, none⟩ = false := by simp [go_sem, *]
  have g2_2 : (((v2.setCell ⟨w.heap.size, 4, none⟩ (.slice u.a s.actors.n u.c)).setCell ⟨g, i * 9 + 8, none⟩ (.slice A' (a2.mail.n - 1) (a2.mail.c - 1))).drew).cell? ⟨w.heap.size + 1 + 1, 2, none⟩ = some (.slice none 0 0) := by simp [go_sem, *]
  have e2_2 : (((v2.setCell ⟨w.heap.size, 4, none⟩ (.slice u.a s.actors.n u.c)).setCell ⟨g, i * 9 + 8, none⟩ (.slice A' (a2.mail.n - 1) (a2.mail.c - 1))).drew).frozen? ⟨w.heap.size + 1 + 1, 2, none⟩ = false := by simp [go_sem, *]
  have g2_3 : (((v2.setCell ⟨w.heap.size, 4, none⟩ (.slice u.a s.actors.n u.c)).setCell ⟨g, i * 9 + 8, none⟩ (.slice A' (a2.mail.n - 1) (a2.mail.c - 1))).drew).cell? ⟨w.heap.size + 1 + 1, 3, none⟩ = some (.int .i64 0) := by simp [go_sem, *]
  have e2_3 : (((v2.setCell ⟨w.heap.size, 4, none⟩ (.slice u.a s.actors.n u.c)).setCell ⟨g, i * 9 + 8, none⟩ (.slice A' (a2.mail.n - 1) (a2.mail.c - 1))).drew).frozen? ⟨w.heap.size + 1 + 1, 3, none⟩ = false := by simp [go_sem, *]
  have g3_0 : (((v2.setCell ⟨w.heap.size, 4, none⟩ (.slice u.a s.actors.n u.c)).setCell ⟨g, i * 9 + 8, none⟩ (.slice A' (a2.mail.n - 1) (a2.mail.c - 1))).drew).cell? ⟨v1.heap.size, 0, none⟩ = some (.string m'.src) := by simp [go_sem, *]
  have g3_1 : (((v2.setCell ⟨w.heap.size, 4, none⟩ (.slice u.a s.actors.n u.c)).setCell ⟨g, i * 9 + 8, none⟩ (.slice A' (a2.mail.n - 1) (a2.mail.c - 1))).drew).cell? ⟨v1.heap.size, 1, none⟩ = some (.string m'.msg) := by simp [go_sem, *]
  have g3_2 : (((v2.setCell ⟨w.heap.size, 4, none⟩ (.slice u.a s.actors.n u.c)).setCell ⟨g, i * 9 + 8, none⟩ (.slice A' (a2.mail.n - 1) (a2.mail.c - 1))).drew).cell? ⟨v1.heap.size, 2, none⟩ = some (.slice m'.args.a m'.args.n m'.args.c) := by simp [go_sem, *]
  have g3_3 : (((v2.setCell ⟨w.heap.size, 4, none⟩ (.slice u.a s.actors.n u.c)).setCell ⟨g, i * 9 + 8, none⟩ (.slice A' (a2.mail.n - 1) (a2.mail.c - 1))).drew).cell? ⟨v1.heap.size, 3, none⟩ = some (.int .i64 m'.sent) := by simp [go_sem, *]
  have HOF : Hid (Off2 (w.heap.size + 1) (w.heap.size + 1 + 1) ((v2.setCell ⟨w.heap.size, 4, none⟩ (.slice u.a s.actors.n u.c)).setCell ⟨g, i * 9 + 8, none⟩ (.slice A' (a2.mail.n - 1) (a2.mail.c - 1))) (((v2.setCell ⟨w.heap.size, 4, none⟩ (.slice u.a s.actors.n u.c)).setCell ⟨g, i * 9 + 8, none⟩ (.slice A' (a2.mail.n - 1) (a2.mail.c - 1))).drew)) := Lib.hid (Off2.refl _ _ _)
  have KEY := Lib.hid (fun (Wf : World) (hb : Below w.heap.size w Wf) (hoff : Off2 (w.heap.size + 1) (w.heap.size + 1 + 1) ((v2.setCell ⟨w.heap.size, 4, none⟩ (.slice u.a s.actors.n u.c)).setCell ⟨g, i * 9 + 8, none⟩ (.slice A' (a2.mail.n - 1) (a2.mail.c - 1))) Wf) => take_key (Wf := Wf) (R := w.heap.size + 1) H.out HQ2.out HQ3.out HQI.out hmr (show Below w.heap.size w (v2.setCell ⟨w.heap.size, 4, none⟩ (.slice u.a s.actors.n u.c)) from (by repeat (first | (with_reducible exact Below.refl _ _) | (with_reducible assumption) | ((with_reducible refine Below.setCell ?_ ?_ _); rotate_left; (focus (first | omega | (simp; omega) | (simp; done)))) | ((with_reducible refine Below.alloc ?_ ?_ _); rotate_left; (focus (first | omega | (simp; omega) | (simp; done)))) | (with_reducible refine Below.drew ?_)))) HA.out HO3.out HML.out HRD.out HBK.out hcap (by omega) hb hoff HBL.out h0)
  have hzz : (((v2.setCell ⟨w.heap.size, 4, none⟩ (.slice u.a s.actors.n u.c)).setCell ⟨g, i * 9 + 8, none⟩ (.slice A' (a2.mail.n - 1) (a2.mail.c - 1))).drew).heap.size = v2.heap.size := by simp
  clear c8 f8 hix c2_0_0 f2_0_0 c2_0_1 f2_0_1 c2_0_2 f2_0_2 c2_0_3 f2_0_3 c2_0_4 f2_0_4 c2_0_5 f2_0_5 c2_0_6 f2_0_6 c2_0_7 f2_0_7 c2_0_8 f2_0_8 c2_1_0 f2_1_0 c2_1_1 f2_1_1 c2_1_2 f2_1_2 c2_1_3 f2_1_3 c2_1_4 f2_1_4 c2_1_5 f2_1_5 c2_1_6 f2_1_6 c2_1_7 f2_1_7 c2_1_8 f2_1_8 c2_2_0 f2_2_0 c2_2_1 f2_2_1 c2_2_2 f2_2_2 c2_2_3 f2_2_3 c2_3_0 f2_3_0 c2_3_1 f2_3_1 c2_3_2 f2_3_2 c2_3_3 f2_3_3
  generalize ((v2.setCell ⟨w.heap.size, 4, none⟩ (.slice u.a s.actors.n u.c)).setCell ⟨g, i * 9 + 8, none⟩ (.slice A' (a2.mail.n - 1) (a2.mail.c - 1))).drew = v3 at *
  go_region_held3 (fun w' => w'.cell? ⟨w.heap.size, 0, none⟩ = some (.slice s.up.a s.up.n s.up.c) ∧ w'.cell? ⟨w.heap.size, 1, none⟩ = some (.int .i64 s.moment) ∧ w'.cell? ⟨w.heap.size, 2, none⟩ = some (.int .i64 s.clock) ∧ w'.cell? ⟨w.heap.size, 3, none⟩ = some (.int .i64 s.seq) ∧ w'.cell? ⟨w.heap.size, 4, none⟩ = some (.slice u.a s.actors.n u.c) ∧ w'.cell? ⟨w.heap.size, 5, none⟩ = some (.slice s.flights.a s.flights.n s.flights.c) ∧ w'.cell? ⟨w.heap.size, 6, none⟩ = some (.slice s.alarms.a s.alarms.n s.alarms.c) ∧ w'.cell? ⟨w.heap.size, 7, none⟩ = some (.slice s.asked.a s.asked.n s.asked.c) ∧ w'.cell? ⟨w.heap.size, 8, none⟩ = some (.int .i64 s.dead) ∧ w'.cell? ⟨v1.heap.size, 0, none⟩ = some (.string m'.src) ∧ w'.cell? ⟨v1.heap.size, 1, none⟩ = some (.string m'.msg) ∧ w'.cell? ⟨v1.heap.size, 2, none⟩ = some (.slice m'.args.a m'.args.n m'.args.c) ∧ w'.cell? ⟨v1.heap.size, 3, none⟩ = some (.int .i64 m'.sent)) (simp [go_sem, *]) (fail)
  go_wp2_with fail
  have hBX := HBX.out
  refine bodyPost_ret (v := .tuple #[sysV { s with actors := ⟨u.a, s.actors.n, u.c⟩ }, letV m', .bool true]) (by simp [results, Try.results37, go_sem, *]) rfl (sysLet HP.out (KEY.out _ (by repeat (first | (with_reducible exact Below.refl _ _) | (with_reducible assumption) | ((with_reducible refine Below.setCell ?_ ?_ _); rotate_left; (focus (first | omega | (simp; omega) | (simp; done)))) | ((with_reducible refine Below.alloc ?_ ?_ _); rotate_left; (focus (first | omega | (simp; omega) | (simp; done)))) | (with_reducible refine Below.drew ?_))) (by repeat (first | (with_reducible exact HOF.out) | (with_reducible refine Off2.set1 ?_ _ _) | (with_reducible refine Off2.set2 ?_ _ _) | (with_reducible refine Off2.drew ?_)))) (by repeat (first | (with_reducible exact Below.refl _ _) | (with_reducible assumption) | ((with_reducible refine Below.setCell ?_ ?_ _); rotate_left; (focus (first | omega | (simp; omega) | (simp; done)))) | ((with_reducible refine Below.alloc ?_ ?_ _); rotate_left; (focus (first | omega | (simp; omega) | (simp; done)))) | (with_reducible refine Below.drew ?_))))

theorem take_any {P : Nat → Prop} (s : SysC) (σ : PS) (p : ByteArray) (w : World) (h : SysR P w s σ) (hna : s.actors.n ≤ 1000000) :
    Calls Try.prog 37 #[sysV s, .string p] w (SysLet P (Ml.take σ p) w) := by
  cases hr : Ml.find (σ.acts.map (·.path)) p with
  | none => exact take_none s σ p w h hna hr
  | some i =>
    obtain ⟨qs, hq1, hq2, hq3⟩ := h.ac
    have hi : i < qs.length := by
      have := (List.getElem?_eq_some_iff.1 (Ml.find_spec hr).1).1
      rw [← hq3] at this
      simpa using this
    obtain ⟨q, hqi⟩ : ∃ q, qs[i]? = some q := ⟨_, List.getElem?_eq_getElem hi⟩
    obtain ⟨a, ms⟩ := q
    have hms : ms.length = a.mail.n := (hq2 _ (List.mem_of_getElem? hqi)).rd.len (fun _ => rfl) (by omega)
    cases hm : ((a.mail.n : Int) == 0) with
    | true => exact take_empty s σ p w h hna i hr a ms qs hq1 hq2 hq3 hqi hm
    | false =>
      cases ms with
      | nil => simp at hms hm; omega
      | cons m rs => exact take_some s σ p w h hna i hr a (m :: rs) qs hq1 hq2 hq3 hqi hm m rs rfl
end Go.Proofs.Ytjdjfjokniingaa
