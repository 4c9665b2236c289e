/- Elements of a state's rows, as a walk reads them. -/
import Derived.Test.YtjdjfjokniingaaRe
namespace Go.Proofs.Ytjdjfjokniingaa
open Go.RowKit

/-- nine cells that hold an actor -/
def Cells9 (w : World) (b o : Nat) (a : LiveC) : Prop := w.cell? ⟨b, o, none⟩ = some (.string a.path) ∧ w.cell? ⟨b, o + 1, none⟩ = some (.string a.type) ∧ w.cell? ⟨b, o + 2, none⟩ = some (.int .i64 a.node) ∧ w.cell? ⟨b, o + 3, none⟩ = some (.slice a.init.a a.init.n a.init.c) ∧ w.cell? ⟨b, o + 4, none⟩ = some (.slice a.vars.a a.vars.n a.vars.c) ∧ w.cell? ⟨b, o + 5, none⟩ = some (.int .i64 a.kids) ∧ w.cell? ⟨b, o + 6, none⟩ = some (.int .i64 a.rest) ∧ w.cell? ⟨b, o + 7, none⟩ = some (.bool a.stopped) ∧ w.cell? ⟨b, o + 8, none⟩ = some (.slice a.mail.a a.mail.n a.mail.c)
/-- seven cells that hold a flight -/
def Cells7 (w : World) (b o : Nat) (f : FlyC) : Prop := w.cell? ⟨b, o, none⟩ = some (.int .i64 f.x) ∧ w.cell? ⟨b, o + 1, none⟩ = some (.int .i64 f.y) ∧ w.cell? ⟨b, o + 2, none⟩ = some (.string f.path) ∧ w.cell? ⟨b, o + 3, none⟩ = some (.string f.l.src) ∧ w.cell? ⟨b, o + 4, none⟩ = some (.string f.l.msg) ∧ w.cell? ⟨b, o + 5, none⟩ = some (.slice f.l.args.a f.l.args.n f.l.args.c) ∧ w.cell? ⟨b, o + 6, none⟩ = some (.int .i64 f.l.sent)
theorem act_at {P : Nat → Prop} {w : World} {s : SysC} {σ : PS} (h : SysR P w s σ) {k : Nat} (hk : k < s.actors.n) (N : Nat) (hN : s.actors.n = N) :
    ∃ (b o : Nat) (q : LiveC × List LetC), (∀ W, Sem.run Try.prog (Instr.indexAt 23 (.slice s.actors.a N s.actors.c) (.int .i64 (k : Int))) W = .ok (.pointer (some ⟨b, o, none⟩)) W) ∧ b < w.heap.size ∧ Cells9 w b o q.1 ∧ MailAt P w q.1 q.2 ∧ σ.acts[k]? = some (plOf q) := by
  subst hN
  obtain ⟨qs, h1, h2, h3⟩ := h.ac
  obtain ⟨b, off, r, hA, hb, hr, hc⟩ := h1.at_ (fun _ => rfl) (by omega) (i := k) hk
  rw [List.getElem?_map] at hr
  cases hq : qs[k]? with
  | none => rw [hq] at hr; cases hr
  | some q =>
    rw [hq] at hr
    obtain rfl : q.1 = r := by simpa using hr
    refine ⟨b, off + k * 9, q, fun W => ?_, hb, ⟨hc 0 _ rfl, hc 1 _ rfl, hc 2 _ rfl, hc 3 _ rfl, hc 4 _ rfl, hc 5 _ rfl, hc 6 _ rfl, hc 7 _ rfl, hc 8 _ rfl⟩, h2 q (List.mem_of_getElem? hq), by rw [← h3, List.getElem?_map, hq]; rfl⟩
    rw [hA]
    go_simp
theorem fly_at' {w : World} {u : Sl} {fs : List FlyC} (h : Rd w w.heap.size 7 u.a u.n (fs.flatMap flyL)) {k : Nat} (hk : k < u.n) (N : Nat) (hN : u.n = N) :
    ∃ (b o : Nat) (f : FlyC), (∀ W, Sem.run Try.prog (Instr.indexAt 24 (.slice u.a N u.c) (.int .i64 (k : Int))) W = .ok (.pointer (some ⟨b, o, none⟩)) W) ∧ b < w.heap.size ∧ Cells7 w b o f ∧ fs[k]? = some f := by
  subst hN
  obtain ⟨b, off, r, hA, hb, hr, hc⟩ := h.at_ (fun _ => rfl) (by omega) (i := k) hk
  refine ⟨b, off + k * 7, r, fun W => ?_, hb, ⟨hc 0 _ rfl, hc 1 _ rfl, hc 2 _ rfl, hc 3 _ rfl, hc 4 _ rfl, hc 5 _ rfl, hc 6 _ rfl⟩, hr⟩
  rw [hA]
  go_simp
theorem filter_at {α : Type} (p : α → Bool) : ∀ (l : List α) (i : Nat) (f : α), l[i]? = some f → p f = true → (l.filter p)[((l.take i).filter p).length]? = some f
  | [], i, f, h, _ => by simp at h
  | x :: l, 0, f, h, hp => by
    simp at h
    subst h
    simp [hp]
  | x :: l, i + 1, f, h, hp => by
    have ih := filter_at p l i f (by simpa using h) hp
    rw [List.take_succ_cons]
    cases hx : p x with
    | true => simp only [List.filter_cons, hx, if_true, List.length_cons, List.getElem?_cons_succ]; exact ih
    | false => simp only [List.filter_cons, hx, Bool.false_eq_true, if_false]; exact ih
theorem filter_take {α : Type} (p : α → Bool) (l : List α) (i : Nat) (f : α) (h : l[i]? = some f) : ((l.take (i + 1)).filter p).length = ((l.take i).filter p).length + (if p f then 1 else 0) := by
  rw [take_snoc' l i f h, List.filter_append, List.length_append]
  cases hp : p f <;> simp [hp]
end Go.Proofs.Ytjdjfjokniingaa
