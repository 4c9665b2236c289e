/- law16.small: the state it begins with. -/
import Derived.Test.YtjdjfjokniingaaPf
import Derived.Test.YtjdjfjokniingaaMn
namespace Go.Proofs.Ytjdjfjokniingaa
open Go.RowKit
theorem rd_blk {W : World} {g k n : Nat} {t : TypeId} {fr : Nat × Nat} {cs : List Value} (h : W.heap[g]? = some (.cells cs.toArray t fr)) (hl : cs.length = n * k) : Rd W W.heap.size k (some ⟨g, 0, none⟩) n cs :=
  ⟨hl, fun _ => ⟨g, 0, rfl, (Array.getElem?_eq_some_iff.1 h).1, fun j u hu => by simp [World.cell?, h, hu]⟩⟩

namespace S16
def p0 : ByteArray := ⟨#[48]⟩
def p02 : ByteArray := ⟨#[48, 46, 50]⟩
def p010 : ByteArray := ⟨#[48, 46, 49, 48]⟩
def em : ByteArray := ⟨#[]⟩
def live (p : ByteArray) (node : Int) (st : Bool) : LiveC := ⟨p, em, node, ⟨none, 0, 0⟩, ⟨none, 0, 0⟩, 0, 0, st, ⟨none, 0, 0⟩⟩
def ls : List LiveC := [live p0 0 false, live p02 1 false, live p010 0 true]
def al (p q : ByteArray) : FlyC := ⟨0, 0, p, ⟨q, em, ⟨none, 0, 0⟩, 0⟩⟩
def als : List FlyC := [al p0 p02, al p02 p0]
def let0 : LetC := ⟨em, ⟨#[65]⟩, ⟨none, 0, 0⟩, 0⟩
def st (b : Nat) : SysC := ⟨⟨some ⟨b, 0, none⟩, 2, 2⟩, 0, 0, 0, ⟨some ⟨b + 1, 0, none⟩, 3, 3⟩, ⟨none, 0, 0⟩, ⟨some ⟨b + 1 + 1, 0, none⟩, 2, 2⟩, ⟨none, 0, 0⟩, 0⟩
def qs : List (LiveC × List LetC) := ls.map fun a => (a, [])
def σ0 : PS := ⟨[true, true], 0, 0, 0, qs.map plOf, [], als, [], 0⟩
end S16

theorem small_st (W : World) (b : Nat) (h0 : W.heap[b]? = some (.cells #[.bool true, .bool true] 4 (0, 0))) (h1 : W.heap[b + 1]? = some (.cells (S16.ls.flatMap liveL).toArray 76 (0, 0))) (h2 : W.heap[b + 1 + 1]? = some (.cells (S16.als.flatMap flyL).toArray 47 (0, 0))) :
    SysR (fun _ => True) W (S16.st b) S16.σ0 where
  up := rd_blk h0 rfl
  ac := by
    refine ⟨S16.qs, rd_blk h1 rfl, ?_, rfl⟩
    intro q hq
    simp only [S16.qs, S16.ls, List.map_cons, List.map_nil, List.mem_cons, List.not_mem_nil, or_false] at hq
    rcases hq with rfl | rfl | rfl <;> exact ⟨Rd.none_, Nat.le_refl _, fun _ _ _ => trivial⟩
  fl := Rd.none_
  al := rd_blk h2 rfl
  rq := Rd.none_
  cf := Nat.le_refl _
  cl := Nat.le_refl _
  mo := rfl
  ck := rfl
  sq := rfl
  dd := rfl
  lu := fun _ _ _ => trivial
  la := fun _ _ _ => trivial
  lf := fun _ _ _ => trivial
  ll := fun _ _ _ => trivial
  lr := fun _ _ _ => trivial

/-- a box that holds a state -/
def SBox (W : World) (B : Nat) (s : SysC) : Prop := W.heap[B]? = some (.cells #[.slice s.up.a s.up.n s.up.c, .int .i64 s.moment, .int .i64 s.clock, .int .i64 s.seq, .slice s.actors.a s.actors.n s.actors.c, .slice s.flights.a s.flights.n s.flights.c, .slice s.alarms.a s.alarms.n s.alarms.c, .slice s.asked.a s.asked.n s.asked.c, .int .i64 s.dead] 28 (0, 0))
def LBox (W : World) (B : Nat) (l : LetC) : Prop := W.heap[B]? = some (.cells #[.string l.src, .string l.msg, .slice l.args.a l.args.n l.args.c, .int .i64 l.sent] 34 (0, 0))
def FBox (W : World) (B : Nat) (f : FlyC) : Prop := W.heap[B]? = some (.cells (flyL f).toArray 66 (0, 0))
theorem SBox.below {W W' : World} {B : Nat} {s : SysC} (h : SBox W B s) (hb : Below W.heap.size W W') : SBox W' B s := (hb.block _ (lt_of_block h)).trans h
theorem LBox.below {W W' : World} {B : Nat} {s : LetC} (h : LBox W B s) (hb : Below W.heap.size W W') : LBox W' B s := (hb.block _ (lt_of_block h)).trans h
theorem FBox.below {W W' : World} {B : Nat} {s : FlyC} (h : FBox W B s) (hb : Below W.heap.size W W') : FBox W' B s := (hb.block _ (lt_of_block h)).trans h
theorem SBox.cells {W : World} {B : Nat} {s : SysC} (h : SBox W B s) : W.cell? ⟨B, 0, none⟩ = some (.slice s.up.a s.up.n s.up.c) ∧ W.cell? ⟨B, 1, none⟩ = some (.int .i64 s.moment) ∧ W.cell? ⟨B, 2, none⟩ = some (.int .i64 s.clock) ∧ W.cell? ⟨B, 3, none⟩ = some (.int .i64 s.seq) ∧ W.cell? ⟨B, 4, none⟩ = some (.slice s.actors.a s.actors.n s.actors.c) ∧ W.cell? ⟨B, 5, none⟩ = some (.slice s.flights.a s.flights.n s.flights.c) ∧ W.cell? ⟨B, 6, none⟩ = some (.slice s.alarms.a s.alarms.n s.alarms.c) ∧ W.cell? ⟨B, 7, none⟩ = some (.slice s.asked.a s.asked.n s.asked.c) ∧ W.cell? ⟨B, 8, none⟩ = some (.int .i64 s.dead) := by
  simp [World.cell?, show W.heap[B]? = _ from h]
theorem LBox.cells {W : World} {B : Nat} {l : LetC} (h : LBox W B l) : W.cell? ⟨B, 0, none⟩ = some (.string l.src) ∧ W.cell? ⟨B, 1, none⟩ = some (.string l.msg) ∧ W.cell? ⟨B, 2, none⟩ = some (.slice l.args.a l.args.n l.args.c) ∧ W.cell? ⟨B, 3, none⟩ = some (.int .i64 l.sent) := by
  simp [World.cell?, show W.heap[B]? = _ from h]
end Go.Proofs.Ytjdjfjokniingaa
