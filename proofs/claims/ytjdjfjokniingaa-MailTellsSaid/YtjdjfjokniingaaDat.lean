/- The cells of the program's data: a system, an actor, a letter, a flight, an alarm, an action, a channel. -/
import Derived.Test.YtjdjfjokniingaaKit
namespace Go.Proofs.Ytjdjfjokniingaa

/-- a slice's three words -/
structure Sl where
  a : Option Addr
  n : Nat
  c : Nat
abbrev Sl.v (s : Sl) : Value := .slice s.a s.n s.c
def Sl.nil : Sl := ⟨none, 0, 0⟩

structure SysC where
  up : Sl
  moment : Int
  clock : Int
  seq : Int
  actors : Sl
  flights : Sl
  alarms : Sl
  asked : Sl
  dead : Int
abbrev sysV (s : SysC) : Value := .agg #[.slice s.up.a s.up.n s.up.c, .int .i64 s.moment, .int .i64 s.clock, .int .i64 s.seq, .slice s.actors.a s.actors.n s.actors.c, .slice s.flights.a s.flights.n s.flights.c, .slice s.alarms.a s.alarms.n s.alarms.c, .slice s.asked.a s.asked.n s.asked.c, .int .i64 s.dead]

structure LetC where
  src : ByteArray
  msg : ByteArray
  args : Sl
  sent : Int
abbrev letL (l : LetC) : List Value := [.string l.src, .string l.msg, .slice l.args.a l.args.n l.args.c, .int .i64 l.sent]

structure LiveC where
  path : ByteArray
  type : ByteArray
  node : Int
  init : Sl
  vars : Sl
  kids : Int
  rest : Int
  stopped : Bool
  mail : Sl
abbrev liveL (a : LiveC) : List Value := [.string a.path, .string a.type, .int .i64 a.node, .slice a.init.a a.init.n a.init.c, .slice a.vars.a a.vars.n a.vars.c, .int .i64 a.kids, .int .i64 a.rest, .bool a.stopped, .slice a.mail.a a.mail.n a.mail.c]

/-- a flight (From, To) or an alarm (At, Seq) -/
structure FlyC where
  x : Int
  y : Int
  path : ByteArray
  l : LetC
abbrev flyL (f : FlyC) : List Value := [.int .i64 f.x, .int .i64 f.y, .string f.path, .string f.l.src, .string f.l.msg, .slice f.l.args.a f.l.args.n f.l.args.c, .int .i64 f.l.sent]

structure ActnC where
  path : ByteArray
  x : Int
  y : Int
  deriving DecidableEq
abbrev actnL (a : ActnC) : List Value := [.string a.path, .int .i64 a.x, .int .i64 a.y]
abbrev chanL (c : Int × Int) : List Value := [.int .i64 c.1, .int .i64 c.2]

namespace Sy
/-- an actor can handle a message -/
def ready (ups : List Bool) (a : LiveC) : Bool := !a.stopped && decide (0 < a.mail.n) && decide (0 ≤ a.node) && decide (a.node < (ups.length : Int)) && ups.getD a.node.toNat false
end Sy
end Go.Proofs.Ytjdjfjokniingaa
