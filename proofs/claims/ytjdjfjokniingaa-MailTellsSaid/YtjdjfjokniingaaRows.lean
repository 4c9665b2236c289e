/-
  NARROWER THAN 'FOR EVERY INPUT', by the rows' own cells (each row's printed sentence says how): TimerTells: loops · TimerFires: loops · TimerApart: loops · TimerKeeps: loops · MailTells: loops · MailCounts: loops · MailFifo: loops · MailCrash: loops · SchedTells: loops · SchedFair: loops · SchedKeeps: loops · SchedPosts: loops.
  DERIVED. THE GIVEN ROWS OF THIS SEAT. 14 by the template 'for every input the law returns true; each argument reads behind the call as it read before'; 0 by the template 'total and deterministic' (their statements: YtjdjfjokniingaaTotals.lean).
  GIVEN WITH THE SEED: the statements are not yours to turn. If you find one false, say at which input.
  Laid BY PROGRAM, IN A SANDBOX (cutbox-rows.mjs): the forced cells as the released guide's own fill.sh prints them over the translation 2556d4d0eef7bf5d… (all of the seat's roots in one cut). By AI agents, Wed Nov 11 2026. No macro, syntax, notation, axiom, sorry.
-/
import Derived.Test.YtjdjfjokniingaaChecked
import GoSem.Claim
import GoSem.ClaimJoined
import GoSem.ClaimMapViews
import Derived.JoinedTies
import Derived.KernelRfl
namespace Go.Proofs.Ytjdjfjokniingaa
/- THE CELL 'sum', in the pinned program and in every row, IS THE sha256 OF THE DUMP (.gsa) THAT YtjdjfjokniingaaProg.lean LOADS. Nothing in Lean hashes anything: it is a label: what it is worth is what the hold of that sum in a sandbox is worth. -/
noncomputable def Try.pinned : Pinned := { name := "ytjdjfjokniingaa", sum := "2556d4d0eef7bf5d4b2bfe0ba97c2e8f362b25fe9c9d9a0d7e53ddfa97673e61", checked := Try.checked }
namespace Rows
def none {H : Type} : Left H := { results := [], args := [] }

/-- 'retroactlaw17.TimerTells': WHATEVER THE INPUT: true; the input reads as it did. -/
def timerTellsSpec : ChangeSpec := { name := "timerTells", fn := fun _ => fun
  | [d1, d2] => { results := [.lit (.bool true)], args := [d1, d2] }
  | _ => none }
def timerTellsRow : OpenClaim := { program := "ytjdjfjokniingaa", sum := "2556d4d0eef7bf5d4b2bfe0ba97c2e8f362b25fe9c9d9a0d7e53ddfa97673e61", func := "retroact/retroactlaw17.TimerTells", spec := "timerTells", unfollowed := true, recurses := true, loops := true, plainKeys := false, apart := false }
def TimerTellsSaid : Prop := timerTellsRow.holds Try.pinned (OpenSpec.ofChange timerTellsSpec)

/-- ITS FALSE NEIGHBOUR: 'it returns false'. Refute it at one input. -/
def timerTellsWrong : ChangeSpec := { name := "timerTells", fn := fun _ => fun
  | [d1, d2] => { results := [.lit (.bool false)], args := [d1, d2] }
  | _ => none }
def TimerTellsWrongFalsely : Prop := timerTellsRow.holds Try.pinned (OpenSpec.ofChange timerTellsWrong)

/-- 'retroactlaw17.TimerFires': WHATEVER THE INPUT: true; the input reads as it did. -/
def timerFiresSpec : ChangeSpec := { name := "timerFires", fn := fun _ => fun
  | [d] => { results := [.lit (.bool true)], args := [d] }
  | _ => none }
def timerFiresRow : OpenClaim := { program := "ytjdjfjokniingaa", sum := "2556d4d0eef7bf5d4b2bfe0ba97c2e8f362b25fe9c9d9a0d7e53ddfa97673e61", func := "retroact/retroactlaw17.TimerFires", spec := "timerFires", unfollowed := true, recurses := true, loops := true, plainKeys := false, apart := false }
def TimerFiresSaid : Prop := timerFiresRow.holds Try.pinned (OpenSpec.ofChange timerFiresSpec)

/-- ITS FALSE NEIGHBOUR: 'it returns false'. Refute it at one input. -/
def timerFiresWrong : ChangeSpec := { name := "timerFires", fn := fun _ => fun
  | [d] => { results := [.lit (.bool false)], args := [d] }
  | _ => none }
def TimerFiresWrongFalsely : Prop := timerFiresRow.holds Try.pinned (OpenSpec.ofChange timerFiresWrong)

/-- 'retroactlaw17.TimerApart': WHATEVER THE INPUT: true; the input reads as it did. -/
def timerApartSpec : ChangeSpec := { name := "timerApart", fn := fun _ => fun
  | [d1, d2, d3] => { results := [.lit (.bool true)], args := [d1, d2, d3] }
  | _ => none }
def timerApartRow : OpenClaim := { program := "ytjdjfjokniingaa", sum := "2556d4d0eef7bf5d4b2bfe0ba97c2e8f362b25fe9c9d9a0d7e53ddfa97673e61", func := "retroact/retroactlaw17.TimerApart", spec := "timerApart", unfollowed := true, recurses := true, loops := true, plainKeys := false, apart := false }
def TimerApartSaid : Prop := timerApartRow.holds Try.pinned (OpenSpec.ofChange timerApartSpec)

/-- ITS FALSE NEIGHBOUR: 'it returns false'. Refute it at one input. -/
def timerApartWrong : ChangeSpec := { name := "timerApart", fn := fun _ => fun
  | [d1, d2, d3] => { results := [.lit (.bool false)], args := [d1, d2, d3] }
  | _ => none }
def TimerApartWrongFalsely : Prop := timerApartRow.holds Try.pinned (OpenSpec.ofChange timerApartWrong)

/-- 'retroactlaw17.TimerKeeps': WHATEVER THE INPUT: true; the input reads as it did. -/
def timerKeepsSpec : ChangeSpec := { name := "timerKeeps", fn := fun _ => fun
  | [d1, d2] => { results := [.lit (.bool true)], args := [d1, d2] }
  | _ => none }
def timerKeepsRow : OpenClaim := { program := "ytjdjfjokniingaa", sum := "2556d4d0eef7bf5d4b2bfe0ba97c2e8f362b25fe9c9d9a0d7e53ddfa97673e61", func := "retroact/retroactlaw17.TimerKeeps", spec := "timerKeeps", unfollowed := true, recurses := true, loops := true, plainKeys := false, apart := false }
def TimerKeepsSaid : Prop := timerKeepsRow.holds Try.pinned (OpenSpec.ofChange timerKeepsSpec)

/-- ITS FALSE NEIGHBOUR: 'it returns false'. Refute it at one input. -/
def timerKeepsWrong : ChangeSpec := { name := "timerKeeps", fn := fun _ => fun
  | [d1, d2] => { results := [.lit (.bool false)], args := [d1, d2] }
  | _ => none }
def TimerKeepsWrongFalsely : Prop := timerKeepsRow.holds Try.pinned (OpenSpec.ofChange timerKeepsWrong)

/-- 'retroactlaw16.MailPaths': WHATEVER THE INPUT: true; the input reads as it did. -/
def mailPathsSpec : ChangeSpec := { name := "mailPaths", fn := fun _ => fun
  | [d1, d2] => { results := [.lit (.bool true)], args := [d1, d2] }
  | _ => none }
def mailPathsRow : OpenClaim := { program := "ytjdjfjokniingaa", sum := "2556d4d0eef7bf5d4b2bfe0ba97c2e8f362b25fe9c9d9a0d7e53ddfa97673e61", func := "retroact/retroactlaw16.MailPaths", spec := "mailPaths", inPlace := ["internal/bytealg.IndexByteString", "internal/bytealg.IndexString"], unfollowed := true, recurses := true, named := ["internal/bytealg.MaxLen"], plainKeys := false, apart := false }
def MailPathsSaid : Prop := mailPathsRow.holds Try.pinned (OpenSpec.ofChange mailPathsSpec)

/-- ITS FALSE NEIGHBOUR: 'it returns false'. Refute it at one input. -/
def mailPathsWrong : ChangeSpec := { name := "mailPaths", fn := fun _ => fun
  | [d1, d2] => { results := [.lit (.bool false)], args := [d1, d2] }
  | _ => none }
def MailPathsWrongFalsely : Prop := mailPathsRow.holds Try.pinned (OpenSpec.ofChange mailPathsWrong)

/-- 'retroactlaw16.MailOrder': WHATEVER THE INPUT: true; the input reads as it did. -/
def mailOrderSpec : ChangeSpec := { name := "mailOrder", fn := fun _ => fun
  | [d1, d2, d3] => { results := [.lit (.bool true)], args := [d1, d2, d3] }
  | _ => none }
def mailOrderRow : OpenClaim := { program := "ytjdjfjokniingaa", sum := "2556d4d0eef7bf5d4b2bfe0ba97c2e8f362b25fe9c9d9a0d7e53ddfa97673e61", func := "retroact/retroactlaw16.MailOrder", spec := "mailOrder", inPlace := ["internal/bytealg.IndexByteString", "internal/bytealg.IndexString"], unfollowed := true, recurses := true, named := ["internal/bytealg.MaxLen"], plainKeys := false, apart := false }
def MailOrderSaid : Prop := mailOrderRow.holds Try.pinned (OpenSpec.ofChange mailOrderSpec)

/-- ITS FALSE NEIGHBOUR: 'it returns false'. Refute it at one input. -/
def mailOrderWrong : ChangeSpec := { name := "mailOrder", fn := fun _ => fun
  | [d1, d2, d3] => { results := [.lit (.bool false)], args := [d1, d2, d3] }
  | _ => none }
def MailOrderWrongFalsely : Prop := mailOrderRow.holds Try.pinned (OpenSpec.ofChange mailOrderWrong)

/-- 'retroactlaw16.MailTells': WHATEVER THE INPUT: true; the input reads as it did. -/
def mailTellsSpec : ChangeSpec := { name := "mailTells", fn := fun _ => fun
  | [d1, d2] => { results := [.lit (.bool true)], args := [d1, d2] }
  | _ => none }
def mailTellsRow : OpenClaim := { program := "ytjdjfjokniingaa", sum := "2556d4d0eef7bf5d4b2bfe0ba97c2e8f362b25fe9c9d9a0d7e53ddfa97673e61", func := "retroact/retroactlaw16.MailTells", spec := "mailTells", inPlace := ["internal/bytealg.IndexByteString", "internal/bytealg.IndexString"], unfollowed := true, recurses := true, named := ["internal/bytealg.MaxLen"], loops := true, plainKeys := false, apart := false }
def MailTellsSaid : Prop := mailTellsRow.holds Try.pinned (OpenSpec.ofChange mailTellsSpec)

/-- ITS FALSE NEIGHBOUR: 'it returns false'. Refute it at one input. -/
def mailTellsWrong : ChangeSpec := { name := "mailTells", fn := fun _ => fun
  | [d1, d2] => { results := [.lit (.bool false)], args := [d1, d2] }
  | _ => none }
def MailTellsWrongFalsely : Prop := mailTellsRow.holds Try.pinned (OpenSpec.ofChange mailTellsWrong)

/-- 'retroactlaw16.MailCounts': WHATEVER THE INPUT: true; the input reads as it did. -/
def mailCountsSpec : ChangeSpec := { name := "mailCounts", fn := fun _ => fun
  | [d1, d2] => { results := [.lit (.bool true)], args := [d1, d2] }
  | _ => none }
def mailCountsRow : OpenClaim := { program := "ytjdjfjokniingaa", sum := "2556d4d0eef7bf5d4b2bfe0ba97c2e8f362b25fe9c9d9a0d7e53ddfa97673e61", func := "retroact/retroactlaw16.MailCounts", spec := "mailCounts", inPlace := ["internal/bytealg.IndexByteString", "internal/bytealg.IndexString"], unfollowed := true, recurses := true, named := ["internal/bytealg.MaxLen"], loops := true, plainKeys := false, apart := false }
def MailCountsSaid : Prop := mailCountsRow.holds Try.pinned (OpenSpec.ofChange mailCountsSpec)

/-- ITS FALSE NEIGHBOUR: 'it returns false'. Refute it at one input. -/
def mailCountsWrong : ChangeSpec := { name := "mailCounts", fn := fun _ => fun
  | [d1, d2] => { results := [.lit (.bool false)], args := [d1, d2] }
  | _ => none }
def MailCountsWrongFalsely : Prop := mailCountsRow.holds Try.pinned (OpenSpec.ofChange mailCountsWrong)

/-- 'retroactlaw16.MailFifo': WHATEVER THE INPUT: true; the input reads as it did. -/
def mailFifoSpec : ChangeSpec := { name := "mailFifo", fn := fun _ => fun
  | [d1, d2, d3, d4] => { results := [.lit (.bool true)], args := [d1, d2, d3, d4] }
  | _ => none }
def mailFifoRow : OpenClaim := { program := "ytjdjfjokniingaa", sum := "2556d4d0eef7bf5d4b2bfe0ba97c2e8f362b25fe9c9d9a0d7e53ddfa97673e61", func := "retroact/retroactlaw16.MailFifo", spec := "mailFifo", inPlace := ["internal/bytealg.IndexByteString", "internal/bytealg.IndexString"], unfollowed := true, recurses := true, named := ["internal/bytealg.MaxLen"], loops := true, plainKeys := false, apart := false }
def MailFifoSaid : Prop := mailFifoRow.holds Try.pinned (OpenSpec.ofChange mailFifoSpec)

/-- ITS FALSE NEIGHBOUR: 'it returns false'. Refute it at one input. -/
def mailFifoWrong : ChangeSpec := { name := "mailFifo", fn := fun _ => fun
  | [d1, d2, d3, d4] => { results := [.lit (.bool false)], args := [d1, d2, d3, d4] }
  | _ => none }
def MailFifoWrongFalsely : Prop := mailFifoRow.holds Try.pinned (OpenSpec.ofChange mailFifoWrong)

/-- 'retroactlaw16.MailCrash': WHATEVER THE INPUT: true; the input reads as it did. -/
def mailCrashSpec : ChangeSpec := { name := "mailCrash", fn := fun _ => fun
  | [d1, d2] => { results := [.lit (.bool true)], args := [d1, d2] }
  | _ => none }
def mailCrashRow : OpenClaim := { program := "ytjdjfjokniingaa", sum := "2556d4d0eef7bf5d4b2bfe0ba97c2e8f362b25fe9c9d9a0d7e53ddfa97673e61", func := "retroact/retroactlaw16.MailCrash", spec := "mailCrash", inPlace := ["internal/bytealg.IndexByteString", "internal/bytealg.IndexString"], unfollowed := true, recurses := true, named := ["internal/bytealg.MaxLen"], loops := true, plainKeys := false, apart := false }
def MailCrashSaid : Prop := mailCrashRow.holds Try.pinned (OpenSpec.ofChange mailCrashSpec)

/-- ITS FALSE NEIGHBOUR: 'it returns false'. Refute it at one input. -/
def mailCrashWrong : ChangeSpec := { name := "mailCrash", fn := fun _ => fun
  | [d1, d2] => { results := [.lit (.bool false)], args := [d1, d2] }
  | _ => none }
def MailCrashWrongFalsely : Prop := mailCrashRow.holds Try.pinned (OpenSpec.ofChange mailCrashWrong)

/-- 'retroactlaw20.SchedTells': WHATEVER THE INPUT: true; the input reads as it did. -/
def schedTellsSpec : ChangeSpec := { name := "schedTells", fn := fun _ => fun
  | [d1, d2] => { results := [.lit (.bool true)], args := [d1, d2] }
  | _ => none }
def schedTellsRow : OpenClaim := { program := "ytjdjfjokniingaa", sum := "2556d4d0eef7bf5d4b2bfe0ba97c2e8f362b25fe9c9d9a0d7e53ddfa97673e61", func := "retroact/retroactlaw20.SchedTells", spec := "schedTells", unfollowed := true, recurses := true, loops := true, plainKeys := false, apart := false }
def SchedTellsSaid : Prop := schedTellsRow.holds Try.pinned (OpenSpec.ofChange schedTellsSpec)

/-- ITS FALSE NEIGHBOUR: 'it returns false'. Refute it at one input. -/
def schedTellsWrong : ChangeSpec := { name := "schedTells", fn := fun _ => fun
  | [d1, d2] => { results := [.lit (.bool false)], args := [d1, d2] }
  | _ => none }
def SchedTellsWrongFalsely : Prop := schedTellsRow.holds Try.pinned (OpenSpec.ofChange schedTellsWrong)

/-- 'retroactlaw20.SchedFair': WHATEVER THE INPUT: true; the input reads as it did. -/
def schedFairSpec : ChangeSpec := { name := "schedFair", fn := fun _ => fun
  | [d1, d2] => { results := [.lit (.bool true)], args := [d1, d2] }
  | _ => none }
def schedFairRow : OpenClaim := { program := "ytjdjfjokniingaa", sum := "2556d4d0eef7bf5d4b2bfe0ba97c2e8f362b25fe9c9d9a0d7e53ddfa97673e61", func := "retroact/retroactlaw20.SchedFair", spec := "schedFair", unfollowed := true, recurses := true, loops := true, plainKeys := false, apart := false }
def SchedFairSaid : Prop := schedFairRow.holds Try.pinned (OpenSpec.ofChange schedFairSpec)

/-- ITS FALSE NEIGHBOUR: 'it returns false'. Refute it at one input. -/
def schedFairWrong : ChangeSpec := { name := "schedFair", fn := fun _ => fun
  | [d1, d2] => { results := [.lit (.bool false)], args := [d1, d2] }
  | _ => none }
def SchedFairWrongFalsely : Prop := schedFairRow.holds Try.pinned (OpenSpec.ofChange schedFairWrong)

/-- 'retroactlaw20.SchedKeeps': WHATEVER THE INPUT: true; the input reads as it did. -/
def schedKeepsSpec : ChangeSpec := { name := "schedKeeps", fn := fun _ => fun
  | [d1, d2] => { results := [.lit (.bool true)], args := [d1, d2] }
  | _ => none }
def schedKeepsRow : OpenClaim := { program := "ytjdjfjokniingaa", sum := "2556d4d0eef7bf5d4b2bfe0ba97c2e8f362b25fe9c9d9a0d7e53ddfa97673e61", func := "retroact/retroactlaw20.SchedKeeps", spec := "schedKeeps", unfollowed := true, recurses := true, loops := true, plainKeys := false, apart := false }
def SchedKeepsSaid : Prop := schedKeepsRow.holds Try.pinned (OpenSpec.ofChange schedKeepsSpec)

/-- ITS FALSE NEIGHBOUR: 'it returns false'. Refute it at one input. -/
def schedKeepsWrong : ChangeSpec := { name := "schedKeeps", fn := fun _ => fun
  | [d1, d2] => { results := [.lit (.bool false)], args := [d1, d2] }
  | _ => none }
def SchedKeepsWrongFalsely : Prop := schedKeepsRow.holds Try.pinned (OpenSpec.ofChange schedKeepsWrong)

/-- 'retroactlaw20.SchedPosts': WHATEVER THE INPUT: true; the input reads as it did. -/
def schedPostsSpec : ChangeSpec := { name := "schedPosts", fn := fun _ => fun
  | [d1, d2, d3, d4] => { results := [.lit (.bool true)], args := [d1, d2, d3, d4] }
  | _ => none }
def schedPostsRow : OpenClaim := { program := "ytjdjfjokniingaa", sum := "2556d4d0eef7bf5d4b2bfe0ba97c2e8f362b25fe9c9d9a0d7e53ddfa97673e61", func := "retroact/retroactlaw20.SchedPosts", spec := "schedPosts", unfollowed := true, recurses := true, loops := true, plainKeys := false, apart := false }
def SchedPostsSaid : Prop := schedPostsRow.holds Try.pinned (OpenSpec.ofChange schedPostsSpec)

/-- ITS FALSE NEIGHBOUR: 'it returns false'. Refute it at one input. -/
def schedPostsWrong : ChangeSpec := { name := "schedPosts", fn := fun _ => fun
  | [d1, d2, d3, d4] => { results := [.lit (.bool false)], args := [d1, d2, d3, d4] }
  | _ => none }
def SchedPostsWrongFalsely : Prop := schedPostsRow.holds Try.pinned (OpenSpec.ofChange schedPostsWrong)

/- THE SECOND FORM. 'bulk': how many values and letters a reading holds, each counted each time it is reached (what is shared counts as often as it is met; a slice's spare places count too). A statement '..UptoSaid' is the law's where the arguments, and the package variables that the reading takes, are together of bulk at most 1048576: NARROWER than '..Said'. Prove '..Said' where nothing that the law and all that it calls make is longer than what came in: it says more and counts as full. Else prove '..UptoSaid'. A law counts once. -/
mutual
def uptoBulk {H : Type} : DataW H → Nat
  | .lit (.string bytes) => bytes.length + 1
  | .lit _ => 1
  | .nil => 1
  | .ptr d => uptoBulk d + 1
  | .slice elems spare => uptoBulkAll elems + uptoBulkAll spare + 1
  | .agg parts => uptoBulkAll parts + 1
  | .iface _ d => uptoBulk d + 1
  | .map entries => uptoBulkEntries entries + 1
  | .held _ => 1
def uptoBulkAll {H : Type} : List (DataW H) → Nat
  | [] => 0
  | d :: r => uptoBulk d + uptoBulkAll r
def uptoBulkEntries {H : Type} : List (Lit × DataW H) → Nat
  | [] => 0
  | x :: r => uptoBulkEntry x + uptoBulkEntries r
def uptoBulkEntry {H : Type} : Lit × DataW H → Nat
  | (.string bytes, d) => bytes.length + uptoBulk d + 1
  | (_, d) => uptoBulk d + 1
 end
def uptoSmall : (H : Type) → List (DataW H) → Bool := fun _ ds => decide (uptoBulkAll ds ≤ 1048576)
def OpenSpec.upto (s : _root_.Go.ChangeSpec) : _root_.Go.OpenSpec := { _root_.Go.OpenSpec.ofChange s with cond := some uptoSmall }

/-- 'retroactlaw17.TimerTells', WHERE WHAT IT READS IS OF BULK AT MOST 1048576: true; the input reads as it did. -/
def timerTellsUptoRow : OpenClaim := { program := "ytjdjfjokniingaa", sum := "2556d4d0eef7bf5d4b2bfe0ba97c2e8f362b25fe9c9d9a0d7e53ddfa97673e61", func := "retroact/retroactlaw17.TimerTells", spec := "timerTells", unfollowed := true, recurses := true, loops := true, plainKeys := false, apart := false, narrowed := true }
def TimerTellsUptoSaid : Prop := timerTellsUptoRow.holds Try.pinned (OpenSpec.upto timerTellsSpec)

/-- 'retroactlaw17.TimerFires', WHERE WHAT IT READS IS OF BULK AT MOST 1048576: true; the input reads as it did. -/
def timerFiresUptoRow : OpenClaim := { program := "ytjdjfjokniingaa", sum := "2556d4d0eef7bf5d4b2bfe0ba97c2e8f362b25fe9c9d9a0d7e53ddfa97673e61", func := "retroact/retroactlaw17.TimerFires", spec := "timerFires", unfollowed := true, recurses := true, loops := true, plainKeys := false, apart := false, narrowed := true }
def TimerFiresUptoSaid : Prop := timerFiresUptoRow.holds Try.pinned (OpenSpec.upto timerFiresSpec)

/-- 'retroactlaw17.TimerApart', WHERE WHAT IT READS IS OF BULK AT MOST 1048576: true; the input reads as it did. -/
def timerApartUptoRow : OpenClaim := { program := "ytjdjfjokniingaa", sum := "2556d4d0eef7bf5d4b2bfe0ba97c2e8f362b25fe9c9d9a0d7e53ddfa97673e61", func := "retroact/retroactlaw17.TimerApart", spec := "timerApart", unfollowed := true, recurses := true, loops := true, plainKeys := false, apart := false, narrowed := true }
def TimerApartUptoSaid : Prop := timerApartUptoRow.holds Try.pinned (OpenSpec.upto timerApartSpec)

/-- 'retroactlaw17.TimerKeeps', WHERE WHAT IT READS IS OF BULK AT MOST 1048576: true; the input reads as it did. -/
def timerKeepsUptoRow : OpenClaim := { program := "ytjdjfjokniingaa", sum := "2556d4d0eef7bf5d4b2bfe0ba97c2e8f362b25fe9c9d9a0d7e53ddfa97673e61", func := "retroact/retroactlaw17.TimerKeeps", spec := "timerKeeps", unfollowed := true, recurses := true, loops := true, plainKeys := false, apart := false, narrowed := true }
def TimerKeepsUptoSaid : Prop := timerKeepsUptoRow.holds Try.pinned (OpenSpec.upto timerKeepsSpec)

/-- 'retroactlaw16.MailPaths', WHERE WHAT IT READS IS OF BULK AT MOST 1048576: true; the input reads as it did. -/
def mailPathsUptoRow : OpenClaim := { program := "ytjdjfjokniingaa", sum := "2556d4d0eef7bf5d4b2bfe0ba97c2e8f362b25fe9c9d9a0d7e53ddfa97673e61", func := "retroact/retroactlaw16.MailPaths", spec := "mailPaths", inPlace := ["internal/bytealg.IndexByteString", "internal/bytealg.IndexString"], unfollowed := true, recurses := true, named := ["internal/bytealg.MaxLen"], plainKeys := false, apart := false, narrowed := true }
def MailPathsUptoSaid : Prop := mailPathsUptoRow.holds Try.pinned (OpenSpec.upto mailPathsSpec)

/-- 'retroactlaw16.MailOrder', WHERE WHAT IT READS IS OF BULK AT MOST 1048576: true; the input reads as it did. -/
def mailOrderUptoRow : OpenClaim := { program := "ytjdjfjokniingaa", sum := "2556d4d0eef7bf5d4b2bfe0ba97c2e8f362b25fe9c9d9a0d7e53ddfa97673e61", func := "retroact/retroactlaw16.MailOrder", spec := "mailOrder", inPlace := ["internal/bytealg.IndexByteString", "internal/bytealg.IndexString"], unfollowed := true, recurses := true, named := ["internal/bytealg.MaxLen"], plainKeys := false, apart := false, narrowed := true }
def MailOrderUptoSaid : Prop := mailOrderUptoRow.holds Try.pinned (OpenSpec.upto mailOrderSpec)

/-- 'retroactlaw16.MailTells', WHERE WHAT IT READS IS OF BULK AT MOST 1048576: true; the input reads as it did. -/
def mailTellsUptoRow : OpenClaim := { program := "ytjdjfjokniingaa", sum := "2556d4d0eef7bf5d4b2bfe0ba97c2e8f362b25fe9c9d9a0d7e53ddfa97673e61", func := "retroact/retroactlaw16.MailTells", spec := "mailTells", inPlace := ["internal/bytealg.IndexByteString", "internal/bytealg.IndexString"], unfollowed := true, recurses := true, named := ["internal/bytealg.MaxLen"], loops := true, plainKeys := false, apart := false, narrowed := true }
def MailTellsUptoSaid : Prop := mailTellsUptoRow.holds Try.pinned (OpenSpec.upto mailTellsSpec)

/-- 'retroactlaw16.MailCounts', WHERE WHAT IT READS IS OF BULK AT MOST 1048576: true; the input reads as it did. -/
def mailCountsUptoRow : OpenClaim := { program := "ytjdjfjokniingaa", sum := "2556d4d0eef7bf5d4b2bfe0ba97c2e8f362b25fe9c9d9a0d7e53ddfa97673e61", func := "retroact/retroactlaw16.MailCounts", spec := "mailCounts", inPlace := ["internal/bytealg.IndexByteString", "internal/bytealg.IndexString"], unfollowed := true, recurses := true, named := ["internal/bytealg.MaxLen"], loops := true, plainKeys := false, apart := false, narrowed := true }
def MailCountsUptoSaid : Prop := mailCountsUptoRow.holds Try.pinned (OpenSpec.upto mailCountsSpec)

/-- 'retroactlaw16.MailFifo', WHERE WHAT IT READS IS OF BULK AT MOST 1048576: true; the input reads as it did. -/
def mailFifoUptoRow : OpenClaim := { program := "ytjdjfjokniingaa", sum := "2556d4d0eef7bf5d4b2bfe0ba97c2e8f362b25fe9c9d9a0d7e53ddfa97673e61", func := "retroact/retroactlaw16.MailFifo", spec := "mailFifo", inPlace := ["internal/bytealg.IndexByteString", "internal/bytealg.IndexString"], unfollowed := true, recurses := true, named := ["internal/bytealg.MaxLen"], loops := true, plainKeys := false, apart := false, narrowed := true }
def MailFifoUptoSaid : Prop := mailFifoUptoRow.holds Try.pinned (OpenSpec.upto mailFifoSpec)

/-- 'retroactlaw16.MailCrash', WHERE WHAT IT READS IS OF BULK AT MOST 1048576: true; the input reads as it did. -/
def mailCrashUptoRow : OpenClaim := { program := "ytjdjfjokniingaa", sum := "2556d4d0eef7bf5d4b2bfe0ba97c2e8f362b25fe9c9d9a0d7e53ddfa97673e61", func := "retroact/retroactlaw16.MailCrash", spec := "mailCrash", inPlace := ["internal/bytealg.IndexByteString", "internal/bytealg.IndexString"], unfollowed := true, recurses := true, named := ["internal/bytealg.MaxLen"], loops := true, plainKeys := false, apart := false, narrowed := true }
def MailCrashUptoSaid : Prop := mailCrashUptoRow.holds Try.pinned (OpenSpec.upto mailCrashSpec)

/-- 'retroactlaw20.SchedTells', WHERE WHAT IT READS IS OF BULK AT MOST 1048576: true; the input reads as it did. -/
def schedTellsUptoRow : OpenClaim := { program := "ytjdjfjokniingaa", sum := "2556d4d0eef7bf5d4b2bfe0ba97c2e8f362b25fe9c9d9a0d7e53ddfa97673e61", func := "retroact/retroactlaw20.SchedTells", spec := "schedTells", unfollowed := true, recurses := true, loops := true, plainKeys := false, apart := false, narrowed := true }
def SchedTellsUptoSaid : Prop := schedTellsUptoRow.holds Try.pinned (OpenSpec.upto schedTellsSpec)

/-- 'retroactlaw20.SchedFair', WHERE WHAT IT READS IS OF BULK AT MOST 1048576: true; the input reads as it did. -/
def schedFairUptoRow : OpenClaim := { program := "ytjdjfjokniingaa", sum := "2556d4d0eef7bf5d4b2bfe0ba97c2e8f362b25fe9c9d9a0d7e53ddfa97673e61", func := "retroact/retroactlaw20.SchedFair", spec := "schedFair", unfollowed := true, recurses := true, loops := true, plainKeys := false, apart := false, narrowed := true }
def SchedFairUptoSaid : Prop := schedFairUptoRow.holds Try.pinned (OpenSpec.upto schedFairSpec)

/-- 'retroactlaw20.SchedKeeps', WHERE WHAT IT READS IS OF BULK AT MOST 1048576: true; the input reads as it did. -/
def schedKeepsUptoRow : OpenClaim := { program := "ytjdjfjokniingaa", sum := "2556d4d0eef7bf5d4b2bfe0ba97c2e8f362b25fe9c9d9a0d7e53ddfa97673e61", func := "retroact/retroactlaw20.SchedKeeps", spec := "schedKeeps", unfollowed := true, recurses := true, loops := true, plainKeys := false, apart := false, narrowed := true }
def SchedKeepsUptoSaid : Prop := schedKeepsUptoRow.holds Try.pinned (OpenSpec.upto schedKeepsSpec)

/-- 'retroactlaw20.SchedPosts', WHERE WHAT IT READS IS OF BULK AT MOST 1048576: true; the input reads as it did. -/
def schedPostsUptoRow : OpenClaim := { program := "ytjdjfjokniingaa", sum := "2556d4d0eef7bf5d4b2bfe0ba97c2e8f362b25fe9c9d9a0d7e53ddfa97673e61", func := "retroact/retroactlaw20.SchedPosts", spec := "schedPosts", unfollowed := true, recurses := true, loops := true, plainKeys := false, apart := false, narrowed := true }
def SchedPostsUptoSaid : Prop := schedPostsUptoRow.holds Try.pinned (OpenSpec.upto schedPostsSpec)

end Rows
end Go.Proofs.Ytjdjfjokniingaa
