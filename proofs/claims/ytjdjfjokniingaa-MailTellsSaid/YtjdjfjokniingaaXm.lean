/- The walk of MailTells. -/
import Derived.Test.YtjdjfjokniingaaXj
import Derived.Test.YtjdjfjokniingaaXk
namespace Go.Proofs.Ytjdjfjokniingaa
open Go.RowKit

set_option linter.unusedSimpArgs false in
set_option linter.unusedVariables false in
set_option maxRecDepth 100000 in
set_option maxHeartbeats 64000000 in
theorem tells9_walk (s : SysC) (σ : PS) (l : Sl) (ops : List OpC) (w : World) (hr : SysR (fun b => b < w.heap.size) w s σ) (hd : PSD w σ) (hz : PSZ 140737488355328 σ) (ho : Rd w w.heap.size 8 l.a l.n (ops.flatMap opL)) (hod : ∀ o ∈ ops, OpD w o) (hln : l.n ≤ 9223372036854775807) :
    Calls Try.prog 9 #[sysV s, .slice l.a l.n l.c] w fun e w' => e = .returned (.bool true) ∧ Below w.heap.size w w' := by
  have R0 := Lib.hid hr
  have Z0 := Lib.hid hz
  have D0 := Lib.hid hd
  have RO := Lib.hid ho
  have OD := Lib.hid hod
  clear hr hz hd ho hod
  go_enter Try.func9, Try.ntmps9
  go_wp2_with fail
  refine (small27 _).mono ?_
  rintro e w1 ⟨rfl, hb⟩
  have HB : Hid (Below w.heap.size w w1) := Lib.hid (Below.call (below_one w _) hb)
  have BS : Hid (BoxAt w1 w.heap.size (sysL s)) := Lib.hid ((BoxAt.new w 28 (sysL s) _ rfl).call hb)
  have hs1 : w.heap.size < w1.heap.size := BS.out.1
  clear hb
  obtain ⟨c0, c1, c2, c3, c4, c5, c6, c7, c8⟩ := sbox_cells BS.out
  go_wp2_with fail
  refine (few_R s σ w1 (R0.out.below HB.out) Z0.out).mono ?_
  rintro e w2 ⟨x, rfl, hx, hb⟩
  replace HB := Lib.hid (Below.call HB.out hb)
  replace BS := Lib.hid (BS.out.call hb)
  have hs2 : w.heap.size < w2.heap.size := BS.out.1
  clear hb c0 c1 c2 c3 c4 c5 c6 c7 c8
  cases x with
  | false =>
    clear hx
    go_wp2_with fail
    go_ret
    exact ⟨rfl, HB.out⟩
  | true =>
  have ht := hx rfl
  clear hx
  cases k3 : decide ((30 : Int) < (l.n : Int)) with
  | true =>
    go_wp2_with fail
    go_ret
    exact ⟨rfl, HB.out⟩
  | false =>
  have hl30 : l.n ≤ 30 := by simp at k3; omega
  have TE : Hid (TeOk w σ 0) := Lib.hid (by
    unfold Ml.total at ht
    exact ⟨by omega, by omega, by omega, by omega, by unfold Ml.held; omega, D0.out⟩)
  clear ht Z0
  obtain ⟨c0, c1, c2, c3, c4, c5, c6, c7, c8⟩ := sbox_cells BS.out
  have BX0 : Hid (BoxAt ((w2.alloc (.cells #[.slice s.up.a s.up.n s.up.c, .int .i64 s.moment, .int .i64 s.clock, .int .i64 s.seq, .slice s.actors.a s.actors.n s.actors.c, .slice s.flights.a s.flights.n s.flights.c, .slice s.alarms.a s.alarms.n s.alarms.c, .slice s.asked.a s.asked.n s.asked.c, .int .i64 s.dead] 28)).alloc (.cells #[.slice s.up.a s.up.n s.up.c, .int .i64 s.moment, .int .i64 s.clock, .int .i64 s.seq, .slice s.actors.a s.actors.n s.actors.c, .slice s.flights.a s.flights.n s.flights.c, .slice s.alarms.a s.alarms.n s.alarms.c, .slice s.asked.a s.asked.n s.asked.c, .int .i64 s.dead] 28)) w2.heap.size (sysL s)) := Lib.hid ((BoxAt.new w2 28 (sysL s) _ rfl).alloc _)
  have BY0 : Hid (BoxAt ((w2.alloc (.cells #[.slice s.up.a s.up.n s.up.c, .int .i64 s.moment, .int .i64 s.clock, .int .i64 s.seq, .slice s.actors.a s.actors.n s.actors.c, .slice s.flights.a s.flights.n s.flights.c, .slice s.alarms.a s.alarms.n s.alarms.c, .slice s.asked.a s.asked.n s.asked.c, .int .i64 s.dead] 28)).alloc (.cells #[.slice s.up.a s.up.n s.up.c, .int .i64 s.moment, .int .i64 s.clock, .int .i64 s.seq, .slice s.actors.a s.actors.n s.actors.c, .slice s.flights.a s.flights.n s.flights.c, .slice s.alarms.a s.alarms.n s.alarms.c, .slice s.asked.a s.asked.n s.asked.c, .int .i64 s.dead] 28)) (w2.heap.size + 1) (sysL s)) := Lib.hid (BoxAt.new _ 28 (sysL s) _ (by simp))
  have HB0 : Hid (Below w.heap.size w ((w2.alloc (.cells #[.slice s.up.a s.up.n s.up.c, .int .i64 s.moment, .int .i64 s.clock, .int .i64 s.seq, .slice s.actors.a s.actors.n s.actors.c, .slice s.flights.a s.flights.n s.flights.c, .slice s.alarms.a s.alarms.n s.alarms.c, .slice s.asked.a s.asked.n s.asked.c, .int .i64 s.dead] 28)).alloc (.cells #[.slice s.up.a s.up.n s.up.c, .int .i64 s.moment, .int .i64 s.clock, .int .i64 s.seq, .slice s.actors.a s.actors.n s.actors.c, .slice s.flights.a s.flights.n s.flights.c, .slice s.alarms.a s.alarms.n s.alarms.c, .slice s.asked.a s.asked.n s.asked.c, .int .i64 s.dead] 28))) := Lib.hid ((HB.out.alloc (by omega) _).alloc (by simp; omega) _)
  have RX0 : Hid (SysR (NotXY w2.heap.size (w2.heap.size + 1)) ((w2.alloc (.cells #[.slice s.up.a s.up.n s.up.c, .int .i64 s.moment, .int .i64 s.clock, .int .i64 s.seq, .slice s.actors.a s.actors.n s.actors.c, .slice s.flights.a s.flights.n s.flights.c, .slice s.alarms.a s.alarms.n s.alarms.c, .slice s.asked.a s.asked.n s.asked.c, .int .i64 s.dead] 28)).alloc (.cells #[.slice s.up.a s.up.n s.up.c, .int .i64 s.moment, .int .i64 s.clock, .int .i64 s.seq, .slice s.actors.a s.actors.n s.actors.c, .slice s.flights.a s.flights.n s.flights.c, .slice s.alarms.a s.alarms.n s.alarms.c, .slice s.asked.a s.asked.n s.asked.c, .int .i64 s.dead] 28)) s σ) := Lib.hid ((R0.out.below HB0.out).mono (fun b hb => by have h : b < w.heap.size := hb; exact ⟨by omega, by omega⟩))
  obtain ⟨v0, hv0⟩ : ∃ W, W = (w2.alloc (.cells #[.slice s.up.a s.up.n s.up.c, .int .i64 s.moment, .int .i64 s.clock, .int .i64 s.seq, .slice s.actors.a s.actors.n s.actors.c, .slice s.flights.a s.flights.n s.flights.c, .slice s.alarms.a s.alarms.n s.alarms.c, .slice s.asked.a s.asked.n s.asked.c, .int .i64 s.dead] 28)).alloc (.cells #[.slice s.up.a s.up.n s.up.c, .int .i64 s.moment, .int .i64 s.clock, .int .i64 s.seq, .slice s.actors.a s.actors.n s.actors.c, .slice s.flights.a s.flights.n s.flights.c, .slice s.alarms.a s.alarms.n s.alarms.c, .slice s.asked.a s.asked.n s.asked.c, .int .i64 s.dead] 28) := ⟨_, rfl⟩
  rw [← hv0] at BX0 BY0 HB0 RX0
  obtain ⟨Y, hY⟩ : ∃ Y, Y = w2.heap.size + 1 := ⟨_, rfl⟩
  obtain ⟨X, hX⟩ : ∃ X, X = w2.heap.size := ⟨_, rfl⟩
  have nXY : ¬ X = Y := by omega
  have nYX : ¬ Y = X := by omega
  have hwX : w.heap.size < X := by omega
  have hwY : w.heap.size < Y := by omega
  rw [← hY] at BY0 RX0
  rw [← hX] at BX0 RX0
  have HV := Lib.hid hv0
  have HX := Lib.hid hX
  have HY := Lib.hid hY
  clear hv0 hX hY
  go_wp2_with fail
  rw [← HV.out, ← HY.out, ← HX.out]
  clear HV HX HY c0 c1 c2 c3 c4 c5 c6 c7 c8
  go_loopw [8] (fun i wr => TeRel w X Y l.n i wr) (fun i _ => l.n - (intOf i).toNat)
  case atStart => exact ⟨0, s, s, σ, Nat.zero_le _, rfl, HB0.out, BX0.out, BY0.out, RX0.out, RX0.out, TE.out⟩
  case round =>
    clear HB BS HB0 BX0 BY0 RX0 TE
    obtain ⟨k, sx, sy, τ, hk, rfl, hB, hbx, hby, hrx, hry, hte⟩ := hrel
    have HB := Lib.hid hB
    have BX := Lib.hid hbx
    have BY := Lib.hid hby
    have RX := Lib.hid hrx
    have RY := Lib.hid hry
    have TE := Lib.hid hte
    clear hB hbx hby hrx hry hte
    by_cases hlt : k < l.n
    · obtain ⟨b, off, p, hA, hb, hpk, hc⟩ := RO.out.at_ (fun _ => rfl) (by omega) hlt
      have hix : ∀ W : World, Sem.run Try.prog (Instr.indexAt 55 (.slice l.a l.n l.c) (.int .i64 (k : Int))) W = .ok (.pointer (some ⟨b, off + k * 8, none⟩)) W := by intro W; rw [hA]; go_simp
      have u0x : wr.cell? ⟨b, off + k * 8, none⟩ = some (.int .i64 p.op) := (HB.out.cell (p := ⟨b, off + k * 8, none⟩) hb).trans (hc 0 _ rfl)
      have u1x : wr.cell? ⟨b, off + k * 8 + 1, none⟩ = some (.int .i64 p.x) := (HB.out.cell (p := ⟨b, off + k * 8 + 1, none⟩) hb).trans (hc 1 _ rfl)
      have u2x : wr.cell? ⟨b, off + k * 8 + 2, none⟩ = some (.int .i64 p.y) := (HB.out.cell (p := ⟨b, off + k * 8 + 2, none⟩) hb).trans (hc 2 _ rfl)
      have u3x : wr.cell? ⟨b, off + k * 8 + 3, none⟩ = some (.string p.path) := (HB.out.cell (p := ⟨b, off + k * 8 + 3, none⟩) hb).trans (hc 3 _ rfl)
      have u4x : wr.cell? ⟨b, off + k * 8 + 4, none⟩ = some (.string p.l.src) := (HB.out.cell (p := ⟨b, off + k * 8 + 4, none⟩) hb).trans (hc 4 _ rfl)
      have u5x : wr.cell? ⟨b, off + k * 8 + 5, none⟩ = some (.string p.l.msg) := (HB.out.cell (p := ⟨b, off + k * 8 + 5, none⟩) hb).trans (hc 5 _ rfl)
      have u6x : wr.cell? ⟨b, off + k * 8 + 6, none⟩ = some (.slice p.l.args.a p.l.args.n p.l.args.c) := (HB.out.cell (p := ⟨b, off + k * 8 + 6, none⟩) hb).trans (hc 6 _ rfl)
      have u7x : wr.cell? ⟨b, off + k * 8 + 7, none⟩ = some (.int .i64 p.l.sent) := (HB.out.cell (p := ⟨b, off + k * 8 + 7, none⟩) hb).trans (hc 7 _ rfl)
      have PD := Lib.hid (OD.out p (List.mem_of_getElem? hpk))
      have hxr : X < wr.heap.size := BX.out.1
      have hyr : Y < wr.heap.size := BY.out.1
      have n1 : ¬ b = wr.heap.size := by have := HB.out.size; omega
      have n2 : ¬ X = wr.heap.size := by omega
      have n3 : ¬ Y = wr.heap.size := by omega
      have NP := Lib.hid (fun (N : Nat) (h1 : X < N) (h2 : Y < N) => notXY (P := NotXY X Y) h1 h2 (fun b h => h))
      clear hA hpk hc
      have B1 : sx.actors.n ≤ 1000000 := by rw [RX.out.na]; have := TE.out.ac; omega
      have B2 : sx.up.n ≤ 9223372036854775807 := by rw [← RX.out.nu]; have := TE.out.up; omega
      have B3 : sx.flights.n ≤ 1000000 := by rw [← RX.out.nfl]; have := TE.out.fl; omega
      have B4 : sx.alarms.n ≤ 1000000 := by rw [← RX.out.nal]; have := TE.out.al; omega
      have E1 : sy.actors.n ≤ 1000000 := by rw [RY.out.na]; have := TE.out.ac; omega
      have E2 : sy.up.n ≤ 9223372036854775807 := by rw [← RY.out.nu]; have := TE.out.up; omega
      have E3 : sy.flights.n ≤ 1000000 := by rw [← RY.out.nfl]; have := TE.out.fl; omega
      have E4 : sy.alarms.n ≤ 1000000 := by rw [← RY.out.nal]; have := TE.out.al; omega
      have E5 : ∀ a ∈ τ.acts, a.mail.length ≤ 1000000 := fun a ha => by have := TE.out.ml ha; omega
      have CP := Lib.hid (fun (W : World) (hW : Below wr.heap.size wr W) => post_any sx τ p.path p.l W (RX.out.below hW) B1 B2)
      have CS := Lib.hid (fun (W : World) (hW : Below wr.heap.size wr W) => send_any sx τ p.x p.path p.l W (RX.out.below hW) B1 B2 B3)
      have CT := Lib.hid (fun (W : World) (hW : Below wr.heap.size wr W) => take_any sx τ p.path W (RX.out.below hW) B1)
      have CA := Lib.hid (fun (W : World) (hW : Below wr.heap.size wr W) => arrive_any sx τ p.x p.y W (RX.out.below hW) B1 B2 B3)
      have CD := Lib.hid (fun (W : World) (hW : Below wr.heap.size wr W) => drop_any sx τ p.x W (RX.out.below hW) B1 B4 B3 (fun a ha => (TE.out.deep.ac a ha).path) (fun f hf => (TE.out.deep.al f hf).l.src))
      have DP := Lib.hid (fun (W : World) (hW : SysR (NotXY X Y) W sy τ) => post34 sy τ p.path p.l W hW E1 E2)
      have DS := Lib.hid (fun (W : World) (hW : SysR (NotXY X Y) W sy τ) => send36 sy τ p.x p.path p.l W hW E1 E2 E3)
      have DT := Lib.hid (fun (W : World) (hW : SysR (NotXY X Y) W sy τ) => take38 sy τ p.path W hW E1 E5)
      have DA := Lib.hid (fun (W : World) (hW : SysR (NotXY X Y) W sy τ) => arrive41 sy τ p.x p.y W hW E1 E2 E3)
      have DD := Lib.hid (fun (W : World) (hW : SysR (NotXY X Y) W sy τ) => drop43 sy τ p.x W hW E1 E4 E3)
      clear B1 B2 B3 B4 E1 E2 E3 E4 E5
      obtain ⟨x0, x1, x2, x3, x4, x5, x6, x7, x8⟩ := sbox_cells BX.out
      obtain ⟨y0, y1, y2, y3, y4, y5, y6, y7, y8⟩ := sbox_cells BY.out
      go_upto_block 2 with (fail)
      go_cut [10] (fun s10 wx => s10 = .bool true ∧ TeCut w X Y wr.heap.size k p wx)
      case first =>
        by_cases e1 : p.op = 1
        · have t1 : (p.op == 1) = true := by simp [e1]
          clear e1
          go_upto_if 59 with (fail)
          refine tells9_arm1 w wr X Y k sx sy τ p HB BX BY RX RY TE PD nXY nYX hwX hwY CP DP _ _ _ _ _ _ _ _ _ _ _ _ _ _ _ _ _ _ _ _ _ _ _ _ _ _ _ _ _ _ _ _ _ _ _ _ _ _ _ _ _ _ _ _ _ _ _ _ _ _ _ _ _ _ _ _ _ _ _ _ _ _ _ _ _ _ _ _ _ _ _ _ _ _ _ _ _ _ _ _ _ _ _ _ _ _ _ _ _ _ _ _ _ _ _ _ _ _ _ _ _ _ _ _ _ _ _ _ _ _ _ _ _ _ _ _ _ _ _ _ _ _ _ _ _ _ _ _ _ _ _ _ _ _ _ _ _ _ _ _ _ _ _ _ _ _ _ _ _ _ _ _ _ _ _ _ _ _ _ _ _ _ _ _ _ _ _ _ _ _ _ _ _ _ _ _ _ _ _ _ _ _ _ _ _ _ _ _ _ _ _ _ _ _ _ _ _ _ _ _ _ _ _ _ _ _ _ _ _ _ _ _ _ _ _ _ _ _ _ _ _ (Lib.hid ?_)
          intro d11 d12 d13 d14 d61 d62 d63 d64 d65 d66 d67 d68 d69 d70 d71 d72 d73 d74 d75 d76 d77 d78 d79 d80 d81 d82 d83 V hcutV
          dsimp only
          go_wp2_with fail
          go_meet
          exact ⟨rfl, hcutV⟩
        · have t1 : (p.op == 1) = false := by simp [e1]
          clear e1
          by_cases e2 : p.op = 2
          · have t2 : (p.op == 2) = true := by simp [e2]
            clear e2
            go_upto_if 84 with (fail)
            refine tells9_arm2 w wr X Y k sx sy τ p HB BX BY RX RY TE PD nXY nYX hwX hwY CS DS _ _ _ _ _ _ _ _ _ _ _ _ _ _ _ _ _ _ _ _ _ _ _ _ _ _ _ _ _ _ _ _ _ _ _ _ _ _ _ _ _ _ _ _ _ _ _ _ _ _ _ _ _ _ _ _ _ _ _ _ _ _ _ _ _ _ _ _ _ _ _ _ _ _ _ _ _ _ _ _ _ _ _ _ _ _ _ _ _ _ _ _ _ _ _ _ _ _ _ _ _ _ _ _ _ _ _ _ _ _ _ _ _ _ _ _ _ _ _ _ _ _ _ _ _ _ _ _ _ _ _ _ _ _ _ _ _ _ _ _ _ _ _ _ _ _ _ _ _ _ _ _ _ _ _ _ _ _ _ _ _ _ _ _ _ _ _ _ _ _ _ _ _ _ _ _ _ _ _ _ _ _ _ _ _ _ _ _ _ _ _ _ _ _ _ _ _ _ _ _ _ _ _ _ _ _ _ _ _ _ _ _ _ _ _ _ _ _ _ _ _ (Lib.hid ?_)
            intro d15 d16 d17 d18 d86 d87 d88 d89 d90 d91 d92 d93 d94 d95 d96 d97 d98 d99 d100 d101 d102 d103 d104 d105 d106 d107 d108 d109 d110 d111 d112 V hcutV
            dsimp only
            go_wp2_with fail
            go_meet
            exact ⟨rfl, hcutV⟩
          · have t2 : (p.op == 2) = false := by simp [e2]
            clear e2
            by_cases e3 : p.op = 3
            · have t3 : (p.op == 3) = true := by simp [e3]
              clear e3
              go_upto_if 113 with (fail)
              refine tells9_arm3 w wr X Y k sx sy τ p HB BX BY RX RY TE PD nXY nYX hwX hwY CT DT _ _ _ _ _ _ _ _ _ _ _ _ _ _ _ _ _ _ _ _ _ _ _ _ _ _ _ _ _ _ _ _ _ _ _ _ _ _ _ _ _ _ _ _ _ _ _ _ _ _ _ _ _ _ _ _ _ _ _ _ _ _ _ _ _ _ _ _ _ _ _ _ _ _ _ _ _ _ _ _ _ _ _ _ _ _ _ _ _ _ _ _ _ _ _ _ _ _ _ _ _ _ _ _ _ _ _ _ _ _ _ _ _ _ _ _ _ _ _ _ _ _ _ _ _ _ _ _ _ _ _ _ _ _ _ _ _ _ _ _ _ _ _ _ _ _ _ _ _ _ _ _ _ _ _ _ _ _ _ _ _ _ _ _ _ _ _ _ _ _ _ _ _ _ _ _ _ _ _ _ _ _ _ _ _ _ _ _ _ _ _ _ _ _ _ _ _ _ _ _ _ _ _ _ _ _ _ _ _ _ _ _ _ _ _ _ _ _ _ _ _ (Lib.hid ?_)
              intro d19 d20 d21 d22 d23 d24 d115 d116 d117 d118 d119 d120 d121 d122 d123 d124 d125 d126 d127 d128 d129 d130 d131 d132 d133 d134 d135 d136 d137 d138 d139 d140 V hcutV
              dsimp only
              go_wp2_with fail
              go_meet
              exact ⟨rfl, hcutV⟩
            · have t3 : (p.op == 3) = false := by simp [e3]
              clear e3
              by_cases e4 : p.op = 4
              · have t4 : (p.op == 4) = true := by simp [e4]
                clear e4
                go_upto_if 141 with (fail)
                refine tells9_arm4 w wr X Y k sx sy τ p HB BX BY RX RY TE PD nXY nYX hwX hwY CA DA _ _ _ _ _ _ _ _ _ _ _ _ _ _ _ _ _ _ _ _ _ _ _ _ _ _ _ _ _ _ _ _ _ _ _ _ _ _ _ _ _ _ _ _ _ _ _ _ _ _ _ _ _ _ _ _ _ _ _ _ _ _ _ _ _ _ _ _ _ _ _ _ _ _ _ _ _ _ _ _ _ _ _ _ _ _ _ _ _ _ _ _ _ _ _ _ _ _ _ _ _ _ _ _ _ _ _ _ _ _ _ _ _ _ _ _ _ _ _ _ _ _ _ _ _ _ _ _ _ _ _ _ _ _ _ _ _ _ _ _ _ _ _ _ _ _ _ _ _ _ _ _ _ _ _ _ _ _ _ _ _ _ _ _ _ _ _ _ _ _ _ _ _ _ _ _ _ _ _ _ _ _ _ _ _ _ _ _ _ _ _ _ _ _ _ _ _ _ _ _ _ _ _ _ _ _ _ _ _ _ _ _ _ _ _ _ _ _ _ _ _ (Lib.hid ?_)
                intro d25 d26 d27 d28 d29 d30 d143 d144 d145 d146 d147 d148 d149 d150 d151 d152 d153 d154 d155 d156 d157 d158 d159 d160 d161 d162 d163 d164 d165 d166 d167 d168 d169 d170 d171 d172 d173 d174 d175 d176 d177 d178 d179 d180 d181 V hcutV
                dsimp only
                go_wp2_with fail
                go_meet
                exact ⟨rfl, hcutV⟩
              · have t4 : (p.op == 4) = false := by simp [e4]
                clear e4
                by_cases e5 : p.op = 5
                · have t5 : (p.op == 5) = true := by simp [e5]
                  clear e5
                  go_upto_if 182 with (fail)
                  refine tells9_arm5 w wr X Y k sx sy τ p HB BX BY RX RY TE PD nXY nYX hwX hwY CD DD _ _ _ _ _ _ _ _ _ _ _ _ _ _ _ _ _ _ _ _ _ _ _ _ _ _ _ _ _ _ _ _ _ _ _ _ _ _ _ _ _ _ _ _ _ _ _ _ _ _ _ _ _ _ _ _ _ _ _ _ _ _ _ _ _ _ _ _ _ _ _ _ _ _ _ _ _ _ _ _ _ _ _ _ _ _ _ _ _ _ _ _ _ _ _ _ _ _ _ _ _ _ _ _ _ _ _ _ _ _ _ _ _ _ _ _ _ _ _ _ _ _ _ _ _ _ _ _ _ _ _ _ _ _ _ _ _ _ _ _ _ _ _ _ _ _ _ _ _ _ _ _ _ _ _ _ _ _ _ _ _ _ _ _ _ _ _ _ _ _ _ _ _ _ _ _ _ _ _ _ _ _ _ _ _ _ _ _ _ _ _ _ _ _ _ _ _ _ _ _ _ _ _ _ _ _ _ _ _ _ _ _ _ _ _ _ _ _ _ _ _ (Lib.hid ?_)
                  intro d184 d185 d186 d187 d188 d189 d190 d191 V hcutV
                  dsimp only
                  go_wp2_with fail
                  go_meet
                  exact ⟨rfl, hcutV⟩
                · have t5 : (p.op == 5) = false := by simp [e5]
                  clear e5
                  · skip
                    have TEn : Hid (TeOk w τ (k + 1)) := Lib.hid TE.out.stay
                    clear CP CS CT CA CD DP DS DT DA DD
                    go_wp2_with fail
                    obtain ⟨v5, hV⟩ : ∃ v, v = wr.alloc (.cells #[.int .i64 p.op, .int .i64 p.x, .int .i64 p.y, .string p.path, .string p.l.src, .string p.l.msg, .slice p.l.args.a p.l.args.n p.l.args.c, .int .i64 p.l.sent] 58) := ⟨_, rfl⟩
                    have HBv : Hid (Below w.heap.size w v5) := Lib.hid (by rw [hV]; exact HB.out.alloc (by omega) _)
                    have BXv : Hid (BoxAt v5 X (sysL sx)) := Lib.hid (by rw [hV]; exact BX.out.alloc _)
                    have BYv : Hid (BoxAt v5 Y (sysL sy)) := Lib.hid (by rw [hV]; exact BY.out.alloc _)
                    have BOv : Hid (BoxAt v5 wr.heap.size (opL p)) := Lib.hid (by rw [hV]; exact BoxAt.new wr 58 (opL p) _ rfl)
                    have R1v : Hid (SysR (NotXY X Y) v5 sx τ) := Lib.hid (by rw [hV]; exact RX.out.below (below_one _ _))
                    have R2v : Hid (SysR (NotXY X Y) v5 sy τ) := Lib.hid (by rw [hV]; exact RY.out.below (below_one _ _))
                    clear x0 x1 x2 x3 x4 x5 x6 x7 x8 y0 y1 y2 y3 y4 y5 y6 y7 y8 hix n1 n2 n3 u0x u1x u2x u3x u4x u5x u6x u7x
                    try dsimp only [putSys] at hV
                    rw [← hV]
                    clear hV
                    go_meet
                    exact ⟨rfl, sx, sy, τ, HBv.out, BXv.out, BYv.out, BOv.out, R1v.out, R2v.out, TEn.out⟩
      case rest =>
        obtain ⟨rfl, s1, s2, υ, hB, hbx, hby, hbo, hr1, hr2, hte⟩ := hcut
        rename World => v5
        have HBv := Lib.hid hB
        have BXv := Lib.hid hbx
        have BYv := Lib.hid hby
        have BOv := Lib.hid hbo
        have R1v := Lib.hid hr1
        have R2v := Lib.hid hr2
        have TEn := Lib.hid hte
        clear hB hbx hby hbo hr1 hr2 hte
        clear CP CS CT CA CD DP DS DT DA DD x0 x1 x2 x3 x4 x5 x6 x7 x8 y0 y1 y2 y3 y4 y5 y6 y7 y8 hix n1 n2 n3 u0x u1x u2x u3x u4x u5x u6x u7x
        have F1 : s1.actors.n ≤ 1000000 := by rw [R1v.out.na]; have := TEn.out.ac; omega
        have F2 : s2.actors.n ≤ 1000000 := by rw [R2v.out.na]; have := TEn.out.ac; omega
        have G1 := Lib.hid (find44_R R1v.out F1 p.path)
        have G2 := Lib.hid (fun (W : World) (hW : Below v5.heap.size v5 W) => find45_R (R2v.out.below hW) F2 p.path)
        clear F1 F2
        generalize (Ml.find (υ.acts.map (·.path)) p.path).getD 0 = jn at G1 G2
        generalize (Ml.find (υ.acts.map (·.path)) p.path).isSome = jb at G1 G2
        have t8 : (jb != jb) = false := by simp
        have t9 : ((jn : Int) != (jn : Int)) = false := by simp
        obtain ⟨x0, x1, x2, x3, x4, x5, x6, x7, x8⟩ := sbox_cells BXv.out
        obtain ⟨o0, o1, o2, o3, o4, o5, o6, o7⟩ := op_cells BOv.out
        go_wp2_with fail
        refine G1.out.mono ?_
        rintro e v6 ⟨rfl, h6⟩
        have H6 := Lib.hid h6
        have BX6 := Lib.hid (BXv.out.call h6)
        have BY6 := Lib.hid (BYv.out.call h6)
        have BO6 := Lib.hid (BOv.out.call h6)
        clear h6 x0 x1 x2 x3 x4 x5 x6 x7 x8 o0 o1 o2 o3 o4 o5 o6 o7
        obtain ⟨g0, g1, g2, g3, g4, g5, g6, g7, g8⟩ := sbox_cells BY6.out
        obtain ⟨o0, o1, o2, o3, o4, o5, o6, o7⟩ := op_cells BO6.out
        go_wp2_with fail
        refine (G2.out _ H6.out).mono ?_
        rintro e v7 ⟨rfl, h7⟩
        have H7 := Lib.hid (Below.call H6.out h7)
        have BX7 := Lib.hid (BX6.out.call h7)
        have BY7 := Lib.hid (BY6.out.call h7)
        clear h7 g0 g1 g2 g3 g4 g5 g6 g7 g8 o0 o1 o2 o3 o4 o5 o6 o7 G1 G2
        obtain ⟨f0, f1, f2, f3, f4, f5, f6, f7, f8⟩ := sbox_cells BX7.out
        obtain ⟨g0, g1, g2, g3, g4, g5, g6, g7, g8⟩ := sbox_cells BY7.out
        go_wp2_with fail
        refine (same_R s1 s2 υ v7 (R1v.out.below H7.out) (R2v.out.below H7.out) (TEn.out.deep.below (Below.call HBv.out H7.out)) (TEn.out.psz (by omega))).mono ?_
        rintro e v8 ⟨rfl, h8⟩
        have H8 := Lib.hid (Below.call H7.out h8)
        clear h8 f0 f1 f2 f3 f4 f5 f6 f7 f8 g0 g1 g2 g3 g4 g5 g6 g7 g8
        go_wp2_with fail
        go_roundw
        case rel => exact ⟨k + 1, s1, s2, υ, by omega, by go_num, Below.call HBv.out H8.out, BXv.out.call H8.out, BYv.out.call H8.out, R1v.out.below H8.out, R2v.out.below H8.out, TEn.out⟩
        case measure => simp [intOf]; omega
    · go_wp2_with fail
      go_ret
      exact ⟨rfl, HB.out⟩

end Go.Proofs.Ytjdjfjokniingaa
