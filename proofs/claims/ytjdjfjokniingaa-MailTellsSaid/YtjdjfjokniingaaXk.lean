/- The arms of the switch of MailTells: Take, Drop, Arrive. -/
import Derived.Test.YtjdjfjokniingaaXh
namespace Go.Proofs.Ytjdjfjokniingaa
open Go.RowKit

set_option linter.unusedSimpArgs false in
set_option linter.unusedVariables false in
set_option maxRecDepth 1000000 in
set_option maxHeartbeats 64000000 in
theorem tells9_arm3 (w wr : World) (X Y k : Nat) (sx sy : SysC) (τ : PS) (p : OpC) (HB : Hid (Below w.heap.size w wr)) (BX : Hid (BoxAt wr X (sysL sx))) (BY : Hid (BoxAt wr Y (sysL sy))) (RX : Hid (SysR (NotXY X Y) wr sx τ)) (RY : Hid (SysR (NotXY X Y) wr sy τ)) (TE : Hid (TeOk w τ k)) (PD : Hid (OpD w p)) (nXY : ¬ X = Y) (nYX : ¬ Y = X) (hwX : w.heap.size < X) (hwY : w.heap.size < Y)
    (CT : Hid (∀ (W : World), Below wr.heap.size wr W → Calls Try.prog 37 #[sysV sx, .string p.path] W (SysLet (NotXY X Y) (Ml.take τ p.path) W))) (DT : Hid (∀ (W : World), SysR (NotXY X Y) W sy τ → Calls Try.prog 38 #[sysV sy, .string p.path] W (SysLet (NotXY X Y) (Ml.take τ p.path) W))) (Q : Exit → Act → World → Prop) (c0 c1 c2 c3 c4 c5 c8 c11 c12 c13 c14 c15 c16 c17 c18 c19 c20 c21 c22 c23 c24 c25 c26 c27 c28 c29 c30 c31 c32 c33 c34 c35 c36 c37 c38 c39 c40 c41 c42 c43 c44 c45 c46 c47 c48 c49 c50 c51 c52 c53 c54 c55 c56 c57 c58 c59 c60 c61 c62 c63 c64 c65 c66 c67 c68 c69 c70 c71 c72 c73 c74 c75 c76 c77 c78 c79 c80 c81 c82 c83 c84 c85 c86 c87 c88 c89 c90 c91 c92 c93 c94 c95 c96 c97 c98 c99 c100 c101 c102 c103 c104 c105 c106 c107 c108 c109 c110 c111 c112 c114 c115 c116 c117 c118 c119 c120 c121 c122 c123 c124 c125 c126 c127 c128 c129 c130 c131 c132 c133 c134 c135 c136 c137 c138 c139 c140 c141 c142 c143 c144 c145 c146 c147 c148 c149 c150 c151 c152 c153 c154 c155 c156 c157 c158 c159 c160 c161 c162 c163 c164 c165 c166 c167 c168 c169 c170 c171 c172 c173 c174 c175 c176 c177 c178 c179 c180 c181 c182 c183 c184 c185 c186 c187 c188 c189 c190 c191 c192 c193 c194 c195 c196 c197 c198 c199 c200 c201 c202 c203 c204 c205 c206 c207 c208 c209 c210 c211 c212 c213 c214 c215 c216 c217 c218 c219 c220 c221 c222 c223 c224 : Value)
    (hQ : Hid (∀ (d19 d20 d21 d22 d23 d24 d115 d116 d117 d118 d119 d120 d121 d122 d123 d124 d125 d126 d127 d128 d129 d130 d131 d132 d133 d134 d135 d136 d137 d138 d139 d140 : Value) (V : World), TeCut w X Y wr.heap.size k p V → Q .normal ⟨#[c0, c1, c2, c3, c4, c5, .pointer (some ⟨X, 0, none⟩), .pointer (some ⟨Y, 0, none⟩), c8, .pointer (some ⟨wr.heap.size, 0, none⟩), .bool true, c11, c12, c13, c14, c15, c16, c17, c18, d19, d20, d21, d22, d23, d24, c25, c26, c27, c28, c29, c30, c31, c32, c33, c34, c35, c36, c37, c38, c39, c40, c41, c42, c43, c44, c45, c46, c47, c48, c49, c50, c51, c52, c53, c54, c55, c56, c57, c58, c59, c60, c61, c62, c63, c64, c65, c66, c67, c68, c69, c70, c71, c72, c73, c74, c75, c76, c77, c78, c79, c80, c81, c82, c83, c84, c85, c86, c87, c88, c89, c90, c91, c92, c93, c94, c95, c96, c97, c98, c99, c100, c101, c102, c103, c104, c105, c106, c107, c108, c109, c110, c111, c112, .bool true, c114, d115, d116, d117, d118, d119, d120, d121, d122, d123, d124, d125, d126, d127, d128, d129, d130, d131, d132, d133, d134, d135, d136, d137, d138, d139, d140, c141, c142, c143, c144, c145, c146, c147, c148, c149, c150, c151, c152, c153, c154, c155, c156, c157, c158, c159, c160, c161, c162, c163, c164, c165, c166, c167, c168, c169, c170, c171, c172, c173, c174, c175, c176, c177, c178, c179, c180, c181, c182, c183, c184, c185, c186, c187, c188, c189, c190, c191, c192, c193, c194, c195, c196, c197, c198, c199, c200, c201, c202, c203, c204, c205, c206, c207, c208, c209, c210, c211, c212, c213, c214, c215, c216, c217, c218, c219, c220, c221, c222, c223, c224], []⟩ V)) :
    Code.wp Try.prog (condCode 113) Q ⟨#[c0, c1, c2, c3, c4, c5, .pointer (some ⟨X, 0, none⟩), .pointer (some ⟨Y, 0, none⟩), c8, .pointer (some ⟨wr.heap.size, 0, none⟩), .bool true, c11, c12, c13, c14, c15, c16, c17, c18, c19, c20, c21, c22, c23, c24, c25, c26, c27, c28, c29, c30, c31, c32, c33, c34, c35, c36, c37, c38, c39, c40, c41, c42, c43, c44, c45, c46, c47, c48, c49, c50, c51, c52, c53, c54, c55, c56, c57, c58, c59, c60, c61, c62, c63, c64, c65, c66, c67, c68, c69, c70, c71, c72, c73, c74, c75, c76, c77, c78, c79, c80, c81, c82, c83, c84, c85, c86, c87, c88, c89, c90, c91, c92, c93, c94, c95, c96, c97, c98, c99, c100, c101, c102, c103, c104, c105, c106, c107, c108, c109, c110, c111, c112, .bool true, c114, c115, c116, c117, c118, c119, c120, c121, c122, c123, c124, c125, c126, c127, c128, c129, c130, c131, c132, c133, c134, c135, c136, c137, c138, c139, c140, c141, c142, c143, c144, c145, c146, c147, c148, c149, c150, c151, c152, c153, c154, c155, c156, c157, c158, c159, c160, c161, c162, c163, c164, c165, c166, c167, c168, c169, c170, c171, c172, c173, c174, c175, c176, c177, c178, c179, c180, c181, c182, c183, c184, c185, c186, c187, c188, c189, c190, c191, c192, c193, c194, c195, c196, c197, c198, c199, c200, c201, c202, c203, c204, c205, c206, c207, c208, c209, c210, c211, c212, c213, c214, c215, c216, c217, c218, c219, c220, c221, c222, c223, c224], []⟩ (wr.alloc (.cells #[.int .i64 p.op, .int .i64 p.x, .int .i64 p.y, .string p.path, .string p.l.src, .string p.l.msg, .slice p.l.args.a p.l.args.n p.l.args.c, .int .i64 p.l.sent] 58)) := by
  conv => arg 2; whnf
  have NP := Lib.hid (fun (N : Nat) (h1 : X < N) (h2 : Y < N) => notXY (P := NotXY X Y) h1 h2 (fun b h => h))
  have hxr : X < wr.heap.size := BX.out.1
  have hyr : Y < wr.heap.size := BY.out.1
  have n2 : ¬ X = wr.heap.size := by omega
  have n3 : ¬ Y = wr.heap.size := by omega
  obtain ⟨x0, x1, x2, x3, x4, x5, x6, x7, x8⟩ := sbox_cells BX.out
  obtain ⟨y0, y1, y2, y3, y4, y5, y6, y7, y8⟩ := sbox_cells BY.out
  go_wp2_with fail
  refine (CT.out _ (below_one wr _)).mono ?_
  rintro e v1 ⟨s1, rfl, hr1, h1⟩
  obtain ⟨υ, lt, ok, hpo⟩ : ∃ υ lt ok, Ml.take τ p.path = (υ, lt, ok) := ⟨_, _, _, rfl⟩
  have TEn : Hid (TeOk w υ (k + 1)) := Lib.hid (by have h := TE.out.take p.path; rw [hpo] at h; exact h)
  have LD : Hid (LetD w lt) := Lib.hid (by have h := (take_deep p.path TE.out.deep).2; rw [hpo] at h; exact h)
  rw [hpo] at hr1 ⊢
  have PO := Lib.hid hpo
  clear hpo
  have tok : (ok == ok) = true := by simp
  have BO0 := Lib.hid (BoxAt.new wr 58 (opL p) _ rfl)
  have BO1 := Lib.hid (BO0.out.call h1)
  have hv1 : wr.heap.size < v1.heap.size := BO1.out.1
  have H1 : Hid (Below wr.heap.size wr v1) := Lib.hid (Below.call (below_one wr _) h1)
  have R1 : Hid (SysR (NotXY X Y) v1 s1 υ) := Lib.hid (hr1.mono (NP.out _ (by simp; omega) (by simp; omega)))
  have RY1 := Lib.hid (RY.out.below H1.out)
  have BX1 := Lib.hid (BX.out.call H1.out)
  have BY1 := Lib.hid (BY.out.call H1.out)
  clear h1 hr1 BO0 CT x0 x1 x2 x3 x4 x5 x6 x7 x8 y0 y1 y2 y3 y4 y5 y6 y7 y8
  obtain ⟨y0, y1, y2, y3, y4, y5, y6, y7, y8⟩ := sbox_cells BY1.out
  obtain ⟨o0, o1, o2, o3, o4, o5, o6, o7⟩ := op_cells BO1.out
  have p1 : X < v1.heap.size := BX1.out.1
  have p2 : Y < v1.heap.size := BY1.out.1
  have p3 : ¬ X = v1.heap.size := by omega
  have p4 : ¬ Y = v1.heap.size := by omega
  have p5 : ¬ wr.heap.size = v1.heap.size := by omega
  go_wp2_with fail
  refine (DT.out _ (RY1.out.below (Below.call (below_one _ _) (below_one _ _)))).mono ?_
  rintro e v2 ⟨s2, rfl, hr2, h2⟩
  rw [PO.out] at hr2 ⊢
  clear PO
  have H2 : Hid (Below v1.heap.size v1 v2) := Lib.hid (Below.call (Below.call (below_one _ _) (below_one _ _)) h2)
  have hv2 := H2.out.size
  have R2 : Hid (SysR (NotXY X Y) v2 s2 υ) := Lib.hid (hr2.mono (NP.out _ (by simp; omega) (by simp; omega)))
  have BP2 := Lib.hid (((BoxAt.new v1 28 (sysL s1) _ rfl).alloc _).call h2)
  have BL2 := Lib.hid ((BoxAt.new _ 34 (letL lt) (v1.heap.size + 1) (by simp)).call h2)
  have HB2 := Lib.hid (Below.call HB.out (Below.call H1.out H2.out))
  have R1b := Lib.hid (R1.out.below H2.out)
  have BX2 := Lib.hid (BX1.out.call H2.out)
  have BY2 := Lib.hid (BY1.out.call H2.out)
  have BO2 := Lib.hid (BO1.out.call H2.out)
  clear h2 hr2 DT y0 y1 y2 y3 y4 y5 y6 y7 y8 o0 o1 o2 o3 o4 o5 o6 o7 p1 p2 p3 p4 p5
  obtain ⟨x0, x1, x2, x3, x4, x5, x6, x7, x8⟩ := sbox_cells BX2.out
  obtain ⟨f0, f1, f2, f3, f4, f5, f6, f7, f8⟩ := sbox_free BX2.out
  obtain ⟨y0, y1, y2, y3, y4, y5, y6, y7, y8⟩ := sbox_cells BY2.out
  obtain ⟨g0, g1, g2, g3, g4, g5, g6, g7, g8⟩ := sbox_free BY2.out
  obtain ⟨o0, o1, o2, o3, o4, o5, o6, o7⟩ := op_cells BO2.out
  obtain ⟨q0, q1, q2, q3, q4, q5, q6, q7, q8⟩ := sbox_cells BP2.out
  obtain ⟨r0, r1, r2, r3⟩ := let_cells BL2.out
  have pi : v1.heap.size + 1 < v2.heap.size := BL2.out.1
  have pj : ¬ v1.heap.size + 1 = v2.heap.size := by omega
  have p1 : X < v2.heap.size := BX2.out.1
  have p2 : Y < v2.heap.size := BY2.out.1
  have p3 : ¬ X = v2.heap.size := by omega
  have p4 : ¬ Y = v2.heap.size := by omega
  have p5 : ¬ X = v1.heap.size := by omega
  have p6 : ¬ Y = v1.heap.size := by omega
  have p7 : wr.heap.size < v2.heap.size := BO2.out.1
  have p8 : ¬ wr.heap.size = v2.heap.size := by omega
  have p9 : ¬ wr.heap.size = X := by omega
  have pa : ¬ wr.heap.size = Y := by omega
  have pb : v1.heap.size < v2.heap.size := BP2.out.1
  have pc : ¬ v1.heap.size = X := by omega
  have pd : ¬ v1.heap.size = Y := by omega
  have pe : ¬ v1.heap.size = v2.heap.size := by omega
  go_wp2_with fail
  obtain ⟨v3, hv3⟩ : ∃ v, v = (v2.alloc (.cells #[.slice s2.up.a s2.up.n s2.up.c, .int .i64 s2.moment, .int .i64 s2.clock, .int .i64 s2.seq, .slice s2.actors.a s2.actors.n s2.actors.c, .slice s2.flights.a s2.flights.n s2.flights.c, .slice s2.alarms.a s2.alarms.n s2.alarms.c, .slice s2.asked.a s2.asked.n s2.asked.c, .int .i64 s2.dead] 28)).alloc (.cells #[.string lt.src, .string lt.msg, .slice lt.args.a lt.args.n lt.args.c, .int .i64 lt.sent] 34) := ⟨_, rfl⟩
  have H3 : Hid (Below v2.heap.size v2 v3) := Lib.hid (by rw [hv3]; exact Below.call (below_one _ _) (below_one _ _))
  have BQ3 : Hid (BoxAt v3 v2.heap.size (sysL s2)) := Lib.hid (by rw [hv3]; exact (BoxAt.new v2 28 (sysL s2) _ rfl).alloc _)
  have hv3s : v2.heap.size < v3.heap.size := BQ3.out.1
  rw [← hv3]
  clear hv3
  refine (sameLetter_true _ _ v3 ((LD.out.below (Below.call HB2.out H3.out)).self)).mono ?_
  rintro e v4 ⟨rfl, h4⟩
  have H4 := Lib.hid (Below.call H3.out h4)
  have HB4 := Lib.hid (Below.call HB2.out H4.out)
  have BX4 := Lib.hid (BX2.out.call H4.out)
  have BY4 := Lib.hid (BY2.out.call H4.out)
  have BO4 := Lib.hid (BO2.out.call H4.out)
  have BP4 := Lib.hid (BP2.out.call H4.out)
  have BQ4 := Lib.hid (BQ3.out.call h4)
  have hv4 := h4.size
  clear h4 x0 x1 x2 x3 x4 x5 x6 x7 x8 f0 f1 f2 f3 f4 f5 f6 f7 f8 y0 y1 y2 y3 y4 y5 y6 y7 y8 g0 g1 g2 g3 g4 g5 g6 g7 g8 q0 q1 q2 q3 q4 q5 q6 q7 q8 r0 r1 r2 r3 o0 o1 o2 o3 o4 o5 o6 o7 p1 p2 p3 p4 p5 p6 p7 p8 p9 pa pb pc pd pe pi pj
  obtain ⟨x0, x1, x2, x3, x4, x5, x6, x7, x8⟩ := sbox_cells BX4.out
  obtain ⟨f0, f1, f2, f3, f4, f5, f6, f7, f8⟩ := sbox_free BX4.out
  obtain ⟨y0, y1, y2, y3, y4, y5, y6, y7, y8⟩ := sbox_cells BY4.out
  obtain ⟨g0, g1, g2, g3, g4, g5, g6, g7, g8⟩ := sbox_free BY4.out
  obtain ⟨o0, o1, o2, o3, o4, o5, o6, o7⟩ := op_cells BO4.out
  obtain ⟨q0, q1, q2, q3, q4, q5, q6, q7, q8⟩ := sbox_cells BP4.out
  obtain ⟨r0, r1, r2, r3, r4, r5, r6, r7, r8⟩ := sbox_cells BQ4.out
  have pf : ¬ v2.heap.size = X := by omega
  have pg : ¬ v2.heap.size = Y := by omega
  have ph : v2.heap.size < v4.heap.size := BQ4.out.1
  have p1 : X < v4.heap.size := BX4.out.1
  have p2 : Y < v4.heap.size := BY4.out.1
  have p3 : ¬ X = v4.heap.size := by omega
  have p4 : ¬ Y = v4.heap.size := by omega
  have p5 : ¬ X = v1.heap.size := by omega
  have p6 : ¬ Y = v1.heap.size := by omega
  have p7 : wr.heap.size < v4.heap.size := BO4.out.1
  have p8 : ¬ wr.heap.size = v4.heap.size := by omega
  have p9 : ¬ wr.heap.size = X := by omega
  have pa : ¬ wr.heap.size = Y := by omega
  have pb : v1.heap.size < v4.heap.size := BP4.out.1
  have pc : ¬ v1.heap.size = X := by omega
  have pd : ¬ v1.heap.size = Y := by omega
  have pe : ¬ v1.heap.size = v4.heap.size := by omega
  go_wp2_with fail
  obtain ⟨v5, hV⟩ : ∃ v, v = putSys (putSys v4 X s1) Y s2 := ⟨_, rfl⟩
  have HBv : Hid (Below w.heap.size w v5) := Lib.hid (by rw [hV]; exact putSys_below (putSys_below HB4.out (by omega)) (by omega))
  have BXv : Hid (BoxAt v5 X (sysL s1)) := Lib.hid (by rw [hV]; exact (putSys_other (putSys_box BX4.out) nYX))
  have BYv : Hid (BoxAt v5 Y (sysL s2)) := Lib.hid (by rw [hV]; exact (putSys_box (putSys_other BY4.out nXY)))
  have BOv : Hid (BoxAt v5 wr.heap.size (opL p)) := Lib.hid (by rw [hV]; exact (putSys_other (putSys_other BO4.out (by omega)) (by omega)))
  have R1v : Hid (SysR (NotXY X Y) v5 s1 υ) := Lib.hid (by rw [hV]; exact putY_R (putX_R (R1b.out.below H4.out)))
  have R2v : Hid (SysR (NotXY X Y) v5 s2 υ) := Lib.hid (by rw [hV]; exact putY_R (putX_R (R2.out.below H4.out)))
  clear x0 x1 x2 x3 x4 x5 x6 x7 x8 f0 f1 f2 f3 f4 f5 f6 f7 f8 y0 y1 y2 y3 y4 y5 y6 y7 y8 g0 g1 g2 g3 g4 g5 g6 g7 g8 o0 o1 o2 o3 o4 o5 o6 o7 p1 p2 p3 p4 p5 p6 p7 p8 p9 pa pb pc pd pe q0 q1 q2 q3 q4 q5 q6 q7 q8 r0 r1 r2 r3 r4 r5 r6 r7 r8 pf pg ph
  try dsimp only [putSys] at hV
  rw [← hV]
  clear hV
  exact hQ.out _ _ _ _ _ _ _ _ _ _ _ _ _ _ _ _ _ _ _ _ _ _ _ _ _ _ _ _ _ _ _ _ v5 ⟨s1, s2, υ, HBv.out, BXv.out, BYv.out, BOv.out, R1v.out, R2v.out, TEn.out⟩

set_option linter.unusedSimpArgs false in
set_option linter.unusedVariables false in
set_option maxRecDepth 1000000 in
set_option maxHeartbeats 64000000 in
theorem tells9_arm5 (w wr : World) (X Y k : Nat) (sx sy : SysC) (τ : PS) (p : OpC) (HB : Hid (Below w.heap.size w wr)) (BX : Hid (BoxAt wr X (sysL sx))) (BY : Hid (BoxAt wr Y (sysL sy))) (RX : Hid (SysR (NotXY X Y) wr sx τ)) (RY : Hid (SysR (NotXY X Y) wr sy τ)) (TE : Hid (TeOk w τ k)) (PD : Hid (OpD w p)) (nXY : ¬ X = Y) (nYX : ¬ Y = X) (hwX : w.heap.size < X) (hwY : w.heap.size < Y)
    (CD : Hid (∀ (W : World), Below wr.heap.size wr W → Calls Try.prog 42 #[sysV sx, .int .i64 p.x] W (DropPost (NotXY X Y) (Ml.drop τ p.x) W))) (DD : Hid (∀ (W : World), SysR (NotXY X Y) W sy τ → Calls Try.prog 43 #[sysV sy, .int .i64 p.x] W (DropPost (NotXY X Y) (Ml.drop τ p.x) W))) (Q : Exit → Act → World → Prop) (c0 c1 c2 c3 c4 c5 c8 c11 c12 c13 c14 c15 c16 c17 c18 c19 c20 c21 c22 c23 c24 c25 c26 c27 c28 c29 c30 c31 c32 c33 c34 c35 c36 c37 c38 c39 c40 c41 c42 c43 c44 c45 c46 c47 c48 c49 c50 c51 c52 c53 c54 c55 c56 c57 c58 c59 c60 c61 c62 c63 c64 c65 c66 c67 c68 c69 c70 c71 c72 c73 c74 c75 c76 c77 c78 c79 c80 c81 c82 c83 c84 c85 c86 c87 c88 c89 c90 c91 c92 c93 c94 c95 c96 c97 c98 c99 c100 c101 c102 c103 c104 c105 c106 c107 c108 c109 c110 c111 c112 c113 c114 c115 c116 c117 c118 c119 c120 c121 c122 c123 c124 c125 c126 c127 c128 c129 c130 c131 c132 c133 c134 c135 c136 c137 c138 c139 c140 c141 c142 c143 c144 c145 c146 c147 c148 c149 c150 c151 c152 c153 c154 c155 c156 c157 c158 c159 c160 c161 c162 c163 c164 c165 c166 c167 c168 c169 c170 c171 c172 c173 c174 c175 c176 c177 c178 c179 c180 c181 c183 c184 c185 c186 c187 c188 c189 c190 c191 c192 c193 c194 c195 c196 c197 c198 c199 c200 c201 c202 c203 c204 c205 c206 c207 c208 c209 c210 c211 c212 c213 c214 c215 c216 c217 c218 c219 c220 c221 c222 c223 c224 : Value)
    (hQ : Hid (∀ (d184 d185 d186 d187 d188 d189 d190 d191 : Value) (V : World), TeCut w X Y wr.heap.size k p V → Q .normal ⟨#[c0, c1, c2, c3, c4, c5, .pointer (some ⟨X, 0, none⟩), .pointer (some ⟨Y, 0, none⟩), c8, .pointer (some ⟨wr.heap.size, 0, none⟩), .bool true, c11, c12, c13, c14, c15, c16, c17, c18, c19, c20, c21, c22, c23, c24, c25, c26, c27, c28, c29, c30, c31, c32, c33, c34, c35, c36, c37, c38, c39, c40, c41, c42, c43, c44, c45, c46, c47, c48, c49, c50, c51, c52, c53, c54, c55, c56, c57, c58, c59, c60, c61, c62, c63, c64, c65, c66, c67, c68, c69, c70, c71, c72, c73, c74, c75, c76, c77, c78, c79, c80, c81, c82, c83, c84, c85, c86, c87, c88, c89, c90, c91, c92, c93, c94, c95, c96, c97, c98, c99, c100, c101, c102, c103, c104, c105, c106, c107, c108, c109, c110, c111, c112, c113, c114, c115, c116, c117, c118, c119, c120, c121, c122, c123, c124, c125, c126, c127, c128, c129, c130, c131, c132, c133, c134, c135, c136, c137, c138, c139, c140, c141, c142, c143, c144, c145, c146, c147, c148, c149, c150, c151, c152, c153, c154, c155, c156, c157, c158, c159, c160, c161, c162, c163, c164, c165, c166, c167, c168, c169, c170, c171, c172, c173, c174, c175, c176, c177, c178, c179, c180, c181, .bool true, c183, d184, d185, d186, d187, d188, d189, d190, d191, c192, c193, c194, c195, c196, c197, c198, c199, c200, c201, c202, c203, c204, c205, c206, c207, c208, c209, c210, c211, c212, c213, c214, c215, c216, c217, c218, c219, c220, c221, c222, c223, c224], []⟩ V)) :
    Code.wp Try.prog (condCode 182) Q ⟨#[c0, c1, c2, c3, c4, c5, .pointer (some ⟨X, 0, none⟩), .pointer (some ⟨Y, 0, none⟩), c8, .pointer (some ⟨wr.heap.size, 0, none⟩), .bool true, c11, c12, c13, c14, c15, c16, c17, c18, c19, c20, c21, c22, c23, c24, c25, c26, c27, c28, c29, c30, c31, c32, c33, c34, c35, c36, c37, c38, c39, c40, c41, c42, c43, c44, c45, c46, c47, c48, c49, c50, c51, c52, c53, c54, c55, c56, c57, c58, c59, c60, c61, c62, c63, c64, c65, c66, c67, c68, c69, c70, c71, c72, c73, c74, c75, c76, c77, c78, c79, c80, c81, c82, c83, c84, c85, c86, c87, c88, c89, c90, c91, c92, c93, c94, c95, c96, c97, c98, c99, c100, c101, c102, c103, c104, c105, c106, c107, c108, c109, c110, c111, c112, c113, c114, c115, c116, c117, c118, c119, c120, c121, c122, c123, c124, c125, c126, c127, c128, c129, c130, c131, c132, c133, c134, c135, c136, c137, c138, c139, c140, c141, c142, c143, c144, c145, c146, c147, c148, c149, c150, c151, c152, c153, c154, c155, c156, c157, c158, c159, c160, c161, c162, c163, c164, c165, c166, c167, c168, c169, c170, c171, c172, c173, c174, c175, c176, c177, c178, c179, c180, c181, .bool true, c183, c184, c185, c186, c187, c188, c189, c190, c191, c192, c193, c194, c195, c196, c197, c198, c199, c200, c201, c202, c203, c204, c205, c206, c207, c208, c209, c210, c211, c212, c213, c214, c215, c216, c217, c218, c219, c220, c221, c222, c223, c224], []⟩ (wr.alloc (.cells #[.int .i64 p.op, .int .i64 p.x, .int .i64 p.y, .string p.path, .string p.l.src, .string p.l.msg, .slice p.l.args.a p.l.args.n p.l.args.c, .int .i64 p.l.sent] 58)) := by
  conv => arg 2; whnf
  have NP := Lib.hid (fun (N : Nat) (h1 : X < N) (h2 : Y < N) => notXY (P := NotXY X Y) h1 h2 (fun b h => h))
  have hxr : X < wr.heap.size := BX.out.1
  have hyr : Y < wr.heap.size := BY.out.1
  have n2 : ¬ X = wr.heap.size := by omega
  have n3 : ¬ Y = wr.heap.size := by omega
  obtain ⟨x0, x1, x2, x3, x4, x5, x6, x7, x8⟩ := sbox_cells BX.out
  obtain ⟨y0, y1, y2, y3, y4, y5, y6, y7, y8⟩ := sbox_cells BY.out
  go_wp2_with fail
  refine (CD.out _ (below_one wr _)).mono ?_
  rintro e v1 ⟨s1, rfl, hr1, h1⟩
  obtain ⟨υ, hpo⟩ : ∃ υ, Ml.drop τ p.x = υ := ⟨_, rfl⟩
  have TEn : Hid (TeOk w υ (k + 1)) := Lib.hid (by have h := TE.out.drop p.x; rw [hpo] at h; exact h)
  rw [hpo] at hr1
  have PO := Lib.hid hpo
  clear hpo
  have BO0 := Lib.hid (BoxAt.new wr 58 (opL p) _ rfl)
  have BO1 := Lib.hid (BO0.out.call h1)
  have hv1 : wr.heap.size < v1.heap.size := BO1.out.1
  have H1 : Hid (Below wr.heap.size wr v1) := Lib.hid (Below.call (below_one wr _) h1)
  have R1 : Hid (SysR (NotXY X Y) v1 s1 υ) := Lib.hid (hr1.mono (NP.out _ (by simp; omega) (by simp; omega)))
  have RY1 := Lib.hid (RY.out.below H1.out)
  have BX1 := Lib.hid (BX.out.call H1.out)
  have BY1 := Lib.hid (BY.out.call H1.out)
  clear h1 hr1 BO0 CD x0 x1 x2 x3 x4 x5 x6 x7 x8 y0 y1 y2 y3 y4 y5 y6 y7 y8
  obtain ⟨y0, y1, y2, y3, y4, y5, y6, y7, y8⟩ := sbox_cells BY1.out
  obtain ⟨o0, o1, o2, o3, o4, o5, o6, o7⟩ := op_cells BO1.out
  have p1 : X < v1.heap.size := BX1.out.1
  have p2 : Y < v1.heap.size := BY1.out.1
  have p3 : ¬ X = v1.heap.size := by omega
  have p4 : ¬ Y = v1.heap.size := by omega
  have p5 : ¬ wr.heap.size = v1.heap.size := by omega
  obtain ⟨x0, x1, x2, x3, x4, x5, x6, x7, x8⟩ := sbox_cells BX1.out
  obtain ⟨f0, f1, f2, f3, f4, f5, f6, f7, f8⟩ := sbox_free BX1.out
  go_wp2_with fail
  refine (DD.out _ (putX_R RY1.out)).mono ?_
  rintro e v2 ⟨s2, rfl, hr2, h2⟩
  rw [PO.out] at hr2
  clear PO
  have H2 := Lib.hid h2
  have hv2 : v1.heap.size ≤ v2.heap.size := by have := h2.size; simpa using this
  have R2 : Hid (SysR (NotXY X Y) v2 s2 υ) := Lib.hid (hr2.mono (NP.out _ (by simp; omega) (by simp; omega)))
  have HB2 : Hid (Below w.heap.size w v2) := Lib.hid (Below.call (putSys_below (Below.call HB.out H1.out) (by omega)) H2.out)
  have R1b := Lib.hid ((putX_R (s := s1) R1.out).below H2.out)
  have BX2 : Hid (BoxAt v2 X (sysL s1)) := Lib.hid ((putSys_box BX1.out).call H2.out)
  have BY2 : Hid (BoxAt v2 Y (sysL sy)) := Lib.hid ((putSys_other BY1.out nXY).call H2.out)
  have BO2 : Hid (BoxAt v2 wr.heap.size (opL p)) := Lib.hid ((putSys_other BO1.out (by omega)).call H2.out)
  clear h2 hr2 DD x0 x1 x2 x3 x4 x5 x6 x7 x8 f0 f1 f2 f3 f4 f5 f6 f7 f8 y0 y1 y2 y3 y4 y5 y6 y7 y8 o0 o1 o2 o3 o4 o5 o6 o7 p1 p2 p3 p4 p5
  obtain ⟨x0, x1, x2, x3, x4, x5, x6, x7, x8⟩ := sbox_cells BX2.out
  obtain ⟨y0, y1, y2, y3, y4, y5, y6, y7, y8⟩ := sbox_cells BY2.out
  obtain ⟨g0, g1, g2, g3, g4, g5, g6, g7, g8⟩ := sbox_free BY2.out
  obtain ⟨o0, o1, o2, o3, o4, o5, o6, o7⟩ := op_cells BO2.out
  have p1 : X < v2.heap.size := BX2.out.1
  have p2 : Y < v2.heap.size := BY2.out.1
  have p9 : ¬ wr.heap.size = X := by omega
  have pa : ¬ wr.heap.size = Y := by omega
  go_wp2_with fail
  obtain ⟨v5, hV⟩ : ∃ v, v = putSys v2 Y s2 := ⟨_, rfl⟩
  have HBv : Hid (Below w.heap.size w v5) := Lib.hid (by rw [hV]; exact putSys_below HB2.out (by omega))
  have BXv : Hid (BoxAt v5 X (sysL s1)) := Lib.hid (by rw [hV]; exact putSys_other BX2.out nYX)
  have BYv : Hid (BoxAt v5 Y (sysL s2)) := Lib.hid (by rw [hV]; exact putSys_box BY2.out)
  have BOv : Hid (BoxAt v5 wr.heap.size (opL p)) := Lib.hid (by rw [hV]; exact putSys_other BO2.out (by omega))
  have R1v : Hid (SysR (NotXY X Y) v5 s1 υ) := Lib.hid (by rw [hV]; exact putY_R R1b.out)
  have R2v : Hid (SysR (NotXY X Y) v5 s2 υ) := Lib.hid (by rw [hV]; exact putY_R R2.out)
  clear x0 x1 x2 x3 x4 x5 x6 x7 x8 y0 y1 y2 y3 y4 y5 y6 y7 y8 g0 g1 g2 g3 g4 g5 g6 g7 g8 o0 o1 o2 o3 o4 o5 o6 o7 p1 p2 p9 pa
  try dsimp only [putSys] at hV
  rw [← hV]
  clear hV
  exact hQ.out _ _ _ _ _ _ _ _ v5 ⟨s1, s2, υ, HBv.out, BXv.out, BYv.out, BOv.out, R1v.out, R2v.out, TEn.out⟩

set_option linter.unusedSimpArgs false in
set_option linter.unusedVariables false in
set_option maxRecDepth 1000000 in
set_option maxHeartbeats 64000000 in
theorem tells9_arm4 (w wr : World) (X Y k : Nat) (sx sy : SysC) (τ : PS) (p : OpC) (HB : Hid (Below w.heap.size w wr)) (BX : Hid (BoxAt wr X (sysL sx))) (BY : Hid (BoxAt wr Y (sysL sy))) (RX : Hid (SysR (NotXY X Y) wr sx τ)) (RY : Hid (SysR (NotXY X Y) wr sy τ)) (TE : Hid (TeOk w τ k)) (PD : Hid (OpD w p)) (nXY : ¬ X = Y) (nYX : ¬ Y = X) (hwX : w.heap.size < X) (hwY : w.heap.size < Y)
    (CA : Hid (∀ (W : World), Below wr.heap.size wr W → Calls Try.prog 40 #[sysV sx, .int .i64 p.x, .int .i64 p.y] W (SysFly (NotXY X Y) (Ml.arrive τ p.x p.y) W))) (DA : Hid (∀ (W : World), SysR (NotXY X Y) W sy τ → Calls Try.prog 41 #[sysV sy, .int .i64 p.x, .int .i64 p.y] W (SysFly (NotXY X Y) (Ml.arrive τ p.x p.y) W))) (Q : Exit → Act → World → Prop) (c0 c1 c2 c3 c4 c5 c8 c11 c12 c13 c14 c15 c16 c17 c18 c19 c20 c21 c22 c23 c24 c25 c26 c27 c28 c29 c30 c31 c32 c33 c34 c35 c36 c37 c38 c39 c40 c41 c42 c43 c44 c45 c46 c47 c48 c49 c50 c51 c52 c53 c54 c55 c56 c57 c58 c59 c60 c61 c62 c63 c64 c65 c66 c67 c68 c69 c70 c71 c72 c73 c74 c75 c76 c77 c78 c79 c80 c81 c82 c83 c84 c85 c86 c87 c88 c89 c90 c91 c92 c93 c94 c95 c96 c97 c98 c99 c100 c101 c102 c103 c104 c105 c106 c107 c108 c109 c110 c111 c112 c113 c114 c115 c116 c117 c118 c119 c120 c121 c122 c123 c124 c125 c126 c127 c128 c129 c130 c131 c132 c133 c134 c135 c136 c137 c138 c139 c140 c142 c143 c144 c145 c146 c147 c148 c149 c150 c151 c152 c153 c154 c155 c156 c157 c158 c159 c160 c161 c162 c163 c164 c165 c166 c167 c168 c169 c170 c171 c172 c173 c174 c175 c176 c177 c178 c179 c180 c181 c182 c183 c184 c185 c186 c187 c188 c189 c190 c191 c192 c193 c194 c195 c196 c197 c198 c199 c200 c201 c202 c203 c204 c205 c206 c207 c208 c209 c210 c211 c212 c213 c214 c215 c216 c217 c218 c219 c220 c221 c222 c223 c224 : Value)
    (hQ : Hid (∀ (d25 d26 d27 d28 d29 d30 d143 d144 d145 d146 d147 d148 d149 d150 d151 d152 d153 d154 d155 d156 d157 d158 d159 d160 d161 d162 d163 d164 d165 d166 d167 d168 d169 d170 d171 d172 d173 d174 d175 d176 d177 d178 d179 d180 d181 : Value) (V : World), TeCut w X Y wr.heap.size k p V → Q .normal ⟨#[c0, c1, c2, c3, c4, c5, .pointer (some ⟨X, 0, none⟩), .pointer (some ⟨Y, 0, none⟩), c8, .pointer (some ⟨wr.heap.size, 0, none⟩), .bool true, c11, c12, c13, c14, c15, c16, c17, c18, c19, c20, c21, c22, c23, c24, d25, d26, d27, d28, d29, d30, c31, c32, c33, c34, c35, c36, c37, c38, c39, c40, c41, c42, c43, c44, c45, c46, c47, c48, c49, c50, c51, c52, c53, c54, c55, c56, c57, c58, c59, c60, c61, c62, c63, c64, c65, c66, c67, c68, c69, c70, c71, c72, c73, c74, c75, c76, c77, c78, c79, c80, c81, c82, c83, c84, c85, c86, c87, c88, c89, c90, c91, c92, c93, c94, c95, c96, c97, c98, c99, c100, c101, c102, c103, c104, c105, c106, c107, c108, c109, c110, c111, c112, c113, c114, c115, c116, c117, c118, c119, c120, c121, c122, c123, c124, c125, c126, c127, c128, c129, c130, c131, c132, c133, c134, c135, c136, c137, c138, c139, c140, .bool true, c142, d143, d144, d145, d146, d147, d148, d149, d150, d151, d152, d153, d154, d155, d156, d157, d158, d159, d160, d161, d162, d163, d164, d165, d166, d167, d168, d169, d170, d171, d172, d173, d174, d175, d176, d177, d178, d179, d180, d181, c182, c183, c184, c185, c186, c187, c188, c189, c190, c191, c192, c193, c194, c195, c196, c197, c198, c199, c200, c201, c202, c203, c204, c205, c206, c207, c208, c209, c210, c211, c212, c213, c214, c215, c216, c217, c218, c219, c220, c221, c222, c223, c224], []⟩ V)) :
    Code.wp Try.prog (condCode 141) Q ⟨#[c0, c1, c2, c3, c4, c5, .pointer (some ⟨X, 0, none⟩), .pointer (some ⟨Y, 0, none⟩), c8, .pointer (some ⟨wr.heap.size, 0, none⟩), .bool true, c11, c12, c13, c14, c15, c16, c17, c18, c19, c20, c21, c22, c23, c24, c25, c26, c27, c28, c29, c30, c31, c32, c33, c34, c35, c36, c37, c38, c39, c40, c41, c42, c43, c44, c45, c46, c47, c48, c49, c50, c51, c52, c53, c54, c55, c56, c57, c58, c59, c60, c61, c62, c63, c64, c65, c66, c67, c68, c69, c70, c71, c72, c73, c74, c75, c76, c77, c78, c79, c80, c81, c82, c83, c84, c85, c86, c87, c88, c89, c90, c91, c92, c93, c94, c95, c96, c97, c98, c99, c100, c101, c102, c103, c104, c105, c106, c107, c108, c109, c110, c111, c112, c113, c114, c115, c116, c117, c118, c119, c120, c121, c122, c123, c124, c125, c126, c127, c128, c129, c130, c131, c132, c133, c134, c135, c136, c137, c138, c139, c140, .bool true, c142, c143, c144, c145, c146, c147, c148, c149, c150, c151, c152, c153, c154, c155, c156, c157, c158, c159, c160, c161, c162, c163, c164, c165, c166, c167, c168, c169, c170, c171, c172, c173, c174, c175, c176, c177, c178, c179, c180, c181, c182, c183, c184, c185, c186, c187, c188, c189, c190, c191, c192, c193, c194, c195, c196, c197, c198, c199, c200, c201, c202, c203, c204, c205, c206, c207, c208, c209, c210, c211, c212, c213, c214, c215, c216, c217, c218, c219, c220, c221, c222, c223, c224], []⟩ (wr.alloc (.cells #[.int .i64 p.op, .int .i64 p.x, .int .i64 p.y, .string p.path, .string p.l.src, .string p.l.msg, .slice p.l.args.a p.l.args.n p.l.args.c, .int .i64 p.l.sent] 58)) := by
  conv => arg 2; whnf
  have NP := Lib.hid (fun (N : Nat) (h1 : X < N) (h2 : Y < N) => notXY (P := NotXY X Y) h1 h2 (fun b h => h))
  have hxr : X < wr.heap.size := BX.out.1
  have hyr : Y < wr.heap.size := BY.out.1
  have n2 : ¬ X = wr.heap.size := by omega
  have n3 : ¬ Y = wr.heap.size := by omega
  obtain ⟨x0, x1, x2, x3, x4, x5, x6, x7, x8⟩ := sbox_cells BX.out
  obtain ⟨y0, y1, y2, y3, y4, y5, y6, y7, y8⟩ := sbox_cells BY.out
  go_wp2_with fail
  refine (CA.out _ (below_one wr _)).mono ?_
  rintro e v1 ⟨s1, rfl, hr1, h1⟩
  obtain ⟨υ, fl, ok, hpo⟩ : ∃ υ fl ok, Ml.arrive τ p.x p.y = (υ, fl, ok) := ⟨_, _, _, rfl⟩
  have TEn : Hid (TeOk w υ (k + 1)) := Lib.hid (by have h := TE.out.arrive p.x p.y; rw [hpo] at h; exact h)
  have LD : Hid (LetD w fl.l) := Lib.hid (by have h := (arrive_deep p.x p.y TE.out.deep).2; rw [hpo] at h; exact h)
  rw [hpo] at hr1 ⊢
  have PO := Lib.hid hpo
  clear hpo
  have tok : (ok == ok) = true := by simp
  have tpa := str_yes (rfl : fl.path = fl.path)
  have BO0 := Lib.hid (BoxAt.new wr 58 (opL p) _ rfl)
  have BO1 := Lib.hid (BO0.out.call h1)
  have hv1 : wr.heap.size < v1.heap.size := BO1.out.1
  have H1 : Hid (Below wr.heap.size wr v1) := Lib.hid (Below.call (below_one wr _) h1)
  have R1 : Hid (SysR (NotXY X Y) v1 s1 υ) := Lib.hid (hr1.mono (NP.out _ (by simp; omega) (by simp; omega)))
  have RY1 := Lib.hid (RY.out.below H1.out)
  have BX1 := Lib.hid (BX.out.call H1.out)
  have BY1 := Lib.hid (BY.out.call H1.out)
  clear h1 hr1 BO0 CA x0 x1 x2 x3 x4 x5 x6 x7 x8 y0 y1 y2 y3 y4 y5 y6 y7 y8
  obtain ⟨y0, y1, y2, y3, y4, y5, y6, y7, y8⟩ := sbox_cells BY1.out
  obtain ⟨o0, o1, o2, o3, o4, o5, o6, o7⟩ := op_cells BO1.out
  have p1 : X < v1.heap.size := BX1.out.1
  have p2 : Y < v1.heap.size := BY1.out.1
  have p3 : ¬ X = v1.heap.size := by omega
  have p4 : ¬ Y = v1.heap.size := by omega
  have p5 : ¬ wr.heap.size = v1.heap.size := by omega
  go_wp2_with fail
  refine (DA.out _ (RY1.out.below (Below.call (below_one _ _) (below_one _ _)))).mono ?_
  rintro e v2 ⟨s2, rfl, hr2, h2⟩
  rw [PO.out] at hr2 ⊢
  clear PO
  have H2 : Hid (Below v1.heap.size v1 v2) := Lib.hid (Below.call (Below.call (below_one _ _) (below_one _ _)) h2)
  have hv2 := H2.out.size
  have R2 : Hid (SysR (NotXY X Y) v2 s2 υ) := Lib.hid (hr2.mono (NP.out _ (by simp; omega) (by simp; omega)))
  have BP2 := Lib.hid (((BoxAt.new v1 28 (sysL s1) _ rfl).alloc _).call h2)
  have BL2 := Lib.hid ((BoxAt.new _ 66 (flyL fl) (v1.heap.size + 1) (by simp)).call h2)
  have HB2 := Lib.hid (Below.call HB.out (Below.call H1.out H2.out))
  have R1b := Lib.hid (R1.out.below H2.out)
  have BX2 := Lib.hid (BX1.out.call H2.out)
  have BY2 := Lib.hid (BY1.out.call H2.out)
  have BO2 := Lib.hid (BO1.out.call H2.out)
  clear h2 hr2 DA y0 y1 y2 y3 y4 y5 y6 y7 y8 o0 o1 o2 o3 o4 o5 o6 o7 p1 p2 p3 p4 p5
  obtain ⟨x0, x1, x2, x3, x4, x5, x6, x7, x8⟩ := sbox_cells BX2.out
  obtain ⟨f0, f1, f2, f3, f4, f5, f6, f7, f8⟩ := sbox_free BX2.out
  obtain ⟨y0, y1, y2, y3, y4, y5, y6, y7, y8⟩ := sbox_cells BY2.out
  obtain ⟨g0, g1, g2, g3, g4, g5, g6, g7, g8⟩ := sbox_free BY2.out
  obtain ⟨o0, o1, o2, o3, o4, o5, o6, o7⟩ := op_cells BO2.out
  obtain ⟨q0, q1, q2, q3, q4, q5, q6, q7, q8⟩ := sbox_cells BP2.out
  obtain ⟨r0, r1, r2, r3, r4, r5, r6⟩ := fly_cells BL2.out
  have pi : v1.heap.size + 1 < v2.heap.size := BL2.out.1
  have pj : ¬ v1.heap.size + 1 = v2.heap.size := by omega
  have p1 : X < v2.heap.size := BX2.out.1
  have p2 : Y < v2.heap.size := BY2.out.1
  have p3 : ¬ X = v2.heap.size := by omega
  have p4 : ¬ Y = v2.heap.size := by omega
  have p5 : ¬ X = v1.heap.size := by omega
  have p6 : ¬ Y = v1.heap.size := by omega
  have p7 : wr.heap.size < v2.heap.size := BO2.out.1
  have p8 : ¬ wr.heap.size = v2.heap.size := by omega
  have p9 : ¬ wr.heap.size = X := by omega
  have pa : ¬ wr.heap.size = Y := by omega
  have pb : v1.heap.size < v2.heap.size := BP2.out.1
  have pc : ¬ v1.heap.size = X := by omega
  have pd : ¬ v1.heap.size = Y := by omega
  have pe : ¬ v1.heap.size = v2.heap.size := by omega
  go_wp2_with fail
  obtain ⟨v3, hv3⟩ : ∃ v, v = (v2.alloc (.cells #[.slice s2.up.a s2.up.n s2.up.c, .int .i64 s2.moment, .int .i64 s2.clock, .int .i64 s2.seq, .slice s2.actors.a s2.actors.n s2.actors.c, .slice s2.flights.a s2.flights.n s2.flights.c, .slice s2.alarms.a s2.alarms.n s2.alarms.c, .slice s2.asked.a s2.asked.n s2.asked.c, .int .i64 s2.dead] 28)).alloc (.cells #[.int .i64 fl.x, .int .i64 fl.y, .string fl.path, .string fl.l.src, .string fl.l.msg, .slice fl.l.args.a fl.l.args.n fl.l.args.c, .int .i64 fl.l.sent] 66) := ⟨_, rfl⟩
  have H3 : Hid (Below v2.heap.size v2 v3) := Lib.hid (by rw [hv3]; exact Below.call (below_one _ _) (below_one _ _))
  have BQ3 : Hid (BoxAt v3 v2.heap.size (sysL s2)) := Lib.hid (by rw [hv3]; exact (BoxAt.new v2 28 (sysL s2) _ rfl).alloc _)
  have hv3s : v2.heap.size < v3.heap.size := BQ3.out.1
  rw [← hv3]
  clear hv3
  refine (sameLetter_true _ _ v3 ((LD.out.below (Below.call HB2.out H3.out)).self)).mono ?_
  rintro e v4 ⟨rfl, h4⟩
  have H4 := Lib.hid (Below.call H3.out h4)
  have HB4 := Lib.hid (Below.call HB2.out H4.out)
  have BX4 := Lib.hid (BX2.out.call H4.out)
  have BY4 := Lib.hid (BY2.out.call H4.out)
  have BO4 := Lib.hid (BO2.out.call H4.out)
  have BP4 := Lib.hid (BP2.out.call H4.out)
  have BQ4 := Lib.hid (BQ3.out.call h4)
  have hv4 := h4.size
  clear h4 x0 x1 x2 x3 x4 x5 x6 x7 x8 f0 f1 f2 f3 f4 f5 f6 f7 f8 y0 y1 y2 y3 y4 y5 y6 y7 y8 g0 g1 g2 g3 g4 g5 g6 g7 g8 q0 q1 q2 q3 q4 q5 q6 q7 q8 r0 r1 r2 r3 r4 r5 r6 o0 o1 o2 o3 o4 o5 o6 o7 p1 p2 p3 p4 p5 p6 p7 p8 p9 pa pb pc pd pe pi pj
  obtain ⟨x0, x1, x2, x3, x4, x5, x6, x7, x8⟩ := sbox_cells BX4.out
  obtain ⟨f0, f1, f2, f3, f4, f5, f6, f7, f8⟩ := sbox_free BX4.out
  obtain ⟨y0, y1, y2, y3, y4, y5, y6, y7, y8⟩ := sbox_cells BY4.out
  obtain ⟨g0, g1, g2, g3, g4, g5, g6, g7, g8⟩ := sbox_free BY4.out
  obtain ⟨o0, o1, o2, o3, o4, o5, o6, o7⟩ := op_cells BO4.out
  obtain ⟨q0, q1, q2, q3, q4, q5, q6, q7, q8⟩ := sbox_cells BP4.out
  obtain ⟨r0, r1, r2, r3, r4, r5, r6, r7, r8⟩ := sbox_cells BQ4.out
  have pf : ¬ v2.heap.size = X := by omega
  have pg : ¬ v2.heap.size = Y := by omega
  have ph : v2.heap.size < v4.heap.size := BQ4.out.1
  have p1 : X < v4.heap.size := BX4.out.1
  have p2 : Y < v4.heap.size := BY4.out.1
  have p3 : ¬ X = v4.heap.size := by omega
  have p4 : ¬ Y = v4.heap.size := by omega
  have p5 : ¬ X = v1.heap.size := by omega
  have p6 : ¬ Y = v1.heap.size := by omega
  have p7 : wr.heap.size < v4.heap.size := BO4.out.1
  have p8 : ¬ wr.heap.size = v4.heap.size := by omega
  have p9 : ¬ wr.heap.size = X := by omega
  have pa : ¬ wr.heap.size = Y := by omega
  have pb : v1.heap.size < v4.heap.size := BP4.out.1
  have pc : ¬ v1.heap.size = X := by omega
  have pd : ¬ v1.heap.size = Y := by omega
  have pe : ¬ v1.heap.size = v4.heap.size := by omega
  go_wp2_with fail
  obtain ⟨v5, hV⟩ : ∃ v, v = putSys (putSys v4 X s1) Y s2 := ⟨_, rfl⟩
  have HBv : Hid (Below w.heap.size w v5) := Lib.hid (by rw [hV]; exact putSys_below (putSys_below HB4.out (by omega)) (by omega))
  have BXv : Hid (BoxAt v5 X (sysL s1)) := Lib.hid (by rw [hV]; exact (putSys_other (putSys_box BX4.out) nYX))
  have BYv : Hid (BoxAt v5 Y (sysL s2)) := Lib.hid (by rw [hV]; exact (putSys_box (putSys_other BY4.out nXY)))
  have BOv : Hid (BoxAt v5 wr.heap.size (opL p)) := Lib.hid (by rw [hV]; exact (putSys_other (putSys_other BO4.out (by omega)) (by omega)))
  have R1v : Hid (SysR (NotXY X Y) v5 s1 υ) := Lib.hid (by rw [hV]; exact putY_R (putX_R (R1b.out.below H4.out)))
  have R2v : Hid (SysR (NotXY X Y) v5 s2 υ) := Lib.hid (by rw [hV]; exact putY_R (putX_R (R2.out.below H4.out)))
  clear x0 x1 x2 x3 x4 x5 x6 x7 x8 f0 f1 f2 f3 f4 f5 f6 f7 f8 y0 y1 y2 y3 y4 y5 y6 y7 y8 g0 g1 g2 g3 g4 g5 g6 g7 g8 o0 o1 o2 o3 o4 o5 o6 o7 p1 p2 p3 p4 p5 p6 p7 p8 p9 pa pb pc pd pe q0 q1 q2 q3 q4 q5 q6 q7 q8 r0 r1 r2 r3 r4 r5 r6 r7 r8 pf pg ph
  try dsimp only [putSys] at hV
  rw [← hV]
  clear hV
  exact hQ.out _ _ _ _ _ _ _ _ _ _ _ _ _ _ _ _ _ _ _ _ _ _ _ _ _ _ _ _ _ _ _ _ _ _ _ _ _ _ _ _ _ _ _ _ _ v5 ⟨s1, s2, υ, HBv.out, BXv.out, BYv.out, BOv.out, R1v.out, R2v.out, TEn.out⟩

end Go.Proofs.Ytjdjfjokniingaa
