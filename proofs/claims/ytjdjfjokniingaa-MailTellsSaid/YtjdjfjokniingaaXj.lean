/- The arms of the switch of MailTells: Post and Send. -/
import Derived.Test.YtjdjfjokniingaaXh
namespace Go.Proofs.Ytjdjfjokniingaa
open Go.RowKit

set_option linter.unusedSimpArgs false in
set_option linter.unusedVariables false in
set_option maxRecDepth 1000000 in
set_option maxHeartbeats 64000000 in
theorem tells9_arm1 (w wr : World) (X Y k : Nat) (sx sy : SysC) (τ : PS) (p : OpC) (HB : Hid (Below w.heap.size w wr)) (BX : Hid (BoxAt wr X (sysL sx))) (BY : Hid (BoxAt wr Y (sysL sy))) (RX : Hid (SysR (NotXY X Y) wr sx τ)) (RY : Hid (SysR (NotXY X Y) wr sy τ)) (TE : Hid (TeOk w τ k)) (PD : Hid (OpD w p)) (nXY : ¬ X = Y) (nYX : ¬ Y = X) (hwX : w.heap.size < X) (hwY : w.heap.size < Y)
    (CP : Hid (∀ (W : World), Below wr.heap.size wr W → Calls Try.prog 33 #[sysV sx, .string p.path, letV p.l] W (SysPost (NotXY X Y) (Ml.post τ p.path p.l) W))) (DP : Hid (∀ (W : World), SysR (NotXY X Y) W sy τ → Calls Try.prog 34 #[sysV sy, .string p.path, letV p.l] W (SysPost (NotXY X Y) (Ml.post τ p.path p.l) W))) (Q : Exit → Act → World → Prop) (c0 c1 c2 c3 c4 c5 c8 c11 c12 c13 c14 c15 c16 c17 c18 c19 c20 c21 c22 c23 c24 c25 c26 c27 c28 c29 c30 c31 c32 c33 c34 c35 c36 c37 c38 c39 c40 c41 c42 c43 c44 c45 c46 c47 c48 c49 c50 c51 c52 c53 c54 c55 c56 c57 c58 c60 c61 c62 c63 c64 c65 c66 c67 c68 c69 c70 c71 c72 c73 c74 c75 c76 c77 c78 c79 c80 c81 c82 c83 c84 c85 c86 c87 c88 c89 c90 c91 c92 c93 c94 c95 c96 c97 c98 c99 c100 c101 c102 c103 c104 c105 c106 c107 c108 c109 c110 c111 c112 c113 c114 c115 c116 c117 c118 c119 c120 c121 c122 c123 c124 c125 c126 c127 c128 c129 c130 c131 c132 c133 c134 c135 c136 c137 c138 c139 c140 c141 c142 c143 c144 c145 c146 c147 c148 c149 c150 c151 c152 c153 c154 c155 c156 c157 c158 c159 c160 c161 c162 c163 c164 c165 c166 c167 c168 c169 c170 c171 c172 c173 c174 c175 c176 c177 c178 c179 c180 c181 c182 c183 c184 c185 c186 c187 c188 c189 c190 c191 c192 c193 c194 c195 c196 c197 c198 c199 c200 c201 c202 c203 c204 c205 c206 c207 c208 c209 c210 c211 c212 c213 c214 c215 c216 c217 c218 c219 c220 c221 c222 c223 c224 : Value)
    (hQ : Hid (∀ (d11 d12 d13 d14 d61 d62 d63 d64 d65 d66 d67 d68 d69 d70 d71 d72 d73 d74 d75 d76 d77 d78 d79 d80 d81 d82 d83 : Value) (V : World), TeCut w X Y wr.heap.size k p V → Q .normal ⟨#[c0, c1, c2, c3, c4, c5, .pointer (some ⟨X, 0, none⟩), .pointer (some ⟨Y, 0, none⟩), c8, .pointer (some ⟨wr.heap.size, 0, none⟩), .bool true, d11, d12, d13, d14, c15, c16, c17, c18, c19, c20, c21, c22, c23, c24, c25, c26, c27, c28, c29, c30, c31, c32, c33, c34, c35, c36, c37, c38, c39, c40, c41, c42, c43, c44, c45, c46, c47, c48, c49, c50, c51, c52, c53, c54, c55, c56, c57, c58, .bool true, c60, d61, d62, d63, d64, d65, d66, d67, d68, d69, d70, d71, d72, d73, d74, d75, d76, d77, d78, d79, d80, d81, d82, d83, c84, c85, c86, c87, c88, c89, c90, c91, c92, c93, c94, c95, c96, c97, c98, c99, c100, c101, c102, c103, c104, c105, c106, c107, c108, c109, c110, c111, c112, c113, c114, c115, c116, c117, c118, c119, c120, c121, c122, c123, c124, c125, c126, c127, c128, c129, c130, c131, c132, c133, c134, c135, c136, c137, c138, c139, c140, c141, c142, c143, c144, c145, c146, c147, c148, c149, c150, c151, c152, c153, c154, c155, c156, c157, c158, c159, c160, c161, c162, c163, c164, c165, c166, c167, c168, c169, c170, c171, c172, c173, c174, c175, c176, c177, c178, c179, c180, c181, c182, c183, c184, c185, c186, c187, c188, c189, c190, c191, c192, c193, c194, c195, c196, c197, c198, c199, c200, c201, c202, c203, c204, c205, c206, c207, c208, c209, c210, c211, c212, c213, c214, c215, c216, c217, c218, c219, c220, c221, c222, c223, c224], []⟩ V)) :
    Code.wp Try.prog (condCode 59) Q ⟨#[c0, c1, c2, c3, c4, c5, .pointer (some ⟨X, 0, none⟩), .pointer (some ⟨Y, 0, none⟩), c8, .pointer (some ⟨wr.heap.size, 0, none⟩), .bool true, c11, c12, c13, c14, c15, c16, c17, c18, c19, c20, c21, c22, c23, c24, c25, c26, c27, c28, c29, c30, c31, c32, c33, c34, c35, c36, c37, c38, c39, c40, c41, c42, c43, c44, c45, c46, c47, c48, c49, c50, c51, c52, c53, c54, c55, c56, c57, c58, .bool true, c60, c61, c62, c63, c64, c65, c66, c67, c68, c69, c70, c71, c72, c73, c74, c75, c76, c77, c78, c79, c80, c81, c82, c83, c84, c85, c86, c87, c88, c89, c90, c91, c92, c93, c94, c95, c96, c97, c98, c99, c100, c101, c102, c103, c104, c105, c106, c107, c108, c109, c110, c111, c112, c113, c114, c115, c116, c117, c118, c119, c120, c121, c122, c123, c124, c125, c126, c127, c128, c129, c130, c131, c132, c133, c134, c135, c136, c137, c138, c139, c140, c141, c142, c143, c144, c145, c146, c147, c148, c149, c150, c151, c152, c153, c154, c155, c156, c157, c158, c159, c160, c161, c162, c163, c164, c165, c166, c167, c168, c169, c170, c171, c172, c173, c174, c175, c176, c177, c178, c179, c180, c181, c182, c183, c184, c185, c186, c187, c188, c189, c190, c191, c192, c193, c194, c195, c196, c197, c198, c199, c200, c201, c202, c203, c204, c205, c206, c207, c208, c209, c210, c211, c212, c213, c214, c215, c216, c217, c218, c219, c220, c221, c222, c223, c224], []⟩ (wr.alloc (.cells #[.int .i64 p.op, .int .i64 p.x, .int .i64 p.y, .string p.path, .string p.l.src, .string p.l.msg, .slice p.l.args.a p.l.args.n p.l.args.c, .int .i64 p.l.sent] 58)) := by
  conv => arg 2; whnf
  have NP := Lib.hid (fun (N : Nat) (h1 : X < N) (h2 : Y < N) => notXY (P := NotXY X Y) h1 h2 (fun b h => h))
  have hxr : X < wr.heap.size := BX.out.1
  have hyr : Y < wr.heap.size := BY.out.1
  have n2 : ¬ X = wr.heap.size := by omega
  have n3 : ¬ Y = wr.heap.size := by omega
  obtain ⟨x0, x1, x2, x3, x4, x5, x6, x7, x8⟩ := sbox_cells BX.out
  obtain ⟨y0, y1, y2, y3, y4, y5, y6, y7, y8⟩ := sbox_cells BY.out
  go_wp2_with fail
  refine (CP.out _ (below_one wr _)).mono ?_
  rintro e v1 ⟨s1, rfl, hr1, h1⟩
  obtain ⟨υ, ok, hpo⟩ : ∃ υ ok, Ml.post τ p.path p.l = (υ, ok) := ⟨_, _, rfl⟩
  have TEn : Hid (TeOk w υ (k + 1)) := Lib.hid (by have h := TE.out.post p.path PD.out.l; rw [hpo] at h; exact h)
  rw [hpo] at hr1 ⊢
  have PO := Lib.hid hpo
  clear hpo
  have tok : (ok == ok) = true := by simp
  have BO0 := Lib.hid (BoxAt.new wr 58 (opL p) _ rfl)
  have BO1 := Lib.hid (BO0.out.call h1)
  have hv1 : wr.heap.size < v1.heap.size := BO1.out.1
  have H1 : Hid (Below wr.heap.size wr v1) := Lib.hid (Below.call (below_one wr _) h1)
  have R1 : Hid (SysR (NotXY X Y) v1 s1 υ) := Lib.hid (hr1.mono (NP.out _ (by simp; omega) (by simp; omega)))
  have RY1 := Lib.hid (RY.out.below H1.out)
  have BX1 := Lib.hid (BX.out.call H1.out)
  have BY1 := Lib.hid (BY.out.call H1.out)
  clear h1 hr1 BO0 CP x0 x1 x2 x3 x4 x5 x6 x7 x8 y0 y1 y2 y3 y4 y5 y6 y7 y8
  obtain ⟨y0, y1, y2, y3, y4, y5, y6, y7, y8⟩ := sbox_cells BY1.out
  obtain ⟨o0, o1, o2, o3, o4, o5, o6, o7⟩ := op_cells BO1.out
  have p1 : X < v1.heap.size := BX1.out.1
  have p2 : Y < v1.heap.size := BY1.out.1
  have p3 : ¬ X = v1.heap.size := by omega
  have p4 : ¬ Y = v1.heap.size := by omega
  have p5 : ¬ wr.heap.size = v1.heap.size := by omega
  go_wp2_with fail
  refine (DP.out _ (RY1.out.below (below_one _ _))).mono ?_
  rintro e v2 ⟨s2, rfl, hr2, h2⟩
  rw [PO.out] at hr2 ⊢
  clear PO
  have H2 : Hid (Below v1.heap.size v1 v2) := Lib.hid (Below.call (below_one _ _) h2)
  have hv2 := H2.out.size
  have R2 : Hid (SysR (NotXY X Y) v2 s2 υ) := Lib.hid (hr2.mono (NP.out _ (by simp; omega) (by simp; omega)))
  have BP2 := Lib.hid ((BoxAt.new v1 28 (sysL s1) _ rfl).call h2)
  have HB2 := Lib.hid (Below.call HB.out (Below.call H1.out H2.out))
  have R1b := Lib.hid (R1.out.below H2.out)
  have BX2 := Lib.hid (BX1.out.call H2.out)
  have BY2 := Lib.hid (BY1.out.call H2.out)
  have BO2 := Lib.hid (BO1.out.call H2.out)
  clear h2 hr2 DP y0 y1 y2 y3 y4 y5 y6 y7 y8 o0 o1 o2 o3 o4 o5 o6 o7 p1 p2 p3 p4 p5
  obtain ⟨x0, x1, x2, x3, x4, x5, x6, x7, x8⟩ := sbox_cells BX2.out
  obtain ⟨f0, f1, f2, f3, f4, f5, f6, f7, f8⟩ := sbox_free BX2.out
  obtain ⟨y0, y1, y2, y3, y4, y5, y6, y7, y8⟩ := sbox_cells BY2.out
  obtain ⟨g0, g1, g2, g3, g4, g5, g6, g7, g8⟩ := sbox_free BY2.out
  obtain ⟨o0, o1, o2, o3, o4, o5, o6, o7⟩ := op_cells BO2.out
  obtain ⟨q0, q1, q2, q3, q4, q5, q6, q7, q8⟩ := sbox_cells BP2.out
  have p1 : X < v2.heap.size := BX2.out.1
  have p2 : Y < v2.heap.size := BY2.out.1
  have p3 : ¬ X = v2.heap.size := by omega
  have p4 : ¬ Y = v2.heap.size := by omega
  have p5 : ¬ X = v1.heap.size := by omega
  have p6 : ¬ Y = v1.heap.size := by omega
  have p7 : wr.heap.size < v2.heap.size := BO2.out.1
  have p8 : ¬ wr.heap.size = v2.heap.size := by omega
  have p9 : ¬ wr.heap.size = X := by omega
  have pa : ¬ wr.heap.size = Y := by omega
  have pb : v1.heap.size < v2.heap.size := BP2.out.1
  have pc : ¬ v1.heap.size = X := by omega
  have pd : ¬ v1.heap.size = Y := by omega
  have pe : ¬ v1.heap.size = v2.heap.size := by omega
  go_wp2_with fail
  obtain ⟨v5, hV⟩ : ∃ v, v = (putSys (putSys v2 X s1) Y s2).alloc (.cells #[.slice s2.up.a s2.up.n s2.up.c, .int .i64 s2.moment, .int .i64 s2.clock, .int .i64 s2.seq, .slice s2.actors.a s2.actors.n s2.actors.c, .slice s2.flights.a s2.flights.n s2.flights.c, .slice s2.alarms.a s2.alarms.n s2.alarms.c, .slice s2.asked.a s2.asked.n s2.asked.c, .int .i64 s2.dead] 28) := ⟨_, rfl⟩
  have HBv : Hid (Below w.heap.size w v5) := Lib.hid (by rw [hV]; exact (putSys_below (putSys_below HB2.out (by omega)) (by omega)).alloc (by first | omega | (simp; omega) | (simp; done)) _)
  have BXv : Hid (BoxAt v5 X (sysL s1)) := Lib.hid (by rw [hV]; exact (putSys_other (putSys_box BX2.out) nYX).alloc _)
  have BYv : Hid (BoxAt v5 Y (sysL s2)) := Lib.hid (by rw [hV]; exact (putSys_box (putSys_other BY2.out nXY)).alloc _)
  have BOv : Hid (BoxAt v5 wr.heap.size (opL p)) := Lib.hid (by rw [hV]; exact (putSys_other (putSys_other BO2.out (by omega)) (by omega)).alloc _)
  have R1v : Hid (SysR (NotXY X Y) v5 s1 υ) := Lib.hid (by rw [hV]; exact (putY_R (putX_R R1b.out)).below (below_one _ _))
  have R2v : Hid (SysR (NotXY X Y) v5 s2 υ) := Lib.hid (by rw [hV]; exact (putY_R (putX_R R2.out)).below (below_one _ _))
  clear x0 x1 x2 x3 x4 x5 x6 x7 x8 f0 f1 f2 f3 f4 f5 f6 f7 f8 y0 y1 y2 y3 y4 y5 y6 y7 y8 g0 g1 g2 g3 g4 g5 g6 g7 g8 o0 o1 o2 o3 o4 o5 o6 o7 p1 p2 p3 p4 p5 p6 p7 p8 p9 pa pb pc pd pe q0 q1 q2 q3 q4 q5 q6 q7 q8
  try dsimp only [putSys] at hV
  rw [← hV]
  clear hV
  exact hQ.out _ _ _ _ _ _ _ _ _ _ _ _ _ _ _ _ _ _ _ _ _ _ _ _ _ _ _ v5 ⟨s1, s2, υ, HBv.out, BXv.out, BYv.out, BOv.out, R1v.out, R2v.out, TEn.out⟩

set_option linter.unusedSimpArgs false in
set_option linter.unusedVariables false in
set_option maxRecDepth 1000000 in
set_option maxHeartbeats 64000000 in
theorem tells9_arm2 (w wr : World) (X Y k : Nat) (sx sy : SysC) (τ : PS) (p : OpC) (HB : Hid (Below w.heap.size w wr)) (BX : Hid (BoxAt wr X (sysL sx))) (BY : Hid (BoxAt wr Y (sysL sy))) (RX : Hid (SysR (NotXY X Y) wr sx τ)) (RY : Hid (SysR (NotXY X Y) wr sy τ)) (TE : Hid (TeOk w τ k)) (PD : Hid (OpD w p)) (nXY : ¬ X = Y) (nYX : ¬ Y = X) (hwX : w.heap.size < X) (hwY : w.heap.size < Y)
    (CS : Hid (∀ (W : World), Below wr.heap.size wr W → Calls Try.prog 35 #[sysV sx, .int .i64 p.x, .string p.path, letV p.l] W (SysPost (NotXY X Y) (Ml.send τ p.x p.path p.l) W))) (DS : Hid (∀ (W : World), SysR (NotXY X Y) W sy τ → Calls Try.prog 36 #[sysV sy, .int .i64 p.x, .string p.path, letV p.l] W (SysPost (NotXY X Y) (Ml.send τ p.x p.path p.l) W))) (Q : Exit → Act → World → Prop) (c0 c1 c2 c3 c4 c5 c8 c11 c12 c13 c14 c15 c16 c17 c18 c19 c20 c21 c22 c23 c24 c25 c26 c27 c28 c29 c30 c31 c32 c33 c34 c35 c36 c37 c38 c39 c40 c41 c42 c43 c44 c45 c46 c47 c48 c49 c50 c51 c52 c53 c54 c55 c56 c57 c58 c59 c60 c61 c62 c63 c64 c65 c66 c67 c68 c69 c70 c71 c72 c73 c74 c75 c76 c77 c78 c79 c80 c81 c82 c83 c85 c86 c87 c88 c89 c90 c91 c92 c93 c94 c95 c96 c97 c98 c99 c100 c101 c102 c103 c104 c105 c106 c107 c108 c109 c110 c111 c112 c113 c114 c115 c116 c117 c118 c119 c120 c121 c122 c123 c124 c125 c126 c127 c128 c129 c130 c131 c132 c133 c134 c135 c136 c137 c138 c139 c140 c141 c142 c143 c144 c145 c146 c147 c148 c149 c150 c151 c152 c153 c154 c155 c156 c157 c158 c159 c160 c161 c162 c163 c164 c165 c166 c167 c168 c169 c170 c171 c172 c173 c174 c175 c176 c177 c178 c179 c180 c181 c182 c183 c184 c185 c186 c187 c188 c189 c190 c191 c192 c193 c194 c195 c196 c197 c198 c199 c200 c201 c202 c203 c204 c205 c206 c207 c208 c209 c210 c211 c212 c213 c214 c215 c216 c217 c218 c219 c220 c221 c222 c223 c224 : Value)
    (hQ : Hid (∀ (d15 d16 d17 d18 d86 d87 d88 d89 d90 d91 d92 d93 d94 d95 d96 d97 d98 d99 d100 d101 d102 d103 d104 d105 d106 d107 d108 d109 d110 d111 d112 : Value) (V : World), TeCut w X Y wr.heap.size k p V → Q .normal ⟨#[c0, c1, c2, c3, c4, c5, .pointer (some ⟨X, 0, none⟩), .pointer (some ⟨Y, 0, none⟩), c8, .pointer (some ⟨wr.heap.size, 0, none⟩), .bool true, c11, c12, c13, c14, d15, d16, d17, d18, c19, c20, c21, c22, c23, c24, c25, c26, c27, c28, c29, c30, c31, c32, c33, c34, c35, c36, c37, c38, c39, c40, c41, c42, c43, c44, c45, c46, c47, c48, c49, c50, c51, c52, c53, c54, c55, c56, c57, c58, c59, c60, c61, c62, c63, c64, c65, c66, c67, c68, c69, c70, c71, c72, c73, c74, c75, c76, c77, c78, c79, c80, c81, c82, c83, .bool true, c85, d86, d87, d88, d89, d90, d91, d92, d93, d94, d95, d96, d97, d98, d99, d100, d101, d102, d103, d104, d105, d106, d107, d108, d109, d110, d111, d112, c113, c114, c115, c116, c117, c118, c119, c120, c121, c122, c123, c124, c125, c126, c127, c128, c129, c130, c131, c132, c133, c134, c135, c136, c137, c138, c139, c140, c141, c142, c143, c144, c145, c146, c147, c148, c149, c150, c151, c152, c153, c154, c155, c156, c157, c158, c159, c160, c161, c162, c163, c164, c165, c166, c167, c168, c169, c170, c171, c172, c173, c174, c175, c176, c177, c178, c179, c180, c181, c182, c183, c184, c185, c186, c187, c188, c189, c190, c191, c192, c193, c194, c195, c196, c197, c198, c199, c200, c201, c202, c203, c204, c205, c206, c207, c208, c209, c210, c211, c212, c213, c214, c215, c216, c217, c218, c219, c220, c221, c222, c223, c224], []⟩ V)) :
    Code.wp Try.prog (condCode 84) Q ⟨#[c0, c1, c2, c3, c4, c5, .pointer (some ⟨X, 0, none⟩), .pointer (some ⟨Y, 0, none⟩), c8, .pointer (some ⟨wr.heap.size, 0, none⟩), .bool true, c11, c12, c13, c14, c15, c16, c17, c18, c19, c20, c21, c22, c23, c24, c25, c26, c27, c28, c29, c30, c31, c32, c33, c34, c35, c36, c37, c38, c39, c40, c41, c42, c43, c44, c45, c46, c47, c48, c49, c50, c51, c52, c53, c54, c55, c56, c57, c58, c59, c60, c61, c62, c63, c64, c65, c66, c67, c68, c69, c70, c71, c72, c73, c74, c75, c76, c77, c78, c79, c80, c81, c82, c83, .bool true, c85, c86, c87, c88, c89, c90, c91, c92, c93, c94, c95, c96, c97, c98, c99, c100, c101, c102, c103, c104, c105, c106, c107, c108, c109, c110, c111, c112, c113, c114, c115, c116, c117, c118, c119, c120, c121, c122, c123, c124, c125, c126, c127, c128, c129, c130, c131, c132, c133, c134, c135, c136, c137, c138, c139, c140, c141, c142, c143, c144, c145, c146, c147, c148, c149, c150, c151, c152, c153, c154, c155, c156, c157, c158, c159, c160, c161, c162, c163, c164, c165, c166, c167, c168, c169, c170, c171, c172, c173, c174, c175, c176, c177, c178, c179, c180, c181, c182, c183, c184, c185, c186, c187, c188, c189, c190, c191, c192, c193, c194, c195, c196, c197, c198, c199, c200, c201, c202, c203, c204, c205, c206, c207, c208, c209, c210, c211, c212, c213, c214, c215, c216, c217, c218, c219, c220, c221, c222, c223, c224], []⟩ (wr.alloc (.cells #[.int .i64 p.op, .int .i64 p.x, .int .i64 p.y, .string p.path, .string p.l.src, .string p.l.msg, .slice p.l.args.a p.l.args.n p.l.args.c, .int .i64 p.l.sent] 58)) := by
  conv => arg 2; whnf
  have NP := Lib.hid (fun (N : Nat) (h1 : X < N) (h2 : Y < N) => notXY (P := NotXY X Y) h1 h2 (fun b h => h))
  have hxr : X < wr.heap.size := BX.out.1
  have hyr : Y < wr.heap.size := BY.out.1
  have n2 : ¬ X = wr.heap.size := by omega
  have n3 : ¬ Y = wr.heap.size := by omega
  obtain ⟨x0, x1, x2, x3, x4, x5, x6, x7, x8⟩ := sbox_cells BX.out
  obtain ⟨y0, y1, y2, y3, y4, y5, y6, y7, y8⟩ := sbox_cells BY.out
  go_wp2_with fail
  refine (CS.out _ (below_one wr _)).mono ?_
  rintro e v1 ⟨s1, rfl, hr1, h1⟩
  obtain ⟨υ, ok, hpo⟩ : ∃ υ ok, Ml.send τ p.x p.path p.l = (υ, ok) := ⟨_, _, rfl⟩
  have TEn : Hid (TeOk w υ (k + 1)) := Lib.hid (by have h := TE.out.send p.x p.path PD.out.x PD.out.l; rw [hpo] at h; exact h)
  rw [hpo] at hr1 ⊢
  have PO := Lib.hid hpo
  clear hpo
  have tok : (ok == ok) = true := by simp
  have BO0 := Lib.hid (BoxAt.new wr 58 (opL p) _ rfl)
  have BO1 := Lib.hid (BO0.out.call h1)
  have hv1 : wr.heap.size < v1.heap.size := BO1.out.1
  have H1 : Hid (Below wr.heap.size wr v1) := Lib.hid (Below.call (below_one wr _) h1)
  have R1 : Hid (SysR (NotXY X Y) v1 s1 υ) := Lib.hid (hr1.mono (NP.out _ (by simp; omega) (by simp; omega)))
  have RY1 := Lib.hid (RY.out.below H1.out)
  have BX1 := Lib.hid (BX.out.call H1.out)
  have BY1 := Lib.hid (BY.out.call H1.out)
  clear h1 hr1 BO0 CS x0 x1 x2 x3 x4 x5 x6 x7 x8 y0 y1 y2 y3 y4 y5 y6 y7 y8
  obtain ⟨y0, y1, y2, y3, y4, y5, y6, y7, y8⟩ := sbox_cells BY1.out
  obtain ⟨o0, o1, o2, o3, o4, o5, o6, o7⟩ := op_cells BO1.out
  have p1 : X < v1.heap.size := BX1.out.1
  have p2 : Y < v1.heap.size := BY1.out.1
  have p3 : ¬ X = v1.heap.size := by omega
  have p4 : ¬ Y = v1.heap.size := by omega
  have p5 : ¬ wr.heap.size = v1.heap.size := by omega
  go_wp2_with fail
  refine (DS.out _ (RY1.out.below (below_one _ _))).mono ?_
  rintro e v2 ⟨s2, rfl, hr2, h2⟩
  rw [PO.out] at hr2 ⊢
  clear PO
  have H2 : Hid (Below v1.heap.size v1 v2) := Lib.hid (Below.call (below_one _ _) h2)
  have hv2 := H2.out.size
  have R2 : Hid (SysR (NotXY X Y) v2 s2 υ) := Lib.hid (hr2.mono (NP.out _ (by simp; omega) (by simp; omega)))
  have BP2 := Lib.hid ((BoxAt.new v1 28 (sysL s1) _ rfl).call h2)
  have HB2 := Lib.hid (Below.call HB.out (Below.call H1.out H2.out))
  have R1b := Lib.hid (R1.out.below H2.out)
  have BX2 := Lib.hid (BX1.out.call H2.out)
  have BY2 := Lib.hid (BY1.out.call H2.out)
  have BO2 := Lib.hid (BO1.out.call H2.out)
  clear h2 hr2 DS y0 y1 y2 y3 y4 y5 y6 y7 y8 o0 o1 o2 o3 o4 o5 o6 o7 p1 p2 p3 p4 p5
  obtain ⟨x0, x1, x2, x3, x4, x5, x6, x7, x8⟩ := sbox_cells BX2.out
  obtain ⟨f0, f1, f2, f3, f4, f5, f6, f7, f8⟩ := sbox_free BX2.out
  obtain ⟨y0, y1, y2, y3, y4, y5, y6, y7, y8⟩ := sbox_cells BY2.out
  obtain ⟨g0, g1, g2, g3, g4, g5, g6, g7, g8⟩ := sbox_free BY2.out
  obtain ⟨o0, o1, o2, o3, o4, o5, o6, o7⟩ := op_cells BO2.out
  obtain ⟨q0, q1, q2, q3, q4, q5, q6, q7, q8⟩ := sbox_cells BP2.out
  have p1 : X < v2.heap.size := BX2.out.1
  have p2 : Y < v2.heap.size := BY2.out.1
  have p3 : ¬ X = v2.heap.size := by omega
  have p4 : ¬ Y = v2.heap.size := by omega
  have p5 : ¬ X = v1.heap.size := by omega
  have p6 : ¬ Y = v1.heap.size := by omega
  have p7 : wr.heap.size < v2.heap.size := BO2.out.1
  have p8 : ¬ wr.heap.size = v2.heap.size := by omega
  have p9 : ¬ wr.heap.size = X := by omega
  have pa : ¬ wr.heap.size = Y := by omega
  have pb : v1.heap.size < v2.heap.size := BP2.out.1
  have pc : ¬ v1.heap.size = X := by omega
  have pd : ¬ v1.heap.size = Y := by omega
  have pe : ¬ v1.heap.size = v2.heap.size := by omega
  go_wp2_with fail
  obtain ⟨v5, hV⟩ : ∃ v, v = (putSys (putSys v2 X s1) Y s2).alloc (.cells #[.slice s2.up.a s2.up.n s2.up.c, .int .i64 s2.moment, .int .i64 s2.clock, .int .i64 s2.seq, .slice s2.actors.a s2.actors.n s2.actors.c, .slice s2.flights.a s2.flights.n s2.flights.c, .slice s2.alarms.a s2.alarms.n s2.alarms.c, .slice s2.asked.a s2.asked.n s2.asked.c, .int .i64 s2.dead] 28) := ⟨_, rfl⟩
  have HBv : Hid (Below w.heap.size w v5) := Lib.hid (by rw [hV]; exact (putSys_below (putSys_below HB2.out (by omega)) (by omega)).alloc (by first | omega | (simp; omega) | (simp; done)) _)
  have BXv : Hid (BoxAt v5 X (sysL s1)) := Lib.hid (by rw [hV]; exact (putSys_other (putSys_box BX2.out) nYX).alloc _)
  have BYv : Hid (BoxAt v5 Y (sysL s2)) := Lib.hid (by rw [hV]; exact (putSys_box (putSys_other BY2.out nXY)).alloc _)
  have BOv : Hid (BoxAt v5 wr.heap.size (opL p)) := Lib.hid (by rw [hV]; exact (putSys_other (putSys_other BO2.out (by omega)) (by omega)).alloc _)
  have R1v : Hid (SysR (NotXY X Y) v5 s1 υ) := Lib.hid (by rw [hV]; exact (putY_R (putX_R R1b.out)).below (below_one _ _))
  have R2v : Hid (SysR (NotXY X Y) v5 s2 υ) := Lib.hid (by rw [hV]; exact (putY_R (putX_R R2.out)).below (below_one _ _))
  clear x0 x1 x2 x3 x4 x5 x6 x7 x8 f0 f1 f2 f3 f4 f5 f6 f7 f8 y0 y1 y2 y3 y4 y5 y6 y7 y8 g0 g1 g2 g3 g4 g5 g6 g7 g8 o0 o1 o2 o3 o4 o5 o6 o7 p1 p2 p3 p4 p5 p6 p7 p8 p9 pa pb pc pd pe q0 q1 q2 q3 q4 q5 q6 q7 q8
  try dsimp only [putSys] at hV
  rw [← hV]
  clear hV
  exact hQ.out _ _ _ _ _ _ _ _ _ _ _ _ _ _ _ _ _ _ _ _ _ _ _ _ _ _ _ _ _ _ _ v5 ⟨s1, s2, υ, HBv.out, BXv.out, BYv.out, BOv.out, R1v.out, R2v.out, TEn.out⟩

end Go.Proofs.Ytjdjfjokniingaa
