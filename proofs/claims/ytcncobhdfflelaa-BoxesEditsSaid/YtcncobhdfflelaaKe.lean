/- The regions of BoxesEdits that make rows, part 2. -/
import Derived.Test.YtcncobhdfflelaaKd
namespace Go.Proofs.Ytcncobhdfflelaa
open Go.RowKit

set_option linter.unusedSimpArgs false in
set_option linter.unusedVariables false in
set_option maxRecDepth 100000 in
set_option maxHeartbeats 6400000 in
theorem edits_r20 (wf : World) (B pb1 po1 k i : Nat) (u6 : Sl) (bm : List BxM) (q : BxM) (x : Int) (hu6 : u6.n ≤ 200) (hxf : B < wf.heap.size) (hpf1 : pb1 < wf.heap.size) (F0 : Hid (wf.cell? ⟨B, 0, none⟩ = some (.slice q.1.lo.a q.1.lo.n q.1.lo.c))) (F1 : Hid (wf.cell? ⟨B, 1, none⟩ = some (.slice q.1.hi.a q.1.hi.n q.1.hi.c))) (F3 : Hid (wf.cell? ⟨pb1, po1, none⟩ = some (.int .i64 x))) (ix1 : ∀ W, Sem.run Try.prog (Instr.indexAt 22 (.slice q.1.lo.a q.1.lo.n q.1.lo.c) (.int .i64 (i : Int))) W = .ok (.pointer (some ⟨pb1, po1, none⟩)) W) (hxw : IntKind.i64.wrap (x + 1) = x + 1) (HLSF : Hid (BRow wf u6 (bm.take k ++ bm.drop (k + 1)))) (HBQF : Hid (BoxRd wf q)) (CW1 : Hid (∀ (X : World), Below wf.heap.size wf X → Calls Try.prog 25 #[.slice q.1.hi.a q.1.hi.n q.1.hi.c, .int .i64 (i : Int), .int .i64 x] X (OwnPost 3 1 q.1.hi.n (ints (q.2.2.set i x)) X))) (CW2 : Hid (∀ (X : World), Below wf.heap.size wf X → Calls Try.prog 25 #[.slice q.1.lo.a q.1.lo.n q.1.lo.c, .int .i64 (i : Int), .int .i64 (x + 1)] X (OwnPost 3 1 q.1.lo.n (ints (q.2.1.set i (x + 1))) X))) (Q : Exit → Act → World → Prop) (hQp : PanicOk Q) (c0 c1 c2 c3 c4 c5 c6 c7 c8 c9 c10 c11 c12 c13 c14 c17 c19 c20 c21 c22 c23 c24 c25 c26 c27 c28 c29 c30 c31 c32 c33 c34 c35 c36 c37 c38 c39 c40 c41 c42 c43 c44 c45 c46 c47 c48 c49 c50 c51 c52 c53 c54 c55 c56 c57 c58 c59 c60 c61 c62 c63 c64 c65 c66 c67 c68 c69 c70 c71 c72 c73 c74 c75 c76 c77 c78 c79 c80 c81 c82 c83 c84 c85 c86 c87 c88 c89 c90 c91 c92 c93 c94 c95 c96 c97 c98 c99 c100 c101 c102 c103 c104 c105 c106 c107 c108 c109 c110 c111 c112 c113 c114 c115 c116 c117 c118 c119 c120 c121 c122 c123 c124 c125 c126 c127 c128 c129 c130 c131 c132 c133 c134 c135 c136 c137 c138 c139 c140 c141 c142 c143 c144 c145 c146 c147 c148 c149 c150 c151 c152 c153 c154 c155 c156 c157 c158 c159 c160 c161 c162 c163 c164 c165 c166 c167 c168 c169 c170 c171 c172 c173 c174 c175 c176 c177 c178 c179 c180 c181 c182 c183 c184 c185 c186 c187 c188 c189 c190 c191 c192 c193 : Value)
    (hQ : Hid (∀ (d157 d158 d159 d160 d161 d162 d163 d164 d165 d166 d167 d168 d169 d170 d171 d172 d173 d174 d175 d176 d177 d178 d179 d180 d181 d182 d183 d184 d185 d186 : Value) (X : World) (u9 : Sl), u9.n ≤ 300 → Hid (∃ qv qw : BxM, qv.2 = (q.2.1, q.2.2.set i x) ∧ qw.2 = (q.2.1.set i (x + 1), q.2.2) ∧ BRow X u9 (bm.take k ++ bm.drop (k + 1) ++ [qv, qw])) → Hid (Below wf.heap.size wf X) → Q .normal ⟨#[c0, c1, c2, c3, c4, c5, c6, c7, c8, c9, c10, c11, c12, c13, c14, .int .i64 (i : Int), .slice u6.a u6.n u6.c, c17, .pointer (some ⟨B, 0, none⟩), c19, .slice u9.a u9.n u9.c, c21, c22, c23, c24, c25, c26, c27, c28, c29, c30, c31, c32, c33, c34, c35, c36, c37, c38, c39, c40, c41, c42, c43, c44, c45, c46, c47, c48, c49, c50, c51, c52, c53, c54, c55, c56, c57, c58, c59, c60, c61, c62, c63, c64, c65, c66, c67, c68, c69, c70, c71, c72, c73, c74, c75, c76, c77, c78, c79, c80, c81, c82, c83, c84, c85, c86, c87, c88, c89, c90, c91, c92, c93, c94, c95, c96, c97, c98, c99, c100, c101, c102, c103, c104, c105, c106, c107, c108, c109, c110, c111, c112, c113, c114, c115, c116, c117, c118, c119, c120, c121, c122, c123, c124, c125, c126, c127, c128, c129, c130, c131, c132, c133, c134, c135, c136, c137, c138, c139, c140, c141, c142, c143, c144, c145, c146, c147, c148, c149, c150, c151, c152, c153, c154, c155, c156, d157, d158, d159, d160, d161, d162, d163, d164, d165, d166, d167, d168, d169, d170, d171, d172, d173, d174, d175, d176, d177, d178, d179, d180, d181, d182, d183, d184, d185, d186, c187, c188, c189, c190, c191, c192, c193], []⟩ X)) :
    Code.wp Try.prog (regCode6 20) Q ⟨#[c0, c1, c2, c3, c4, c5, c6, c7, c8, c9, c10, c11, c12, c13, c14, .int .i64 (i : Int), .slice u6.a u6.n u6.c, c17, .pointer (some ⟨B, 0, none⟩), c19, c20, c21, c22, c23, c24, c25, c26, c27, c28, c29, c30, c31, c32, c33, c34, c35, c36, c37, c38, c39, c40, c41, c42, c43, c44, c45, c46, c47, c48, c49, c50, c51, c52, c53, c54, c55, c56, c57, c58, c59, c60, c61, c62, c63, c64, c65, c66, c67, c68, c69, c70, c71, c72, c73, c74, c75, c76, c77, c78, c79, c80, c81, c82, c83, c84, c85, c86, c87, c88, c89, c90, c91, c92, c93, c94, c95, c96, c97, c98, c99, c100, c101, c102, c103, c104, c105, c106, c107, c108, c109, c110, c111, c112, c113, c114, c115, c116, c117, c118, c119, c120, c121, c122, c123, c124, c125, c126, c127, c128, c129, c130, c131, c132, c133, c134, c135, c136, c137, c138, c139, c140, c141, c142, c143, c144, c145, c146, c147, c148, c149, c150, c151, c152, c153, c154, c155, c156, c157, c158, c159, c160, c161, c162, c163, c164, c165, c166, c167, c168, c169, c170, c171, c172, c173, c174, c175, c176, c177, c178, c179, c180, c181, c182, c183, c184, c185, c186, c187, c188, c189, c190, c191, c192, c193], []⟩ wf := by
  conv => arg 2; whnf
  obtain ⟨i4, hi4, hz40, hz41, hz42⟩ := info_parts info44
  have f0 := F0.out
  have f1 := F1.out
  have f3 := F3.out
  refine wp_region_held_drew (S := (fun X => X.cell? ⟨B, 0, none⟩ = some (.slice q.1.lo.a q.1.lo.n q.1.lo.c) ∧ X.cell? ⟨B, 1, none⟩ = some (.slice q.1.hi.a q.1.hi.n q.1.hi.c) ∧ X.cell? ⟨pb1, po1, none⟩ = some (.int .i64 x))) (by kernel_rfl) ?_ (fun hHeld => ?_)
  · simp [go_sem, *]
  have rT0 := (St.start wf).drew
  generalize wf.drew = rv0 at rT0 hHeld ⊢
  have rS0 := Lib.hid (rT0)
  have rc0_0 := (rS0.out.bl.cell (p := ⟨B, 0, none⟩) hxf).trans F0.out
  have rc0_1 := (rS0.out.bl.cell (p := ⟨B, 1, none⟩) hxf).trans F1.out
  have rc0_2 := (rS0.out.bl.cell (p := ⟨pb1, po1, none⟩) hpf1).trans F3.out
  have rb0 := rS0.out.bl.size
  clear rT0
  refine wpAnyH_take (i := 1) (v := ?_) rfl (by kernel_rfl) (by kernel_rfl) (by kernel_rfl) (fun _ _ _ h => hQp _ _ _ _ h rfl) (Or.inl ⟨by rfl, ?_⟩) (by assumption) ?_
  rotate_left
  · intro w hSw; (try dsimp only at hSw); go_simp; (first | done | (with_reducible rfl))
  try simp only [Act.put, List.getElem_toArray, List.getElem_cons_succ, List.getElem_cons_zero, List.setIfInBounds_toArray, List.set_cons_zero, List.set_cons_succ]
  refine wpAnyH_take (i := 3) (v := ?_) rfl (by kernel_rfl) (by kernel_rfl) (by kernel_rfl) (fun _ _ _ h => hQp _ _ _ _ h rfl) (Or.inl ⟨by rfl, ?_⟩) (by assumption) ?_
  rotate_left
  · intro w hSw; (try dsimp only at hSw); go_simp; (first | done | (with_reducible rfl))
  try simp only [Act.put, List.getElem_toArray, List.getElem_cons_succ, List.getElem_cons_zero, List.setIfInBounds_toArray, List.set_cons_zero, List.set_cons_succ]
  refine wpAnyH_take (i := 4) (v := ?_) rfl (by kernel_rfl) (by kernel_rfl) (by kernel_rfl) (fun _ _ _ h => hQp _ _ _ _ h rfl) (Or.inl ⟨by rfl, ?_⟩) (by assumption) ?_
  rotate_left
  · intro w hSw; (try dsimp only at hSw); go_simp; (first | done | (with_reducible rfl))
  try simp only [Act.put, List.getElem_toArray, List.getElem_cons_succ, List.getElem_cons_zero, List.setIfInBounds_toArray, List.set_cons_zero, List.set_cons_succ]
  refine wpAnyH_take (i := 5) (v := ?_) rfl (by kernel_rfl) (by kernel_rfl) (by kernel_rfl) (fun _ _ _ h => hQp _ _ _ _ h rfl) (Or.inl ⟨by rfl, ?_⟩) (by assumption) ?_
  rotate_left
  · intro w hSw; (try dsimp only at hSw); go_simp; (first | done | (with_reducible rfl))
  try simp only [Act.put, List.getElem_toArray, List.getElem_cons_succ, List.getElem_cons_zero, List.setIfInBounds_toArray, List.set_cons_zero, List.set_cons_succ]
  refine wpAnyH_take (i := 6) (v := ?_) rfl (by kernel_rfl) (by kernel_rfl) (by kernel_rfl) (fun _ _ _ h => hQp _ _ _ _ h rfl) (Or.inl ⟨by rfl, ?_⟩) (by assumption) ?_
  rotate_left
  · intro w hSw; (try dsimp only at hSw); go_simp; (first | done | (with_reducible rfl))
  try simp only [Act.put, List.getElem_toArray, List.getElem_cons_succ, List.getElem_cons_zero, List.setIfInBounds_toArray, List.set_cons_zero, List.set_cons_succ]
  refine wpAnyH_take (i := 7) (v := ?_) rfl (by kernel_rfl) (by kernel_rfl) (by kernel_rfl) (fun _ _ _ h => hQp _ _ _ _ h rfl) (Or.inl ⟨by rfl, ?_⟩) (by assumption) ?_
  rotate_left
  · intro w hSw; (try dsimp only at hSw); go_simp; (first | done | (with_reducible rfl))
  try simp only [Act.put, List.getElem_toArray, List.getElem_cons_succ, List.getElem_cons_zero, List.setIfInBounds_toArray, List.set_cons_zero, List.set_cons_succ]
  refine wpAnyH_take (i := 8) (v := ?_) rfl (by kernel_rfl) (by kernel_rfl) (by kernel_rfl) (fun _ _ _ h => hQp _ _ _ _ h rfl) (Or.inl ⟨by rfl, ?_⟩) (by assumption) ?_
  rotate_left
  · intro w hSw; (try dsimp only at hSw); go_simp; (first | done | (with_reducible rfl))
  try simp only [Act.put, List.getElem_toArray, List.getElem_cons_succ, List.getElem_cons_zero, List.setIfInBounds_toArray, List.set_cons_zero, List.set_cons_succ]
  refine wpAnyH_take (i := 9) (v := ?_) rfl (by kernel_rfl) (by kernel_rfl) (by kernel_rfl) (fun _ _ _ h => hQp _ _ _ _ h rfl) (Or.inl ⟨by rfl, ?_⟩) (by assumption) ?_
  rotate_left
  · intro w hSw; (try dsimp only at hSw); go_simp; (first | done | (with_reducible rfl))
  try simp only [Act.put, List.getElem_toArray, List.getElem_cons_succ, List.getElem_cons_zero, List.setIfInBounds_toArray, List.set_cons_zero, List.set_cons_succ]
  refine wpAnyH_take (i := 10) (v := ?_) rfl (by kernel_rfl) (by kernel_rfl) (by kernel_rfl) (fun _ _ _ h => hQp _ _ _ _ h rfl) (Or.inl ⟨by rfl, ?_⟩) (by assumption) ?_
  rotate_left
  · intro w hSw; (try dsimp only at hSw); go_simp; (first | done | (with_reducible rfl))
  try simp only [Act.put, List.getElem_toArray, List.getElem_cons_succ, List.getElem_cons_zero, List.setIfInBounds_toArray, List.set_cons_zero, List.set_cons_succ]
  refine wpAnyH_take (i := 11) (v := ?_) rfl (by kernel_rfl) (by kernel_rfl) (by kernel_rfl) (fun _ _ _ h => hQp _ _ _ _ h rfl) (Or.inl ⟨by rfl, ?_⟩) (by assumption) ?_
  rotate_left
  · intro w hSw; (try dsimp only at hSw); go_simp; (first | done | (with_reducible rfl))
  try simp only [Act.put, List.getElem_toArray, List.getElem_cons_succ, List.getElem_cons_zero, List.setIfInBounds_toArray, List.set_cons_zero, List.set_cons_succ]
  refine wpAnyH_take (i := 12) (v := ?_) rfl (by kernel_rfl) (by kernel_rfl) (by kernel_rfl) (fun _ _ _ h => hQp _ _ _ _ h rfl) (Or.inl ⟨by rfl, ?_⟩) (by assumption) ?_
  rotate_left
  · intro w hSw; (try dsimp only at hSw); go_simp; (first | done | (with_reducible rfl))
  try simp only [Act.put, List.getElem_toArray, List.getElem_cons_succ, List.getElem_cons_zero, List.setIfInBounds_toArray, List.set_cons_zero, List.set_cons_succ]
  refine wpAnyH_take (i := 15) (v := ?_) rfl (by kernel_rfl) (by kernel_rfl) (by kernel_rfl) (fun _ _ _ h => hQp _ _ _ _ h rfl) (Or.inl ⟨by rfl, ?_⟩) (by assumption) ?_
  rotate_left
  · intro w hSw; (try dsimp only at hSw); go_simp; (first | done | (with_reducible rfl))
  try simp only [Act.put, List.getElem_toArray, List.getElem_cons_succ, List.getElem_cons_zero, List.setIfInBounds_toArray, List.set_cons_zero, List.set_cons_succ]
  refine wpAnyH_take (i := 16) (v := ?_) rfl (by kernel_rfl) (by kernel_rfl) (by kernel_rfl) (fun _ _ _ h => hQp _ _ _ _ h rfl) (Or.inl ⟨by rfl, ?_⟩) (by assumption) ?_
  rotate_left
  · intro w hSw; (try dsimp only at hSw); go_simp; (first | done | (with_reducible rfl))
  try simp only [Act.put, List.getElem_toArray, List.getElem_cons_succ, List.getElem_cons_zero, List.setIfInBounds_toArray, List.set_cons_zero, List.set_cons_succ]
  refine wpAnyH_take (i := 17) (v := ?_) rfl (by kernel_rfl) (by kernel_rfl) (by kernel_rfl) (fun _ _ _ h => hQp _ _ _ _ h rfl) (Or.inl ⟨by rfl, ?_⟩) (by assumption) ?_
  rotate_left
  · intro w hSw; (try dsimp only at hSw); go_simp; (first | done | (with_reducible rfl))
  try simp only [Act.put, List.getElem_toArray, List.getElem_cons_succ, List.getElem_cons_zero, List.setIfInBounds_toArray, List.set_cons_zero, List.set_cons_succ]
  refine wpAnyH_take (i := 18) (v := ?_) rfl (by kernel_rfl) (by kernel_rfl) (by kernel_rfl) (fun _ _ _ h => hQp _ _ _ _ h rfl) (Or.inl ⟨by rfl, ?_⟩) (by assumption) ?_
  rotate_left
  · intro w hSw; (try dsimp only at hSw); go_simp; (first | done | (with_reducible rfl))
  try simp only [Act.put, List.getElem_toArray, List.getElem_cons_succ, List.getElem_cons_zero, List.setIfInBounds_toArray, List.set_cons_zero, List.set_cons_succ]
  refine wpAnyH_take (i := 19) (v := ?_) rfl (by kernel_rfl) (by kernel_rfl) (by kernel_rfl) (fun _ _ _ h => hQp _ _ _ _ h rfl) (Or.inl ⟨by rfl, ?_⟩) (by assumption) ?_
  rotate_left
  · intro w hSw; (try dsimp only at hSw); go_simp; (first | done | (with_reducible rfl))
  try simp only [Act.put, List.getElem_toArray, List.getElem_cons_succ, List.getElem_cons_zero, List.setIfInBounds_toArray, List.set_cons_zero, List.set_cons_succ]
  refine wpAnyH_take (i := 20) (v := ?_) rfl (by kernel_rfl) (by kernel_rfl) (by kernel_rfl) (fun _ _ _ h => hQp _ _ _ _ h rfl) (Or.inl ⟨by rfl, ?_⟩) (by assumption) ?_
  rotate_left
  · intro w hSw; (try dsimp only at hSw); go_simp; (first | done | (with_reducible rfl))
  try simp only [Act.put, List.getElem_toArray, List.getElem_cons_succ, List.getElem_cons_zero, List.setIfInBounds_toArray, List.set_cons_zero, List.set_cons_succ]
  refine wpAnyH_take (i := 21) (v := ?_) rfl (by kernel_rfl) (by kernel_rfl) (by kernel_rfl) (fun _ _ _ h => hQp _ _ _ _ h rfl) (Or.inl ⟨by rfl, ?_⟩) (by assumption) ?_
  rotate_left
  · intro w hSw; (try dsimp only at hSw); go_simp; (first | done | (with_reducible rfl))
  try simp only [Act.put, List.getElem_toArray, List.getElem_cons_succ, List.getElem_cons_zero, List.setIfInBounds_toArray, List.set_cons_zero, List.set_cons_succ]
  refine wpAnyH_take (i := 22) (v := ?_) rfl (by kernel_rfl) (by kernel_rfl) (by kernel_rfl) (fun _ _ _ h => hQp _ _ _ _ h rfl) (Or.inl ⟨by rfl, ?_⟩) (by assumption) ?_
  rotate_left
  · intro w hSw; (try dsimp only at hSw); go_simp; (first | done | (with_reducible rfl))
  try simp only [Act.put, List.getElem_toArray, List.getElem_cons_succ, List.getElem_cons_zero, List.setIfInBounds_toArray, List.set_cons_zero, List.set_cons_succ]
  refine wpAnyH_take (i := 23) (v := ?_) rfl (by kernel_rfl) (by kernel_rfl) (by kernel_rfl) (fun _ _ _ h => hQp _ _ _ _ h rfl) (Or.inl ⟨by rfl, ?_⟩) (by assumption) ?_
  rotate_left
  · intro w hSw; (try dsimp only at hSw); go_simp; (first | done | (with_reducible rfl))
  try simp only [Act.put, List.getElem_toArray, List.getElem_cons_succ, List.getElem_cons_zero, List.setIfInBounds_toArray, List.set_cons_zero, List.set_cons_succ]
  refine wpAnyH_take (i := 25) (v := ?_) rfl (by kernel_rfl) (by kernel_rfl) (by kernel_rfl) (fun _ _ _ h => hQp _ _ _ _ h rfl) (Or.inl ⟨by rfl, ?_⟩) (by assumption) ?_
  rotate_left
  · intro w hSw; (try dsimp only at hSw); go_simp; (first | done | (with_reducible rfl))
  try simp only [Act.put, List.getElem_toArray, List.getElem_cons_succ, List.getElem_cons_zero, List.setIfInBounds_toArray, List.set_cons_zero, List.set_cons_succ]
  refine wpAnyH_take (i := 26) (v := ?_) rfl (by kernel_rfl) (by kernel_rfl) (by kernel_rfl) (fun _ _ _ h => hQp _ _ _ _ h rfl) (Or.inl ⟨by rfl, ?_⟩) (by assumption) ?_
  rotate_left
  · intro w hSw; (try dsimp only at hSw); go_simp; (first | done | (with_reducible rfl))
  try simp only [Act.put, List.getElem_toArray, List.getElem_cons_succ, List.getElem_cons_zero, List.setIfInBounds_toArray, List.set_cons_zero, List.set_cons_succ]
  refine wpAnyH_ready (rs := [0]) (by kernel_rfl) (by simp) ?_
  refine AllReadyH.cons rfl (fun K hK => ?_) AllReadyH.nil
  go_simp
  obtain ⟨rv1, hrv1⟩ : ∃ v, v = rv0.alloc (.cells #[] 44) := ⟨_, rfl⟩
  have rT1 : St wf rv1 ([] ++ (⟨44, 3, ⟨some ⟨rv0.heap.size, 0, none⟩, 0, 0⟩, []⟩ : Row) :: []) := by rw [hrv1]; exact St.lit (A := []) (B := []) rS0.out 44 3 0 [] rfl (by decide)
  try rw [← hrv1]
  clear hrv1
  have rS1 := Lib.hid (rT1)
  have rc1_0 := (rS1.out.bl.cell (p := ⟨B, 0, none⟩) hxf).trans F0.out
  have rc1_1 := (rS1.out.bl.cell (p := ⟨B, 1, none⟩) hxf).trans F1.out
  have rc1_2 := (rS1.out.bl.cell (p := ⟨pb1, po1, none⟩) hpf1).trans F3.out
  have rb1 := rS1.out.bl.size
  clear rT1
  refine hK.out _ _ ?_ (fun hHeld => ?_)
  · simp [go_sem, *]
  clear hK K
  try simp only [Act.put, List.getElem_toArray, List.getElem_cons_succ, List.getElem_cons_zero, List.setIfInBounds_toArray, List.set_cons_zero, List.set_cons_succ]
  refine wpAnyH_ready (rs := [2]) (by kernel_rfl) (by simp) ?_
  refine AllReadyH.cons rfl (fun K hK => ?_) AllReadyH.nil
  have rO2 : rv1.ownsRow wf.heap.size 44 3 (.slice (some ⟨rv0.heap.size, 0, none⟩) 0 0) 0 ([]) := rS1.out.at_ 0 rfl
  refine step_append_rd rfl (.tmp 157) (.tmp 158) 26 rfl wf.heap.size 44 i4 _ 3 56 Try.underlying26 hi4 hz40 hz41 hz42 rfl (by decide) ((some ⟨rv0.heap.size, 0, none⟩)) (0) (0) ([]) (by simp [Act.eval, Act.put]) rO2 rv1.heap.size (u6.a) (u6.n) (u6.c) (cellsB (bm.take k ++ bm.drop (k + 1))) (by simp [Act.eval, Act.put]) ((HLSF.out.up rS1.out.bl).rd) (flat_one' _) (by omega) (by omega) rS1.out.bl.size ?_
  intro ru2 rv2 ro2 rg2 rn2
  have rT2 : St wf rv2 ([] ++ (⟨44, 3, ⟨ru2.a, u6.n, ru2.c⟩, cellsB (bm.take k ++ bm.drop (k + 1))⟩ : Row) :: []) := St.app (A := []) (B := []) rS1.out rg2 (by have h := ro2; simp only [Nat.zero_add, List.nil_append] at h; exact h) (by have h := rn2; simp only [Nat.zero_add] at h; exact h)
  have rS2 := Lib.hid (rT2)
  have rc2_0 := (rS2.out.bl.cell (p := ⟨B, 0, none⟩) hxf).trans F0.out
  have rc2_1 := (rS2.out.bl.cell (p := ⟨B, 1, none⟩) hxf).trans F1.out
  have rc2_2 := (rS2.out.bl.cell (p := ⟨pb1, po1, none⟩) hpf1).trans F3.out
  have rb2 := rS2.out.bl.size
  clear rT2 rO2 ro2 rg2 rn2
  refine hK.out _ _ ?_ (fun hHeld => ?_)
  · simp [go_sem, *]
  clear hK K
  try simp only [Act.put, List.getElem_toArray, List.getElem_cons_succ, List.getElem_cons_zero, List.setIfInBounds_toArray, List.set_cons_zero, List.set_cons_succ]
  refine wpAnyH_ready (rs := [13]) (by kernel_rfl) (by simp) ?_
  refine AllReadyH.cons rfl (fun K hK => ?_) AllReadyH.nil
  go_simp
  refine (CW1.out _ rS2.out.bl).mono ?_
  rintro e rv3 ⟨rw3, rfl, ro3, rh3⟩
  have rT3 : St wf rv3 ([(⟨44, 3, ⟨ru2.a, u6.n, ru2.c⟩, cellsB (bm.take k ++ bm.drop (k + 1))⟩ : Row)] ++ (⟨3, 1, ⟨rw3.a, q.1.hi.n, rw3.c⟩, ints (q.2.2.set i x)⟩ : Row) :: []) := St.call (A := [(⟨44, 3, ⟨ru2.a, u6.n, ru2.c⟩, cellsB (bm.take k ++ bm.drop (k + 1))⟩ : Row)]) (B := []) rS2.out rh3 ro3
  have rS3 := Lib.hid (rT3)
  have rc3_0 := (rS3.out.bl.cell (p := ⟨B, 0, none⟩) hxf).trans F0.out
  have rc3_1 := (rS3.out.bl.cell (p := ⟨B, 1, none⟩) hxf).trans F1.out
  have rc3_2 := (rS3.out.bl.cell (p := ⟨pb1, po1, none⟩) hpf1).trans F3.out
  have rb3 := rS3.out.bl.size
  clear rT3 ro3 rh3
  refine hK.out _ _ ?_ (fun hHeld => ?_)
  · simp [go_sem, *]
  clear hK K
  try simp only [Act.put, List.getElem_toArray, List.getElem_cons_succ, List.getElem_cons_zero, List.setIfInBounds_toArray, List.set_cons_zero, List.set_cons_succ]
  refine wpAnyH_take (i := 14) (v := ?_) rfl (by kernel_rfl) (by kernel_rfl) (by kernel_rfl) (fun _ _ _ h => hQp _ _ _ _ h rfl) (Or.inl ⟨by rfl, ?_⟩) (by assumption) ?_
  rotate_left
  · intro w hSw; (try dsimp only at hSw); go_simp; (first | done | (with_reducible rfl))
  try simp only [Act.put, List.getElem_toArray, List.getElem_cons_succ, List.getElem_cons_zero, List.setIfInBounds_toArray, List.set_cons_zero, List.set_cons_succ]
  refine wpAnyH_ready (rs := [24]) (by kernel_rfl) (by simp) ?_
  refine AllReadyH.cons rfl (fun K hK => ?_) AllReadyH.nil
  go_simp
  refine (CW2.out _ rS3.out.bl).mono ?_
  rintro e rv4 ⟨rw4, rfl, ro4, rh4⟩
  have rT4 : St wf rv4 ([(⟨44, 3, ⟨ru2.a, u6.n, ru2.c⟩, cellsB (bm.take k ++ bm.drop (k + 1))⟩ : Row), (⟨3, 1, ⟨rw3.a, q.1.hi.n, rw3.c⟩, ints (q.2.2.set i x)⟩ : Row)] ++ (⟨3, 1, ⟨rw4.a, q.1.lo.n, rw4.c⟩, ints (q.2.1.set i (x + 1))⟩ : Row) :: []) := St.call (A := [(⟨44, 3, ⟨ru2.a, u6.n, ru2.c⟩, cellsB (bm.take k ++ bm.drop (k + 1))⟩ : Row), (⟨3, 1, ⟨rw3.a, q.1.hi.n, rw3.c⟩, ints (q.2.2.set i x)⟩ : Row)]) (B := []) rS3.out rh4 ro4
  have rS4 := Lib.hid (rT4)
  have rc4_0 := (rS4.out.bl.cell (p := ⟨B, 0, none⟩) hxf).trans F0.out
  have rc4_1 := (rS4.out.bl.cell (p := ⟨B, 1, none⟩) hxf).trans F1.out
  have rc4_2 := (rS4.out.bl.cell (p := ⟨pb1, po1, none⟩) hpf1).trans F3.out
  have rb4 := rS4.out.bl.size
  clear rT4 ro4 rh4
  refine hK.out _ _ ?_ (fun hHeld => ?_)
  · simp [go_sem, *]
  clear hK K
  try simp only [Act.put, List.getElem_toArray, List.getElem_cons_succ, List.getElem_cons_zero, List.setIfInBounds_toArray, List.set_cons_zero, List.set_cons_succ]
  refine wpAnyH_take (i := 27) (v := ?_) rfl (by kernel_rfl) (by kernel_rfl) (by kernel_rfl) (fun _ _ _ h => hQp _ _ _ _ h rfl) (Or.inl ⟨by rfl, ?_⟩) (by assumption) ?_
  rotate_left
  · intro w hSw; (try dsimp only at hSw); go_simp; (first | done | (with_reducible rfl))
  try simp only [Act.put, List.getElem_toArray, List.getElem_cons_succ, List.getElem_cons_zero, List.setIfInBounds_toArray, List.set_cons_zero, List.set_cons_succ]
  refine wpAnyH_ready (rs := [28]) (by kernel_rfl) (by simp) ?_
  refine AllReadyH.cons rfl (fun K hK => ?_) AllReadyH.nil
  go_simp
  obtain ⟨rv5, hrv5⟩ : ∃ v, v = rv4.alloc (.cells #[.slice q.1.lo.a q.1.lo.n q.1.lo.c, .slice rw3.a q.1.hi.n rw3.c, .bool false, .slice rw4.a q.1.lo.n rw4.c, .slice q.1.hi.a q.1.hi.n q.1.hi.c, .bool true] 44) := ⟨_, rfl⟩
  have rT5 : St wf rv5 ([(⟨44, 3, ⟨ru2.a, u6.n, ru2.c⟩, cellsB (bm.take k ++ bm.drop (k + 1))⟩ : Row), (⟨3, 1, ⟨rw3.a, q.1.hi.n, rw3.c⟩, ints (q.2.2.set i x)⟩ : Row), (⟨3, 1, ⟨rw4.a, q.1.lo.n, rw4.c⟩, ints (q.2.1.set i (x + 1))⟩ : Row)] ++ (⟨44, 3, ⟨some ⟨rv4.heap.size, 0, none⟩, 2, 2⟩, [.slice q.1.lo.a q.1.lo.n q.1.lo.c, .slice rw3.a q.1.hi.n rw3.c, .bool false, .slice rw4.a q.1.lo.n rw4.c, .slice q.1.hi.a q.1.hi.n q.1.hi.c, .bool true]⟩ : Row) :: []) := by rw [hrv5]; exact St.lit (A := [(⟨44, 3, ⟨ru2.a, u6.n, ru2.c⟩, cellsB (bm.take k ++ bm.drop (k + 1))⟩ : Row), (⟨3, 1, ⟨rw3.a, q.1.hi.n, rw3.c⟩, ints (q.2.2.set i x)⟩ : Row), (⟨3, 1, ⟨rw4.a, q.1.lo.n, rw4.c⟩, ints (q.2.1.set i (x + 1))⟩ : Row)]) (B := []) rS4.out 44 3 2 [.slice q.1.lo.a q.1.lo.n q.1.lo.c, .slice rw3.a q.1.hi.n rw3.c, .bool false, .slice rw4.a q.1.lo.n rw4.c, .slice q.1.hi.a q.1.hi.n q.1.hi.c, .bool true] rfl (by decide)
  try rw [← hrv5]
  clear hrv5
  have rS5 := Lib.hid (rT5)
  have rc5_0 := (rS5.out.bl.cell (p := ⟨B, 0, none⟩) hxf).trans F0.out
  have rc5_1 := (rS5.out.bl.cell (p := ⟨B, 1, none⟩) hxf).trans F1.out
  have rc5_2 := (rS5.out.bl.cell (p := ⟨pb1, po1, none⟩) hpf1).trans F3.out
  have rb5 := rS5.out.bl.size
  clear rT5
  refine hK.out _ _ ?_ (fun hHeld => ?_)
  · simp [go_sem, *]
  clear hK K
  try simp only [Act.put, List.getElem_toArray, List.getElem_cons_succ, List.getElem_cons_zero, List.setIfInBounds_toArray, List.set_cons_zero, List.set_cons_succ]
  refine wpAnyH_ready (rs := [29]) (by kernel_rfl) (by simp) ?_
  refine AllReadyH.cons rfl (fun K hK => ?_) AllReadyH.nil
  have rO6 : rv5.ownsRow wf.heap.size 44 3 (.slice ru2.a u6.n ru2.c) u6.n (cellsB (bm.take k ++ bm.drop (k + 1))) := rS5.out.at_ 0 rfl
  refine step_append_rd rfl (.tmp 159) (.tmp 185) 26 rfl wf.heap.size 44 i4 _ 3 56 Try.underlying26 hi4 hz40 hz41 hz42 rfl (by decide) (ru2.a) (u6.n) (ru2.c) (cellsB (bm.take k ++ bm.drop (k + 1))) (by simp [Act.eval, Act.put]) rO6 rv5.heap.size ((some ⟨rv4.heap.size, 0, none⟩)) (2) (2) (cellsB [((⟨q.1.lo, ⟨rw3.a, q.1.hi.n, rw3.c⟩, false⟩, q.2.1, q.2.2.set i x) : BxM), ((⟨⟨rw4.a, q.1.lo.n, rw4.c⟩, q.1.hi, true⟩, q.2.1.set i (x + 1), q.2.2) : BxM)]) (by simp [Act.eval, Act.put]) (own_rd (rS5.out.at_ 3 rfl)) (flat_one' _) (by omega) (by omega) rS5.out.bl.size ?_
  intro ru6 rv6 ro6 rg6 rn6
  have rT6 : St wf rv6 ([] ++ (⟨44, 3, ⟨ru6.a, u6.n + 2, ru6.c⟩, cellsB (bm.take k ++ bm.drop (k + 1) ++ [((⟨q.1.lo, ⟨rw3.a, q.1.hi.n, rw3.c⟩, false⟩, q.2.1, q.2.2.set i x) : BxM), ((⟨⟨rw4.a, q.1.lo.n, rw4.c⟩, q.1.hi, true⟩, q.2.1.set i (x + 1), q.2.2) : BxM)])⟩ : Row) :: [(⟨3, 1, ⟨rw3.a, q.1.hi.n, rw3.c⟩, ints (q.2.2.set i x)⟩ : Row), (⟨3, 1, ⟨rw4.a, q.1.lo.n, rw4.c⟩, ints (q.2.1.set i (x + 1))⟩ : Row), (⟨44, 3, ⟨some ⟨rv4.heap.size, 0, none⟩, 2, 2⟩, [.slice q.1.lo.a q.1.lo.n q.1.lo.c, .slice rw3.a q.1.hi.n rw3.c, .bool false, .slice rw4.a q.1.lo.n rw4.c, .slice q.1.hi.a q.1.hi.n q.1.hi.c, .bool true]⟩ : Row)]) := St.app (A := []) (B := [(⟨3, 1, ⟨rw3.a, q.1.hi.n, rw3.c⟩, ints (q.2.2.set i x)⟩ : Row), (⟨3, 1, ⟨rw4.a, q.1.lo.n, rw4.c⟩, ints (q.2.1.set i (x + 1))⟩ : Row), (⟨44, 3, ⟨some ⟨rv4.heap.size, 0, none⟩, 2, 2⟩, [.slice q.1.lo.a q.1.lo.n q.1.lo.c, .slice rw3.a q.1.hi.n rw3.c, .bool false, .slice rw4.a q.1.lo.n rw4.c, .slice q.1.hi.a q.1.hi.n q.1.hi.c, .bool true]⟩ : Row)]) rS5.out rg6 (by have h := ro6; rw [← cellsB_append] at h; exact h) (by have h := rn6; skip; exact h)
  have rS6 := Lib.hid (rT6)
  have rc6_0 := (rS6.out.bl.cell (p := ⟨B, 0, none⟩) hxf).trans F0.out
  have rc6_1 := (rS6.out.bl.cell (p := ⟨B, 1, none⟩) hxf).trans F1.out
  have rc6_2 := (rS6.out.bl.cell (p := ⟨pb1, po1, none⟩) hpf1).trans F3.out
  have rb6 := rS6.out.bl.size
  clear rT6 rO6 ro6 rg6 rn6
  refine hK.out _ _ ?_ (fun hHeld => ?_)
  · simp [go_sem, *]
  clear hK K
  try simp only [Act.put, List.getElem_toArray, List.getElem_cons_succ, List.getElem_cons_zero, List.setIfInBounds_toArray, List.set_cons_zero, List.set_cons_succ]
  refine wpAnyH_take (i := 30) (v := ?_) rfl (by kernel_rfl) (by kernel_rfl) (by kernel_rfl) (fun _ _ _ h => hQp _ _ _ _ h rfl) (Or.inl ⟨by rfl, ?_⟩) (by assumption) ?_
  rotate_left
  · intro w hSw; (try dsimp only at hSw); go_simp; (first | done | (with_reducible rfl))
  try simp only [Act.put, List.getElem_toArray, List.getElem_cons_succ, List.getElem_cons_zero, List.setIfInBounds_toArray, List.set_cons_zero, List.set_cons_succ]
  refine wpAnyH_done (by kernel_rfl) ?_ _
  refine hQ.out _ _ _ _ _ _ _ _ _ _ _ _ _ _ _ _ _ _ _ _ _ _ _ _ _ _ _ _ _ _ _ ⟨ru6.a, u6.n + 2, ru6.c⟩ ?_ ?_ ?_
  · show u6.n + 2 ≤ 300; omega
  · exact Lib.hid ⟨((⟨q.1.lo, ⟨rw3.a, q.1.hi.n, rw3.c⟩, false⟩, q.2.1, q.2.2.set i x) : BxM), ((⟨⟨rw4.a, q.1.lo.n, rw4.c⟩, q.1.hi, true⟩, q.2.1.set i (x + 1), q.2.2) : BxM), rfl, rfl, own_rd (rS6.out.at_ 0 rfl), fun p hp => (List.mem_append.1 hp).elim (fun h => (HLSF.out.el p h).up rS6.out.bl) (fun h => (List.mem_cons.1 h).elim (fun h => by subst h; exact ⟨(HBQF.out.lo).up rS6.out.bl, own_rd (rS6.out.at_ 1 rfl)⟩) (fun h => by rw [List.mem_singleton] at h; subst h; exact ⟨own_rd (rS6.out.at_ 2 rfl), (HBQF.out.hi).up rS6.out.bl⟩))⟩
  · exact Lib.hid rS6.out.bl
end Go.Proofs.Ytcncobhdfflelaa
