/- The regions of BoxesEdits that make rows, part 1. -/
import Derived.Test.YtcncobhdfflelaaKb
namespace Go.Proofs.Ytcncobhdfflelaa
open Go.RowKit
/-- how a panic leaves: nothing but the deferred calls counts -/
def PanicOk (Q : Exit → Act → World → Prop) : Prop := ∀ (x : List PanicEntry) (a b : Act) (w : World), Q (.panic x) a w → a.defers = b.defers → Q (.panic x) b w
theorem body_panic {P : Program} {fn : Func} {R : Ending → World → Prop} : PanicOk (bodyPost P fn R) := fun c a b w h e => by
  have h' : a.defers = [] ∧ R (.panicked c) w := h
  show b.defers = [] ∧ R (.panicked c) w
  rw [← e]
  exact h'
theorem then_panic {J : Act → World → Prop} {Q : Exit → Act → World → Prop} (h : PanicOk Q) : PanicOk (Exit.then J Q) := fun c a b w => h c a b w
/-- the region of a text that bears a number -/
def regOn (t : Nat) : Code → Option Code
  | .region n ops d => if n = t then some (.region n ops d) else none
  | .cond _ a b => match regOn t a with
    | some c => some c
    | none => regOn t b
  | .seq a b => match regOn t a with
    | some c => some c
    | none => regOn t b
  | .block _ c => regOn t c
  | .scope c => regOn t c
  | .loop c => regOn t c
  | _ => none
noncomputable def regCode6 (t : Nat) : Code := ((Try.f6.body.bind (regOn t)).getD .skip)

set_option linter.unusedSimpArgs false in
set_option linter.unusedVariables false in
set_option maxRecDepth 100000 in
set_option maxHeartbeats 6400000 in
theorem edits_r15 (wd : World) (B pb2 po2 k i : Nat) (u6 : Sl) (bm : List BxM) (q : BxM) (y : Int) (hu6 : u6.n ≤ 200) (hxd : B < wd.heap.size) (hpd2 : pb2 < wd.heap.size) (E0 : Hid (wd.cell? ⟨B, 0, none⟩ = some (.slice q.1.lo.a q.1.lo.n q.1.lo.c))) (E1 : Hid (wd.cell? ⟨B, 1, none⟩ = some (.slice q.1.hi.a q.1.hi.n q.1.hi.c))) (E2 : Hid (wd.cell? ⟨pb2, po2, none⟩ = some (.int .i64 y))) (ix2 : ∀ W, Sem.run Try.prog (Instr.indexAt 22 (.slice q.1.hi.a q.1.hi.n q.1.hi.c) (.int .i64 (i : Int))) W = .ok (.pointer (some ⟨pb2, po2, none⟩)) W) (hyw : IntKind.i64.wrap (y + 1) = y + 1) (HLSD : Hid (BRow wd u6 (bm.take k ++ bm.drop (k + 1)))) (HBQD : Hid (BoxRd wd q)) (CW1 : Hid (∀ (X : World), Below wd.heap.size wd X → Calls Try.prog 25 #[.slice q.1.hi.a q.1.hi.n q.1.hi.c, .int .i64 (i : Int), .int .i64 (y + 1)] X (OwnPost 3 1 q.1.hi.n (ints (q.2.2.set i (y + 1))) X))) (Q : Exit → Act → World → Prop) (hQp : PanicOk Q) (c0 c1 c2 c3 c4 c5 c6 c7 c8 c9 c10 c11 c12 c13 c14 c17 c19 c20 c21 c22 c23 c24 c25 c26 c27 c28 c29 c30 c31 c32 c33 c34 c35 c36 c37 c38 c39 c40 c41 c42 c43 c44 c45 c46 c47 c48 c49 c50 c51 c52 c53 c54 c55 c56 c57 c58 c59 c60 c61 c62 c63 c64 c65 c66 c67 c68 c69 c70 c71 c72 c73 c74 c75 c76 c77 c78 c79 c80 c81 c82 c83 c84 c85 c86 c87 c88 c89 c90 c91 c92 c93 c94 c95 c96 c97 c98 c99 c100 c101 c102 c103 c104 c105 c106 c107 c108 c109 c110 c111 c112 c113 c114 c115 c116 c117 c118 c119 c120 c121 c122 c123 c124 c125 c126 c127 c128 c129 c130 c131 c132 c133 c134 c135 c136 c137 c138 c139 c140 c141 c142 c143 c144 c145 c146 c147 c148 c149 c150 c151 c152 c153 c154 c155 c156 c157 c158 c159 c160 c161 c162 c163 c164 c165 c166 c167 c168 c169 c170 c171 c172 c173 c174 c175 c176 c177 c178 c179 c180 c181 c182 c183 c184 c185 c186 c187 c188 c189 c190 c191 c192 c193 : Value)
    (hQ : Hid (∀ (d123 d124 d125 d126 d127 d128 d129 d130 d131 d132 d133 d134 d135 d136 d137 d138 d139 d140 : Value) (X : World) (u9 : Sl), u9.n ≤ 300 → Hid (∃ qw : BxM, qw.2 = (q.2.1, q.2.2.set i (y + 1)) ∧ BRow X u9 (bm.take k ++ bm.drop (k + 1) ++ [qw])) → Hid (Below wd.heap.size wd X) → Q .normal ⟨#[c0, c1, c2, c3, c4, c5, c6, c7, c8, c9, c10, c11, c12, c13, c14, .int .i64 (i : Int), .slice u6.a u6.n u6.c, c17, .pointer (some ⟨B, 0, none⟩), .slice u9.a u9.n u9.c, c20, c21, c22, c23, c24, c25, c26, c27, c28, c29, c30, c31, c32, c33, c34, c35, c36, c37, c38, c39, c40, c41, c42, c43, c44, c45, c46, c47, c48, c49, c50, c51, c52, c53, c54, c55, c56, c57, c58, c59, c60, c61, c62, c63, c64, c65, c66, c67, c68, c69, c70, c71, c72, c73, c74, c75, c76, c77, c78, c79, c80, c81, c82, c83, c84, c85, c86, c87, c88, c89, c90, c91, c92, c93, c94, c95, c96, c97, c98, c99, c100, c101, c102, c103, c104, c105, c106, c107, c108, c109, c110, c111, c112, c113, c114, c115, c116, c117, c118, c119, c120, c121, c122, d123, d124, d125, d126, d127, d128, d129, d130, d131, d132, d133, d134, d135, d136, d137, d138, d139, d140, c141, c142, c143, c144, c145, c146, c147, c148, c149, c150, c151, c152, c153, c154, c155, c156, c157, c158, c159, c160, c161, c162, c163, c164, c165, c166, c167, c168, c169, c170, c171, c172, c173, c174, c175, c176, c177, c178, c179, c180, c181, c182, c183, c184, c185, c186, c187, c188, c189, c190, c191, c192, c193], []⟩ X)) :
    Code.wp Try.prog (regCode6 15) Q ⟨#[c0, c1, c2, c3, c4, c5, c6, c7, c8, c9, c10, c11, c12, c13, c14, .int .i64 (i : Int), .slice u6.a u6.n u6.c, c17, .pointer (some ⟨B, 0, none⟩), c19, c20, c21, c22, c23, c24, c25, c26, c27, c28, c29, c30, c31, c32, c33, c34, c35, c36, c37, c38, c39, c40, c41, c42, c43, c44, c45, c46, c47, c48, c49, c50, c51, c52, c53, c54, c55, c56, c57, c58, c59, c60, c61, c62, c63, c64, c65, c66, c67, c68, c69, c70, c71, c72, c73, c74, c75, c76, c77, c78, c79, c80, c81, c82, c83, c84, c85, c86, c87, c88, c89, c90, c91, c92, c93, c94, c95, c96, c97, c98, c99, c100, c101, c102, c103, c104, c105, c106, c107, c108, c109, c110, c111, c112, c113, c114, c115, c116, c117, c118, c119, c120, c121, c122, c123, c124, c125, c126, c127, c128, c129, c130, c131, c132, c133, c134, c135, c136, c137, c138, c139, c140, c141, c142, c143, c144, c145, c146, c147, c148, c149, c150, c151, c152, c153, c154, c155, c156, c157, c158, c159, c160, c161, c162, c163, c164, c165, c166, c167, c168, c169, c170, c171, c172, c173, c174, c175, c176, c177, c178, c179, c180, c181, c182, c183, c184, c185, c186, c187, c188, c189, c190, c191, c192, c193], []⟩ wd := by
  conv => arg 2; whnf
  obtain ⟨i4, hi4, hz40, hz41, hz42⟩ := info_parts info44
  have e0 := E0.out
  have e1 := E1.out
  have e2 := E2.out
  refine wp_region_held_drew (S := (fun X => X.cell? ⟨B, 0, none⟩ = some (.slice q.1.lo.a q.1.lo.n q.1.lo.c) ∧ X.cell? ⟨B, 1, none⟩ = some (.slice q.1.hi.a q.1.hi.n q.1.hi.c) ∧ X.cell? ⟨pb2, po2, none⟩ = some (.int .i64 y))) (by kernel_rfl) ?_ (fun hHeld => ?_)
  · simp [go_sem, *]
  have rT0 := (St.start wd).drew
  generalize wd.drew = rv0 at rT0 hHeld ⊢
  have rS0 := Lib.hid (rT0)
  have rc0_0 := (rS0.out.bl.cell (p := ⟨B, 0, none⟩) hxd).trans E0.out
  have rc0_1 := (rS0.out.bl.cell (p := ⟨B, 1, none⟩) hxd).trans E1.out
  have rc0_2 := (rS0.out.bl.cell (p := ⟨pb2, po2, none⟩) hpd2).trans E2.out
  have rb0 := rS0.out.bl.size
  clear rT0
  refine wpAnyH_take (i := 1) (v := ?_) rfl (by kernel_rfl) (by kernel_rfl) (by kernel_rfl) (fun _ _ _ h => hQp _ _ _ _ h rfl) (Or.inl ⟨by rfl, ?_⟩) (by assumption) ?_
  rotate_left
  · intro w hSw; (try dsimp only at hSw); go_simp; (first | done | (with_reducible rfl))
  try simp only [Act.put, List.getElem_toArray, List.getElem_cons_succ, List.getElem_cons_zero, List.setIfInBounds_toArray, List.set_cons_zero, List.set_cons_succ]
  refine wpAnyH_take (i := 3) (v := ?_) rfl (by kernel_rfl) (by kernel_rfl) (by kernel_rfl) (fun _ _ _ h => hQp _ _ _ _ h rfl) (Or.inl ⟨by rfl, ?_⟩) (by assumption) ?_
  rotate_left
  · intro w hSw; (try dsimp only at hSw); go_simp; (first | done | (with_reducible rfl))
  try simp only [Act.put, List.getElem_toArray, List.getElem_cons_succ, List.getElem_cons_zero, List.setIfInBounds_toArray, List.set_cons_zero, List.set_cons_succ]
  refine wpAnyH_take (i := 4) (v := ?_) rfl (by kernel_rfl) (by kernel_rfl) (by kernel_rfl) (fun _ _ _ h => hQp _ _ _ _ h rfl) (Or.inl ⟨by rfl, ?_⟩) (by assumption) ?_
  rotate_left
  · intro w hSw; (try dsimp only at hSw); go_simp; (first | done | (with_reducible rfl))
  try simp only [Act.put, List.getElem_toArray, List.getElem_cons_succ, List.getElem_cons_zero, List.setIfInBounds_toArray, List.set_cons_zero, List.set_cons_succ]
  refine wpAnyH_take (i := 5) (v := ?_) rfl (by kernel_rfl) (by kernel_rfl) (by kernel_rfl) (fun _ _ _ h => hQp _ _ _ _ h rfl) (Or.inl ⟨by rfl, ?_⟩) (by assumption) ?_
  rotate_left
  · intro w hSw; (try dsimp only at hSw); go_simp; (first | done | (with_reducible rfl))
  try simp only [Act.put, List.getElem_toArray, List.getElem_cons_succ, List.getElem_cons_zero, List.setIfInBounds_toArray, List.set_cons_zero, List.set_cons_succ]
  refine wpAnyH_take (i := 6) (v := ?_) rfl (by kernel_rfl) (by kernel_rfl) (by kernel_rfl) (fun _ _ _ h => hQp _ _ _ _ h rfl) (Or.inl ⟨by rfl, ?_⟩) (by assumption) ?_
  rotate_left
  · intro w hSw; (try dsimp only at hSw); go_simp; (first | done | (with_reducible rfl))
  try simp only [Act.put, List.getElem_toArray, List.getElem_cons_succ, List.getElem_cons_zero, List.setIfInBounds_toArray, List.set_cons_zero, List.set_cons_succ]
  refine wpAnyH_take (i := 7) (v := ?_) rfl (by kernel_rfl) (by kernel_rfl) (by kernel_rfl) (fun _ _ _ h => hQp _ _ _ _ h rfl) (Or.inl ⟨by rfl, ?_⟩) (by assumption) ?_
  rotate_left
  · intro w hSw; (try dsimp only at hSw); go_simp; (first | done | (with_reducible rfl))
  try simp only [Act.put, List.getElem_toArray, List.getElem_cons_succ, List.getElem_cons_zero, List.setIfInBounds_toArray, List.set_cons_zero, List.set_cons_succ]
  refine wpAnyH_take (i := 8) (v := ?_) rfl (by kernel_rfl) (by kernel_rfl) (by kernel_rfl) (fun _ _ _ h => hQp _ _ _ _ h rfl) (Or.inl ⟨by rfl, ?_⟩) (by assumption) ?_
  rotate_left
  · intro w hSw; (try dsimp only at hSw); go_simp; (first | done | (with_reducible rfl))
  try simp only [Act.put, List.getElem_toArray, List.getElem_cons_succ, List.getElem_cons_zero, List.setIfInBounds_toArray, List.set_cons_zero, List.set_cons_succ]
  refine wpAnyH_take (i := 9) (v := ?_) rfl (by kernel_rfl) (by kernel_rfl) (by kernel_rfl) (fun _ _ _ h => hQp _ _ _ _ h rfl) (Or.inl ⟨by rfl, ?_⟩) (by assumption) ?_
  rotate_left
  · intro w hSw; (try dsimp only at hSw); go_simp; (first | done | (with_reducible rfl))
  try simp only [Act.put, List.getElem_toArray, List.getElem_cons_succ, List.getElem_cons_zero, List.setIfInBounds_toArray, List.set_cons_zero, List.set_cons_succ]
  refine wpAnyH_take (i := 10) (v := ?_) rfl (by kernel_rfl) (by kernel_rfl) (by kernel_rfl) (fun _ _ _ h => hQp _ _ _ _ h rfl) (Or.inl ⟨by rfl, ?_⟩) (by assumption) ?_
  rotate_left
  · intro w hSw; (try dsimp only at hSw); go_simp; (first | done | (with_reducible rfl))
  try simp only [Act.put, List.getElem_toArray, List.getElem_cons_succ, List.getElem_cons_zero, List.setIfInBounds_toArray, List.set_cons_zero, List.set_cons_succ]
  refine wpAnyH_take (i := 11) (v := ?_) rfl (by kernel_rfl) (by kernel_rfl) (by kernel_rfl) (fun _ _ _ h => hQp _ _ _ _ h rfl) (Or.inl ⟨by rfl, ?_⟩) (by assumption) ?_
  rotate_left
  · intro w hSw; (try dsimp only at hSw); go_simp; (first | done | (with_reducible rfl))
  try simp only [Act.put, List.getElem_toArray, List.getElem_cons_succ, List.getElem_cons_zero, List.setIfInBounds_toArray, List.set_cons_zero, List.set_cons_succ]
  refine wpAnyH_take (i := 12) (v := ?_) rfl (by kernel_rfl) (by kernel_rfl) (by kernel_rfl) (fun _ _ _ h => hQp _ _ _ _ h rfl) (Or.inl ⟨by rfl, ?_⟩) (by assumption) ?_
  rotate_left
  · intro w hSw; (try dsimp only at hSw); go_simp; (first | done | (with_reducible rfl))
  try simp only [Act.put, List.getElem_toArray, List.getElem_cons_succ, List.getElem_cons_zero, List.setIfInBounds_toArray, List.set_cons_zero, List.set_cons_succ]
  refine wpAnyH_take (i := 13) (v := ?_) rfl (by kernel_rfl) (by kernel_rfl) (by kernel_rfl) (fun _ _ _ h => hQp _ _ _ _ h rfl) (Or.inl ⟨by rfl, ?_⟩) (by assumption) ?_
  rotate_left
  · intro w hSw; (try dsimp only at hSw); go_simp; (first | done | (with_reducible rfl))
  try simp only [Act.put, List.getElem_toArray, List.getElem_cons_succ, List.getElem_cons_zero, List.setIfInBounds_toArray, List.set_cons_zero, List.set_cons_succ]
  refine wpAnyH_ready (rs := [0]) (by kernel_rfl) (by simp) ?_
  refine AllReadyH.cons rfl (fun K hK => ?_) AllReadyH.nil
  go_simp
  obtain ⟨rv1, hrv1⟩ : ∃ v, v = rv0.alloc (.cells #[] 44) := ⟨_, rfl⟩
  have rT1 : St wd rv1 ([] ++ (⟨44, 3, ⟨some ⟨rv0.heap.size, 0, none⟩, 0, 0⟩, []⟩ : Row) :: []) := by rw [hrv1]; exact St.lit (A := []) (B := []) rS0.out 44 3 0 [] rfl (by decide)
  try rw [← hrv1]
  clear hrv1
  have rS1 := Lib.hid (rT1)
  have rc1_0 := (rS1.out.bl.cell (p := ⟨B, 0, none⟩) hxd).trans E0.out
  have rc1_1 := (rS1.out.bl.cell (p := ⟨B, 1, none⟩) hxd).trans E1.out
  have rc1_2 := (rS1.out.bl.cell (p := ⟨pb2, po2, none⟩) hpd2).trans E2.out
  have rb1 := rS1.out.bl.size
  clear rT1
  refine hK.out _ _ ?_ (fun hHeld => ?_)
  · simp [go_sem, *]
  clear hK K
  try simp only [Act.put, List.getElem_toArray, List.getElem_cons_succ, List.getElem_cons_zero, List.setIfInBounds_toArray, List.set_cons_zero, List.set_cons_succ]
  refine wpAnyH_ready (rs := [2]) (by kernel_rfl) (by simp) ?_
  refine AllReadyH.cons rfl (fun K hK => ?_) AllReadyH.nil
  have rO2 : rv1.ownsRow wd.heap.size 44 3 (.slice (some ⟨rv0.heap.size, 0, none⟩) 0 0) 0 ([]) := rS1.out.at_ 0 rfl
  refine step_append_rd rfl (.tmp 123) (.tmp 124) 26 rfl wd.heap.size 44 i4 _ 3 56 Try.underlying26 hi4 hz40 hz41 hz42 rfl (by decide) ((some ⟨rv0.heap.size, 0, none⟩)) (0) (0) ([]) (by simp [Act.eval, Act.put]) rO2 rv1.heap.size (u6.a) (u6.n) (u6.c) (cellsB (bm.take k ++ bm.drop (k + 1))) (by simp [Act.eval, Act.put]) ((HLSD.out.up rS1.out.bl).rd) (flat_one' _) (by omega) (by omega) rS1.out.bl.size ?_
  intro ru2 rv2 ro2 rg2 rn2
  have rT2 : St wd rv2 ([] ++ (⟨44, 3, ⟨ru2.a, u6.n, ru2.c⟩, cellsB (bm.take k ++ bm.drop (k + 1))⟩ : Row) :: []) := St.app (A := []) (B := []) rS1.out rg2 (by have h := ro2; simp only [Nat.zero_add, List.nil_append] at h; exact h) (by have h := rn2; simp only [Nat.zero_add] at h; exact h)
  have rS2 := Lib.hid (rT2)
  have rc2_0 := (rS2.out.bl.cell (p := ⟨B, 0, none⟩) hxd).trans E0.out
  have rc2_1 := (rS2.out.bl.cell (p := ⟨B, 1, none⟩) hxd).trans E1.out
  have rc2_2 := (rS2.out.bl.cell (p := ⟨pb2, po2, none⟩) hpd2).trans E2.out
  have rb2 := rS2.out.bl.size
  clear rT2 rO2 ro2 rg2 rn2
  refine hK.out _ _ ?_ (fun hHeld => ?_)
  · simp [go_sem, *]
  clear hK K
  try simp only [Act.put, List.getElem_toArray, List.getElem_cons_succ, List.getElem_cons_zero, List.setIfInBounds_toArray, List.set_cons_zero, List.set_cons_succ]
  refine wpAnyH_ready (rs := [14]) (by kernel_rfl) (by simp) ?_
  refine AllReadyH.cons rfl (fun K hK => ?_) AllReadyH.nil
  go_simp
  refine (CW1.out _ rS2.out.bl).mono ?_
  rintro e rv3 ⟨rw3, rfl, ro3, rh3⟩
  have rT3 : St wd rv3 ([(⟨44, 3, ⟨ru2.a, u6.n, ru2.c⟩, cellsB (bm.take k ++ bm.drop (k + 1))⟩ : Row)] ++ (⟨3, 1, ⟨rw3.a, q.1.hi.n, rw3.c⟩, ints (q.2.2.set i (y + 1))⟩ : Row) :: []) := St.call (A := [(⟨44, 3, ⟨ru2.a, u6.n, ru2.c⟩, cellsB (bm.take k ++ bm.drop (k + 1))⟩ : Row)]) (B := []) rS2.out rh3 ro3
  have rS3 := Lib.hid (rT3)
  have rc3_0 := (rS3.out.bl.cell (p := ⟨B, 0, none⟩) hxd).trans E0.out
  have rc3_1 := (rS3.out.bl.cell (p := ⟨B, 1, none⟩) hxd).trans E1.out
  have rc3_2 := (rS3.out.bl.cell (p := ⟨pb2, po2, none⟩) hpd2).trans E2.out
  have rb3 := rS3.out.bl.size
  clear rT3 ro3 rh3
  refine hK.out _ _ ?_ (fun hHeld => ?_)
  · simp [go_sem, *]
  clear hK K
  try simp only [Act.put, List.getElem_toArray, List.getElem_cons_succ, List.getElem_cons_zero, List.setIfInBounds_toArray, List.set_cons_zero, List.set_cons_succ]
  refine wpAnyH_take (i := 15) (v := ?_) rfl (by kernel_rfl) (by kernel_rfl) (by kernel_rfl) (fun _ _ _ h => hQp _ _ _ _ h rfl) (Or.inl ⟨by rfl, ?_⟩) (by assumption) ?_
  rotate_left
  · intro w hSw; (try dsimp only at hSw); go_simp; (first | done | (with_reducible rfl))
  try simp only [Act.put, List.getElem_toArray, List.getElem_cons_succ, List.getElem_cons_zero, List.setIfInBounds_toArray, List.set_cons_zero, List.set_cons_succ]
  refine wpAnyH_ready (rs := [16]) (by kernel_rfl) (by simp) ?_
  refine AllReadyH.cons rfl (fun K hK => ?_) AllReadyH.nil
  go_simp
  obtain ⟨rv4, hrv4⟩ : ∃ v, v = rv3.alloc (.cells #[.slice q.1.lo.a q.1.lo.n q.1.lo.c, .slice rw3.a q.1.hi.n rw3.c, .bool false] 44) := ⟨_, rfl⟩
  have rT4 : St wd rv4 ([(⟨44, 3, ⟨ru2.a, u6.n, ru2.c⟩, cellsB (bm.take k ++ bm.drop (k + 1))⟩ : Row), (⟨3, 1, ⟨rw3.a, q.1.hi.n, rw3.c⟩, ints (q.2.2.set i (y + 1))⟩ : Row)] ++ (⟨44, 3, ⟨some ⟨rv3.heap.size, 0, none⟩, 1, 1⟩, [.slice q.1.lo.a q.1.lo.n q.1.lo.c, .slice rw3.a q.1.hi.n rw3.c, .bool false]⟩ : Row) :: []) := by rw [hrv4]; exact St.lit (A := [(⟨44, 3, ⟨ru2.a, u6.n, ru2.c⟩, cellsB (bm.take k ++ bm.drop (k + 1))⟩ : Row), (⟨3, 1, ⟨rw3.a, q.1.hi.n, rw3.c⟩, ints (q.2.2.set i (y + 1))⟩ : Row)]) (B := []) rS3.out 44 3 1 [.slice q.1.lo.a q.1.lo.n q.1.lo.c, .slice rw3.a q.1.hi.n rw3.c, .bool false] rfl (by decide)
  try rw [← hrv4]
  clear hrv4
  have rS4 := Lib.hid (rT4)
  have rc4_0 := (rS4.out.bl.cell (p := ⟨B, 0, none⟩) hxd).trans E0.out
  have rc4_1 := (rS4.out.bl.cell (p := ⟨B, 1, none⟩) hxd).trans E1.out
  have rc4_2 := (rS4.out.bl.cell (p := ⟨pb2, po2, none⟩) hpd2).trans E2.out
  have rb4 := rS4.out.bl.size
  clear rT4
  refine hK.out _ _ ?_ (fun hHeld => ?_)
  · simp [go_sem, *]
  clear hK K
  try simp only [Act.put, List.getElem_toArray, List.getElem_cons_succ, List.getElem_cons_zero, List.setIfInBounds_toArray, List.set_cons_zero, List.set_cons_succ]
  refine wpAnyH_ready (rs := [17]) (by kernel_rfl) (by simp) ?_
  refine AllReadyH.cons rfl (fun K hK => ?_) AllReadyH.nil
  have rO5 : rv4.ownsRow wd.heap.size 44 3 (.slice ru2.a u6.n ru2.c) u6.n (cellsB (bm.take k ++ bm.drop (k + 1))) := rS4.out.at_ 0 rfl
  refine step_append_rd rfl (.tmp 125) (.tmp 139) 26 rfl wd.heap.size 44 i4 _ 3 56 Try.underlying26 hi4 hz40 hz41 hz42 rfl (by decide) (ru2.a) (u6.n) (ru2.c) (cellsB (bm.take k ++ bm.drop (k + 1))) (by simp [Act.eval, Act.put]) rO5 rv4.heap.size ((some ⟨rv3.heap.size, 0, none⟩)) (1) (1) (cellsB [((⟨q.1.lo, ⟨rw3.a, q.1.hi.n, rw3.c⟩, false⟩, q.2.1, q.2.2.set i (y + 1)) : BxM)]) (by simp [Act.eval, Act.put]) (own_rd (rS4.out.at_ 2 rfl)) (flat_one' _) (by omega) (by omega) rS4.out.bl.size ?_
  intro ru5 rv5 ro5 rg5 rn5
  have rT5 : St wd rv5 ([] ++ (⟨44, 3, ⟨ru5.a, u6.n + 1, ru5.c⟩, cellsB (bm.take k ++ bm.drop (k + 1) ++ [((⟨q.1.lo, ⟨rw3.a, q.1.hi.n, rw3.c⟩, false⟩, q.2.1, q.2.2.set i (y + 1)) : BxM)])⟩ : Row) :: [(⟨3, 1, ⟨rw3.a, q.1.hi.n, rw3.c⟩, ints (q.2.2.set i (y + 1))⟩ : Row), (⟨44, 3, ⟨some ⟨rv3.heap.size, 0, none⟩, 1, 1⟩, [.slice q.1.lo.a q.1.lo.n q.1.lo.c, .slice rw3.a q.1.hi.n rw3.c, .bool false]⟩ : Row)]) := St.app (A := []) (B := [(⟨3, 1, ⟨rw3.a, q.1.hi.n, rw3.c⟩, ints (q.2.2.set i (y + 1))⟩ : Row), (⟨44, 3, ⟨some ⟨rv3.heap.size, 0, none⟩, 1, 1⟩, [.slice q.1.lo.a q.1.lo.n q.1.lo.c, .slice rw3.a q.1.hi.n rw3.c, .bool false]⟩ : Row)]) rS4.out rg5 (by have h := ro5; rw [← cellsB_append] at h; exact h) (by have h := rn5; skip; exact h)
  have rS5 := Lib.hid (rT5)
  have rc5_0 := (rS5.out.bl.cell (p := ⟨B, 0, none⟩) hxd).trans E0.out
  have rc5_1 := (rS5.out.bl.cell (p := ⟨B, 1, none⟩) hxd).trans E1.out
  have rc5_2 := (rS5.out.bl.cell (p := ⟨pb2, po2, none⟩) hpd2).trans E2.out
  have rb5 := rS5.out.bl.size
  clear rT5 rO5 ro5 rg5 rn5
  refine hK.out _ _ ?_ (fun hHeld => ?_)
  · simp [go_sem, *]
  clear hK K
  try simp only [Act.put, List.getElem_toArray, List.getElem_cons_succ, List.getElem_cons_zero, List.setIfInBounds_toArray, List.set_cons_zero, List.set_cons_succ]
  refine wpAnyH_take (i := 18) (v := ?_) rfl (by kernel_rfl) (by kernel_rfl) (by kernel_rfl) (fun _ _ _ h => hQp _ _ _ _ h rfl) (Or.inl ⟨by rfl, ?_⟩) (by assumption) ?_
  rotate_left
  · intro w hSw; (try dsimp only at hSw); go_simp; (first | done | (with_reducible rfl))
  try simp only [Act.put, List.getElem_toArray, List.getElem_cons_succ, List.getElem_cons_zero, List.setIfInBounds_toArray, List.set_cons_zero, List.set_cons_succ]
  refine wpAnyH_done (by kernel_rfl) ?_ _
  refine hQ.out _ _ _ _ _ _ _ _ _ _ _ _ _ _ _ _ _ _ _ ⟨ru5.a, u6.n + 1, ru5.c⟩ ?_ ?_ ?_
  · show u6.n + 1 ≤ 300; omega
  · exact Lib.hid ⟨((⟨q.1.lo, ⟨rw3.a, q.1.hi.n, rw3.c⟩, false⟩, q.2.1, q.2.2.set i (y + 1)) : BxM), rfl, own_rd (rS5.out.at_ 0 rfl), fun p hp => (List.mem_append.1 hp).elim (fun h => (HLSD.out.el p h).up rS5.out.bl) (fun h => by rw [List.mem_singleton] at h; subst h; exact ⟨(HBQD.out.lo).up rS5.out.bl, own_rd (rS5.out.at_ 1 rfl)⟩)⟩
  · exact Lib.hid rS5.out.bl
end Go.Proofs.Ytcncobhdfflelaa
