/- The plain law of BoxesChecks, and the contracts of the law's few and of the reference's Holds, within, meet. -/
import Derived.Test.YtcncobhdfflelaaIc
import Derived.Test.YtcncobhdfflelaaFa
namespace Go.Proofs.Ytcncobhdfflelaa
namespace Bx
/-- the points of some boxes -/
def covP (bs : List Dm) (p : List Int) : Bool := bs.any fun b => contains b.1 b.2 p
/-- every point of D lies in one of the boxes -/
def cov (D : Dm) (bs : List Dm) : Bool := decide (cnt D (covP bs) = vol D.1 D.2)
theorem cnt_le (D : Dm) (P : List Int → Bool) : cnt D P ≤ vol D.1 D.2 := by
  rw [← cnt_true D]
  exact cntF_le _ fun p _ _ => rfl
theorem cov_cut (D : Dm) (bs : List Dm) {i : Nat} {x y m : Int} (h1 : D.1[i]? = some x) (h2 : D.2[i]? = some y) (h3 : x ≤ m) (h4 : m ≤ y) : cov D bs = (cov (D.1, D.2.set i m) bs && cov (D.1.set i (m + 1), D.2) bs) := by
  have e1 := cnt_cut D (covP bs) h1 h2 h3 h4
  have e2 := cnt_cut D (fun _ => true) h1 h2 h3 h4
  rw [cnt_true, cnt_true, cnt_true] at e2
  have l1 := cnt_le (D.1, D.2.set i m) (covP bs)
  have l2 := cnt_le (D.1.set i (m + 1), D.2) (covP bs)
  unfold cov
  rw [← Bool.decide_and]
  refine decide_eq_decide.2 ⟨fun h => ?_, fun h => ?_⟩ <;> omega
/-- the point of a box with the least numbers -/
theorem meet_inZ : ∀ {al ah bl bh p : List Int}, al.length = ah.length → bl.length = bh.length → al.length = bl.length → InZ (al.zip ah) p → InZ (bl.zip bh) p → meet al ah bl bh = true
  | [], [], [], [], [], _, _, _, _, _ => rfl
  | a :: al, b :: ah, c :: bl, d :: bh, x :: p, h1, h2, h3, hp, hq => by
    rw [meet, meet_inZ (p := p) (by simpa using h1) (by simpa using h2) (by simpa using h3) hp.2.2 hq.2.2]
    have a1 := hp.1
    have a2 := hp.2.1
    have a3 := hq.1
    have a4 := hq.2.1
    simp
    omega
  | _ :: _, _ :: _, _ :: _, _ :: _, [], _, _, _, h, _ => h.elim
  | [], [], [], [], _ :: _, _, _, _, h, _ => h.elim
  | [], _ :: _, _, _, _, h, _, _, _, _ => by simp at h
  | _ :: _, [], _, _, _, h, _, _, _, _ => by simp at h
  | _, _, [], _ :: _, _, _, h, _, _, _ => by simp at h
  | _, _, _ :: _, [], _, _, h, _, _, _ => by simp at h
  | [], _, _ :: _, _, _, _, _, h, _, _ => by simp at h
  | _ :: _, _, [], _, _, _, _, h, _, _ => by simp at h
theorem contains_inZ {b : Dm} (hl : b.1.length = b.2.length) (p : List Int) : contains b.1 b.2 p = true ↔ InZ (b.1.zip b.2) p := (inZ_contains hl).symm
/-- no box meets D: no point of D is covered -/
theorem cov_none {n : Nat} {D : Dm} {bs : List Dm} (hD : Dims n D) (hb : ∀ b ∈ bs, Dims n b) (hm : ∀ b ∈ bs, meetD b D = false) (hv : 1 ≤ vol D.1 D.2) : cov D bs = false := by
  have e : cnt D (covP bs) = 0 := by
    have : cnt D (covP bs) = cnt D (fun _ => false) := cntF_ext _ fun p hp => by
      unfold covP
      rw [List.any_eq_false]
      intro b hbm h
      have d := hb b hbm
      have h' := (contains_inZ (d.1.trans d.2.symm) p).1 h
      have := meet_inZ (d.1.trans d.2.symm) (hD.1.trans hD.2.symm) (d.1.trans hD.1.symm) h' hp
      have hmb := hm b hbm
      unfold meetD at hmb
      rw [this] at hmb
      cases hmb
    rw [this]
    exact cntF_false _
  unfold cov
  rw [e]
  exact decide_eq_false (by omega)
theorem inZ_wider : ∀ {al ah bl bh p : List Int}, al.length = bl.length → ah.length = bh.length → (∀ (i : Nat) (a b c d : Int), al[i]? = some a → ah[i]? = some b → bl[i]? = some c → bh[i]? = some d → c ≤ a ∧ b ≤ d) → InZ (al.zip ah) p → InZ (bl.zip bh) p
  | [], ah, bl, bh, p, h1, _, _, hp => by
    have : bl = [] := List.eq_nil_of_length_eq_zero (by simpa using h1.symm)
    subst this
    simpa using hp
  | a :: al, [], bl, bh, p, _, h2, _, hp => by
    have : bh = [] := List.eq_nil_of_length_eq_zero (by simpa using h2.symm)
    subst this
    simpa using hp
  | a :: al, b :: ah, c :: bl, d :: bh, x :: p, h1, h2, h, hp => by
    have h0 := h 0 a b c d rfl rfl rfl rfl
    have q1 := hp.1
    have q2 := hp.2.1
    exact ⟨by simp only at q1 ⊢; omega, by simp only at q2 ⊢; omega, inZ_wider (by simpa using h1) (by simpa using h2) (fun i a' b' c' d' e1 e2 e3 e4 => h (i + 1) a' b' c' d' (by simpa using e1) (by simpa using e2) (by simpa using e3) (by simpa using e4)) hp.2.2⟩
  | a :: al, b :: ah, c :: bl, d :: bh, [], _, _, _, hp => hp.elim
  | _ :: _, _ :: _, [], _, _, h, _, _, _ => by simp at h
  | _ :: _, _ :: _, _ :: _, [], _, _, h, _, _ => by simp at h
/-- a box holds D -/
theorem cov_all {n : Nat} {D b : Dm} {bs : List Dm} (hD : Dims n D) (hd : Dims n b) (hb : b ∈ bs) (h : ∀ (i : Nat) (x y p q : Int), D.1[i]? = some x → D.2[i]? = some y → b.1[i]? = some p → b.2[i]? = some q → p ≤ x ∧ y ≤ q) : cov D bs = true := by
  have e : cnt D (covP bs) = cnt D (fun _ => true) := cntF_ext _ fun p hp => by
    unfold covP
    rw [List.any_eq_true]
    exact ⟨b, hb, (contains_inZ (hd.1.trans hd.2.symm) p).2 (inZ_wider (hD.1.trans hd.1.symm) (hD.2.trans hd.2.symm) (fun i a b c d => h i a b c d) hp)⟩
  unfold cov
  rw [e, cnt_true]
  exact decide_eq_true rfl
/-- the points of a box within D -/
theorem cnt_sub : ∀ {al ah bl bh : List Int}, al.length = ah.length → bl.length = al.length → bh.length = al.length → (∀ (i : Nat) (a c x y : Int), al[i]? = some a → ah[i]? = some c → bl[i]? = some x → bh[i]? = some y → a ≤ x ∧ x ≤ y ∧ y ≤ c) →
    cntF (al.zip ah) (fun p => contains bl bh p) = volF (bl.zip bh)
  | [], [], [], [], _, _, _, _ => by simp [cntF, contains, inside, volF]
  | a :: al, c :: ah, x :: bl, y :: bh, h1, h2, h3, h => by
    have h0 := h 0 a c x y rfl rfl rfl rfl
    have ih := cnt_sub (al := al) (ah := ah) (bl := bl) (bh := bh) (by simpa using h1) (by simpa using h2) (by simpa using h3) (fun i a' b' c' d' e1 e2 e3 e4 => h (i + 1) a' b' c' d' (by simpa using e1) (by simpa using e2) (by simpa using e3) (by simpa using e4))
    have hc : ∀ (z : Int) (p : List Int), contains (x :: bl) (y :: bh) (z :: p) = (decide (x ≤ z) && decide (z ≤ y) && contains bl bh p) := fun z p => by
      have e1 : (!(decide (z < x))) = decide (x ≤ z) := by by_cases g : z < x <;> simp [g] <;> omega
      have e2 : (!(decide (y < z))) = decide (z ≤ y) := by by_cases g : y < z <;> simp [g] <;> omega
      unfold contains
      rw [inside, e1, e2]
      simp only [List.length_cons, Nat.add_right_cancel_iff]
      cases decide (x ≤ z) <;> cases decide (z ≤ y) <;> simp
    rw [List.zip_cons_cons, cntF, List.zip_cons_cons, volF]
    have hin : ∀ z : Int, x ≤ z → z ≤ y → cntF (al.zip ah) (fun p => contains (x :: bl) (y :: bh) (z :: p)) = volF (bl.zip bh) := fun z g1 g2 => by
      rw [← ih]
      exact cntF_ext _ fun p _ => by rw [hc]; simp [g1, g2]
    have hout : ∀ z : Int, z < x ∨ y < z → cntF (al.zip ah) (fun p => contains (x :: bl) (y :: bh) (z :: p)) = 0 := fun z g => by
      rw [cntF_ext _ (R := fun _ => false) fun p _ => by rw [hc]; rcases g with g | g <;> simp <;> omega]
      exact cntF_false _
    have z0 : ∀ s t : Int, (∀ z, s ≤ z → z ≤ t → z < x ∨ y < z) → sumR (fun z => cntF (al.zip ah) fun p => contains (x :: bl) (y :: bh) (z :: p)) s t = 0 := fun s t g => by
      rw [sumR_ext (g := fun _ => 0) fun z g1 g2 => hout z (g z g1 g2)]
      unfold sumR
      rw [sumI_const, Nat.mul_zero]
    have mid : sumR (fun z => cntF (al.zip ah) fun p => contains (x :: bl) (y :: bh) (z :: p)) x y = (y - x + 1).toNat * volF (bl.zip bh) := by
      rw [sumR_ext (g := fun _ => volF (bl.zip bh)) fun z g1 g2 => hin z g1 g2]
      unfold sumR
      rw [sumI_const]
    have right : sumR (fun z => cntF (al.zip ah) fun p => contains (x :: bl) (y :: bh) (z :: p)) x c = (y - x + 1).toNat * volF (bl.zip bh) := by
      rw [← sumR_cut _ h0.2.1 h0.2.2, mid, z0 (y + 1) c (fun z g1 _ => .inr (by omega)), Nat.add_zero]
    show sumR _ a c = _
    by_cases g : a = x
    · rw [g]; exact right
    · rw [← sumR_cut (m := x - 1) _ (by omega) (by omega), z0 a (x - 1) (fun z _ g2 => .inl (by omega)), Nat.zero_add, show x - 1 + 1 = x by omega]
      exact right
  | [], _ :: _, _, _, h, _, _, _ => by simp at h
  | _ :: _, [], _, _, h, _, _, _ => by simp at h
  | [], _, _ :: _, _, _, h, _, _ => by simp at h
  | _ :: _, _, [], _, _, h, _, _ => by simp at h
  | [], _, _, _ :: _, _, _, h, _ => by simp at h
  | _ :: _, _, _, [], _, _, h, _ => by simp at h
/-- boxes that lie apart within D: the points are the sum of the volumes -/
theorem cnt_apart {D : Dm} (hl : D.2.length = D.1.length) : ∀ {bs : List Dm}, (∀ b ∈ bs, Sub D b) → bs.Pairwise (fun b c => meetD b c = false) → cnt D (covP bs) = sumC (fun _ => true) bs
  | [], _, _ => by
    show cntF _ (fun _ => false) = 0
    exact cntF_false _
  | b :: bs, hs, hp => by
    have hb := hs b List.mem_cons_self
    rw [List.pairwise_cons] at hp
    rw [sumC, cnt_true, ← cnt_apart hl (fun c hc => hs c (List.mem_cons_of_mem _ hc)) hp.2]
    have e1 : cnt D (covP (b :: bs)) = cnt D (fun p => contains b.1 b.2 p || covP bs p) := rfl
    have hlb : b.1.length = b.2.length := hb.l1.trans hb.l2.symm
    have e2 : cntF (D.1.zip D.2) (fun p => contains b.1 b.2 p || covP bs p) = cntF (D.1.zip D.2) (fun p => contains b.1 b.2 p) + cntF (D.1.zip D.2) (covP bs) := cntF_or _ fun p _ h => by
      unfold covP
      rw [List.any_eq_false]
      intro c hc h'
      have sc := hs c (List.mem_cons_of_mem _ hc)
      have hlc : c.1.length = c.2.length := sc.l1.trans sc.l2.symm
      have := meet_inZ hlb hlc (hb.l1.trans sc.l1.symm) ((contains_inZ hlb p).1 h) ((contains_inZ hlc p).1 h')
      have hm := hp.1 c hc
      unfold meetD at hm
      rw [this] at hm
      cases hm
    rw [e1]
    show cntF _ _ = _
    rw [e2, cnt_sub (hl.symm) (hb.l1) (hb.l2) hb.in_]
    rfl
/-- the reference's check -/
def checkR (lo hi : List Int) (bs : List Dm) : Bool := valid lo hi && (bs.all fun b => within lo hi b) && disj bs && cov (lo, hi) bs
theorem checkR_eq (lo hi : List Int) (bs : List Dm) : checkR lo hi bs = check lo hi bs := by
  unfold checkR
  cases hv : valid lo hi with
  | false =>
    unfold check
    rw [hv]
    rfl
  | true =>
    cases hw : bs.all (fun b => within lo hi b) with
    | false =>
      unfold check
      rw [hv]
      cases hc : chkF lo hi 0 bs with
      | none => rfl
      | some s =>
        have := chkF_within hc
        have h2 : bs.all (fun b => within lo hi b) = true := List.all_eq_true.2 this
        rw [h2] at hw
        cases hw
    | true =>
      have hs : ∀ b ∈ bs, Sub (lo, hi) b := fun b hb => within_sub (List.all_eq_true.1 hw b hb)
      rw [check_sub hv hs]
      cases hd : disj bs with
      | false => rw [Bool.and_false, Bool.and_false]; rfl
      | true =>
        unfold cov
        rw [cnt_apart ((sub_self' hv).2.1) hs ((disj_iff _).1 hd)]
        simp
theorem disj_snoc {l : List Dm} {c : Dm} (h : disj l = true) (hc : ∀ b ∈ l, meetD b c = false) : disj (l ++ [c]) = true := by
  rw [disj_iff] at h ⊢
  rw [List.pairwise_append]
  exact ⟨h, List.pairwise_singleton _ _, fun b hb d hd => by rw [List.mem_singleton] at hd; subst hd; exact hc b hb⟩
theorem disj_meets {l : List Dm} {i j : Nat} {b c : Dm} (hij : i < j) (hb : l[i]? = some b) (hc : l[j]? = some c) (hm : meetD b c = true) : disj l = false := by
  cases h : disj l with
  | false => rfl
  | true =>
    rw [disj_iff, List.pairwise_iff_getElem] at h
    obtain ⟨h1, rfl⟩ := List.getElem?_eq_some_iff.1 hb
    obtain ⟨h2, rfl⟩ := List.getElem?_eq_some_iff.1 hc
    have := h i j h1 h2 hij
    rw [hm] at this
    cases this
end Bx
end Go.Proofs.Ytcncobhdfflelaa
namespace Go.Proofs.Ytcncobhdfflelaa
open Go.RowKit

/-- few answers true only of few boxes of few dimensions -/
def FewBox (u : Sl) (qs : List BxM) (e : Ending) : Prop := ∃ t, e = .returned (.bool t) ∧ (t = true → u.n ≤ 14 ∧ ∀ q ∈ qs, q.1.lo.n ≤ 3 ∧ q.1.hi.n ≤ 3)
theorem FewBox.no {u : Sl} {qs : List BxM} : FewBox u qs (.returned (.bool false)) := ⟨false, rfl, fun h => by cases h⟩
set_option linter.unusedSimpArgs false in
set_option linter.unusedVariables false in
set_option maxRecDepth 100000 in
set_option maxHeartbeats 3200000 in
theorem few16 (u : Sl) (qs : List BxM) (w : World) (hu : Rd w w.heap.size 3 u.a u.n ((qs.map (·.1)).flatMap bxL)) :
    Calls Try.prog 16 #[.slice u.a u.n u.c] w fun e w' => FewBox u qs e ∧ Below w.heap.size w w' := by
  have HU := Lib.hid hu
  have HL := Lib.hid (show qs.length = u.n by have := hu.len (fun _ => rfl) (by omega); simpa using this)
  clear hu
  go_enter Try.func16, Try.ntmps16
  go_wp2_with fail
  go_loop [3] (fun i => ∃ k : Nat, k ≤ u.n ∧ k ≤ 20 ∧ i = .int .i64 k ∧ Hid (∀ q ∈ qs.take k, q.1.lo.n ≤ 3 ∧ q.1.hi.n ≤ 3)) (fun i => u.n - (intOf i).toNat)
  case atStart => exact ⟨0, Nat.zero_le _, Nat.zero_le _, rfl, Lib.hid (fun q hq => by simp at hq)⟩
  case round =>
    obtain ⟨k, hk, hk2, rfl, HK⟩ := hrel
    by_cases hlt : k < u.n
    · by_cases h20 : k < 20
      · obtain ⟨b1, o1, q, hqi, hb1, hix1, x0, x1, x2⟩ := box_at HU.out u.c hlt
        have HT := Lib.hid (show qs.take (k + 1) = qs.take k ++ [q] by
          obtain ⟨h1, h2⟩ := List.getElem?_eq_some_iff.1 hqi
          rw [List.take_succ_eq_append_getElem h1, h2])
        clear hqi
        by_cases q1 : 3 < q.1.lo.n
        · have t1 : decide ((3 : Int) < (q.1.lo.n : Int)) = true := by simp; omega
          go_wp2_with fail
          go_ret
          exact ⟨FewBox.no, Below.refl _ _⟩
        · have t1 : decide ((3 : Int) < (q.1.lo.n : Int)) = false := by simp; omega
          by_cases q2 : 3 < q.1.hi.n
          · have t2 : decide ((3 : Int) < (q.1.hi.n : Int)) = true := by simp; omega
            go_wp2_with fail
            go_ret
            exact ⟨FewBox.no, Below.refl _ _⟩
          · have t2 : decide ((3 : Int) < (q.1.hi.n : Int)) = false := by simp; omega
            have HF : Hid (∀ p ∈ qs.take (k + 1), p.1.lo.n ≤ 3 ∧ p.1.hi.n ≤ 3) := Lib.hid (fun p hp => by
              rw [HT.out] at hp
              rcases List.mem_append.1 hp with hp | hp
              · exact HK.out p hp
              · rw [List.mem_singleton] at hp; subst hp; omega)
            go_wp2_with fail
            go_round
            case rel => exact ⟨k + 1, by omega, by omega, by go_num, HF⟩
            case measure => simp [intOf]; omega
      · have t3 : decide ((u.n : Int) ≤ 14) = false := by simp; omega
        go_wp2_with fail
        go_ret
        exact ⟨FewBox.no, Below.refl _ _⟩
    · have HF : Hid (∀ p ∈ qs, p.1.lo.n ≤ 3 ∧ p.1.hi.n ≤ 3) := Lib.hid (fun p hp => HK.out p (by rw [List.take_of_length_le (by rw [HL.out]; omega)]; exact hp))
      by_cases h14 : u.n ≤ 14
      · have t3 : decide ((u.n : Int) ≤ 14) = true := by simp; omega
        go_wp2_with fail
        go_ret
        exact ⟨⟨true, rfl, fun _ => ⟨h14, HF.out⟩⟩, Below.refl _ _⟩
      · have t3 : decide ((u.n : Int) ≤ 14) = false := by simp; omega
        go_wp2_with fail
        go_ret
        exact ⟨FewBox.no, Below.refl _ _⟩

set_option linter.unusedSimpArgs false in
set_option linter.unusedVariables false in
set_option maxRecDepth 100000 in
set_option maxHeartbeats 3200000 in
theorem holds18 (u : Sl) (bs : List (List Int × List Int × Bool)) (A : Option Addr) (n c : Nat) (p : List Int) (w : World) (hu : BxsAt w u bs) (hz : Rd w w.heap.size 1 A n (p.map (Value.int .i64))) (hn : n ≤ 1000000) (hun : u.n ≤ 1000000) :
    Calls Try.prog 18 #[.slice u.a u.n u.c, .slice A n c] w fun e w' => e = .returned (.tuple #[.bool (Bx.holds p bs).1, .bool (Bx.holds p bs).2]) ∧ Below w.heap.size w w' := by
  obtain ⟨qs, hq1, hq2, hq3⟩ := hu.ex
  have CB := Lib.hid (fun (W : World) (hW : Below w.heap.size w W) (q : BxC × List Int × List Int) (hq : q ∈ qs) => contains44 q.1 A n c q.2.1 q.2.2 p W ((hq2 q hq).1.up hW) ((hq2 q hq).2.up hW) (hz.up hW) hn)
  have HU := Lib.hid hq1
  have HL := Lib.hid (show qs.length = u.n by have := hq1.len (fun _ => rfl) (by omega); simpa using this)
  have HQ3 := Lib.hid hq3
  clear hu hz hq1 hq2 hq3
  go_enter Try.func18, Try.ntmps18
  go_wp2_with fail
  go_loopw [6] (fun i W => ∃ k : Nat, k ≤ u.n ∧ i = .int .i64 k ∧ Hid (Bx.holds p (bs.drop k) = Bx.holds p bs) ∧ Hid (Below w.heap.size w W)) (fun i _ => u.n - (intOf i).toNat)
  case atStart => exact ⟨0, Nat.zero_le _, rfl, Lib.hid rfl, Lib.hid (Below.refl _ _)⟩
  case round =>
    obtain ⟨k, hk, rfl, HK, HB⟩ := hrel
    by_cases hlt : k < u.n
    · obtain ⟨b, off, q, hq, hb, hix, x0, x1, x2⟩ := box_at (HU.out.up HB.out) u.c hlt
      have hck : bs.drop k = (q.2.1, q.2.2, q.1.holds) :: bs.drop (k + 1) := by
        have h1 : bs[k]? = some (q.2.1, q.2.2, q.1.holds) := by rw [← HQ3.out, List.getElem?_map, hq]; rfl
        obtain ⟨h2, h3⟩ := List.getElem?_eq_some_iff.1 h1
        rw [List.drop_eq_getElem_cons h2, h3]
      have HZ : Hid (Bx.holds p bs = if Bx.contains q.2.1 q.2.2 p then (q.1.holds, true) else Bx.holds p (bs.drop (k + 1))) := Lib.hid (by rw [← HK.out, hck, Bx.holds])
      have CQ := Lib.hid (CB.out wr HB.out q (List.mem_of_getElem? hq))
      clear hck hq
      obtain ⟨wa, rfl⟩ : ∃ W, W = wr := ⟨wr, rfl⟩
      have X2 := Lib.hid x2
      go_wp2_with fail
      refine CQ.out.mono ?_
      rintro x w1 ⟨rfl, h1⟩
      have HB1 := Lib.hid (Below.call HB.out h1)
      have y2 : w1.cell? ⟨b, off + 2, none⟩ = some (.bool q.1.holds) := (h1.cell (p := ⟨b, off + 2, none⟩) hb).trans X2.out
      clear h1 x0 x1 x2 CQ
      cases hct : Bx.contains q.2.1 q.2.2 p with
      | true =>
        have HF : Hid (Bx.holds p bs = (q.1.holds, true)) := Lib.hid (by rw [HZ.out, hct]; rfl)
        clear hct
        go_wp2_with fail
        go_ret2
        exact ⟨ret_bools HF.out, HB1.out⟩
      | false =>
        have HF : Hid (Bx.holds p (bs.drop (k + 1)) = Bx.holds p bs) := Lib.hid (by rw [HZ.out, hct]; rfl)
        clear hct
        go_wp2_with fail
        go_roundw
        case rel => exact ⟨k + 1, by omega, by go_num, HF, HB1⟩
        case measure => simp [intOf]; omega
    · have HF : Hid (Bx.holds p bs = (false, false)) := Lib.hid (by
        rw [← HK.out, List.drop_eq_nil_of_le (by rw [← HQ3.out, List.length_map, HL.out]; omega)]
        rfl)
      go_wp2_with fail
      go_ret2
      exact ⟨ret_bools HF.out, HB.out⟩

set_option linter.unusedSimpArgs false in
set_option linter.unusedVariables false in
set_option maxRecDepth 100000 in
set_option maxHeartbeats 3200000 in
theorem meet49 (b : BxC) (A D : Option Addr) (n c d : Nat) (al ah lo hi : List Int) (w : World) (h1 : Rd w w.heap.size 1 b.lo.a b.lo.n (ints al)) (h2 : Rd w w.heap.size 1 b.hi.a b.hi.n (ints ah)) (h3 : Rd w w.heap.size 1 A n (ints lo)) (h4 : Rd w w.heap.size 1 D n (ints hi))
    (n1 : b.lo.n = n) (n2 : b.hi.n = n) (hn : n ≤ 1000000) :
    Calls Try.prog 49 #[bxV b, .slice A n c, .slice D n d] w fun e w' => e = .returned (.bool (Bx.meet al ah lo hi)) ∧ Below w.heap.size w w' := by
  have H1 := Lib.hid h1
  have H2 := Lib.hid h2
  have H3 := Lib.hid h3
  have H4 := Lib.hid h4
  have HL := Lib.hid (show al.length = n by rw [← n1]; simpa using h1.1)
  have l1 : n ≤ b.lo.n := by omega
  have l2 : n ≤ b.hi.n := by omega
  clear h1 h2 h3 h4 n1 n2
  go_enter Try.func49, Try.ntmps49
  go_wp2_with fail
  go_loopw [7] (fun i W => ∃ k : Nat, k ≤ n ∧ i = .int .i64 k ∧ Hid (Bx.meet (al.drop k) (ah.drop k) (lo.drop k) (hi.drop k) = Bx.meet al ah lo hi) ∧ Hid (Below w.heap.size w W) ∧ W.cell? ⟨w.heap.size, 0, none⟩ = some (.slice b.lo.a b.lo.n b.lo.c) ∧ W.cell? ⟨w.heap.size, 1, none⟩ = some (.slice b.hi.a b.hi.n b.hi.c)) (fun i _ => n - (intOf i).toNat)
  case atStart => exact ⟨0, Nat.zero_le _, rfl, Lib.hid rfl, Lib.hid ((Below.refl _ _).alloc (Nat.le_refl _) _), by simp [go_sem], by simp [go_sem]⟩
  case round =>
    obtain ⟨k, hk, rfl, HK, HB, x0, x1⟩ := hrel
    by_cases hlt : k < n
    · obtain ⟨b1, o1, x, e1, ix1, c1, _, _⟩ := rd_int (H1.out.below HB.out (Nat.le_refl _)) b.lo.c (show k < b.lo.n by omega)
      obtain ⟨b2, o2, y, e2, ix2, c2, _, _⟩ := rd_int (H2.out.below HB.out (Nat.le_refl _)) b.hi.c (show k < b.hi.n by omega)
      obtain ⟨b3, o3, s, e3, ix3, c3, _, _⟩ := rd_int (H3.out.below HB.out (Nat.le_refl _)) c hlt
      obtain ⟨b4, o4, t, e4, ix4, c4, _, _⟩ := rd_int (H4.out.below HB.out (Nat.le_refl _)) d hlt
      have HS := Lib.hid (Bx.meet_at e1 e2 e3 e4)
      clear e1 e2 e3 e4
      by_cases q1 : y < s
      · have t3 : decide (y < s) = true := by simpa using q1
        have HF : Hid (Bx.meet al ah lo hi = false) := Lib.hid (by rw [← HK.out, HS.out]; simp [q1])
        go_wp2_with fail
        go_quiet (fail)
        go_wp2_with fail
        go_ret
        exact ⟨ret_bool HF.out.symm, below_drewN HB.out _⟩
      · have t3 : decide (y < s) = false := by simpa using q1
        by_cases q2 : t < x
        · have t4 : decide (t < x) = true := by simpa using q2
          have HF : Hid (Bx.meet al ah lo hi = false) := Lib.hid (by rw [← HK.out, HS.out]; simp [q2])
          go_wp2_with fail
          go_quiet (fail)
          go_wp2_with fail
          go_ret
          exact ⟨ret_bool HF.out.symm, below_drewN HB.out _⟩
        · have t4 : decide (t < x) = false := by simpa using q2
          have HF : Hid (Bx.meet (al.drop (k + 1)) (ah.drop (k + 1)) (lo.drop (k + 1)) (hi.drop (k + 1)) = Bx.meet al ah lo hi) := Lib.hid (by rw [← HK.out, HS.out]; simp [q1, q2])
          go_wp2_with fail
          go_quiet (fail)
          go_wp2_with fail
          go_roundw
          case rel => exact ⟨k + 1, by omega, by go_num, HF, Lib.hid (below_drewN HB.out _), x0, x1⟩
          case measure => simp [intOf]; omega
    · have HF : Hid (Bx.meet al ah lo hi = true) := Lib.hid (by rw [← HK.out, Bx.meet_end (by rw [HL.out]; omega)])
      go_wp2_with fail
      go_ret
      exact ⟨ret_bool HF.out.symm, HB.out⟩

set_option linter.unusedSimpArgs false in
set_option linter.unusedVariables false in
set_option maxRecDepth 100000 in
set_option maxHeartbeats 3200000 in
theorem within48 (b : BxC) (A D : Option Addr) (n m c d : Nat) (al ah lo hi : List Int) (w : World) (h1 : Rd w w.heap.size 1 b.lo.a b.lo.n (ints al)) (h2 : Rd w w.heap.size 1 b.hi.a b.hi.n (ints ah)) (h3 : Rd w w.heap.size 1 A n (ints lo)) (h4 : Rd w w.heap.size 1 D m (ints hi))
    (hm : b.lo.n = n → b.hi.n = n → n ≤ m) (hn : n ≤ 1000000) :
    Calls Try.prog 48 #[bxV b, .slice A n c, .slice D m d] w fun e w' => e = .returned (.bool (Bx.within lo hi (al, ah))) ∧ Below w.heap.size w w' := by
  have H1 := Lib.hid h1
  have H2 := Lib.hid h2
  have H3 := Lib.hid h3
  have H4 := Lib.hid h4
  have HL := Lib.hid (show al.length = b.lo.n by simpa using h1.1)
  have HM := Lib.hid (show ah.length = b.hi.n by simpa using h2.1)
  have HN := Lib.hid (show lo.length = n by simpa using h3.1)
  clear h1 h2 h3 h4
  by_cases g1 : b.lo.n = n
  · by_cases g2 : b.hi.n = n
    · have HW : Hid (Bx.within lo hi (al, ah) = Bx.inD lo hi al ah) := Lib.hid (by unfold Bx.within; simp only; rw [HL.out, HM.out, HN.out]; simp [g1, g2])
      have t1 : ((b.lo.n : Int) != (n : Int)) = false := by simp [g1]
      have t2 : ((b.hi.n : Int) != (n : Int)) = false := by simp [g2]
      have l1 : n ≤ b.lo.n := by omega
      have l2 : n ≤ b.hi.n := by omega
      have l3 : n ≤ m := hm g1 g2
      clear g1 g2 hm
      go_enter Try.func48, Try.ntmps48
      go_wp2_with fail
      go_loopw [7] (fun i W => ∃ k : Nat, k ≤ n ∧ i = .int .i64 k ∧ Hid (Bx.inD (lo.drop k) (hi.drop k) (al.drop k) (ah.drop k) = Bx.inD lo hi al ah) ∧ Hid (Below w.heap.size w W) ∧ W.cell? ⟨w.heap.size, 0, none⟩ = some (.slice b.lo.a b.lo.n b.lo.c) ∧ W.cell? ⟨w.heap.size, 1, none⟩ = some (.slice b.hi.a b.hi.n b.hi.c)) (fun i _ => n - (intOf i).toNat)
      case atStart => exact ⟨0, Nat.zero_le _, rfl, Lib.hid rfl, Lib.hid ((Below.refl _ _).alloc (Nat.le_refl _) _), by simp [go_sem], by simp [go_sem]⟩
      case round =>
        obtain ⟨k, hk, rfl, HK, HB, x0, x1⟩ := hrel
        by_cases hlt : k < n
        · obtain ⟨b1, o1, x, e1, ix1, c1, _, _⟩ := rd_int (H1.out.below HB.out (Nat.le_refl _)) b.lo.c (show k < b.lo.n by omega)
          obtain ⟨b2, o2, y, e2, ix2, c2, _, _⟩ := rd_int (H2.out.below HB.out (Nat.le_refl _)) b.hi.c (show k < b.hi.n by omega)
          obtain ⟨b3, o3, s, e3, ix3, c3, _, _⟩ := rd_int (H3.out.below HB.out (Nat.le_refl _)) c hlt
          obtain ⟨b4, o4, t, e4, ix4, c4, _, _⟩ := rd_int (H4.out.below HB.out (Nat.le_refl _)) d (show k < m by omega)
          have HS := Lib.hid (Bx.inD_at e3 e4 e1 e2)
          clear e1 e2 e3 e4
          by_cases q1 : x < s
          · have t3 : decide (x < s) = true := by simpa using q1
            have HF : Hid (Bx.within lo hi (al, ah) = false) := Lib.hid (by rw [HW.out, ← HK.out, HS.out]; simp [q1])
            go_wp2_with fail
            go_quiet (fail)
            go_wp2_with fail
            go_ret
            exact ⟨ret_bool HF.out.symm, below_drewN HB.out _⟩
          · have t3 : decide (x < s) = false := by simpa using q1
            by_cases q2 : y < x
            · have t4 : decide (y < x) = true := by simpa using q2
              have HF : Hid (Bx.within lo hi (al, ah) = false) := Lib.hid (by rw [HW.out, ← HK.out, HS.out]; simp [q2])
              go_wp2_with fail
              go_quiet (fail)
              go_wp2_with fail
              go_ret
              exact ⟨ret_bool HF.out.symm, below_drewN HB.out _⟩
            · have t4 : decide (y < x) = false := by simpa using q2
              by_cases q3 : t < y
              · have t5 : decide (t < y) = true := by simpa using q3
                have HF : Hid (Bx.within lo hi (al, ah) = false) := Lib.hid (by rw [HW.out, ← HK.out, HS.out]; simp [q3])
                go_wp2_with fail
                go_quiet (fail)
                go_wp2_with fail
                go_ret
                exact ⟨ret_bool HF.out.symm, below_drewN HB.out _⟩
              · have t5 : decide (t < y) = false := by simpa using q3
                have HF : Hid (Bx.inD (lo.drop (k + 1)) (hi.drop (k + 1)) (al.drop (k + 1)) (ah.drop (k + 1)) = Bx.inD lo hi al ah) := Lib.hid (by rw [← HK.out, HS.out]; simp [q1, q2, q3])
                go_wp2_with fail
                go_quiet (fail)
                go_wp2_with fail
                go_roundw
                case rel => exact ⟨k + 1, by omega, by go_num, HF, Lib.hid (below_drewN HB.out _), x0, x1⟩
                case measure => simp [intOf]; omega
        · have HF : Hid (Bx.within lo hi (al, ah) = true) := Lib.hid (by rw [HW.out, ← HK.out, Bx.inD_end (by rw [HN.out]; omega)])
          go_wp2_with fail
          go_ret
          exact ⟨ret_bool HF.out.symm, HB.out⟩
    · have HF : Hid (Bx.within lo hi (al, ah) = false) := Lib.hid (by unfold Bx.within; simp only; rw [HM.out, HN.out]; simp [g2])
      have t1 : ((b.lo.n : Int) != (n : Int)) = false := by simp [g1]
      have t2 : ((b.hi.n : Int) != (n : Int)) = true := by simp; omega
      clear g1 g2 hm
      go_enter Try.func48, Try.ntmps48
      go_wp2_with fail
      go_ret
      exact ⟨ret_bool HF.out.symm, (Below.refl _ _).alloc (Nat.le_refl _) _⟩
  · have HF : Hid (Bx.within lo hi (al, ah) = false) := Lib.hid (by unfold Bx.within; simp only; rw [HL.out, HN.out]; simp [g1])
    have t1 : ((b.lo.n : Int) != (n : Int)) = true := by simp; omega
    clear g1 hm
    go_enter Try.func48, Try.ntmps48
    go_wp2_with fail
    go_ret
    exact ⟨ret_bool HF.out.symm, (Below.refl _ _).alloc (Nat.le_refl _) _⟩
end Go.Proofs.Ytcncobhdfflelaa
