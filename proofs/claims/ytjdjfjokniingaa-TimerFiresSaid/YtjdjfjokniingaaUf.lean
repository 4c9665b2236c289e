/- The contract of timer.Tick. -/
import Derived.Test.YtjdjfjokniingaaUe
import Derived.Test.YtjdjfjokniingaaTg
namespace Go.Proofs.Ytjdjfjokniingaa
open Go.RowKit

/-- what Tick hands back: the state and the alarms that are due -/
def TkPost (P : Nat → Prop) (w : World) (s : SysC) (σ : Tm.TS) (e : Ending) (w' : World) : Prop :=
  ∃ u v : Sl, e = .returned (.tuple #[sysV (sysT s (Tm.tickS σ) u), .slice v.a v.n v.c]) ∧ Als (fun b => P b ∨ w.heap.size ≤ b) w' u (Tm.tickS σ).als ∧ Als (fun b => P b ∨ w.heap.size ≤ b) w' v (Tm.tickD σ) ∧ Below w.heap.size w w'
/-- where the trees of the alarms that are due lie -/
def LtQ (P : Nat → Prop) (w : World) (g : Nat) (b : Nat) : Prop := (P b ∧ b < w.heap.size) ∨ (w.heap.size + 1 + 1 ≤ b ∧ b ≠ g)
/-- what the loop over the alarms that are due keeps -/
structure LtRel (P : Nat → Prop) (w : World) (sb : SysC) (g c m : Nat) (u2 : Sl) (n2 B2 : Nat) (L2 : List FlyC) (ats : List AT) (wr : World) : Prop where
  b : Below w.heap.size w wr
  bs : BoxAt wr w.heap.size (stL sb)
  bz : BoxAt wr (w.heap.size + 1) (stL stZ)
  row : ∃ ps : List (FlyC × AT), ps.map (·.2) = ats ∧ wr.ownsRow (w.heap.size + 1 + 1) 47 7 (.slice (some ⟨g, 0, none⟩) m c) m ((ps.map (·.1)).flatMap flyL) ∧ ∀ p ∈ ps, AlR (LtQ P w g) wr p.1 p.2
  rest : wr.ownsRow B2 47 7 (.slice u2.a n2 u2.c) n2 (L2.flatMap flyL)
  gb : g < B2
theorem set_pair {α β : Type} {ps : List (α × β)} {k : Nat} {f f' : α} {a : β} (h : ps[k]? = some (f, a)) : (ps.set k (f', a)).map (·.1) = (ps.map (·.1)).set k f' ∧ (ps.set k (f', a)).map (·.2) = ps.map (·.2) := by
  refine ⟨by rw [List.map_set], ?_⟩
  rw [List.map_set]
  apply List.ext_getElem?
  intro j
  by_cases hj : k = j
  · subst hj
    have hk := (List.getElem?_eq_some_iff.1 h).1
    rw [List.getElem?_set_self (by simpa using hk), List.getElem?_map, h]
    rfl
  · rw [List.getElem?_set_ne hj]
theorem LtRel.step {P : Nat → Prop} {w : World} {sb : SysC} {g c m : Nat} {u2 : Sl} {n2 B2 : Nat} {L2 : List FlyC} {ats : List AT} {wr v1 : World} {ps : List (FlyC × AT)} {k : Nat} {f : FlyC} {a : AT} {u : Sl} (h : LtRel P w sb g c m u2 n2 B2 L2 ats wr)
    (hs : ps.map (·.2) = ats) (ho : wr.ownsRow (w.heap.size + 1 + 1) 47 7 (.slice (some ⟨g, 0, none⟩) m c) m ((ps.map (·.1)).flatMap flyL)) (hal : ∀ p ∈ ps, AlR (LtQ P w g) wr p.1 p.2) (hk : ps[k]? = some (f, a)) (hb : Below wr.heap.size wr v1) (hu : VR (fun b => wr.heap.size ≤ b) v1 u a.ts) :
    LtRel P w sb g c m u2 n2 B2 L2 ats (v1.setCell ⟨g, k * 7 + 5, none⟩ (.slice u.a u.n u.c)) := by
  have hg1 : w.heap.size + 1 + 1 ≤ g := by have := row_base ho g rfl; omega
  have hg2 : g < wr.heap.size := own_in ho (g := g) rfl
  have off : Off g v1 (v1.setCell ⟨g, k * 7 + 5, none⟩ (.slice u.a u.n u.c)) := (Off.refl _ _).set _ _
  have r1 := own_store (i := k) (j := 5) (v := .slice u.a u.n u.c) (own_below ho hb) (fun _ => rfl) (by omega) (r := f) (by rw [List.getElem?_map, hk]; rfl) { f with l := { f.l with args := u } } rfl
  refine ⟨(Below.call h.b hb).setCell (by show w.heap.size ≤ g; omega) _, (h.bs.call hb).setOther _ _ (by show g ≠ w.heap.size; omega), (h.bz.call hb).setOther _ _ (by show g ≠ w.heap.size + 1; omega), ⟨ps.set k ({ f with l := { f.l with args := u } }, a), by rw [(set_pair hk).2, hs], by rw [(set_pair hk).1]; exact r1, fun p hp => ?_⟩, own_set_other (own_below h.rest hb) _ _ (own_ne (R := g) h.rest h.gb), h.gb⟩
  have hst : ∀ b o, b ≠ g → (v1.setCell ⟨g, k * 7 + 5, none⟩ (.slice u.a u.n u.c)).cell? ⟨b, o, none⟩ = v1.cell? ⟨b, o, none⟩ := fun b o hb => off.2 b o hb
  rcases List.mem_or_eq_of_mem_set hp with hp | rfl
  · exact (((hal p hp).below hb).stay (fun b o hb => hst b o (by rcases hb with hb | hb <;> omega)) (Nat.le_of_eq off.1.symm))
  · have ha := hal (f, a) (List.mem_of_getElem? hk)
    refine ⟨ha.x, ha.y, ha.path, ha.src, ha.msg, ha.sent, (hu.stay (fun b o hb => hst b o (by omega)) (Nat.le_of_eq off.1.symm)).mono (fun b hb => .inr (by omega))⟩

set_option linter.unusedSimpArgs false in
set_option linter.unusedVariables false in
set_option maxRecDepth 100000 in
set_option maxHeartbeats 3200000 in
theorem tick_no {P : Nat → Prop} (s : SysC) (σ : Tm.TS) (w : World) (h : TmR P w s σ) (hc : decide (1073741824 ≤ s.clock) = true) :
    Calls Try.prog 21 #[sysV s] w (TkPost P w s σ) := by
  have hS : Tm.tickS σ = σ := by unfold Tm.tickS; rw [← h.ck, if_pos (by simpa using hc)]
  have hD : Tm.tickD σ = [] := by unfold Tm.tickD; rw [← h.ck, if_pos (by simpa using hc)]
  have e : sysT s σ s.alarms = s := by
    show ({ s with clock := σ.clock, seq := σ.seq } : SysC) = s
    rw [← h.ck, ← h.sq]
  have H := Lib.hid h
  have HS := Lib.hid hS
  have HD := Lib.hid hD
  have HE := Lib.hid e
  clear h hS hD e
  go_enter Try.func21, Try.ntmps21
  go_wp2_with fail
  refine bodyPost_ret (v := .tuple #[sysV s, .slice none 0 0]) (by simp [results, Try.results21, go_sem, *]) rfl ⟨s.alarms, ⟨none, 0, 0⟩, ?_, ?_, ?_, ?_⟩
  · rw [HS.out, HE.out]
  · rw [HS.out]
    refine (H.out.als.below ?_).mono (fun b hb => .inl hb)
    exact (by repeat (first | (with_reducible exact Below.refl _ _) | (with_reducible assumption) | ((with_reducible refine Below.setCell ?_ ?_ _); rotate_left; (focus (first | omega | (simp; omega) | (simp; done)))) | ((with_reducible refine Below.alloc ?_ ?_ _); rotate_left; (focus (first | omega | (simp; omega) | (simp; done)))) | (with_reducible refine Below.drew ?_)))
  · rw [HD.out]; exact Als.none_
  · exact (by repeat (first | (with_reducible exact Below.refl _ _) | (with_reducible assumption) | ((with_reducible refine Below.setCell ?_ ?_ _); rotate_left; (focus (first | omega | (simp; omega) | (simp; done)))) | ((with_reducible refine Below.alloc ?_ ?_ _); rotate_left; (focus (first | omega | (simp; omega) | (simp; done)))) | (with_reducible refine Below.drew ?_)))

theorem own_case {w : World} {B T k n c : Nat} {a : Option Addr} {xs : List Value} (h : w.ownsRow B T k (.slice a n c) n xs) : (a = none ∧ n = 0 ∧ c = 0) ∨ ∃ g, a = some ⟨g, 0, none⟩ ∧ B ≤ g := by
  rcases h.2 with ⟨h0, hn⟩ | ⟨g, cap, cur, hv, hb, _⟩
  · injection h0 with h1 h2 h3
    exact .inl ⟨h1, h2, h3⟩
  · injection hv with h1 h2 h3
    exact .inr ⟨g, h1, hb⟩
theorem als_kept0 {P : Nat → Prop} {w w1 Wf : World} {u v : Sl} {ps : List (FlyC × AT)} {B0 R m : Nat} {L : List FlyC} (h : AlsR P w u ps) (g : FlyC → Bool) (g' : AT → Bool) (hg : ∀ p ∈ ps, g p.1 = g' p.2) (hL : L = (ps.map (·.1)).filter g) (hm : m = L.length)
    (ho : w1.ownsRow B0 47 7 (.slice v.a m v.c) m (L.flatMap flyL)) (hR : R < B0) (hw : w.heap.size ≤ B0) (hoff : Off R w1 Wf) (hb : Below w.heap.size w Wf) :
    Als (fun b => P b ∨ w.heap.size ≤ b) Wf ⟨v.a, m, v.c⟩ ((ps.map (·.2)).filter g') := by
  subst hm hL
  exact ⟨_, h.kept g g' hg hb ho hw (own_off ho hoff hR), filter_snd g' ps⟩
theorem als_row {P Q : Nat → Prop} {w wr Wf : World} {x : Sl} {m B0 R : Nat} {ps : List (FlyC × AT)} (ho : wr.ownsRow B0 47 7 (.slice x.a m x.c) m ((ps.map (·.1)).flatMap flyL)) (hoff : Off R wr Wf) (hR : R < B0) (hw : w.heap.size ≤ B0) (hal : ∀ p ∈ ps, AlR Q wr p.1 p.2) (hQ : ∀ b, Q b → b ≠ R) (hm : ∀ b, Q b → P b ∨ w.heap.size ≤ b) :
    Als (fun b => P b ∨ w.heap.size ≤ b) Wf ⟨x.a, m, x.c⟩ (ps.map (·.2)) := by
  refine ⟨ps, ⟨own_off ho hoff hR, fun p hp => ((hal p hp).stay (fun b o hb => hoff.2 b o (hQ b hb)) (Nat.le_of_eq hoff.1.symm)).mono hm, fun q hq _ => .inr ?_, own_cap ho⟩, rfl⟩
  have := row_base ho q.block (by rw [show x.a = some q from hq]; rfl)
  omega
/-- the row that Tick has sorted -/
theorem lt_start {P : Nat → Prop} {w w3 : World} {sb : SysC} {g c m : Nat} {u2 : Sl} {n2 B2 : Nat} {L1 L2 : List FlyC} {ps : List (FlyC × AT)} {s : SysC} (H : AlsR P w s.alarms ps) (CK : Int) (hL1 : L1 = (ps.map (·.1)).filter (fun f => decide (f.x ≤ CK))) (hb : Below w.heap.size w w3) (hbs : BoxAt w3 w.heap.size (stL sb)) (hbz : BoxAt w3 (w.heap.size + 1) (stL stZ))
    (ho : w3.ownsRow (w.heap.size + 1 + 1) 47 7 (.slice (some ⟨g, 0, none⟩) m c) m ((St.isort leF L1).flatMap flyL)) (hr : w3.ownsRow B2 47 7 (.slice u2.a n2 u2.c) n2 (L2.flatMap flyL)) (hg : g < B2) :
    LtRel P w sb g c m u2 n2 B2 L2 (St.isort Tm.leT ((ps.map (·.2)).filter fun a => decide (a.x ≤ CK))) w3 := by
  have hg1 : ∀ p ∈ ps, decide (p.1.x ≤ CK) = decide (p.2.x ≤ CK) := fun p hp => by rw [(H.al p hp).x]
  have e1 := filter_pairs (fun f : FlyC => decide (f.x ≤ CK)) (fun a : AT => decide (a.x ≤ CK)) ps hg1
  obtain ⟨qs, q1, q2, q3⟩ := isort_pairs leF Tm.leT _ (ps.filter fun p => decide (p.2.x ≤ CK)) rfl (fun p hp q hq => by
    have hp' := H.al p (List.mem_filter.1 hp).1
    have hq' := H.al q (List.mem_filter.1 hq).1
    unfold leF Tm.leT
    rw [hp'.x, hp'.y, hq'.x, hq'.y])
  refine ⟨hb, hbs, hbz, ⟨qs, ?_, ?_, fun p hp => ?_⟩, hr, hg⟩
  · rw [q2, filter_snd (fun a : AT => decide (a.x ≤ CK))]
  · rw [q1, ← e1, ← hL1]; exact ho
  · have hp' := (List.mem_filter.1 (q3 p hp)).1
    exact ((H.al p hp').low.below hb).mono (fun b hb => .inl hb)

set_option linter.unusedSimpArgs false in
set_option linter.unusedVariables false in
set_option maxRecDepth 100000 in
set_option maxHeartbeats 6400000 in
theorem tick_yes {P : Nat → Prop} (s : SysC) (σ : Tm.TS) (w : World) (h : TmR P w s σ) (hn : s.alarms.n ≤ 100000) (hc : decide (1073741824 ≤ s.clock) = false) :
    Calls Try.prog 21 #[sysV s] w (TkPost P w s σ) := by
  obtain ⟨⟨ps, hps, hsn⟩, hck, hsq⟩ := h
  obtain ⟨CK, hCK⟩ : ∃ x, x = wrap64 (s.clock + 1) := ⟨_, rfl⟩
  obtain ⟨L1, hL1⟩ : ∃ L, L = (ps.map (·.1)).filter (fun f => decide (f.x ≤ CK)) := ⟨_, rfl⟩
  obtain ⟨L2, hL2⟩ : ∃ L, L = (ps.map (·.1)).filter (fun f => !decide (f.x ≤ CK)) := ⟨_, rfl⟩
  obtain ⟨m, hm⟩ : ∃ m, m = L1.length := ⟨_, rfl⟩
  obtain ⟨n2, hn2⟩ : ∃ m, m = L2.length := ⟨_, rfl⟩
  have hmn : m ≤ 100000 := by
    have h1 := hps.len
    have h2 : L1.length ≤ (ps.map (·.1)).length := by rw [hL1]; exact List.length_filter_le _ _
    simp at h2; omega
  have C1 : Hid (∀ (W : World), Below w.heap.size w W → ∀ (C : Nat), BoxAt W C [.int .i64 CK] → Calls Try.prog 61 #[.slice s.alarms.a s.alarms.n s.alarms.c, .func (.func 60) #[] #[.pointer (some ⟨C, 0, none⟩)]] W (OwnPost 47 7 m (L1.flatMap flyL) W)) := Lib.hid fun W hW C hC => by
    rw [hm, hL1]
    exact kept60 (ps.map (·.1)) s.alarms (.pointer (some ⟨C, 0, none⟩)) (fun f => decide (f.x ≤ CK)) W (hps.rd.up hW) (by omega) (fun V f hV _ => due60 f C CK V (hC.call hV))
  have C2 : Hid (∀ (W : World), Below w.heap.size w W → ∀ (C D : Nat), BoxAt W C [.int .i64 CK] → BoxAt W D [.func (.func 60) #[] #[.pointer (some ⟨C, 0, none⟩)]] → Calls Try.prog 61 #[.slice s.alarms.a s.alarms.n s.alarms.c, .func (.func 62) #[] #[.pointer (some ⟨D, 0, none⟩)]] W (OwnPost 47 7 n2 (L2.flatMap flyL) W)) := Lib.hid fun W hW C D hC hD => by
    rw [hn2, hL2]
    exact kept62 (ps.map (·.1)) s.alarms (.pointer (some ⟨D, 0, none⟩)) (fun f => !decide (f.x ≤ CK)) W (hps.rd.up hW) (by omega) (fun V f hV _ => late62 f C D CK V (hC.call hV) (hD.call hV))
  have H := Lib.hid hps
  have HS := Lib.hid hsn
  have HCK := Lib.hid hCK
  have HL1 := Lib.hid hL1
  have HL2 := Lib.hid hL2
  have HM := Lib.hid hm
  have HN2 := Lib.hid hn2
  have CE := Lib.hid hck
  have SQ := Lib.hid hsq
  clear hps hsn hCK hL1 hL2 hm hn2 hck hsq
  have hsf : ∀ (a : Addr) (f : Fn) (x y : Array Value) (m : Mode) (w : World), (store a (.func f x y) m).run Try.prog w = stored Try.prog w a (.func f x y) m := fun a f x y m w => run_store Try.prog w a _ m rfl
  go_enter Try.func21, Try.ntmps21
  go_wp2_with fail
  rw [← HCK.out]
  refine (C1.out _ (by repeat (first | (with_reducible exact Below.refl _ _) | (with_reducible assumption) | ((with_reducible refine Below.setCell ?_ ?_ _); rotate_left; (focus (first | omega | (simp; omega) | (simp; done)))) | ((with_reducible refine Below.alloc ?_ ?_ _); rotate_left; (focus (first | omega | (simp; omega) | (simp; done)))) | (with_reducible refine Below.drew ?_))) (w.heap.size + 1 + 1) ?_).mono ?_
  · exact (BoxAt.new _ 3 [.int .i64 CK] _ (by simp)).alloc _
  rintro e w1 ⟨u1, rfl, ho, h1⟩
  have HO1 : Hid (w1.ownsRow (w.heap.size + 1 + 1) 47 7 (.slice u1.a m u1.c) m (L1.flatMap flyL)) := Lib.hid (row_mono ho (by first | (simp; done) | (simp; omega)))
  have HG : Hid (∀ g, u1.a = some ⟨g, 0, none⟩ → g < w1.heap.size) := Lib.hid (fun g hg => own_in ho (g := g) (by rw [hg]; rfl))
  have HB : Hid (Below w.heap.size w w1) := Lib.hid (Below.call (by repeat (first | (with_reducible exact Below.refl _ _) | (with_reducible assumption) | ((with_reducible refine Below.setCell ?_ ?_ _); rotate_left; (focus (first | omega | (simp; omega) | (simp; done)))) | ((with_reducible refine Below.alloc ?_ ?_ _); rotate_left; (focus (first | omega | (simp; omega) | (simp; done)))) | (with_reducible refine Below.drew ?_))) h1)
  have BS : Hid (BoxAt w1 w.heap.size (stL { s with clock := CK })) := Lib.hid (((((BoxAt.new w 28 (stL { s with clock := CK }) _ rfl).alloc _).alloc _).alloc _).call h1)
  have BZ : Hid (BoxAt w1 (w.heap.size + 1) (stL stZ)) := Lib.hid ((((BoxAt.new (w.alloc (.cells (stL { s with clock := CK }).toArray 28)) 28 (stL stZ) _ (by simp)).alloc _).alloc _).call h1)
  have BC : Hid (BoxAt w1 (w.heap.size + 1 + 1) [.int .i64 CK]) := Lib.hid (((BoxAt.new _ 3 [.int .i64 CK] _ (by simp)).alloc _).call h1)
  have BD : Hid (BoxAt w1 (w.heap.size + 1 + 1 + 1) [.func (.func 60) #[] #[.pointer (some ⟨w.heap.size + 1 + 1, 0, none⟩)]]) := Lib.hid ((BoxAt.new _ 93 [.func (.func 60) #[] #[.pointer (some ⟨w.heap.size + 1 + 1, 0, none⟩)]] _ (by simp)).call h1)
  have hz := h1.size
  simp at hz
  clear ho h1 C1
  obtain ⟨c0, c1, c2, c3, c4, c5, c6, c7, c8⟩ := st_cells BS.out
  obtain ⟨f0, f1, f2, f3, f4, f5, f6, f7, f8⟩ := st_free BS.out
  go_wp2_with fail
  refine (C2.out _ HB.out (w.heap.size + 1 + 1) _ BC.out BD.out).mono ?_
  rintro e w2 ⟨u2, rfl, ho, h2⟩
  have HO2 := Lib.hid ho
  replace HO1 := Lib.hid (own_below HO1.out h2)
  replace HB := Lib.hid (Below.call HB.out h2)
  replace BS := Lib.hid (BS.out.call h2)
  replace BZ := Lib.hid (BZ.out.call h2)
  have hz2 := h2.size
  clear ho h2 C2 BC BD c0 c1 c2 c3 c4 c5 c6 c7 c8 f0 f1 f2 f3 f4 f5 f6 f7 f8
  obtain ⟨c0, c1, c2, c3, c4, c5, c6, c7, c8⟩ := st_cells BS.out
  obtain ⟨f0, f1, f2, f3, f4, f5, f6, f7, f8⟩ := st_free BS.out
  go_wp2_with fail
  obtain ⟨sb, hsb⟩ : ∃ sb : SysC, sb = { s with clock := CK, alarms := ⟨u2.a, n2, u2.c⟩ } := ⟨_, rfl⟩
  have HSB := Lib.hid hsb
  have BS3 : Hid (BoxAt (w2.setCell ⟨w.heap.size, 6, none⟩ (.slice u2.a n2 u2.c)) w.heap.size (stL sb)) := Lib.hid (by rw [hsb]; exact BS.out.set 6 (.slice u2.a n2 u2.c) (by simp))
  clear hsb
  obtain ⟨w3, hw3⟩ : ∃ W, W = w2.setCell ⟨w.heap.size, 6, none⟩ (.slice u2.a n2 u2.c) := ⟨_, rfl⟩
  have hz3 : w3.heap.size = w2.heap.size := by rw [hw3]; simp
  replace HB : Hid (Below w.heap.size w w3) := Lib.hid (by rw [hw3]; exact HB.out.setCell (Nat.le_refl _) _)
  replace BZ : Hid (BoxAt w3 (w.heap.size + 1) (stL stZ)) := Lib.hid (by rw [hw3]; exact BZ.out.setOther _ _ (by show w.heap.size ≠ w.heap.size + 1; omega))
  replace HO1 : Hid (w3.ownsRow (w.heap.size + 1 + 1) 47 7 (.slice u1.a m u1.c) m (L1.flatMap flyL)) := Lib.hid (by rw [hw3]; exact own_set_other HO1.out _ _ (own_ne (R := w.heap.size) HO1.out (by omega)))
  replace HO2 : Hid (w3.ownsRow w1.heap.size 47 7 (.slice u2.a n2 u2.c) n2 (L2.flatMap flyL)) := Lib.hid (by rw [hw3]; exact own_set_other HO2.out _ _ (own_ne (R := w.heap.size) HO2.out (by omega)))
  rw [← hw3] at BS3 ⊢
  clear hw3 BS c0 c1 c2 c3 c4 c5 c6 c7 c8 f0 f1 f2 f3 f4 f5 f6 f7 f8
  have hSq : Tm.tickS σ = ⟨CK, σ.seq, σ.als.filter fun a => !decide (a.x ≤ CK)⟩ := by
    unfold Tm.tickS
    rw [← CE.out, if_neg (by simpa using hc), ← HCK.out]
  have hDq : Tm.tickD σ = St.isort Tm.leT (σ.als.filter fun a => decide (a.x ≤ CK)) := by
    unfold Tm.tickD
    rw [← CE.out, if_neg (by simpa using hc), ← HCK.out]
  have HSQ := Lib.hid hSq
  have HDQ := Lib.hid hDq
  clear hSq hDq
  obtain ⟨a1, x1, y1⟩ := u1
  dsimp only at HO1 HG ⊢
  have fin : ∀ (wr : World) (x : Sl) (ps' : List (FlyC × AT)) (Q : Nat → Prop), wr.ownsRow (w.heap.size + 1 + 1) 47 7 (.slice x.a x.n x.c) x.n ((ps'.map (·.1)).flatMap flyL) → (∀ p ∈ ps', AlR Q wr p.1 p.2) → (∀ b, Q b → b ≠ w.heap.size + 1) → (∀ b, Q b → P b ∨ w.heap.size ≤ b) → ps'.map (·.2) = Tm.tickD σ → wr.ownsRow w1.heap.size 47 7 (.slice u2.a n2 u2.c) n2 (L2.flatMap flyL) → Below w.heap.size w wr →
      TkPost P w s σ (.returned (.tuple #[sysV sb, .slice x.a x.n x.c])) (putSt wr (w.heap.size + 1) sb) := fun wr x ps' Q r1 r2 r3 r4 r5 r6 r7 => by
    have hbf : Below w.heap.size w (putSt wr (w.heap.size + 1) sb) := putSt_below r7 (by omega)
    refine ⟨⟨u2.a, n2, u2.c⟩, x, ?_, ?_, ?_, hbf⟩
    · rw [HSQ.out, HSB.out]
      show _ = Ending.returned (.tuple #[sysV { s with clock := CK, seq := σ.seq, alarms := ⟨u2.a, n2, u2.c⟩ }, _])
      rw [← SQ.out]
    · rw [HSQ.out]
      show Als _ _ _ (σ.als.filter _)
      rw [← HS.out]
      exact als_kept0 H.out _ (fun a => !decide (a.x ≤ CK)) (fun q hq => by rw [(H.out.al q hq).x]) HL2.out HN2.out r6 (R := w.heap.size + 1) (by omega) (by omega) (putSt_off _ _ _) hbf
    · rw [← r5]
      exact als_row r1 (putSt_off _ _ _) (by omega) (by omega) r2 r3 r4
  have FIN := Lib.hid fin
  clear fin
  rcases own_case HO1.out with ⟨hA, hm0, hc0⟩ | ⟨g, hA, hgb⟩
  · subst hA hm0 hc0
    refine (sort63_none w3).mono ?_
    rintro e w4 ⟨rfl, hw4⟩
    subst hw4
    have hL0 : L1 = [] := List.eq_nil_of_length_eq_zero HM.out.symm
    have hD0 : Tm.tickD σ = [] := by
      have e1 := filter_pairs (fun f : FlyC => decide (f.x ≤ CK)) (fun a : AT => decide (a.x ≤ CK)) ps (fun p hp => by rw [(H.out.al p hp).x])
      rw [HDQ.out, ← HS.out, ← filter_snd (fun a : AT => decide (a.x ≤ CK)) ps]
      rw [← HL1.out, hL0] at e1
      have : (ps.filter fun p => decide (p.2.x ≤ CK)) = [] := List.map_eq_nil_iff.1 e1.symm
      rw [this]; rfl
    have HD0 := Lib.hid hD0
    obtain ⟨c0, c1, c2, c3, c4, c5, c6, c7, c8⟩ := st_cells BS3.out
    obtain ⟨z0, z1, z2, z3, z4, z5, z6, z7, z8⟩ := st_cells BZ.out
    obtain ⟨y0, y1, y2, y3, y4, y5, y6, y7, y8⟩ := st_free BZ.out
    clear hL0 hD0
    go_wp2_with fail
    refine wp_loop_rounds 1 ?_
    rw [rounds_succ]
    go_wp2_with fail
    refine bodyPost_ret (v := .tuple #[sysV sb, .slice none 0 0]) (by simp [results, Try.results21, go_sem, *]) rfl ?_
    exact FIN.out w4 ⟨none, 0, 0⟩ [] (fun _ => False) (World.ownsRow_nil _ _ _ _) (by simp) (by simp) (by simp) (by rw [HD0.out]; rfl) HO2.out HB.out
  · subst hA
    have hg1 : g < w1.heap.size := HG.out g rfl
    refine (sort63 g m y1 (w.heap.size + 1 + 1) L1 w3 HO1.out hmn).mono ?_
    rintro e w4 ⟨rfl, hr⟩
    have LT : Hid (LtRel P w sb g y1 m u2 n2 w1.heap.size L2 (Tm.tickD σ) w4) := Lib.hid (by
      rw [HDQ.out, ← HS.out]
      exact lt_start H.out CK HL1.out (HB.out.grown hr.gr (by omega) (fun q hq => by injection hq with hq; omega)) (BS3.out.kept hr.gr (by simp; omega)) (BZ.out.kept hr.gr (by simp; omega)) hr.row (HO2.out.kept (row := some g) hr.gr (.inr (own_ne (R := g) HO2.out hg1))) hg1)
    clear hr HO1 HO2 HB BS3 BZ HG
    go_wp2_with fail
    go_loopw [32] (fun i wr => ∃ k : Nat, k ≤ m ∧ i = .int .i64 k ∧ LtRel P w sb g y1 m u2 n2 w1.heap.size L2 (Tm.tickD σ) wr) (fun i _ => m - (intOf i).toNat)
    case atStart => exact ⟨0, Nat.zero_le _, rfl, LT.out⟩
    case round =>
      clear LT
      obtain ⟨k, hk, rfl, hL⟩ := hrel
      have LR := Lib.hid hL
      obtain ⟨ps', q1, q2, q3⟩ := hL.row
      have R1 := Lib.hid q1
      have R2 := Lib.hid q2
      have R3 := Lib.hid q3
      have hsz := hL.b.size
      clear hL q1 q2 q3
      by_cases hlt : k < m
      · obtain ⟨g', f, e1, _, e3, e4, e5, e6⟩ := own_at R2.out (fun _ => rfl) (by omega) (i := k) hlt
        simp only [Option.some.injEq, Addr.mk.injEq, and_true] at e1
        subst e1
        rw [List.getElem?_map] at e4
        obtain ⟨p, hp, hpf⟩ := Option.map_eq_some_iff.1 e4
        obtain ⟨f', a⟩ := p
        have hpf' : f' = f := hpf
        subst hpf'
        have HP := Lib.hid hp
        have x5 : wr.cell? ⟨g, k * 7 + 5, none⟩ = some (.slice f'.l.args.a f'.l.args.n f'.l.args.c) := e5 5 _ rfl
        have f5 : wr.frozen? ⟨g, k * 7 + 5, none⟩ = false := e6 _
        have HV := Lib.hid (R3.out (f', a) (List.mem_of_getElem? hp)).v
        clear e4 e5 e6 hp hpf
        go_wp2_with fail
        refine (copies_any f'.l.args a.ts wr HV.out).mono ?_
        rintro e v1 ⟨u, rfl, hu, hb⟩
        have HU := Lib.hid hu
        have HB := Lib.hid hb
        have x5' : v1.cell? ⟨g, k * 7 + 5, none⟩ = some (.slice f'.l.args.a f'.l.args.n f'.l.args.c) := (hb.cell (p := ⟨g, k * 7 + 5, none⟩) e3).trans x5
        have f5' : v1.frozen? ⟨g, k * 7 + 5, none⟩ = false := (hb.frozen (p := ⟨g, k * 7 + 5, none⟩) e3).trans f5
        clear hu hb x5 f5
        go_wp2_with fail
        go_roundw
        case rel => exact ⟨k + 1, by omega, by go_num, LR.out.step R1.out R2.out R3.out HP.out HB.out HU.out⟩
        case measure => simp [intOf]; omega
      · have BS := LR.out.bs
        have BZ := LR.out.bz
        obtain ⟨c0, c1, c2, c3, c4, c5, c6, c7, c8⟩ := st_cells BS
        obtain ⟨z0, z1, z2, z3, z4, z5, z6, z7, z8⟩ := st_cells BZ
        obtain ⟨y0, y1', y2, y3, y4, y5, y6, y7, y8⟩ := st_free BZ
        clear BS BZ
        go_wp2_with fail
        refine bodyPost_ret (v := .tuple #[sysV sb, .slice (some ⟨g, 0, none⟩) m y1]) (by simp [results, Try.results21, go_sem, *]) rfl ?_
        exact FIN.out wr ⟨some ⟨g, 0, none⟩, m, y1⟩ ps' (LtQ P w g) R2.out R3.out (fun b hb => by rcases hb with hb | hb <;> omega) (fun b hb => by rcases hb with hb | hb; exact .inl hb.1; exact .inr (by omega)) R1.out LR.out.rest LR.out.b
theorem tick21 {P : Nat → Prop} (s : SysC) (σ : Tm.TS) (w : World) (h : TmR P w s σ) (hn : s.alarms.n ≤ 100000) : Calls Try.prog 21 #[sysV s] w (TkPost P w s σ) := by
  cases hc : decide (1073741824 ≤ s.clock) with
  | true => exact tick_no s σ w h hc
  | false => exact tick_yes s σ w h hn hc
end Go.Proofs.Ytjdjfjokniingaa
