/- The contract of retroactref20.Enabled. -/
import Derived.Test.YtjdjfjokniingaaSi
namespace Go.Proofs.Ytjdjfjokniingaa
open Go.RowKit

namespace Sy
def insAll (cs : List (Int × Int)) : List (Int × Int) := cs.foldl ins []
theorem insAll_snoc (cs : List (Int × Int)) (c : Int × Int) : insAll (cs ++ [c]) = ins (insAll cs) c := by simp [insAll]
theorem ins_len (cs : List (Int × Int)) (c : Int × Int) : (ins cs c).length ≤ cs.length + 1 := by
  unfold ins
  split
  · omega
  · have := pos_le cs c
    simp
    omega
theorem insAll_len (cs : List (Int × Int)) : (insAll cs).length ≤ cs.length := by
  have h : ∀ (l acc : List (Int × Int)), (l.foldl ins acc).length ≤ acc.length + l.length := by
    intro l
    induction l with
    | nil => intro acc; simp
    | cons c r ih =>
      intro acc
      have h1 := ih (ins acc c)
      have h2 := ins_len acc c
      simp only [List.foldl_cons, List.length_cons]
      omega
  simpa [insAll] using h cs []
def enabledR (ups : List Bool) (ls : List LiveC) (cs : List (Int × Int)) : List ActnC := readies ups ls ++ (insAll cs).map chanOf
end Sy

def InRel (s : SysC) (L : List ActnC) (cs : List (Int × Int)) (ov : Value) (w : World) (v i : Value) (wr : World) : Prop :=
  ∃ k : Nat, k ≤ s.flights.n ∧ i = .int .i64 k ∧ wr.ownsRow (w.heap.size + 1) 81 3 v (Sy.insAll (cs.take k)).length (((Sy.insAll (cs.take k)).map Sy.chanOf).flatMap actnL) ∧
    wr.ownsRow (w.heap.size + 1) 81 3 ov L.length (L.flatMap actnL) ∧ Below (w.heap.size + 1) (w.alloc (sysO s)) wr
theorem row_below {w w1 : World} {base e k n : Nat} {v : Value} {xs : List Value} (h : w.ownsRow base e k v n xs) (h1 : Below w.heap.size w w1) : w1.ownsRow base e k v n xs :=
  h.kept (row := none) ⟨h1.os, h1.tape, h1.output, h1.size, fun i hi _ => h1.block i hi⟩ (by cases v.ownBlock <;> simp)
theorem InRel.step {s : SysC} {L : List ActnC} {fls : List FlyC} {ov v' : Value} {w wr w1 : World} {k : Nat} {f : FlyC} (hk : k < s.flights.n) (hf : fls[k]? = some f)
    (ho : w1.ownsRow (w.heap.size + 1) 81 3 v' (Sy.ins (Sy.insAll ((fls.map chOf).take k)) (f.x, f.y)).length (((Sy.ins (Sy.insAll ((fls.map chOf).take k)) (f.x, f.y)).map Sy.chanOf).flatMap actnL))
    (hout : wr.ownsRow (w.heap.size + 1) 81 3 ov L.length (L.flatMap actnL)) (hB : Below (w.heap.size + 1) (w.alloc (sysO s)) wr) (h1 : Below wr.heap.size wr w1) (hsz : w.heap.size + 1 ≤ wr.heap.size) :
    InRel s L (fls.map chOf) ov w v' (.int .i64 ((k + 1 : Nat) : Int)) w1 := by
  have e : Sy.insAll ((fls.map chOf).take (k + 1)) = Sy.ins (Sy.insAll ((fls.map chOf).take k)) (f.x, f.y) := by
    rw [take_snoc' _ k (chOf f) (by simp [hf]), Sy.insAll_snoc]; rfl
  exact ⟨k + 1, by omega, rfl, by rw [e]; exact ho, row_below hout h1, hB.trans (h1.mono hsz)⟩

set_option maxRecDepth 100000 in
set_option maxHeartbeats 800000 in
theorem enabledR_any (s : SysC) (ls : List LiveC) (fls : List FlyC) (ups : List Bool) (w : World) (hup : Rd w w.heap.size 1 s.up.a s.up.n (ups.map .bool)) (hac : Rd w w.heap.size 9 s.actors.a s.actors.n (ls.flatMap liveL)) (hfl : Rd w w.heap.size 7 s.flights.a s.flights.n (fls.flatMap flyL))
    (hba : s.actors.n * 128 ≤ 140737488351232) (hbf : s.flights.n * 64 ≤ 140737488351232) (hwf : ∀ f ∈ fls, (Lit.int .i64 f.x).wf = true ∧ (Lit.int .i64 f.y).wf = true) :
    Calls Try.prog 54 #[sysV s] w fun e w' => ∃ v : Sl, e = .returned (.slice v.a v.n v.c) ∧ Rd w' w'.heap.size 3 v.a v.n ((Sy.enabledR ups ls (fls.map chOf)).flatMap actnL) ∧ Below w.heap.size w w' := by
  have hlen := hac.len (fun _ => rfl) (by omega)
  have HW := Lib.hid hwf
  have HU := Lib.hid hup
  have HA := Lib.hid hac
  have HF := Lib.hid hfl
  have HL := Lib.hid hlen
  clear hwf hup hac hfl hlen
  go_enter Try.func54, Try.ntmps54
  go_wp2
  go_loopw [3, 4] (EnRel s ls ups w) (fun _ i _ => s.actors.n - (intOf i).toNat)
  case atStart => exact ⟨0, Nat.zero_le _, rfl, World.ownsRow_nil _ _ _ _, Below.refl _ _⟩
  case round =>
    obtain ⟨k, hk, rfl, hrow, hB⟩ := hrel
    have hsz := hB.size
    simp at hsz
    have HR := Lib.hid hrow
    clear hrow
    have kp : ∀ b o, b < w.heap.size → wr.cell? ⟨b, o, none⟩ = w.cell? ⟨b, o, none⟩ := fun b o h => (hB.cell (p := ⟨b, o, none⟩) (show b < w.heap.size + 1 by omega)).trans (World.cell?_alloc_lt w _ ⟨b, o, none⟩ h)
    have bx : ∀ j u, [Value.slice s.up.a s.up.n s.up.c, .int .i64 s.moment, .int .i64 s.clock, .int .i64 s.seq, .slice s.actors.a s.actors.n s.actors.c, .slice s.flights.a s.flights.n s.flights.c, .slice s.alarms.a s.alarms.n s.alarms.c, .slice s.asked.a s.asked.n s.asked.c, .int .i64 s.dead][j]? = some u → wr.cell? ⟨w.heap.size, j, none⟩ = some u := fun j u hu => by
      refine (hB.cell (p := ⟨w.heap.size, j, none⟩) (show w.heap.size < w.heap.size + 1 by omega)).trans ?_
      have := cells_new w 28 _ j u hu
      have e : (⟨w.heap.size, 0, none⟩ : Addr).add j = ⟨w.heap.size, j, none⟩ := by unfold Addr.add; split <;> simp_all
      rw [e] at this
      exact this
    have q0 := bx 0 _ rfl
    have q1 := bx 1 _ rfl
    have q2 := bx 2 _ rfl
    have q3 := bx 3 _ rfl
    have q4 := bx 4 _ rfl
    have q5 := bx 5 _ rfl
    have q6 := bx 6 _ rfl
    have q7 := bx 7 _ rfl
    have q8 := bx 8 _ rfl
    by_cases hlt : k < s.actors.n
    · obtain ⟨b, off, a, hA, hb, hak, hcells⟩ := HA.out.at_ (fun _ => rfl) (by omega) hlt
      have c0 : wr.cell? ⟨b, off + k * 9, none⟩ = some (.string a.path) := (kp _ _ hb).trans (hcells 0 _ rfl)
      have c1 : wr.cell? ⟨b, off + k * 9 + 1, none⟩ = some (.string a.type) := (kp _ _ hb).trans (hcells 1 _ rfl)
      have c2 : wr.cell? ⟨b, off + k * 9 + 2, none⟩ = some (.int .i64 a.node) := (kp _ _ hb).trans (hcells 2 _ rfl)
      have c3 : wr.cell? ⟨b, off + k * 9 + 3, none⟩ = some (.slice a.init.a a.init.n a.init.c) := (kp _ _ hb).trans (hcells 3 _ rfl)
      have c4 : wr.cell? ⟨b, off + k * 9 + 4, none⟩ = some (.slice a.vars.a a.vars.n a.vars.c) := (kp _ _ hb).trans (hcells 4 _ rfl)
      have c5 : wr.cell? ⟨b, off + k * 9 + 5, none⟩ = some (.int .i64 a.kids) := (kp _ _ hb).trans (hcells 5 _ rfl)
      have c6 : wr.cell? ⟨b, off + k * 9 + 6, none⟩ = some (.int .i64 a.rest) := (kp _ _ hb).trans (hcells 6 _ rfl)
      have c7 : wr.cell? ⟨b, off + k * 9 + 7, none⟩ = some (.bool a.stopped) := (kp _ _ hb).trans (hcells 7 _ rfl)
      have c8 : wr.cell? ⟨b, off + k * 9 + 8, none⟩ = some (.slice a.mail.a a.mail.n a.mail.c) := (kp _ _ hb).trans (hcells 8 _ rfl)
      have hu1 : Rd wr wr.heap.size 1 s.up.a s.up.n (ups.map .bool) := (HU.out.keep (fun b o h => kp b o h)).more (by omega)
      have n1 : b < wr.heap.size := by omega
      have n2 : w.heap.size < wr.heap.size := by omega
      rw [hA] at q4
      have hV : sysV s = .agg #[.slice s.up.a s.up.n s.up.c, .int .i64 s.moment, .int .i64 s.clock, .int .i64 s.seq, .slice (some ⟨b, off, none⟩) s.actors.n s.actors.c, .slice s.flights.a s.flights.n s.flights.c, .slice s.alarms.a s.alarms.n s.alarms.c, .slice s.asked.a s.asked.n s.asked.c, .int .i64 s.dead] := by unfold sysV; rw [hA]
      have HU1 := Lib.hid hu1
      have HAK := Lib.hid hak
      have HAA := Lib.hid hA
      clear hA hak hcells kp bx hu1
      have hready := fun (W : World) (hW : Below wr.heap.size wr W) => readyR_any s a ups W ((HU1.out.below hW (Nat.le_refl _)).more hW.size)
      rw [hV] at hready
      clear hV
      cases hr : Sy.ready ups a with
      | false =>
        rw [hr] at hready
        have HRD := Lib.hid hready
        clear hready
        go_wp2_with fail
        go_region_held3 (fun w' => w'.cell? ⟨w.heap.size, 0, none⟩ = some (.slice s.up.a s.up.n s.up.c) ∧ w'.cell? ⟨w.heap.size, 1, none⟩ = some (.int .i64 s.moment) ∧ w'.cell? ⟨w.heap.size, 2, none⟩ = some (.int .i64 s.clock) ∧ w'.cell? ⟨w.heap.size, 3, none⟩ = some (.int .i64 s.seq) ∧ w'.cell? ⟨w.heap.size, 4, none⟩ = some (.slice (some ⟨b, off, none⟩) s.actors.n s.actors.c) ∧ w'.cell? ⟨w.heap.size, 5, none⟩ = some (.slice s.flights.a s.flights.n s.flights.c) ∧ w'.cell? ⟨w.heap.size, 6, none⟩ = some (.slice s.alarms.a s.alarms.n s.alarms.c) ∧ w'.cell? ⟨w.heap.size, 7, none⟩ = some (.slice s.asked.a s.asked.n s.asked.c) ∧ w'.cell? ⟨w.heap.size, 8, none⟩ = some (.int .i64 s.dead) ∧ w'.cell? ⟨b, off + k * 9, none⟩ = some (.string a.path) ∧ w'.cell? ⟨b, off + k * 9 + 1, none⟩ = some (.string a.type) ∧ w'.cell? ⟨b, off + k * 9 + 2, none⟩ = some (.int .i64 a.node) ∧ w'.cell? ⟨b, off + k * 9 + 3, none⟩ = some (.slice a.init.a a.init.n a.init.c) ∧ w'.cell? ⟨b, off + k * 9 + 4, none⟩ = some (.slice a.vars.a a.vars.n a.vars.c) ∧ w'.cell? ⟨b, off + k * 9 + 5, none⟩ = some (.int .i64 a.kids) ∧ w'.cell? ⟨b, off + k * 9 + 6, none⟩ = some (.int .i64 a.rest) ∧ w'.cell? ⟨b, off + k * 9 + 7, none⟩ = some (.bool a.stopped) ∧ w'.cell? ⟨b, off + k * 9 + 8, none⟩ = some (.slice a.mail.a a.mail.n a.mail.c)) (simp [go_sem, *])
          (first | (go_at_call 92; refine (HRD.out _ (Below.refl _ _).drew).mono ?_; rintro e w1 ⟨rfl, h1⟩; have hz1 := h1.size; simp at hz1; have H1 := Lib.hid (Below.call (w := wr) (Below.refl _ _).drew h1); obtain ⟨k1, k2, k3⟩ := keepB h1 w.heap.size (by simp; omega); obtain ⟨m1, m2, m3⟩ := keepB h1 b (by simp; omega)))
        go_wp2_with fail
        go_roundw
        case rel => exact EnRel.keep hlt HAK.out hr HR.out hB (by omega) H1.out
        case measure => simp [intOf]; omega
      | true =>
        rw [hr] at hready
        have HRD := Lib.hid hready
        clear hready
        obtain ⟨i0, hi, hz0, hz1, hz2⟩ := info_parts info81
        have hdl := Sy.readies_len ups (ls.take k)
        have hdl' : (Sy.readies ups (ls.take k)).length ≤ k := Nat.le_trans hdl (by simp; omega)
        clear hdl
        go_wp2_with fail
        go_region_held3 (fun w' => w'.cell? ⟨w.heap.size, 0, none⟩ = some (.slice s.up.a s.up.n s.up.c) ∧ w'.cell? ⟨w.heap.size, 1, none⟩ = some (.int .i64 s.moment) ∧ w'.cell? ⟨w.heap.size, 2, none⟩ = some (.int .i64 s.clock) ∧ w'.cell? ⟨w.heap.size, 3, none⟩ = some (.int .i64 s.seq) ∧ w'.cell? ⟨w.heap.size, 4, none⟩ = some (.slice (some ⟨b, off, none⟩) s.actors.n s.actors.c) ∧ w'.cell? ⟨w.heap.size, 5, none⟩ = some (.slice s.flights.a s.flights.n s.flights.c) ∧ w'.cell? ⟨w.heap.size, 6, none⟩ = some (.slice s.alarms.a s.alarms.n s.alarms.c) ∧ w'.cell? ⟨w.heap.size, 7, none⟩ = some (.slice s.asked.a s.asked.n s.asked.c) ∧ w'.cell? ⟨w.heap.size, 8, none⟩ = some (.int .i64 s.dead) ∧ w'.cell? ⟨b, off + k * 9, none⟩ = some (.string a.path) ∧ w'.cell? ⟨b, off + k * 9 + 1, none⟩ = some (.string a.type) ∧ w'.cell? ⟨b, off + k * 9 + 2, none⟩ = some (.int .i64 a.node) ∧ w'.cell? ⟨b, off + k * 9 + 3, none⟩ = some (.slice a.init.a a.init.n a.init.c) ∧ w'.cell? ⟨b, off + k * 9 + 4, none⟩ = some (.slice a.vars.a a.vars.n a.vars.c) ∧ w'.cell? ⟨b, off + k * 9 + 5, none⟩ = some (.int .i64 a.kids) ∧ w'.cell? ⟨b, off + k * 9 + 6, none⟩ = some (.int .i64 a.rest) ∧ w'.cell? ⟨b, off + k * 9 + 7, none⟩ = some (.bool a.stopped) ∧ w'.cell? ⟨b, off + k * 9 + 8, none⟩ = some (.slice a.mail.a a.mail.n a.mail.c)) (simp [go_sem, *])
          (first | (go_at_call 92; refine (HRD.out _ (Below.refl _ _).drew).mono ?_; rintro e w1 ⟨rfl, h1⟩; have hzz := h1.size; simp at hzz; have H1 := Lib.hid (Below.call (w := wr) (Below.refl _ _).drew h1); obtain ⟨k1, k2, k3⟩ := keepB h1 w.heap.size (by simp; omega); obtain ⟨m1, m2, m3⟩ := keepB h1 b (by simp; omega)))
        have d0 : w1.cell? ⟨b, off + k * 9, none⟩ = some (.string a.path) := (m2 _).trans (by simp [go_sem, c0])
        have d4 : w1.cell? ⟨w.heap.size, 4, none⟩ = some (.slice (some ⟨b, off, none⟩) s.actors.n s.actors.c) := (k2 _).trans (by simp [go_sem, q4])
        have HR1 := Lib.hid (HR.out.kept (row := none) (w' := w1) ⟨H1.out.os, H1.out.tape, H1.out.output, H1.out.size, fun i hi _ => H1.out.block i hi⟩ (by cases u3.ownBlock <;> simp))
        clear k2 m2 k3 m3 h1 q0 q1 q2 q3 q4 q5 q6 q7 q8
        go_wp2_with (at_builtin; refine wpList_append_own _ rfl _ _ 85 rfl (w.heap.size + 1) 81 i0 _ 3 32 Try.underlying85 hi hz0 hz1 hz2 rfl (by decide) _ _ _ rfl (HR1.out.alloc _) ⟨w1.heap.size, 0, none⟩ 1 1 [.string a.path, .int .i64 0, .int .i64 0] rfl rfl (cells_new _ _ _) (by simp [Value.oneCell']) (by unfold maxLen; omega) (by omega) (by simp; omega) ?_; intro v' w3 hown' hgrow _; have HOWN := Lib.hid hown'; have HGROW := Lib.hid hgrow; clear hown' hgrow)
        go_roundw
        case rel => exact EnRel.add hlt HAK.out hr _ HOWN.out HGROW.out (row_base HR.out) hB (by omega) H1.out
        case measure => simp [intOf]; omega
    · have hkn : k = s.actors.n := by omega
      have htk : ls.take k = ls := List.take_of_length_le (by have := HL.out; omega)
      rw [htk] at HR
      have hfl1 : Rd wr wr.heap.size 7 s.flights.a s.flights.n (fls.flatMap flyL) := (HF.out.keep (fun b o h => kp b o h)).more (by omega)
      have HFL1 := Lib.hid hfl1
      clear hfl1 hkn htk kp bx
      have hrl := Sy.readies_len ups ls
      have hrl' : (Sy.readies ups ls).length ≤ s.actors.n := by have := HL.out; omega
      have HFN := Lib.hid (HF.out.len (fun _ => rfl) (by omega))
      clear hrl
      go_wp2_with fail
      clear q0 q1 q2 q3 q4 q5 q6 q7 q8
      go_loopw [6, 7] (InRel s (Sy.readies ups ls) (fls.map chOf) u3 w) (fun _ i _ => s.flights.n - (intOf i).toNat)
      case atStart => exact ⟨0, Nat.zero_le _, rfl, World.ownsRow_nil _ _ _ _, HR.out, hB⟩
      case round =>
        obtain ⟨j, hj, rfl, hch, hout, hB2⟩ := hrel
        have hz2 := hB2.size
        simp at hz2
        have HCH := Lib.hid hch
        have HOUT := Lib.hid hout
        clear hch hout
        have kp : ∀ b o, b < w.heap.size → wr.cell? ⟨b, o, none⟩ = w.cell? ⟨b, o, none⟩ := fun b o h => (hB2.cell (p := ⟨b, o, none⟩) (show b < w.heap.size + 1 by omega)).trans (World.cell?_alloc_lt w _ ⟨b, o, none⟩ h)
        have q5 : wr.cell? ⟨w.heap.size, 5, none⟩ = some (.slice s.flights.a s.flights.n s.flights.c) := (hB2.cell (p := ⟨w.heap.size, 5, none⟩) (show w.heap.size < w.heap.size + 1 by omega)).trans (by simp [go_sem, sysO])
        have hil := Sy.insAll_len ((fls.map chOf).take j)
        by_cases hlt2 : j < s.flights.n
        · obtain ⟨b, off, f, hA, hb, hfj, hcells⟩ := HF.out.at_ (fun _ => rfl) (by omega) hlt2
          have c0 : wr.cell? ⟨b, off + j * 7, none⟩ = some (.int .i64 f.x) := (kp _ _ hb).trans (hcells 0 _ rfl)
          have c1 : wr.cell? ⟨b, off + j * 7 + 1, none⟩ = some (.int .i64 f.y) := (kp _ _ hb).trans (hcells 1 _ rfl)
          rw [hA] at q5
          have n1 : b < wr.heap.size := by omega
          have n2 : w.heap.size < wr.heap.size := by omega
          have HFJ := Lib.hid hfj
          have HAA := Lib.hid hA
          have hnn : ((Sy.insAll ((fls.map chOf).take j)).length + 1) * 32 ≤ 140737488351232 := Nat.le_trans (Nat.mul_le_mul_right 32 (show _ ≤ s.flights.n by simp at hil; omega)) (by omega)
          have HIN := Lib.hid (fun (W : World) (hr : W.ownsRow (w.heap.size + 1) 81 3 u6 _ _) (hb : w.heap.size + 1 ≤ W.heap.size) => insert_any (w.heap.size + 1) u6 (Sy.insAll ((fls.map chOf).take j)) (f.x, f.y) W hr hb hnn)
          clear hA hfj hcells kp hil hnn
          go_wp2_with fail
          go_region_held3 (fun w' => w'.cell? ⟨w.heap.size, 5, none⟩ = some (.slice (some ⟨b, off, none⟩) s.flights.n s.flights.c) ∧ w'.cell? ⟨b, off + j * 7, none⟩ = some (.int .i64 f.x) ∧ w'.cell? ⟨b, off + j * 7 + 1, none⟩ = some (.int .i64 f.y)) (simp [go_sem, *])
            (first | (go_at_call 93; refine (HIN.out _ HCH.out.drew (by simp; omega)).mono ?_; rintro e w1 ⟨v', rfl, ho1, h1⟩; have hzz := h1.size; simp at hzz; have H1 := Lib.hid (Below.call (w := wr) (Below.refl _ _).drew h1); have HO1 := Lib.hid ho1; obtain ⟨k1, k2, k3⟩ := keepB h1 w.heap.size (by simp; omega); obtain ⟨m1, m2, m3⟩ := keepB h1 b (by simp; omega); clear ho1 h1))
          go_wp2_with fail
          go_roundw
          case rel => exact InRel.step hlt2 HFJ.out HO1.out HOUT.out hB2 H1.out (by omega)
          case measure => simp [intOf]; omega
        · have hjn : (fls.map chOf).take j = fls.map chOf := List.take_of_length_le (by simp; have := HFN.out; omega)
          rw [hjn] at HCH
          obtain ⟨i0, hi, hz0, hz1, hz2'⟩ := info_parts info81
          have hil2 := Sy.insAll_len (fls.map chOf)
          have hil3 : (Sy.insAll (fls.map chOf)).length ≤ s.flights.n := by simp at hil2; have := HFN.out; omega
          obtain ⟨cv, hcv, hcn⟩ := own_slice HCH.out
          subst hcv
          have e1 := Lib.hid (Nat.le_trans (show (Sy.readies ups ls).length + (Sy.insAll (fls.map chOf)).length ≤ 140737488355328 by omega) ml_le)
          have e2 := Lib.hid (Nat.le_trans (Nat.mul_le_mul_right 32 (show (Sy.readies ups ls).length + (Sy.insAll (fls.map chOf)).length ≤ 4398046511104 by omega)) (show 4398046511104 * 32 ≤ 140737488355328 by decide))
          have hrc : Rd wr wr.heap.size 3 cv.a (Sy.insAll (fls.map chOf)).length (((Sy.insAll (fls.map chOf)).map Sy.chanOf).flatMap actnL) := by
            have h0 := HCH.out
            rw [← hcn] at h0 ⊢
            exact rd_own h0
          have HRC := Lib.hid hrc
          have HCN := Lib.hid hcn
          clear hrc hil hil2 kp hjn
          rw [hcn]
          clear hcn
          have hsw : w.heap.size + 1 ≤ wr.heap.size := by omega
          go_wp2_with (at_builtin; refine wpList_append_rd _ rfl (.tmp 54) (.tmp 55) 85 rfl (w.heap.size + 1) 81 i0 _ 3 32 Try.underlying85 hi hz0 hz1 hz2' rfl (by decide) _ _ _ rfl HOUT.out wr.heap.size _ _ _ (((Sy.insAll (fls.map chOf)).map Sy.chanOf).flatMap actnL) rfl HRC.out (actn_one _) e1.out e2.out hsw ?_; intro v3 w3 ho3 hg3; have b3 := Lib.hid (hB2.grown hg3 hsw (row_base HOUT.out)); have HO3 := Lib.hid ho3; clear ho3 hg3)
          go_ret
          obtain ⟨v, hv, hrd⟩ := rd_of_own HO3.out
          refine ⟨v, congrArg Ending.returned hv, ?_, ((Below.refl w.heap.size w).alloc (Nat.le_refl _) _).trans (b3.out.mono (by omega))⟩
          rw [← List.flatMap_append] at hrd
          exact hrd
end Go.Proofs.Ytjdjfjokniingaa
