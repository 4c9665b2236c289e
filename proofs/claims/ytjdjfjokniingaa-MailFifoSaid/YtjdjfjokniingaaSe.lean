/- The contract of sched.Enabled. -/
import Derived.Test.YtjdjfjokniingaaSc
namespace Go.Proofs.Ytjdjfjokniingaa
open Go.RowKit

theorem info81 : (Try.prog.info? 81).map (fun i => (i.zero, i.size, i.bytes)) = some (some (.agg #[.string ⟨#[]⟩, .int .i64 0, .int .i64 0]), 3, 32) := by kernel_rfl

namespace Sy
def actOf (a : LiveC) : ActnC := ⟨a.path, 0, 0⟩
def chanOf (c : Int × Int) : ActnC := ⟨⟨#[]⟩, c.1, c.2⟩
def readies (ups : List Bool) (ls : List LiveC) : List ActnC := (ls.filter (ready ups)).map actOf
def enabled (ups : List Bool) (ls : List LiveC) (cs : List (Int × Int)) : List ActnC := readies ups ls ++ (srt (dd cs)).map chanOf
theorem readies_snoc (ups : List Bool) (ls : List LiveC) (a : LiveC) : readies ups (ls ++ [a]) = readies ups ls ++ (if ready ups a then [actOf a] else []) := by
  simp only [readies, List.filter_append, List.map_append]
  cases h : ready ups a <;> simp [h]
theorem readies_len (ups : List Bool) (ls : List LiveC) : (readies ups ls).length ≤ ls.length := by
  simp only [readies, List.length_map]
  exact List.length_filter_le _ _
end Sy

def EnRel (s : SysC) (ls : List LiveC) (ups : List Bool) (w : World) (v i : Value) (wr : World) : Prop :=
  ∃ k : Nat, k ≤ s.actors.n ∧ i = .int .i64 k ∧ wr.ownsRow (w.heap.size + 1) 81 3 v (Sy.readies ups (ls.take k)).length ((Sy.readies ups (ls.take k)).flatMap actnL) ∧ Below (w.heap.size + 1) (w.alloc (sysO s)) wr

theorem EnRel.keep {s : SysC} {ls : List LiveC} {ups : List Bool} {w wr w1 : World} {v : Value} {k : Nat} {a : LiveC} (hk : k < s.actors.n) (ha : ls[k]? = some a) (hr : Sy.ready ups a = false)
    (hR : wr.ownsRow (w.heap.size + 1) 81 3 v (Sy.readies ups (ls.take k)).length ((Sy.readies ups (ls.take k)).flatMap actnL)) (hB : Below (w.heap.size + 1) (w.alloc (sysO s)) wr) (hsz : w.heap.size + 1 ≤ wr.heap.size) (h1 : Below wr.heap.size wr w1) :
    EnRel s ls ups w v (.int .i64 ((k + 1 : Nat) : Int)) w1 := by
  have e : Sy.readies ups (ls.take (k + 1)) = Sy.readies ups (ls.take k) := by rw [take_snoc' _ k a ha, Sy.readies_snoc, hr]; simp
  refine ⟨k + 1, by omega, rfl, ?_, hB.trans (h1.mono hsz)⟩
  rw [e]
  exact hR.kept (row := none) ⟨h1.os, h1.tape, h1.output, h1.size, fun i hi _ => h1.block i hi⟩ (by cases v.ownBlock <;> simp)

theorem EnRel.add {s : SysC} {ls : List LiveC} {ups : List Bool} {w wr w1 w3 : World} {v v' : Value} {k : Nat} {a : LiveC} (hk : k < s.actors.n) (ha : ls[k]? = some a) (hr : Sy.ready ups a = true) (o : Obj)
    (hR : w3.ownsRow (w.heap.size + 1) 81 3 v' ((Sy.readies ups (ls.take k)).length + 1) (((Sy.readies ups (ls.take k)).flatMap actnL) ++ actnL (Sy.actOf a)))
    (hg3 : (w1.alloc o).grownBy w3 v.ownBlock) (hv : ∀ g, v.ownBlock = some g → w.heap.size + 1 ≤ g)
    (hB : Below (w.heap.size + 1) (w.alloc (sysO s)) wr) (hsz : w.heap.size + 1 ≤ wr.heap.size) (h1 : Below wr.heap.size wr w1) :
    EnRel s ls ups w v' (.int .i64 ((k + 1 : Nat) : Int)) w3 := by
  have e : Sy.readies ups (ls.take (k + 1)) = Sy.readies ups (ls.take k) ++ [Sy.actOf a] := by rw [take_snoc' _ k a ha, Sy.readies_snoc, hr]; simp
  have s1 := h1.size
  refine ⟨k + 1, by omega, rfl, ?_, ?_⟩
  · rw [e]; simpa using hR
  · exact ((hB.trans (h1.mono hsz)).alloc (by omega) o).grown hg3 (by simp; omega) (fun g h => by have := hv g h; omega)

def EnRel2 (L : List ActnC) (cs : List (Int × Int)) (cv : Value) (w W : World) (v i : Value) (wr : World) : Prop :=
  ∃ k : Nat, k ≤ cs.length ∧ i = .int .i64 k ∧ wr.ownsRow (w.heap.size + 1) 81 3 v (L.length + k) ((L ++ (cs.take k).map Sy.chanOf).flatMap actnL) ∧ wr.ownsRow 0 122 2 cv cs.length (cs.flatMap chanL) ∧ Below (w.heap.size + 1) W wr


theorem EnRel2.add {L : List ActnC} {cs : List (Int × Int)} {w W wr w3 : World} {v v' cv : Value} {k : Nat} {c : Int × Int} (hcv : wr.ownsRow 0 122 2 cv cs.length (cs.flatMap chanL)) (hr0 : wr.ownsRow (w.heap.size + 1) 81 3 v (L.length + k) ((L ++ (cs.take k).map Sy.chanOf).flatMap actnL)) (hk : k < cs.length) (hc : cs[k]? = some c) (o o' : Obj)
    (hR : w3.ownsRow (w.heap.size + 1) 81 3 v' (L.length + k + 1) ((L ++ (cs.take k).map Sy.chanOf).flatMap actnL ++ actnL (Sy.chanOf c)))
    (hg3 : ((wr.alloc o).alloc o').grownBy w3 v.ownBlock) (hv : ∀ g, v.ownBlock = some g → w.heap.size + 1 ≤ g) (hB : Below (w.heap.size + 1) W wr) (hsz : w.heap.size + 1 ≤ wr.heap.size) :
    EnRel2 L cs cv w W v' (.int .i64 ((k + 1 : Nat) : Int)) w3 := by
  have e : cs.take (k + 1) = cs.take k ++ [c] := take_snoc' _ k c hc
  refine ⟨k + 1, by omega, rfl, ?_, ?_, ?_⟩
  · rw [e]
    simpa [Nat.add_assoc] using hR
  · exact ((hcv.alloc o).alloc o').kept hg3 (own_apart hcv hr0 (by decide))
  · exact ((hB.alloc hsz o).alloc (by simp; omega) o').grown hg3 (by simp; omega) (fun g h => by have := hv g h; omega)

set_option maxRecDepth 100000 in
set_option maxHeartbeats 800000 in
theorem enabled_own (s : SysC) (ls : List LiveC) (fls : List FlyC) (ups : List Bool) (w : World) (hup : Rd w w.heap.size 1 s.up.a s.up.n (ups.map .bool)) (hac : Rd w w.heap.size 9 s.actors.a s.actors.n (ls.flatMap liveL)) (hfl : Rd w w.heap.size 7 s.flights.a s.flights.n (fls.flatMap flyL))
    (hba : s.actors.n * 128 ≤ 140737488351232) (hbf : s.flights.n * 64 ≤ 140737488351232) (hwf : ∀ f ∈ fls, (Lit.int .i64 f.x).wf = true ∧ (Lit.int .i64 f.y).wf = true) :
    Calls Try.prog 53 #[sysV s] w fun e w' => ∃ v : Sl, e = .returned (.slice v.a v.n v.c) ∧ Rd w' w'.heap.size 3 v.a v.n ((Sy.enabled ups ls (fls.map chOf)).flatMap actnL) ∧ Below w.heap.size w w' ∧ ∀ p, v.a = some p → w.heap.size ≤ p.block := by
  have hlen := hac.len (fun _ => rfl) (by omega)
  have HW := Lib.hid hwf
  have HU := Lib.hid hup
  have HA := Lib.hid hac
  have HF := Lib.hid hfl
  have HL := Lib.hid hlen
  clear hwf hup hac hfl hlen
  go_enter Try.func53, Try.ntmps53
  go_wp2
  go_loopw [3, 10] (EnRel s ls ups w) (fun _ i _ => s.actors.n - (intOf i).toNat)
  case atStart => exact ⟨0, Nat.zero_le _, rfl, World.ownsRow_nil _ _ _ _, Below.refl _ _⟩
  case round =>
    obtain ⟨k, hk, rfl, hrow, hB⟩ := hrel
    have hsz := hB.size
    simp at hsz
    have HR := Lib.hid hrow
    clear hrow
    have kp : ∀ b o, b < w.heap.size → wr.cell? ⟨b, o, none⟩ = w.cell? ⟨b, o, none⟩ := fun b o h => (hB.cell (p := ⟨b, o, none⟩) (show b < w.heap.size + 1 by omega)).trans (World.cell?_alloc_lt w _ ⟨b, o, none⟩ h)
    have bx : ∀ j u, [Value.slice s.up.a s.up.n s.up.c, .int .i64 s.moment, .int .i64 s.clock, .int .i64 s.seq, .slice s.actors.a s.actors.n s.actors.c, .slice s.flights.a s.flights.n s.flights.c, .slice s.alarms.a s.alarms.n s.alarms.c, .slice s.asked.a s.asked.n s.asked.c, .int .i64 s.dead][j]? = some u → wr.cell? ⟨w.heap.size, j, none⟩ = some u := fun j u hu => by
      refine (hB.cell (p := ⟨w.heap.size, j, none⟩) (show w.heap.size < w.heap.size + 1 by omega)).trans ?_
      have := cells_new w 28 _ j u hu
      have e : (⟨w.heap.size, 0, none⟩ : Addr).add j = ⟨w.heap.size, j, none⟩ := by unfold Addr.add; split <;> simp_all
      rw [e] at this
      exact this
    have q0 := bx 0 _ rfl
    have q1 := bx 1 _ rfl
    have q2 := bx 2 _ rfl
    have q3 := bx 3 _ rfl
    have q4 := bx 4 _ rfl
    have q5 := bx 5 _ rfl
    have q6 := bx 6 _ rfl
    have q7 := bx 7 _ rfl
    have q8 := bx 8 _ rfl
    by_cases hlt : k < s.actors.n
    · obtain ⟨b, off, a, hA, hb, hak, hcells⟩ := HA.out.at_ (fun _ => rfl) (by omega) hlt
      have c0 : wr.cell? ⟨b, off + k * 9, none⟩ = some (.string a.path) := (kp _ _ hb).trans (hcells 0 _ rfl)
      have c2 : wr.cell? ⟨b, off + k * 9 + 2, none⟩ = some (.int .i64 a.node) := (kp _ _ hb).trans (hcells 2 _ rfl)
      have c7 : wr.cell? ⟨b, off + k * 9 + 7, none⟩ = some (.bool a.stopped) := (kp _ _ hb).trans (hcells 7 _ rfl)
      have c8 : wr.cell? ⟨b, off + k * 9 + 8, none⟩ = some (.slice a.mail.a a.mail.n a.mail.c) := (kp _ _ hb).trans (hcells 8 _ rfl)
      have hu1 : Rd wr wr.heap.size 1 s.up.a s.up.n (ups.map .bool) := (HU.out.keep (fun b o h => kp b o h)).more (by omega)
      have n1 : b < wr.heap.size := by omega
      have n2 : w.heap.size < wr.heap.size := by omega
      rw [hA] at q4
      have hV : sysV s = .agg #[.slice s.up.a s.up.n s.up.c, .int .i64 s.moment, .int .i64 s.clock, .int .i64 s.seq, .slice (some ⟨b, off, none⟩) s.actors.n s.actors.c, .slice s.flights.a s.flights.n s.flights.c, .slice s.alarms.a s.alarms.n s.alarms.c, .slice s.asked.a s.asked.n s.asked.c, .int .i64 s.dead] := by unfold sysV; rw [hA]
      have HU1 := Lib.hid hu1
      have HAK := Lib.hid hak
      have HAA := Lib.hid hA
      clear hA hak hcells kp bx hu1
      have hready := fun (W : World) (hW : Below wr.heap.size wr W) => ready_any s a b (off + k * 9) ups W ((HU1.out.below hW (Nat.le_refl _)).more hW.size) (Nat.lt_of_lt_of_le n1 hW.size) ((hW.cell (p := ⟨b, off + k * 9 + 2, none⟩) n1).trans c2) ((hW.cell (p := ⟨b, off + k * 9 + 7, none⟩) n1).trans c7) ((hW.cell (p := ⟨b, off + k * 9 + 8, none⟩) n1).trans c8)
      rw [hV] at hready
      clear hV
      cases hr : Sy.ready ups a with
      | false =>
        rw [hr] at hready
        have HRD := Lib.hid hready
        clear hready c2 c7 c8
        go_wp2_with fail
        go_region_held3 (fun w' => w'.cell? ⟨w.heap.size, 0, none⟩ = some (.slice s.up.a s.up.n s.up.c) ∧ w'.cell? ⟨w.heap.size, 1, none⟩ = some (.int .i64 s.moment) ∧ w'.cell? ⟨w.heap.size, 2, none⟩ = some (.int .i64 s.clock) ∧ w'.cell? ⟨w.heap.size, 3, none⟩ = some (.int .i64 s.seq) ∧ w'.cell? ⟨w.heap.size, 4, none⟩ = some (.slice (some ⟨b, off, none⟩) s.actors.n s.actors.c) ∧ w'.cell? ⟨w.heap.size, 5, none⟩ = some (.slice s.flights.a s.flights.n s.flights.c) ∧ w'.cell? ⟨w.heap.size, 6, none⟩ = some (.slice s.alarms.a s.alarms.n s.alarms.c) ∧ w'.cell? ⟨w.heap.size, 7, none⟩ = some (.slice s.asked.a s.asked.n s.asked.c) ∧ w'.cell? ⟨w.heap.size, 8, none⟩ = some (.int .i64 s.dead)) (simp [go_sem, *])
          (first | (go_at_call 90; refine (HRD.out _ (Below.refl _ _).drew).mono ?_; rintro e w1 ⟨rfl, h1⟩; have hz1 := h1.size; simp at hz1; have H1 := Lib.hid (Below.call (w := wr) (Below.refl _ _).drew h1); obtain ⟨k1, k2, k3⟩ := keepB h1 w.heap.size (by simp; omega); obtain ⟨m1, m2, m3⟩ := keepB h1 b (by simp; omega)))
        go_wp2_with fail
        go_roundw
        case rel => exact EnRel.keep hlt HAK.out hr HR.out hB (by omega) H1.out
        case measure => simp [intOf]; omega
      | true =>
        rw [hr] at hready
        have HRD := Lib.hid hready
        clear hready c2 c7 c8
        obtain ⟨i0, hi, hz0, hz1, hz2⟩ := info_parts info81
        have hdl := Sy.readies_len ups (ls.take k)
        have hdl' : (Sy.readies ups (ls.take k)).length ≤ k := Nat.le_trans hdl (by simp; omega)
        clear hdl
        go_wp2_with fail
        go_region_held3 (fun w' => w'.cell? ⟨w.heap.size, 0, none⟩ = some (.slice s.up.a s.up.n s.up.c) ∧ w'.cell? ⟨w.heap.size, 1, none⟩ = some (.int .i64 s.moment) ∧ w'.cell? ⟨w.heap.size, 2, none⟩ = some (.int .i64 s.clock) ∧ w'.cell? ⟨w.heap.size, 3, none⟩ = some (.int .i64 s.seq) ∧ w'.cell? ⟨w.heap.size, 4, none⟩ = some (.slice (some ⟨b, off, none⟩) s.actors.n s.actors.c) ∧ w'.cell? ⟨w.heap.size, 5, none⟩ = some (.slice s.flights.a s.flights.n s.flights.c) ∧ w'.cell? ⟨w.heap.size, 6, none⟩ = some (.slice s.alarms.a s.alarms.n s.alarms.c) ∧ w'.cell? ⟨w.heap.size, 7, none⟩ = some (.slice s.asked.a s.asked.n s.asked.c) ∧ w'.cell? ⟨w.heap.size, 8, none⟩ = some (.int .i64 s.dead)) (simp [go_sem, *])
          (first | (go_at_call 90; refine (HRD.out _ (Below.refl _ _).drew).mono ?_; rintro e w1 ⟨rfl, h1⟩; have hzz := h1.size; simp at hzz; have H1 := Lib.hid (Below.call (w := wr) (Below.refl _ _).drew h1); obtain ⟨k1, k2, k3⟩ := keepB h1 w.heap.size (by simp; omega); obtain ⟨m1, m2, m3⟩ := keepB h1 b (by simp; omega)))
        have d0 : w1.cell? ⟨b, off + k * 9, none⟩ = some (.string a.path) := (m2 _).trans (by simp [go_sem, c0])
        have d4 : w1.cell? ⟨w.heap.size, 4, none⟩ = some (.slice (some ⟨b, off, none⟩) s.actors.n s.actors.c) := (k2 _).trans (by simp [go_sem, q4])
        have HR1 := Lib.hid (HR.out.kept (row := none) (w' := w1) ⟨H1.out.os, H1.out.tape, H1.out.output, H1.out.size, fun i hi _ => H1.out.block i hi⟩ (by cases u3.ownBlock <;> simp))
        clear k2 m2 k3 m3 h1 q0 q1 q2 q3 q4 q5 q6 q7 q8
        go_wp2_with (at_builtin; refine wpList_append_own _ rfl _ _ 85 rfl (w.heap.size + 1) 81 i0 _ 3 32 Try.underlying85 hi hz0 hz1 hz2 rfl (by decide) _ _ _ rfl (HR1.out.alloc _) ⟨w1.heap.size, 0, none⟩ 1 1 [.string a.path, .int .i64 0, .int .i64 0] rfl rfl (cells_new _ _ _) (by simp [Value.oneCell']) (by unfold maxLen; omega) (by omega) (by simp; omega) ?_; intro v' w3 hown' hgrow _; have HOWN := Lib.hid hown'; have HGROW := Lib.hid hgrow; clear hown' hgrow)
        go_roundw
        case rel => exact EnRel.add hlt HAK.out hr _ HOWN.out HGROW.out (row_base HR.out) hB (by omega) H1.out
        case measure => simp [intOf]; omega
    · have hkn : k = s.actors.n := by omega
      have htk : ls.take k = ls := List.take_of_length_le (by have := HL.out; omega)
      rw [htk] at HR
      have hfl1 : Rd wr wr.heap.size 7 s.flights.a s.flights.n (fls.flatMap flyL) := (HF.out.keep (fun b o h => kp b o h)).more (by omega)
      have HFL1 := Lib.hid hfl1
      clear hfl1 hkn htk kp bx
      go_wp2_with fail
      refine (channels_any s fls _ HFL1.out (by omega) HW.out).mono ?_
      rintro e w1 ⟨cv, rfl, hcv, h1⟩
      have hz1 := h1.size
      have HCL := Lib.hid ((rd_own hcv).len (fun _ => rfl) (by omega))
      have hln : cv.n ≤ s.flights.n := by
        have e1 := HCL.out
        have e2 := Sy.dd_len (fls.map chOf)
        have e3 := HF.out.len (fun _ => rfl) (by omega)
        simp only [Sy.srt, List.length_mergeSort] at e1
        simp at e2
        omega
      have HCV := Lib.hid hcv
      have H1 := Lib.hid h1
      have HR1 := Lib.hid (HR.out.kept (row := none) (w' := w1) ⟨h1.os, h1.tape, h1.output, h1.size, fun i hi _ => h1.block i hi⟩ (by cases u3.ownBlock <;> simp))
      clear hcv h1 q0 q1 q2 q3 q4 q5 q6 q7 q8
      go_wp2_with fail
      go_loopw [3, 33] (EnRel2 (Sy.readies ups ls) (Sy.srt (Sy.dd (fls.map chOf))) (.slice cv.a cv.n cv.c) w w1) (fun _ i _ => cv.n - (intOf i).toNat)
      case atStart => exact ⟨0, Nat.zero_le _, rfl, by simpa using HR1.out, by rw [HCL.out]; exact row_mono HCV.out (Nat.zero_le _), Below.refl _ _⟩
      case round =>
        obtain ⟨j, hj, rfl, hrow, hcv2, hB2⟩ := hrel
        rw [HCL.out] at hcv2
        have HCV2 := Lib.hid hcv2
        clear hcv2
        have HRW := Lib.hid hrow
        have hz2 := hB2.size
        clear hrow
        by_cases hlt2 : j < cv.n
        · obtain ⟨b, off, c, hA, hb, hcj, hcells⟩ := (rd_own HCV2.out).at_ (fun _ => rfl) (by omega) hlt2
          have c0 : wr.cell? ⟨b, off + j * 2, none⟩ = some (.int .i64 c.1) := hcells 0 _ rfl
          have c1 : wr.cell? ⟨b, off + j * 2 + 1, none⟩ = some (.int .i64 c.2) := hcells 1 _ rfl
          have n1 : b < wr.heap.size := by omega
          have HCJ := Lib.hid hcj
          have hix : ∀ W : World, Sem.run Try.prog (Instr.indexAt 119 (.slice cv.a cv.n cv.c) (.int .i64 (j : Int))) W = .ok (.pointer (some ⟨b, off + j * 2, none⟩)) W := by intro W; rw [hA]; go_simp
          clear hcells hcj hA
          obtain ⟨i0, hi, hz0, hz1', hz2'⟩ := info_parts info81
          have hrl := Sy.readies_len ups ls
          have hrl' : (Sy.readies ups ls).length ≤ s.actors.n := by have := HL.out; omega
          clear hrl
          go_wp2_with (at_builtin; refine wpList_append_own _ rfl _ _ 85 rfl (w.heap.size + 1) 81 i0 _ 3 32 Try.underlying85 hi hz0 hz1' hz2' rfl (by decide) _ _ _ rfl ((HRW.out.alloc _).alloc _) ⟨wr.heap.size + 1, 0, none⟩ 1 1 [.string ⟨#[]⟩, .int .i64 c.1, .int .i64 c.2] rfl rfl (by have := cells_new (wr.alloc (.cells #[.int .i64 c.1, .int .i64 c.2] 122)) 81 [.string ⟨#[]⟩, .int .i64 c.1, .int .i64 c.2]; simpa using this) (by simp [Value.oneCell']) (by unfold maxLen; omega) (by omega) (by simp; omega) ?_; intro v' w3 hown' hgrow _; have HOWN := Lib.hid hown'; have HGROW := Lib.hid hgrow; clear hown' hgrow)
          go_roundw
          case rel => exact EnRel2.add (by rw [HCL.out]; exact HCV2.out) HRW.out (by have := HCL.out; omega) HCJ.out _ _ HOWN.out HGROW.out (row_base HRW.out) hB2 (by omega)
          case measure => simp [intOf]; omega
        · go_wp2_with fail
          go_ret
          obtain ⟨v, hv, hrd⟩ := rd_of_own HRW.out
          have hje : j = cv.n := by have := HCL.out; omega
          have hlo : ∀ p, v.a = some p → w.heap.size ≤ p.block := fun p hp => by
            have := row_base HRW.out p.block (by rw [hv]; show Value.ownBlock (.slice v.a v.n v.c) = _; rw [hp]; rfl)
            omega
          refine ⟨v, congrArg Ending.returned hv, ?_, ?_, hlo⟩
          · have e : (Sy.srt (Sy.dd (fls.map chOf))).take j = Sy.srt (Sy.dd (fls.map chOf)) := List.take_of_length_le (by have := HCL.out; omega)
            rw [e] at hrd
            exact hrd
          · exact ((Below.refl w.heap.size w).alloc (Nat.le_refl _) _).trans ((hB.mono (by omega)).trans (((H1.out.mono (by omega)).trans (hB2.mono (by omega)))))
theorem enabled_any (s : SysC) (ls : List LiveC) (fls : List FlyC) (ups : List Bool) (w : World) (hup : Rd w w.heap.size 1 s.up.a s.up.n (ups.map .bool)) (hac : Rd w w.heap.size 9 s.actors.a s.actors.n (ls.flatMap liveL)) (hfl : Rd w w.heap.size 7 s.flights.a s.flights.n (fls.flatMap flyL))
    (hba : s.actors.n * 128 ≤ 140737488351232) (hbf : s.flights.n * 64 ≤ 140737488351232) (hwf : ∀ f ∈ fls, (Lit.int .i64 f.x).wf = true ∧ (Lit.int .i64 f.y).wf = true) :
    Calls Try.prog 53 #[sysV s] w fun e w' => ∃ v : Sl, e = .returned (.slice v.a v.n v.c) ∧ Rd w' w'.heap.size 3 v.a v.n ((Sy.enabled ups ls (fls.map chOf)).flatMap actnL) ∧ Below w.heap.size w w' :=
  (enabled_own s ls fls ups w hup hac hfl hba hbf hwf).mono fun _ _ ⟨v, a, b, c, _⟩ => ⟨v, a, b, c⟩
end Go.Proofs.Ytjdjfjokniingaa
