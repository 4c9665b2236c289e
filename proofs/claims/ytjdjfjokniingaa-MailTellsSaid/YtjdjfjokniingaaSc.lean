/- The contract of sched.channels. -/
import Derived.Test.YtjdjfjokniingaaSb
import Derived.Test.YtjdjfjokniingaaSm
import Derived.Test.YtjdjfjokniingaaPl
import Derived.Test.YtjdjfjokniingaaSd
namespace Go.Proofs.Ytjdjfjokniingaa
open Go.RowKit

theorem info122 : (Try.prog.info? 122).map (fun i => (i.zero, i.size, i.bytes)) = some (some (.agg #[.int .i64 0, .int .i64 0]), 2, 16) := by kernel_rfl

def chOf (f : FlyC) : Int × Int := (f.x, f.y)
def sysO (s : SysC) : Obj := .cells #[.slice s.up.a s.up.n s.up.c, .int .i64 s.moment, .int .i64 s.clock, .int .i64 s.seq, .slice s.actors.a s.actors.n s.actors.c, .slice s.flights.a s.flights.n s.flights.c, .slice s.alarms.a s.alarms.n s.alarms.c, .slice s.asked.a s.asked.n s.asked.c, .int .i64 s.dead] 28

/-- what holds at the head of the loop: k flights have been looked at -/
def ChRel (s : SysC) (fls : List FlyC) (w : World) (v i : Value) (wr : World) : Prop :=
  ∃ k : Nat, k ≤ s.flights.n ∧ i = .int .i64 k ∧ OwnsB wr 122 (w.heap.size + 1) k (fun l => ∃ c ∈ Sy.dd ((fls.map chOf).take k), l = chKey c) ∧
    wr.ownsRow (w.heap.size + 2) 122 2 v (Sy.dd ((fls.map chOf).take k)).length ((Sy.dd ((fls.map chOf).take k)).flatMap chanL) ∧ Below (w.heap.size + 1) (w.alloc (sysO s)) wr ∧ w.heap.size + 2 ≤ wr.heap.size

theorem cells_new (w : World) (t : TypeId) (cs : List Value) : ∀ j u, cs[j]? = some u → (w.alloc (.cells cs.toArray t)).cell? ((⟨w.heap.size, 0, none⟩ : Addr).add j) = some u := by
  intro j u hu
  have e : (⟨w.heap.size, 0, none⟩ : Addr).add j = ⟨w.heap.size, j, none⟩ := by unfold Addr.add; split <;> simp_all
  rw [e]
  show (match (w.heap.push (.cells cs.toArray t))[w.heap.size]? with | some (.cells c _ _) => if (none : Option Nat).isSome then none else c[j]? | _ => none) = some u
  simp [hu]

theorem row_ne {w : World} {base size n m : Nat} {e : TypeId} {v : Value} {xs : List Value} (h : w.ownsRow base e size v n xs) (hm : m < base) : v.ownBlock = none ∨ v.ownBlock ≠ some m := by
  rcases ho : v.ownBlock with _ | g
  · exact .inl rfl
  · refine .inr fun h' => ?_
    injection h' with h'
    have := (h.lt g ho).1
    omega
theorem row_base {w : World} {base size n : Nat} {e : TypeId} {v : Value} {xs : List Value} (h : w.ownsRow base e size v n xs) : ∀ g, v.ownBlock = some g → base ≤ g := fun g hg => (h.lt g hg).1

theorem ddStep_in {acc : List (Int × Int)} {c : Int × Int} (h : c ∈ acc) : Sy.ddStep acc c = acc := by simp [Sy.ddStep, h]
theorem ddStep_out {acc : List (Int × Int)} {c : Int × Int} (h : c ∉ acc) : Sy.ddStep acc c = acc ++ [c] := by simp [Sy.ddStep, h]

theorem ChRel.keep {s : SysC} {fls : List FlyC} {w wr : World} {v : Value} {k : Nat} {f : FlyC} (hk : k < s.flights.n) (hf : fls[k]? = some f) (hin : chOf f ∈ Sy.dd ((fls.map chOf).take k))
    (hM : OwnsB wr 122 (w.heap.size + 1) k (fun l => ∃ c ∈ Sy.dd ((fls.map chOf).take k), l = chKey c)) (hR : wr.ownsRow (w.heap.size + 2) 122 2 v (Sy.dd ((fls.map chOf).take k)).length ((Sy.dd ((fls.map chOf).take k)).flatMap chanL))
    (hB : Below (w.heap.size + 1) (w.alloc (sysO s)) wr) (hsz : w.heap.size + 2 ≤ wr.heap.size) (o : Obj) : ChRel s fls w v (.int .i64 ((k + 1 : Nat) : Int)) (wr.alloc o).drew := by
  have e : Sy.dd ((fls.map chOf).take (k + 1)) = Sy.dd ((fls.map chOf).take k) := by
    rw [take_snoc' _ k (chOf f) (by simp [hf]), Sy.dd_snoc, ddStep_in hin]
  refine ⟨k + 1, by omega, rfl, ?_, ?_, ?_, ?_⟩
  · rw [e]; exact ((hM.alloc o).drew).mono (by omega)
  · rw [e]; exact (hR.alloc o).drew
  · exact (hB.alloc (by omega) o).drew
  · have : (wr.alloc o).drew.heap.size = wr.heap.size + 1 := by simp [World.drew]
    omega

theorem ChRel.add {s : SysC} {fls : List FlyC} {w wr w2 w3 : World} {v v' : Value} {k : Nat} {f : FlyC} (hk : k < s.flights.n) (hf : fls[k]? = some f) (hout : chOf f ∉ Sy.dd ((fls.map chOf).take k)) (o o' : Obj)
    (hM : OwnsB w2 122 (w.heap.size + 1) (k + 1) (fun l => (l = chKey (chOf f) ∧ true = true) ∨ (l ≠ chKey (chOf f) ∧ ∃ c ∈ Sy.dd ((fls.map chOf).take k), l = chKey c)))
    (hg2 : (wr.alloc o).drew.grownBy w2 (some (w.heap.size + 1)))
    (hR : w3.ownsRow (w.heap.size + 2) 122 2 v' ((Sy.dd ((fls.map chOf).take k)).length + 1) (((Sy.dd ((fls.map chOf).take k)).flatMap chanL) ++ chanL (chOf f)))
    (hg3 : (w2.alloc o').grownBy w3 v.ownBlock) (hv : ∀ g, v.ownBlock = some g → w.heap.size + 2 ≤ g)
    (hB : Below (w.heap.size + 1) (w.alloc (sysO s)) wr) (hsz : w.heap.size + 2 ≤ wr.heap.size) : ChRel s fls w v' (.int .i64 ((k + 1 : Nat) : Int)) w3 := by
  have e : Sy.dd ((fls.map chOf).take (k + 1)) = Sy.dd ((fls.map chOf).take k) ++ [chOf f] := by
    rw [take_snoc' _ k (chOf f) (by simp [hf]), Sy.dd_snoc, ddStep_out hout]
  have s1 : (wr.alloc o).drew.heap.size = wr.heap.size + 1 := by simp [World.drew]
  have s2 := hg2.size
  have s3 := hg3.size
  have s4 : (w2.alloc o').heap.size = w2.heap.size + 1 := by simp
  refine ⟨k + 1, by omega, rfl, ?_, ?_, ?_, by omega⟩
  · rw [e]
    refine ((hM.alloc o').kept hg3 (fun h => ?_)).iff_ (fun l => ?_)
    · have := hv _ h.symm; omega
    · simp only [and_true, List.mem_append, List.mem_singleton]
      constructor
      · rintro (h | ⟨_, c, hc, h⟩)
        · exact ⟨_, .inr rfl, h⟩
        · exact ⟨c, .inl hc, h⟩
      · rintro ⟨c, hc | rfl, h⟩
        · by_cases h' : l = chKey (chOf f)
          · exact .inl h'
          · exact .inr ⟨h', c, hc, h⟩
        · exact .inl h
  · rw [e]; simpa using hR
  · have b1 : Below (w.heap.size + 1) (w.alloc (sysO s)) (wr.alloc o).drew := (hB.alloc (by omega) o).drew
    have b2 : Below (w.heap.size + 1) (w.alloc (sysO s)) w2 := b1.grown hg2 (by omega) (fun g h => by injection h with h; omega)
    exact (b2.alloc (by omega) o').grown hg3 (by omega) (fun g h => by have := hv g h; omega)

set_option maxRecDepth 100000 in
set_option maxHeartbeats 1600000 in
theorem channels_any (s : SysC) (fls : List FlyC) (w : World) (hfl : Rd w w.heap.size 7 s.flights.a s.flights.n (fls.flatMap flyL)) (hbd : s.flights.n * 16 ≤ 140737488351232) (hwf : ∀ f ∈ fls, (Lit.int .i64 f.x).wf = true ∧ (Lit.int .i64 f.y).wf = true) :
    Calls Try.prog 91 #[sysV s] w fun e w' => ∃ v : Sl, e = .returned (.slice v.a v.n v.c) ∧ w'.ownsRow (w.heap.size + 2) 122 2 (.slice v.a v.n v.c) v.n ((Sy.srt (Sy.dd (fls.map chOf))).flatMap chanL) ∧ Below w.heap.size w w' := by
  have hlen := hfl.len (fun _ => rfl) (by omega)
  have hmm := @run_makeMap Try.prog
  have HW := Lib.hid hwf
  have HF := Lib.hid hfl
  have HL := Lib.hid hlen
  clear hwf hfl hlen
  go_enter Try.func91, Try.ntmps91
  go_wp2
  go_loopw [4, 11] (ChRel s fls w) (fun _ i _ => s.flights.n - (intOf i).toNat)
  case atStart => exact ⟨0, Nat.zero_le _, rfl, OwnsB.made' (by simp) (fun l => by simp [Sy.dd]), World.ownsRow_nil _ _ _ _, (Below.refl _ _).alloc (by simp) _, by simp⟩
  case round =>
    obtain ⟨k, hk, rfl, hmap, hrow, hB, hsz⟩ := hrel
    by_cases hlt : k < s.flights.n
    · obtain ⟨b, off, f, hA, hb, hfk, hcells⟩ := HF.out.at_ (fun _ => rfl) (by omega) hlt
      have kp : ∀ b o, b < w.heap.size → wr.cell? ⟨b, o, none⟩ = w.cell? ⟨b, o, none⟩ := fun b o h => (hB.cell (p := ⟨b, o, none⟩) (show b < w.heap.size + 1 by omega)).trans (World.cell?_alloc_lt w _ ⟨b, o, none⟩ h)
      have c0 : wr.cell? ⟨b, off + k * 7, none⟩ = some (.int .i64 f.x) := (kp _ _ hb).trans (hcells 0 _ rfl)
      have c1 : wr.cell? ⟨b, off + k * 7 + 1, none⟩ = some (.int .i64 f.y) := (kp _ _ hb).trans (hcells 1 _ rfl)
      have c5 : wr.cell? ⟨w.heap.size, 5, none⟩ = some (.slice (some ⟨b, off, none⟩) s.flights.n s.flights.c) := (hB.cell (p := ⟨w.heap.size, 5, none⟩) (show w.heap.size < w.heap.size + 1 by omega)).trans (by simp [go_sem, sysO, hA])
      have n1 : b < wr.heap.size := by omega
      have n2 : w.heap.size < wr.heap.size := by omega
      have n3 : ¬ b = wr.heap.size := by omega
      have n4 : ¬ w.heap.size = wr.heap.size := by omega
      have HA := Lib.hid hA
      have HFK := Lib.hid hfk
      clear hA hfk hcells kp
      have HM := Lib.hid hmap
      have HR := Lib.hid hrow
      clear hmap hrow
      go_wp2_with fail
      go_region_held3 (fun w' => w'.cell? ⟨b, off + k * 7, none⟩ = some (.int .i64 f.x) ∧ w'.cell? ⟨b, off + k * 7 + 1, none⟩ = some (.int .i64 f.y) ∧ w'.cell? ⟨w.heap.size, 5, none⟩ = some (.slice (some ⟨b, off, none⟩) s.flights.n s.flights.c)) (simp [go_sem, *]) (fail)
      obtain ⟨x, hx, hxp⟩ := ((HM.out.alloc (.cells #[.int .i64 f.x, .int .i64 f.y] 122)).drew).look keyed122 Try.underlying138 (keyOf_ch (f.x, f.y) (HW.out f (List.mem_of_getElem? HFK.out)).1 (HW.out f (List.mem_of_getElem? HFK.out)).2)
      simp only at hx
      have HXP := Lib.hid hxp
      clear hxp
      have hwx := HW.out f (List.mem_of_getElem? HFK.out)
      cases x
      · have hout : chOf f ∉ Sy.dd ((fls.map chOf).take k) := fun h => by
          have := HXP.out.2 ⟨chOf f, h, rfl⟩
          cases this
        have HO := Lib.hid hout
        clear hout
        obtain ⟨i0, hi, hz0, hz1, hz2⟩ := info_parts info122
        have hdl := Sy.dd_len ((fls.map chOf).take k)
        have hdl' : (Sy.dd ((fls.map chOf).take k)).length ≤ k := Nat.le_trans hdl (by simp; omega)
        clear hdl
        go_wp2_with (first
          | (at_mapUpdate; refine wpList_put_b rfl _ _ _ 138 rfl keyed122 Try.underlying138 rfl ((HM.out.alloc (.cells #[.int .i64 f.x, .int .i64 f.y] 122)).drew) (by unfold maxLen; omega) (.agg #[.int .i64 f.x, .int .i64 f.y]) (chKey (f.x, f.y)) true rfl rfl (keyOf_ch (f.x, f.y) hwx.1 hwx.2) ?_; intro w2 hM2 hg2; have HM2 := Lib.hid hM2; have HG2 := Lib.hid hg2; have HR2 := Lib.hid (((HR.out.alloc (.cells #[.int .i64 f.x, .int .i64 f.y] 122)).drew).kept hg2 (row_ne HR.out (by omega))); have hs2 := hg2.size; simp at hs2; have d0 : w2.cell? ⟨wr.heap.size, 0, none⟩ = some (.int .i64 f.x) := (World.cell?_of_block (hg2.block wr.heap.size (by simp) (by simp; omega))).trans (by simp [go_sem]); have d1 : w2.cell? ⟨wr.heap.size, 1, none⟩ = some (.int .i64 f.y) := (World.cell?_of_block (hg2.block wr.heap.size (by simp) (by simp; omega))).trans (by simp [go_sem]); clear hM2 hg2)
          | (at_builtin; refine wpList_append_own _ rfl _ _ 119 rfl (w.heap.size + 2) 122 i0 _ 2 16 Try.underlying119 hi hz0 hz1 hz2 rfl (by decide) _ _ _ rfl (HR2.out.alloc _) ⟨w2.heap.size, 0, none⟩ 1 1 [.int .i64 f.x, .int .i64 f.y] rfl rfl (cells_new _ _ _) (by simp [Value.oneCell']) (by unfold maxLen; omega) (by omega) (by simp; omega) ?_; intro v' w3 hown' hgrow _; have HOWN := Lib.hid hown'; have HGROW := Lib.hid hgrow; clear hown' hgrow))
        go_roundw
        case rel => exact ChRel.add hlt HFK.out HO.out _ _ HM2.out HG2.out HOWN.out HGROW.out (row_base HR.out) hB hsz
        case measure => simp [intOf]; omega
      · have hin : chOf f ∈ Sy.dd ((fls.map chOf).take k) := by
          obtain ⟨c, hc, he⟩ := HXP.out.1 rfl
          have hcm := List.mem_of_mem_take (Sy.dd_sub _ c hc)
          obtain ⟨g, hg, rfl⟩ := List.mem_map.1 hcm
          have hwg := HW.out g hg
          have : (f.x, f.y) = chOf g := chKey_inj hwx.1 hwx.2 hwg.1 hwg.2 he
          rw [show chOf f = chOf g from this]; exact hc
        have HI := Lib.hid hin
        clear hin
        go_wp2_with fail
        go_roundw
        case rel => exact ChRel.keep hlt HFK.out HI.out HM.out HR.out hB hsz _
        case measure => simp [intOf]; omega
    · have hkn : k = s.flights.n := by omega
      have htk : (fls.map chOf).take k = fls.map chOf := List.take_of_length_le (by simp; have := HL.out; omega)
      rw [htk] at hrow
      have HR := Lib.hid hrow
      clear hrow hmap hkn htk
      have hdl := Sy.dd_len (fls.map chOf)
      have hdl' : (Sy.dd (fls.map chOf)).length * 16 ≤ 140737488351232 := by simp at hdl; have := HL.out; omega
      clear hdl
      go_wp2_with (go_at_call 101; refine (sortCh_any (w.heap.size + 2) u4 (Sy.dd (fls.map chOf)) _ HR.out hsz hdl').mono ?_; rintro e w1 ⟨rfl, hr1, hb1⟩; have HR1 := Lib.hid hr1; have HB1 := Lib.hid hb1; clear hr1 hb1)
      go_ret
      obtain ⟨v, hv, hn⟩ := own_slice HR1.out
      refine ⟨v, congrArg Ending.returned hv, by rw [← hv, hn]; exact HR1.out, ?_⟩
      exact ((Below.refl w.heap.size w).alloc (Nat.le_refl _) _).trans ((hB.mono (by omega)).trans (HB1.out.mono (by omega)))
end Go.Proofs.Ytjdjfjokniingaa
