/- retroactref16.Same on states that are alike. -/
import Derived.Test.YtjdjfjokniingaaSx
namespace Go.Proofs.Ytjdjfjokniingaa
open Go.RowKit

/-- two flights (or alarms) that are alike -/
def FlySame (w : World) (a b : FlyC) : Prop := a.x = b.x ∧ a.y = b.y ∧ a.path = b.path ∧ LetSame w a.l b.l
theorem FlySame.below {w W : World} {a b : FlyC} (h : FlySame w a b) (hb : Below w.heap.size w W) : FlySame W a b := ⟨h.1, h.2.1, h.2.2.1, h.2.2.2.below hb⟩

theorem HeldAt.drewN {w W : World} {L : List (Nat × Nat × Value)} (h : HeldAt w L W) (n : Nat) : HeldAt w L (W.drewN n) := by
  have e : ∀ (L : List (Nat × Nat × Value)), (InHeap L W → InHeap L (W.drewN n)) ∧ (CellsAre L W → CellsAre L (W.drewN n)) := by
    intro L
    induction L with
    | nil => exact ⟨fun h => h, fun h => h⟩
    | cons p r ih => exact ⟨fun h => ⟨h.1, ih.1 h.2⟩, fun h => ⟨h.1, ih.2 h.2⟩⟩
  exact ⟨below_drewN h.1 n, (e L).1 h.2.1, (e L).2 h.2.2⟩

set_option maxRecDepth 100000 in
set_option maxHeartbeats 4000000 in
theorem same_raw (ua ua' aa aa' fa fa' la la' ra ra' : Option Addr) (un an fn ln rn uc uc' ac ac' fc fc' lc lc' rc rc' : Nat) (mo ck sq dd : Int) (ups : List Bool) (ls ls' : List LiveC) (fls fls' als als' : List FlyC) (rs rs' : List ReqC) (w : World)
    (hu1 : Rd w w.heap.size 1 ua un (ups.map .bool)) (hu2 : Rd w w.heap.size 1 ua' un (ups.map .bool)) (ha1 : Rd w w.heap.size 9 aa an (ls.flatMap liveL)) (ha2 : Rd w w.heap.size 9 aa' an (ls'.flatMap liveL))
    (hf1 : Rd w w.heap.size 7 fa fn (fls.flatMap flyL)) (hf2 : Rd w w.heap.size 7 fa' fn (fls'.flatMap flyL)) (hl1 : Rd w w.heap.size 7 la ln (als.flatMap flyL)) (hl2 : Rd w w.heap.size 7 la' ln (als'.flatMap flyL))
    (hr1 : Rd w w.heap.size 8 ra rn (rs.flatMap reqL)) (hr2 : Rd w w.heap.size 8 ra' rn (rs'.flatMap reqL))
    (bu : un ≤ 9223372036854775807) (ba : an ≤ 9223372036854775807) (bf : fn ≤ 9223372036854775807) (bl : ln ≤ 9223372036854775807) (br : rn ≤ 9223372036854775807)
    (sa : ∀ (k : Nat) (x y : LiveC), ls[k]? = some x → ls'[k]? = some y → LiveSame w x y) (sf : ∀ (k : Nat) (x y : FlyC), fls[k]? = some x → fls'[k]? = some y → FlySame w x y)
    (sl : ∀ (k : Nat) (x y : FlyC), als[k]? = some x → als'[k]? = some y → FlySame w x y) (sr : ∀ (k : Nat) (x y : ReqC), rs[k]? = some x → rs'[k]? = some y → ReqSame w x y) :
    Calls Try.prog 26 #[.agg #[.slice ua un uc, .int .i64 mo, .int .i64 ck, .int .i64 sq, .slice aa an ac, .slice fa fn fc, .slice la ln lc, .slice ra rn rc, .int .i64 dd], .agg #[.slice ua' un uc', .int .i64 mo, .int .i64 ck, .int .i64 sq, .slice aa' an ac', .slice fa' fn fc', .slice la' ln lc', .slice ra' rn rc', .int .i64 dd]] w fun e w' => e = .returned (.bool true) ∧ Below w.heap.size w w' := by
  have HU1 := Lib.hid hu1
  have HU2 := Lib.hid hu2
  have HA1 := Lib.hid ha1
  have HA2 := Lib.hid ha2
  have HF1 := Lib.hid hf1
  have HF2 := Lib.hid hf2
  have HL1 := Lib.hid hl1
  have HL2 := Lib.hid hl2
  have HSA := Lib.hid sa
  have HSF := Lib.hid sf
  have HSL := Lib.hid sl
  have HR : Hid (∀ W, Below w.heap.size w W → Calls Try.prog 69 #[.slice ra rn rc, .slice ra' rn rc'] W fun e w' => e = .returned (.bool true) ∧ Below W.heap.size W w') := Lib.hid fun W hW =>
    requests_true rs rs' rn ra ra' rc rc' W ((hr1.below hW (Nat.le_refl _)).more hW.size) ((hr2.below hW (Nat.le_refl _)).more hW.size) br (fun k x y hx hy => (sr k x y hx hy).below hW)
  have hul : ups.length = un := by have := hu1.1; simpa using this
  clear hu1 hu2 ha1 ha2 hf1 hf2 hl1 hl2 sa sf sl hr1 hr2 sr br
  go_enter Try.func26, Try.ntmps26
  go_wp2
  go_loopw [5] (fun i wr => ∃ k : Nat, k ≤ un ∧ i = .int .i64 k ∧ Hid (HeldAt w [(w.heap.size, 0, .slice ua un uc), (w.heap.size, 1, .int .i64 mo), (w.heap.size, 2, .int .i64 ck), (w.heap.size, 3, .int .i64 sq), (w.heap.size, 4, .slice aa an ac), (w.heap.size, 5, .slice fa fn fc), (w.heap.size, 6, .slice la ln lc), (w.heap.size, 7, .slice ra rn rc), (w.heap.size, 8, .int .i64 dd), (w.heap.size + 1, 0, .slice ua' un uc'), (w.heap.size + 1, 1, .int .i64 mo), (w.heap.size + 1, 2, .int .i64 ck), (w.heap.size + 1, 3, .int .i64 sq), (w.heap.size + 1, 4, .slice aa' an ac'), (w.heap.size + 1, 5, .slice fa' fn fc'), (w.heap.size + 1, 6, .slice la' ln lc'), (w.heap.size + 1, 7, .slice ra' rn rc'), (w.heap.size + 1, 8, .int .i64 dd)] wr)) (fun i _ => un - (intOf i).toNat)
  case atStart => exact ⟨0, Nat.zero_le _, rfl, ⟨(((Below.refl _ _).alloc (Nat.le_refl _) _).alloc (by simp) _), by simp [InHeap]; omega, by simp [CellsAre, go_sem]⟩⟩
  case round =>
    skip
    obtain ⟨k, hk, rfl, HELD⟩ := hrel
    have hsz := HELD.out.1.size
    have g0 : w.heap.size < wr.heap.size := HELD.out.2.1.1
    have g1 : w.heap.size + 1 < wr.heap.size := HELD.out.2.1.2.2.2.2.2.2.2.2.2.1
    have q0 : wr.cell? ⟨w.heap.size, 0, none⟩ = some (.slice ua un uc) := HELD.out.2.2.1
    have q1 : wr.cell? ⟨w.heap.size, 1, none⟩ = some (.int .i64 mo) := HELD.out.2.2.2.1
    have q2 : wr.cell? ⟨w.heap.size, 2, none⟩ = some (.int .i64 ck) := HELD.out.2.2.2.2.1
    have q3 : wr.cell? ⟨w.heap.size, 3, none⟩ = some (.int .i64 sq) := HELD.out.2.2.2.2.2.1
    have q4 : wr.cell? ⟨w.heap.size, 4, none⟩ = some (.slice aa an ac) := HELD.out.2.2.2.2.2.2.1
    have q5 : wr.cell? ⟨w.heap.size, 5, none⟩ = some (.slice fa fn fc) := HELD.out.2.2.2.2.2.2.2.1
    have q6 : wr.cell? ⟨w.heap.size, 6, none⟩ = some (.slice la ln lc) := HELD.out.2.2.2.2.2.2.2.2.1
    have q7 : wr.cell? ⟨w.heap.size, 7, none⟩ = some (.slice ra rn rc) := HELD.out.2.2.2.2.2.2.2.2.2.1
    have q8 : wr.cell? ⟨w.heap.size, 8, none⟩ = some (.int .i64 dd) := HELD.out.2.2.2.2.2.2.2.2.2.2.1
    have q9 : wr.cell? ⟨w.heap.size + 1, 0, none⟩ = some (.slice ua' un uc') := HELD.out.2.2.2.2.2.2.2.2.2.2.2.1
    have q10 : wr.cell? ⟨w.heap.size + 1, 1, none⟩ = some (.int .i64 mo) := HELD.out.2.2.2.2.2.2.2.2.2.2.2.2.1
    have q11 : wr.cell? ⟨w.heap.size + 1, 2, none⟩ = some (.int .i64 ck) := HELD.out.2.2.2.2.2.2.2.2.2.2.2.2.2.1
    have q12 : wr.cell? ⟨w.heap.size + 1, 3, none⟩ = some (.int .i64 sq) := HELD.out.2.2.2.2.2.2.2.2.2.2.2.2.2.2.1
    have q13 : wr.cell? ⟨w.heap.size + 1, 4, none⟩ = some (.slice aa' an ac') := HELD.out.2.2.2.2.2.2.2.2.2.2.2.2.2.2.2.1
    have q14 : wr.cell? ⟨w.heap.size + 1, 5, none⟩ = some (.slice fa' fn fc') := HELD.out.2.2.2.2.2.2.2.2.2.2.2.2.2.2.2.2.1
    have q15 : wr.cell? ⟨w.heap.size + 1, 6, none⟩ = some (.slice la' ln lc') := HELD.out.2.2.2.2.2.2.2.2.2.2.2.2.2.2.2.2.2.1
    have q16 : wr.cell? ⟨w.heap.size + 1, 7, none⟩ = some (.slice ra' rn rc') := HELD.out.2.2.2.2.2.2.2.2.2.2.2.2.2.2.2.2.2.2.1
    have q17 : wr.cell? ⟨w.heap.size + 1, 8, none⟩ = some (.int .i64 dd) := HELD.out.2.2.2.2.2.2.2.2.2.2.2.2.2.2.2.2.2.2.2.1
    by_cases hlt : k < un
    · obtain ⟨b1, o1, hA, hb1, hc1⟩ := HU1.out.2 (by omega)
      obtain ⟨b2, o2, hB, hb2, hc2⟩ := HU2.out.2 (by omega)
      obtain ⟨u, hu⟩ : ∃ u, ups[k]? = some u := ⟨ups[k]'(by omega), List.getElem?_eq_getElem (by omega)⟩
      have x0 : wr.cell? ⟨b1, o1 + k, none⟩ = some (.bool u) := (HELD.out.1.cell (p := ⟨b1, o1 + k, none⟩) hb1).trans (hc1 k _ (by simp [hu]))
      have y0 : wr.cell? ⟨b2, o2 + k, none⟩ = some (.bool u) := (HELD.out.1.cell (p := ⟨b2, o2 + k, none⟩) hb2).trans (hc2 k _ (by simp [hu]))
      have hixA : ∀ W : World, Sem.run Try.prog (Instr.indexAt 22 (.slice ua un uc) (.int .i64 (k : Int))) W = .ok (.pointer (some ⟨b1, o1 + k, none⟩)) W := by intro W; rw [hA]; go_simp
      have hixB : ∀ W : World, Sem.run Try.prog (Instr.indexAt 22 (.slice ua' un uc') (.int .i64 (k : Int))) W = .ok (.pointer (some ⟨b2, o2 + k, none⟩)) W := by intro W; rw [hB]; go_simp
      clear hA hB hc1 hc2 hu
      go_wp2_with fail
      go_quiet (fail)
      go_wp2_with fail
      go_roundw
      case rel => exact ⟨k + 1, by omega, by go_num, HELD.out.drewN nq⟩
      case measure => simp [intOf]; omega
    · go_wp2_with fail
      go_loopw [6] (fun i wr => ∃ k : Nat, k ≤ an ∧ i = .int .i64 k ∧ Hid (HeldAt w [(w.heap.size, 0, .slice ua un uc), (w.heap.size, 1, .int .i64 mo), (w.heap.size, 2, .int .i64 ck), (w.heap.size, 3, .int .i64 sq), (w.heap.size, 4, .slice aa an ac), (w.heap.size, 5, .slice fa fn fc), (w.heap.size, 6, .slice la ln lc), (w.heap.size, 7, .slice ra rn rc), (w.heap.size, 8, .int .i64 dd), (w.heap.size + 1, 0, .slice ua' un uc'), (w.heap.size + 1, 1, .int .i64 mo), (w.heap.size + 1, 2, .int .i64 ck), (w.heap.size + 1, 3, .int .i64 sq), (w.heap.size + 1, 4, .slice aa' an ac'), (w.heap.size + 1, 5, .slice fa' fn fc'), (w.heap.size + 1, 6, .slice la' ln lc'), (w.heap.size + 1, 7, .slice ra' rn rc'), (w.heap.size + 1, 8, .int .i64 dd)] wr)) (fun i _ => an - (intOf i).toNat)
      case atStart => exact ⟨0, Nat.zero_le _, rfl, HELD⟩
      case round =>
        clear HELD
        obtain ⟨k, hk, rfl, HELD⟩ := hrel
        have hsz := HELD.out.1.size
        have g0 : w.heap.size < wr.heap.size := HELD.out.2.1.1
        have g1 : w.heap.size + 1 < wr.heap.size := HELD.out.2.1.2.2.2.2.2.2.2.2.2.1
        have q0 : wr.cell? ⟨w.heap.size, 0, none⟩ = some (.slice ua un uc) := HELD.out.2.2.1
        have q1 : wr.cell? ⟨w.heap.size, 1, none⟩ = some (.int .i64 mo) := HELD.out.2.2.2.1
        have q2 : wr.cell? ⟨w.heap.size, 2, none⟩ = some (.int .i64 ck) := HELD.out.2.2.2.2.1
        have q3 : wr.cell? ⟨w.heap.size, 3, none⟩ = some (.int .i64 sq) := HELD.out.2.2.2.2.2.1
        have q4 : wr.cell? ⟨w.heap.size, 4, none⟩ = some (.slice aa an ac) := HELD.out.2.2.2.2.2.2.1
        have q5 : wr.cell? ⟨w.heap.size, 5, none⟩ = some (.slice fa fn fc) := HELD.out.2.2.2.2.2.2.2.1
        have q6 : wr.cell? ⟨w.heap.size, 6, none⟩ = some (.slice la ln lc) := HELD.out.2.2.2.2.2.2.2.2.1
        have q7 : wr.cell? ⟨w.heap.size, 7, none⟩ = some (.slice ra rn rc) := HELD.out.2.2.2.2.2.2.2.2.2.1
        have q8 : wr.cell? ⟨w.heap.size, 8, none⟩ = some (.int .i64 dd) := HELD.out.2.2.2.2.2.2.2.2.2.2.1
        have q9 : wr.cell? ⟨w.heap.size + 1, 0, none⟩ = some (.slice ua' un uc') := HELD.out.2.2.2.2.2.2.2.2.2.2.2.1
        have q10 : wr.cell? ⟨w.heap.size + 1, 1, none⟩ = some (.int .i64 mo) := HELD.out.2.2.2.2.2.2.2.2.2.2.2.2.1
        have q11 : wr.cell? ⟨w.heap.size + 1, 2, none⟩ = some (.int .i64 ck) := HELD.out.2.2.2.2.2.2.2.2.2.2.2.2.2.1
        have q12 : wr.cell? ⟨w.heap.size + 1, 3, none⟩ = some (.int .i64 sq) := HELD.out.2.2.2.2.2.2.2.2.2.2.2.2.2.2.1
        have q13 : wr.cell? ⟨w.heap.size + 1, 4, none⟩ = some (.slice aa' an ac') := HELD.out.2.2.2.2.2.2.2.2.2.2.2.2.2.2.2.1
        have q14 : wr.cell? ⟨w.heap.size + 1, 5, none⟩ = some (.slice fa' fn fc') := HELD.out.2.2.2.2.2.2.2.2.2.2.2.2.2.2.2.2.1
        have q15 : wr.cell? ⟨w.heap.size + 1, 6, none⟩ = some (.slice la' ln lc') := HELD.out.2.2.2.2.2.2.2.2.2.2.2.2.2.2.2.2.2.1
        have q16 : wr.cell? ⟨w.heap.size + 1, 7, none⟩ = some (.slice ra' rn rc') := HELD.out.2.2.2.2.2.2.2.2.2.2.2.2.2.2.2.2.2.2.1
        have q17 : wr.cell? ⟨w.heap.size + 1, 8, none⟩ = some (.int .i64 dd) := HELD.out.2.2.2.2.2.2.2.2.2.2.2.2.2.2.2.2.2.2.2.1
        by_cases hlt : k < an
        · obtain ⟨b1, o1, x, hA, hb1, ex, hc1⟩ := HA1.out.at_ (fun _ => rfl) (by omega) hlt
          obtain ⟨b2, o2, y, hB, hb2, ey, hc2⟩ := HA2.out.at_ (fun _ => rfl) (by omega) hlt
          have x0 : wr.cell? ⟨b1, o1 + k * 9, none⟩ = some (.string x.path) := (HELD.out.1.cell (p := ⟨b1, o1 + k * 9, none⟩) hb1).trans (hc1 0 _ rfl)
          have x1 : wr.cell? ⟨b1, o1 + k * 9 + 1, none⟩ = some (.string x.type) := (HELD.out.1.cell (p := ⟨b1, o1 + k * 9 + 1, none⟩) hb1).trans (hc1 1 _ rfl)
          have x2 : wr.cell? ⟨b1, o1 + k * 9 + 2, none⟩ = some (.int .i64 x.node) := (HELD.out.1.cell (p := ⟨b1, o1 + k * 9 + 2, none⟩) hb1).trans (hc1 2 _ rfl)
          have x3 : wr.cell? ⟨b1, o1 + k * 9 + 3, none⟩ = some (.slice x.init.a x.init.n x.init.c) := (HELD.out.1.cell (p := ⟨b1, o1 + k * 9 + 3, none⟩) hb1).trans (hc1 3 _ rfl)
          have x4 : wr.cell? ⟨b1, o1 + k * 9 + 4, none⟩ = some (.slice x.vars.a x.vars.n x.vars.c) := (HELD.out.1.cell (p := ⟨b1, o1 + k * 9 + 4, none⟩) hb1).trans (hc1 4 _ rfl)
          have x5 : wr.cell? ⟨b1, o1 + k * 9 + 5, none⟩ = some (.int .i64 x.kids) := (HELD.out.1.cell (p := ⟨b1, o1 + k * 9 + 5, none⟩) hb1).trans (hc1 5 _ rfl)
          have x6 : wr.cell? ⟨b1, o1 + k * 9 + 6, none⟩ = some (.int .i64 x.rest) := (HELD.out.1.cell (p := ⟨b1, o1 + k * 9 + 6, none⟩) hb1).trans (hc1 6 _ rfl)
          have x7 : wr.cell? ⟨b1, o1 + k * 9 + 7, none⟩ = some (.bool x.stopped) := (HELD.out.1.cell (p := ⟨b1, o1 + k * 9 + 7, none⟩) hb1).trans (hc1 7 _ rfl)
          have x8 : wr.cell? ⟨b1, o1 + k * 9 + 8, none⟩ = some (.slice x.mail.a x.mail.n x.mail.c) := (HELD.out.1.cell (p := ⟨b1, o1 + k * 9 + 8, none⟩) hb1).trans (hc1 8 _ rfl)
          have y0 : wr.cell? ⟨b2, o2 + k * 9, none⟩ = some (.string y.path) := (HELD.out.1.cell (p := ⟨b2, o2 + k * 9, none⟩) hb2).trans (hc2 0 _ rfl)
          have y1 : wr.cell? ⟨b2, o2 + k * 9 + 1, none⟩ = some (.string y.type) := (HELD.out.1.cell (p := ⟨b2, o2 + k * 9 + 1, none⟩) hb2).trans (hc2 1 _ rfl)
          have y2 : wr.cell? ⟨b2, o2 + k * 9 + 2, none⟩ = some (.int .i64 y.node) := (HELD.out.1.cell (p := ⟨b2, o2 + k * 9 + 2, none⟩) hb2).trans (hc2 2 _ rfl)
          have y3 : wr.cell? ⟨b2, o2 + k * 9 + 3, none⟩ = some (.slice y.init.a y.init.n y.init.c) := (HELD.out.1.cell (p := ⟨b2, o2 + k * 9 + 3, none⟩) hb2).trans (hc2 3 _ rfl)
          have y4 : wr.cell? ⟨b2, o2 + k * 9 + 4, none⟩ = some (.slice y.vars.a y.vars.n y.vars.c) := (HELD.out.1.cell (p := ⟨b2, o2 + k * 9 + 4, none⟩) hb2).trans (hc2 4 _ rfl)
          have y5 : wr.cell? ⟨b2, o2 + k * 9 + 5, none⟩ = some (.int .i64 y.kids) := (HELD.out.1.cell (p := ⟨b2, o2 + k * 9 + 5, none⟩) hb2).trans (hc2 5 _ rfl)
          have y6 : wr.cell? ⟨b2, o2 + k * 9 + 6, none⟩ = some (.int .i64 y.rest) := (HELD.out.1.cell (p := ⟨b2, o2 + k * 9 + 6, none⟩) hb2).trans (hc2 6 _ rfl)
          have y7 : wr.cell? ⟨b2, o2 + k * 9 + 7, none⟩ = some (.bool y.stopped) := (HELD.out.1.cell (p := ⟨b2, o2 + k * 9 + 7, none⟩) hb2).trans (hc2 7 _ rfl)
          have y8 : wr.cell? ⟨b2, o2 + k * 9 + 8, none⟩ = some (.slice y.mail.a y.mail.n y.mail.c) := (HELD.out.1.cell (p := ⟨b2, o2 + k * 9 + 8, none⟩) hb2).trans (hc2 8 _ rfl)
          have hxy := (HSA.out k x y ex ey).below HELD.out.1
          have hixA : ∀ W : World, Sem.run Try.prog (Instr.indexAt 23 (.slice aa an ac) (.int .i64 (k : Int))) W = .ok (.pointer (some ⟨b1, o1 + k * 9, none⟩)) W := by intro W; rw [hA]; go_simp
          have hixB : ∀ W : World, Sem.run Try.prog (Instr.indexAt 23 (.slice aa' an ac') (.int .i64 (k : Int))) W = .ok (.pointer (some ⟨b2, o2 + k * 9, none⟩)) W := by intro W; rw [hB]; go_simp
          clear hA hB ex ey hc1 hc2
          have n1 : b1 < wr.heap.size := by omega
          have n2 : b2 < wr.heap.size := by omega
          have n3 : ¬ b1 = wr.heap.size := by omega
          have n4 : ¬ b2 = wr.heap.size := by omega
          have n5 : ¬ w.heap.size = wr.heap.size := by omega
          have n6 : ¬ w.heap.size + 1 = wr.heap.size := by omega
          have HXY := Lib.hid hxy
          clear hxy q0 q1 q2 q3 q5 q6 q7 q8 q9 q10 q11 q12 q14 q15 q16 q17
          go_wp2_with fail
          go_region_held3 (fun w' => w'.cell? ⟨b1, o1 + k * 9, none⟩ = some (.string x.path) ∧ w'.cell? ⟨b1, o1 + k * 9 + 1, none⟩ = some (.string x.type) ∧ w'.cell? ⟨b1, o1 + k * 9 + 2, none⟩ = some (.int .i64 x.node) ∧ w'.cell? ⟨b1, o1 + k * 9 + 3, none⟩ = some (.slice x.init.a x.init.n x.init.c) ∧ w'.cell? ⟨b1, o1 + k * 9 + 4, none⟩ = some (.slice x.vars.a x.vars.n x.vars.c) ∧ w'.cell? ⟨b1, o1 + k * 9 + 5, none⟩ = some (.int .i64 x.kids) ∧ w'.cell? ⟨b1, o1 + k * 9 + 6, none⟩ = some (.int .i64 x.rest) ∧ w'.cell? ⟨b1, o1 + k * 9 + 7, none⟩ = some (.bool x.stopped) ∧ w'.cell? ⟨b1, o1 + k * 9 + 8, none⟩ = some (.slice x.mail.a x.mail.n x.mail.c) ∧ w'.cell? ⟨b2, o2 + k * 9, none⟩ = some (.string y.path) ∧ w'.cell? ⟨b2, o2 + k * 9 + 1, none⟩ = some (.string y.type) ∧ w'.cell? ⟨b2, o2 + k * 9 + 2, none⟩ = some (.int .i64 y.node) ∧ w'.cell? ⟨b2, o2 + k * 9 + 3, none⟩ = some (.slice y.init.a y.init.n y.init.c) ∧ w'.cell? ⟨b2, o2 + k * 9 + 4, none⟩ = some (.slice y.vars.a y.vars.n y.vars.c) ∧ w'.cell? ⟨b2, o2 + k * 9 + 5, none⟩ = some (.int .i64 y.kids) ∧ w'.cell? ⟨b2, o2 + k * 9 + 6, none⟩ = some (.int .i64 y.rest) ∧ w'.cell? ⟨b2, o2 + k * 9 + 7, none⟩ = some (.bool y.stopped) ∧ w'.cell? ⟨b2, o2 + k * 9 + 8, none⟩ = some (.slice y.mail.a y.mail.n y.mail.c) ∧ w'.cell? ⟨w.heap.size, 4, none⟩ = some (.slice aa an ac) ∧ w'.cell? ⟨w.heap.size + 1, 4, none⟩ = some (.slice aa' an ac')) (simp [go_sem, *])
            (first | (go_at_call 47; refine (sameActor_true x y _ (HXY.out.below (Below.refl _ _).drew)).mono ?_; rintro e w1 ⟨rfl, h1⟩; have hz1 := h1.size; simp at hz1; have HH1 := Lib.hid (HELD.out.drew.call h1); obtain ⟨k1, k2, k3⟩ := keepB h1 b1 (by simp; omega); obtain ⟨m1, m2, m3⟩ := keepB h1 b2 (by simp; omega); obtain ⟨o1, o2, o3⟩ := keepB h1 w.heap.size (by simp; omega); obtain ⟨p1, p2, p3⟩ := keepB h1 (w.heap.size + 1) (by simp; omega)))
          go_wp2_with fail
          go_roundw
          case rel => exact ⟨k + 1, by omega, by go_num, HH1.out⟩
          case measure => simp [intOf]; omega
        · go_wp2_with fail
          go_loopw [7] (fun i wr => ∃ k : Nat, k ≤ fn ∧ i = .int .i64 k ∧ Hid (HeldAt w [(w.heap.size, 0, .slice ua un uc), (w.heap.size, 1, .int .i64 mo), (w.heap.size, 2, .int .i64 ck), (w.heap.size, 3, .int .i64 sq), (w.heap.size, 4, .slice aa an ac), (w.heap.size, 5, .slice fa fn fc), (w.heap.size, 6, .slice la ln lc), (w.heap.size, 7, .slice ra rn rc), (w.heap.size, 8, .int .i64 dd), (w.heap.size + 1, 0, .slice ua' un uc'), (w.heap.size + 1, 1, .int .i64 mo), (w.heap.size + 1, 2, .int .i64 ck), (w.heap.size + 1, 3, .int .i64 sq), (w.heap.size + 1, 4, .slice aa' an ac'), (w.heap.size + 1, 5, .slice fa' fn fc'), (w.heap.size + 1, 6, .slice la' ln lc'), (w.heap.size + 1, 7, .slice ra' rn rc'), (w.heap.size + 1, 8, .int .i64 dd)] wr)) (fun i _ => fn - (intOf i).toNat)
          case atStart => exact ⟨0, Nat.zero_le _, rfl, HELD⟩
          case round =>
            clear HELD
            obtain ⟨k, hk, rfl, HELD⟩ := hrel
            have hsz := HELD.out.1.size
            have g0 : w.heap.size < wr.heap.size := HELD.out.2.1.1
            have g1 : w.heap.size + 1 < wr.heap.size := HELD.out.2.1.2.2.2.2.2.2.2.2.2.1
            have q0 : wr.cell? ⟨w.heap.size, 0, none⟩ = some (.slice ua un uc) := HELD.out.2.2.1
            have q1 : wr.cell? ⟨w.heap.size, 1, none⟩ = some (.int .i64 mo) := HELD.out.2.2.2.1
            have q2 : wr.cell? ⟨w.heap.size, 2, none⟩ = some (.int .i64 ck) := HELD.out.2.2.2.2.1
            have q3 : wr.cell? ⟨w.heap.size, 3, none⟩ = some (.int .i64 sq) := HELD.out.2.2.2.2.2.1
            have q4 : wr.cell? ⟨w.heap.size, 4, none⟩ = some (.slice aa an ac) := HELD.out.2.2.2.2.2.2.1
            have q5 : wr.cell? ⟨w.heap.size, 5, none⟩ = some (.slice fa fn fc) := HELD.out.2.2.2.2.2.2.2.1
            have q6 : wr.cell? ⟨w.heap.size, 6, none⟩ = some (.slice la ln lc) := HELD.out.2.2.2.2.2.2.2.2.1
            have q7 : wr.cell? ⟨w.heap.size, 7, none⟩ = some (.slice ra rn rc) := HELD.out.2.2.2.2.2.2.2.2.2.1
            have q8 : wr.cell? ⟨w.heap.size, 8, none⟩ = some (.int .i64 dd) := HELD.out.2.2.2.2.2.2.2.2.2.2.1
            have q9 : wr.cell? ⟨w.heap.size + 1, 0, none⟩ = some (.slice ua' un uc') := HELD.out.2.2.2.2.2.2.2.2.2.2.2.1
            have q10 : wr.cell? ⟨w.heap.size + 1, 1, none⟩ = some (.int .i64 mo) := HELD.out.2.2.2.2.2.2.2.2.2.2.2.2.1
            have q11 : wr.cell? ⟨w.heap.size + 1, 2, none⟩ = some (.int .i64 ck) := HELD.out.2.2.2.2.2.2.2.2.2.2.2.2.2.1
            have q12 : wr.cell? ⟨w.heap.size + 1, 3, none⟩ = some (.int .i64 sq) := HELD.out.2.2.2.2.2.2.2.2.2.2.2.2.2.2.1
            have q13 : wr.cell? ⟨w.heap.size + 1, 4, none⟩ = some (.slice aa' an ac') := HELD.out.2.2.2.2.2.2.2.2.2.2.2.2.2.2.2.1
            have q14 : wr.cell? ⟨w.heap.size + 1, 5, none⟩ = some (.slice fa' fn fc') := HELD.out.2.2.2.2.2.2.2.2.2.2.2.2.2.2.2.2.1
            have q15 : wr.cell? ⟨w.heap.size + 1, 6, none⟩ = some (.slice la' ln lc') := HELD.out.2.2.2.2.2.2.2.2.2.2.2.2.2.2.2.2.2.1
            have q16 : wr.cell? ⟨w.heap.size + 1, 7, none⟩ = some (.slice ra' rn rc') := HELD.out.2.2.2.2.2.2.2.2.2.2.2.2.2.2.2.2.2.2.1
            have q17 : wr.cell? ⟨w.heap.size + 1, 8, none⟩ = some (.int .i64 dd) := HELD.out.2.2.2.2.2.2.2.2.2.2.2.2.2.2.2.2.2.2.2.1
            by_cases hlt : k < fn
            · obtain ⟨b1, o1, x, hA, hb1, ex, hc1⟩ := HF1.out.at_ (fun _ => rfl) (by omega) hlt
              obtain ⟨b2, o2, y, hB, hb2, ey, hc2⟩ := HF2.out.at_ (fun _ => rfl) (by omega) hlt
              have x0 : wr.cell? ⟨b1, o1 + k * 7, none⟩ = some (.int .i64 x.x) := (HELD.out.1.cell (p := ⟨b1, o1 + k * 7, none⟩) hb1).trans (hc1 0 _ rfl)
              have x1 : wr.cell? ⟨b1, o1 + k * 7 + 1, none⟩ = some (.int .i64 x.y) := (HELD.out.1.cell (p := ⟨b1, o1 + k * 7 + 1, none⟩) hb1).trans (hc1 1 _ rfl)
              have x2 : wr.cell? ⟨b1, o1 + k * 7 + 2, none⟩ = some (.string x.path) := (HELD.out.1.cell (p := ⟨b1, o1 + k * 7 + 2, none⟩) hb1).trans (hc1 2 _ rfl)
              have x3 : wr.cell? ⟨b1, o1 + k * 7 + 3, none⟩ = some (.string x.l.src) := (HELD.out.1.cell (p := ⟨b1, o1 + k * 7 + 3, none⟩) hb1).trans (hc1 3 _ rfl)
              have x4 : wr.cell? ⟨b1, o1 + k * 7 + 4, none⟩ = some (.string x.l.msg) := (HELD.out.1.cell (p := ⟨b1, o1 + k * 7 + 4, none⟩) hb1).trans (hc1 4 _ rfl)
              have x5 : wr.cell? ⟨b1, o1 + k * 7 + 5, none⟩ = some (.slice x.l.args.a x.l.args.n x.l.args.c) := (HELD.out.1.cell (p := ⟨b1, o1 + k * 7 + 5, none⟩) hb1).trans (hc1 5 _ rfl)
              have x6 : wr.cell? ⟨b1, o1 + k * 7 + 6, none⟩ = some (.int .i64 x.l.sent) := (HELD.out.1.cell (p := ⟨b1, o1 + k * 7 + 6, none⟩) hb1).trans (hc1 6 _ rfl)
              have y0 : wr.cell? ⟨b2, o2 + k * 7, none⟩ = some (.int .i64 y.x) := (HELD.out.1.cell (p := ⟨b2, o2 + k * 7, none⟩) hb2).trans (hc2 0 _ rfl)
              have y1 : wr.cell? ⟨b2, o2 + k * 7 + 1, none⟩ = some (.int .i64 y.y) := (HELD.out.1.cell (p := ⟨b2, o2 + k * 7 + 1, none⟩) hb2).trans (hc2 1 _ rfl)
              have y2 : wr.cell? ⟨b2, o2 + k * 7 + 2, none⟩ = some (.string y.path) := (HELD.out.1.cell (p := ⟨b2, o2 + k * 7 + 2, none⟩) hb2).trans (hc2 2 _ rfl)
              have y3 : wr.cell? ⟨b2, o2 + k * 7 + 3, none⟩ = some (.string y.l.src) := (HELD.out.1.cell (p := ⟨b2, o2 + k * 7 + 3, none⟩) hb2).trans (hc2 3 _ rfl)
              have y4 : wr.cell? ⟨b2, o2 + k * 7 + 4, none⟩ = some (.string y.l.msg) := (HELD.out.1.cell (p := ⟨b2, o2 + k * 7 + 4, none⟩) hb2).trans (hc2 4 _ rfl)
              have y5 : wr.cell? ⟨b2, o2 + k * 7 + 5, none⟩ = some (.slice y.l.args.a y.l.args.n y.l.args.c) := (HELD.out.1.cell (p := ⟨b2, o2 + k * 7 + 5, none⟩) hb2).trans (hc2 5 _ rfl)
              have y6 : wr.cell? ⟨b2, o2 + k * 7 + 6, none⟩ = some (.int .i64 y.l.sent) := (HELD.out.1.cell (p := ⟨b2, o2 + k * 7 + 6, none⟩) hb2).trans (hc2 6 _ rfl)
              have hxy := (HSF.out k x y ex ey).below HELD.out.1
              have hixA : ∀ W : World, Sem.run Try.prog (Instr.indexAt 24 (.slice fa fn fc) (.int .i64 (k : Int))) W = .ok (.pointer (some ⟨b1, o1 + k * 7, none⟩)) W := by intro W; rw [hA]; go_simp
              have hixB : ∀ W : World, Sem.run Try.prog (Instr.indexAt 24 (.slice fa' fn fc') (.int .i64 (k : Int))) W = .ok (.pointer (some ⟨b2, o2 + k * 7, none⟩)) W := by intro W; rw [hB]; go_simp
              clear hA hB ex ey hc1 hc2
              have n1 : b1 < wr.heap.size := by omega
              have n2 : b2 < wr.heap.size := by omega
              have n3 : ¬ b1 = wr.heap.size := by omega
              have n4 : ¬ b2 = wr.heap.size := by omega
              have n5 : ¬ w.heap.size = wr.heap.size := by omega
              have n6 : ¬ w.heap.size + 1 = wr.heap.size := by omega
              obtain ⟨e1, e2, e3, hxy⟩ := hxy
              obtain ⟨x1, x2, x3, l⟩ := x
              obtain ⟨y1', y2', y3', m⟩ := y
              simp only at e1 e2 e3 hxy x0 x1 x2 x3 x4 x5 x6 y0 y1 y2 y3 y4 y5 y6
              subst e1 e2 e3
              have HXY := Lib.hid hxy
              clear hxy q0 q1 q2 q3 q4 q6 q7 q8 q9 q10 q11 q12 q13 q15 q16 q17
              go_wp2_with fail
              refine (sameLetter_true l m _ (HXY.out.below (((Below.refl _ _).alloc (Nat.le_refl _) _).alloc (by simp) _))).mono ?_
              rintro e v1 ⟨rfl, h1⟩
              have HH1 := Lib.hid ((HELD.out.call (w1 := _) (((Below.refl _ _).alloc (Nat.le_refl _) _).alloc (by simp) _)).call h1)
              clear h1
              go_wp2_with fail
              go_roundw
              case rel => exact ⟨k + 1, by omega, by go_num, HH1⟩
              case measure => simp [intOf]; omega
            · go_wp2_with fail
              go_loopw [10] (fun i wr => ∃ k : Nat, k ≤ ln ∧ i = .int .i64 k ∧ Hid (HeldAt w [(w.heap.size, 0, .slice ua un uc), (w.heap.size, 1, .int .i64 mo), (w.heap.size, 2, .int .i64 ck), (w.heap.size, 3, .int .i64 sq), (w.heap.size, 4, .slice aa an ac), (w.heap.size, 5, .slice fa fn fc), (w.heap.size, 6, .slice la ln lc), (w.heap.size, 7, .slice ra rn rc), (w.heap.size, 8, .int .i64 dd), (w.heap.size + 1, 0, .slice ua' un uc'), (w.heap.size + 1, 1, .int .i64 mo), (w.heap.size + 1, 2, .int .i64 ck), (w.heap.size + 1, 3, .int .i64 sq), (w.heap.size + 1, 4, .slice aa' an ac'), (w.heap.size + 1, 5, .slice fa' fn fc'), (w.heap.size + 1, 6, .slice la' ln lc'), (w.heap.size + 1, 7, .slice ra' rn rc'), (w.heap.size + 1, 8, .int .i64 dd)] wr)) (fun i _ => ln - (intOf i).toNat)
              case atStart => exact ⟨0, Nat.zero_le _, rfl, HELD⟩
              case round =>
                clear HELD
                obtain ⟨k, hk, rfl, HELD⟩ := hrel
                have hsz := HELD.out.1.size
                have g0 : w.heap.size < wr.heap.size := HELD.out.2.1.1
                have g1 : w.heap.size + 1 < wr.heap.size := HELD.out.2.1.2.2.2.2.2.2.2.2.2.1
                have q0 : wr.cell? ⟨w.heap.size, 0, none⟩ = some (.slice ua un uc) := HELD.out.2.2.1
                have q1 : wr.cell? ⟨w.heap.size, 1, none⟩ = some (.int .i64 mo) := HELD.out.2.2.2.1
                have q2 : wr.cell? ⟨w.heap.size, 2, none⟩ = some (.int .i64 ck) := HELD.out.2.2.2.2.1
                have q3 : wr.cell? ⟨w.heap.size, 3, none⟩ = some (.int .i64 sq) := HELD.out.2.2.2.2.2.1
                have q4 : wr.cell? ⟨w.heap.size, 4, none⟩ = some (.slice aa an ac) := HELD.out.2.2.2.2.2.2.1
                have q5 : wr.cell? ⟨w.heap.size, 5, none⟩ = some (.slice fa fn fc) := HELD.out.2.2.2.2.2.2.2.1
                have q6 : wr.cell? ⟨w.heap.size, 6, none⟩ = some (.slice la ln lc) := HELD.out.2.2.2.2.2.2.2.2.1
                have q7 : wr.cell? ⟨w.heap.size, 7, none⟩ = some (.slice ra rn rc) := HELD.out.2.2.2.2.2.2.2.2.2.1
                have q8 : wr.cell? ⟨w.heap.size, 8, none⟩ = some (.int .i64 dd) := HELD.out.2.2.2.2.2.2.2.2.2.2.1
                have q9 : wr.cell? ⟨w.heap.size + 1, 0, none⟩ = some (.slice ua' un uc') := HELD.out.2.2.2.2.2.2.2.2.2.2.2.1
                have q10 : wr.cell? ⟨w.heap.size + 1, 1, none⟩ = some (.int .i64 mo) := HELD.out.2.2.2.2.2.2.2.2.2.2.2.2.1
                have q11 : wr.cell? ⟨w.heap.size + 1, 2, none⟩ = some (.int .i64 ck) := HELD.out.2.2.2.2.2.2.2.2.2.2.2.2.2.1
                have q12 : wr.cell? ⟨w.heap.size + 1, 3, none⟩ = some (.int .i64 sq) := HELD.out.2.2.2.2.2.2.2.2.2.2.2.2.2.2.1
                have q13 : wr.cell? ⟨w.heap.size + 1, 4, none⟩ = some (.slice aa' an ac') := HELD.out.2.2.2.2.2.2.2.2.2.2.2.2.2.2.2.1
                have q14 : wr.cell? ⟨w.heap.size + 1, 5, none⟩ = some (.slice fa' fn fc') := HELD.out.2.2.2.2.2.2.2.2.2.2.2.2.2.2.2.2.1
                have q15 : wr.cell? ⟨w.heap.size + 1, 6, none⟩ = some (.slice la' ln lc') := HELD.out.2.2.2.2.2.2.2.2.2.2.2.2.2.2.2.2.2.1
                have q16 : wr.cell? ⟨w.heap.size + 1, 7, none⟩ = some (.slice ra' rn rc') := HELD.out.2.2.2.2.2.2.2.2.2.2.2.2.2.2.2.2.2.2.1
                have q17 : wr.cell? ⟨w.heap.size + 1, 8, none⟩ = some (.int .i64 dd) := HELD.out.2.2.2.2.2.2.2.2.2.2.2.2.2.2.2.2.2.2.2.1
                by_cases hlt : k < ln
                · obtain ⟨b1, o1, x, hA, hb1, ex, hc1⟩ := HL1.out.at_ (fun _ => rfl) (by omega) hlt
                  obtain ⟨b2, o2, y, hB, hb2, ey, hc2⟩ := HL2.out.at_ (fun _ => rfl) (by omega) hlt
                  have x0 : wr.cell? ⟨b1, o1 + k * 7, none⟩ = some (.int .i64 x.x) := (HELD.out.1.cell (p := ⟨b1, o1 + k * 7, none⟩) hb1).trans (hc1 0 _ rfl)
                  have x1 : wr.cell? ⟨b1, o1 + k * 7 + 1, none⟩ = some (.int .i64 x.y) := (HELD.out.1.cell (p := ⟨b1, o1 + k * 7 + 1, none⟩) hb1).trans (hc1 1 _ rfl)
                  have x2 : wr.cell? ⟨b1, o1 + k * 7 + 2, none⟩ = some (.string x.path) := (HELD.out.1.cell (p := ⟨b1, o1 + k * 7 + 2, none⟩) hb1).trans (hc1 2 _ rfl)
                  have x3 : wr.cell? ⟨b1, o1 + k * 7 + 3, none⟩ = some (.string x.l.src) := (HELD.out.1.cell (p := ⟨b1, o1 + k * 7 + 3, none⟩) hb1).trans (hc1 3 _ rfl)
                  have x4 : wr.cell? ⟨b1, o1 + k * 7 + 4, none⟩ = some (.string x.l.msg) := (HELD.out.1.cell (p := ⟨b1, o1 + k * 7 + 4, none⟩) hb1).trans (hc1 4 _ rfl)
                  have x5 : wr.cell? ⟨b1, o1 + k * 7 + 5, none⟩ = some (.slice x.l.args.a x.l.args.n x.l.args.c) := (HELD.out.1.cell (p := ⟨b1, o1 + k * 7 + 5, none⟩) hb1).trans (hc1 5 _ rfl)
                  have x6 : wr.cell? ⟨b1, o1 + k * 7 + 6, none⟩ = some (.int .i64 x.l.sent) := (HELD.out.1.cell (p := ⟨b1, o1 + k * 7 + 6, none⟩) hb1).trans (hc1 6 _ rfl)
                  have y0 : wr.cell? ⟨b2, o2 + k * 7, none⟩ = some (.int .i64 y.x) := (HELD.out.1.cell (p := ⟨b2, o2 + k * 7, none⟩) hb2).trans (hc2 0 _ rfl)
                  have y1 : wr.cell? ⟨b2, o2 + k * 7 + 1, none⟩ = some (.int .i64 y.y) := (HELD.out.1.cell (p := ⟨b2, o2 + k * 7 + 1, none⟩) hb2).trans (hc2 1 _ rfl)
                  have y2 : wr.cell? ⟨b2, o2 + k * 7 + 2, none⟩ = some (.string y.path) := (HELD.out.1.cell (p := ⟨b2, o2 + k * 7 + 2, none⟩) hb2).trans (hc2 2 _ rfl)
                  have y3 : wr.cell? ⟨b2, o2 + k * 7 + 3, none⟩ = some (.string y.l.src) := (HELD.out.1.cell (p := ⟨b2, o2 + k * 7 + 3, none⟩) hb2).trans (hc2 3 _ rfl)
                  have y4 : wr.cell? ⟨b2, o2 + k * 7 + 4, none⟩ = some (.string y.l.msg) := (HELD.out.1.cell (p := ⟨b2, o2 + k * 7 + 4, none⟩) hb2).trans (hc2 4 _ rfl)
                  have y5 : wr.cell? ⟨b2, o2 + k * 7 + 5, none⟩ = some (.slice y.l.args.a y.l.args.n y.l.args.c) := (HELD.out.1.cell (p := ⟨b2, o2 + k * 7 + 5, none⟩) hb2).trans (hc2 5 _ rfl)
                  have y6 : wr.cell? ⟨b2, o2 + k * 7 + 6, none⟩ = some (.int .i64 y.l.sent) := (HELD.out.1.cell (p := ⟨b2, o2 + k * 7 + 6, none⟩) hb2).trans (hc2 6 _ rfl)
                  have hxy := (HSL.out k x y ex ey).below HELD.out.1
                  have hixA : ∀ W : World, Sem.run Try.prog (Instr.indexAt 25 (.slice la ln lc) (.int .i64 (k : Int))) W = .ok (.pointer (some ⟨b1, o1 + k * 7, none⟩)) W := by intro W; rw [hA]; go_simp
                  have hixB : ∀ W : World, Sem.run Try.prog (Instr.indexAt 25 (.slice la' ln lc') (.int .i64 (k : Int))) W = .ok (.pointer (some ⟨b2, o2 + k * 7, none⟩)) W := by intro W; rw [hB]; go_simp
                  clear hA hB ex ey hc1 hc2
                  have n1 : b1 < wr.heap.size := by omega
                  have n2 : b2 < wr.heap.size := by omega
                  have n3 : ¬ b1 = wr.heap.size := by omega
                  have n4 : ¬ b2 = wr.heap.size := by omega
                  have n5 : ¬ w.heap.size = wr.heap.size := by omega
                  have n6 : ¬ w.heap.size + 1 = wr.heap.size := by omega
                  obtain ⟨e1, e2, e3, hxy⟩ := hxy
                  obtain ⟨x1, x2, x3, l⟩ := x
                  obtain ⟨y1', y2', y3', m⟩ := y
                  simp only at e1 e2 e3 hxy x0 x1 x2 x3 x4 x5 x6 y0 y1 y2 y3 y4 y5 y6
                  subst e1 e2 e3
                  have HXY := Lib.hid hxy
                  clear hxy q0 q1 q2 q3 q4 q5 q7 q8 q9 q10 q11 q12 q13 q14 q16 q17
                  go_wp2_with fail
                  refine (sameLetter_true l m _ (HXY.out.below (((Below.refl _ _).alloc (Nat.le_refl _) _).alloc (by simp) _))).mono ?_
                  rintro e v1 ⟨rfl, h1⟩
                  have HH1 := Lib.hid ((HELD.out.call (w1 := _) (((Below.refl _ _).alloc (Nat.le_refl _) _).alloc (by simp) _)).call h1)
                  clear h1
                  go_wp2_with fail
                  go_roundw
                  case rel => exact ⟨k + 1, by omega, by go_num, HH1⟩
                  case measure => simp [intOf]; omega
                · go_wp2_with fail
                  refine (HR.out _ HELD.out.1).mono ?_
                  rintro e v1 ⟨rfl, h1⟩
                  have HH1 := Lib.hid (Below.call HELD.out.1 h1)
                  clear h1
                  go_wp2_with fail
                  go_ret
                  exact ⟨rfl, HH1.out⟩
end Go.Proofs.Ytjdjfjokniingaa
