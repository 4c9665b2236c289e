/- The walk of MailOrder. -/
import Derived.Test.YtjdjfjokniingaaQa
import Derived.Test.YtjdjfjokniingaaPh
namespace Go.Proofs.Ytjdjfjokniingaa
open Go.RowKit

def LessIs (a b : ByteArray) (x : Bool) : Prop := ∀ W : World, Calls Try.prog 30 #[.string a, .string b] W fun e w' => e = .returned (.bool x) ∧ Below W.heap.size W w'
def ValidIs (a : ByteArray) (x : Bool) : Prop := ∀ W : World, Calls Try.prog 28 #[.string a] W fun e w' => e = .returned (.bool x) ∧ Below W.heap.size W w'
theorem lessIs {a b : ByteArray} {x : Bool} (ha : a.size ≤ maxLen) (hb : b.size ≤ maxLen) (h : Ml.lessP a b = x) : LessIs a b x := fun W => by
  have := less30 a b W ha hb
  rw [h] at this
  exact this
theorem validIs {a : ByteArray} {x : Bool} (ha : a.size ≤ maxLen) (h : (Ml.splitP a).isSome = x) : ValidIs a x := fun W => by
  have := valid28 a W ha
  rw [h] at this
  exact this
theorem ext_of {a b : ByteArray} (h1 : a.size < b.size) (h2 : ((b.extract 0 a.size).toList == a.toList) = true) (h3 : (b[a.size]'h1).toNat = 46) : ∃ r, b.data.toList = a.data.toList ++ 46 :: r := by
  have e2 : b.extract 0 a.size = a := bytes_inj (by simpa using h2)
  have e3 : b.data.toList.take a.size = a.data.toList := by
    have := congrArg (fun x => x.data.toList) e2
    simpa [ByteArray.data_extract] using this
  have hl : a.size < b.data.toList.length := by rw [Array.length_toList]; exact h1
  refine ⟨b.data.toList.drop (a.size + 1), ?_⟩
  rw [← e3]
  conv => lhs; rw [← List.take_append_drop a.size b.data.toList]
  rw [List.drop_eq_getElem_cons hl]
  have e4 : b.data.toList[a.size] = 46 := by
    have : (b[a.size]'h1) = 46 := UInt8.toNat_inj.1 h3
    rw [← this]
    simp [ByteArray.getElem_eq_getElem_data]
  rw [e4]

set_option linter.unusedSimpArgs false in
set_option linter.unusedVariables false in
set_option maxRecDepth 100000 in
set_option maxHeartbeats 16000000 in
theorem order_walk (a b c : ByteArray) (w : World) (ha : a.size ≤ maxLen) (hb : b.size ≤ maxLen) (hc : c.size ≤ maxLen) :
    Calls Try.prog 8 #[.string a, .string b, .string c] w fun e w' => e = .returned (.bool true) ∧ Below w.heap.size w w' := by
  have MA := Lib.hid ha
  have MB := Lib.hid hb
  have MC := Lib.hid hc
  clear ha hb hc
  go_enter Try.func8, Try.ntmps8
  go_wp2_with fail
  refine (small27 w).mono ?_
  rintro e w1 ⟨rfl, h1⟩
  have HB := Lib.hid h1
  clear h1
  cases ka : decide ((300 : Int) < (a.size : Int)) with
  | true =>
    go_wp2_with fail
    go_ret
    exact ⟨rfl, HB.out⟩
  | false =>
  cases kb : decide ((300 : Int) < (b.size : Int)) with
  | true =>
    go_wp2_with fail
    go_ret
    exact ⟨rfl, HB.out⟩
  | false =>
  cases kc : decide ((300 : Int) < (c.size : Int)) with
  | true =>
    go_wp2_with fail
    go_ret
    exact ⟨rfl, HB.out⟩
  | false =>
  cases va : (Ml.splitP a).isSome with
  | false =>
    have CV := Lib.hid (validIs MA.out va)
    go_wp2_with fail
    refine (CV.out _).mono ?_
    rintro e w2 ⟨rfl, h1⟩
    replace HB := Lib.hid (HB.out.trans (h1.mono HB.out.size))
    clear h1
    go_wp2_with fail
    go_ret
    exact ⟨rfl, HB.out⟩
  | true =>
  have CVa := Lib.hid (validIs MA.out va)
  have VA := Lib.hid va
  clear va
  cases vb : (Ml.splitP b).isSome with
  | false =>
    have CV := Lib.hid (validIs MB.out vb)
    go_wp2_with fail
    refine (CVa.out _).mono ?_
    rintro e w3 ⟨rfl, h1⟩
    replace HB := Lib.hid (HB.out.trans (h1.mono HB.out.size))
    clear h1
    go_wp2_with fail
    refine (CV.out _).mono ?_
    rintro e w4 ⟨rfl, h1⟩
    replace HB := Lib.hid (HB.out.trans (h1.mono HB.out.size))
    clear h1
    go_wp2_with fail
    go_ret
    exact ⟨rfl, HB.out⟩
  | true =>
  have CVb := Lib.hid (validIs MB.out vb)
  have VB := Lib.hid vb
  clear vb
  cases vc : (Ml.splitP c).isSome with
  | false =>
    have CV := Lib.hid (validIs MC.out vc)
    go_wp2_with fail
    refine (CVa.out _).mono ?_
    rintro e w5 ⟨rfl, h1⟩
    replace HB := Lib.hid (HB.out.trans (h1.mono HB.out.size))
    clear h1
    go_wp2_with fail
    refine (CVb.out _).mono ?_
    rintro e w6 ⟨rfl, h1⟩
    replace HB := Lib.hid (HB.out.trans (h1.mono HB.out.size))
    clear h1
    go_wp2_with fail
    refine (CV.out _).mono ?_
    rintro e w7 ⟨rfl, h1⟩
    replace HB := Lib.hid (HB.out.trans (h1.mono HB.out.size))
    clear h1
    go_wp2_with fail
    go_ret
    exact ⟨rfl, HB.out⟩
  | true =>
  have CVc := Lib.hid (validIs MC.out vc)
  have VC := Lib.hid vc
  clear vc
  go_wp2_with fail
  refine (CVa.out _).mono ?_
  rintro e w8 ⟨rfl, h1⟩
  replace HB := Lib.hid (HB.out.trans (h1.mono HB.out.size))
  clear h1
  go_wp2_with fail
  refine (CVb.out _).mono ?_
  rintro e w9 ⟨rfl, h1⟩
  replace HB := Lib.hid (HB.out.trans (h1.mono HB.out.size))
  clear h1
  go_wp2_with fail
  refine (CVc.out _).mono ?_
  rintro e w10 ⟨rfl, h1⟩
  replace HB := Lib.hid (HB.out.trans (h1.mono HB.out.size))
  clear h1
  clear CVa CVb CVc
  have LAA := Lib.hid (lessIs MA.out MA.out (Ml.less_irr VA.out))
  have AB : Hid ((a ≠ b) → (Ml.lessP a b == Ml.lessP b a) = false) := Lib.hid (fun h => Ml.less_tot VA.out VB.out h)
  have AC : Hid (Ml.lessP a b = true → Ml.lessP b c = true → Ml.lessP a c = true) := Lib.hid (Ml.less_trans VA.out VB.out VC.out)
  obtain ⟨x, hx⟩ : ∃ x, Ml.lessP a b = x := ⟨_, rfl⟩
  obtain ⟨y, hy⟩ : ∃ y, Ml.lessP b a = y := ⟨_, rfl⟩
  have LAB := Lib.hid (lessIs MA.out MB.out hx)
  have LBA := Lib.hid (lessIs MB.out MA.out hy)
  have X := Lib.hid hx
  rw [hx, hy] at AB
  rw [hx] at AC
  clear hx hy
  go_wp2_with fail
  refine (LAA.out _).mono ?_
  rintro e w11 ⟨rfl, h1⟩
  replace HB := Lib.hid (HB.out.trans (h1.mono HB.out.size))
  clear h1
  by_cases hab : a = b
  · subst hab
    cases x with
    | false =>
      go_wp2_with fail
      refine (LAB.out _).mono ?_
      rintro e w12 ⟨rfl, h1⟩
      replace HB := Lib.hid (HB.out.trans (h1.mono HB.out.size))
      clear h1
      have hs : ¬ (a.size : Int) < (a.size : Int) := by omega
      go_wp2_with fail
      go_ret
      exact ⟨rfl, HB.out⟩
    | true =>
      obtain ⟨z, hz⟩ : ∃ z, Ml.lessP a c = z := ⟨_, rfl⟩
      have LBC := Lib.hid (lessIs MB.out MC.out hz)
      cases z with
      | false =>
        go_wp2_with fail
        refine (LAB.out _).mono ?_
        rintro e w12 ⟨rfl, h1⟩
        replace HB := Lib.hid (HB.out.trans (h1.mono HB.out.size))
        clear h1
        go_wp2_with fail
        refine (LBC.out _).mono ?_
        rintro e w13 ⟨rfl, h1⟩
        replace HB := Lib.hid (HB.out.trans (h1.mono HB.out.size))
        clear h1
        have hs : ¬ (a.size : Int) < (a.size : Int) := by omega
        go_wp2_with fail
        go_ret
        exact ⟨rfl, HB.out⟩
      | true =>
        have LAC := Lib.hid (lessIs MA.out MC.out (AC.out rfl hz))
        go_wp2_with fail
        refine (LAB.out _).mono ?_
        rintro e w12 ⟨rfl, h1⟩
        replace HB := Lib.hid (HB.out.trans (h1.mono HB.out.size))
        clear h1
        go_wp2_with fail
        refine (LBC.out _).mono ?_
        rintro e w13 ⟨rfl, h1⟩
        replace HB := Lib.hid (HB.out.trans (h1.mono HB.out.size))
        clear h1
        go_wp2_with fail
        refine (LAC.out _).mono ?_
        rintro e w14 ⟨rfl, h1⟩
        replace HB := Lib.hid (HB.out.trans (h1.mono HB.out.size))
        clear h1
        have hs : ¬ (a.size : Int) < (a.size : Int) := by omega
        go_wp2_with fail
        go_ret
        exact ⟨rfl, HB.out⟩
  · have te := str_no hab
    have tn : (a.toList != b.toList) = true := by simp [bne, te]
    have hxy := AB.out hab
    go_wp2_with fail
    refine (LAB.out _).mono ?_
    rintro e w12 ⟨rfl, h1⟩
    replace HB := Lib.hid (HB.out.trans (h1.mono HB.out.size))
    clear h1
    go_wp2_with fail
    refine (LBA.out _).mono ?_
    rintro e w13 ⟨rfl, h1⟩
    replace HB := Lib.hid (HB.out.trans (h1.mono HB.out.size))
    clear h1
    cases x with
    | false =>
      go_wp2_with fail
      refine (LAB.out _).mono ?_
      rintro e w14 ⟨rfl, h1⟩
      replace HB := Lib.hid (HB.out.trans (h1.mono HB.out.size))
      clear h1
      by_cases hs : a.size < b.size
      · cases t1 : ((b.extract 0 a.size).toList == a.toList) with
        | false =>
          go_wp2_with fail
          go_ret
          exact ⟨rfl, HB.out⟩
        | true =>
          by_cases t2 : (b[a.size]'hs).toNat = 46
          · obtain ⟨r, hr⟩ := ext_of hs t1 t2
            have hz := Ml.less_ext VA.out VB.out r hr
            have LT := Lib.hid (lessIs MA.out MB.out hz)
            clear hr hz
            go_wp2_with fail
            refine (LT.out _).mono ?_
            rintro e w30 ⟨rfl, h1⟩
            replace HB := Lib.hid (HB.out.trans (h1.mono HB.out.size))
            clear h1
            go_wp2_with fail
            go_ret
            exact ⟨rfl, HB.out⟩
          · go_wp2_with fail
            go_ret
            exact ⟨rfl, HB.out⟩
      · go_wp2_with fail
        go_ret
        exact ⟨rfl, HB.out⟩
    | true =>
      obtain ⟨z, hz⟩ : ∃ z, Ml.lessP b c = z := ⟨_, rfl⟩
      have LBC := Lib.hid (lessIs MB.out MC.out hz)
      cases z with
      | false =>
        go_wp2_with fail
        refine (LAB.out _).mono ?_
        rintro e w14 ⟨rfl, h1⟩
        replace HB := Lib.hid (HB.out.trans (h1.mono HB.out.size))
        clear h1
        go_wp2_with fail
        refine (LBC.out _).mono ?_
        rintro e w15 ⟨rfl, h1⟩
        replace HB := Lib.hid (HB.out.trans (h1.mono HB.out.size))
        clear h1
        by_cases hs : a.size < b.size
        · cases t1 : ((b.extract 0 a.size).toList == a.toList) with
          | false =>
            go_wp2_with fail
            go_ret
            exact ⟨rfl, HB.out⟩
          | true =>
            by_cases t2 : (b[a.size]'hs).toNat = 46
            · obtain ⟨r, hr⟩ := ext_of hs t1 t2
              have hz := Ml.less_ext VA.out VB.out r hr
              have LT := Lib.hid (lessIs MA.out MB.out hz)
              clear hr hz
              go_wp2_with fail
              refine (LT.out _).mono ?_
              rintro e w30 ⟨rfl, h1⟩
              replace HB := Lib.hid (HB.out.trans (h1.mono HB.out.size))
              clear h1
              go_wp2_with fail
              go_ret
              exact ⟨rfl, HB.out⟩
            · go_wp2_with fail
              go_ret
              exact ⟨rfl, HB.out⟩
        · go_wp2_with fail
          go_ret
          exact ⟨rfl, HB.out⟩
      | true =>
        have LAC := Lib.hid (lessIs MA.out MC.out (AC.out rfl hz))
        go_wp2_with fail
        refine (LAB.out _).mono ?_
        rintro e w14 ⟨rfl, h1⟩
        replace HB := Lib.hid (HB.out.trans (h1.mono HB.out.size))
        clear h1
        go_wp2_with fail
        refine (LBC.out _).mono ?_
        rintro e w15 ⟨rfl, h1⟩
        replace HB := Lib.hid (HB.out.trans (h1.mono HB.out.size))
        clear h1
        go_wp2_with fail
        refine (LAC.out _).mono ?_
        rintro e w16 ⟨rfl, h1⟩
        replace HB := Lib.hid (HB.out.trans (h1.mono HB.out.size))
        clear h1
        by_cases hs : a.size < b.size
        · cases t1 : ((b.extract 0 a.size).toList == a.toList) with
          | false =>
            go_wp2_with fail
            go_ret
            exact ⟨rfl, HB.out⟩
          | true =>
            by_cases t2 : (b[a.size]'hs).toNat = 46
            · obtain ⟨r, hr⟩ := ext_of hs t1 t2
              have hz := Ml.less_ext VA.out VB.out r hr
              have LT := Lib.hid (lessIs MA.out MB.out hz)
              clear hr hz
              go_wp2_with fail
              refine (LT.out _).mono ?_
              rintro e w30 ⟨rfl, h1⟩
              replace HB := Lib.hid (HB.out.trans (h1.mono HB.out.size))
              clear h1
              go_wp2_with fail
              go_ret
              exact ⟨rfl, HB.out⟩
            · go_wp2_with fail
              go_ret
              exact ⟨rfl, HB.out⟩
        · go_wp2_with fail
          go_ret
          exact ⟨rfl, HB.out⟩

end Go.Proofs.Ytjdjfjokniingaa
