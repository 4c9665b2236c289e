/- Enabled actions of a plain state; retroactlaw20.has; what posting a letter and the crash of a node do to them. -/
import Derived.Test.YtjdjfjokniingaaMe
import Derived.Test.YtjdjfjokniingaaSp
namespace Go.Proofs.Ytjdjfjokniingaa
open Go.RowKit

abbrev actnV (a : ActnC) : Value := .agg #[.string a.path, .int .i64 a.x, .int .i64 a.y]
theorem actn_no {a b : ActnC} (h : a ≠ b) (W : World) : Sem.run Try.prog (binOp .eql 81 (.agg #[.string a.path, .int .i64 a.x, .int .i64 a.y]) (.agg #[.string b.path, .int .i64 b.x, .int .i64 b.y])) W = .ok (.bool false) W := by
  go_simp
  intro h1 h2 h3
  obtain ⟨p, x, y⟩ := a
  obtain ⟨p', x', y'⟩ := b
  simp only at h1 h2 h3
  exact h (by rw [bytes_inj h1, h2, h3])
set_option maxRecDepth 100000 in
set_option maxHeartbeats 800000 in
theorem has_any (L : List ActnC) (A : Option Addr) (c : Nat) (a : ActnC) (w : World) (h : Rd w w.heap.size 3 A L.length (L.flatMap actnL)) (hl : L.length ≤ 281474976710656) :
    Calls Try.prog 57 #[.slice A L.length c, actnV a] w fun e w' => e = .returned (.bool (decide (a ∈ L))) ∧ Below w.heap.size w w' := by
  have H := Lib.hid h
  clear h
  go_enter Try.func57, Try.ntmps57
  go_wp2
  go_loopw [5] (fun i wr => ∃ k : Nat, k ≤ L.length ∧ i = .int .i64 k ∧ Hid (∀ j x, j < k → L[j]? = some x → x ≠ a) ∧ ∃ m, wr = (w.alloc (.cells #[.string a.path, .int .i64 a.x, .int .i64 a.y] 81)).drewN m) (fun i _ => L.length - (intOf i).toNat)
  case atStart => exact ⟨0, Nat.zero_le _, rfl, fun j x hj => absurd hj (by omega), 0, rfl⟩
  case round =>
    obtain ⟨k, hk, rfl, HJ, m, rfl⟩ := hrel
    by_cases hlt : k < L.length
    · obtain ⟨b, off, x, hA, hb, hxk, hc⟩ := H.out.at_ (fun _ => rfl) (by omega) hlt
      have c0 : w.cell? ⟨b, off + k * 3, none⟩ = some (.string x.path) := hc 0 _ rfl
      have c1 : w.cell? ⟨b, off + k * 3 + 1, none⟩ = some (.int .i64 x.x) := hc 1 _ rfl
      have c2 : w.cell? ⟨b, off + k * 3 + 2, none⟩ = some (.int .i64 x.y) := hc 2 _ rfl
      have hix : ∀ W : World, Sem.run Try.prog (Instr.indexAt 85 (.slice A L.length c) (.int .i64 (k : Int))) W = .ok (.pointer (some ⟨b, off + k * 3, none⟩)) W := by intro W; rw [hA]; go_simp
      have HX := Lib.hid hxk
      clear hA hxk hc
      have n1 : ¬ b = w.heap.size := by omega
      by_cases hp : x = a
      · subst hp
        have HF : Hid (decide (x ∈ L) = true) := Lib.hid (by simpa using List.mem_of_getElem? HX.out)
        go_wp2_with fail
        go_quiet (fail)
        go_wp2_with fail
        go_ret
        exact ⟨ret_bool HF.out.symm, below_drewN (below_drewN ((Below.refl _ _).alloc (Nat.le_refl _) _) _) _⟩
      · have heq := fun (W : World) => actn_no hp W
        have HN := Lib.hid (show ∀ j y, j < k + 1 → L[j]? = some y → y ≠ a from fun j y hj hy => by
          by_cases h : j < k
          · exact HJ.out j y h hy
          · have : j = k := by omega
            subst this
            rw [HX.out] at hy
            injection hy with hy
            rw [← hy]; exact hp)
        clear hp
        go_wp2_with fail
        go_quiet (fail)
        go_wp2_with fail
        go_roundw
        case rel => exact ⟨k + 1, by omega, by go_num, HN, _, rfl⟩
        case measure => simp [intOf]; omega
    · have HF : Hid (decide (a ∈ L) = false) := Lib.hid (by
        simp only [decide_eq_false_iff_not]
        intro hm
        obtain ⟨j, hj⟩ := List.getElem?_of_mem hm
        exact HJ.out j a (by have := (List.getElem?_eq_some_iff.1 hj).1; omega) hj rfl)
      go_wp2_with fail
      go_ret
      exact ⟨ret_bool HF.out.symm, below_drewN ((Below.refl _ _).alloc (Nat.le_refl _) _) _⟩

namespace Ml
def readyP (ups : List Bool) (a : PL) : Bool := !a.stopped && decide (0 < a.mail.length) && up ups a.node
/-- the enabled actions of a plain state -/
def en (σ : PS) : List ActnC := (σ.acts.filter (readyP σ.ups)).map (fun a => ⟨a.path, 0, 0⟩) ++ (Sy.srt (Sy.dd (σ.fls.map chOf))).map Sy.chanOf
theorem ready_eq (ups : List Bool) (q : LiveC × List LetC) (h : q.1.mail.n = q.2.length) : Sy.ready ups q.1 = readyP ups (plOf q) := by
  simp only [Sy.ready, readyP, plOf, up, h, Bool.and_assoc]
  rfl
theorem en_eq {w : World} (qs : List (LiveC × List LetC)) (σ : PS) (hq2 : ∀ q ∈ qs, MailAt w q.1 q.2) (hq3 : qs.map plOf = σ.acts) : Sy.enabled σ.ups (qs.map (·.1)) (σ.fls.map chOf) = en σ := by
  unfold Sy.enabled en Sy.readies
  rw [← hq3]
  congr 1
  rw [List.filter_map, List.filter_map, List.map_map, List.map_map]
  have e : qs.filter (Sy.ready σ.ups ∘ (·.1)) = qs.filter (readyP σ.ups ∘ plOf) := List.filter_congr fun q hq => ready_eq σ.ups q ((hq2 q hq).rd.len (fun _ => rfl) (by omega)).symm
  rw [e]
  rfl
theorem mem_chan {σ : PS} {a : ActnC} : a ∈ (Sy.srt (Sy.dd (σ.fls.map chOf))).map Sy.chanOf ↔ ∃ f ∈ σ.fls, a = Sy.chanOf (f.x, f.y) := by
  have h1 : ∀ c, c ∈ Sy.srt (Sy.dd (σ.fls.map chOf)) ↔ c ∈ σ.fls.map chOf := fun c => by
    rw [show Sy.srt (Sy.dd (σ.fls.map chOf)) = _ from rfl]
    exact ((List.mergeSort_perm (Sy.dd (σ.fls.map chOf)) _).mem_iff).trans ((Sy.dd_spec (σ.fls.map chOf)).2 c)
  constructor
  · intro h
    obtain ⟨c, hc, rfl⟩ := List.mem_map.1 h
    obtain ⟨f, hf, rfl⟩ := List.mem_map.1 ((h1 c).1 hc)
    exact ⟨f, hf, rfl⟩
  · rintro ⟨f, hf, rfl⟩
    exact List.mem_map_of_mem ((h1 _).2 (List.mem_map_of_mem hf))
theorem mem_en {σ : PS} {a : ActnC} : a ∈ en σ ↔ (∃ p ∈ σ.acts, readyP σ.ups p = true ∧ a = ⟨p.path, 0, 0⟩) ∨ ∃ f ∈ σ.fls, a = Sy.chanOf (f.x, f.y) := by
  unfold en
  rw [List.mem_append, mem_chan]
  refine or_congr ?_ Iff.rfl
  constructor
  · intro h
    obtain ⟨p, hp, rfl⟩ := List.mem_map.1 h
    obtain ⟨h1, h2⟩ := List.mem_filter.1 hp
    exact ⟨p, h1, h2, rfl⟩
  · rintro ⟨p, h1, h2, rfl⟩
    exact List.mem_map_of_mem (List.mem_filter.2 ⟨h1, h2⟩)
theorem mem_modify {l : List PL} {i : Nat} {g : PL → PL} {p : PL} (h : p ∈ l) : p ∈ l.modify i g ∨ g p ∈ l.modify i g := by
  obtain ⟨j, hj⟩ := List.getElem?_of_mem h
  by_cases e : i = j
  · subst e
    refine .inr (List.mem_of_getElem? (i := i) ?_)
    rw [List.getElem?_modify]; simp [hj]
  · refine .inl (List.mem_of_getElem? (i := j) ?_)
    rw [List.getElem?_modify]; simp [hj, e]
theorem of_mem_modify {l : List PL} {i : Nat} {g : PL → PL} {p : PL} (h : p ∈ l.modify i g) : p ∈ l ∨ ∃ q, l[i]? = some q ∧ p = g q := by
  obtain ⟨j, hj⟩ := List.getElem?_of_mem h
  rw [List.getElem?_modify] at hj
  by_cases e : i = j
  · subst e
    cases hq : l[i]? with
    | none => rw [hq] at hj; simp at hj
    | some q => rw [hq] at hj; simp at hj; exact .inr ⟨q, rfl, hj.symm⟩
  · simp only [e, if_false] at hj
    exact .inl (List.mem_of_getElem? (by simpa using hj))
theorem ready_more {ups : List Bool} {p : PL} {l : LetC} (h : readyP ups p = true) : readyP ups { p with mail := p.mail ++ [l] } = true := by
  simp only [readyP, Bool.and_eq_true, decide_eq_true_eq] at h ⊢
  exact ⟨⟨h.1.1, by simp⟩, h.2⟩
theorem post_keeps (σ : PS) (p : ByteArray) (l : LetC) : ∀ a ∈ en σ, a ∈ en (post σ p l).1 := by
  intro a ha
  unfold post
  split
  · split
    · rw [mem_en] at ha ⊢
      rcases ha with ⟨q, hq, hr, rfl⟩ | h
      · rcases mem_modify (g := fun a => { a with mail := a.mail ++ [l] }) (i := _) hq with h | h
        · exact .inl ⟨q, h, hr, rfl⟩
        · exact .inl ⟨_, h, ready_more hr, rfl⟩
      · exact .inr h
    · exact ha
  · exact ha
theorem post_adds (σ : PS) (p : ByteArray) (l : LetC) : ∀ a ∈ en (post σ p l).1, a ∉ en σ → (post σ p l).2 = true ∧ a.path = p := by
  intro a ha hn
  unfold post at ha ⊢
  cases hr : reachP σ p with
  | none => rw [hr] at ha; exact absurd ha hn
  | some i =>
    rw [hr] at ha
    simp only at ha ⊢
    split at ha
    · rename_i hc
      rw [if_pos hc]
      refine ⟨rfl, ?_⟩
      rw [mem_en] at ha
      rcases ha with ⟨q, hq, hrd, rfl⟩ | h
      · rcases of_mem_modify hq with h | ⟨q', hq', rfl⟩
        · exact absurd ((mem_en (σ := σ)).2 (.inl ⟨q, h, hrd, rfl⟩)) hn
        · have hf : find (σ.acts.map (·.path)) p = some i := by
            unfold reachP at hr
            exact (Option.filter_eq_some_iff.1 hr).1
          have := (find_spec hf).1
          rw [List.getElem?_map, hq'] at this
          simpa using this
      · exact absurd ((mem_en (σ := σ)).2 (.inr h)) hn
    · exact absurd ha hn
theorem drop_chan (σ : PS) (node : Int) (hp : ∀ a ∈ σ.acts, a.path.toList.isEmpty = false) : ∀ a ∈ en (drop σ node), a.path.toList.isEmpty = true → a.x ≠ node ∧ a.y ≠ node := by
  intro a ha he
  rw [mem_en] at ha
  rcases ha with ⟨q, hq, _, rfl⟩ | ⟨f, hf, rfl⟩
  · obtain ⟨q', hq', rfl⟩ := List.mem_map.1 hq
    have := hp q' hq'
    split at he <;> simp [this] at he
  · have := (List.mem_filter.1 hf).2
    simpa [Sy.chanOf] using this
theorem drop_act (σ : PS) (node : Int) (hd : ∀ (j k : Nat) (a b : PL), j < k → σ.acts[j]? = some a → σ.acts[k]? = some b → a.path ≠ b.path) : ∀ a ∈ en (drop σ node), a.path.toList.isEmpty = false → ∃ k q, find (σ.acts.map (·.path)) a.path = some k ∧ σ.acts[k]? = some q ∧ q.node ≠ node := by
  intro a ha he
  rw [mem_en] at ha
  rcases ha with ⟨q, hq, hr, rfl⟩ | ⟨f, hf, rfl⟩
  · obtain ⟨q', hq', rfl⟩ := List.mem_map.1 hq
    obtain ⟨k, hk⟩ := List.getElem?_of_mem hq'
    by_cases hn : q'.node = node
    · rw [if_pos hn] at hr
      simp [readyP] at hr
    · refine ⟨k, q', ?_, hk, hn⟩
      rw [if_neg hn]
      refine find_some (by rw [List.getElem?_map, hk]; rfl) fun j x hj hx => ?_
      rw [List.getElem?_map] at hx
      cases hj' : σ.acts[j]? with
      | none => rw [hj'] at hx; simp at hx
      | some b =>
        rw [hj'] at hx
        simp at hx
        rw [← hx]
        exact hd j k b q' hj hj' hk
  · simp [Sy.chanOf] at he
end Ml

/-- sched.Enabled at a state that reads as a plain one -/
theorem en_any (s : SysC) (σ : PS) (w : World) (h : SysR w s σ) (h1 : s.actors.n ≤ 1000000) (h2 : s.flights.n ≤ 1000000) (hwf : ∀ f ∈ σ.fls, WfI f.x ∧ WfI f.y) :
    Calls Try.prog 53 #[sysV s] w fun e w' => ∃ v : Sl, e = .returned (.slice v.a (Ml.en σ).length v.c) ∧ Rd w' w'.heap.size 3 v.a (Ml.en σ).length ((Ml.en σ).flatMap actnL) ∧ Below w.heap.size w w' := by
  obtain ⟨qs, hq1, hq2, hq3⟩ := h.ac
  have hw : ∀ f ∈ σ.fls, (Lit.int .i64 f.x).wf = true ∧ (Lit.int .i64 f.y).wf = true := fun f hf => by
    obtain ⟨h1, h2⟩ := hwf f hf
    simp [WfI] at h1 h2
    have hm : IntKind.i64.min = -9223372036854775808 := by decide
    have hx : IntKind.i64.max = 9223372036854775807 := by decide
    constructor <;> simp [Lit.wf, hm] <;> omega
  have := enabled_any s (qs.map (·.1)) σ.fls σ.ups w h.up hq1 h.fl (by omega) (by omega) hw
  rw [Ml.en_eq qs σ hq2 hq3] at this
  refine this.mono fun e w' ⟨v, he, hv, hb⟩ => ?_
  have hn : v.n = (Ml.en σ).length := (hv.len (fun _ => rfl) (by omega)).symm
  rw [hn] at he hv
  exact ⟨v, he, hv, hb⟩
theorem en_len (σ : PS) : (Ml.en σ).length ≤ σ.acts.length + σ.fls.length := by
  unfold Ml.en
  rw [List.length_append, List.length_map, List.length_map]
  have h1 := List.length_filter_le (Ml.readyP σ.ups) σ.acts
  have h2 := Sy.dd_len (σ.fls.map chOf)
  simp only [Sy.srt, List.length_mergeSort]
  simp at h2
  omega
end Go.Proofs.Ytjdjfjokniingaa
