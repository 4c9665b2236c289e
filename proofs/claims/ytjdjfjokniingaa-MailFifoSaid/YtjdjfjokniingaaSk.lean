/- Plain lists: the channels collected and sorted are the channels inserted one by one. -/
import Derived.Test.YtjdjfjokniingaaSj
namespace Go.Proofs.Ytjdjfjokniingaa
namespace Sy
theorem chLt_irrefl (a : Int × Int) : chLt a a = false := by simp [chLt]
theorem chLt_trans {a b c : Int × Int} (h1 : chLt a b = true) (h2 : chLt b c = true) : chLt a c = true := by
  simp [chLt] at *; omega
theorem chLt_tri {a b : Int × Int} (h1 : chLt a b = false) (h2 : a ≠ b) : chLt b a = true := by
  have : a.1 ≠ b.1 ∨ a.2 ≠ b.2 := by
    by_cases h : a.1 = b.1
    · exact .inr fun h' => h2 (Prod.ext h h')
    · exact .inl h
  simp [chLt] at *; omega

/-- two strictly ascending lists with the same members are one -/
theorem eq_of_mem : ∀ {l m : List (Int × Int)}, l.Pairwise (fun a b => chLt a b = true) → m.Pairwise (fun a b => chLt a b = true) → (∀ c, c ∈ l ↔ c ∈ m) → l = m
  | [], [], _, _, _ => rfl
  | [], y :: r, _, _, h => by have := (h y).2 (by simp); simp at this
  | x :: r, [], _, _, h => by have := (h x).1 (by simp); simp at this
  | x :: r, y :: s, h1, h2, h => by
    obtain ⟨a1, a2⟩ := List.pairwise_cons.1 h1
    obtain ⟨b1, b2⟩ := List.pairwise_cons.1 h2
    have e : x = y := by
      rcases List.mem_cons.1 ((h x).1 (by simp)) with e | hx
      · exact e
      · rcases List.mem_cons.1 ((h y).2 (by simp)) with e | hy
        · exact e.symm
        · have := chLt_trans (b1 x hx) (a1 y hy)
          rw [chLt_irrefl] at this; cases this
    subst e
    congr 1
    refine eq_of_mem a2 b2 fun c => ?_
    constructor
    · intro hc
      rcases List.mem_cons.1 ((h c).1 (List.mem_cons_of_mem _ hc)) with e | hc'
      · subst e; have := a1 c hc; rw [chLt_irrefl] at this; cases this
      · exact hc'
    · intro hc
      rcases List.mem_cons.1 ((h c).2 (List.mem_cons_of_mem _ hc)) with e | hc'
      · subst e; have := b1 c hc; rw [chLt_irrefl] at this; cases this
      · exact hc'

theorem take_pos (cs : List (Int × Int)) (c : Int × Int) : cs.take (pos cs c) = cs.takeWhile fun x => chLt x c := by
  induction cs with
  | nil => rfl
  | cons x r ih =>
    unfold pos at ih ⊢
    cases h : chLt x c <;> simp [h, ih]
theorem drop_pos (cs : List (Int × Int)) (c : Int × Int) : cs.drop (pos cs c) = cs.dropWhile fun x => chLt x c := by
  induction cs with
  | nil => rfl
  | cons x r ih =>
    unfold pos at ih ⊢
    cases h : chLt x c <;> simp [h, ih]

theorem ins_mem (cs : List (Int × Int)) (c d : Int × Int) : d ∈ ins cs c ↔ d ∈ cs ∨ d = c := by
  unfold ins
  split
  · rename_i h
    constructor
    · exact .inl
    · rintro (h' | rfl)
      · exact h'
      · exact List.mem_of_getElem? h
  · have := List.take_append_drop (pos cs c) cs
    constructor
    · intro h
      rcases List.mem_append.1 h with h | h
      · exact .inl (List.mem_of_mem_take h)
      · rcases List.mem_cons.1 h with h | h
        · exact .inr h
        · exact .inl (List.mem_of_mem_drop h)
    · rintro (h | rfl)
      · rw [← this] at h
        rcases List.mem_append.1 h with h | h
        · exact List.mem_append.2 (.inl h)
        · exact List.mem_append.2 (.inr (List.mem_cons_of_mem _ h))
      · simp

theorem ins_sorted {cs : List (Int × Int)} (h : cs.Pairwise (fun a b => chLt a b = true)) (c : Int × Int) : (ins cs c).Pairwise (fun a b => chLt a b = true) := by
  unfold ins
  split
  · exact h
  · rename_i hne
    have hsplit := List.take_append_drop (pos cs c) cs
    rw [← hsplit] at h
    obtain ⟨h1, h2, h3⟩ := List.pairwise_append.1 h
    have hlo : ∀ x ∈ cs.take (pos cs c), chLt x c = true := by
      intro x hx
      rw [take_pos] at hx
      exact List.all_eq_true.1 (List.all_takeWhile) x hx
    have hhi : ∀ x ∈ cs.drop (pos cs c), chLt c x = true := by
      intro x hx
      have hd : ∃ y r, cs.drop (pos cs c) = y :: r := by
        cases hh : cs.drop (pos cs c) with
        | nil => rw [hh] at hx; simp at hx
        | cons y r => exact ⟨y, r, rfl⟩
      obtain ⟨y, r, hd⟩ := hd
      have hy : cs[pos cs c]? = some y := by
        have : (cs.drop (pos cs c))[0]? = some y := by rw [hd]; rfl
        rw [List.getElem?_drop] at this
        simpa using this
      have hyc : chLt y c = false := by
        have e : cs.dropWhile (fun x => chLt x c) = y :: r := by rw [← drop_pos]; exact hd
        have := List.head_dropWhile_not (fun x => chLt x c) (l := cs) (by rw [e]; simp)
        simpa [e] using this
      have hcy : chLt c y = true := chLt_tri hyc (fun e => hne (by rw [hy, e]))
      rw [hd] at hx h2
      rcases List.mem_cons.1 hx with rfl | hx
      · exact hcy
      · exact chLt_trans hcy ((List.pairwise_cons.1 h2).1 x hx)
    refine List.pairwise_append.2 ⟨h1, List.pairwise_cons.2 ⟨hhi, h2⟩, fun x hx y hy => ?_⟩
    rcases List.mem_cons.1 hy with rfl | hy
    · exact hlo x hx
    · exact h3 x hx y hy

theorem insAll_sorted (cs : List (Int × Int)) : (insAll cs).Pairwise (fun a b => chLt a b = true) := by
  have h : ∀ (l acc : List (Int × Int)), acc.Pairwise (fun a b => chLt a b = true) → (l.foldl ins acc).Pairwise (fun a b => chLt a b = true) := by
    intro l
    induction l with
    | nil => intro acc h; exact h
    | cons c r ih => intro acc h; exact ih _ (ins_sorted h c)
  exact h cs [] List.Pairwise.nil
theorem insAll_mem (cs : List (Int × Int)) (c : Int × Int) : c ∈ insAll cs ↔ c ∈ cs := by
  have h : ∀ (l acc : List (Int × Int)), c ∈ l.foldl ins acc ↔ c ∈ acc ∨ c ∈ l := by
    intro l
    induction l with
    | nil => intro acc; simp
    | cons d r ih =>
      intro acc
      rw [List.foldl_cons, ih, ins_mem, List.mem_cons]
      constructor
      · rintro ((h | h) | h)
        · exact .inl h
        · exact .inr (.inl h)
        · exact .inr (.inr h)
      · rintro (h | h | h)
        · exact .inl (.inl h)
        · exact .inl (.inr h)
        · exact .inr h
  simpa [insAll] using h cs []

theorem dd_spec (cs : List (Int × Int)) : (dd cs).Nodup ∧ ∀ c, c ∈ dd cs ↔ c ∈ cs := by
  have h : ∀ (l acc : List (Int × Int)), acc.Nodup → (l.foldl ddStep acc).Nodup ∧ ∀ c, c ∈ l.foldl ddStep acc ↔ c ∈ acc ∨ c ∈ l := by
    intro l
    induction l with
    | nil => intro acc h; exact ⟨h, fun c => by simp⟩
    | cons d r ih =>
      intro acc h
      by_cases hd : d ∈ acc
      · have e : ddStep acc d = acc := by simp [ddStep, hd]
        rw [List.foldl_cons, e]
        obtain ⟨h1, h2⟩ := ih acc h
        refine ⟨h1, fun c => (h2 c).trans ?_⟩
        constructor
        · rintro (h | h)
          · exact .inl h
          · exact .inr (List.mem_cons_of_mem _ h)
        · rintro (h | h)
          · exact .inl h
          · rcases List.mem_cons.1 h with rfl | h
            · exact .inl hd
            · exact .inr h
      · have e : ddStep acc d = acc ++ [d] := by simp [ddStep, hd]
        rw [List.foldl_cons, e]
        obtain ⟨h1, h2⟩ := ih (acc ++ [d]) (by
          rw [List.nodup_append]
          exact ⟨h, by simp, fun a ha b hb => by simp at hb; subst hb; intro e; exact hd (e ▸ ha)⟩)
        refine ⟨h1, fun c => (h2 c).trans ?_⟩
        simp [or_assoc]
  obtain ⟨h1, h2⟩ := h cs [] List.nodup_nil
  exact ⟨h1, fun c => by have := h2 c; simpa [dd] using this⟩

theorem srt_dd (cs : List (Int × Int)) : srt (dd cs) = insAll cs := by
  obtain ⟨hn, hm⟩ := dd_spec cs
  have hp := List.mergeSort_perm (dd cs) (fun x y => !chLt y x)
  have hs : (srt (dd cs)).Pairwise (fun a b => (!chLt b a) = true) := by
    apply List.pairwise_mergeSort
    · intro a b c h1 h2
      simp [chLt] at *; omega
    · intro a b
      simp [chLt]; omega
  have hnd : (srt (dd cs)).Nodup := (hp.nodup_iff).2 hn
  refine eq_of_mem ?_ (insAll_sorted cs) (fun c => ?_)
  · have := hs.and hnd
    refine this.imp fun {a b} h => ?_
    have h1 : chLt b a = false := by simpa using h.1
    exact chLt_tri h1 (Ne.symm h.2)
  · rw [insAll_mem]
    exact (hp.mem_iff).trans (hm c)

theorem enabled_eq (ups : List Bool) (ls : List LiveC) (cs : List (Int × Int)) : enabledR ups ls cs = enabled ups ls cs := by
  unfold enabledR enabled
  rw [srt_dd]
end Sy

theorem enabledR_all (s : SysC) (ls : List LiveC) (fls : List FlyC) (ups : List Bool) (w : World) (hup : Rd w w.heap.size 1 s.up.a s.up.n (ups.map .bool)) (hac : Rd w w.heap.size 9 s.actors.a s.actors.n (ls.flatMap liveL)) (hfl : Rd w w.heap.size 7 s.flights.a s.flights.n (fls.flatMap flyL))
    (hba : s.actors.n * 128 ≤ 140737488351232) (hbf : s.flights.n * 64 ≤ 140737488351232) (hwf : ∀ f ∈ fls, (Lit.int .i64 f.x).wf = true ∧ (Lit.int .i64 f.y).wf = true) :
    Calls Try.prog 54 #[sysV s] w fun e w' => ∃ v : Sl, e = .returned (.slice v.a v.n v.c) ∧ Rd w' w'.heap.size 3 v.a v.n ((Sy.enabled ups ls (fls.map chOf)).flatMap actnL) ∧ RowKit.Below w.heap.size w w' := by
  rw [← Sy.enabled_eq]
  exact enabledR_any s ls fls ups w hup hac hfl hba hbf hwf
end Go.Proofs.Ytjdjfjokniingaa
