/- The plain theory of slices.SortStableFunc: merging, insertion, and the split of a merge at its middle. -/
namespace Go.Proofs.Ytjdjfjokniingaa
namespace St
variable {α : Type}

/-- a comparison that is total and transitive -/
structure LeOk (le : α → α → Bool) : Prop where
  total : ∀ a b, le a b = true ∨ le b a = true
  trans : ∀ a b c, le a b = true → le b c = true → le a c = true

def mg (le : α → α → Bool) : List α → List α → List α
  | [], r => r
  | x :: l, [] => x :: l
  | x :: l, y :: r => if le x y then x :: mg le l (y :: r) else y :: mg le (x :: l) r

variable {le : α → α → Bool}
theorem mg_nil (l : List α) : mg le l [] = l := by cases l <;> simp [mg]
theorem nil_mg (l : List α) : mg le [] l = l := by simp [mg]
theorem mg_yes {x y : α} {l r : List α} (h : le x y = true) : mg le (x :: l) (y :: r) = x :: mg le l (y :: r) := by simp [mg, h]
theorem mg_no {x y : α} {l r : List α} (h : le x y = false) : mg le (x :: l) (y :: r) = y :: mg le (x :: l) r := by simp [mg, h]
theorem mg_length : ∀ (l r : List α), (mg le l r).length = l.length + r.length
  | [], r => by simp [mg]
  | x :: l, [] => by simp [mg]
  | x :: l, y :: r => by
    unfold mg
    split
    · simp [mg_length l (y :: r)]; omega
    · simp [mg_length (x :: l) r]; omega
theorem mg_mem {z : α} : ∀ (l r : List α), z ∈ mg le l r → z ∈ l ∨ z ∈ r
  | [], r, h => by simp [mg] at h; exact .inr h
  | x :: l, [], h => by simp [mg] at h; simpa using h
  | x :: l, y :: r, h => by
    unfold mg at h
    split at h
    · rcases List.mem_cons.1 h with rfl | h
      · simp
      · rcases mg_mem l (y :: r) h with h | h
        · exact .inl (List.mem_cons_of_mem _ h)
        · exact .inr h
    · rcases List.mem_cons.1 h with rfl | h
      · simp
      · rcases mg_mem (x :: l) r h with h | h
        · exact .inl h
        · exact .inr (List.mem_cons_of_mem _ h)

theorem mg_assoc (ok : LeOk le) (A B C : List α) : mg le (mg le A B) C = mg le A (mg le B C) := by
  match A, B, C with
  | [], B, C => simp [mg]
  | a :: A, [], C => simp [mg, mg_nil]
  | a :: A, b :: B, [] => simp [mg_nil]
  | a :: A, b :: B, c :: C =>
    cases hab : le a b with
    | true =>
      rw [mg_yes hab]
      cases hac : le a c with
      | true =>
        rw [mg_yes hac, mg_assoc ok A (b :: B) (c :: C)]
        cases hbc : le b c with
        | true => rw [mg_yes hbc, mg_yes hab]
        | false => rw [mg_no hbc, mg_yes hac]
      | false =>
        have hbc : le b c = false := by
          cases h : le b c with
          | false => rfl
          | true => rw [ok.trans a b c hab h] at hac; cases hac
        rw [mg_no hac, mg_no hbc, mg_no hac, ← mg_yes hab, mg_assoc ok (a :: A) (b :: B) C]
    | false =>
      rw [mg_no hab]
      cases hbc : le b c with
      | true => rw [mg_yes hbc, mg_yes hbc, mg_no hab, mg_assoc ok (a :: A) B (c :: C)]
      | false =>
        have hac : le a c = false := by
          cases h : le a c with
          | false => rfl
          | true =>
            rcases ok.total b c with h1 | h1
            · rw [h1] at hbc; cases hbc
            · rw [ok.trans a c b h h1] at hab; cases hab
        rw [mg_no hbc, mg_no hbc, mg_no hac, ← mg_no hab, mg_assoc ok (a :: A) (b :: B) C]
termination_by A.length + B.length + C.length

/-- a merge splits where the left part's beginning is at most the right part's end, and the right part's beginning is less than the left part's end -/
theorem mg_split : ∀ (L1 L2 R1 R2 : List α), (∀ l ∈ L1, ∀ r ∈ R2, le l r = true) → (∀ l ∈ L2, ∀ r ∈ R1, le l r = false) → mg le (L1 ++ L2) (R1 ++ R2) = mg le L1 R1 ++ mg le L2 R2
  | [], [], R1, R2, _, _ => by simp [mg]
  | [], x :: L2, [], R2, _, _ => by simp [mg]
  | [], x :: L2, y :: R1, R2, h1, h2 => by
    have ih := mg_split [] (x :: L2) R1 R2 (by simp) (fun l hl r hr => h2 l hl r (List.mem_cons_of_mem _ hr))
    simp only [List.nil_append] at ih ⊢
    rw [List.cons_append, mg_no (h2 x (by simp) y (by simp)), ih]
    simp [mg]
  | x :: L1, L2, [], [], _, _ => by simp [mg_nil]
  | x :: L1, L2, [], y :: R2, h1, h2 => by
    have ih := mg_split L1 L2 [] (y :: R2) (fun l hl r hr => h1 l (List.mem_cons_of_mem _ hl) r hr) (by simp)
    simp only [List.nil_append] at ih ⊢
    rw [List.cons_append, mg_yes (h1 x (by simp) y (by simp)), ih]
    simp [mg_nil]
  | x :: L1, L2, y :: R1, R2, h1, h2 => by
    cases h : le x y with
    | true =>
      have ih := mg_split L1 L2 (y :: R1) R2 (fun l hl r hr => h1 l (List.mem_cons_of_mem _ hl) r hr) h2
      rw [List.cons_append, List.cons_append, mg_yes h, ← List.cons_append, ih, mg_yes h]
      rfl
    | false =>
      have ih := mg_split (x :: L1) L2 R1 R2 h1 (fun l hl r hr => h2 l hl r (List.mem_cons_of_mem _ hr))
      rw [List.cons_append, List.cons_append, mg_no h, ← List.cons_append, ih, mg_no h]
      rfl
termination_by L1 _ R1 _ => L1.length + R1.length

abbrev Srt (le : α → α → Bool) (l : List α) : Prop := l.Pairwise fun a b => le a b = true
theorem mg_sorted (ok : LeOk le) : ∀ (l r : List α), Srt le l → Srt le r → Srt le (mg le l r)
  | [], r, _, h => by simpa [mg] using h
  | x :: l, [], h, _ => by simpa [mg] using h
  | x :: l, y :: r, h1, h2 => by
    cases h : le x y with
    | true =>
      rw [mg_yes h]
      refine List.Pairwise.cons (fun z hz => ?_) (mg_sorted ok l (y :: r) (List.pairwise_cons.1 h1).2 h2)
      rcases mg_mem _ _ hz with hz | hz
      · exact (List.pairwise_cons.1 h1).1 z hz
      · rcases List.mem_cons.1 hz with rfl | hz
        · exact h
        · exact ok.trans _ _ _ h ((List.pairwise_cons.1 h2).1 z hz)
    | false =>
      have h' : le y x = true := by
        rcases ok.total x y with h1 | h1
        · rw [h] at h1; cases h1
        · exact h1
      rw [mg_no h]
      refine List.Pairwise.cons (fun z hz => ?_) (mg_sorted ok (x :: l) r h1 (List.pairwise_cons.1 h2).2)
      rcases mg_mem _ _ hz with hz | hz
      · rcases List.mem_cons.1 hz with rfl | hz
        · exact h'
        · exact ok.trans _ _ _ h' ((List.pairwise_cons.1 h1).1 z hz)
      · exact (List.pairwise_cons.1 h2).1 z hz

/-- the stable sort -/
def isort (le : α → α → Bool) (l : List α) : List α := l.foldl (fun s a => mg le s [a]) []
theorem isort_nil : isort le [] = [] := rfl
theorem isort_snoc (l : List α) (a : α) : isort le (l ++ [a]) = mg le (isort le l) [a] := by simp [isort, List.foldl_append]
theorem isort_one (a : α) : isort le [a] = [a] := by simp [isort, mg]
theorem snoc_cases (l : List α) : l = [] ∨ ∃ (l' : List α) (a : α), l = l' ++ [a] := by
  rcases List.eq_nil_or_concat l with h | ⟨l', a, h⟩
  · exact .inl h
  · exact .inr ⟨l', a, by rw [h, List.concat_eq_append]⟩
theorem isort_append (ok : LeOk le) (A : List α) : ∀ (n : Nat) (B : List α), B.length = n → isort le (A ++ B) = mg le (isort le A) (isort le B) := by
  intro n
  induction n with
  | zero =>
    intro B hB
    have : B = [] := List.eq_nil_of_length_eq_zero hB
    subst this
    simp [isort_nil, mg_nil]
  | succ n ih =>
    intro B hB
    rcases snoc_cases B with rfl | ⟨B', b, rfl⟩
    · simp at hB
    · rw [← List.append_assoc, isort_snoc, isort_snoc, ih B' (by simpa using hB), mg_assoc ok]
theorem isort_length : ∀ (n : Nat) (B : List α), B.length = n → (isort le B).length = n := by
  intro n
  induction n with
  | zero => intro B hB; rw [List.eq_nil_of_length_eq_zero hB]; rfl
  | succ n ih =>
    intro B hB
    rcases snoc_cases B with rfl | ⟨B', b, rfl⟩
    · simp at hB
    · rw [isort_snoc, mg_length, ih B' (by simpa using hB)]; simp
theorem isort_len (B : List α) : (isort le B).length = B.length := isort_length _ B rfl
theorem isort_sorted' (ok : LeOk le) : ∀ (n : Nat) (B : List α), B.length = n → Srt le (isort le B) := by
  intro n
  induction n with
  | zero => intro B hB; rw [List.eq_nil_of_length_eq_zero hB]; exact List.Pairwise.nil
  | succ n ih =>
    intro B hB
    rcases snoc_cases B with rfl | ⟨B', b, rfl⟩
    · simp at hB
    · rw [isort_snoc]; exact mg_sorted ok _ _ (ih B' (by simpa using hB)) (by simp)
theorem isort_sorted (ok : LeOk le) (B : List α) : Srt le (isort le B) := isort_sorted' ok _ B rfl
theorem isort_mem' {z : α} : ∀ (n : Nat) (B : List α), B.length = n → z ∈ isort le B → z ∈ B := by
  intro n
  induction n with
  | zero => intro B hB h; rw [List.eq_nil_of_length_eq_zero hB] at h; cases h
  | succ n ih =>
    intro B hB h
    rcases snoc_cases B with rfl | ⟨B', b, rfl⟩
    · simp at hB
    · rw [isort_snoc] at h
      rcases mg_mem _ _ h with h | h
      · exact List.mem_append.2 (.inl (ih B' (by simpa using hB) h))
      · exact List.mem_append.2 (.inr h)
theorem isort_mem {z : α} {B : List α} (h : z ∈ isort le B) : z ∈ B := isort_mem' _ B rfl h

/-- one element merged into a row at the place where a search ends -/
theorem mg_left (x : α) (R1 R2 : List α) (h1 : ∀ r ∈ R1, le x r = false) (h2 : ∀ r, R2.head? = some r → le x r = true) : mg le [x] (R1 ++ R2) = R1 ++ x :: R2 := by
  have := mg_split (le := le) [] [x] R1 R2 (by simp) (by simpa using h1)
  simp only [List.nil_append] at this
  rw [this, nil_mg]
  cases R2 with
  | nil => simp [mg]
  | cons r R2 => rw [mg_yes (h2 r rfl), nil_mg]
theorem mg_right (y : α) (L1 L2 : List α) (h1 : ∀ l ∈ L1, le l y = true) (h2 : ∀ l, L2.head? = some l → le l y = false) : mg le (L1 ++ L2) [y] = L1 ++ y :: L2 := by
  have := mg_split (le := le) L1 L2 [] [y] (by simpa using h1) (by simp)
  simp only [List.nil_append] at this
  rw [this, mg_nil]
  cases L2 with
  | nil => simp [mg]
  | cons r R2 => rw [mg_no (h2 r rfl), mg_nil]
theorem mg_sorted_append (L R : List α) (h : ∀ l ∈ L, ∀ r ∈ R, le l r = true) : mg le L R = L ++ R := by
  have := mg_split (le := le) L [] [] R h (by simp)
  simpa [mg, mg_nil] using this
/-- a row that is in order stays as it is -/
theorem isort_id : ∀ (n : Nat) (B : List α), B.length = n → Srt le B → isort le B = B := by
  intro n
  induction n with
  | zero => intro B hB _; rw [List.eq_nil_of_length_eq_zero hB]; rfl
  | succ n ih =>
    intro B hB h
    rcases snoc_cases B with rfl | ⟨B', b, rfl⟩
    · simp at hB
    · rw [isort_snoc, ih B' (by simpa using hB) (List.pairwise_append.1 h).1]
      exact mg_sorted_append _ _ (List.pairwise_append.1 h).2.2
/-- a merge of a filtered row -/
theorem mg_filter (ok : LeOk le) (p : α → Bool) : ∀ (L R : List α), Srt le L → Srt le R → mg le (L.filter p) (R.filter p) = (mg le L R).filter p
  | [], R, _, _ => by simp [mg]
  | x :: L, [], _, _ => by simp [mg_nil]
  | x :: L, y :: R, h1, h2 => by
    have g1 := (List.pairwise_cons.1 h1)
    have g2 := (List.pairwise_cons.1 h2)
    cases h : le x y with
    | true =>
      rw [mg_yes h]
      have ih := mg_filter ok p L (y :: R) g1.2 h2
      cases hx : p x with
      | false => rw [List.filter_cons_of_neg (a := x) (by simp [hx]), List.filter_cons_of_neg (a := x) (by simp [hx]), ih]
      | true =>
        rw [List.filter_cons_of_pos hx, List.filter_cons_of_pos hx, ← ih]
        cases hf : (y :: R).filter p with
        | nil => simp [mg_nil]
        | cons z Z =>
          have hz : z ∈ (y :: R).filter p := by rw [hf]; simp
          have hz' := (List.mem_filter.1 hz).1
          have : le x z = true := by
            rcases List.mem_cons.1 hz' with rfl | hz'
            · exact h
            · exact ok.trans _ _ _ h (g2.1 z hz')
          rw [mg_yes this]
    | false =>
      rw [mg_no h]
      have hyx : le y x = true := by
        rcases ok.total x y with h1 | h1
        · rw [h] at h1; cases h1
        · exact h1
      have ih := mg_filter ok p (x :: L) R h1 g2.2
      cases hy : p y with
      | false => rw [List.filter_cons_of_neg (a := y) (by simp [hy]), List.filter_cons_of_neg (a := y) (by simp [hy]), ih]
      | true =>
        rw [List.filter_cons_of_pos hy, List.filter_cons_of_pos hy, ← ih]
        cases hf : (x :: L).filter p with
        | nil => simp [mg]
        | cons z Z =>
          have hz : z ∈ (x :: L).filter p := by rw [hf]; simp
          have hz' := (List.mem_filter.1 hz).1
          have : le z y = false := by
            cases hzy : le z y with
            | false => rfl
            | true =>
              rcases List.mem_cons.1 hz' with rfl | hz'
              · rw [h] at hzy; cases hzy
              · rw [ok.trans x z y (g1.1 z hz') hzy] at h; cases h
          rw [mg_no this]
termination_by L R => L.length + R.length
theorem isort_filter (ok : LeOk le) (p : α → Bool) : ∀ (n : Nat) (B : List α), B.length = n → isort le (B.filter p) = (isort le B).filter p := by
  intro n
  induction n with
  | zero => intro B hB; rw [List.eq_nil_of_length_eq_zero hB]; rfl
  | succ n ih =>
    intro B hB
    rcases snoc_cases B with rfl | ⟨B', b, rfl⟩
    · simp at hB
    · rw [isort_snoc, ← mg_filter ok p _ _ (isort_sorted ok B') (by simp), ← ih B' (by simpa using hB), List.filter_append]
      cases hb : p b with
      | false => simp [hb, mg_nil]
      | true => simp [hb, isort_snoc]
end St
end Go.Proofs.Ytjdjfjokniingaa
