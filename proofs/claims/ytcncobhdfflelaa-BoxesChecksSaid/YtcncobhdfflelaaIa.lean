/- Plain laws: the points of a box at which a condition holds are counted exactly over cuts. -/
import Derived.Test.YtcncobhdfflelaaSo
import Derived.Test.YtcncobhdfflelaaWd
namespace Go.Proofs.Ytcncobhdfflelaa
namespace Bx
/-- the sum of f over n integers from a on -/
def sumI (f : Int → Nat) : Int → Nat → Nat
  | _, 0 => 0
  | a, n + 1 => f a + sumI f (a + 1) n
theorem sumI_add (f : Int → Nat) : ∀ (n m : Nat) (a : Int), sumI f a (n + m) = sumI f a n + sumI f (a + n) m
  | 0, m, a => by simp [sumI]
  | n + 1, m, a => by
    rw [show n + 1 + m = (n + m) + 1 by omega, sumI, sumI, sumI_add f n m (a + 1)]
    rw [show a + 1 + (n : Int) = a + ((n + 1 : Nat) : Int) by omega]
    omega
theorem sumI_ext {f g : Int → Nat} : ∀ (n : Nat) (a : Int), (∀ x, a ≤ x → x < a + n → f x = g x) → sumI f a n = sumI g a n
  | 0, _, _ => rfl
  | n + 1, a, h => by
    rw [sumI, sumI, h a (Int.le_refl _) (by omega), sumI_ext n (a + 1) (fun x h1 h2 => h x (by omega) (by omega))]
theorem sumI_plus (f g : Int → Nat) : ∀ (n : Nat) (a : Int), sumI (fun x => f x + g x) a n = sumI f a n + sumI g a n
  | 0, _ => rfl
  | n + 1, a => by rw [sumI, sumI, sumI, sumI_plus f g n (a + 1)]; omega
theorem sumI_const (c : Nat) : ∀ (n : Nat) (a : Int), sumI (fun _ => c) a n = n * c
  | 0, _ => by simp [sumI]
  | n + 1, a => by rw [sumI, sumI_const c n (a + 1), Nat.succ_mul]; omega
theorem sumI_le {f g : Int → Nat} : ∀ (n : Nat) (a : Int), (∀ x, a ≤ x → x < a + n → f x ≤ g x) → sumI f a n ≤ sumI g a n
  | 0, _, _ => Nat.le_refl _
  | n + 1, a, h => by
    rw [sumI, sumI]
    exact Nat.add_le_add (h a (Int.le_refl _) (by omega)) (sumI_le n (a + 1) (fun x h1 h2 => h x (by omega) (by omega)))
/-- the sum over the integers from a to b -/
def sumR (f : Int → Nat) (a b : Int) : Nat := sumI f a (b - a + 1).toNat
theorem sumR_cut (f : Int → Nat) {a m b : Int} (h1 : a ≤ m) (h2 : m ≤ b) : sumR f a m + sumR f (m + 1) b = sumR f a b := by
  unfold sumR
  have e : (b - a + 1).toNat = (m - a + 1).toNat + (b - (m + 1) + 1).toNat := by omega
  rw [e, sumI_add]
  congr 2
  omega
theorem sumR_ext {f g : Int → Nat} {a b : Int} (h : ∀ x, a ≤ x → x ≤ b → f x = g x) : sumR f a b = sumR g a b := sumI_ext _ _ fun x h1 h2 => h x h1 (by omega)
theorem sumR_le {f g : Int → Nat} {a b : Int} (h : ∀ x, a ≤ x → x ≤ b → f x ≤ g x) : sumR f a b ≤ sumR g a b := sumI_le _ _ fun x h1 h2 => h x h1 (by omega)
/-- the points of a box at which P holds -/
def cntF : List (Int × Int) → (List Int → Bool) → Nat
  | [], P => if P [] then 1 else 0
  | r :: l, P => sumR (fun x => cntF l fun p => P (x :: p)) r.1 r.2
def cnt (b : Dm) (P : List Int → Bool) : Nat := cntF (b.1.zip b.2) P
/-- a point lies in a box -/
def InZ : List (Int × Int) → List Int → Prop
  | [], [] => True
  | r :: l, x :: p => r.1 ≤ x ∧ x ≤ r.2 ∧ InZ l p
  | _, _ => False
theorem cntF_ext : ∀ (l : List (Int × Int)) {P R : List Int → Bool}, (∀ p, InZ l p → P p = R p) → cntF l P = cntF l R
  | [], P, R, h => by rw [cntF, cntF, h [] trivial]
  | r :: l, P, R, h => by
    rw [cntF, cntF]
    exact sumR_ext fun x h1 h2 => cntF_ext l fun p hp => h (x :: p) ⟨h1, h2, hp⟩
theorem cntF_true : ∀ l : List (Int × Int), cntF l (fun _ => true) = volF l
  | [] => rfl
  | r :: l => by
    rw [cntF, volF]
    simp only [cntF_true l]
    unfold sumR
    rw [sumI_const]
theorem cntF_false : ∀ l : List (Int × Int), cntF l (fun _ => false) = 0
  | [] => rfl
  | r :: l => by
    rw [cntF]
    simp only [cntF_false l]
    unfold sumR
    rw [sumI_const, Nat.mul_zero]
theorem cntF_le : ∀ (l : List (Int × Int)) {P R : List Int → Bool}, (∀ p, InZ l p → P p = true → R p = true) → cntF l P ≤ cntF l R
  | [], P, R, h => by
    rw [cntF, cntF]
    by_cases hp : P [] = true
    · rw [if_pos hp, if_pos (h [] trivial hp)]; exact Nat.le_refl _
    · rw [if_neg hp]; exact Nat.zero_le _
  | r :: l, P, R, h => by
    rw [cntF, cntF]
    exact sumR_le fun x h1 h2 => cntF_le l fun p hp => h (x :: p) ⟨h1, h2, hp⟩
theorem cntF_or : ∀ (l : List (Int × Int)) {P R : List Int → Bool}, (∀ p, InZ l p → P p = true → R p = false) → cntF l (fun p => P p || R p) = cntF l P + cntF l R
  | [], P, R, h => by
    have key : ∀ a b : Bool, (a = true → b = false) → (if (a || b) = true then 1 else 0) = (if a = true then 1 else 0) + (if b = true then 1 else 0) := by decide
    exact key _ _ (h [] trivial)
  | r :: l, P, R, h => by
    simp only [cntF]
    unfold sumR
    rw [← sumI_plus]
    exact sumR_ext (a := r.1) (b := r.2) fun x h1 h2 => cntF_or l fun p hp => h (x :: p) ⟨h1, h2, hp⟩
/-- a cut in dimension i -/
theorem cntF_cut : ∀ (i : Nat) (l h : List Int) (P : List Int → Bool) (x y m : Int), l[i]? = some x → h[i]? = some y → x ≤ m → m ≤ y →
    cntF (l.zip (h.set i m)) P + cntF ((l.set i (m + 1)).zip h) P = cntF (l.zip h) P
  | 0, a :: l, b :: h, P, x, y, m, h1, h2, h3, h4 => by
    simp at h1 h2
    subst h1 h2
    simp only [List.set_cons_zero, List.zip_cons_cons, cntF]
    exact sumR_cut _ h3 h4
  | i + 1, a :: l, b :: h, P, x, y, m, h1, h2, h3, h4 => by
    simp only [List.set_cons_succ, List.zip_cons_cons, cntF]
    unfold sumR
    rw [← sumI_plus]
    exact sumR_ext (a := a) (b := b) fun z _ _ => cntF_cut i l h (fun p => P (z :: p)) x y m (by simpa using h1) (by simpa using h2) h3 h4
  | _, [], _, _, _, _, _, h1, _, _, _ => by simp at h1
  | _, _ :: _, [], _, _, _, _, _, h2, _, _ => by simp at h2
theorem cnt_cut (b : Dm) (P : List Int → Bool) {i : Nat} {x y m : Int} (h1 : b.1[i]? = some x) (h2 : b.2[i]? = some y) (h3 : x ≤ m) (h4 : m ≤ y) : cnt (b.1, b.2.set i m) P + cnt (b.1.set i (m + 1), b.2) P = cnt b P := cntF_cut i b.1 b.2 P x y m h1 h2 h3 h4
theorem cnt_true (b : Dm) : cnt b (fun _ => true) = vol b.1 b.2 := cntF_true _
/-- the count over the boxes of a run -/
def sumC (P : List Int → Bool) : List Dm → Nat
  | [] => 0
  | b :: l => cnt b P + sumC P l
theorem sumC_append (P : List Int → Bool) : ∀ l m : List Dm, sumC P (l ++ m) = sumC P l + sumC P m
  | [], m => by simp [sumC]
  | b :: l, m => by rw [List.cons_append, sumC, sumC, sumC_append P l m]; omega
theorem cnt_cut' (b : Dm) (P : List Int → Bool) (hw : ¬ widest b.1 b.2 < 0) : cnt (cutLo b (wI b)) P + cnt (cutHi b (wI b)) P = cnt b P := by
  obtain ⟨x, y, h1, h2, h3, _, h4⟩ := widest_pos hw
  have := mid_in h3
  rw [← h4] at this
  exact cnt_cut b P h1 h2 this.1 (by omega)
end Bx
end Go.Proofs.Ytcncobhdfflelaa
