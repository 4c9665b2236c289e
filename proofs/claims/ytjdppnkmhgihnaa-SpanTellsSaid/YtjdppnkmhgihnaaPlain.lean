/- The plain functions that the span seat's Go functions compute (no program in sight): each Lean function mirrors one Go function on integers. -/
namespace Go.Proofs.Ytjdppnkmhgihnaa
namespace Sp

/-- a span's two bounds and a fault -/
structure R where
  lo : Int
  hi : Int
  f : Int

def inR (n : Int) : Bool := decide (-9007199254740992 ≤ n) && decide (n ≤ 9007199254740992)
def right (l h : Int) : Bool := decide (-9007199254740992 ≤ l) && (decide (l ≤ h) && decide (h ≤ 9007199254740992))
def mn (a x : Int) : Int := if x < a then x else a
def mx (a x : Int) : Int := if a < x then x else a
def hullLo (a : Int) : List Int → Int
  | [] => a
  | x :: r => hullLo (mn a x) r
def hullHi (a : Int) : List Int → Int
  | [] => a
  | x :: r => hullHi (mx a x) r
theorem hullLo_snoc (a : Int) (l : List Int) (x : Int) : hullLo a (l ++ [x]) = mn (hullLo a l) x := by
  induction l generalizing a with
  | nil => rfl
  | cons y r ih => exact ih _
theorem hullHi_snoc (a : Int) (l : List Int) (x : Int) : hullHi a (l ++ [x]) = mx (hullHi a l) x := by
  induction l generalizing a with
  | nil => rfl
  | cons y r ih => exact ih _

def fit (lo hi : Int) : R :=
  if hi < -9007199254740992 ∨ 9007199254740992 < lo then ⟨0, 0, 1⟩
  else if lo < -9007199254740992 ∨ 9007199254740992 < hi then ⟨0, 0, 8⟩
  else ⟨lo, hi, 0⟩

def ab (n : Int) : Int := if n < 0 then -n else n

/-- num.Mul's result and whether it succeeds -/
def mulOk (a b : Int) : Bool := inR a && inR b && decide (-9007199254740992 ≤ a * b) && decide (a * b ≤ 9007199254740992)

def product (x y : Int) : Int :=
  if mulOk x y then x * y
  else if (decide (x < 0)) != (decide (y < 0)) then -9007199254740993
  else 9007199254740993

def add (al ah bl bh : Int) : R :=
  if right al ah && right bl bh then fit (hullLo (al + bl) [ah + bh]) (hullHi (al + bl) [ah + bh]) else ⟨0, 0, 1⟩
def sub (al ah bl bh : Int) : R :=
  if right al ah && right bl bh then fit (hullLo (al - bh) [ah - bl]) (hullHi (al - bh) [ah - bl]) else ⟨0, 0, 1⟩
def mul (al ah bl bh : Int) : R :=
  if right al ah && right bl bh then
    fit (hullLo (product al bl) [product al bh, product ah bl, product ah bh]) (hullHi (product al bl) [product al bh, product ah bl, product ah bh])
  else ⟨0, 0, 1⟩

def divisor (bl bh : Int) : Int :=
  if bl = 0 ∧ bh = 0 then 2
  else if bl ≤ 0 ∧ 0 ≤ bh then 8
  else 0

def quo (x y : Int) : Int := if inR x && inR y && (y != 0) then x.tdiv y else 0
def rem (x y : Int) : Int := if inR x && inR y && (y != 0) then x.tmod y else 0

def div (al ah bl bh : Int) : R :=
  if right al ah && right bl bh then
    if divisor bl bh = 0 then
      fit (hullLo (quo al bl) [quo al bh, quo ah bl, quo ah bh]) (hullHi (quo al bl) [quo al bh, quo ah bl, quo ah bh])
    else ⟨0, 0, divisor bl bh⟩
  else ⟨0, 0, 1⟩

def modM (bl bh : Int) : Int := mx (mx (mx bl (-bl)) bh) (-bh) - 1

def mod (al ah bl bh : Int) : R :=
  if right al ah && right bl bh then
    if divisor bl bh = 0 then
      if bl = bh ∧ al = ah then fit (rem al bl) (rem al bl)
      else if bl = bh ∧ (0 ≤ al ∨ ah ≤ 0) ∧ quo al bl = quo ah bl then
        fit (hullLo (rem al bl) [rem ah bl]) (hullHi (rem al bl) [rem ah bl])
      else ⟨if al < 0 then mx al (-(modM bl bh)) else 0, if 0 < ah then mn ah (modM bl bh) else 0, 0⟩
    else ⟨0, 0, divisor bl bh⟩
  else ⟨0, 0, 1⟩

def neg (al ah : Int) : R := if right al ah then ⟨-ah, -al, 0⟩ else ⟨0, 0, 1⟩

def less (al ah bl bh : Int) : Int := if ah < bl then 1 else if bh ≤ al then 0 else -1
def lessEq (al ah bl bh : Int) : Int := if ah ≤ bl then 1 else if bh < al then 0 else -1
def equal (al ah bl bh : Int) : Int := if al = ah ∧ al = bl ∧ ah = bh then 1 else if ah < bl ∨ bh < al then 0 else -1

end Sp
end Go.Proofs.Ytjdppnkmhgihnaa
