import Derived.Test.YthndenpgkdjkiaaDoorTNumR2
import Derived.Test.YthndenpgkdjkiaaDoorTNumber
namespace Go.Proofs.YthndenpgkdjkiaaDoor
open Go.Shelf Go.RowKit Go.Sort
set_option linter.unusedVariables false
set_option maxRecDepth 100000

/-- As the reference reads a number: the digits d behind the sign; at last the number's own text must be s. -/
def refNum (s d : Bs) (minus : Bool) : Option Int := match numLoop d 0 with
  | some m => if minus then (if Lib.itoa m = s then some m else none) else if m = -9223372036854775808 then none else if Lib.itoa (-m) = s then some (-m) else none
  | none => none
theorem numLoop_range (d : Bs) : ∀ (n m : Int), -9223372036854775808 ≤ n → n ≤ 0 → numLoop d n = some m → -9223372036854775808 ≤ m ∧ m ≤ 0 := by
  induction d with
  | nil => intro n m h1 h2 h; injection h with h; omega
  | cons c t ih =>
    intro n m h1 h2 h
    rw [numLoop] at h
    split at h
    · cases h
    · rename_i hc
      have := c.toNat_lt
      exact ih _ m (by omega) (by omega) h
theorem refNum_minus (t : Bs) : refNum (45 :: t) t true = number (45 :: t) := by
  cases hn : number (45 :: t) with
  | some n =>
    obtain ⟨e1, e2⟩ := itoa_number _ n hn
    rw [number_neg] at hn
    split at hn
    · cases hn
    · unfold refNum
      rw [hn]
      simp only [if_true]
      rw [if_pos e1.symm]
  | none =>
    unfold refNum
    cases hl : numLoop t 0 with
    | none => rfl
    | some m =>
      simp only [if_true]
      rw [if_neg]
      intro e
      obtain ⟨r1, r2⟩ := numLoop_range t 0 m (by omega) (by omega) hl
      rw [← e, number_itoa m ⟨r1, by omega⟩] at hn
      cases hn
theorem refNum_plus (s : Bs) (h45 : s.head? ≠ some 45) : refNum s s false = number s := by
  cases hn : number s with
  | some n =>
    obtain ⟨e1, e2⟩ := itoa_number _ n hn
    rw [number_pos s h45] at hn
    split at hn
    · cases hn
    · unfold refNum
      cases hl : numLoop s 0 with
      | none => rw [hl] at hn; cases hn
      | some m =>
        rw [hl] at hn
        simp only at hn ⊢
        split at hn
        · cases hn
        · rename_i hm
          injection hn with hn
          rw [if_neg (by decide), if_neg hm, hn, if_pos e1.symm]
  | none =>
    unfold refNum
    cases hl : numLoop s 0 with
    | none => rfl
    | some m =>
      simp only
      rw [if_neg (by decide)]
      split
      · rfl
      · rename_i hm
        rw [if_neg]
        intro e
        obtain ⟨r1, r2⟩ := numLoop_range s 0 m (by omega) (by omega) hl
        rw [← e, number_itoa (-m) ⟨by omega, by omega⟩] at hn
        cases hn
theorem idx9_0 (c : UInt8) (t : Bs) (w : World) : (Instr.index 9 (.string (B (c :: t))) (.int .i64 0)).run Tryd.prog w = .ok (.int .u8 (c.toNat : Int)) w := by
  have := idx9 (c :: t) 0 (by simp) w
  simpa using this
end Go.Proofs.YthndenpgkdjkiaaDoor
