import Derived.Test.YthndenpgkdjkiaaDoorTNum
import Derived.Lib.Split
import Derived.Lib.SplitLaws
import Derived.Lib.IndexMore
import Derived.Lib.CountLaws
namespace Go.Proofs.YthndenpgkdjkiaaDoor
open Go.Lib
set_option linter.unusedVariables false

/-! ### Words and lines -/
def sp (x : UInt8) : Bs → List Bs
  | [] => [[]]
  | c :: t => if c = x then [] :: sp x t else match sp x t with
    | h :: r => (c :: h) :: r
    | [] => [[c]]
def cutOn (x : UInt8) : Bs → Bs × Bs × Bool
  | [] => ([], [], false)
  | c :: t => if c = x then ([], t, true) else (c :: (cutOn x t).1, (cutOn x t).2.1, (cutOn x t).2.2)
theorem sp_ne (x : UInt8) (s : Bs) : sp x s ≠ [] := by
  cases s with
  | nil => simp [sp]
  | cons c t =>
    rw [sp]
    split
    · simp
    · split <;> simp
theorem sp_cons_ne (x c : UInt8) (t : Bs) (h : c ≠ x) : ∃ a r, sp x t = a :: r ∧ sp x (c :: t) = (c :: a) :: r := by
  cases hs : sp x t with
  | nil => exact absurd hs (sp_ne x t)
  | cons a r => exact ⟨a, r, rfl, by rw [sp, if_neg h, hs]⟩
theorem isPrefix_one (x c : UInt8) (t : Bs) : [x].isPrefixOf (c :: t) = (x == c) := by simp [List.isPrefixOf]
theorem index_eq (x : UInt8) (t : Bs) : index (x :: t) [x] = 0 := by rw [index, if_pos (by rw [isPrefix_one]; simp)]
theorem index_ne (x c : UInt8) (t : Bs) (h : c ≠ x) : index (c :: t) [x] = if index t [x] == -1 then -1 else index t [x] + 1 := by
  rw [index, if_neg]
  rw [isPrefix_one]
  simpa using fun e => h e.symm
theorem index_nil (x : UInt8) : index [] [x] = -1 := rfl
theorem index_ge1 (x : UInt8) (t : Bs) : -1 ≤ index t [x] := by
  induction t with
  | nil => rw [index_nil]; omega
  | cons c t ih =>
    by_cases h : c = x
    · subst h; rw [index_eq]; omega
    · rw [index_ne x c t h]; split <;> omega
theorem count_pos_index (x : UInt8) (t : Bs) : (count t [x] = 0 ↔ index t [x] = -1) := by
  constructor
  · intro h
    rcases Int.lt_or_le (index t [x]) 0 with hi | hi
    · have := index_ge1 x t; omega
    · obtain ⟨i, hi⟩ := Int.eq_ofNat_of_zero_le hi
      rw [count_hit (by simp) hi] at h
      omega
  · exact count_miss
theorem splitK_eq (x : UInt8) (s : Bs) : splitK [x] 0 (count s [x]) s = sp x s := by
  induction s with
  | nil => rfl
  | cons c t ih =>
    by_cases h : c = x
    · subst h
      rw [count_cons_eq, Nat.add_comm 1, splitK, index_eq, if_neg (by decide), sp, if_pos rfl]
      simp [ih]
    · obtain ⟨a, r, h1, h2⟩ := sp_cons_ne x c t h
      rw [count_cons_ne c x t h, h2]
      rw [h1] at ih
      cases hk : count t [x] with
      | zero =>
        rw [hk] at ih
        simp only [splitK] at ih ⊢
        injection ih with e1 e2
        rw [e1, ← e2]
      | succ k =>
        rw [hk] at ih
        have hne : index t [x] ≠ -1 := fun he => by rw [(count_pos_index x t).2 he] at hk; cases hk
        have hge := index_ge1 x t
        obtain ⟨i, hi⟩ := Int.eq_ofNat_of_zero_le (show 0 ≤ index t [x] by omega)
        rw [splitK, hi, if_neg (by simp)] at ih
        rw [splitK, index_ne x c t h, hi, if_neg (show ¬(((i : Int) == -1) = true) by simp), if_neg (by simp; omega)]
        injection ih with e1 e2
        simp only [List.length_cons, List.length_nil, Nat.add_zero, Int.toNat_natCast, Nat.zero_add] at e1 e2 ⊢
        rw [show ((i : Int) + 1).toNat = i + 1 by omega]
        rw [List.take_succ_cons, List.drop_succ_cons, e1, e2]
theorem cut_eq (x : UInt8) (s : Bs) : cut s [x] = cutOn x s := by
  induction s with
  | nil => rfl
  | cons c t ih =>
    by_cases h : c = x
    · subst h
      unfold cut
      rw [index_eq, if_pos (by omega), cutOn, if_pos rfl]
      simp
    · unfold cut at ih ⊢
      rw [index_ne x c t h, cutOn, if_neg h, ← ih]
      have hge := index_ge1 x t
      by_cases hm : index t [x] = -1
      · rw [hm, if_pos (show (((-1 : Int) == -1) = true) by decide)]
        simp
      · rw [if_neg (show ¬((index t [x] == -1) = true) by simpa using hm)]
        obtain ⟨i, hi⟩ := Int.eq_ofNat_of_zero_le (show 0 ≤ index t [x] by omega)
        rw [hi, if_pos (by omega), if_pos (by omega), show ((i : Int) + 1).toNat = i + 1 by omega]
        simp only [Int.toNat_natCast, List.length_cons, List.length_nil, Nat.zero_add]
        rw [List.take_succ_cons, List.drop_succ_cons]
theorem sp_no (x : UInt8) (l : Bs) (h : x ∉ l) : sp x l = [l] := by
  induction l with
  | nil => rfl
  | cons c t ih =>
    have h1 : c ≠ x := fun e => h (by simp [e])
    rw [sp, if_neg h1, ih (fun e => h (by simp [e]))]
theorem sp_app (x : UInt8) (l r : Bs) (h : x ∉ l) : sp x (l ++ x :: r) = l :: sp x r := by
  induction l with
  | nil => rw [List.nil_append, sp, if_pos rfl]
  | cons c t ih =>
    have h1 : c ≠ x := fun e => h (by simp [e])
    rw [List.cons_append, sp, if_neg h1, ih (fun e => h (by simp [e]))]
/-- The words again, x between. -/
def joinOn (x : UInt8) : List Bs → Bs
  | [] => []
  | [a] => a
  | a :: b :: r => a ++ x :: joinOn x (b :: r)
theorem join_sp (x : UInt8) (s : Bs) : joinOn x (sp x s) = s := by
  induction s with
  | nil => rfl
  | cons c t ih =>
    by_cases h : c = x
    · subst h
      rw [sp, if_pos rfl]
      cases hs : sp c t with
      | nil => exact absurd hs (sp_ne c t)
      | cons a r =>
        rw [joinOn, ← hs, ih]
        rfl
    · obtain ⟨a, r, h1, h2⟩ := sp_cons_ne x c t h
      rw [h2]
      rw [h1] at ih
      cases r with
      | nil => simp only [joinOn] at ih ⊢; rw [ih]
      | cons b r => simp only [joinOn, List.cons_append] at ih ⊢; rw [ih]
theorem cut_app (x : UInt8) (l r : Bs) (h : x ∉ l) : cutOn x (l ++ x :: r) = (l, r, true) := by
  induction l with
  | nil => rw [List.nil_append, cutOn, if_pos rfl]
  | cons c t ih =>
    have h1 : c ≠ x := fun e => h (by simp [e])
    rw [List.cons_append, cutOn, if_neg h1, ih (fun e => h (by simp [e]))]
theorem cut_true (x : UInt8) (s : Bs) (h : (cutOn x s).2.2 = true) : s = (cutOn x s).1 ++ x :: (cutOn x s).2.1 ∧ x ∉ (cutOn x s).1 := by
  induction s with
  | nil => cases h
  | cons c t ih =>
    by_cases hc : c = x
    · subst hc
      rw [cutOn, if_pos rfl]
      simp
    · rw [cutOn, if_neg hc] at h ⊢
      obtain ⟨h1, h2⟩ := ih h
      refine ⟨?_, ?_⟩
      · simp only [List.cons_append]
        rw [← h1]
      · intro hm
        rcases List.mem_cons.1 hm with e | e
        · exact hc e.symm
        · exact h2 e
theorem cut_len (x : UInt8) (s : Bs) (h : s ≠ []) : (cutOn x s).2.1.length < s.length := by
  induction s with
  | nil => exact absurd rfl h
  | cons c t ih =>
    by_cases hc : c = x
    · subst hc; rw [cutOn, if_pos rfl]; simp
    · rw [cutOn, if_neg hc]
      by_cases ht : t = []
      · subst ht; simp [cutOn]
      · have := ih ht; simp; omega
end Go.Proofs.YthndenpgkdjkiaaDoor
