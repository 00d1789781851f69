import Derived.Lib.ItoaNum
namespace Go.Proofs.YthndenpgkdjkiaaDoor
open Go.Lib
set_option linter.unusedVariables false

abbrev Bs := List UInt8
/-! ### The number of digits (asm.Number) -/
def isDig (c : UInt8) : Bool := decide (48 ≤ c.toNat ∧ c.toNat ≤ 57)
def minI : Int := -9223372036854775808
/-- From n on (not above 0) the digits of ds; none: no digit, or too great. -/
def numLoop : Bs → Int → Option Int
  | [], n => some n
  | c :: t, n => if (c.toNat : Int) < 48 ∨ 57 < (c.toNat : Int) ∨ n < -922337203685477580 ∨ n * 10 < -9223372036854775808 + ((c.toNat : Int) - 48) then none else numLoop t (n * 10 - ((c.toNat : Int) - 48))
def number (s : Bs) : Option Int :=
  match s with
  | 45 :: t => if t = [] ∨ t.head? = some 48 then none else numLoop t 0
  | _ => if s = [] ∨ s.head? = some 48 ∧ s ≠ [48] then none
    else match numLoop s 0 with
      | some n => if n = -9223372036854775808 then none else some (-n)
      | none => none

def val : Bs → Nat → Nat
  | [], a => a
  | c :: t, a => val t (a * 10 + (c.toNat - 48))
theorem val_append (s t : Bs) (a : Nat) : val (s ++ t) a = val t (val s a) := by
  induction s generalizing a with
  | nil => rfl
  | cons c s ih => exact ih _
theorem val_ge (s : Bs) (a : Nat) : a ≤ val s a := by
  induction s generalizing a with
  | nil => exact Nat.le_refl _
  | cons c s ih => exact Nat.le_trans (by omega) (ih _)
theorem numLoop_iff (s : Bs) (a : Nat) (m : Int) : numLoop s (-(a : Int)) = some m ↔ (∀ c ∈ s, isDig c = true) ∧ (s ≠ [] → val s a ≤ 9223372036854775808) ∧ m = -(val s a : Int) := by
  induction s generalizing a with
  | nil => simp [numLoop, val]; exact eq_comm
  | cons c t ih =>
    have hge := val_ge t (a * 10 + (c.toNat - 48))
    have hv : val (c :: t) a = val t (a * 10 + (c.toNat - 48)) := rfl
    rw [numLoop, hv]
    by_cases hd : isDig c = true
    · have hd' : 48 ≤ c.toNat ∧ c.toNat ≤ 57 := by simpa [isDig] using hd
      have e : -(a : Int) * 10 - ((c.toNat : Int) - 48) = -((a * 10 + (c.toNat - 48) : Nat) : Int) := by omega
      by_cases hfit : a * 10 + (c.toNat - 48) ≤ 9223372036854775808
      · rw [if_neg (by omega), e, ih]
        simp only [List.mem_cons, forall_eq_or_imp, hd, true_and, ne_eq, reduceCtorEq, not_false_eq_true, forall_const]
        constructor
        · rintro ⟨h1, h2, h3⟩
          refine ⟨h1, ?_, h3⟩
          by_cases ht : t = []
          · subst ht; simpa [val] using hfit
          · exact h2 ht
        · rintro ⟨h1, h2, h3⟩
          exact ⟨h1, fun _ => h2, h3⟩
      · rw [if_pos (by omega)]
        constructor
        · intro h; cases h
        · rintro ⟨_, h2, _⟩
          have := h2 (by simp)
          omega
    · have hd' : ¬ (48 ≤ c.toNat ∧ c.toNat ≤ 57) := by simpa [isDig] using hd
      rw [if_pos (by omega)]
      constructor
      · intro h; cases h
      · rintro ⟨h1, _⟩
        exact absurd (h1 c (by simp)) hd
theorem toNat_ofNat_dig (d : Nat) (h : d < 10) : (UInt8.ofNat (48 + d)).toNat = 48 + d := by
  simp only [UInt8.toNat_ofNat']
  omega
theorem head_append (s t : Bs) (h : s ≠ []) : (s ++ t).head? = s.head? := by
  cases s with
  | nil => exact absurd rfl h
  | cons c s => rfl
theorem decDigits_dig (u : Nat) : ∀ c ∈ decDigits u, isDig c = true := by
  induction u using Nat.strongRecOn with
  | ind u ih =>
    rw [decDigits]
    split
    · rename_i h
      intro c hc
      simp only [List.mem_singleton] at hc
      subst hc
      rw [isDig, toNat_ofNat_dig _ h]; simp; omega
    · rename_i h
      intro c hc
      rcases List.mem_append.1 hc with hc | hc
      · exact ih (u / 10) (by omega) c hc
      · simp only [List.mem_singleton] at hc
        subst hc
        rw [isDig, toNat_ofNat_dig _ (show u % 10 < 10 by omega)]; simp; omega
theorem decDigits_ne (u : Nat) : decDigits u ≠ [] := by
  rw [decDigits]
  split <;> simp
theorem val_decDigits (u : Nat) : val (decDigits u) 0 = u := by
  induction u using Nat.strongRecOn with
  | ind u ih =>
    rw [decDigits]
    split
    · rename_i h
      simp only [val]
      rw [toNat_ofNat_dig _ h]
      omega
    · rename_i h
      rw [val_append, ih (u / 10) (by omega)]
      simp only [val]
      rw [toNat_ofNat_dig _ (show u % 10 < 10 by omega)]
      omega
theorem decDigits_head (u : Nat) (h : 0 < u) : (decDigits u).head? ≠ some 48 := by
  induction u using Nat.strongRecOn with
  | ind u ih =>
    rw [decDigits]
    split
    · rename_i hu
      intro he
      simp only [List.head?_cons, Option.some.injEq] at he
      have := congrArg UInt8.toNat he
      rw [toNat_ofNat_dig _ hu] at this
      simp at this
      omega
    · rename_i hu
      have hn := decDigits_ne (u / 10)
      rw [head_append _ _ hn]
      exact ih (u / 10) (by omega) (by omega)
theorem decDigits_zero : decDigits 0 = [48] := by rw [decDigits]; rfl
/-- Digits without a needless 0 at the front are those of their value. -/
theorem digits_eq (s : Bs) (hd : ∀ c ∈ s, isDig c = true) (hn : s ≠ []) (h0 : s.head? ≠ some 48 ∨ s = [48]) : s = decDigits (val s 0) := by
  have key : ∀ (n : Nat) (s : Bs), s.length = n → (∀ c ∈ s, isDig c = true) → s ≠ [] → s.head? ≠ some 48 → s = decDigits (val s 0) ∧ 0 < val s 0 := by
    intro n
    induction n with
    | zero => intro s hl _ hn _; simp at hl; exact absurd hl hn
    | succ n ih =>
      intro s hl hd hn h0
      obtain ⟨t, c, rfl⟩ : ∃ t c, s = t ++ [c] := ⟨s.dropLast, s.getLast hn, (List.dropLast_concat_getLast hn).symm⟩
      have hc := hd c (by simp)
      have hc' : 48 ≤ c.toNat ∧ c.toNat ≤ 57 := by simpa [isDig] using hc
      rw [val_append]
      have ev : val [c] (val t 0) = val t 0 * 10 + (c.toNat - 48) := rfl
      rw [ev]
      have hcc : UInt8.ofNat (48 + (c.toNat - 48)) = c := by
        rw [show 48 + (c.toNat - 48) = c.toNat by omega]
        exact UInt8.ofNat_toNat
      by_cases ht : t = []
      · subst ht
        have h1 : c.toNat ≠ 48 := by
          intro he
          apply h0
          simp only [List.nil_append, List.head?_cons, Option.some.injEq]
          exact UInt8.toNat_inj.1 (by simpa using he)
        refine ⟨?_, by simp [val]; omega⟩
        rw [decDigits, dif_pos (by simp [val]; omega)]
        simp only [val, Nat.zero_mul, Nat.zero_add, List.nil_append]
        rw [hcc]
      · have ⟨h1, h2⟩ := ih t (by simpa using hl) (fun c hc => hd c (by simp [hc])) ht (by rwa [head_append _ _ ht] at h0)
        refine ⟨?_, by omega⟩
        rw [decDigits, dif_neg (by omega), show (val t 0 * 10 + (c.toNat - 48)) / 10 = val t 0 by omega, show (val t 0 * 10 + (c.toNat - 48)) % 10 = c.toNat - 48 by omega, ← h1, hcc]
  rcases h0 with h0 | rfl
  · exact (key _ s rfl hd hn h0).1
  · rw [show val [48] 0 = 0 from rfl, decDigits_zero]
def inI (n : Int) : Prop := -9223372036854775808 ≤ n ∧ n ≤ 9223372036854775807
theorem dig_ne45 {s : Bs} (h : ∀ c ∈ s, isDig c = true) : s.head? ≠ some 45 := by
  intro he
  cases s with
  | nil => cases he
  | cons c t =>
    simp only [List.head?_cons, Option.some.injEq] at he
    subst he
    have := h 45 (by simp)
    simp [isDig] at this
theorem number_pos (s : Bs) (h45 : s.head? ≠ some 45) : number s = if s = [] ∨ s.head? = some 48 ∧ s ≠ [48] then none else match numLoop s 0 with | some n => if n = -9223372036854775808 then none else some (-n) | none => none := by
  unfold number
  split
  · simp at h45
  · rfl
theorem number_neg (t : Bs) : number (45 :: t) = if t = [] ∨ t.head? = some 48 then none else numLoop t 0 := rfl
theorem number_itoa (n : Int) (h : inI n) : number (itoa n) = some n := by
  obtain ⟨h1, h2⟩ := h
  unfold itoa
  split
  · rename_i hn
    rw [number_neg, if_neg]
    · have e : (0 : Int) = -((0 : Nat) : Int) := rfl
      rw [e, numLoop_iff]
      refine ⟨decDigits_dig _, fun _ => by rw [val_decDigits]; omega, by rw [val_decDigits]; omega⟩
    · rintro (h | h)
      · exact decDigits_ne _ h
      · exact decDigits_head _ (by omega) h
  · rename_i hn
    rw [number_pos _ (dig_ne45 (decDigits_dig _)), if_neg]
    · have e : numLoop (decDigits n.toNat) 0 = some (-n) := by
        have e : (0 : Int) = -((0 : Nat) : Int) := rfl
        rw [e, numLoop_iff]
        exact ⟨decDigits_dig _, fun _ => by rw [val_decDigits]; omega, by rw [val_decDigits]; omega⟩
      rw [e]
      simp only
      rw [if_neg (by omega), Int.neg_neg]
    · rintro (h | ⟨h, h'⟩)
      · exact decDigits_ne _ h
      · by_cases h0 : n.toNat = 0
        · rw [h0, decDigits_zero] at h'
          exact h' rfl
        · exact decDigits_head _ (by omega) h
theorem itoa_number (s : Bs) (n : Int) (h : number s = some n) : s = itoa n ∧ inI n := by
  have e0 : (0 : Int) = -((0 : Nat) : Int) := rfl
  by_cases h45 : s.head? = some 45
  · cases s with
    | nil => cases h45
    | cons c t =>
      simp only [List.head?_cons, Option.some.injEq] at h45
      subst h45
      rw [number_neg] at h
      split at h
      · cases h
      · rename_i hc
        rw [e0, numLoop_iff] at h
        obtain ⟨h1, h2, h3⟩ := h
        have hn : t ≠ [] := fun he => hc (.inl he)
        have hv := digits_eq t h1 hn (.inl fun he => hc (.inr he))
        have hp : 0 < val t 0 := by
          rcases Nat.eq_zero_or_pos (val t 0) with h0 | h0
          · rw [h0, decDigits_zero] at hv
            exact absurd (.inr (by rw [hv]; rfl)) hc
          · exact h0
        have h2 := h2 hn
        refine ⟨?_, by unfold inI; omega⟩
        unfold itoa
        rw [if_pos (by omega), show n.natAbs = val t 0 by omega, ← hv]
  · rw [number_pos s h45] at h
    split at h
    · cases h
    · rename_i hc
      split at h
      · rename_i m hm
        split at h
        · cases h
        · rename_i hmin
          rw [e0, numLoop_iff] at hm
          obtain ⟨h1, h2, h3⟩ := hm
          simp only [Option.some.injEq] at h
          have hn : s ≠ [] := fun he => hc (.inl he)
          have hv := digits_eq s h1 hn (by
            by_cases hh : s.head? = some 48
            · by_cases hs : s = [48]
              · exact .inr hs
              · exact absurd (.inr ⟨hh, hs⟩) hc
            · exact .inl hh)
          have h2 := h2 hn
          refine ⟨?_, by unfold inI; omega⟩
          unfold itoa
          rw [if_neg (by omega), show n.toNat = val s 0 by omega]
          exact hv
      · cases h
theorem itoa_inj {a b : Int} (ha : inI a) (hb : inI b) (h : itoa a = itoa b) : a = b := by
  have := number_itoa a ha
  rw [h, number_itoa b hb] at this
  exact (Option.some.inj this).symm
/-- No blank and no end of a line in a number's text. -/
theorem itoa_mem (n : Int) (c : UInt8) (hc : c ∈ itoa n) : c = 45 ∨ isDig c = true := by
  unfold itoa at hc
  split at hc
  · rcases List.mem_cons.1 hc with rfl | hc
    · exact .inl rfl
    · exact .inr (decDigits_dig _ c hc)
  · exact .inr (decDigits_dig _ c hc)
theorem itoa_no (n : Int) (x : UInt8) (h1 : x ≠ 45) (h2 : isDig x = false) : x ∉ itoa n := by
  intro hc
  rcases itoa_mem n x hc with h | h
  · exact h1 h
  · rw [h2] at h; cases h
theorem itoa_ne (n : Int) : itoa n ≠ [] := by
  unfold itoa
  split
  · simp
  · exact decDigits_ne _
end Go.Proofs.YthndenpgkdjkiaaDoor
