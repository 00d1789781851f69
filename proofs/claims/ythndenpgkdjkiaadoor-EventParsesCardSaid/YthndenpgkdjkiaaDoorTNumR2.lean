import Derived.Test.YthndenpgkdjkiaaDoorTNumR
namespace Go.Proofs.YthndenpgkdjkiaaDoor
open Go.Shelf Go.RowKit Go.Sort
set_option linter.unusedVariables false
set_option maxRecDepth 100000

theorem decDigits_short (k : Nat) : ∀ u, u < 10 ^ (k + 1) → (Lib.decDigits u).length ≤ k + 1 := by
  induction k with
  | zero =>
    intro u h
    rw [Lib.decDigits, dif_pos (by omega)]
    simp
  | succ k ih =>
    intro u h
    rw [Lib.decDigits]
    split
    · simp
    · have := ih (u / 10) (by rw [Nat.div_lt_iff_lt_mul (by omega)]; rw [Nat.pow_succ] at h; omega)
      simp
      omega
theorem ten19 : (10 : Nat) ^ (18 + 1) = 10000000000000000000 := by decide
theorem decDigits_19 (u : Nat) (h : u ≤ 9223372036854775808) : (Lib.decDigits u).length ≤ 19 := decDigits_short 18 u (by rw [ten19]; omega)
theorem itoa_len20 (n : Int) (h : inI n) : (Lib.itoa n).length ≤ 20 := by
  obtain ⟨h1, h2⟩ := h
  unfold Lib.itoa
  split
  · have := decDigits_19 n.natAbs (by omega)
    simp
    omega
  · have := decDigits_19 n.toNat (by omega)
    omega
theorem dec91 (n : Int) (h : inI n) (w : World) : Calls Tryd.prog 91 #[.int .i64 n] w fun e w' => e = .returned (.string (B (Lib.itoa n))) ∧ Below w.heap.size w w' := by
  obtain ⟨h1, h2⟩ := h
  by_cases hn : n < 0
  · obtain ⟨m, rfl⟩ : ∃ m : Nat, n = -(m : Int) := ⟨n.natAbs, by omega⟩
    have e : Lib.itoa (-(m : Int)) = [45] ++ Lib.decDigits m := by
      unfold Lib.itoa
      rw [if_pos hn]
      simp
    rw [e]
    have l1 := decDigits_19 m (by omega)
    have a1 := addStr [45] (Lib.decDigits m) (by simp; omega)
    go_enter Tryd.func91, Tryd.ntmps91
    go_wp2_with fail
    refine (tail127 m w (by omega)).mono ?_
    rintro x w1 ⟨rfl, b1⟩
    go_wp2
    go_ret
    exact ⟨rfl, b1⟩
  · obtain ⟨m, rfl⟩ : ∃ m : Nat, n = (m : Int) := ⟨n.toNat, by omega⟩
    have e : Lib.itoa (m : Int) = Lib.decDigits m := by
      unfold Lib.itoa
      rw [if_neg hn]
      simp
    rw [e]
    go_enter Tryd.func91, Tryd.ntmps91
    go_wp2_with fail
    refine (tail127 m w (by omega)).mono ?_
    rintro x w1 ⟨rfl, b1⟩
    go_wp2
    go_ret
    exact ⟨rfl, b1⟩
theorem idx9 (l : Bs) (k : Nat) (h : k < l.length) (w : World) : (Instr.index 9 (.string (B l)) (.int .i64 (k : Int))).run Tryd.prog w = .ok (.int .u8 ((l[k]'h).toNat : Int)) w := by
  have e : (B l)[k]? = some (l[k]'h) := by
    show l.toArray[k]? = _
    simp [h]
  simp [Instr.index, run_underlying Tryd.underlying9, asIntOf, e]
end Go.Proofs.YthndenpgkdjkiaaDoor
