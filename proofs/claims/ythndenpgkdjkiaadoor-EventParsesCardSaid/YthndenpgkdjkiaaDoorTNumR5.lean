import Derived.Test.YthndenpgkdjkiaaDoorTNumR4
namespace Go.Proofs.YthndenpgkdjkiaaDoor
open Go.Shelf Go.RowKit Go.Sort
set_option linter.unusedVariables false
set_option maxRecDepth 100000

theorem number40_out (s : Bs) (h : s.length = 0 ∨ 20 < s.length) (w : World) : Calls Tryd.prog 40 #[.string (B s)] w fun e w' => e = .returned (.tuple #[.int .i64 0, .bool false]) ∧ Below w.heap.size w w' := by
  have hsz : (B s).size = s.length := by show s.toArray.size = _; simp
  rcases h with h | h
  · have e0 : ((s.length : Int) == 0) = true := by rw [h]; rfl
    have e2 : (((B s).size : Int) == 0) = true := by rw [hsz, h]; rfl
    generalize B s = S at *
    go_enter Tryd.func40, Tryd.ntmps40
    go_wp2
    go_ret2
    exact ⟨rfl, Below.refl _ _⟩
  · have e0 : ((s.length : Int) == 0) = false := by rw [beq_eq_false_iff_ne]; omega
    have e2 : (((B s).size : Int) == 0) = false := by rw [hsz]; exact e0
    have e1 : ((s.length : Int) > 20) := by omega
    have e3 : (((B s).size : Int) > 20) := by rw [hsz]; exact e1
    generalize B s = S at *
    go_enter Tryd.func40, Tryd.ntmps40
    go_wp2
    go_ret2
    exact ⟨rfl, Below.refl _ _⟩
theorem number40 (s : Bs) (w : World) : Calls Tryd.prog 40 #[.string (B s)] w fun e w' => e = .returned (.tuple #[.int .i64 ((number s).getD 0), .bool (number s).isSome]) ∧ Below w.heap.size w w' := by
  by_cases h : s.length = 0 ∨ 20 < s.length
  · have hn : number s = none := by
      cases hn : number s with
      | none => rfl
      | some n =>
        obtain ⟨e1, e2⟩ := itoa_number s n hn
        have := itoa_len20 n e2
        have := itoa_ne n
        rw [← e1] at *
        rcases h with h | h
        · exact absurd (List.length_eq_zero_iff.1 h) this
        · omega
    rw [hn]
    exact number40_out s h w
  · have hne : s ≠ [] := fun e => h (.inl (by rw [e]; rfl))
    by_cases h45 : s.head? = some 45
    · obtain ⟨t, rfl⟩ : ∃ t, s = 45 :: t := by
        cases s with
        | nil => cases h45
        | cons c t => injection h45 with h45; subst h45; exact ⟨t, rfl⟩
      exact number40_minus (45 :: t) t rfl (by omega) w _ (refNum_minus t)
    · exact number40_plus s s rfl hne (by omega) h45 w _ (refNum_plus s h45)
end Go.Proofs.YthndenpgkdjkiaaDoor
