import Derived.Test.YthndenpgkdjkiaaDoorTScript3
import Derived.Test.YthndenpgkdjkiaaDoorTEvPure
namespace Go.Proofs.YthndenpgkdjkiaaDoor
open Go.Shelf Go.RowKit Go.Sort
set_option linter.unusedVariables false
set_option maxRecDepth 100000

abbrev evV (e : Ev) : Value := .agg #[.int .i64 e.1, .int .i64 e.2.1, .int .i64 e.2.2.1, .int .i64 e.2.2.2.1, .int .i64 e.2.2.2.2]
abbrev evO (e : Ev) : Obj := .cells #[.int .i64 e.1, .int .i64 e.2.1, .int .i64 e.2.2.1, .int .i64 e.2.2.2.1, .int .i64 e.2.2.2.2] 72 (0, 0)
theorem within139_in (n a b : Int) (h : a ≤ n ∧ n < b) (w : World) : Calls Tryd.prog 139 #[.int .i64 n, .int .i64 a, .int .i64 b] w fun e w' => e = .returned (.bool true) ∧ w' = w := by
  obtain ⟨h1, h2⟩ := h
  go_enter Tryd.func139, Tryd.ntmps139
  go_wp2
  go_ret
  exact ⟨rfl, rfl⟩
theorem within139_out (n a b : Int) (h : ¬(a ≤ n ∧ n < b)) (w : World) : Calls Tryd.prog 139 #[.int .i64 n, .int .i64 a, .int .i64 b] w fun e w' => e = .returned (.bool false) ∧ w' = w := by
  go_enter Tryd.func139, Tryd.ntmps139
  by_cases h1 : a ≤ n
  · have h2 : ¬(n < b) := by omega
    clear h
    go_wp2
    go_ret
    exact ⟨rfl, rfl⟩
  · have h2 : ¬(n ≥ a) := h1
    clear h h1
    go_wp2
    go_ret
    exact ⟨rfl, rfl⟩
set_option maxHeartbeats 2000000 in
theorem right106_go (k g f p n : Int) (hk : k = 1 ∧ n = 0 ∨ k = 2) (w : World) : Calls Tryd.prog 106 #[evV (k, g, f, p, n)] w fun e w' => e = .returned (.bool (right (k, g, f, p, n))) ∧ Below w.heap.size w w' := by
  have hb := (Below.refl w.heap.size w).alloc (Nat.le_refl _) (evO (k, g, f, p, n))
  obtain ⟨r, hr⟩ : ∃ r, right (k, g, f, p, n) = r := ⟨_, rfl⟩
  rw [hr]
  have hkb : (k == 1 && n == 0 || k == 2) = true := by
    rcases hk with ⟨rfl, rfl⟩ | rfl <;> rfl
  simp only [right, hkb, Bool.true_and] at hr
  clear hkb
  by_cases hg : 1 ≤ g ∧ g < 65
  · by_cases hf : 0 ≤ f ∧ f < 16
    · by_cases hp : 0 ≤ p ∧ p < 64
      · rw [decide_eq_true hg, decide_eq_true hf, decide_eq_true hp] at hr
        replace hr := Lib.hid hr
        rcases hk with ⟨rfl, rfl⟩ | rfl
        · go_enter Tryd.func106, Tryd.ntmps106
          go_wp2_with fail
          refine (within139_in _ _ _ hg _).mono ?_
          rintro e w1 ⟨rfl, rfl⟩
          go_wp2_with fail
          refine (within139_in _ _ _ hf _).mono ?_
          rintro e w1 ⟨rfl, rfl⟩
          go_wp2_with fail
          refine (within139_in _ _ _ hp _).mono ?_
          rintro e w1 ⟨rfl, rfl⟩
          go_wp2
          go_ret
          exact ⟨by rw [← hr.out]; rfl, hb⟩
        · go_enter Tryd.func106, Tryd.ntmps106
          go_wp2_with fail
          refine (within139_in _ _ _ hg _).mono ?_
          rintro e w1 ⟨rfl, rfl⟩
          go_wp2_with fail
          refine (within139_in _ _ _ hf _).mono ?_
          rintro e w1 ⟨rfl, rfl⟩
          go_wp2_with fail
          refine (within139_in _ _ _ hp _).mono ?_
          rintro e w1 ⟨rfl, rfl⟩
          go_wp2
          go_ret
          exact ⟨by rw [← hr.out]; rfl, hb⟩
      · rw [decide_eq_true hg, decide_eq_true hf, decide_eq_false hp] at hr
        replace hr := Lib.hid hr
        rcases hk with ⟨rfl, rfl⟩ | rfl
        · go_enter Tryd.func106, Tryd.ntmps106
          go_wp2_with fail
          refine (within139_in _ _ _ hg _).mono ?_
          rintro e w1 ⟨rfl, rfl⟩
          go_wp2_with fail
          refine (within139_in _ _ _ hf _).mono ?_
          rintro e w1 ⟨rfl, rfl⟩
          go_wp2_with fail
          refine (within139_out _ _ _ hp _).mono ?_
          rintro e w1 ⟨rfl, rfl⟩
          go_wp2
          go_ret
          exact ⟨by rw [← hr.out]; rfl, hb⟩
        · go_enter Tryd.func106, Tryd.ntmps106
          go_wp2_with fail
          refine (within139_in _ _ _ hg _).mono ?_
          rintro e w1 ⟨rfl, rfl⟩
          go_wp2_with fail
          refine (within139_in _ _ _ hf _).mono ?_
          rintro e w1 ⟨rfl, rfl⟩
          go_wp2_with fail
          refine (within139_out _ _ _ hp _).mono ?_
          rintro e w1 ⟨rfl, rfl⟩
          go_wp2
          go_ret
          exact ⟨by rw [← hr.out]; rfl, hb⟩
    · rw [decide_eq_true hg, decide_eq_false hf] at hr
      replace hr := Lib.hid hr
      rcases hk with ⟨rfl, rfl⟩ | rfl
      · go_enter Tryd.func106, Tryd.ntmps106
        go_wp2_with fail
        refine (within139_in _ _ _ hg _).mono ?_
        rintro e w1 ⟨rfl, rfl⟩
        go_wp2_with fail
        refine (within139_out _ _ _ hf _).mono ?_
        rintro e w1 ⟨rfl, rfl⟩
        go_wp2
        go_ret
        exact ⟨by rw [← hr.out]; rfl, hb⟩
      · go_enter Tryd.func106, Tryd.ntmps106
        go_wp2_with fail
        refine (within139_in _ _ _ hg _).mono ?_
        rintro e w1 ⟨rfl, rfl⟩
        go_wp2_with fail
        refine (within139_out _ _ _ hf _).mono ?_
        rintro e w1 ⟨rfl, rfl⟩
        go_wp2
        go_ret
        exact ⟨by rw [← hr.out]; rfl, hb⟩
  · rw [decide_eq_false hg] at hr
    replace hr := Lib.hid hr
    rcases hk with ⟨rfl, rfl⟩ | rfl
    · go_enter Tryd.func106, Tryd.ntmps106
      go_wp2_with fail
      refine (within139_out _ _ _ hg _).mono ?_
      rintro e w1 ⟨rfl, rfl⟩
      go_wp2
      go_ret
      exact ⟨by rw [← hr.out]; rfl, hb⟩
    · go_enter Tryd.func106, Tryd.ntmps106
      go_wp2_with fail
      refine (within139_out _ _ _ hg _).mono ?_
      rintro e w1 ⟨rfl, rfl⟩
      go_wp2
      go_ret
      exact ⟨by rw [← hr.out]; rfl, hb⟩
theorem right106 (e : Ev) (w : World) : Calls Tryd.prog 106 #[evV e] w fun x w' => x = .returned (.bool (right e)) ∧ Below w.heap.size w w' := by
  obtain ⟨k, g, f, p, n⟩ := e
  by_cases hk : k = 1 ∧ n = 0 ∨ k = 2
  · exact right106_go k g f p n hk w
  · have hb := (Below.refl w.heap.size w).alloc (Nat.le_refl _) (evO (k, g, f, p, n))
    have hr : right (k, g, f, p, n) = false := by
      have hkb : (k == 1 && n == 0 || k == 2) = false := by
        rw [Bool.eq_false_iff]
        intro h
        simp only [Bool.or_eq_true, Bool.and_eq_true, beq_iff_eq] at h
        exact hk h
      simp only [right, hkb, Bool.false_and]
    rw [hr]
    by_cases h1 : k = 1
    · subst h1
      have hn : (n != 0) = true := by
        rw [bne_iff_ne]
        intro h
        exact hk (.inl ⟨rfl, h⟩)
      clear hr hk
      go_enter Tryd.func106, Tryd.ntmps106
      go_wp2
      go_ret
      exact ⟨rfl, hb⟩
    · have h1' : (k == 1) = false := by rw [beq_eq_false_iff_ne]; exact h1
      have h2' : (k == 2) = false := by rw [beq_eq_false_iff_ne]; exact fun h => hk (.inr h)
      clear hr hk
      go_enter Tryd.func106, Tryd.ntmps106
      go_wp2
      go_ret
      exact ⟨rfl, hb⟩
end Go.Proofs.YthndenpgkdjkiaaDoor
