import Derived.Test.YthndenpgkdjkiaaDoorTEv6
import Derived.Test.YthndenpgkdjkiaaDoorTNumR5
namespace Go.Proofs.YthndenpgkdjkiaaDoor
open Go.Shelf Go.RowKit Go.Sort
set_option linter.unusedVariables false
set_option maxRecDepth 100000

set_option maxHeartbeats 4000000 in
theorem right109_2 (g f p n : Int) (w : World) : Calls Tryd.prog 109 #[evV (2, g, f, p, n)] w fun x w' => x = .returned (.bool (right (2, g, f, p, n))) ∧ Below w.heap.size w w' := by
  have hb := (Below.refl w.heap.size w).alloc (Nat.le_refl _) (evO (2, g, f, p, n))
  obtain ⟨r, hr⟩ : ∃ r, right (2, g, f, p, n) = r := ⟨_, rfl⟩
  rw [hr]
  simp only [right] at hr
  by_cases hg1 : 1 ≤ g
  · by_cases hg2 : g ≤ 64
    · by_cases hf1 : 0 ≤ f
      · by_cases hf2 : f < 16
        · by_cases hp1 : 0 ≤ p
          · by_cases hp2 : p < 64
            · have hr' : r = true := by rw [← hr, decide_eq_true (by omega : 1 ≤ g ∧ g < 65), decide_eq_true (And.intro hf1 hf2), decide_eq_true (And.intro hp1 hp2)]; simp
              clear hr; subst hr'
              go_enter Tryd.func109, Tryd.ntmps109
              go_wp2
              go_ret
              exact ⟨rfl, hb⟩
            · have hr' : r = false := by rw [← hr, decide_eq_false (by omega : ¬(0 ≤ p ∧ p < 64))]; simp
              clear hr; subst hr'
              go_enter Tryd.func109, Tryd.ntmps109
              go_wp2
              go_ret
              exact ⟨rfl, hb⟩
          · have hr' : r = false := by rw [← hr, decide_eq_false (by omega : ¬(0 ≤ p ∧ p < 64))]; simp
            clear hr; subst hr'
            go_enter Tryd.func109, Tryd.ntmps109
            go_wp2
            go_ret
            exact ⟨rfl, hb⟩
        · have hr' : r = false := by rw [← hr, decide_eq_false (by omega : ¬(0 ≤ f ∧ f < 16))]; simp
          clear hr; subst hr'
          go_enter Tryd.func109, Tryd.ntmps109
          go_wp2
          go_ret
          exact ⟨rfl, hb⟩
      · have hr' : r = false := by rw [← hr, decide_eq_false (by omega : ¬(0 ≤ f ∧ f < 16))]; simp
        clear hr; subst hr'
        go_enter Tryd.func109, Tryd.ntmps109
        go_wp2
        go_ret
        exact ⟨rfl, hb⟩
    · have hr' : r = false := by rw [← hr, decide_eq_false (by omega : ¬(1 ≤ g ∧ g < 65))]; simp
      clear hr; subst hr'
      go_enter Tryd.func109, Tryd.ntmps109
      go_wp2
      go_ret
      exact ⟨rfl, hb⟩
  · have hr' : r = false := by rw [← hr, decide_eq_false (by omega : ¬(1 ≤ g ∧ g < 65))]; simp
    clear hr; subst hr'
    go_enter Tryd.func109, Tryd.ntmps109
    go_wp2
    go_ret
    exact ⟨rfl, hb⟩
set_option maxHeartbeats 4000000 in
theorem right109_1 (g f p : Int) (w : World) : Calls Tryd.prog 109 #[evV (1, g, f, p, 0)] w fun x w' => x = .returned (.bool (right (1, g, f, p, 0))) ∧ Below w.heap.size w w' := by
  have hb := (Below.refl w.heap.size w).alloc (Nat.le_refl _) (evO (1, g, f, p, 0))
  obtain ⟨r, hr⟩ : ∃ r, right (1, g, f, p, 0) = r := ⟨_, rfl⟩
  rw [hr]
  simp only [right] at hr
  by_cases hg1 : 1 ≤ g
  · by_cases hg2 : g ≤ 64
    · by_cases hf1 : 0 ≤ f
      · by_cases hf2 : f < 16
        · by_cases hp1 : 0 ≤ p
          · by_cases hp2 : p < 64
            · have hr' : r = true := by rw [← hr, decide_eq_true (by omega : 1 ≤ g ∧ g < 65), decide_eq_true (And.intro hf1 hf2), decide_eq_true (And.intro hp1 hp2)]; simp
              clear hr; subst hr'
              go_enter Tryd.func109, Tryd.ntmps109
              go_wp2
              go_ret
              exact ⟨rfl, hb⟩
            · have hr' : r = false := by rw [← hr, decide_eq_false (by omega : ¬(0 ≤ p ∧ p < 64))]; simp
              clear hr; subst hr'
              go_enter Tryd.func109, Tryd.ntmps109
              go_wp2
              go_ret
              exact ⟨rfl, hb⟩
          · have hr' : r = false := by rw [← hr, decide_eq_false (by omega : ¬(0 ≤ p ∧ p < 64))]; simp
            clear hr; subst hr'
            go_enter Tryd.func109, Tryd.ntmps109
            go_wp2
            go_ret
            exact ⟨rfl, hb⟩
        · have hr' : r = false := by rw [← hr, decide_eq_false (by omega : ¬(0 ≤ f ∧ f < 16))]; simp
          clear hr; subst hr'
          go_enter Tryd.func109, Tryd.ntmps109
          go_wp2
          go_ret
          exact ⟨rfl, hb⟩
      · have hr' : r = false := by rw [← hr, decide_eq_false (by omega : ¬(0 ≤ f ∧ f < 16))]; simp
        clear hr; subst hr'
        go_enter Tryd.func109, Tryd.ntmps109
        go_wp2
        go_ret
        exact ⟨rfl, hb⟩
    · have hr' : r = false := by rw [← hr, decide_eq_false (by omega : ¬(1 ≤ g ∧ g < 65))]; simp
      clear hr; subst hr'
      go_enter Tryd.func109, Tryd.ntmps109
      go_wp2
      go_ret
      exact ⟨rfl, hb⟩
  · have hr' : r = false := by rw [← hr, decide_eq_false (by omega : ¬(1 ≤ g ∧ g < 65))]; simp
    clear hr; subst hr'
    go_enter Tryd.func109, Tryd.ntmps109
    go_wp2
    go_ret
    exact ⟨rfl, hb⟩
theorem right109 (e : Ev) (w : World) : Calls Tryd.prog 109 #[evV e] w fun x w' => x = .returned (.bool (right e)) ∧ Below w.heap.size w w' := by
  obtain ⟨k, g, f, p, n⟩ := e
  have hb := (Below.refl w.heap.size w).alloc (Nat.le_refl _) (evO (k, g, f, p, n))
  by_cases h2 : k = 2
  · subst h2; exact right109_2 g f p n w
  · by_cases h1 : k = 1
    · subst h1
      by_cases hn : n = 0
      · subst hn; exact right109_1 g f p w
      · have hr : right (1, g, f, p, n) = false := by simp [right, hn]
        rw [hr]
        have hnb : (n != 0) = true := by rw [bne_iff_ne]; exact hn
        clear hr h2
        go_enter Tryd.func109, Tryd.ntmps109
        go_wp2
        go_ret
        exact ⟨rfl, hb⟩
    · have hr : right (k, g, f, p, n) = false := by simp [right, h1, h2]
      rw [hr]
      have b1 : (k != 1) = true := by rw [bne_iff_ne]; exact h1
      have b2 : (k != 2) = true := by rw [bne_iff_ne]; exact h2
      clear hr
      go_enter Tryd.func109, Tryd.ntmps109
      go_wp2
      go_ret
      exact ⟨rfl, hb⟩
/-- The words so far, and the one that is under way. -/
def wordsAt (s : Bs) (k : Nat) : List Bs := sp 32 (s.take k)
end Go.Proofs.YthndenpgkdjkiaaDoor
