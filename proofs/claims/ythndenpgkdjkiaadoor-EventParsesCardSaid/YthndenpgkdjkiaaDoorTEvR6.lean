import Derived.Test.YthndenpgkdjkiaaDoorTEvR5
import Derived.Test.YthndenpgkdjkiaaDoorTEv8
namespace Go.Proofs.YthndenpgkdjkiaaDoor
open Go.Shelf Go.RowKit Go.Sort
set_option linter.unusedVariables false
set_option maxRecDepth 100000

theorem law4_big (s : Bs) (w : World) (he : Env w) (h : 1000 < s.length) : Calls Tryd.prog 4 #[.string (B s)] w fun e w' => e = .returned (.bool true) ∧ Below w.heap.size w w' := by
  have hz := B_len s
  generalize B s = S at *
  have h2 : ((S.size : Int) > 1000) := by omega
  go_enter Tryd.func4, Tryd.ntmps4
  go_wp2_with fail
  refine (alive19 _ he).mono ?_
  rintro e w1 ⟨rfl, h1⟩
  go_wp2
  go_ret
  exact ⟨rfl, h1⟩
set_option maxHeartbeats 4000000 in
theorem law4_small (s : Bs) (w : World) (he : Env w) (h2 : s.length ≤ 1000) : Calls Tryd.prog 4 #[.string (B s)] w fun e w' => e = .returned (.bool true) ∧ Below w.heap.size w w' := by
  have hsz := B_len s
  have g2 : ¬(((B s).size : Int) > 1000) := by omega
  go_enter Tryd.func4, Tryd.ntmps4
  go_wp2_with fail
  refine (parse20 s (by omega) w he _ rfl).mono ?_
  rintro e w1 ⟨b1, h1⟩
  have q21 := parse21 s (by omega) w1 _ rfl
  rcases h1 with ⟨l, v, hr, rfl, own1⟩ | ⟨m, hr, rfl⟩
  · rw [hr] at q21
    have sl1 := slN_own evCells_len own1
    obtain ⟨ao1, cap1, rfl⟩ := own_form own1
    clear own1
    go_wp2_with fail
    refine q21.mono ?_
    rintro e w2 ⟨b2, h3⟩
    rcases h3 with ⟨l2, v2, hr2, rfl, own2⟩ | ⟨m, hr2, rfl⟩
    · injection hr2 with hr2
      subst hr2
      have sl2 := slN_own evCells_len own2
      obtain ⟨ao2, cap2, rfl⟩ := own_form own2
      clear own2
      have bb2 := b1.trans (b2.mono b1.size)
      have sm := same22 _ _ l l w2 (sl1.below b2) sl2
      rw [decide_eq_true rfl] at sm
      clear hr q21
      go_wp2_with fail
      refine sm.mono ?_
      rintro e w3 ⟨rfl, b3⟩
      have bb3 := bb2.trans (b3.mono bb2.size)
      go_wp2_with fail
      refine (alive19 _ (he.below bb3)).mono ?_
      rintro e w4 ⟨rfl, b4⟩
      go_wp2
      go_ret
      exact ⟨rfl, bb3.trans (b4.mono bb3.size)⟩
    · cases hr2
  · rw [hr] at q21
    go_wp2_with fail
    refine q21.mono ?_
    rintro e w2 ⟨b2, h3⟩
    rcases h3 with ⟨l2, v2, hr2, rfl, own2⟩ | ⟨m2, hr2, rfl⟩
    · cases hr2
    · injection hr2 with hr2
      subst hr2
      have bb2 := b1.trans (b2.mono b1.size)
      have sm := same22 (.slice none 0 0) (.slice none 0 0) [] [] w2 (.inl ⟨rfl, rfl⟩) (.inl ⟨rfl, rfl⟩)
      rw [decide_eq_true rfl] at sm
      clear hr q21
      have hmm : ((m : Int) == (m : Int)) = true := by simp
      go_wp2_with fail
      refine sm.mono ?_
      rintro e w3 ⟨rfl, b3⟩
      have bb3 := bb2.trans (b3.mono bb2.size)
      go_wp2_with fail
      refine (alive19 _ (he.below bb3)).mono ?_
      rintro e w4 ⟨rfl, b4⟩
      go_wp2
      go_ret
      exact ⟨rfl, bb3.trans (b4.mono bb3.size)⟩
end Go.Proofs.YthndenpgkdjkiaaDoor
