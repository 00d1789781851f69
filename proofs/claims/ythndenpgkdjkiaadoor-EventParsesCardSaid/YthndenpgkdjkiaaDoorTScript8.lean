import Derived.Test.YthndenpgkdjkiaaDoorTScript7
namespace Go.Proofs.YthndenpgkdjkiaaDoor
open Go.Shelf Go.RowKit Go.Sort
set_option linter.unusedVariables false
set_option maxRecDepth 100000

set_option maxHeartbeats 2000000 in
theorem robin55 (w : World) : Calls Tryd.prog 55 #[.int .i64 2, .int .i64 1] w fun e w' => ∃ v, e = .returned v ∧ w'.ownsRow w.heap.size 85 3 v 2 (flat3 [(0, 1, 0), (1, 1, 1)]) ∧ Below w.heap.size w w' := by
  obtain ⟨i0, hi, hz0, hz1, hz2⟩ := info_parts info85
  have own0 := World.ownsRow_nil w w.heap.size 85 3
  go_enter Tryd.func55, Tryd.ntmps55
  go_wp2
  refine wp_loop_rounds 3 ?_
  rw [rounds_succ]
  go_wp2_with (at_builtin; refine wpList_append_own _ rfl _ _ 22 rfl w.heap.size 85 i0 (.agg #[.int .i64 0, .int .i64 0, .int .i64 0]) 3 24 Tryd.underlying22 hi hz0 hz1 hz2 rfl (by decide) _ _ _ rfl (own0.alloc _) ⟨w.heap.size, 0, none⟩ 1 1 [.int .i64 0, .int .i64 1, .int .i64 0] rfl rfl (cell_three_new _ _ _ _ _) (fun u hu => by simp at hu; rcases hu with rfl | rfl | rfl <;> rfl) (by unfold maxLen; omega) (by omega) (by rw [World.size_alloc]; omega) ?_)
  intro v1 w1 own1 hg1 _
  have b1 : Below w.heap.size w w1 := ((Below.refl w.heap.size w).alloc (Nat.le_refl _) _).grown hg1 (by rw [World.size_alloc]; omega) (fun k hk => by cases hk)
  have hz := b1.size
  go_wp2
  rw [rounds_succ]
  go_wp2_with (at_builtin; refine wpList_append_own _ rfl _ _ 22 rfl w.heap.size 85 i0 (.agg #[.int .i64 0, .int .i64 0, .int .i64 0]) 3 24 Tryd.underlying22 hi hz0 hz1 hz2 rfl (by decide) _ _ _ rfl (own1.alloc _) ⟨w1.heap.size, 0, none⟩ 1 1 [.int .i64 1, .int .i64 1, .int .i64 1] rfl rfl (cell_three_new _ _ _ _ _) (fun u hu => by simp at hu; rcases hu with rfl | rfl | rfl <;> rfl) (by unfold maxLen; omega) (by omega) (by rw [World.size_alloc]; omega) ?_)
  intro v2 w2 own2 hg2 _
  have b2 := (b1.alloc hz _).grown hg2 (by rw [World.size_alloc]; omega) (fun k hk => (own1.lt k hk).1)
  go_wp2
  rw [rounds_succ]
  go_wp2
  go_ret
  exact ⟨_, rfl, own2, b2⟩
theorem alive13 (w : World) (he : Env w) : Calls Tryd.prog 13 #[] w fun e w' => e = .returned (.bool true) ∧ Below w.heap.size w w' := by
  go_enter Tryd.func13, Tryd.ntmps13
  go_wp2_with fail
  refine (robin55 w).mono ?_
  rintro e w1 ⟨v, rfl, own, b1⟩
  have hs := sl3_own (l := [(0, 1, 0), (1, 1, 1)]) own
  obtain ⟨ao, cap, rfl⟩ := own_form own
  have hp := print15 _ _ (by decide) (by unfold inE inI; decide) w1 hs (he.below b1)
  have ht : printE [(0, 1, 0), (1, 1, 1)] = [48, 32, 49, 32, 48, 10, 49, 32, 49, 32, 49, 10] := by decide +kernel
  rw [ht] at hp
  go_wp2_with fail
  refine hp.mono ?_
  rintro e w2 ⟨rfl, b2⟩
  have hw := words17 1 2 3 w2 ((he.below b1).below b2)
  have ht2 : (if confOk 1 2 3 then lineOf 1 2 3 else []) = [49, 32, 50, 32, 51] := by decide +kernel
  rw [ht2] at hw
  go_wp2_with fail
  refine hw.mono ?_
  rintro e w3 ⟨rfl, b3⟩
  go_wp2
  go_ret
  exact ⟨rfl, (b1.trans (b2.mono b1.size)).trans (b3.mono (Nat.le_trans b1.size b2.size))⟩
end Go.Proofs.YthndenpgkdjkiaaDoor
