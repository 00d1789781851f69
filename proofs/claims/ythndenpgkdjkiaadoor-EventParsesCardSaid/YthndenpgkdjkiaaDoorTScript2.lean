import Derived.Test.YthndenpgkdjkiaaDoorTScript1
import Derived.Test.YthndenpgkdjkiaaDoorTSplit
namespace Go.Proofs.YthndenpgkdjkiaaDoor
open Go.Shelf Go.RowKit Go.Sort
set_option linter.unusedVariables false
set_option maxRecDepth 100000

theorem out105_in (n m : Int) (h : 1 ≤ n ∧ n ≤ m) (w : World) : Calls Tryd.prog 105 #[.int .i64 n, .int .i64 m] w fun e w' => e = .returned (.bool false) ∧ w' = w := by
  obtain ⟨h1, h2⟩ := h
  go_enter Tryd.func105, Tryd.ntmps105
  go_wp2
  go_ret
  refine ⟨?_, rfl⟩
  show Ending.returned (Value.bool (decide (n < 1) || decide (m < n))) = _
  rw [decide_eq_false (by omega), decide_eq_false (by omega)]
  rfl
theorem out105_out (n m : Int) (h : ¬(1 ≤ n ∧ n ≤ m)) (w : World) : Calls Tryd.prog 105 #[.int .i64 n, .int .i64 m] w fun e w' => e = .returned (.bool true) ∧ w' = w := by
  go_enter Tryd.func105, Tryd.ntmps105
  by_cases h1 : n < 1
  · go_wp2
    go_ret
    exact ⟨rfl, rfl⟩
  · have h2 : n > m := by omega
    clear h
    go_wp2
    go_ret
    exact ⟨rfl, rfl⟩
/-- Is that a Conf which may be? -/
def confOk (a b c : Int) : Prop := (1 ≤ a ∧ a ≤ 256) ∧ (1 ≤ b ∧ b ≤ 64) ∧ (1 ≤ c ∧ c ≤ 64)
instance (a b c : Int) : Decidable (confOk a b c) := by unfold confOk; infer_instance
set_option maxHeartbeats 1000000 in
theorem conf62 (a b c : Int) (w : World) :
    Calls Tryd.prog 62 #[.agg #[.int .i64 a, .int .i64 b, .int .i64 c]] w fun e w' => e = .returned (.int .i64 (if confOk a b c then 0 else 2)) ∧ Below w.heap.size w w' := by
  have hb := (Below.refl w.heap.size w).alloc (Nat.le_refl _) (.cells #[.int .i64 a, .int .i64 b, .int .i64 c] 24 (0, 0))
  obtain ⟨r, hr⟩ : ∃ r : Int, r = if confOk a b c then 0 else 2 := ⟨_, rfl⟩
  rw [← hr]
  replace hr := Lib.hid hr
  go_enter Tryd.func62, Tryd.ntmps62
  by_cases ha : 1 ≤ a ∧ a ≤ 256
  · by_cases hb' : 1 ≤ b ∧ b ≤ 64
    · by_cases hc : 1 ≤ c ∧ c ≤ 64
      · go_wp2_with fail
        refine (out105_in _ _ ha _).mono ?_
        rintro e w1 ⟨rfl, rfl⟩
        go_wp2_with fail
        refine (out105_in _ _ hb' _).mono ?_
        rintro e w1 ⟨rfl, rfl⟩
        go_wp2_with fail
        refine (out105_in _ _ hc _).mono ?_
        rintro e w1 ⟨rfl, rfl⟩
        go_wp2
        go_ret
        exact ⟨by rw [hr.out, if_pos ⟨ha, hb', hc⟩]; rfl, hb⟩
      · go_wp2_with fail
        refine (out105_in _ _ ha _).mono ?_
        rintro e w1 ⟨rfl, rfl⟩
        go_wp2_with fail
        refine (out105_in _ _ hb' _).mono ?_
        rintro e w1 ⟨rfl, rfl⟩
        go_wp2_with fail
        refine (out105_out _ _ hc _).mono ?_
        rintro e w1 ⟨rfl, rfl⟩
        go_wp2
        go_ret
        exact ⟨by rw [hr.out, if_neg (fun h => hc h.2.2)]; rfl, hb⟩
    · go_wp2_with fail
      refine (out105_in _ _ ha _).mono ?_
      rintro e w1 ⟨rfl, rfl⟩
      go_wp2_with fail
      refine (out105_out _ _ hb' _).mono ?_
      rintro e w1 ⟨rfl, rfl⟩
      go_wp2
      go_ret
      exact ⟨by rw [hr.out, if_neg (fun h => hb' h.2.1)]; rfl, hb⟩
  · go_wp2_with fail
    refine (out105_out _ _ ha _).mono ?_
    rintro e w1 ⟨rfl, rfl⟩
    go_wp2
    go_ret
    exact ⟨by rw [hr.out, if_neg (fun h => ha h.1)]; rfl, hb⟩
end Go.Proofs.YthndenpgkdjkiaaDoor
