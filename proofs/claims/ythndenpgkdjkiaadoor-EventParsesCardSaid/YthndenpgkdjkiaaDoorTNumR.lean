import Derived.Test.YthndenpgkdjkiaaDoorTScript3
import Derived.Laws.BytesArg
namespace Go.Proofs.YthndenpgkdjkiaaDoor
open Go.Shelf Go.RowKit Go.Sort
set_option linter.unusedVariables false
set_option maxRecDepth 100000

theorem tdiv_neg10 (m : Nat) : Int.tdiv (-(m : Int)) 10 = -((m / 10 : Nat) : Int) := by
  rw [Int.neg_tdiv]
  congr 1
theorem tmod_neg10 (m : Nat) : Int.tmod (-(m : Int)) 10 = -((m % 10 : Nat) : Int) := by
  rw [Int.neg_tmod]
  congr 1
theorem decDigits_len (u : Nat) : (Lib.decDigits u).length ≤ u + 1 := by
  induction u using Nat.strongRecOn with
  | ind u ih =>
    rw [Lib.decDigits]
    split
    · simp
    · have := ih (u / 10) (by omega)
      simp
      omega
theorem tail127_small (m : Nat) (hm : m < 10) (w : World) : Calls Tryd.prog 127 #[.int .i64 (-(m : Int))] w fun e w' => e = .returned (.string (B (Lib.decDigits m))) ∧ Below w.heap.size w w' := by
  have hd : Lib.decDigits m = [UInt8.ofNat (48 + m)] := by rw [Lib.decDigits, dif_pos hm]
  rw [hd]
  have h1 : -(m : Int) > -10 := by omega
  have hn := alloc_new w (.cells #[.int .u8 (48 + (m : Int))] 5 (0, 0))
  have hc : ∀ i, i < 1 → (w.alloc (.cells #[.int .u8 (48 + (m : Int))] 5 (0, 0))).cell? ⟨w.heap.size, 0 + i, none⟩ = some (.int .u8 ([48 + (m : Int)].getD i 0)) := by
    intro i hi
    obtain rfl : i = 0 := by omega
    rw [Lib.cell_of_heap hn]
    rfl
  have hcv := run_convert_bytes_arg (P := Tryd.prog) _ 90 5 Tryd.underlying90 Tryd.underlying5 w.heap.size 0 1 1 [48 + (m : Int)] rfl hc 9 Tryd.underlying9
  have hs : strOfNums [48 + (m : Int)] = B [UInt8.ofNat (48 + m)] := by
    have e : (48 + (m : Int)).toNat = 48 + m := by omega
    simp [strOfNums, e]
  rw [hs] at hcv
  clear hc hn hs hd
  generalize UInt8.ofNat (48 + m) = u at *
  go_enter Tryd.func127, Tryd.ntmps127
  go_wp2
  go_ret
  exact ⟨rfl, (Below.refl _ _).alloc (Nat.le_refl _) _⟩
theorem tail127 (m : Nat) : ∀ (w : World), m ≤ 9223372036854775808 → Calls Tryd.prog 127 #[.int .i64 (-(m : Int))] w fun e w' => e = .returned (.string (B (Lib.decDigits m))) ∧ Below w.heap.size w w' := by
  induction m using Nat.strongRecOn with
  | ind m ih =>
    intro w hm
    by_cases h : m < 10
    · exact tail127_small m h w
    · have hd : Lib.decDigits m = Lib.decDigits (m / 10) ++ Lib.decDigits (m % 10) := by
        rw [Lib.decDigits, dif_neg h]
        congr 1
        rw [Lib.decDigits, dif_pos (by omega)]
      rw [hd]
      have h1 : ¬(-(m : Int) > -10) := by omega
      have e1 := tdiv_neg10 m
      have e2 := tmod_neg10 m
      go_enter Tryd.func127, Tryd.ntmps127
      have l1 := decDigits_len (m / 10)
      have l2 := decDigits_len (m % 10)
      have a1 := addStr (Lib.decDigits (m / 10)) (Lib.decDigits (m % 10)) (by omega)
      go_wp2_with fail
      refine (ih (m / 10) (by omega) w (by omega)).mono ?_
      rintro e w1 ⟨rfl, b1⟩
      go_wp2_with fail
      refine (ih (m % 10) (by omega) w1 (by omega)).mono ?_
      rintro e w2 ⟨rfl, b2⟩
      go_wp2
      go_ret
      exact ⟨rfl, b1.trans (b2.mono b1.size)⟩
end Go.Proofs.YthndenpgkdjkiaaDoor
