import Derived.Test.YthndenpgkdjkiaaDoorTNumR3
namespace Go.Proofs.YthndenpgkdjkiaaDoor
open Go.Shelf Go.RowKit Go.Sort
set_option linter.unusedVariables false
set_option maxRecDepth 100000

set_option maxHeartbeats 4000000 in
theorem number40_plus (W D : Bs) (hWD : W = D) (hne : W ≠ []) (hlen : W.length ≤ 20) (h45 : W.head? ≠ some 45) (w : World) (r : Option Int) (hr : refNum W D false = r) :
    Calls Tryd.prog 40 #[.string (B W)] w fun e w' => e = .returned (.tuple #[.int .i64 (r.getD 0), .bool r.isSome]) ∧ Below w.heap.size w w' := by
  obtain ⟨G, hG⟩ : ∃ G, r.getD 0 = G := ⟨_, rfl⟩
  obtain ⟨Q, hS⟩ : ∃ Q, r.isSome = Q := ⟨_, rfl⟩
  rw [hG, hS]
  replace hG := Lib.hid hG
  replace hS := Lib.hid hS
  unfold refNum at hr
  have hix := idx9 W
  have hsz : (B W).size = (W).length := by show (W).toArray.size = _; simp
  have hpos : 0 < W.length := List.length_pos_iff.2 hne
  obtain ⟨c0, hc0, hi0⟩ : ∃ c : Int, (c == 45) = false ∧ ∀ w, (Instr.index 9 (.string (B W)) (.int .i64 0)).run Tryd.prog w = .ok (.int .u8 c) w := by
    clear hix hr hWD
    cases W with
    | nil => exact absurd rfl hne
    | cons c t =>
      refine ⟨c.toNat, ?_, idx9_0 c t⟩
      rw [beq_eq_false_iff_ne]
      intro e
      apply h45
      simp only [List.head?_cons, Option.some.injEq]
      exact UInt8.toNat_inj.1 (by simpa using (by omega : c.toNat = 45))
  obtain ⟨L, hL⟩ : ∃ L, (W).length = L := ⟨_, rfl⟩
  have hDL : D.length + 0 = L := by rw [← hL, hWD]; rfl
  have hget : ∀ (k : Nat) (h : k < D.length) (w : World), (Instr.index 9 (.string (B W)) (.int .i64 (k : Int))).run Tryd.prog w = .ok (.int .u8 ((D[k]'h).toNat : Int)) w := by
    intro k h w
    have := hix (k + 0) (by omega) w
    have e : W[k + 0]'(by omega) = D[k] := by subst hWD; simp
    rw [e] at this
    simpa using this
  have e0 : ((W.length : Int) == 0) = false := by rw [beq_eq_false_iff_ne]; omega
  have e1 : ¬((W.length : Int) > 20) := by omega
  have hWL : W.length = L := hL
  rw [hWL] at e0 e1 hsz
  have e2 : (((B W).size : Int) == 0) = false := by rw [hsz]; exact e0
  have e3 : ¬(((B W).size : Int) > 20) := by rw [hsz]; exact e1
  have hWL2 : ∀ j : Int, j < (W.length : Int) ↔ j < (L : Int) := fun j => by rw [hWL]
  clear hix hL
  replace hWD := Lib.hid hWD
  replace hWL := Lib.hid hWL
  go_enter Tryd.func40, Tryd.ntmps40
  go_wp2
  go_loopw [4, 6] (fun i n wr => ∃ (k : Nat) (m : Int), k ≤ D.length ∧ i = .int .i64 (k : Int) ∧ n = .int .i64 m ∧ -9223372036854775808 ≤ m ∧ m ≤ 0 ∧ w = wr ∧ numLoop (D.drop k) m = numLoop D 0) (fun i _ _ => L - (intOf i).toNat)
  case atStart => exact ⟨0, 0, Nat.zero_le _, by simp, rfl, by omega, by omega, rfl, rfl⟩
  case round =>
    obtain ⟨k, m, hk, rfl, rfl, hm1, hm2, rfl, hnl⟩ := hrel
    by_cases hlt : k < D.length
    · have hkL : (k : Int) < (L : Int) := by omega
      have hkW : (k : Int) < (W.length : Int) := by rw [hWL.out]; exact hkL
      have hg := hget k hlt
      have hstep := numLoop_drop D k hlt m
      rw [hnl] at hstep
      have h255 := (D[k]'hlt).toNat_lt
      obtain ⟨c, hc⟩ : ∃ c : Nat, (D[k]'hlt).toNat = c := ⟨_, rfl⟩
      rw [hc] at hg hstep h255
      clear hnl hget
      by_cases c1 : (c : Int) < 48
      · rw [if_pos (.inl c1)] at hstep
        rw [hstep] at hr
        replace hr := Lib.hid hr
        clear hstep
        go_wp2
        go_ret2
        rw [← hG.out, ← hS.out, ← hr.out]
        exact ⟨rfl, Below.refl _ _⟩
      by_cases c2 : (57 : Int) < (c : Int)
      · rw [if_pos (.inr (.inl c2))] at hstep
        rw [hstep] at hr
        replace hr := Lib.hid hr
        clear hstep
        go_wp2
        go_ret2
        rw [← hG.out, ← hS.out, ← hr.out]
        exact ⟨rfl, Below.refl _ _⟩
      obtain ⟨q, hq⟩ : ∃ q : Int, Int.tdiv (-9223372036854775808 + ((c : Int) - 48)) 10 = q := ⟨_, rfl⟩
      have hqv : q = if (c : Int) = 57 then -922337203685477579 else -922337203685477580 := by
        have hc3 : c = 48 ∨ c = 49 ∨ c = 50 ∨ c = 51 ∨ c = 52 ∨ c = 53 ∨ c = 54 ∨ c = 55 ∨ c = 56 ∨ c = 57 := by omega
        rw [← hq]
        rcases hc3 with rfl | rfl | rfl | rfl | rfl | rfl | rfl | rfl | rfl | rfl <;> decide
      have hq1 : -922337203685477580 ≤ q ∧ q ≤ -922337203685477579 := by rw [hqv]; split <;> omega
      obtain ⟨hq2, hq3⟩ := hq1
      by_cases c3 : m < q
      · have : m < -922337203685477580 ∨ m * 10 < -9223372036854775808 + ((c : Int) - 48) := by
          rw [hqv] at c3
          split at c3
          · by_cases h : m < -922337203685477580
            · exact .inl h
            · right; omega
          · exact .inl c3
        rw [if_pos (.inr (.inr this))] at hstep
        rw [hstep] at hr
        replace hr := Lib.hid hr
        clear hstep hqv
        go_wp2
        go_ret2
        rw [← hG.out, ← hS.out, ← hr.out]
        exact ⟨rfl, Below.refl _ _⟩
      have c4 : -922337203685477580 ≤ m ∧ -9223372036854775808 + ((c : Int) - 48) ≤ m * 10 := by
        rw [hqv] at c3
        split at c3 <;> omega
      rw [if_neg (by omega)] at hstep
      replace hstep := Lib.hid hstep
      have hr' := Lib.hid hr
      clear hr hqv
      obtain ⟨c5, c6⟩ := c4
      go_wp2
      go_roundw
      case rel => exact ⟨k + 1, m * 10 - ((c : Int) - 48), by omega, by go_num, by rw [Int.mul_comm], by omega, by omega, trivial, hstep.out.symm⟩
      case measure => simp [intOf]; omega
    · obtain rfl : k = D.length := by omega
      rw [List.drop_of_length_le (Nat.le_refl _)] at hnl
      rw [← hnl] at hr
      simp only [numLoop] at hr
      have hkW : ¬(((D.length : Nat) : Int) < (W.length : Int)) := by rw [hWL.out]; omega
      have hkL : ¬(((D.length : Nat) : Int) < (L : Int)) := by omega
      clear hget
      by_cases hm : m = -9223372036854775808
      · rw [if_neg (by decide), if_pos hm] at hr
        replace hr := Lib.hid hr
        have hmb : (m == -9223372036854775808) = true := by rw [hm]; rfl
        go_wp2
        go_ret2
        rw [← hG.out, ← hS.out, ← hr.out]
        exact ⟨rfl, Below.refl _ _⟩
      · have hmb : (m == -9223372036854775808) = false := by rw [beq_eq_false_iff_ne]; exact hm
        rw [if_neg (by decide), if_neg hm] at hr
        by_cases hz : Lib.itoa (-m) = W
        · rw [if_pos hz] at hr
          replace hr := Lib.hid hr
          go_wp2_with fail
          refine (dec91 (-m) ⟨by omega, by omega⟩ _).mono ?_
          rintro x w1 ⟨rfl, b1⟩
          rw [hz]
          go_wp2
          go_ret2
          rw [← hG.out, ← hS.out, ← hr.out]
          exact ⟨rfl, b1⟩
        · rw [if_neg hz] at hr
          replace hr := Lib.hid hr
          have hzb : (Lib.itoa (-m) == W) = false := by rw [beq_eq_false_iff_ne]; exact hz
          go_wp2_with fail
          refine (dec91 (-m) ⟨by omega, by omega⟩ _).mono ?_
          rintro x w1 ⟨rfl, b1⟩
          go_wp2
          go_ret2
          rw [← hG.out, ← hS.out, ← hr.out]
          exact ⟨rfl, b1⟩
set_option maxHeartbeats 4000000 in
theorem number40_minus (W D : Bs) (hWD : W = 45 :: D) (hlen : W.length ≤ 20) (w : World) (r : Option Int) (hr : refNum W D true = r) :
    Calls Tryd.prog 40 #[.string (B W)] w fun e w' => e = .returned (.tuple #[.int .i64 (r.getD 0), .bool r.isSome]) ∧ Below w.heap.size w w' := by
  obtain ⟨G, hG⟩ : ∃ G, r.getD 0 = G := ⟨_, rfl⟩
  obtain ⟨Q, hS⟩ : ∃ Q, r.isSome = Q := ⟨_, rfl⟩
  rw [hG, hS]
  replace hG := Lib.hid hG
  replace hS := Lib.hid hS
  unfold refNum at hr
  have hix := idx9 W
  have hsz : (B W).size = (W).length := by show (W).toArray.size = _; simp
  have hi0 : ∀ w, (Instr.index 9 (.string (B W)) (.int .i64 0)).run Tryd.prog w = .ok (.int .u8 45) w := by rw [hWD]; exact idx9_0 45 D
  have hpos : 0 < W.length := by rw [hWD]; simp
  obtain ⟨L, hL⟩ : ∃ L, (W).length = L := ⟨_, rfl⟩
  have hDL : D.length + 1 = L := by rw [← hL, hWD]; rfl
  have hget : ∀ (k : Nat) (h : k < D.length) (w : World), (Instr.index 9 (.string (B W)) (.int .i64 ((k : Int) + 1))).run Tryd.prog w = .ok (.int .u8 ((D[k]'h).toNat : Int)) w := by
    intro k h w
    have := hix (k + 1) (by omega) w
    have e : W[k + 1]'(by omega) = D[k] := by subst hWD; simp
    rw [e] at this
    simpa using this
  have e0 : ((W.length : Int) == 0) = false := by rw [beq_eq_false_iff_ne]; omega
  have e1 : ¬((W.length : Int) > 20) := by omega
  have hWL : W.length = L := hL
  rw [hWL] at e0 e1 hsz
  have e2 : (((B W).size : Int) == 0) = false := by rw [hsz]; exact e0
  have e3 : ¬(((B W).size : Int) > 20) := by rw [hsz]; exact e1
  have hWL2 : ∀ j : Int, j < (W.length : Int) ↔ j < (L : Int) := fun j => by rw [hWL]
  clear hix hL
  replace hWD := Lib.hid hWD
  replace hWL := Lib.hid hWL
  go_enter Tryd.func40, Tryd.ntmps40
  go_wp2
  go_loopw [4, 6] (fun i n wr => ∃ (k : Nat) (m : Int), k ≤ D.length ∧ i = .int .i64 ((k : Int) + 1) ∧ n = .int .i64 m ∧ -9223372036854775808 ≤ m ∧ m ≤ 0 ∧ w = wr ∧ numLoop (D.drop k) m = numLoop D 0) (fun i _ _ => L - (intOf i).toNat)
  case atStart => exact ⟨0, 0, Nat.zero_le _, by simp, rfl, by omega, by omega, rfl, rfl⟩
  case round =>
    obtain ⟨k, m, hk, rfl, rfl, hm1, hm2, rfl, hnl⟩ := hrel
    by_cases hlt : k < D.length
    · have hkL : ((k : Int) + 1) < (L : Int) := by omega
      have hkW : ((k : Int) + 1) < (W.length : Int) := by rw [hWL.out]; exact hkL
      have hg := hget k hlt
      have hstep := numLoop_drop D k hlt m
      rw [hnl] at hstep
      have h255 := (D[k]'hlt).toNat_lt
      obtain ⟨c, hc⟩ : ∃ c : Nat, (D[k]'hlt).toNat = c := ⟨_, rfl⟩
      rw [hc] at hg hstep h255
      clear hnl hget
      by_cases c1 : (c : Int) < 48
      · rw [if_pos (.inl c1)] at hstep
        rw [hstep] at hr
        replace hr := Lib.hid hr
        clear hstep
        go_wp2
        go_ret2
        rw [← hG.out, ← hS.out, ← hr.out]
        exact ⟨rfl, Below.refl _ _⟩
      by_cases c2 : (57 : Int) < (c : Int)
      · rw [if_pos (.inr (.inl c2))] at hstep
        rw [hstep] at hr
        replace hr := Lib.hid hr
        clear hstep
        go_wp2
        go_ret2
        rw [← hG.out, ← hS.out, ← hr.out]
        exact ⟨rfl, Below.refl _ _⟩
      obtain ⟨q, hq⟩ : ∃ q : Int, Int.tdiv (-9223372036854775808 + ((c : Int) - 48)) 10 = q := ⟨_, rfl⟩
      have hqv : q = if (c : Int) = 57 then -922337203685477579 else -922337203685477580 := by
        have hc3 : c = 48 ∨ c = 49 ∨ c = 50 ∨ c = 51 ∨ c = 52 ∨ c = 53 ∨ c = 54 ∨ c = 55 ∨ c = 56 ∨ c = 57 := by omega
        rw [← hq]
        rcases hc3 with rfl | rfl | rfl | rfl | rfl | rfl | rfl | rfl | rfl | rfl <;> decide
      have hq1 : -922337203685477580 ≤ q ∧ q ≤ -922337203685477579 := by rw [hqv]; split <;> omega
      obtain ⟨hq2, hq3⟩ := hq1
      by_cases c3 : m < q
      · have : m < -922337203685477580 ∨ m * 10 < -9223372036854775808 + ((c : Int) - 48) := by
          rw [hqv] at c3
          split at c3
          · by_cases h : m < -922337203685477580
            · exact .inl h
            · right; omega
          · exact .inl c3
        rw [if_pos (.inr (.inr this))] at hstep
        rw [hstep] at hr
        replace hr := Lib.hid hr
        clear hstep hqv
        go_wp2
        go_ret2
        rw [← hG.out, ← hS.out, ← hr.out]
        exact ⟨rfl, Below.refl _ _⟩
      have c4 : -922337203685477580 ≤ m ∧ -9223372036854775808 + ((c : Int) - 48) ≤ m * 10 := by
        rw [hqv] at c3
        split at c3 <;> omega
      rw [if_neg (by omega)] at hstep
      replace hstep := Lib.hid hstep
      have hr' := Lib.hid hr
      clear hr hqv
      obtain ⟨c5, c6⟩ := c4
      go_wp2
      go_roundw
      case rel => exact ⟨k + 1, m * 10 - ((c : Int) - 48), by omega, by go_num, by rw [Int.mul_comm], by omega, by omega, trivial, hstep.out.symm⟩
      case measure => simp [intOf]; omega
    · obtain rfl : k = D.length := by omega
      rw [List.drop_of_length_le (Nat.le_refl _)] at hnl
      rw [← hnl] at hr
      simp only [numLoop] at hr
      have hkW : ¬(((D.length : Nat) : Int) + 1 < (W.length : Int)) := by rw [hWL.out]; omega
      have hkL : ¬(((D.length : Nat) : Int) + 1 < (L : Int)) := by omega
      clear hget
      by_cases hz : Lib.itoa m = W
      · rw [if_pos hz] at hr
        replace hr := Lib.hid hr
        go_wp2_with fail
        refine (dec91 (m) ⟨by omega, by omega⟩ _).mono ?_
        rintro x w1 ⟨rfl, b1⟩
        rw [hz]
        go_wp2
        go_ret2
        rw [← hG.out, ← hS.out, ← hr.out]
        exact ⟨rfl, b1⟩
      · rw [if_neg hz] at hr
        replace hr := Lib.hid hr
        have hzb : (Lib.itoa m == W) = false := by rw [beq_eq_false_iff_ne]; exact hz
        go_wp2_with fail
        refine (dec91 (m) ⟨by omega, by omega⟩ _).mono ?_
        rintro x w1 ⟨rfl, b1⟩
        go_wp2
        go_ret2
        rw [← hG.out, ← hS.out, ← hr.out]
        exact ⟨rfl, b1⟩
end Go.Proofs.YthndenpgkdjkiaaDoor
