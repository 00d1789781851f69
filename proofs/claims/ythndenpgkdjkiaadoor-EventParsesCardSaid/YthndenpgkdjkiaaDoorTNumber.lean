import Derived.Test.YthndenpgkdjkiaaDoorTShelf
import Derived.Test.YthndenpgkdjkiaaDoorTNum
import Derived.Outline
import Derived.Lib.Hide
import Derived.Lib.ConvBytes
namespace Go.Proofs.YthndenpgkdjkiaaDoor
open Go.Shelf Go.RowKit
set_option linter.unusedVariables false
set_option maxRecDepth 100000

theorem conv90 (D : ByteArray) (W : World) : (convert 9 90 (.string ⟨D.data⟩)).run Tryd.prog W = .ok (.slice (some ⟨W.heap.size, 0, none⟩) D.size (grownCap W D.size 0 5)) (Lib.bytesWorld W 5 D) :=
  Lib.run_convert_string_bytes W 9 90 5 D Tryd.underlying9 Tryd.underlying90 Tryd.underlying5
theorem bw_below (W : World) (e : TypeId) (s : ByteArray) : Below W.heap.size W (Lib.bytesWorld W e s) :=
  ⟨rfl, rfl, rfl, by rw [Lib.bytesWorld_size]; omega, fun i hi => Lib.bytesWorld_at_old W e s i (by omega)⟩
def numEnd (minus : Bool) (r : Option Int) : Option Int :=
  match r with
  | some n => if minus then some n else if n = -9223372036854775808 then none else some (-n)
  | none => none
theorem numLoop_drop (l : Bs) (k : Nat) (hk : k < l.length) (n : Int) : numLoop (l.drop k) n = if ((l[k]).toNat : Int) < 48 ∨ 57 < ((l[k]).toNat : Int) ∨ n < -922337203685477580 ∨ n * 10 < -9223372036854775808 + (((l[k]).toNat : Int) - 48) then none else numLoop (l.drop (k + 1)) (n * 10 - (((l[k]).toNat : Int) - 48)) := by
  rw [List.drop_eq_getElem_cons hk]
  rfl

set_option maxHeartbeats 2000000 in
theorem number39_go (s D : ByteArray) (minus : Bool) (hp : Lib.hasPrefix s.data.toList [45] = minus) (ht : Lib.trimPrefix s.data.toList [45] = D.data.toList) (w : World) (hsz : D.size ≤ 4294967280)
    (h0 : D.toList.isEmpty = false) (hpos : 0 < D.size) (h48 : (((D[0]'hpos).toNat : Int) == 48) = false) :
    Calls Tryd.prog 39 #[.string s] w fun e w' => e = .returned (.tuple #[.int .i64 ((numEnd minus (numLoop D.data.toList 0)).getD 0), .bool (numEnd minus (numLoop D.data.toList 0)).isSome]) ∧ Below w.heap.size w w' := by
  have hcv := conv90 D
  go_enter Tryd.func39, Tryd.ntmps39
  go_wp2_with (go_at_call 93; refine (Tryd.strings_CutPrefix _ _ _).mono ?_; rw [hp, ht]; rintro e w1 ⟨rfl, rfl⟩)
  have hbel := bw_below w1 5 D
  have hcell := fun j hj => Lib.bytesWorld_cell w1 5 D j hj
  generalize Lib.bytesWorld w1 5 D = W at *
  generalize grownCap w1 D.size 0 5 = cap at *
  have hl : D.data.toList.length = D.size := by rw [Array.length_toList]; rfl
  replace hl := Lib.hid hl
  go_loopw [2, 28] (fun n i wr => ∃ (k : Nat) (m : Int), k ≤ D.size ∧ i = .int .i64 k ∧ n = .int .i64 m ∧ -9223372036854775808 ≤ m ∧ m ≤ 0 ∧ W = wr ∧ numLoop (D.data.toList.drop k) m = numLoop D.data.toList 0) (fun _ i _ => D.size - (intOf i).toNat)
  case atStart => exact ⟨0, 0, Nat.zero_le _, rfl, rfl, by omega, by omega, rfl, rfl⟩
  case round =>
    obtain ⟨k, m, hk, rfl, rfl, hm1, hm2, rfl, hnl⟩ := hrel
    by_cases hlt : k < D.size
    · obtain ⟨c, hc, hc255, hstep⟩ : ∃ c : Nat, W.cell? ⟨w1.heap.size, k, none⟩ = some (.int .u8 (c : Int)) ∧ c ≤ 255 ∧ numLoop (D.data.toList.drop k) m = (if (c : Int) < 48 ∨ 57 < (c : Int) ∨ m < -922337203685477580 ∨ m * 10 < -9223372036854775808 + ((c : Int) - 48) then none else numLoop (D.data.toList.drop (k + 1)) (m * 10 - ((c : Int) - 48))) := by
        have hk' : k < D.data.toList.length := by rw [hl.out]; exact hlt
        refine ⟨(D.data.toList[k]).toNat, ?_, by have := (D.data.toList[k]).toNat_lt; omega, numLoop_drop D.data.toList k hk' m⟩
        rw [hcell k hlt, List.getD_eq_getElem?_getD, List.getElem?_eq_getElem hk']
        rfl
      rw [hnl] at hstep
      clear hcell hnl
      by_cases c1 : (c : Int) < 48
      · rw [if_pos (.inl c1)] at hstep
        replace hstep := Lib.hid hstep
        go_wp2
        go_ret2
        rw [hstep.out]
        exact ⟨rfl, hbel⟩
      by_cases c2 : (57 : Int) < (c : Int)
      · rw [if_pos (.inr (.inl c2))] at hstep
        replace hstep := Lib.hid hstep
        go_wp2
        go_ret2
        rw [hstep.out]
        exact ⟨rfl, hbel⟩
      by_cases c3 : m < -922337203685477580
      · rw [if_pos (.inr (.inr (.inl c3)))] at hstep
        replace hstep := Lib.hid hstep
        go_wp2
        go_ret2
        rw [hstep.out]
        exact ⟨rfl, hbel⟩
      by_cases c4 : m * 10 < -9223372036854775808 + ((c : Int) - 48)
      · rw [if_pos (.inr (.inr (.inr c4)))] at hstep
        replace hstep := Lib.hid hstep
        go_wp2
        go_ret2
        rw [hstep.out]
        exact ⟨rfl, hbel⟩
      rw [if_neg (by omega)] at hstep
      replace hstep := Lib.hid hstep
      go_wp2
      go_roundw
      case rel => exact ⟨k + 1, m * 10 - ((c : Int) - 48), by omega, by go_num, rfl, by omega, by omega, trivial, hstep.out.symm⟩
      case measure => simp [intOf]; omega
    · obtain rfl : k = D.size := by omega
      rw [List.drop_of_length_le (by rw [hl.out]; exact Nat.le_refl _)] at hnl
      replace hnl := Lib.hid hnl
      cases minus with
      | true =>
        go_wp2
        go_ret2
        rw [← hnl.out]
        exact ⟨rfl, hbel⟩
      | false =>
        by_cases h5 : m = -9223372036854775808
        · have h6 : (m == -9223372036854775808) = true := by rw [h5]; rfl
          go_wp2
          go_ret2
          have e : numEnd false (numLoop [] m) = none := by simp [numEnd, numLoop, h5]
          rw [← hnl.out, e]
          exact ⟨rfl, hbel⟩
        · have h6 : (m == -9223372036854775808) = false := by rw [beq_eq_false_iff_ne]; exact h5
          go_wp2
          go_ret2
          have e : numEnd false (numLoop [] m) = some (-m) := by simp [numEnd, numLoop, h5]
          rw [← hnl.out, e]
          exact ⟨rfl, hbel⟩

set_option maxHeartbeats 2000000 in
theorem number39_zero (s D : ByteArray) (minus : Bool) (hp : Lib.hasPrefix s.data.toList [45] = minus) (ht : Lib.trimPrefix s.data.toList [45] = D.data.toList) (w : World) (hsz : D.size ≤ 4294967280)
    (h0 : D.toList.isEmpty = false) (hpos : 0 < D.size) (h48 : (((D[0]'hpos).toNat : Int) == 48) = true) (hz : (!s.toList == [48]) = false) :
    Calls Tryd.prog 39 #[.string s] w fun e w' => e = .returned (.tuple #[.int .i64 ((numEnd minus (numLoop D.data.toList 0)).getD 0), .bool (numEnd minus (numLoop D.data.toList 0)).isSome]) ∧ Below w.heap.size w w' := by
  have hcv := conv90 D
  go_enter Tryd.func39, Tryd.ntmps39
  go_wp2_with (go_at_call 93; refine (Tryd.strings_CutPrefix _ _ _).mono ?_; rw [hp, ht]; rintro e w1 ⟨rfl, rfl⟩)
  have hbel := bw_below w1 5 D
  have hcell := fun j hj => Lib.bytesWorld_cell w1 5 D j hj
  generalize Lib.bytesWorld w1 5 D = W at *
  generalize grownCap w1 D.size 0 5 = cap at *
  have hl : D.data.toList.length = D.size := by rw [Array.length_toList]; rfl
  replace hl := Lib.hid hl
  go_loopw [2, 28] (fun n i wr => ∃ (k : Nat) (m : Int), k ≤ D.size ∧ i = .int .i64 k ∧ n = .int .i64 m ∧ -9223372036854775808 ≤ m ∧ m ≤ 0 ∧ W = wr ∧ numLoop (D.data.toList.drop k) m = numLoop D.data.toList 0) (fun _ i _ => D.size - (intOf i).toNat)
  case atStart => exact ⟨0, 0, Nat.zero_le _, rfl, rfl, by omega, by omega, rfl, rfl⟩
  case round =>
    obtain ⟨k, m, hk, rfl, rfl, hm1, hm2, rfl, hnl⟩ := hrel
    by_cases hlt : k < D.size
    · obtain ⟨c, hc, hc255, hstep⟩ : ∃ c : Nat, W.cell? ⟨w1.heap.size, k, none⟩ = some (.int .u8 (c : Int)) ∧ c ≤ 255 ∧ numLoop (D.data.toList.drop k) m = (if (c : Int) < 48 ∨ 57 < (c : Int) ∨ m < -922337203685477580 ∨ m * 10 < -9223372036854775808 + ((c : Int) - 48) then none else numLoop (D.data.toList.drop (k + 1)) (m * 10 - ((c : Int) - 48))) := by
        have hk' : k < D.data.toList.length := by rw [hl.out]; exact hlt
        refine ⟨(D.data.toList[k]).toNat, ?_, by have := (D.data.toList[k]).toNat_lt; omega, numLoop_drop D.data.toList k hk' m⟩
        rw [hcell k hlt, List.getD_eq_getElem?_getD, List.getElem?_eq_getElem hk']
        rfl
      rw [hnl] at hstep
      clear hcell hnl
      by_cases c1 : (c : Int) < 48
      · rw [if_pos (.inl c1)] at hstep
        replace hstep := Lib.hid hstep
        go_wp2
        go_ret2
        rw [hstep.out]
        exact ⟨rfl, hbel⟩
      by_cases c2 : (57 : Int) < (c : Int)
      · rw [if_pos (.inr (.inl c2))] at hstep
        replace hstep := Lib.hid hstep
        go_wp2
        go_ret2
        rw [hstep.out]
        exact ⟨rfl, hbel⟩
      by_cases c3 : m < -922337203685477580
      · rw [if_pos (.inr (.inr (.inl c3)))] at hstep
        replace hstep := Lib.hid hstep
        go_wp2
        go_ret2
        rw [hstep.out]
        exact ⟨rfl, hbel⟩
      by_cases c4 : m * 10 < -9223372036854775808 + ((c : Int) - 48)
      · rw [if_pos (.inr (.inr (.inr c4)))] at hstep
        replace hstep := Lib.hid hstep
        go_wp2
        go_ret2
        rw [hstep.out]
        exact ⟨rfl, hbel⟩
      rw [if_neg (by omega)] at hstep
      replace hstep := Lib.hid hstep
      go_wp2
      go_roundw
      case rel => exact ⟨k + 1, m * 10 - ((c : Int) - 48), by omega, by go_num, rfl, by omega, by omega, trivial, hstep.out.symm⟩
      case measure => simp [intOf]; omega
    · obtain rfl : k = D.size := by omega
      rw [List.drop_of_length_le (by rw [hl.out]; exact Nat.le_refl _)] at hnl
      replace hnl := Lib.hid hnl
      cases minus with
      | true =>
        go_wp2
        go_ret2
        rw [← hnl.out]
        exact ⟨rfl, hbel⟩
      | false =>
        by_cases h5 : m = -9223372036854775808
        · have h6 : (m == -9223372036854775808) = true := by rw [h5]; rfl
          go_wp2
          go_ret2
          have e : numEnd false (numLoop [] m) = none := by simp [numEnd, numLoop, h5]
          rw [← hnl.out, e]
          exact ⟨rfl, hbel⟩
        · have h6 : (m == -9223372036854775808) = false := by rw [beq_eq_false_iff_ne]; exact h5
          go_wp2
          go_ret2
          have e : numEnd false (numLoop [] m) = some (-m) := by simp [numEnd, numLoop, h5]
          rw [← hnl.out, e]
          exact ⟨rfl, hbel⟩

theorem number39_no (s D : ByteArray) (minus : Bool) (hp : Lib.hasPrefix s.data.toList [45] = minus) (ht : Lib.trimPrefix s.data.toList [45] = D.data.toList) (w : World)
    (h : D.toList = [] ∨ D.toList.isEmpty = false ∧ ∃ hpos : 0 < D.size, (((D[0]'hpos).toNat : Int) == 48) = true ∧ (!s.toList == [48]) = true) :
    Calls Tryd.prog 39 #[.string s] w fun e w' => e = .returned (.tuple #[.int .i64 0, .bool false]) ∧ Below w.heap.size w w' := by
  rcases h with h | ⟨h0, hpos, h48, h1⟩
  · have hD : D.data.toList = [] := by
      rw [← ByteArray.toList_eq D]
      exact h
    rw [hD] at ht
    go_enter Tryd.func39, Tryd.ntmps39
    go_wp2_with (go_at_call 93; refine (Tryd.strings_CutPrefix _ _ _).mono ?_; rw [hp, ht]; rintro e w1 ⟨rfl, rfl⟩)
    go_ret2
    exact ⟨rfl, Below.refl _ _⟩
  · go_enter Tryd.func39, Tryd.ntmps39
    go_wp2_with (go_at_call 93; refine (Tryd.strings_CutPrefix _ _ _).mono ?_; rw [hp, ht]; rintro e w1 ⟨rfl, rfl⟩)
    go_ret2
    exact ⟨rfl, Below.refl _ _⟩

theorem number39 (s : ByteArray) (w : World) (hsz : s.size ≤ 4294967280) :
    Calls Tryd.prog 39 #[.string s] w fun e w' => e = .returned (.tuple #[.int .i64 ((number s.data.toList).getD 0), .bool (number s.data.toList).isSome]) ∧ Below w.heap.size w w' := by
  have hsl : s.data.toList.length = s.size := by rw [Array.length_toList]; rfl
  obtain ⟨D, minus, hp, ht, hD, hcase⟩ : ∃ (D : ByteArray) (minus : Bool), Lib.hasPrefix s.data.toList [45] = minus ∧ Lib.trimPrefix s.data.toList [45] = D.data.toList ∧ D.size ≤ 4294967280 ∧
      (minus = true ∧ s.data.toList = 45 :: D.data.toList ∨ minus = false ∧ D = s ∧ s.data.toList.head? ≠ some 45) := by
    cases hl : s.data.toList with
    | nil => exact ⟨s, false, rfl, by rw [hl]; rfl, hsz, .inr ⟨rfl, rfl, by simp⟩⟩
    | cons c t =>
      by_cases hc : c = 45
      · subst hc
        refine ⟨⟨t.toArray⟩, true, rfl, rfl, ?_, .inl ⟨rfl, rfl⟩⟩
        rw [hl] at hsl
        simp at hsl
        show t.toArray.size ≤ _
        simp
        omega
      · refine ⟨s, false, ?_, ?_, hsz, .inr ⟨rfl, rfl, by simpa using hc⟩⟩
        · have : (45 == c) = false := by rw [beq_eq_false_iff_ne]; exact fun h => hc h.symm
          simp [Lib.hasPrefix, List.isPrefixOf, this]
        · rw [hl]
          simp [Lib.trimPrefix, Lib.hasPrefix]
          exact fun h => absurd h.symm hc
  have hDl : D.data.toList.length = D.size := by rw [Array.length_toList]; rfl
  by_cases h0 : D.data.toList = []
  · have hn : number s.data.toList = none := by
      rcases hcase with ⟨_, h⟩ | ⟨_, rfl, h⟩
      · rw [h, number_neg, if_pos (.inl h0)]
      · rw [h0]; rfl
    rw [hn]
    exact number39_no s D minus hp ht w (.inl (by rw [ByteArray.toList_eq]; exact h0))
  · have hpos : 0 < D.size := by
      rw [← hDl]
      exact List.length_pos_iff.2 h0
    have h0' : D.toList.isEmpty = false := by rw [ByteArray.toList_eq]; simpa using h0
    have hhead : D.data.toList.head? = some (D[0]'hpos) := by
      rw [List.head?_eq_getElem?, List.getElem?_eq_getElem (by rw [hDl]; exact hpos)]
      rfl
    have hne : D.data.toList ≠ [] := h0
    by_cases h48 : (((D[0]'hpos).toNat : Int) == 48) = true
    · have h48' : D.data.toList.head? = some 48 := by
        rw [hhead]
        congr 1
        exact UInt8.toNat_inj.1 (by have := beq_iff_eq.1 h48; simpa using (by omega : (D[0]'hpos).toNat = 48))
      by_cases hz : s.data.toList = [48]
      · rcases hcase with ⟨_, h⟩ | ⟨rfl, rfl, h⟩
        · rw [hz] at h; simp at h
        · have hn : number D.data.toList = numEnd false (numLoop D.data.toList 0) := by rw [hz]; decide
          rw [hn]
          exact number39_zero D D false hp ht w hD h0' hpos h48 (by rw [ByteArray.toList_eq, hz]; rfl)
      · have hn : number s.data.toList = none := by
          rcases hcase with ⟨_, h⟩ | ⟨_, rfl, h⟩
          · rw [h, number_neg, if_pos (.inr h48')]
          · rw [number_pos _ h, if_pos (.inr ⟨h48', hz⟩)]
        rw [hn]
        exact number39_no s D minus hp ht w (.inr ⟨h0', hpos, h48, by rw [ByteArray.toList_eq]; simpa using hz⟩)
    · have h48f : (((D[0]'hpos).toNat : Int) == 48) = false := by simpa using h48
      have h48' : D.data.toList.head? ≠ some 48 := by
        rw [hhead]
        intro he
        simp only [Option.some.injEq] at he
        rw [he] at h48
        exact h48 rfl
      have hn : number s.data.toList = numEnd minus (numLoop D.data.toList 0) := by
        rcases hcase with ⟨rfl, h⟩ | ⟨rfl, rfl, h⟩
        · rw [h, number_neg, if_neg (by rintro (h | h); exact h0 h; exact h48' h)]
          cases numLoop D.data.toList 0 <;> rfl
        · rw [number_pos _ h, if_neg (by rintro (h | h); exact h0 h; exact h48' h.1)]
          cases numLoop D.data.toList 0 <;> rfl
      rw [hn]
      exact number39_go s D minus hp ht w hD h0' hpos h48f
end Go.Proofs.YthndenpgkdjkiaaDoor
