/-
What container/heap does to such a box (up, down, Push, Fix, Remove): contracts of the Go functions 20 to 22, 28, 29.
-/
import Derived.Test.YthndenpgkdjkiaaBox

namespace Go.Proofs.Ythndenpgkdjkiaa
open Go.RowKit
set_option linter.unusedVariables false
set_option maxRecDepth 100000

abbrev St := List Sg × List Int
def swapS (s : St) (i j : Nat) : St := (swapL s.1 i j, swapA s.1 s.2 i j)
def lessS (s : St) (i j : Nat) : Bool := sgLt (s.1.getD i (0, 0)) (s.1.getD j (0, 0))
def up (s : St) (j : Nat) : St :=
  if h : j = 0 then s else if lessS s j ((j - 1) / 2) = true then up (swapS s ((j - 1) / 2) j) ((j - 1) / 2) else s
termination_by j
decreasing_by omega
def downJ (s : St) (n i : Nat) : Nat := if 2 * i + 1 + 1 < n ∧ lessS s (2 * i + 1 + 1) (2 * i + 1) = true then 2 * i + 1 + 1 else 2 * i + 1
theorem downJ_lt (s : St) (n i : Nat) (h : 2 * i + 1 < n) : i < downJ s n i ∧ downJ s n i < n := by unfold downJ; split <;> omega
def down (s : St) (n i : Nat) : St × Nat :=
  if h : 2 * i + 1 < n then (if lessS s (downJ s n i) i = true then down (swapS s i (downJ s n i)) n (downJ s n i) else (s, i)) else (s, i)
termination_by n - i
decreasing_by have := downJ_lt s n i h; omega

/-- What may lie in a row: machines that are there, each once. -/
structure Good (l : List Sg) : Prop where
  rng : ∀ s ∈ l, 0 ≤ s.1 ∧ s.1 < 64
  nd : (l.map (·.1)).Nodup
  few : l.length ≤ 64
theorem Good.ne {l : List Sg} (h : Good l) {i j : Nat} (hi : i < l.length) (hj : j < l.length) (hne : i ≠ j) : l[i].1 ≠ l[j].1 := by
  have hp := List.pairwise_iff_getElem.1 h.nd
  rcases Nat.lt_or_gt_of_ne hne with h1 | h1
  · have := hp i j (by simpa using hi) (by simpa using hj) h1
    simpa using this
  · have := hp j i (by simpa using hj) (by simpa using hi) h1
    exact fun he => by simp at this; exact this he.symm
theorem swapL_eq (l : List Sg) (i j : Nat) (hi : i < l.length) (hj : j < l.length) : swapL l i j = (l.set i l[j]).set j l[i] := by
  simp [swapL, List.getD_eq_getElem?_getD, hi, hj]
theorem swapL_perm (l : List Sg) (i j : Nat) (hi : i < l.length) (hj : j < l.length) : (swapL l i j).Perm l := by
  rw [swapL_eq l i j hi hj]
  exact List.set_set_perm hi hj
theorem swapL_length (l : List Sg) (i j : Nat) : (swapL l i j).length = l.length := by simp [swapL]
theorem Good.perm {l m : List Sg} (h : Good l) (hp : m.Perm l) : Good m :=
  ⟨fun s hs => h.rng s (hp.mem_iff.1 hs), (hp.map _).nodup_iff.2 h.nd, by rw [hp.length_eq]; exact h.few⟩
theorem lessS_eq (s : St) (i j : Nat) (hi : i < s.1.length) (hj : j < s.1.length) : lessS s i j = sgLt s.1[i] s.1[j] := by
  simp [lessS, List.getD_eq_getElem?_getD, hi, hj]

theorem m_less (a : Addr) (w : World) : (method 216 54 (.pointer (some a)) "Less").run Try.prog w = .ok (70, .pointer (some a)) w := by kernel_rfl
theorem m_swap (a : Addr) (w : World) : (method 216 54 (.pointer (some a)) "Swap").run Try.prog w = .ok (73, .pointer (some a)) w := by kernel_rfl
theorem m_len (a : Addr) (w : World) : (method 216 54 (.pointer (some a)) "Len").run Try.prog w = .ok (19, .pointer (some a)) w := by kernel_rfl
theorem m_push (a : Addr) (w : World) : (method 216 54 (.pointer (some a)) "Push").run Try.prog w = .ok (72, .pointer (some a)) w := by kernel_rfl
theorem m_pop (a : Addr) (w : World) : (method 216 54 (.pointer (some a)) "Pop").run Try.prog w = .ok (71, .pointer (some a)) w := by kernel_rfl

def InBox (base b : Nat) (w0 w : World) (s : St) : Prop := QIs base b w s.1 s.2 ∧ Fr base w0 w
theorem swap73' (base b : Nat) (w0 w : World) (s : St) (h : InBox base b w0 w s) (hg : Good s.1) (i j : Nat) (hi : i < s.1.length) (hj : j < s.1.length) (hne : i ≠ j) :
    Calls Try.prog 73 #[.pointer (some ⟨b, 0, none⟩), .int .i64 i, .int .i64 j] w fun e w' => e = .returned (.tuple #[]) ∧ InBox base b w0 w' (swapS s i j) :=
  (swap73 base b w s.1 s.2 h.1 i j hi hj hne hg.rng (hg.ne hi hj hne)).mono fun e w' ⟨h1, h2, h3⟩ => ⟨h1, h2, h.2.trans h3⟩
theorem less70' (base b : Nat) (w0 w : World) (s : St) (h : InBox base b w0 w s) (i j : Nat) (hi : i < s.1.length) (hj : j < s.1.length) (r : Bool) (hr : lessS s i j = r) :
    Calls Try.prog 70 #[.pointer (some ⟨b, 0, none⟩), .int .i64 i, .int .i64 j] w fun e w' => e = .returned (.bool r) ∧ InBox base b w0 w' s := by
  rw [lessS_eq s i j hi hj] at hr
  exact (less70 base b w s.1 s.2 h.1 i j hi hj).mono fun e w' ⟨h1, h2⟩ => ⟨by rw [h1, hr], h.1.below h2, h.2.trans (Fr.of_below h2)⟩

set_option maxHeartbeats 1000000 in
theorem up28 (base b : Nat) (w0 w : World) (s : St) (h : InBox base b w0 w s) (hg : Good s.1) (j : Nat) (hj : j < s.1.length) :
    Calls Try.prog 28 #[.iface 54 (.pointer (some ⟨b, 0, none⟩)), .int .i64 j] w fun e w' => e = .returned (.tuple #[]) ∧ InBox base b w0 w' (up s j) := by
  have ml := m_less
  have ms := m_swap
  go_enter Try.func28, Try.ntmps28
  go_wp2
  go_loopw [1] (fun jv wr => ∃ (j' : Nat) (s' : St), jv = .int .i64 j' ∧ j' < s'.1.length ∧ Good s'.1 ∧ InBox base b w0 wr s' ∧ up s' j' = up s j) (fun jv _ => (intOf jv).toNat)
  case atStart => exact ⟨j, s, rfl, hj, hg, h, rfl⟩
  case round =>
    clear hg h hj
    obtain ⟨j, s, rfl, hj, hg, h, hup⟩ := hrel
    have hj64 := hg.few
    replace hup := Lib.hid hup
    by_cases h0 : j = 0
    · subst h0
      have hfin : up s 0 = s := by rw [up]; simp
      replace hfin := Lib.hid hfin
      go_wp2
      go_end0
      rw [← hup.out, hfin.out]
      exact ⟨rfl, h⟩
    · have e2 : ((j : Int) - 1).tdiv 2 = (((j - 1) / 2 : Nat) : Int) := by
        rw [show (j : Int) - 1 = ((j - 1 : Nat) : Int) by omega]
        rfl
      have hi : (j - 1) / 2 < j := by omega
      have hfin : up s j = if lessS s j ((j - 1) / 2) = true then up (swapS s ((j - 1) / 2) j) ((j - 1) / 2) else s := by rw [up]; simp [h0]
      generalize (j - 1) / 2 = i at *
      have e1 : ((i : Int) == (j : Int)) = false := by rw [beq_eq_false_iff_ne]; omega
      have hne : i ≠ j := by omega
      cases hr : lessS s j i with
      | false =>
        rw [hr] at hfin
        simp only [Bool.false_eq_true, if_false] at hfin
        replace hfin := Lib.hid hfin
        replace hr := Lib.hid hr
        go_wp2_with (go_at_call 70; refine (less70' base b w0 _ s h j i hj (by omega) false hr.out).mono ?_; rintro e w1 ⟨rfl, h1⟩)
        go_end0
        rw [← hup.out, hfin.out]
        exact ⟨rfl, h1⟩
      | true =>
        rw [hr] at hfin
        simp only [if_true] at hfin
        replace hfin := Lib.hid hfin
        replace hr := Lib.hid hr
        go_wp2_with (first | (go_at_call 70; refine (less70' base b w0 _ s h j i hj (by omega) true hr.out).mono ?_; rintro e w1 ⟨rfl, h1⟩) | (go_at_call 73; refine (swap73' base b w0 _ s h1 hg i j (by omega) hj hne).mono ?_; rintro e w2 ⟨rfl, h2⟩))
        go_roundw
        case rel => exact ⟨i, swapS s i j, rfl, by simp [swapS, swapL_length]; omega, hg.perm (swapL_perm _ _ _ (by omega) hj), h2, by rw [← hfin.out, hup.out]⟩
        case measure => simp [intOf]; omega
end Go.Proofs.Ythndenpgkdjkiaa

namespace Go.Proofs.Ythndenpgkdjkiaa
open Go.RowKit
set_option linter.unusedVariables false
set_option maxRecDepth 100000

theorem swapS_length (s : St) (i j : Nat) : (swapS s i j).1.length = s.1.length := by simp [swapS, swapL_length]
theorem swap73i (base b : Nat) (w0 w : World) (s : St) (h : InBox base b w0 w s) (hg : Good s.1) (i j : Nat) (x y : Int) (hx : x = i) (hy : y = j) (hi : i < s.1.length) (hj : j < s.1.length) (hne : i ≠ j) :
    Calls Try.prog 73 #[.pointer (some ⟨b, 0, none⟩), .int .i64 x, .int .i64 y] w fun e w' => e = .returned (.tuple #[]) ∧ InBox base b w0 w' (swapS s i j) := by
  subst hx hy
  exact swap73' base b w0 w s h hg i j hi hj hne
theorem less70i (base b : Nat) (w0 w : World) (s : St) (h : InBox base b w0 w s) (i j : Nat) (x y : Int) (hx : x = i) (hy : y = j) (hi : i < s.1.length) (hj : j < s.1.length) (r : Bool) (hr : lessS s i j = r) :
    Calls Try.prog 70 #[.pointer (some ⟨b, 0, none⟩), .int .i64 x, .int .i64 y] w fun e w' => e = .returned (.bool r) ∧ InBox base b w0 w' s := by
  subst hx hy
  exact less70' base b w0 w s h i j hi hj r hr

set_option maxHeartbeats 4000000 in
theorem down29 (base b : Nat) (w0 w : World) (s : St) (h : InBox base b w0 w s) (hg : Good s.1) (n i : Nat) (hn : n ≤ s.1.length) (hi : i ≤ 100) (r : Bool) (hr : decide (i < (down s n i).2) = r) :
    Calls Try.prog 29 #[.iface 54 (.pointer (some ⟨b, 0, none⟩)), .int .i64 i, .int .i64 n] w fun e w' => e = .returned (.bool r) ∧ InBox base b w0 w' (down s n i).1 := by
  have ml := m_less
  have ms := m_swap
  replace hr := Lib.hid hr
  go_enter Try.func29, Try.ntmps29
  go_wp2
  go_loopw [7] (fun jv wr => ∃ (j' : Nat) (s' : St), jv = .int .i64 j' ∧ n ≤ s'.1.length ∧ j' ≤ 100 ∧ Good s'.1 ∧ InBox base b w0 wr s' ∧ down s' n j' = down s n i) (fun jv _ => 100 - (intOf jv).toNat)
  case atStart => exact ⟨i, s, rfl, hn, hi, hg, h, rfl⟩
  case round =>
    clear hg h hn hi
    obtain ⟨j, s', rfl, hn, hj, hg, h, hup⟩ := hrel
    have hg64 := hg.few
    have hfin : down s' n j = if h : 2 * j + 1 < n then (if lessS s' (downJ s' n j) j = true then down (swapS s' j (downJ s' n j)) n (downJ s' n j) else (s', j)) else (s', j) := by rw [down]
    replace hup := Lib.hid hup
    by_cases h1 : 2 * j + 1 < n
    · rw [dif_pos h1] at hfin
      by_cases h2 : 2 * j + 1 + 1 < n
      · cases hr1 : lessS s' (2 * j + 1 + 1) (2 * j + 1) with
        | true =>
          have hJ : downJ s' n j = 2 * j + 1 + 1 := by unfold downJ; rw [if_pos ⟨h2, hr1⟩]
          rw [hJ] at hfin
          cases hr2 : lessS s' (2 * j + 1 + 1) j with
          | true =>
            simp only [hr2, if_true] at hfin
            replace hfin := Lib.hid hfin
            replace hJ := Lib.hid hJ
            replace hr1 := Lib.hid hr1
            replace hr2 := Lib.hid hr2
            go_wp2_with fail
            refine (less70i base b w0 _ s' h (2 * j + 1 + 1) (2 * j + 1) _ _ (by omega) (by omega) (by omega) (by omega) true hr1.out).mono ?_
            rintro e w1 ⟨rfl, h1'⟩
            go_wp2_with fail
            refine (less70i base b w0 _ s' h1' (2 * j + 1 + 1) j _ _ (by omega) (by omega) (by omega) (by omega) true hr2.out).mono ?_
            rintro e w2 ⟨rfl, h2'⟩
            go_wp2_with fail
            refine (swap73i base b w0 _ s' h2' hg j (2 * j + 1 + 1) _ _ (by omega) (by omega) (by omega) (by omega) (by omega)).mono ?_
            rintro e w3 ⟨rfl, h3'⟩
            go_wp2_with fail
            go_roundw
            case rel => exact ⟨2 * j + 1 + 1, swapS s' j (2 * j + 1 + 1), by go_num, by simp [swapS_length]; omega, by omega, hg.perm (swapL_perm _ _ _ (by omega) (by omega)), h3', by rw [← hfin.out, hup.out]⟩
            case measure => simp [intOf]; omega
          | false =>
            simp only [hr2, Bool.false_eq_true, if_false] at hfin
            replace hfin := Lib.hid hfin
            replace hJ := Lib.hid hJ
            replace hr1 := Lib.hid hr1
            replace hr2 := Lib.hid hr2
            go_wp2_with fail
            refine (less70i base b w0 _ s' h (2 * j + 1 + 1) (2 * j + 1) _ _ (by omega) (by omega) (by omega) (by omega) true hr1.out).mono ?_
            rintro e w1 ⟨rfl, h1'⟩
            go_wp2_with fail
            refine (less70i base b w0 _ s' h1' (2 * j + 1 + 1) j _ _ (by omega) (by omega) (by omega) (by omega) false hr2.out).mono ?_
            rintro e w2 ⟨rfl, h2'⟩
            go_wp2
            go_ret
            rw [← hup.out, hfin.out] at hr
            rw [← hup.out, hfin.out]
            exact ⟨by rw [← hr.out]; rfl, h2'⟩
        | false =>
          have hJ : downJ s' n j = 2 * j + 1 := by unfold downJ; rw [if_neg (by simp [hr1])]
          rw [hJ] at hfin
          cases hr2 : lessS s' (2 * j + 1) j with
          | true =>
            simp only [hr2, if_true] at hfin
            replace hfin := Lib.hid hfin
            replace hJ := Lib.hid hJ
            replace hr1 := Lib.hid hr1
            replace hr2 := Lib.hid hr2
            go_wp2_with fail
            refine (less70i base b w0 _ s' h (2 * j + 1 + 1) (2 * j + 1) _ _ (by omega) (by omega) (by omega) (by omega) false hr1.out).mono ?_
            rintro e w1 ⟨rfl, h1'⟩
            go_wp2_with fail
            refine (less70i base b w0 _ s' h1' (2 * j + 1) j _ _ (by omega) (by omega) (by omega) (by omega) true hr2.out).mono ?_
            rintro e w2 ⟨rfl, h2'⟩
            go_wp2_with fail
            refine (swap73i base b w0 _ s' h2' hg j (2 * j + 1) _ _ (by omega) (by omega) (by omega) (by omega) (by omega)).mono ?_
            rintro e w3 ⟨rfl, h3'⟩
            go_wp2_with fail
            go_roundw
            case rel => exact ⟨2 * j + 1, swapS s' j (2 * j + 1), by go_num, by simp [swapS_length]; omega, by omega, hg.perm (swapL_perm _ _ _ (by omega) (by omega)), h3', by rw [← hfin.out, hup.out]⟩
            case measure => simp [intOf]; omega
          | false =>
            simp only [hr2, Bool.false_eq_true, if_false] at hfin
            replace hfin := Lib.hid hfin
            replace hJ := Lib.hid hJ
            replace hr1 := Lib.hid hr1
            replace hr2 := Lib.hid hr2
            go_wp2_with fail
            refine (less70i base b w0 _ s' h (2 * j + 1 + 1) (2 * j + 1) _ _ (by omega) (by omega) (by omega) (by omega) false hr1.out).mono ?_
            rintro e w1 ⟨rfl, h1'⟩
            go_wp2_with fail
            refine (less70i base b w0 _ s' h1' (2 * j + 1) j _ _ (by omega) (by omega) (by omega) (by omega) false hr2.out).mono ?_
            rintro e w2 ⟨rfl, h2'⟩
            go_wp2
            go_ret
            rw [← hup.out, hfin.out] at hr
            rw [← hup.out, hfin.out]
            exact ⟨by rw [← hr.out]; rfl, h2'⟩
      · have hJ : downJ s' n j = 2 * j + 1 := by unfold downJ; rw [if_neg (by omega)]
        rw [hJ] at hfin
        cases hr2 : lessS s' (2 * j + 1) j with
        | true =>
            simp only [hr2, if_true] at hfin
            replace hfin := Lib.hid hfin
            replace hJ := Lib.hid hJ
            replace hr2 := Lib.hid hr2
            go_wp2_with fail
            refine (less70i base b w0 _ s' h (2 * j + 1) j _ _ (by omega) (by omega) (by omega) (by omega) true hr2.out).mono ?_
            rintro e w2 ⟨rfl, h2'⟩
            go_wp2_with fail
            refine (swap73i base b w0 _ s' h2' hg j (2 * j + 1) _ _ (by omega) (by omega) (by omega) (by omega) (by omega)).mono ?_
            rintro e w3 ⟨rfl, h3'⟩
            go_wp2_with fail
            go_roundw
            case rel => exact ⟨2 * j + 1, swapS s' j (2 * j + 1), by go_num, by simp [swapS_length]; omega, by omega, hg.perm (swapL_perm _ _ _ (by omega) (by omega)), h3', by rw [← hfin.out, hup.out]⟩
            case measure => simp [intOf]; omega
        | false =>
            simp only [hr2, Bool.false_eq_true, if_false] at hfin
            replace hfin := Lib.hid hfin
            replace hJ := Lib.hid hJ
            replace hr2 := Lib.hid hr2
            go_wp2_with fail
            refine (less70i base b w0 _ s' h (2 * j + 1) j _ _ (by omega) (by omega) (by omega) (by omega) false hr2.out).mono ?_
            rintro e w2 ⟨rfl, h2'⟩
            go_wp2
            go_ret
            rw [← hup.out, hfin.out] at hr
            rw [← hup.out, hfin.out]
            exact ⟨by rw [← hr.out]; rfl, h2'⟩
    · rw [dif_neg h1] at hfin
      replace hfin := Lib.hid hfin
      go_wp2
      go_ret
      rw [← hup.out, hfin.out] at hr
      rw [← hup.out, hfin.out]
      exact ⟨by rw [← hr.out]; rfl, h⟩
end Go.Proofs.Ythndenpgkdjkiaa

namespace Go.Proofs.Ythndenpgkdjkiaa
open Go.RowKit
set_option linter.unusedVariables false
set_option maxRecDepth 100000

def push (s : St) (x : Sg) : St := up (s.1 ++ [x], pushA s.1 s.2 x) s.1.length
theorem len19' (base b : Nat) (w0 w : World) (s : St) (h : InBox base b w0 w s) : Calls Try.prog 19 #[.pointer (some ⟨b, 0, none⟩)] w fun e w' => e = .returned (.int .i64 s.1.length) ∧ w = w' :=
  len19 base b w s.1 s.2 h.1

set_option maxHeartbeats 1000000 in
theorem push20 (base b : Nat) (w0 w : World) (s : St) (x : Sg) (h : InBox base b w0 w s) (hg : Good (s.1 ++ [x])) (hb : base ≤ w.heap.size) :
    Calls Try.prog 20 #[.iface 54 (.pointer (some ⟨b, 0, none⟩)), .iface 51 (.agg #[.int .i64 x.1, .int .i64 x.2])] w fun e w' => e = .returned (.tuple #[]) ∧ InBox base b w0 w' (push s x) := by
  have ml := m_len
  have mp := m_push
  have hx := hg.rng x (by simp)
  have hf := hg.few
  simp only [List.length_append, List.length_cons, List.length_nil] at hf
  go_enter Try.func20, Try.ntmps20
  go_wp2_with fail
  refine (push72 base b _ s.1 s.2 h.1 x hx.1 hx.2 (by omega) hb).mono ?_
  rintro e w1 ⟨rfl, h1, f1⟩
  have h1' : InBox base b w0 w1 (s.1 ++ [x], pushA s.1 s.2 x) := ⟨h1, h.2.trans f1⟩
  clear h1 f1
  go_wp2_with fail
  refine (len19' base b w0 _ _ h1').mono ?_
  rintro e w2 ⟨rfl, rfl⟩
  have hl : ((s.1 ++ [x], pushA s.1 s.2 x).1.length : Int) = (s.1.length : Int) + 1 := by simp
  go_wp2_with fail
  refine (up28 base b w0 _ _ h1' hg s.1.length (by simp)).mono ?_
  rintro e w2 ⟨rfl, h2⟩
  go_wp2
  go_end0
  exact ⟨rfl, h2⟩

def fix (s : St) (i : Nat) : St := if i < (down s s.1.length i).2 then (down s s.1.length i).1 else up (down s s.1.length i).1 i
theorem down_length (s : St) (n i : Nat) : (down s n i).1.1.length = s.1.length := by
  induction s, i using down.induct (n := n) with
  | case1 s i h hl ih => rw [down, dif_pos h, if_pos hl, ih]; exact swapS_length _ _ _
  | case2 s i h hl => rw [down, dif_pos h, if_neg hl]
  | case3 s i h => rw [down, dif_neg h]
theorem down_perm (s : St) (n i : Nat) (hn : n ≤ s.1.length) : (down s n i).1.1.Perm s.1 := by
  induction s, i using down.induct (n := n) with
  | case1 s i h hl ih =>
    rw [down, dif_pos h, if_pos hl]
    have hJ := downJ_lt s n i h
    exact (ih (by rw [swapS_length]; exact hn)).trans (swapL_perm _ _ _ (by omega) (by omega))
  | case2 s i h hl => rw [down, dif_pos h, if_neg hl]
  | case3 s i h => rw [down, dif_neg h]
theorem up_perm (s : St) (j : Nat) (hj : j < s.1.length) : (up s j).1.Perm s.1 := by
  induction s, j using up.induct with
  | case1 s => rw [up]; simp
  | case2 s j h hl ih =>
    rw [up, dif_neg h, if_pos hl]
    exact (ih (by rw [swapS_length]; omega)).trans (swapL_perm _ _ _ (by omega) (by omega))
  | case3 s j h hl => rw [up, dif_neg h, if_neg hl]

set_option maxHeartbeats 1000000 in
theorem fix21 (base b : Nat) (w0 w : World) (s : St) (h : InBox base b w0 w s) (hg : Good s.1) (i : Nat) (hi : i < s.1.length) :
    Calls Try.prog 21 #[.iface 54 (.pointer (some ⟨b, 0, none⟩)), .int .i64 i] w fun e w' => e = .returned (.tuple #[]) ∧ InBox base b w0 w' (fix s i) := by
  have ml := m_len
  have hf := hg.few
  by_cases hd : i < (down s s.1.length i).2
  · have hfin : fix s i = (down s s.1.length i).1 := by unfold fix; rw [if_pos hd]
    rw [hfin]
    go_enter Try.func21, Try.ntmps21
    go_wp2_with fail
    refine (len19' base b w0 _ _ h).mono ?_
    rintro e w2 ⟨rfl, rfl⟩
    go_wp2_with fail
    refine (down29 base b w0 _ s h hg s.1.length i (Nat.le_refl _) (by omega) true (by simpa using hd)).mono ?_
    rintro e w2 ⟨rfl, h2⟩
    go_wp2
    go_end0
    exact ⟨rfl, h2⟩
  · have hfin : fix s i = up (down s s.1.length i).1 i := by unfold fix; rw [if_neg hd]
    rw [hfin]
    go_enter Try.func21, Try.ntmps21
    go_wp2_with fail
    refine (len19' base b w0 _ _ h).mono ?_
    rintro e w2 ⟨rfl, rfl⟩
    go_wp2_with fail
    refine (down29 base b w0 _ s h hg s.1.length i (Nat.le_refl _) (by omega) false (by simpa using hd)).mono ?_
    rintro e w2 ⟨rfl, h2⟩
    go_wp2_with fail
    refine (up28 base b w0 _ _ h2 (hg.perm (down_perm s _ _ (Nat.le_refl _))) i (by rw [down_length]; exact hi)).mono ?_
    rintro e w3 ⟨rfl, h3⟩
    go_wp2
    go_end0
    exact ⟨rfl, h3⟩
end Go.Proofs.Ythndenpgkdjkiaa
namespace Go.Proofs.Ythndenpgkdjkiaa
open Go.RowKit
/-- The state ahead of Remove's Pop: the last one is that of i. -/
def toLast (s : St) (i : Nat) : St :=
  if s.1.length - 1 = i then s else if i < (down (swapS s i (s.1.length - 1)) (s.1.length - 1) i).2 then (down (swapS s i (s.1.length - 1)) (s.1.length - 1) i).1 else up (down (swapS s i (s.1.length - 1)) (s.1.length - 1) i).1 i
theorem toLast_perm (s : St) (i : Nat) (hi : i < s.1.length) : (toLast s i).1.Perm s.1 := by
  unfold toLast
  split
  · exact List.Perm.refl _
  · have h1 : (down (swapS s i (s.1.length - 1)) (s.1.length - 1) i).1.1.Perm s.1 := (down_perm _ _ _ (by rw [swapS_length]; omega)).trans (swapL_perm _ _ _ hi (by omega))
    split
    · exact h1
    · exact (up_perm _ _ (by rw [h1.length_eq]; exact hi)).trans h1
def popS (s : St) : St := (s.1.dropLast, s.2.set (s.1.getLast?.getD (0, 0)).1.toNat (-1))
def remove (s : St) (i : Nat) : St := popS (toLast s i)
theorem pop71' (base b : Nat) (w0 w : World) (s : St) (h : InBox base b w0 w s) (hg : Good s.1) (hl : 0 < s.1.length) (hbase : base ≤ w.heap.size) :
    Calls Try.prog 71 #[.pointer (some ⟨b, 0, none⟩)] w fun e w' => (∃ v, e = .returned v) ∧ InBox base b w0 w' (popS s) := by
  obtain ⟨l, x, e⟩ : ∃ l x, s.1 = l ++ [x] := ⟨s.1.dropLast, s.1.getLast (by intro h; rw [h] at hl; simp at hl), (List.dropLast_concat_getLast _).symm⟩
  have hx := hg.rng x (by rw [e]; simp)
  have hf := hg.few
  have h1 := h.1
  rw [e] at h1 hf
  simp only [List.length_append, List.length_cons, List.length_nil] at hf
  refine (pop71 base b w l x s.2 h1 hx.1 hx.2 (by omega) hbase).mono ?_
  rintro e' w' ⟨rfl, h2, f2⟩
  refine ⟨⟨_, rfl⟩, ?_, h.2.trans f2⟩
  simpa [popS, e] using h2
theorem down29i (base b : Nat) (w0 w : World) (s : St) (h : InBox base b w0 w s) (hg : Good s.1) (n i : Nat) (x y : Int) (hx : x = i) (hy : y = n) (hn : n ≤ s.1.length) (hi : i ≤ 100) (r : Bool) (hr : decide (i < (down s n i).2) = r) :
    Calls Try.prog 29 #[.iface 54 (.pointer (some ⟨b, 0, none⟩)), .int .i64 x, .int .i64 y] w fun e w' => e = .returned (.bool r) ∧ InBox base b w0 w' (down s n i).1 := by
  subst hx hy
  exact down29 base b w0 w s h hg n i hn hi r hr
def Ret (P : World → Prop) (e : Ending) (w : World) : Prop := (∃ v, e = .returned v) ∧ P w
set_option maxHeartbeats 2000000 in
theorem remove22 (base b : Nat) (w0 w : World) (s : St) (h : InBox base b w0 w s) (hg : Good s.1) (i : Nat) (hi : i < s.1.length) (hb : base ≤ w.heap.size) (hw0 : w0 = w) :
    Calls Try.prog 22 #[.iface 54 (.pointer (some ⟨b, 0, none⟩)), .int .i64 i] w (Ret fun w' => InBox base b w0 w' (remove s i)) := by
  have ml := m_len
  have ms := m_swap
  have mp := m_pop
  have hf := hg.few
  have hg2 := hg.perm (toLast_perm s i hi)
  have hl2 : 0 < (toLast s i).1.length := by rw [(toLast_perm s i hi).length_eq]; omega
  by_cases he : s.1.length - 1 = i
  · have hfin : toLast s i = s := by unfold toLast; rw [if_pos he]
    have e1 : (((s.1.length : Int) - 1) != (i : Int)) = false := by simp; omega
    go_enter Try.func22, Try.ntmps22
    go_wp2_with fail
    refine (len19' base b w0 _ _ h).mono ?_
    rintro e w2 ⟨rfl, rfl⟩
    go_wp2_with fail
    refine (pop71' base b w0 _ s h hg (by omega) hb).mono ?_
    rintro e w2 ⟨⟨v, rfl⟩, h2⟩
    go_wp2
    go_ret
    exact ⟨⟨_, rfl⟩, by unfold remove; rw [hfin]; exact h2⟩
  · have e1 : (((s.1.length : Int) - 1) != (i : Int)) = true := by rw [bne_iff_ne]; omega
    by_cases hd : i < (down (swapS s i (s.1.length - 1)) (s.1.length - 1) i).2
    · have hfin : toLast s i = (down (swapS s i (s.1.length - 1)) (s.1.length - 1) i).1 := by unfold toLast; rw [if_neg he, if_pos hd]
      replace hd := Lib.hid hd
      replace hfin := Lib.hid hfin
      go_enter Try.func22, Try.ntmps22
      go_wp2_with fail
      refine (len19' base b w0 _ _ h).mono ?_
      rintro e w2 ⟨rfl, rfl⟩
      go_wp2_with fail
      refine (swap73i base b w0 _ s h hg i (s.1.length - 1) _ _ rfl (by omega) hi (by omega) (by omega)).mono ?_
      rintro e w2 ⟨rfl, h2⟩
      go_wp2_with fail
      refine (down29i base b w0 _ _ h2 (hg.perm (swapL_perm _ _ _ hi (by omega))) (s.1.length - 1) i _ _ rfl (by omega) (by rw [swapS_length]; omega) (by omega) true (by simpa using hd.out)).mono ?_
      rintro e w3 ⟨rfl, h3⟩
      rw [← hfin.out] at h3
      go_wp2_with fail
      refine (pop71' base b w0 _ _ h3 hg2 hl2 (Nat.le_trans hb (by rw [← hw0]; exact h3.2.size))).mono ?_
      rintro e w4 ⟨⟨v, rfl⟩, h4⟩
      go_wp2
      go_ret
      exact ⟨⟨_, rfl⟩, h4⟩
    · have hfin : toLast s i = up (down (swapS s i (s.1.length - 1)) (s.1.length - 1) i).1 i := by unfold toLast; rw [if_neg he, if_neg hd]
      have hpm : (down (swapS s i (s.1.length - 1)) (s.1.length - 1) i).1.1.Perm s.1 := (down_perm _ _ _ (by rw [swapS_length]; omega)).trans (swapL_perm _ _ _ hi (by omega))
      replace hd := Lib.hid hd
      replace hfin := Lib.hid hfin
      replace hpm := Lib.hid hpm
      go_enter Try.func22, Try.ntmps22
      go_wp2_with fail
      refine (len19' base b w0 _ _ h).mono ?_
      rintro e w2 ⟨rfl, rfl⟩
      go_wp2_with fail
      refine (swap73i base b w0 _ s h hg i (s.1.length - 1) _ _ rfl (by omega) hi (by omega) (by omega)).mono ?_
      rintro e w2 ⟨rfl, h2⟩
      go_wp2_with fail
      refine (down29i base b w0 _ _ h2 (hg.perm (swapL_perm _ _ _ hi (by omega))) (s.1.length - 1) i _ _ rfl (by omega) (by rw [swapS_length]; omega) (by omega) false (by simpa using hd.out)).mono ?_
      rintro e w3 ⟨rfl, h3⟩
      go_wp2_with fail
      refine (up28 base b w0 _ _ h3 (hg.perm hpm.out) i (by rw [hpm.out.length_eq]; exact hi)).mono ?_
      rintro e w4 ⟨rfl, h4⟩
      rw [← hfin.out] at h4
      go_wp2_with fail
      refine (pop71' base b w0 _ _ h4 hg2 hl2 (Nat.le_trans hb (by rw [← hw0]; exact h4.2.size))).mono ?_
      rintro e w5 ⟨⟨v, rfl⟩, h5⟩
      go_wp2
      go_ret
      exact ⟨⟨_, rfl⟩, h5⟩
end Go.Proofs.Ythndenpgkdjkiaa
