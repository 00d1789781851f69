/-
What a box's methods do (Len, Next, Send, Due), a nil box's too, and that the chapter's example comes as it must: contracts of the Go functions 4, 5, 9 to 14.
-/
import Derived.Test.YthndenpgkdjkiaaHeap

namespace Go.Proofs.Ythndenpgkdjkiaa
open Go.RowKit
set_option linter.unusedVariables false
set_option maxRecDepth 100000

theorem len10 (base b : Nat) (w0 w : World) (s : St) (h : InBox base b w0 w s) : Calls Try.prog 10 #[.pointer (some ⟨b, 0, none⟩)] w fun e w' => e = .returned (.int .i64 s.1.length) ∧ w = w' := by
  go_enter Try.func10, Try.ntmps10
  go_wp2_with (go_at_call 19; refine (len19' base b w0 _ _ h).mono ?_; rintro e w2 ⟨rfl, rfl⟩)
  go_ret
  exact ⟨rfl, rfl⟩
theorem len10n (w : World) : Calls Try.prog 10 #[.pointer none] w fun e w' => e = .returned (.int .i64 0) ∧ w = w' := by
  go_enter Try.func10, Try.ntmps10
  go_wp2
  go_ret
  exact ⟨rfl, rfl⟩
theorem next9n (w : World) : Calls Try.prog 9 #[.pointer none] w fun e w' => e = .returned (.tuple #[.int .i64 0, .int .i64 0, .bool false]) ∧ w = w' := by
  go_enter Try.func9, Try.ntmps9
  go_wp2_with (go_at_call 10; refine (len10n _).mono ?_; rintro e w2 ⟨rfl, rfl⟩)
  go_ret3
  exact ⟨rfl, rfl⟩
theorem send11n (m d : Int) (w : World) : Calls Try.prog 11 #[.pointer none, .int .i64 m, .int .i64 d] w fun e w' => e = .returned (.bool false) ∧ w = w' := by
  go_enter Try.func11, Try.ntmps11
  go_wp2
  go_ret
  exact ⟨rfl, rfl⟩
theorem due12n (m d : Int) (w : World) : Calls Try.prog 12 #[.pointer none, .int .i64 m, .int .i64 d] w fun e w' => e = .returned (.bool false) ∧ w = w' := by
  go_enter Try.func12, Try.ntmps12
  go_wp2
  go_ret
  exact ⟨rfl, rfl⟩
theorem all14n (w : World) : Calls Try.prog 14 #[.pointer none] w fun e w' => e = .returned (.slice none 0 0) ∧ w = w' := by
  go_enter Try.func14, Try.ntmps14
  go_wp2
  go_ret
  exact ⟨rfl, rfl⟩
theorem next9e (base b : Nat) (w0 w : World) (s : St) (h : InBox base b w0 w s) (hl : s.1 = []) : Calls Try.prog 9 #[.pointer (some ⟨b, 0, none⟩)] w fun e w' => e = .returned (.tuple #[.int .i64 0, .int .i64 0, .bool false]) ∧ w = w' := by
  have e0 : (s.1.length : Int) = 0 := by rw [hl]; rfl
  go_enter Try.func9, Try.ntmps9
  go_wp2_with (go_at_call 10; refine (len10 base b w0 _ s h).mono ?_; rintro e w2 ⟨rfl, rfl⟩)
  go_ret3
  exact ⟨rfl, rfl⟩
theorem next9 (base b : Nat) (w0 w : World) (s : St) (h : InBox base b w0 w s) (x : Sg) (hl : s.1[0]? = some x) : Calls Try.prog 9 #[.pointer (some ⟨b, 0, none⟩)] w fun e w' => e = .returned (.tuple #[.int .i64 x.1, .int .i64 x.2, .bool true]) ∧ ∃ n, w' = w.drewN n := by
  obtain ⟨h0, rfl⟩ := List.getElem?_eq_some_iff.1 hl
  obtain ⟨g, cap, q⟩ := h.1.row h0
  have c0 := q.cell0
  have e0 := q.c1 0 h0
  have e1 := q.c2 0 h0
  have k0 : ((s.1.length : Int) == 0) = false := by rw [beq_eq_false_iff_ne]; omega
  have k1 : (0 : Int) < s.1.length := by omega
  simp only [Nat.zero_mul, Nat.zero_add] at e0 e1
  clear q hl
  go_enter Try.func9, Try.ntmps9
  go_wp2_with (go_at_call 10; refine (len10 base b w0 _ s h).mono ?_; rintro e w2 ⟨rfl, rfl⟩)
  go_quiet (fail)
  go_wp2
  go_ret3
  exact ⟨rfl, _, rfl⟩
end Go.Proofs.Ythndenpgkdjkiaa

namespace Go.Proofs.Ythndenpgkdjkiaa
open Go.RowKit
set_option linter.unusedVariables false
set_option maxRecDepth 100000

def setDue (s : St) (i : Nat) (d : Int) : St := (s.1.set i ((s.1.getD i (0, 0)).1, d), s.2)
def placeOf (s : St) (m : Int) : Int := s.2.getD m.toNat 0
def dueOf (s : St) (m : Int) : Int := (s.1.getD (placeOf s m).toNat (0, 0)).2
def sendS (s : St) (m d : Int) : St × Bool :=
  if m < 0 ∨ 64 ≤ m then (s, false)
  else if placeOf s m = -1 then (push s (m, d), true)
  else if d < dueOf s m then (fix (setDue s (placeOf s m).toNat d) (placeOf s m).toNat, false) else (s, false)
def dueS (s : St) (m now : Int) : St × Bool :=
  if m < 0 ∨ 64 ≤ m then (s, false)
  else if placeOf s m = -1 ∨ now < dueOf s m then (s, false)
  else (remove s (placeOf s m).toNat, true)
/-- The places are places of the row, or none. -/
structure Ok (s : St) : Prop where
  good : Good s.1
  pl : ∀ m : Int, 0 ≤ m → m < 64 → (placeOf s m = -1 ∧ ∀ x ∈ s.1, x.1 ≠ m) ∨ (0 ≤ placeOf s m ∧ placeOf s m < s.1.length)
theorem setDue_map (s : St) (i : Nat) (d : Int) : (setDue s i d).1.map (·.1) = s.1.map (·.1) := by
  unfold setDue
  apply List.ext_getElem?
  intro k
  simp only [List.getElem?_map, List.getElem?_set]
  split
  · subst_vars
    split
    · rename_i h
      simp [h]
    · rename_i h
      simp [List.getElem?_eq_none (Nat.le_of_not_lt h)]
  · rfl
theorem Good.of_map {l m : List Sg} (h : Good l) (he : m.map (·.1) = l.map (·.1)) : Good m := by
  have hl : m.length = l.length := by simpa using congrArg List.length he
  refine ⟨fun s hs => ?_, by rw [he]; exact h.nd, by rw [hl]; exact h.few⟩
  have : s.1 ∈ m.map (·.1) := List.mem_map_of_mem hs
  rw [he] at this
  obtain ⟨t, ht, e⟩ := List.mem_map.1 this
  rw [← e]
  exact h.rng t ht

theorem send11o (base b : Nat) (w : World) (s : St) (m d : Int) (hm : m < 0 ∨ 64 ≤ m) : Calls Try.prog 11 #[.pointer (some ⟨b, 0, none⟩), .int .i64 m, .int .i64 d] w fun e w' => e = .returned (.bool false) ∧ w = w' := by
  rcases hm with hm | hm
  · go_enter Try.func11, Try.ntmps11
    go_wp2
    go_ret
    exact ⟨rfl, rfl⟩
  · have h1 : ¬ m < 0 := by omega
    go_enter Try.func11, Try.ntmps11
    go_wp2
    go_ret
    exact ⟨rfl, rfl⟩
theorem InBox.cellAt {base b : Nat} {w0 w : World} {s : St} (h : InBox base b w0 w s) (m : Nat) (hm : m < 64) : w.cell? ⟨b, 1 + m, none⟩ = some (.int .i64 (placeOf s m)) := by
  obtain ⟨A, cap, q⟩ := h.1.view
  have hl : m < s.2.length := by rw [q.len]; exact hm
  rw [q.cellAt m hl]
  simp [placeOf, List.getD_eq_getElem?_getD, hl]
set_option maxHeartbeats 1000000 in
theorem send11p (base b : Nat) (w0 w : World) (s : St) (h : InBox base b w0 w s) (m : Nat) (d : Int) (hm : (m : Int) < 64) (hp : placeOf s m = -1) (hg : Good (s.1 ++ [((m : Int), d)])) (hb : base ≤ w.heap.size) :
    Calls Try.prog 11 #[.pointer (some ⟨b, 0, none⟩), .int .i64 m, .int .i64 d] w fun e w' => e = .returned (.bool true) ∧ InBox base b w0 w' (push s ((m : Int), d)) := by
  have c := h.cellAt m (by omega)
  rw [hp] at c
  go_enter Try.func11, Try.ntmps11
  go_wp2_with fail
  refine (push20 base b w0 _ s ((m : Int), d) h hg hb).mono ?_
  rintro e w2 ⟨rfl, h2⟩
  go_wp2
  go_ret
  exact ⟨rfl, h2⟩
set_option maxHeartbeats 1000000 in
theorem send11k (base b : Nat) (w0 w : World) (s : St) (h : InBox base b w0 w s) (m : Nat) (d : Int) (hm : (m : Int) < 64) (i : Nat) (hp : placeOf s m = i) (hi : i < s.1.length) (hd : ¬ d < s.1[i].2) :
    Calls Try.prog 11 #[.pointer (some ⟨b, 0, none⟩), .int .i64 m, .int .i64 d] w fun e w' => e = .returned (.bool false) ∧ InBox base b w0 w' s := by
  have c := h.cellAt m (by omega)
  rw [hp] at c
  obtain ⟨g, cap, q⟩ := h.1.row (by omega)
  have c0 := q.cell0
  have e1 := q.c2 i hi
  have k0 : ((i : Int) == -1) = false := by rw [beq_eq_false_iff_ne]; omega
  have k1 : (i : Int) < s.1.length := by omega
  have k2 : (0 : Int) ≤ i := by omega
  clear q
  go_enter Try.func11, Try.ntmps11
  go_wp2
  go_ret
  exact ⟨rfl, h⟩
set_option maxHeartbeats 1000000 in
theorem send11f (base b : Nat) (w0 w : World) (s : St) (h : InBox base b w0 w s) (m : Nat) (d : Int) (hm : (m : Int) < 64) (i : Nat) (hp : placeOf s m = i) (hi : i < s.1.length) (hd : d < s.1[i].2) (hg : Good s.1) :
    Calls Try.prog 11 #[.pointer (some ⟨b, 0, none⟩), .int .i64 m, .int .i64 d] w fun e w' => e = .returned (.bool false) ∧ InBox base b w0 w' (fix (setDue s i d) i) := by
  have c := h.cellAt m (by omega)
  rw [hp] at c
  obtain ⟨g, cap, q⟩ := h.1.row (by omega)
  have c0 := q.cell0
  have e1 := q.c2 i hi
  have k0 : ((i : Int) == -1) = false := by rw [beq_eq_false_iff_ne]; omega
  have k1 : (i : Int) < s.1.length := by omega
  have k2 : (0 : Int) ≤ i := by omega
  have z := q.frzg (i * 2 + 1)
  have hput := q.row.stored (i * 2 + 1) (.int .i64 d)
  rw [sigCells_set2 _ _ _ hi] at hput
  obtain ⟨ct, hct⟩ := q.typ
  have q' : QRow base b g cap (w.setCell ⟨g, i * 2 + 1, none⟩ (.int .i64 d)) (s.1.set i (s.1[i].1, d)) s.2 := q.setRow _ _ (by simp) hput.1 (by rw [Below.heap_setCell _ _ _ _ q.ne])
  have f' := (Fr.refl base w).setCell ⟨g, i * 2 + 1, none⟩ (.int .i64 d) q.gb.1 ct (0, 0) (.inr hct)
  have es : setDue s i d = (s.1.set i (s.1[i].1, d), s.2) := by simp [setDue, List.getD_eq_getElem?_getD, hi]
  have hb' : InBox base b w0 (w.setCell ⟨g, i * 2 + 1, none⟩ (.int .i64 d)) (setDue s i d) := by rw [es]; exact ⟨.inl ⟨g, cap, q'⟩, h.2.trans f'⟩
  have hgm : Good (setDue s i d).1 := hg.of_map (setDue_map s i d)
  have hil : i < (setDue s i d).1.length := by rw [es]; simpa using hi
  clear q hput hct q' f'
  replace hb' := Lib.hid hb'
  go_enter Try.func11, Try.ntmps11
  go_wp2_with fail
  refine (fix21 base b w0 _ _ hb'.out hgm i hil).mono ?_
  rintro e w2 ⟨rfl, h2⟩
  go_wp2
  go_ret
  exact ⟨rfl, h2⟩
theorem len_of_range (n : Nat) : ∀ l : List Int, l.Nodup → (∀ x ∈ l, 0 ≤ x ∧ x < (n : Int)) → l.length ≤ n := by
  induction n with
  | zero =>
    intro l _ h
    cases l with
    | nil => simp
    | cons a l => have := h a (by simp); omega
  | succ n ih =>
    intro l hnd h
    have h2 := ih (l.erase (n : Int)) (hnd.erase _) fun x hx => by
      have h3 := h x (List.mem_of_mem_erase hx)
      have h4 : x ≠ (n : Int) := fun he => by subst he; exact (hnd.not_mem_erase) hx
      omega
    by_cases hm : (n : Int) ∈ l
    · rw [List.length_erase_of_mem hm] at h2
      omega
    · rw [List.erase_of_not_mem hm] at h2
      omega
theorem few_of (l : List Sg) (hr : ∀ x ∈ l, 0 ≤ x.1 ∧ x.1 < 64) (hnd : (l.map (·.1)).Nodup) : l.length ≤ 64 := by
  have := len_of_range 64 (l.map (·.1)) hnd fun x hx => by
    obtain ⟨y, hy, rfl⟩ := List.mem_map.1 hx
    exact hr y hy
  simpa using this
theorem send11 (base b : Nat) (w0 w : World) (s : St) (h : InBox base b w0 w s) (m d : Int) (ho : Ok s) (hb : base ≤ w.heap.size) :
    Calls Try.prog 11 #[.pointer (some ⟨b, 0, none⟩), .int .i64 m, .int .i64 d] w fun e w' => e = .returned (.bool (sendS s m d).2) ∧ InBox base b w0 w' (sendS s m d).1 := by
  unfold sendS
  by_cases h1 : m < 0 ∨ 64 ≤ m
  · rw [if_pos h1]
    exact (send11o base b w s m d h1).mono fun e w' ⟨e1, e2⟩ => ⟨e1, e2 ▸ h⟩
  · rw [if_neg h1]
    obtain ⟨k, rfl⟩ := Int.eq_ofNat_of_zero_le (show 0 ≤ m by omega)
    rcases ho.pl k (by omega) (by omega) with ⟨hp, hn⟩ | ⟨hp0, hp1⟩
    · rw [if_pos hp]
      refine send11p base b w0 w s h k d (by omega) hp ?_ hb
      have hr : ∀ x ∈ s.1 ++ [((k : Int), d)], 0 ≤ x.1 ∧ x.1 < 64 := by
        intro x hx
        rcases List.mem_append.1 hx with hx | hx
        · exact ho.good.rng x hx
        · simp at hx; subst hx; exact ⟨by simp, by simp; omega⟩
      have hnd : ((s.1 ++ [((k : Int), d)]).map (·.1)).Nodup := by
        rw [List.map_append, List.nodup_append]
        refine ⟨ho.good.nd, by simp, ?_⟩
        intro a ha c hc
        obtain ⟨x, hx, rfl⟩ := List.mem_map.1 ha
        simp at hc
        subst hc
        exact hn x hx
      exact ⟨hr, hnd, few_of _ hr hnd⟩
    · have hne : ¬ placeOf s k = -1 := by omega
      rw [if_neg hne]
      obtain ⟨i, hi⟩ := Int.eq_ofNat_of_zero_le hp0
      have hil : i < s.1.length := by omega
      have hdd : dueOf s k = s.1[i].2 := by unfold dueOf; rw [hi]; simp [List.getD_eq_getElem?_getD, hil]
      rw [hdd, hi, Int.toNat_natCast]
      by_cases hd : d < s.1[i].2
      · rw [if_pos hd]
        exact send11f base b w0 w s h k d (by omega) i hi hil hd ho.good
      · rw [if_neg hd]
        exact send11k base b w0 w s h k d (by omega) i hi hil hd
end Go.Proofs.Ythndenpgkdjkiaa

namespace Go.Proofs.Ythndenpgkdjkiaa
open Go.RowKit
set_option linter.unusedVariables false
set_option maxRecDepth 100000

theorem take13n (now : Int) (w : World) : Calls Try.prog 13 #[.pointer none, .int .i64 now] w fun e w' => e = .returned (.slice none 0 0) ∧ w = w' := by
  go_enter Try.func13, Try.ntmps13
  go_wp2
  go_step3
  go_wp2
  go_step3
  go_wp2
  refine wp_loop_rounds 1 ?_
  rw [rounds_succ]
  go_wp2_with (go_at_call 9; refine (next9n _).mono ?_; rintro e w2 ⟨rfl, rfl⟩)
  go_outline
  try rw [Exit.noGoto_ret]
  go_ret
  exact ⟨rfl, rfl⟩
end Go.Proofs.Ythndenpgkdjkiaa

namespace Go.Proofs.Ythndenpgkdjkiaa
open Go.RowKit
set_option linter.unusedVariables false
set_option maxRecDepth 100000

def s0 : St := ([], List.replicate 64 (-1))
def s1 : St := ([((1 : Int), (5 : Int))], (List.replicate 64 (-1 : Int)).set 1 0)
def s2 : St := ([((1 : Int), (3 : Int))], (List.replicate 64 (-1 : Int)).set 1 0)
theorem ats64 : ats 64 = List.replicate 64 (-1) := by decide
theorem placeOf_rep (m : Int) (l : List Sg) (h0 : 0 ≤ m) (h : m < 64) : placeOf (l, List.replicate 64 (-1)) m = -1 := by
  unfold placeOf
  rw [List.getD_eq_getElem?_getD, List.getElem?_replicate, if_pos (by omega)]
  rfl
theorem ok_s0 : Ok s0 := ⟨⟨(by intro s hs; cases hs), (by simp [s0]), (by simp [s0])⟩, fun m h0 h => .inl ⟨placeOf_rep m _ h0 h, by intro x hx; cases hx⟩⟩
theorem ok_s1 : Ok s1 := by
  refine ⟨⟨(by intro s hs; simp [s1] at hs; subst hs; decide), (by simp [s1]), (by simp [s1])⟩, fun m h0 h => ?_⟩
  by_cases he : m = 1
  · subst he
    exact .inr ⟨by decide, by decide⟩
  · refine .inl ⟨?_, ?_⟩
    · have := placeOf_rep m [] h0 h
      unfold placeOf at *
      simp only [s1, List.getD_eq_getElem?_getD] at *
      rw [List.getElem?_set_ne (by omega)]
      exact this
    · intro x hx
      simp [s1] at hx
      subst hx
      simpa using fun h => he h.symm
theorem send_a : sendS s0 1 5 = (s1, true) := by
  unfold sendS
  have hp : placeOf s0 1 = -1 := placeOf_rep 1 [] (by omega) (by omega)
  rw [if_neg (by omega), if_pos hp]
  unfold push
  rw [up]
  simp [s0, s1, pushA]
theorem send_b : sendS s1 1 3 = (s2, false) := by
  have hp : placeOf s1 1 = 0 := by decide
  have hd : dueOf s1 1 = 5 := by decide
  unfold sendS
  rw [if_neg (by omega), hp, hd, if_neg (by omega), if_pos (by omega)]
  have e : setDue s1 (0 : Int).toNat 3 = s2 := by decide
  rw [e]
  unfold fix
  have e1 : down s2 s2.1.length (0 : Int).toNat = (s2, 0) := by
    rw [down, dif_neg (by decide)]; rfl
  rw [e1, if_neg (by decide), up]
  simp
set_option maxHeartbeats 1000000 in
theorem alive5 (w : World) : Calls Try.prog 5 #[] w fun e w' => e = .returned (.bool true) ∧ Below w.heap.size w w' := by
  go_enter Try.func5, Try.ntmps5
  go_wp2_with fail
  refine (new_any _).mono ?_
  rintro e w1 ⟨rfl, hw1⟩
  have hb : InBox w.heap.size w.heap.size w w1 s0 := by
    subst hw1
    refine ⟨.inr ⟨rfl, Nat.le_refl _, by simp [s0], ?_⟩, Fr.of_below ((Below.refl _ _).alloc (Nat.le_refl _) _)⟩
    rw [ats64]
    exact heap_alloc_new w _
  have hsz : w.heap.size < w1.heap.size := by subst hw1; simp
  clear hw1
  go_wp2_with fail
  refine (send11 _ _ w _ s0 hb 1 5 ok_s0 (by omega)).mono ?_
  rw [send_a]
  rintro e w2 ⟨rfl, h2⟩
  have hsz2 := h2.2.size
  go_wp2_with fail
  refine (send11 _ _ w _ s1 h2 1 3 ok_s1 (by omega)).mono ?_
  rw [send_b]
  rintro e w3 ⟨rfl, h3⟩
  go_wp2_with fail
  refine (next9 _ _ w _ s2 h3 ((1 : Int), (3 : Int)) rfl).mono ?_
  rintro e w4 ⟨rfl, n, rfl⟩
  have h4 : InBox w.heap.size w.heap.size w (w3.drewN n) s2 := ⟨h3.1.below (by exact ⟨rfl, rfl, rfl, Nat.le_refl _, fun _ _ => rfl⟩), h3.2.trans (Fr.of_below ⟨rfl, rfl, rfl, Nat.le_refl _, fun _ _ => rfl⟩)⟩
  go_wp2_with fail
  refine (len10 _ _ w _ s2 h4).mono ?_
  rintro e w5 ⟨rfl, rfl⟩
  go_wp2
  go_ret
  exact ⟨rfl, h4.2.below (Nat.le_refl _)⟩

set_option maxHeartbeats 1000000 in
theorem nils4 (m now : Int) (w : World) : Calls Try.prog 4 #[.int .i64 m, .int .i64 now] w fun e w' => e = .returned (.bool true) ∧ Below w.heap.size w w' := by
  go_enter Try.func4, Try.ntmps4
  go_wp2_with (first | (go_at_call 9; refine (next9n _).mono ?_; rintro e w2 ⟨rfl, rfl⟩) | (go_at_call 10; refine (len10n _).mono ?_; rintro e w2 ⟨rfl, rfl⟩) | (go_at_call 11; refine (send11n _ _ _).mono ?_; rintro e w2 ⟨rfl, rfl⟩) | (go_at_call 12; refine (due12n _ _ _).mono ?_; rintro e w2 ⟨rfl, rfl⟩) | (go_at_call 13; refine (take13n _ _).mono ?_; rintro e w2 ⟨rfl, rfl⟩) | (go_at_call 14; refine (all14n _).mono ?_; rintro e w2 ⟨rfl, rfl⟩) | (go_at_call 5; refine (alive5 _).mono ?_; rintro e w2 ⟨rfl, hb⟩))
  go_ret
  exact ⟨rfl, hb⟩
end Go.Proofs.Ythndenpgkdjkiaa

namespace Go.Proofs.Ythndenpgkdjkiaa
open Go.RowKit
set_option linter.unusedVariables false
set_option maxRecDepth 100000

theorem due12o (base b : Nat) (w : World) (s : St) (m d : Int) (hm : m < 0 ∨ 64 ≤ m) : Calls Try.prog 12 #[.pointer (some ⟨b, 0, none⟩), .int .i64 m, .int .i64 d] w fun e w' => e = .returned (.bool false) ∧ w = w' := by
  rcases hm with hm | hm
  · go_enter Try.func12, Try.ntmps12
    go_wp2
    go_ret
    exact ⟨rfl, rfl⟩
  · have h1 : ¬ m < 0 := by omega
    go_enter Try.func12, Try.ntmps12
    go_wp2
    go_ret
    exact ⟨rfl, rfl⟩
theorem due12p (base b : Nat) (w0 w : World) (s : St) (h : InBox base b w0 w s) (m : Nat) (d : Int) (hm : (m : Int) < 64) (hp : placeOf s m = -1) :
    Calls Try.prog 12 #[.pointer (some ⟨b, 0, none⟩), .int .i64 m, .int .i64 d] w fun e w' => e = .returned (.bool false) ∧ w = w' := by
  have c := h.cellAt m (by omega)
  rw [hp] at c
  go_enter Try.func12, Try.ntmps12
  go_wp2
  go_ret
  exact ⟨rfl, rfl⟩
theorem due12k (base b : Nat) (w0 w : World) (s : St) (h : InBox base b w0 w s) (m : Nat) (d : Int) (hm : (m : Int) < 64) (i : Nat) (hp : placeOf s m = i) (hi : i < s.1.length) (hd : d < s.1[i].2) :
    Calls Try.prog 12 #[.pointer (some ⟨b, 0, none⟩), .int .i64 m, .int .i64 d] w fun e w' => e = .returned (.bool false) ∧ w = w' := by
  have c := h.cellAt m (by omega)
  rw [hp] at c
  obtain ⟨g, cap, q⟩ := h.1.row (by omega)
  have c0 := q.cell0
  have e1 := q.c2 i hi
  have k0 : ((i : Int) == -1) = false := by rw [beq_eq_false_iff_ne]; omega
  have k1 : (i : Int) < s.1.length := by omega
  have k2 : (0 : Int) ≤ i := by omega
  clear q
  go_enter Try.func12, Try.ntmps12
  go_wp2
  go_ret
  exact ⟨rfl, rfl⟩
set_option maxHeartbeats 1000000 in
theorem due12r (base b : Nat) (w0 w : World) (s : St) (h : InBox base b w0 w s) (m : Nat) (d : Int) (hm : (m : Int) < 64) (i : Nat) (hp : placeOf s m = i) (hi : i < s.1.length) (hd : ¬ d < s.1[i].2) (hg : Good s.1) (hb : base ≤ w.heap.size) :
    Calls Try.prog 12 #[.pointer (some ⟨b, 0, none⟩), .int .i64 m, .int .i64 d] w fun e w' => e = .returned (.bool true) ∧ InBox base b w0 w' (remove s i) := by
  have c := h.cellAt m (by omega)
  rw [hp] at c
  obtain ⟨g, cap, q⟩ := h.1.row (by omega)
  have c0 := q.cell0
  have e1 := q.c2 i hi
  have k0 : ((i : Int) == -1) = false := by rw [beq_eq_false_iff_ne]; omega
  have k1 : (i : Int) < s.1.length := by omega
  have k2 : (0 : Int) ≤ i := by omega
  clear q
  go_enter Try.func12, Try.ntmps12
  go_wp2_with fail
  refine (remove22 base b w _ s ⟨h.1, Fr.refl _ _⟩ hg i hi hb rfl).mono ?_
  rintro e w2 ⟨⟨v, rfl⟩, h2⟩
  go_wp2
  go_ret
  exact ⟨rfl, h2.1, h.2.trans h2.2⟩
theorem due12 (base b : Nat) (w0 w : World) (s : St) (h : InBox base b w0 w s) (m d : Int) (ho : Ok s) (hb : base ≤ w.heap.size) :
    Calls Try.prog 12 #[.pointer (some ⟨b, 0, none⟩), .int .i64 m, .int .i64 d] w fun e w' => e = .returned (.bool (dueS s m d).2) ∧ InBox base b w0 w' (dueS s m d).1 := by
  unfold dueS
  by_cases h1 : m < 0 ∨ 64 ≤ m
  · rw [if_pos h1]
    exact (due12o base b w s m d h1).mono fun e w' ⟨e1, e2⟩ => ⟨e1, e2 ▸ h⟩
  · rw [if_neg h1]
    obtain ⟨k, rfl⟩ := Int.eq_ofNat_of_zero_le (show 0 ≤ m by omega)
    rcases ho.pl k (by omega) (by omega) with ⟨hp, hn⟩ | ⟨hp0, hp1⟩
    · rw [if_pos (.inl hp)]
      exact (due12p base b w0 w s h k d (by omega) hp).mono fun e w' ⟨e1, e2⟩ => ⟨e1, e2 ▸ h⟩
    · obtain ⟨i, hi⟩ := Int.eq_ofNat_of_zero_le hp0
      have hil : i < s.1.length := by omega
      have hdd : dueOf s k = s.1[i].2 := by unfold dueOf; rw [hi]; simp [List.getD_eq_getElem?_getD, hil]
      rw [hdd, hi, Int.toNat_natCast]
      by_cases hd : d < s.1[i].2
      · rw [if_pos (.inr hd)]
        exact (due12k base b w0 w s h k d (by omega) i hi hil hd).mono fun e w' ⟨e1, e2⟩ => ⟨e1, e2 ▸ h⟩
      · rw [if_neg (by omega)]
        exact due12r base b w0 w s h k d (by omega) i hi hil hd ho.good hb
end Go.Proofs.Ythndenpgkdjkiaa
