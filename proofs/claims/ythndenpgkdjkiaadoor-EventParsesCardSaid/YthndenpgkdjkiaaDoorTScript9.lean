import Derived.Test.YthndenpgkdjkiaaDoorTScript8
namespace Go.Proofs.YthndenpgkdjkiaaDoor
open Go.Lib
set_option linter.unusedVariables false

theorem three_line (a b c : Int) (ha : inI a) (hb : inI b) (hc : inI c) : three (lineOf a b c) = some (a, b, c) := by
  have na := itoa_no a 32 (by decide) (by decide)
  have nb := itoa_no b 32 (by decide) (by decide)
  have nc := itoa_no c 32 (by decide) (by decide)
  have h : sp 32 (lineOf a b c) = [itoa a, itoa b, itoa c] := by
    have e : lineOf a b c = itoa a ++ 32 :: (itoa b ++ 32 :: itoa c) := by simp [lineOf]
    rw [e, sp_app 32 _ _ na, sp_app 32 _ _ nb, sp_no 32 _ nc]
  unfold three
  rw [h]
  simp only [number_itoa a ha, number_itoa b hb, number_itoa c hc]
theorem line_three (s : Bs) (t : Ent) (h : three s = some t) : s = lineE t ∧ inE t := by
  unfold three at h
  have hj := join_sp 32 s
  match hs : sp 32 s, h with
  | [a, b, c], h =>
    rw [hs] at hj
    simp only at h
    match ha : number a, hb : number b, hc : number c, h with
    | some x, some y, some z, h =>
      simp only [Option.some.injEq] at h
      subst h
      obtain ⟨ea, ia⟩ := itoa_number a x ha
      obtain ⟨eb, ib⟩ := itoa_number b y hb
      obtain ⟨ec, ic⟩ := itoa_number c z hc
      refine ⟨?_, ia, ib, ic⟩
      rw [← hj]
      simp only [joinOn, lineE, lineOf, ← ea, ← eb, ← ec]
      simp
theorem line_no (t : Ent) : 10 ∉ lineE t := by
  have na := itoa_no t.1 10 (by decide) (by decide)
  have nb := itoa_no t.2.1 10 (by decide) (by decide)
  have nc := itoa_no t.2.2 10 (by decide) (by decide)
  simp [lineE, lineOf, na, nb, nc]
theorem parse_print (l : List Ent) (h : ∀ t ∈ l, inE t) : ∀ k, (printE l).length < k → parseK k (printE l) = some l := by
  induction l with
  | nil => intro k hk; obtain ⟨k, rfl⟩ : ∃ j, k = j + 1 := ⟨k - 1, by omega⟩; simp [printE, parseK]
  | cons t r ih =>
    intro k hk
    obtain ⟨k, rfl⟩ : ∃ j, k = j + 1 := ⟨k - 1, by omega⟩
    have e : printE (t :: r) = lineE t ++ 10 :: printE r := by simp [printE]
    rw [e] at hk ⊢
    rw [parseK, if_neg (by simp), cut_app 10 _ _ (line_no t)]
    have ht := h t (by simp)
    rw [show three (lineE t) = some t from three_line _ _ _ ht.1 ht.2.1 ht.2.2]
    simp only
    rw [ih (fun u hu => h u (by simp [hu])) k (by simp at hk; omega)]
    rfl
theorem print_parse (k : Nat) : ∀ (s : Bs) (l : List Ent), s.length < k → parseK k s = some l → printE l = s ∧ ∀ t ∈ l, inE t := by
  induction k with
  | zero => intro s l h; omega
  | succ k ih =>
    intro s l h hp
    rw [parseK] at hp
    by_cases hs : s = []
    · rw [if_pos hs] at hp
      injection hp with hp
      subst hp
      exact ⟨by simp [printE, hs], by simp⟩
    · rw [if_neg hs] at hp
      have hl := cut_len 10 s hs
      match h1 : (cutOn 10 s).2.2, h2 : three (cutOn 10 s).1, hp with
      | true, some t, hp =>
        simp only [Option.map_eq_some_iff] at hp
        obtain ⟨r, hr, rfl⟩ := hp
        obtain ⟨e1, e2⟩ := ih _ r (by omega) hr
        obtain ⟨e3, e4⟩ := line_three _ t h2
        obtain ⟨e5, e6⟩ := cut_true 10 s h1
        refine ⟨?_, ?_⟩
        · rw [e5]
          have e : printE (t :: r) = lineE t ++ 10 :: printE r := by simp [printE]
          rw [e, e1, ← e3]
        · intro u hu
          rcases List.mem_cons.1 hu with rfl | hu
          · exact e4
          · exact e2 u hu
theorem conf_line (a b c : Int) (h : confOk a b c) : conf18' (lineOf a b c) = some (a, b, c) ∧ lineOf a b c ≠ [] := by
  obtain ⟨h1, h2, h3⟩ := confOk_in h
  unfold conf18'
  rw [three_line a b c h1 h2 h3]
  refine ⟨if_pos h, ?_⟩
  simp [lineOf]
end Go.Proofs.YthndenpgkdjkiaaDoor
