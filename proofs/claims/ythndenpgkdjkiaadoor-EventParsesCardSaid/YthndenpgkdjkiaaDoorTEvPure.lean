import Derived.Test.YthndenpgkdjkiaaDoorTNum
import Derived.Test.YthndenpgkdjkiaaDoorTSplit
namespace Go.Proofs.YthndenpgkdjkiaaDoor
open Go.Lib
set_option linter.unusedVariables false

/-! ### Events as text, with no program in sight -/
/-- Kind, G, Func, PC, N. -/
abbrev Ev := Int × Int × Int × Int × Int
def right (e : Ev) : Bool := (e.1 == 1 && e.2.2.2.2 == 0 || e.1 == 2) && (decide (1 ≤ e.2.1 ∧ e.2.1 < 65) && decide (0 ≤ e.2.2.1 ∧ e.2.2.1 < 16) && decide (0 ≤ e.2.2.2.1 ∧ e.2.2.2.1 < 64))
def inEv (e : Ev) : Prop := inI e.1 ∧ inI e.2.1 ∧ inI e.2.2.1 ∧ inI e.2.2.2.1 ∧ inI e.2.2.2.2
def begB : Bs := [98, 101, 103, 105, 110]
def comB : Bs := [99, 111, 109, 109, 105, 116]
def wordsEv (e : Ev) : List Bs := (if e.1 = 1 then begB else comB) :: itoa e.2.1 :: itoa e.2.2.1 :: itoa e.2.2.2.1 :: (if e.1 = 2 then [itoa e.2.2.2.2] else [])
def lineEv (e : Ev) : Bs := joinOn 32 (wordsEv e)
def numbers : List Bs → Option (List Int)
  | [] => some []
  | a :: r => match number a, numbers r with
    | some n, some l => some (n :: l)
    | _, _ => none
/-- What the words of a line tell (whether they may or not). -/
def tells : List Bs → Option Ev
  | [] => none
  | a :: r => match numbers r with
    | some [g, f, p] => if a = begB then some (1, g, f, p, 0) else none
    | some [g, f, p, n] => if a = comB then some (2, g, f, p, n) else none
    | _ => none
def oneEv (s : Bs) : Option Ev := match tells (sp 32 s) with
  | some e => if right e then some e else none
  | none => none
theorem sp_join (x : UInt8) (ws : List Bs) (hne : ws ≠ []) (h : ∀ w ∈ ws, x ∉ w) : sp x (joinOn x ws) = ws := by
  induction ws with
  | nil => exact absurd rfl hne
  | cons a r ih =>
    cases r with
    | nil => rw [joinOn, sp_no x a (h a (by simp))]
    | cons b r => rw [joinOn, sp_app x a _ (h a (by simp)), ih (by simp) (fun w hw => h w (by simp [hw]))]
theorem right_kind {e : Ev} (h : right e = true) : e.1 = 1 ∧ e.2.2.2.2 = 0 ∨ e.1 = 2 := by
  simp only [right, Bool.and_eq_true, Bool.or_eq_true, beq_iff_eq] at h
  exact h.1
theorem no32 (e : Ev) : ∀ w ∈ wordsEv e, (32 : UInt8) ∉ w := by
  intro w hw
  have key : w = begB ∨ w = comB ∨ ∃ n, w = itoa n := by
    unfold wordsEv at hw
    rcases List.mem_cons.1 hw with h | hw
    · split at h
      · exact .inl h
      · exact .inr (.inl h)
    · rcases List.mem_cons.1 hw with h | hw
      · exact .inr (.inr ⟨_, h⟩)
      · rcases List.mem_cons.1 hw with h | hw
        · exact .inr (.inr ⟨_, h⟩)
        · rcases List.mem_cons.1 hw with h | hw
          · exact .inr (.inr ⟨_, h⟩)
          · split at hw
            · simp at hw; exact .inr (.inr ⟨_, hw⟩)
            · simp at hw
  rcases key with rfl | rfl | ⟨n, rfl⟩
  · decide
  · decide
  · exact itoa_no n 32 (by decide) (by decide)
theorem sp_line (e : Ev) : sp 32 (lineEv e) = wordsEv e := sp_join 32 _ (by simp [wordsEv]) (no32 e)
theorem one_line (e : Ev) (hr : right e = true) (hi : inEv e) : oneEv (lineEv e) = some e := by
  obtain ⟨k, g, f, p, n⟩ := e
  obtain ⟨_, i1, i2, i3, i4⟩ := hi
  unfold oneEv
  rw [sp_line]
  rcases right_kind hr with ⟨h1, h2⟩ | h1
  · simp only at h1 h2
    subst h1 h2
    simp [wordsEv, tells, numbers, number_itoa _ i1, number_itoa _ i2, number_itoa _ i3, hr]
  · simp only at h1
    subst h1
    simp [wordsEv, tells, numbers, number_itoa _ i1, number_itoa _ i2, number_itoa _ i3, number_itoa _ i4, hr]
theorem numbers_iff (r : List Bs) (l : List Int) (h : numbers r = some l) : r = l.map itoa ∧ ∀ n ∈ l, inI n := by
  induction r generalizing l with
  | nil => simp [numbers] at h; subst h; simp
  | cons a r ih =>
    unfold numbers at h
    split at h
    · rename_i n t h1 h2
      injection h with h
      subst h
      obtain ⟨e1, e2⟩ := itoa_number a n h1
      obtain ⟨e3, e4⟩ := ih t h2
      refine ⟨by rw [List.map_cons, ← e1, ← e3], ?_⟩
      intro m hm
      rcases List.mem_cons.1 hm with rfl | hm
      · exact e2
      · exact e4 m hm
    · cases h
theorem line_one (s : Bs) (e : Ev) (h : oneEv s = some e) : s = lineEv e ∧ right e = true ∧ inEv e := by
  unfold oneEv at h
  split at h
  · rename_i e' ht
    split at h
    · rename_i hr
      injection h with h
      subst h
      have hj := join_sp 32 s
      cases hs : sp 32 s with
      | nil => rw [hs] at ht; cases ht
      | cons a r =>
        rw [hs] at ht hj
        simp only [tells] at ht
        split at ht
        · rename_i g f p hn
          obtain ⟨e1, e2⟩ := numbers_iff _ _ hn
          split at ht
          · rename_i ha
            injection ht with ht
            subst ht ha
            refine ⟨?_, hr, ?_⟩
            · rw [← hj, e1]; rfl
            · exact ⟨by unfold inI; simp, e2 g (by simp), e2 f (by simp), e2 p (by simp), by unfold inI; simp⟩
          · cases ht
        · rename_i g f p n hn
          obtain ⟨e1, e2⟩ := numbers_iff _ _ hn
          split at ht
          · rename_i ha
            injection ht with ht
            subst ht ha
            refine ⟨?_, hr, ?_⟩
            · rw [← hj, e1]; rfl
            · exact ⟨by unfold inI; simp, e2 g (by simp), e2 f (by simp), e2 p (by simp), e2 n (by simp)⟩
          · cases ht
        · cases ht
    · cases h
  · cases h
theorem joinOn_no (x y : UInt8) (ws : List Bs) (hxy : y ≠ x) (h : ∀ w ∈ ws, y ∉ w) : y ∉ joinOn x ws := by
  induction ws with
  | nil => simp [joinOn]
  | cons a r ih =>
    cases r with
    | nil => simpa [joinOn] using h a (by simp)
    | cons b r =>
      have h1 := h a (by simp)
      have h2 := ih (fun w hw => h w (by simp [hw]))
      simp [joinOn, h1, hxy, h2]
theorem line_no10 (e : Ev) : 10 ∉ lineEv e := by
  refine joinOn_no 32 10 _ (by decide) (fun w hw => ?_)
  have key : w = begB ∨ w = comB ∨ ∃ n, w = itoa n := by
    unfold wordsEv at hw
    rcases List.mem_cons.1 hw with h | hw
    · split at h
      · exact .inl h
      · exact .inr (.inl h)
    · rcases List.mem_cons.1 hw with h | hw
      · exact .inr (.inr ⟨_, h⟩)
      · rcases List.mem_cons.1 hw with h | hw
        · exact .inr (.inr ⟨_, h⟩)
        · rcases List.mem_cons.1 hw with h | hw
          · exact .inr (.inr ⟨_, h⟩)
          · split at hw
            · simp at hw; exact .inr (.inr ⟨_, hw⟩)
            · simp at hw
  rcases key with rfl | rfl | ⟨n, rfl⟩
  · decide
  · decide
  · exact itoa_no n 10 (by decide) (by decide)
/-- The events of a text; none: which line (from 1 on) is none. -/
def parseEv : Nat → Bs → Nat → List Ev ⊕ Nat
  | 0, _, _ => .inl []
  | k + 1, s, n => if s = [] then .inl [] else
    match (cutOn 10 s).2.2, oneEv (cutOn 10 s).1 with
    | true, some t => match parseEv k (cutOn 10 s).2.1 (n + 1) with
      | .inl l => .inl (t :: l)
      | .inr m => .inr m
    | _, _ => .inr n
def printEv : List Ev → Option Bs
  | [] => some []
  | e :: r => if right e then (printEv r).map (lineEv e ++ 10 :: ·) else none
theorem parse_printEv (l : List Ev) (h : ∀ t ∈ l, inEv t) (s : Bs) (hp : printEv l = some s) : ∀ k n, s.length < k → parseEv k s n = .inl l := by
  induction l generalizing s with
  | nil =>
    intro k n hk
    injection hp with hp
    subst hp
    obtain ⟨k, rfl⟩ : ∃ j, k = j + 1 := ⟨k - 1, by omega⟩
    rfl
  | cons t r ih =>
    intro k n hk
    unfold printEv at hp
    split at hp
    · rename_i hr
      obtain ⟨s', h1, rfl⟩ := Option.map_eq_some_iff.1 hp
      obtain ⟨k, rfl⟩ : ∃ j, k = j + 1 := ⟨k - 1, by omega⟩
      rw [parseEv, if_neg (by simp), cut_app 10 _ _ (line_no10 t), one_line t hr (h t (by simp))]
      simp only
      rw [ih (fun u hu => h u (by simp [hu])) s' h1 k (n + 1) (by simp at hk; omega)]
    · cases hp
theorem print_parseEv (k : Nat) : ∀ (s : Bs) (n : Nat) (l : List Ev), s.length < k → parseEv k s n = .inl l → printEv l = some s ∧ ∀ t ∈ l, right t = true ∧ inEv t := by
  induction k with
  | zero => intro s n l h; omega
  | succ k ih =>
    intro s n l h hp
    rw [parseEv] at hp
    by_cases hs : s = []
    · rw [if_pos hs] at hp
      injection hp with hp
      subst hp
      exact ⟨by rw [hs]; rfl, by simp⟩
    · rw [if_neg hs] at hp
      have hl := cut_len 10 s hs
      match h1 : (cutOn 10 s).2.2, h2 : oneEv (cutOn 10 s).1, hp with
      | true, some t, hp =>
        simp only at hp
        match h3 : parseEv k (cutOn 10 s).2.1 (n + 1), hp with
        | .inl r, hp =>
          simp only [Sum.inl.injEq] at hp
          subst hp
          obtain ⟨e1, e2⟩ := ih _ _ r (by omega) h3
          obtain ⟨e3, e4, e4'⟩ := line_one _ t h2
          obtain ⟨e5, e6⟩ := cut_true 10 s h1
          refine ⟨?_, ?_⟩
          · rw [printEv, if_pos e4, e1]
            rw [Option.map_some, ← e3, ← e5]
          · intro u hu
            rcases List.mem_cons.1 hu with rfl | hu
            · exact ⟨e4, e4'⟩
            · exact e2 u hu
end Go.Proofs.YthndenpgkdjkiaaDoor
