import Derived.Test.YthndenpgkdjkiaaDoorTEv7
namespace Go.Proofs.YthndenpgkdjkiaaDoor
open Go.Shelf Go.RowKit Go.Sort
set_option linter.unusedVariables false
set_option maxRecDepth 100000

theorem parseEv_len (k : Nat) : ∀ (s : Bs) (n : Nat) (l : List Ev), parseEv k s n = .inl l → l.length ≤ s.length := by
  induction k with
  | zero => intro s n l h; injection h with h; subst h; simp
  | succ k ih =>
    intro s n l hp
    rw [parseEv] at hp
    by_cases hs : s = []
    · rw [if_pos hs] at hp
      injection hp with hp
      subst hp
      simp
    · rw [if_neg hs] at hp
      have hl := cut_len 10 s hs
      match h1 : (cutOn 10 s).2.2, h2 : oneEv (cutOn 10 s).1, hp with
      | true, some t, hp =>
        simp only at hp
        match h3 : parseEv k (cutOn 10 s).2.1 (n + 1), hp with
        | .inl r, hp =>
          simp only [Sum.inl.injEq] at hp
          subst hp
          have := ih _ _ r h3
          simp; omega
theorem printEv_len (l : List Ev) (h : ∀ t ∈ l, inEv t) (s : Bs) (hp : printEv l = some s) : s.length ≤ 111 * l.length := by
  induction l generalizing s with
  | nil => injection hp with hp; subst hp; simp
  | cons t r ih =>
    unfold printEv at hp
    split at hp
    · obtain ⟨s', h1, rfl⟩ := Option.map_eq_some_iff.1 hp
      have h2 := ih (fun u hu => h u (by simp [hu])) s' h1
      have h3 := lineEv_len t (h t (by simp))
      simp only [List.length_append, List.length_cons]
      omega
    · cases hp
theorem law6_big (n : Nat) (ao : Option Addr) (cap : Nat) (s : Bs) (w : World) (he : Env w) (h : 60 < n ∨ n ≤ 60 ∧ 1000 < s.length) :
    Calls Tryd.prog 6 #[.slice ao n cap, .string (B s)] w fun e w' => e = .returned (.bool true) ∧ Below w.heap.size w w' := by
  have hz := B_len s
  generalize B s = S at *
  rcases h with h | ⟨h, h'⟩
  · have h1 : ((n : Int) > 60) := by omega
    go_enter Tryd.func6, Tryd.ntmps6
    go_wp2_with fail
    refine (alive19 _ he).mono ?_
    rintro e w1 ⟨rfl, h1⟩
    go_wp2
    go_ret
    exact ⟨rfl, h1⟩
  · have h1 : ¬((n : Int) > 60) := by omega
    have h2 : ((S.size : Int) > 1000) := by omega
    go_enter Tryd.func6, Tryd.ntmps6
    go_wp2_with fail
    refine (alive19 _ he).mono ?_
    rintro e w1 ⟨rfl, h1⟩
    go_wp2
    go_ret
    exact ⟨rfl, h1⟩
set_option maxHeartbeats 4000000 in
theorem law6_small (n : Nat) (ao : Option Addr) (cap : Nat) (l : List Ev) (hl : l.length = n) (hin : ∀ t ∈ l, inEv t) (s : Bs) (w : World) (he : Env w) (hv : Sl5 w (.slice ao n cap) l) (h1 : n ≤ 60) (h2 : s.length ≤ 1000) :
    Calls Tryd.prog 6 #[.slice ao n cap, .string (B s)] w fun e w' => e = .returned (.bool true) ∧ Below w.heap.size w w' := by
  have hsz := B_len s
  have g1 : ¬((n : Int) > 60) := by omega
  have g2 : ¬(((B s).size : Int) > 1000) := by omega
  have pr0 := print29 _ l (by omega) hin w hv he
  cases hp : printEv l with
  | none =>
    rw [hp] at pr0
    have hnone : (none : Option Bs).isSome = false := rfl
    rw [hnone, if_neg (by decide), Option.getD_none] at pr0
    go_enter Tryd.func6, Tryd.ntmps6
    go_wp2_with fail
    refine pr0.mono ?_
    rintro e w2 ⟨rfl, b2⟩
    go_wp2_with fail
    refine (parse20 s (by omega) w2 (he.below b2) _ rfl).mono ?_
    rintro e x1 ⟨q1, h1 | h1⟩
    · obtain ⟨l2, v2, hr, rfl, own2⟩ := h1
      have p1 := b2.trans (q1.mono b2.size)
      obtain ⟨ep, ein⟩ := print_parseEv _ s 1 l2 (by omega) hr
      have hln := parseEv_len _ s 1 l2 hr
      have pr := print29 v2 l2 (by omega) (fun t ht => (ein t ht).2) x1 (slN_own evCells_len own2) (he.below p1)
      rw [ep] at pr
      have hsome : (some s : Option Bs).isSome = true := rfl
      rw [hsome, if_pos rfl, Option.getD_some] at pr
      obtain ⟨ao2, cap2, rfl⟩ := own_form own2
      clear own2 hr
      go_wp2_with fail
      refine pr.mono ?_
      rintro e x2 ⟨rfl, q2⟩
      have p2 := p1.trans (q2.mono p1.size)
      go_wp2_with fail
      refine (alive19 _ (he.below p2)).mono ?_
      rintro e x3 ⟨rfl, q3⟩
      go_wp2
      go_ret
      exact ⟨rfl, p2.trans (q3.mono p2.size)⟩
    · obtain ⟨m, hr, rfl⟩ := h1
      have p1 := b2.trans (q1.mono b2.size)
      clear hr
      go_wp2_with fail
      refine (alive19 _ (he.below p1)).mono ?_
      rintro e x2 ⟨rfl, q2⟩
      go_wp2
      go_ret
      exact ⟨rfl, p1.trans (q2.mono p1.size)⟩
  | some t =>
    rw [hp] at pr0
    have hsome : (some t : Option Bs).isSome = true := rfl
    rw [hsome, if_pos rfl, Option.getD_some] at pr0
    have hpl := printEv_len l hin t hp
    have pp := parse_printEv l hin t hp (t.length + 1) 1 (by omega)
    go_enter Tryd.func6, Tryd.ntmps6
    go_wp2_with fail
    refine pr0.mono ?_
    rintro e w2 ⟨rfl, b2⟩
    go_wp2_with fail
    refine (parse20 t (by omega) w2 (he.below b2) _ pp).mono ?_
    rintro e w3 ⟨k3, h3 | h3⟩
    · obtain ⟨l3, v3, hr3, rfl, own3⟩ := h3
      injection hr3 with hr3
      subst hr3
      have b3 := b2.trans (k3.mono b2.size)
      have sl3 := slN_own evCells_len own3
      obtain ⟨ao1, cap1, rfl⟩ := own_form own3
      have sm := same30 _ _ l l w3 sl3 ((hv.below b2).below k3)
      rw [decide_eq_true rfl] at sm
      rw [hl] at sm ⊢
      clear own3
      go_wp2_with fail
      refine sm.mono ?_
      rintro e w4 ⟨rfl, k4⟩
      have b4 := b3.trans (k4.mono b3.size)
      go_wp2_with fail
      refine (parse20 s (by omega) w4 (he.below b4) _ rfl).mono ?_
      rintro e x1 ⟨q1, h1 | h1⟩
      · obtain ⟨l2, v2, hr, rfl, own2⟩ := h1
        have p1 := b4.trans (q1.mono b4.size)
        obtain ⟨ep, ein⟩ := print_parseEv _ s 1 l2 (by omega) hr
        have hln := parseEv_len _ s 1 l2 hr
        have pr := print29 v2 l2 (by omega) (fun t ht => (ein t ht).2) x1 (slN_own evCells_len own2) (he.below p1)
        rw [ep] at pr
        have hsome : (some s : Option Bs).isSome = true := rfl
        rw [hsome, if_pos rfl, Option.getD_some] at pr
        obtain ⟨ao2, cap2, rfl⟩ := own_form own2
        clear own2 hr
        go_wp2_with fail
        refine pr.mono ?_
        rintro e x2 ⟨rfl, q2⟩
        have p2 := p1.trans (q2.mono p1.size)
        go_wp2_with fail
        refine (alive19 _ (he.below p2)).mono ?_
        rintro e x3 ⟨rfl, q3⟩
        go_wp2
        go_ret
        exact ⟨rfl, p2.trans (q3.mono p2.size)⟩
      · obtain ⟨m, hr, rfl⟩ := h1
        have p1 := b4.trans (q1.mono b4.size)
        clear hr
        go_wp2_with fail
        refine (alive19 _ (he.below p1)).mono ?_
        rintro e x2 ⟨rfl, q2⟩
        go_wp2
        go_ret
        exact ⟨rfl, p1.trans (q2.mono p1.size)⟩
    · obtain ⟨m, hr3, _⟩ := h3
      cases hr3
end Go.Proofs.YthndenpgkdjkiaaDoor
