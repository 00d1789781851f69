import Derived.Test.YthndenpgkdjkiaaDoorTScript9
namespace Go.Proofs.YthndenpgkdjkiaaDoor
open Go.Shelf Go.RowKit Go.Sort
set_option linter.unusedVariables false
set_option maxRecDepth 100000

theorem neq24 (a b c d e f : Int) (w : World) : Sem.run Tryd.prog (binOp .neq 24 (.agg #[.int .i64 a, .int .i64 b, .int .i64 c]) (.agg #[.int .i64 d, .int .i64 e, .int .i64 f])) w = .ok (.bool (!decide ((a, b, c) = (d, e, f)))) w := by
  have u3 := Tryd.underlying3
  have a3 := Tryd.isAgg3
  have z3 := Tryd.sizeOf3
  have hS : Tryd.prog.underlying 24 = some (.struct (Tryd.prog.fieldsOf 24)) := by kernel_rfl
  have hp : Tryd.prog.stoodInHeld 24 = false := by kernel_rfl
  rw [run_neq_struct, show (10000 : Nat) = 9999 + 1 from rfl, run_equalIn_agg w 9999 24 _ _ hS hp]
  simp only [Program.fieldsOf, Tryd.underlying24]
  go_simp
  by_cases h1 : a = d <;> by_cases h2 : b = e <;> by_cases h3 : c = f <;> simp [h1, h2, h3]
theorem guard24 (a b c d e f : Int) (x y : Operand) (w : World) : Sem.run Tryd.prog (eqGuard .neq 24 x y (.agg #[.int .i64 a, .int .i64 b, .int .i64 c]) (.agg #[.int .i64 d, .int .i64 e, .int .i64 f])) w = .ok () w :=
  run_eqGuard_agg w .neq 24 x y _ _ (by kernel_rfl)
theorem B_len (s : Bs) : (B s).size = s.length := by show s.toArray.size = _; simp
theorem law3_big (n : Nat) (ao : Option Addr) (cap : Nat) (s : Bs) (a b c : Int) (w : World) (he : Env w) (h : 60 < n ∨ n ≤ 60 ∧ 1000 < s.length) :
    Calls Tryd.prog 3 #[.slice ao n cap, .string (B s), .agg #[.int .i64 a, .int .i64 b, .int .i64 c]] w fun e w' => e = .returned (.bool true) ∧ Below w.heap.size w w' := by
  have hb := (Below.refl w.heap.size w).alloc (Nat.le_refl _) (.cells #[.int .i64 a, .int .i64 b, .int .i64 c] 24 (0, 0))
  have hz := B_len s
  generalize B s = S at *
  rcases h with h | ⟨h, h'⟩
  · have h1 : ((n : Int) > 60) := by omega
    go_enter Tryd.func3, Tryd.ntmps3
    go_wp2_with fail
    refine (alive13 _ (he.below hb)).mono ?_
    rintro e w1 ⟨rfl, h1⟩
    go_wp2
    go_ret
    exact ⟨rfl, hb.trans (h1.mono hb.size)⟩
  · have h1 : ¬((n : Int) > 60) := by omega
    have h2 : ((S.size : Int) > 1000) := by omega
    go_enter Tryd.func3, Tryd.ntmps3
    go_wp2_with fail
    refine (alive13 _ (he.below hb)).mono ?_
    rintro e w1 ⟨rfl, h1⟩
    go_wp2
    go_ret
    exact ⟨rfl, hb.trans (h1.mono hb.size)⟩
theorem parse_len (k : Nat) : ∀ (s : Bs) (l : List Ent), parseK k s = some l → l.length ≤ s.length := by
  induction k with
  | zero => intro s l h; injection h with h; subst h; simp
  | succ k ih =>
    intro s l hp
    rw [parseK] at hp
    by_cases hs : s = []
    · rw [if_pos hs] at hp
      injection hp with hp
      subst hp
      simp
    · rw [if_neg hs] at hp
      have hl := cut_len 10 s hs
      match h1 : (cutOn 10 s).2.2, h2 : three (cutOn 10 s).1, hp with
      | true, some t, hp =>
        simp only [Option.map_eq_some_iff] at hp
        obtain ⟨r, hr, rfl⟩ := hp
        have := ih _ r hr
        simp; omega
set_option maxHeartbeats 4000000 in
theorem law3_small (n : Nat) (ao : Option Addr) (cap : Nat) (l : List Ent) (hl : l.length = n) (hin : ∀ t ∈ l, inE t) (s : Bs) (a b c : Int) (w : World) (he : Env w) (hv : Sl3 w (.slice ao n cap) l) (h1 : n ≤ 60) (h2 : s.length ≤ 1000) :
    Calls Tryd.prog 3 #[.slice ao n cap, .string (B s), .agg #[.int .i64 a, .int .i64 b, .int .i64 c]] w fun e w' => e = .returned (.bool true) ∧ Below w.heap.size w w' := by
  have hb := (Below.refl w.heap.size w).alloc (Nat.le_refl _) (.cells #[.int .i64 a, .int .i64 b, .int .i64 c] 24 (0, 0))
  have hn := alloc_new w (.cells #[.int .i64 a, .int .i64 b, .int .i64 c] 24 (0, 0))
  have hz : (w.alloc (.cells #[.int .i64 a, .int .i64 b, .int .i64 c] 24 (0, 0))).heap.size = w.heap.size + 1 := World.size_alloc ..
  have hsz := B_len s
  have g1 : ¬((n : Int) > 60) := by omega
  have g2 : ¬(((B s).size : Int) > 1000) := by omega
  have hpl := printE_len l hin
  have pp := parse_print l hin
  have hv1 := hv.below hb
  go_enter Tryd.func3, Tryd.ntmps3
  go_wp2_with fail
  generalize w.alloc (.cells #[.int .i64 a, .int .i64 b, .int .i64 c] 24 (0, 0)) = w1 at *
  refine (print15 _ l (by omega) hin w1 hv1 (he.below hb)).mono ?_
  rintro e w2 ⟨rfl, k2⟩
  have b2 := hb.trans (k2.mono hb.size)
  go_wp2_with fail
  refine (parse14 (printE l) (by omega) w2 (he.below b2) (some l) (pp _ (by omega))).mono ?_
  rintro e w3 ⟨v, nn, rfl, k3, own, _⟩
  have own := own l rfl
  have b3 := b2.trans (k3.mono b2.size)
  have sl3 := sl3_own own
  obtain ⟨ao1, cap1, rfl⟩ := own_form own
  have sm := same16 _ _ l l w3 sl3 ((hv1.below k2).below k3)
  rw [decide_eq_true rfl] at sm
  rw [hl] at sm own ⊢
  clear own
  go_wp2_with fail
  refine sm.mono ?_
  rintro e w4 ⟨rfl, k4⟩
  have b4 := b3.trans (k4.mono b3.size)
  have i4 : Is3 w.heap.size 24 a b c w4 := ((Is3.below (w := w1) hn k2 (by omega)).below k3 (by have := k2.size; omega)).below k4 (by have := k2.size; have := k3.size; omega)
  have c0 := i4.c0
  have c1 := i4.c1
  have c2 := i4.c2
  have wd := words17 a b c w4 (he.below b4)
  by_cases hc : confOk a b c
  · rw [if_pos hc] at wd
    obtain ⟨cl, cne⟩ := conf_line a b c hc
    obtain ⟨ia, ib, ic⟩ := confOk_in hc
    have ll := lineE_len (a, b, c) ⟨ia, ib, ic⟩
    unfold lineE at ll
    simp only at ll
    go_wp2_with fail
    refine wd.mono ?_
    rintro e w5 ⟨rfl, k5⟩
    have b5 := b4.trans (k5.mono b4.size)
    have cf := conf18 (lineOf a b c) (by omega) w5 (he.below b5)
    rw [cl] at cf
    have hne : (!List.isEmpty (lineOf a b c)) = true := by simpa using cne
    have nq := neq24 a b c a b c
    rw [decide_eq_true rfl] at nq
    have gq := fun x y => guard24 a b c a b c x y
    have i5 := i4.below k5 (by have := k2.size; have := k3.size; have := k4.size; omega)
    have z5 : w.heap.size < w5.heap.size := blk_lt i5
    clear cl ll
    go_wp2_with fail
    refine cf.mono ?_
    rintro e w6 ⟨⟨x, y, z, rfl, hxy⟩, k6⟩
    have hxy := hxy _ rfl
    injection hxy with e1 hxy
    injection hxy with e2 e3
    subst e1 e2 e3
    have i6 := i5.below k6 z5
    have b6 := b5.trans (k6.mono b5.size)
    have d0 := i6.c0
    have d1 := i6.c1
    have d2 := i6.c2
    have i7 := i6.below ((Below.refl w6.heap.size w6).alloc (Nat.le_refl _) (.cells #[.int .i64 a, .int .i64 b, .int .i64 c] 24 (0, 0))) (blk_lt i6)
    have f0 := i7.c0
    have f1 := i7.c1
    have f2 := i7.c2
    have z6 : w.heap.size < w6.heap.size := blk_lt i6
    have b7 := b6.alloc b6.size (.cells #[.int .i64 a, .int .i64 b, .int .i64 c] 24 (0, 0))
    go_wp2_with fail
    refine (parse14 s (by omega) (w6.alloc (.cells #[.int .i64 a, .int .i64 b, .int .i64 c] 24 (0, 0))) (he.below b7) _ rfl).mono ?_
    rintro e x1 ⟨v2, n2, rfl, q1, own2, nil2⟩
    have p1 := b7.trans (q1.mono b7.size)
    cases hr : parseK (s.length + 1) s with
    | none =>
      obtain rfl := nil2 hr
      clear own2
      go_wp2_with fail
      refine (alive13 _ (he.below p1)).mono ?_
      rintro e x2 ⟨rfl, q2⟩
      go_wp2
      go_ret
      exact ⟨rfl, p1.trans (q2.mono p1.size)⟩
    | some l2 =>
      obtain ⟨ep, ein⟩ := print_parse _ s l2 (by omega) hr
      have own2 := own2 l2 hr
      have hln := parse_len _ s l2 hr
      have pr := print15 v2 l2 (by omega) ein x1 (sl3_own own2) (he.below p1)
      rw [ep] at pr
      obtain ⟨ao2, cap2, rfl⟩ := own_form own2
      clear own2 nil2 hr
      go_wp2_with fail
      refine pr.mono ?_
      rintro e x2 ⟨rfl, q2⟩
      have p2 := p1.trans (q2.mono p1.size)
      go_wp2_with fail
      refine (alive13 _ (he.below p2)).mono ?_
      rintro e x3 ⟨rfl, q3⟩
      go_wp2
      go_ret
      exact ⟨rfl, p2.trans (q3.mono p2.size)⟩
  · rw [if_neg hc] at wd
    go_wp2_with fail
    refine wd.mono ?_
    rintro e w5 ⟨rfl, k5⟩
    have b5 := b4.trans (k5.mono b4.size)
    go_wp2_with fail
    refine (parse14 s (by omega) w5 (he.below b5) _ rfl).mono ?_
    rintro e x1 ⟨v2, n2, rfl, q1, own2, nil2⟩
    have p1 := b5.trans (q1.mono b5.size)
    cases hr : parseK (s.length + 1) s with
    | none =>
      obtain rfl := nil2 hr
      clear own2
      go_wp2_with fail
      refine (alive13 _ (he.below p1)).mono ?_
      rintro e x2 ⟨rfl, q2⟩
      go_wp2
      go_ret
      exact ⟨rfl, p1.trans (q2.mono p1.size)⟩
    | some l2 =>
      obtain ⟨ep, ein⟩ := print_parse _ s l2 (by omega) hr
      have own2 := own2 l2 hr
      have hln := parse_len _ s l2 hr
      have pr := print15 v2 l2 (by omega) ein x1 (sl3_own own2) (he.below p1)
      rw [ep] at pr
      obtain ⟨ao2, cap2, rfl⟩ := own_form own2
      clear own2 nil2 hr
      go_wp2_with fail
      refine pr.mono ?_
      rintro e x2 ⟨rfl, q2⟩
      have p2 := p1.trans (q2.mono p1.size)
      go_wp2_with fail
      refine (alive13 _ (he.below p2)).mono ?_
      rintro e x3 ⟨rfl, q3⟩
      go_wp2
      go_ret
      exact ⟨rfl, p2.trans (q3.mono p2.size)⟩
end Go.Proofs.YthndenpgkdjkiaaDoor
