import Derived.Test.YthndenpgkdjkiaaDoorTEv5
import Derived.Laws.StructEq
namespace Go.Proofs.YthndenpgkdjkiaaDoor
open Go.Shelf Go.RowKit Go.Sort
set_option linter.unusedVariables false
set_option maxRecDepth 100000

theorem one64_all (s : Bs) (hs : s.length < 4294967281) (w : World) (he : Env w) (r : Option Ev) (hr : oneEv s = r) :
    Calls Tryd.prog 64 #[.string (B s)] w fun x w' => (∃ e, x = .returned (.tuple #[evV e, .bool r.isSome]) ∧ ∀ t, r = some t → t = e) ∧ Below w.heap.size w w' := by
  cases h : sp 32 s with
  | nil => exact absurd h (sp_ne 32 s)
  | cons a ws =>
    cases ws with
    | nil =>
      have hn : r = none := by
        rw [← hr]
        unfold oneEv
        rw [h, tells_len a [] (by simp) (by simp)]
      refine (one64_nil s hs w he a h).mono ?_
      rintro x w' ⟨⟨e, rfl⟩, hb⟩
      subst hn
      exact ⟨⟨e, rfl, fun t ht => by cases ht⟩, hb⟩
    | cons b r' => exact one64_cons s hs w he a (b :: r') h (by simp) r hr
theorem neq72 (a b c d e a' b' c' d' e' : Int) (w : World) : Sem.run Tryd.prog (binOp .neq 72 (.agg #[.int .i64 a, .int .i64 b, .int .i64 c, .int .i64 d, .int .i64 e]) (.agg #[.int .i64 a', .int .i64 b', .int .i64 c', .int .i64 d', .int .i64 e'])) w = .ok (.bool (!decide ((a, b, c, d, e) = (a', b', c', d', e')))) w := by
  have u3 := Tryd.underlying3
  have a3 := Tryd.isAgg3
  have z3 := Tryd.sizeOf3
  have u2 := Tryd.underlying2
  have a2 := Tryd.isAgg2
  have z2 := Tryd.sizeOf2
  have hS : Tryd.prog.underlying 72 = some (.struct (Tryd.prog.fieldsOf 72)) := by kernel_rfl
  have hp : Tryd.prog.stoodInHeld 72 = false := by kernel_rfl
  rw [run_neq_struct, show (10000 : Nat) = 9999 + 1 from rfl, run_equalIn_agg w 9999 72 _ _ hS hp]
  simp only [Program.fieldsOf, Tryd.underlying72]
  go_simp
  by_cases h1 : a = a' <;> by_cases h2 : b = b' <;> by_cases h3 : c = c' <;> by_cases h4 : d = d' <;> by_cases h5 : e = e' <;> simp [h1, h2, h3, h4, h5]
theorem guard72 (a b c d e a' b' c' d' e' : Int) (x y : Operand) (w : World) : Sem.run Tryd.prog (eqGuard .neq 72 x y (.agg #[.int .i64 a, .int .i64 b, .int .i64 c, .int .i64 d, .int .i64 e]) (.agg #[.int .i64 a', .int .i64 b', .int .i64 c', .int .i64 d', .int .i64 e'])) w = .ok () w :=
  run_eqGuard_agg w .neq 72 x y _ _ (by kernel_rfl)
theorem take_eq_succ' (l1 l2 : List Ev) (k : Nat) (t : Ev) (h1 : l1[k]? = some t) (h2 : l2[k]? = some t) (h : l1.take k = l2.take k) : l1.take (k + 1) = l2.take (k + 1) := by
  rw [List.take_add_one, List.take_add_one, h, h1, h2]
set_option maxHeartbeats 2000000 in
theorem same73 (v1 v2 : Value) (l1 l2 : List Ev) (w : World) (hv1 : Sl5 w v1 l1) (hv2 : Sl5 w v2 l2) :
    Calls Tryd.prog 73 #[v1, v2] w fun e w' => e = .returned (.bool (decide (l1 = l2))) ∧ Below w.heap.size w w' := by
  obtain ⟨r, hr⟩ : ∃ r, r = decide (l1 = l2) := ⟨_, rfl⟩
  rw [← hr]
  obtain ⟨ao1, cap1, rfl⟩ := hv1.form
  obtain ⟨ao2, cap2, rfl⟩ := hv2.form
  have hm1 := hv1.len
  have hm2 := hv2.len
  unfold maxLen at hm1 hm2
  obtain ⟨n1, e1⟩ : ∃ n, l1.length = n := ⟨_, rfl⟩
  obtain ⟨n2, e2⟩ : ∃ n, l2.length = n := ⟨_, rfl⟩
  rw [e1] at hv1 hm1 ⊢
  rw [e2] at hv2 hm2 ⊢
  by_cases hl : n1 = n2
  · subst hl
    replace e1 := Lib.hid e1
    replace e2 := Lib.hid e2
    go_enter Tryd.func73, Tryd.ntmps73
    go_wp2
    go_loopw [13] (fun i wr => ∃ k : Nat, i = .int .i64 (k : Int) ∧ k ≤ n1 ∧ Below w.heap.size w wr ∧ l1.take k = l2.take k) (fun i _ => n1 - (intOf i).toNat)
    case atStart => exact ⟨0, rfl, Nat.zero_le _, Below.refl _ _, by simp⟩
    case round =>
      obtain ⟨k, rfl, hk, hb, heq⟩ := hrel
      by_cases hkl : k < n1
      · have kl1 : k < l1.length := by rw [e1.out]; exact hkl
        have kl2 : k < l2.length := by rw [e2.out]; exact hkl
        obtain ⟨a, rfl, hc1, hr1⟩ := hv1.some (by omega)
        obtain ⟨b, rfl, hc2, hr2⟩ := hv2.some (by omega)
        obtain ⟨t, ht⟩ : ∃ t, l1[k]? = some t := ⟨_, List.getElem?_eq_getElem kl1⟩
        obtain ⟨u, hu⟩ : ∃ u, l2[k]? = some u := ⟨_, List.getElem?_eq_getElem kl2⟩
        have hcc := fun j v hj => (hr1.below hb) k t ht j v hj
        have hdd := fun j v hj => (hr2.below hb) k u hu j v hj
        have c0 := hcc 0 _ rfl
        have d0 := hdd 0 _ rfl
        have c1 := hcc 1 _ rfl
        have d1 := hdd 1 _ rfl
        have c2 := hcc 2 _ rfl
        have d2 := hdd 2 _ rfl
        have c3 := hcc 3 _ rfl
        have d3 := hdd 3 _ rfl
        have c4 := hcc 4 _ rfl
        have d4 := hdd 4 _ rfl
        simp only [ofs, Nat.zero_add, Nat.reduceAdd] at c0 c1 c2 c3 c4 d0 d1 d2 d3 d4
        clear hcc hdd
        clear hr1 hr2 hv1 hv2 kl1 kl2
        have hne := neq72 t.1 t.2.1 t.2.2.1 t.2.2.2.1 t.2.2.2.2 u.1 u.2.1 u.2.2.1 u.2.2.2.1 u.2.2.2.2
        have hgd := fun x y => guard72 t.1 t.2.1 t.2.2.1 t.2.2.2.1 t.2.2.2.2 u.1 u.2.1 u.2.2.1 u.2.2.2.1 u.2.2.2.2 x y
        by_cases htu : t = u
        · subst htu
          rw [decide_eq_true rfl] at hne
          go_wp2
          go_quiet (fail)
          go_wp2
          go_roundw
          case rel => exact ⟨k + 1, by go_num, hkl, Below.drewN hb _, take_eq_succ' _ _ _ _ ht hu heq⟩
          case measure => simp [intOf]; omega
        · rw [decide_eq_false (by intro h; exact htu h)] at hne
          have hr' : r = false := by
            rw [hr, decide_eq_false]
            intro h
            subst h
            rw [ht] at hu
            injection hu with hu
            exact htu hu
          replace hr' := Lib.hid hr'
          clear hr
          go_wp2
          go_quiet (fail)
          go_wp2
          go_ret
          rw [hr'.out]
          exact ⟨rfl, Below.drewN hb _⟩
      · obtain rfl : k = n1 := by omega
        have hr' : r = true := by
          rw [hr, decide_eq_true]
          rw [← List.take_length (l := l1), e1.out, heq, ← e2.out, List.take_length]
        replace hr' := Lib.hid hr'
        clear hr
        go_wp2
        go_ret
        rw [hr'.out]
        exact ⟨rfl, hb⟩
  · have hn : ((n1 : Int) != (n2 : Int)) = true := by rw [bne_iff_ne]; omega
    have hr' : r = false := by
      rw [hr, decide_eq_false]
      intro h
      exact hl (by rw [← e1, ← e2, h])
    replace hr' := Lib.hid hr'
    clear hr
    replace e1 := Lib.hid e1
    replace e2 := Lib.hid e2
    go_enter Tryd.func73, Tryd.ntmps73
    go_wp2
    go_ret
    rw [hr'.out]
    exact ⟨rfl, Below.refl _ _⟩
theorem same30 (v1 v2 : Value) (l1 l2 : List Ev) (w : World) (hv1 : Sl5 w v1 l1) (hv2 : Sl5 w v2 l2) :
    Calls Tryd.prog 30 #[v1, v2] w fun e w' => e = .returned (.bool (decide (l1 = l2))) ∧ Below w.heap.size w w' := by
  obtain ⟨r, hr⟩ : ∃ r, r = decide (l1 = l2) := ⟨_, rfl⟩
  have hc := same73 v1 v2 l1 l2 w hv1 hv2
  rw [← hr] at hc ⊢
  clear hr
  go_enter Tryd.func30, Tryd.ntmps30
  go_wp2_with (go_at_call 73; refine hc.mono ?_)
  rintro e w' ⟨rfl, hb⟩
  go_wp2
  go_ret
  exact ⟨rfl, hb⟩
end Go.Proofs.YthndenpgkdjkiaaDoor
