import Derived.Test.YthndenpgkdjkiaaDoorTScript5
import Derived.Laws.StructEq
namespace Go.Proofs.YthndenpgkdjkiaaDoor
open Go.Shelf Go.RowKit Go.Sort
set_option linter.unusedVariables false
set_option maxRecDepth 100000

theorem neq85 (a b c d e f : Int) (w : World) : Sem.run Tryd.prog (binOp .neq 85 (.agg #[.int .i64 a, .int .i64 b, .int .i64 c]) (.agg #[.int .i64 d, .int .i64 e, .int .i64 f])) w = .ok (.bool (!decide ((a, b, c) = (d, e, f)))) w := by
  have u3 := Tryd.underlying3
  have a3 := Tryd.isAgg3
  have z3 := Tryd.sizeOf3
  have hS : Tryd.prog.underlying 85 = some (.struct (Tryd.prog.fieldsOf 85)) := by kernel_rfl
  have hp : Tryd.prog.stoodInHeld 85 = false := by kernel_rfl
  rw [run_neq_struct, show (10000 : Nat) = 9999 + 1 from rfl, run_equalIn_agg w 9999 85 _ _ hS hp]
  simp only [Program.fieldsOf, Tryd.underlying85]
  go_simp
  by_cases h1 : a = d <;> by_cases h2 : b = e <;> by_cases h3 : c = f <;> simp [h1, h2, h3]
theorem guard85 (a b c d e f : Int) (x y : Operand) (w : World) : Sem.run Tryd.prog (eqGuard .neq 85 x y (.agg #[.int .i64 a, .int .i64 b, .int .i64 c]) (.agg #[.int .i64 d, .int .i64 e, .int .i64 f])) w = .ok () w :=
  run_eqGuard_agg w .neq 85 x y _ _ (by kernel_rfl)
theorem sl3_form {w : World} {v : Value} {l : List Ent} (h : Sl3 w v l) : ∃ ao cap, v = .slice ao l.length cap := by
  rcases h with ⟨rfl, rfl⟩ | ⟨a, cap, rfl, _⟩
  · exact ⟨_, _, rfl⟩
  · exact ⟨_, _, rfl⟩
theorem sl3_at {w : World} {ao : Option Addr} {n cap : Nat} {l : List Ent} (h : Sl3 w (.slice ao n cap) l) (hn : 0 < l.length) : ∃ a, ao = some a ∧ cap ≤ maxLen ∧ Rd3 w a l := by
  rcases h with ⟨_, h⟩ | ⟨a, cap', h1, h2, h3, h4⟩
  · rw [h] at hn; simp at hn
  · injection h1 with h1 h5 h6
    subst h6
    exact ⟨a, h1, h3, h4⟩
theorem sl3_len {w : World} {v : Value} {l : List Ent} (h : Sl3 w v l) : l.length ≤ maxLen := by
  rcases h with ⟨rfl, rfl⟩ | ⟨a, cap, rfl, h1, h2, _⟩
  · simp
  · omega
theorem take_eq_succ (l1 l2 : List Ent) (k : Nat) (t : Ent) (h1 : l1[k]? = some t) (h2 : l2[k]? = some t) (h : l1.take k = l2.take k) : l1.take (k + 1) = l2.take (k + 1) := by
  rw [List.take_add_one, List.take_add_one, h, h1, h2]
theorem Below.drewN {BB : Nat} {a w : World} (h : Below BB a w) (n : Nat) : Below BB a (w.drewN n) := h.trans ⟨rfl, rfl, rfl, Nat.le_refl _, fun _ _ => rfl⟩
set_option maxHeartbeats 2000000 in
theorem same61 (v1 v2 : Value) (l1 l2 : List Ent) (w : World) (hv1 : Sl3 w v1 l1) (hv2 : Sl3 w v2 l2) :
    Calls Tryd.prog 61 #[v1, v2] w fun e w' => e = .returned (.bool (decide (l1 = l2))) ∧ Below w.heap.size w w' := by
  obtain ⟨r, hr⟩ : ∃ r, r = decide (l1 = l2) := ⟨_, rfl⟩
  rw [← hr]
  obtain ⟨ao1, cap1, rfl⟩ := sl3_form hv1
  obtain ⟨ao2, cap2, rfl⟩ := sl3_form hv2
  have hm1 := sl3_len hv1
  have hm2 := sl3_len hv2
  unfold maxLen at hm1 hm2
  obtain ⟨n1, e1⟩ : ∃ n, l1.length = n := ⟨_, rfl⟩
  obtain ⟨n2, e2⟩ : ∃ n, l2.length = n := ⟨_, rfl⟩
  rw [e1] at hv1 hm1 ⊢
  rw [e2] at hv2 hm2 ⊢
  by_cases hl : n1 = n2
  · subst hl
    replace e1 := Lib.hid e1
    replace e2 := Lib.hid e2
    go_enter Tryd.func61, Tryd.ntmps61
    go_wp2
    go_loopw [13] (fun i wr => ∃ k : Nat, i = .int .i64 (k : Int) ∧ k ≤ n1 ∧ Below w.heap.size w wr ∧ l1.take k = l2.take k) (fun i _ => n1 - (intOf i).toNat)
    case atStart => exact ⟨0, rfl, Nat.zero_le _, Below.refl _ _, by simp⟩
    case round =>
      obtain ⟨k, rfl, hk, hb, heq⟩ := hrel
      by_cases hkl : k < n1
      · have kl1 : k < l1.length := by rw [e1.out]; exact hkl
        have kl2 : k < l2.length := by rw [e2.out]; exact hkl
        obtain ⟨a, rfl, hc1, hr1⟩ := sl3_at hv1 (by omega)
        obtain ⟨b, rfl, hc2, hr2⟩ := sl3_at hv2 (by omega)
        obtain ⟨t, ht⟩ : ∃ t, l1[k]? = some t := ⟨_, List.getElem?_eq_getElem kl1⟩
        obtain ⟨u, hu⟩ : ∃ u, l2[k]? = some u := ⟨_, List.getElem?_eq_getElem kl2⟩
        obtain ⟨c0, c1, c2⟩ := hr1 k t ht
        obtain ⟨d0, d1, d2⟩ := hr2 k u hu
        replace c0 := (hb.cell (World.block_lt_of_cell? w _ c0)).trans c0
        replace c1 := (hb.cell (World.block_lt_of_cell? w _ c1)).trans c1
        replace c2 := (hb.cell (World.block_lt_of_cell? w _ c2)).trans c2
        replace d0 := (hb.cell (World.block_lt_of_cell? w _ d0)).trans d0
        replace d1 := (hb.cell (World.block_lt_of_cell? w _ d1)).trans d1
        replace d2 := (hb.cell (World.block_lt_of_cell? w _ d2)).trans d2
        clear hr1 hr2 hv1 hv2 kl1 kl2
        have hne := neq85 t.1 t.2.1 t.2.2 u.1 u.2.1 u.2.2
        have hgd := fun x y => guard85 t.1 t.2.1 t.2.2 u.1 u.2.1 u.2.2 x y
        by_cases htu : t = u
        · subst htu
          rw [decide_eq_true rfl] at hne
          go_wp2
          go_quiet (fail)
          go_wp2
          go_roundw
          case rel => exact ⟨k + 1, by go_num, hkl, Below.drewN hb _, take_eq_succ _ _ _ _ ht hu heq⟩
          case measure => simp [intOf]; omega
        · rw [decide_eq_false (by intro h; exact htu h)] at hne
          have hr' : r = false := by
            rw [hr, decide_eq_false]
            intro h
            subst h
            rw [ht] at hu
            injection hu with hu
            exact htu hu
          replace hr' := Lib.hid hr'
          clear hr
          go_wp2
          go_quiet (fail)
          go_wp2
          go_ret
          rw [hr'.out]
          exact ⟨rfl, Below.drewN hb _⟩
      · obtain rfl : k = n1 := by omega
        have hr' : r = true := by
          rw [hr, decide_eq_true]
          rw [← List.take_length (l := l1), e1.out, heq, ← e2.out, List.take_length]
        replace hr' := Lib.hid hr'
        clear hr
        go_wp2
        go_ret
        rw [hr'.out]
        exact ⟨rfl, hb⟩
  · have hn : ((n1 : Int) != (n2 : Int)) = true := by rw [bne_iff_ne]; omega
    have hr' : r = false := by
      rw [hr, decide_eq_false]
      intro h
      exact hl (by rw [← e1, ← e2, h])
    replace hr' := Lib.hid hr'
    clear hr
    replace e1 := Lib.hid e1
    replace e2 := Lib.hid e2
    go_enter Tryd.func61, Tryd.ntmps61
    go_wp2
    go_ret
    rw [hr'.out]
    exact ⟨rfl, Below.refl _ _⟩
theorem same16 (v1 v2 : Value) (l1 l2 : List Ent) (w : World) (hv1 : Sl3 w v1 l1) (hv2 : Sl3 w v2 l2) :
    Calls Tryd.prog 16 #[v1, v2] w fun e w' => e = .returned (.bool (decide (l1 = l2))) ∧ Below w.heap.size w w' := by
  obtain ⟨r, hr⟩ : ∃ r, r = decide (l1 = l2) := ⟨_, rfl⟩
  have hc := same61 v1 v2 l1 l2 w hv1 hv2
  rw [← hr] at hc ⊢
  clear hr
  go_enter Tryd.func16, Tryd.ntmps16
  go_wp2_with (go_at_call 61; refine hc.mono ?_)
  rintro e w' ⟨rfl, hb⟩
  go_wp2
  go_ret
  exact ⟨rfl, hb⟩
end Go.Proofs.YthndenpgkdjkiaaDoor
