import Derived.Test.YthndenpgkdjkiaaDoorTEvR3
import Derived.Test.YthndenpgkdjkiaaDoorTEv7
namespace Go.Proofs.YthndenpgkdjkiaaDoor
open Go.Shelf Go.RowKit Go.Sort
set_option linter.unusedVariables false
set_option maxRecDepth 100000

set_option maxHeartbeats 2000000 in
theorem same22 (v1 v2 : Value) (l1 l2 : List Ev) (w : World) (hv1 : Sl5 w v1 l1) (hv2 : Sl5 w v2 l2) :
    Calls Tryd.prog 22 #[v1, v2] w fun e w' => e = .returned (.bool (decide (l1 = l2))) ∧ Below w.heap.size w w' := by
  obtain ⟨r, hr⟩ : ∃ r, r = decide (l1 = l2) := ⟨_, rfl⟩
  rw [← hr]
  obtain ⟨ao1, cap1, rfl⟩ := hv1.form
  obtain ⟨ao2, cap2, rfl⟩ := hv2.form
  have hm1 := hv1.len
  have hm2 := hv2.len
  unfold maxLen at hm1 hm2
  obtain ⟨n1, e1⟩ : ∃ n, l1.length = n := ⟨_, rfl⟩
  obtain ⟨n2, e2⟩ : ∃ n, l2.length = n := ⟨_, rfl⟩
  rw [e1] at hv1 hm1 ⊢
  rw [e2] at hv2 hm2 ⊢
  by_cases hl : n1 = n2
  · subst hl
    replace e1 := Lib.hid e1
    replace e2 := Lib.hid e2
    go_enter Tryd.func22, Tryd.ntmps22
    go_wp2
    go_loopw [5] (fun i wr => ∃ k : Nat, i = .int .i64 (k : Int) ∧ k ≤ n1 ∧ Below w.heap.size w wr ∧ l1.take k = l2.take k) (fun i _ => n1 - (intOf i).toNat)
    case atStart => exact ⟨0, rfl, Nat.zero_le _, Below.refl _ _, by simp⟩
    case round =>
      obtain ⟨k, rfl, hk, hb, heq⟩ := hrel
      by_cases hkl : k < n1
      · have kl1 : k < l1.length := by rw [e1.out]; exact hkl
        have kl2 : k < l2.length := by rw [e2.out]; exact hkl
        obtain ⟨a, rfl, hc1, hr1⟩ := hv1.some (by omega)
        obtain ⟨b, rfl, hc2, hr2⟩ := hv2.some (by omega)
        obtain ⟨t, ht⟩ : ∃ t, l1[k]? = some t := ⟨_, List.getElem?_eq_getElem kl1⟩
        obtain ⟨u, hu⟩ : ∃ u, l2[k]? = some u := ⟨_, List.getElem?_eq_getElem kl2⟩
        have hcc := fun j v hj => (hr1.below hb) k t ht j v hj
        have hdd := fun j v hj => (hr2.below hb) k u hu j v hj
        have c0 := hcc 0 _ rfl
        have d0 := hdd 0 _ rfl
        have c1 := hcc 1 _ rfl
        have d1 := hdd 1 _ rfl
        have c2 := hcc 2 _ rfl
        have d2 := hdd 2 _ rfl
        have c3 := hcc 3 _ rfl
        have d3 := hdd 3 _ rfl
        have c4 := hcc 4 _ rfl
        have d4 := hdd 4 _ rfl
        simp only [ofs, Nat.zero_add, Nat.reduceAdd] at c0 c1 c2 c3 c4 d0 d1 d2 d3 d4
        clear hcc hdd
        clear hr1 hr2 hv1 hv2 kl1 kl2
        have hne := neq72 t.1 t.2.1 t.2.2.1 t.2.2.2.1 t.2.2.2.2 u.1 u.2.1 u.2.2.1 u.2.2.2.1 u.2.2.2.2
        have hgd := fun x y => guard72 t.1 t.2.1 t.2.2.1 t.2.2.2.1 t.2.2.2.2 u.1 u.2.1 u.2.2.1 u.2.2.2.1 u.2.2.2.2 x y
        by_cases htu : t = u
        · subst htu
          rw [decide_eq_true rfl] at hne
          go_wp2
          go_quiet (fail)
          go_wp2
          go_roundw
          case rel => exact ⟨k + 1, by go_num, hkl, Below.drewN hb _, take_eq_succ' _ _ _ _ ht hu heq⟩
          case measure => simp [intOf]; omega
        · rw [decide_eq_false (by intro h; exact htu h)] at hne
          have hr' : r = false := by
            rw [hr, decide_eq_false]
            intro h
            subst h
            rw [ht] at hu
            injection hu with hu
            exact htu hu
          replace hr' := Lib.hid hr'
          clear hr
          go_wp2
          go_quiet (fail)
          go_wp2
          go_ret
          rw [hr'.out]
          exact ⟨rfl, Below.drewN hb _⟩
      · obtain rfl : k = n1 := by omega
        have hr' : r = true := by
          rw [hr, decide_eq_true]
          rw [← List.take_length (l := l1), e1.out, heq, ← e2.out, List.take_length]
        replace hr' := Lib.hid hr'
        clear hr
        go_wp2
        go_ret
        rw [hr'.out]
        exact ⟨rfl, hb⟩
  · have hn : ((n1 : Int) != (n2 : Int)) = true := by rw [bne_iff_ne]; omega
    have hr' : r = false := by
      rw [hr, decide_eq_false]
      intro h
      exact hl (by rw [← e1, ← e2, h])
    replace hr' := Lib.hid hr'
    clear hr
    replace e1 := Lib.hid e1
    replace e2 := Lib.hid e2
    go_enter Tryd.func22, Tryd.ntmps22
    go_wp2
    go_ret
    rw [hr'.out]
    exact ⟨rfl, Below.refl _ _⟩
end Go.Proofs.YthndenpgkdjkiaaDoor
