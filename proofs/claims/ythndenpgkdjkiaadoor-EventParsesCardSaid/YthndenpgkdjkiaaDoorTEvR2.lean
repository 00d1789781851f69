import Derived.Test.YthndenpgkdjkiaaDoorTEvR1
import Derived.Laws.DeepStrings4
namespace Go.Proofs.YthndenpgkdjkiaaDoor
open Go.Shelf Go.RowKit Go.Sort
set_option linter.unusedVariables false
set_option maxRecDepth 100000

theorem sp_snoc_eq (x : UInt8) (l : Bs) : sp x (l ++ [x]) = sp x l ++ [[]] := by
  induction l with
  | nil => simp [sp]
  | cons c t ih =>
    by_cases h : c = x
    · subst h
      rw [List.cons_append, sp, if_pos rfl, ih, sp, if_pos rfl]
      rfl
    · obtain ⟨a, r, h1, h2⟩ := sp_cons_ne x c t h
      obtain ⟨a', r', h1', h2'⟩ := sp_cons_ne x c (t ++ [x]) h
      rw [List.cons_append, h2', h2]
      rw [ih, h1] at h1'
      simp only [List.cons_append, List.cons.injEq] at h1'
      rw [← h1'.1, ← h1'.2]
      rfl
theorem sp_snoc_ne (x c : UInt8) (hc : c ≠ x) (l : Bs) : ∃ i a, sp x l = i ++ [a] ∧ sp x (l ++ [c]) = i ++ [a ++ [c]] := by
  induction l with
  | nil => exact ⟨[], [], by simp [sp], by simp [sp, hc]⟩
  | cons d t ih =>
    obtain ⟨i, a, e1, e2⟩ := ih
    by_cases h : d = x
    · subst h
      exact ⟨[] :: i, a, by rw [sp, if_pos rfl, e1]; rfl, by rw [List.cons_append, sp, if_pos rfl, e2]; rfl⟩
    · obtain ⟨b, r, h1, h2⟩ := sp_cons_ne x d t h
      obtain ⟨b', r', h1', h2'⟩ := sp_cons_ne x d (t ++ [c]) h
      rw [List.cons_append, h2', h2]
      rw [e2] at h1'
      rw [e1] at h1
      cases i with
      | nil =>
        simp at h1 h1'
        exact ⟨[], d :: a, by rw [← h1.1, h1.2]; rfl, by rw [← h1'.1, h1'.2]; rfl⟩
      | cons i0 i1 =>
        simp at h1 h1'
        exact ⟨(d :: i0) :: i1, a, by rw [← h1.1, ← h1.2]; rfl, by rw [← h1'.1, ← h1'.2]; rfl⟩
theorem wrapId (n : Int) (h1 : -9223372036854775808 ≤ n) (h2 : n ≤ 9223372036854775807) : IntKind.i64.wrap n = n := by
  rw [IntKind.wrap_i64]
  omega
theorem slice9 (s : Bs) (k : Nat) (h : k < s.length) (c : UInt8) (hc : s[k]'h = c) (w : World) : (Instr.sliceAt 9 (.string (B s)) (some (.int .i64 (k : Int))) (some (.int .i64 ((k : Int) + 1))) none).run Tryd.prog w = .ok (.string (B [c])) w := by
  have hsz : (B s).size = s.length := by show s.toArray.size = _; simp
  rw [run_sliceAt_string _ _ _ _ _ _ Tryd.underlying9, run_slice_string_if _ _ _ _ _ _ _ Tryd.underlying9, if_pos (by rw [hsz]; omega), if_pos (by omega)]
  congr 2
  apply ByteArray.ext
  rw [ByteArray.data_extract]
  have e1 : ((k : Int) + 1).toNat = k + 1 := by omega
  rw [e1, Int.toNat_natCast]
  apply Array.ext'
  simp
  rw [List.drop_eq_getElem_cons h, hc]
  rfl
set_option maxHeartbeats 4000000 in
theorem words108 (s : Bs) (hs : s.length < 1000000) (w : World) : Calls Tryd.prog 108 #[.string (B s)] w fun e w' => ∃ v, e = .returned v ∧ w'.ownsRow w.heap.size 9 1 v (sp 32 s).length (strs (sp 32 s)) ∧ Below w.heap.size w w' := by
  obtain ⟨i0, hi, hz0, hz1, hz2⟩ := info_parts info9
  have hsz : (B s).size = s.length := by show s.toArray.size = _; simp
  have hix := idx9 s
  have hn0 := alloc_new w (.cells #[.string ⟨#[]⟩] 9 (0, 0))
  have hb0 := (Below.refl w.heap.size w).alloc (Nat.le_refl _) (.cells #[.string ⟨#[]⟩] 9 (0, 0))
  have hz : (w.alloc (.cells #[.string ⟨#[]⟩] 9 (0, 0))).heap.size = w.heap.size + 1 := World.size_alloc ..
  go_enter Tryd.func108, Tryd.ntmps108
  go_wp2
  generalize w.alloc (.cells #[.string ⟨#[]⟩] 9 (0, 0)) = w1 at *
  go_loopw [3, 4] (fun v i wr => ∃ k : Nat, i = .int .i64 (k : Int) ∧ k ≤ s.length ∧ Below w.heap.size w wr ∧ wr.ownsRow w.heap.size 9 1 v (sp 32 (s.take k)).length (strs (sp 32 (s.take k)))) (fun _ i _ => s.length - (intOf i).toNat)
  case atStart =>
    refine ⟨0, rfl, Nat.zero_le _, hb0, ?_⟩
    refine ⟨rfl, .inr ⟨w.heap.size, 1, _, rfl, Nat.le_refl _, hn0, Nat.le_refl _, by unfold maxLen; omega, rfl, rfl⟩⟩
  case round =>
    obtain ⟨k, rfl, hk, hb, hown⟩ := hrel
    have hcnt := sp_count 32 (s.take k)
    rw [List.length_take] at hcnt
    have hbz := hb.size
    by_cases hks : k < s.length
    · have hg := hix k hks
      obtain ⟨c, hc⟩ : ∃ c, s[k]'hks = c := ⟨_, rfl⟩
      rw [hc] at hg
      have htk : s.take (k + 1) = s.take k ++ [c] := by
        rw [List.take_add_one, List.getElem?_eq_getElem hks, hc]
        rfl
      have hkS : (k : Int) < ((B s).size : Int) := by rw [hsz]; omega
      have hkS2 : (k : Int) < (s.length : Int) := by omega
      clear hix
      by_cases h32 : c = 32
      · have hcb : ((c.toNat : Int) == 32) = true := by rw [h32]; rfl
        subst h32
        have hnew := sp_snoc_eq 32 (s.take k)
        rw [← htk] at hnew
        obtain ⟨ao, cap, rfl⟩ := own_form hown
        generalize hWW : sp 32 (s.take k) = WW at *
        go_wp2_with (at_builtin; refine wpList_append_own _ rfl _ _ 122 rfl w.heap.size 9 i0 (.string ByteArray.empty) 1 16 Tryd.underlying122 hi hz0 hz1 hz2 rfl (by decide) _ _ _ rfl (hown.alloc _) ⟨wr.heap.size, 0, none⟩ 1 1 [.string ByteArray.empty] rfl rfl (cell_one_new _ _ _) (fun u hu => by simp at hu; subst hu; rfl) (by unfold maxLen; omega) (by omega) (by rw [World.size_alloc]; omega) ?_)
        intro v' w6 own6 hgrow hnil
        go_wp2
        go_roundw
        case rel =>
          refine ⟨k + 1, by go_num, hks, (hb.alloc hbz _).grown hgrow (by rw [World.size_alloc]; omega) (fun k hk => (hown.lt k hk).1), ?_⟩
          rw [hnew, List.length_append]
          have e : strs (WW ++ [[]]) = strs WW ++ [.string ByteArray.empty] := by simp [strs]; rfl
          rw [e]
          exact own6
        case measure => simp [intOf]; omega
      · have hcb : ((c.toNat : Int) == 32) = false := by
          rw [beq_eq_false_iff_ne]
          intro e
          exact h32 (UInt8.toNat_inj.1 (by simpa using (by omega : c.toNat = 32)))
        obtain ⟨i, a, e1, e2⟩ := sp_snoc_ne 32 c h32 (s.take k)
        rw [← htk] at e2
        rw [e1] at hown hcnt
        have hil : (i ++ [a]).length = i.length + 1 := by simp
        rw [hil] at hown hcnt
        obtain ⟨gb, cap, rfl⟩ := own_some hown (by omega)
        have hcell : wr.cell? ⟨gb, i.length, none⟩ = some (.string (B a)) := by
          rw [hown.cellAt i.length (by omega)]
          simp [strs]
        have hfz := hown.frozenAt i.length
        have hltb := (hown.lt gb rfl)
        obtain ⟨N, hN⟩ : ∃ N, i.length = N := ⟨_, rfl⟩
        rw [hN] at hcell hfz hown hcnt ⊢
        have wr1 : IntKind.i64.wrap (N : Int) = (N : Int) := wrapId _ (by omega) (by omega)
        have wr2 : IntKind.i64.wrap ((k : Int) + 1) = (k : Int) + 1 := wrapId _ (by omega) (by omega)
        have hsl := slice9 s k hks c hc
        have hal := sp_len 32 (s.take k) a (by rw [e1]; simp)
        rw [List.length_take] at hal
        have a1 := addStr a [c] (by simp; omega)
        have hN1 : (N : Int) < (N : Int) + 1 := by omega
        go_wp2
        go_region_law (fail)
        go_wp2
        go_roundw
        case rel =>
          have hnew : sp 32 (s.take (k + 1)) = i ++ [a ++ [c]] := e2
          have hst := hown.stored N (.string (B (a ++ [c])))
          refine ⟨k + 1, by go_num, hks, ?_, ?_⟩
          · exact (Below.drew hb).setCell (p := ⟨gb, N, none⟩) hltb.1 _
          · have hil2 : (i ++ [a ++ [c]]).length = N + 1 := by simp [hN]
            rw [hnew, hil2]
            have e : strs (i ++ [a ++ [c]]) = (strs (i ++ [a])).set N (.string (B (a ++ [c]))) := by
              simp [strs, ← hN]
            rw [e]
            exact hst.1
        case measure => simp [intOf]; omega
    · obtain rfl : k = s.length := by omega
      rw [List.take_length] at hown
      have hkS : ¬((s.length : Int) < ((B s).size : Int)) := by rw [hsz]; omega
      have hkS2 : ¬((s.length : Int) < (s.length : Int)) := by omega
      go_wp2
      go_ret
      exact ⟨_, rfl, hown, hb⟩
end Go.Proofs.YthndenpgkdjkiaaDoor
