import Derived.Test.YthndenpgkdjkiaaDoorTEvR4
import Derived.Laws.DeepStrings4
namespace Go.Proofs.YthndenpgkdjkiaaDoor
open Go.Shelf Go.RowKit Go.Sort
set_option linter.unusedVariables false
set_option maxRecDepth 100000

theorem sliceB (s : Bs) (i j : Nat) (hij : i ≤ j) (hj : j ≤ s.length) (w : World) : (Instr.sliceAt 9 (.string (B s)) (some (.int .i64 (i : Int))) (some (.int .i64 (j : Int))) none).run Tryd.prog w = .ok (.string (B ((s.take j).drop i))) w := by
  have hsz : (B s).size = s.length := by show s.toArray.size = _; simp
  rw [run_sliceAt_string _ _ _ _ _ _ Tryd.underlying9, run_slice_string_if _ _ _ _ _ _ _ Tryd.underlying9, if_pos (by rw [hsz]; omega), if_pos (by omega)]
  congr 2
  apply ByteArray.ext
  rw [ByteArray.data_extract, Int.toNat_natCast, Int.toNat_natCast]
  apply Array.ext'
  simp [List.drop_take]
theorem cut_at (s : Bs) (fr i : Nat) (hf : fr ≤ i) (hi : i < s.length) (h10 : s[i] = 10) (hno : (10 : UInt8) ∉ (s.take i).drop fr) : cutOn 10 (s.drop fr) = ((s.take i).drop fr, s.drop (i + 1), true) := by
  have e : s.drop fr = (s.take i).drop fr ++ 10 :: s.drop (i + 1) := by
    have : s = s.take i ++ s.drop i := (List.take_append_drop i s).symm
    conv => lhs; rw [this]
    rw [List.drop_append_of_le_length (by simp; omega), List.drop_eq_getElem_cons hi, h10]
  rw [e, cut_app 10 _ _ hno]
theorem cut_no (l : Bs) (h : (10 : UInt8) ∉ l) : (cutOn 10 l).2.2 = false := by
  induction l with
  | nil => rfl
  | cons c t ih =>
    have h1 : c ≠ 10 := fun e => h (by simp [e])
    rw [cutOn, if_neg h1]
    exact ih (fun e => h (by simp [e]))
set_option maxHeartbeats 4000000 in
theorem parse21 (s : Bs) (hs : s.length < 1000000) (w : World) (r : List Ev ⊕ Nat) (hr : parseEv (s.length + 1) s 1 = r) :
    Calls Tryd.prog 21 #[.string (B s)] w fun e w' => Below w.heap.size w w' ∧
      ((∃ l v, r = .inl l ∧ e = .returned (.tuple #[v, .int .i64 0, .int .i64 0]) ∧ w'.ownsRow w.heap.size 72 5 v l.length (l.flatMap evCells)) ∨
       ∃ m : Nat, r = .inr m ∧ e = .returned (.tuple #[.slice none 0 0, .int .i64 m, .int .i64 3])) := by
  obtain ⟨i0, hi, hz0, hz1, hz2⟩ := info_parts info72
  have hsz : (B s).size = s.length := by show s.toArray.size = _; simp
  have hix := idx9 s
  have hsl := sliceB s
  go_enter Tryd.func21, Tryd.ntmps21
  go_wp2
  go_loopw [5, 6, 7, 8] (fun v fv av iv wr => ∃ (k fr n : Nat) (acc : List Ev), iv = .int .i64 (k : Int) ∧ fv = .int .i64 (fr : Int) ∧ av = .int .i64 (n : Int) ∧ fr ≤ k ∧ k ≤ s.length ∧ n ≤ k ∧ acc.length ≤ k ∧ (10 : UInt8) ∉ (s.take k).drop fr ∧ Below w.heap.size w wr ∧ wr.ownsRow w.heap.size 72 5 v acc.length (acc.flatMap evCells) ∧ r = pre acc (parseEv (s.length + 1 - fr) (s.drop fr) (n + 1))) (fun _ _ _ iv _ => s.length - (intOf iv).toNat)
  case atStart => exact ⟨0, 0, 0, [], rfl, rfl, rfl, Nat.le_refl _, Nat.zero_le _, Nat.le_refl _, Nat.le_refl _, by simp, Below.refl _ _, ⟨rfl, .inl ⟨rfl, rfl⟩⟩, by simp [hr]; cases r <;> rfl⟩
  case round =>
    obtain ⟨k, fr, n, acc, rfl, rfl, rfl, hfk, hk, hnk, hak, hno, hb, hown, hpr⟩ := hrel
    obtain ⟨ao, cap, rfl⟩ := own_form hown
    by_cases hks : k < s.length
    · have hg := hix k hks
      obtain ⟨c, hc⟩ : ∃ c, s[k]'hks = c := ⟨_, rfl⟩
      rw [hc] at hg
      have htk : (s.take (k + 1)).drop fr = (s.take k).drop fr ++ [c] := by
        rw [List.take_add_one, List.getElem?_eq_getElem hks, hc, List.drop_append_of_le_length (by simp; omega)]
        rfl
      have hkS : (k : Int) < ((B s).size : Int) := by rw [hsz]; omega
      have hkS2 : (k : Int) < (s.length : Int) := by omega
      clear hix
      by_cases h10 : c = 10
      · have hcb : ((c.toNat : Int) != 10) = false := by rw [h10]; rfl
        subst h10
        have hca := cut_at s fr k hfk hks hc hno
        have hs1 := hsl fr k hfk (by omega)
        have hdl : s.drop fr ≠ [] := by
          intro e
          have := congrArg List.length e
          simp at this
          omega
        obtain ⟨F, hF⟩ : ∃ F, s.length + 1 - fr = F + 1 := ⟨s.length - fr, by omega⟩
        rw [hF, parseEv, if_neg hdl, hca] at hpr
        simp only at hpr
        clear hsl
        have ho := one65 ((s.take k).drop fr) (by simp; omega) wr _ rfl
        go_wp2_with fail
        refine ho.mono ?_
        rintro e w3 ⟨⟨ev, rfl, hev⟩, hb3⟩
        have bb3 := hb.trans (hb3.mono hb.size)
        have own3 := own_below hown hb3 (fun k hk => (hown.lt k hk).2)
        obtain ⟨k5, g5, f5, p5, n5⟩ := ev
        cases hone : oneEv ((s.take k).drop fr) with
        | none =>
          rw [hone] at hpr
          have hrb : r = .inr (n + 1) := by rw [hpr]; rfl
          clear hpr hev
          replace hrb := Lib.hid hrb
          go_wp2
          go_ret3
          exact ⟨bb3.alloc bb3.size _, .inr ⟨n + 1, hrb.out, by rw [Int.natCast_add]; rfl⟩⟩
        | some t =>
          obtain rfl := hev t hone
          rw [hone] at hpr
          simp only at hpr
          replace hpr := Lib.hid hpr
          clear hev
          have hsome : (some (k5, g5, f5, p5, n5) : Option Ev).isSome = true := rfl
          go_wp2_with (at_builtin; refine wpList_append_own _ rfl _ _ 35 rfl w.heap.size 72 i0 (.agg #[.int .i64 0, .int .i64 0, .int .i64 0, .int .i64 0, .int .i64 0]) 5 40 Tryd.underlying35 hi hz0 hz1 hz2 rfl (by decide) _ _ _ rfl ((own3.alloc _).alloc _) ⟨w3.heap.size + 1, 0, none⟩ 1 1 [.int .i64 k5, .int .i64 g5, .int .i64 f5, .int .i64 p5, .int .i64 n5] rfl rfl (by have := cell_five_new (w3.alloc (evO (k5, g5, f5, p5, n5))) (.int .i64 k5) (.int .i64 g5) (.int .i64 f5) (.int .i64 p5) (.int .i64 n5) 72; rw [World.size_alloc] at this; exact this) (fun u hu => by simp at hu; rcases hu with rfl | rfl | rfl | rfl | rfl <;> rfl) (by unfold maxLen; omega) (by omega) (by rw [World.size_alloc, World.size_alloc]; have := bb3.size; omega) ?_)
          intro v' w6 own6 hgrow hnil
          go_wp2
          go_roundw
          case rel =>
            refine ⟨k + 1, k + 1, n + 1, acc ++ [(k5, g5, f5, p5, n5)], by go_num, by go_num, by go_num, Nat.le_refl _, hks, by omega, by rw [List.length_append, List.length_singleton]; omega, by simp, ?_, ?_, ?_⟩
            · have hz := bb3.size
              exact (((bb3.alloc hz _).alloc (by rw [World.size_alloc]; omega) _).grown hgrow (by rw [World.size_alloc, World.size_alloc]; omega) (fun k hk => (own3.lt k hk).1))
            · rw [← flat5_app, List.length_append]
              exact own6
            · rw [hpr.out, parseEv_more F (s.drop (k + 1)) (n + 1 + 1) (by simp; omega) (s.length + 1 - (k + 1)) (by simp; omega)]
              cases parseEv (s.length + 1 - (k + 1)) (s.drop (k + 1)) (n + 1 + 1) with
              | inl l => simp [pre]
              | inr m => rfl
          case measure => simp [intOf]; omega
      · have hcb : ((c.toNat : Int) != 10) = true := by
          rw [bne_iff_ne]
          intro e
          exact h10 (UInt8.toNat_inj.1 (by simpa using (by omega : c.toNat = 10)))
        replace hpr := Lib.hid hpr
        clear hsl
        go_wp2
        go_roundw
        case rel => exact ⟨k + 1, fr, n, acc, by go_num, rfl, rfl, by omega, hks, by omega, by omega, by rw [htk]; simp [hno]; exact fun e => h10 e.symm, hb, hown, hpr.out⟩
        case measure => simp [intOf]; omega
    · obtain rfl : k = s.length := by omega
      rw [List.take_length] at hno
      have hkS : ¬((s.length : Int) < ((B s).size : Int)) := by rw [hsz]; omega
      have hkS2 : ¬((s.length : Int) < (s.length : Int)) := by omega
      clear hix hsl
      by_cases hfl : fr < s.length
      · have f1 : (fr : Int) < (s.length : Int) := by omega
        have f2 : (fr : Int) < ((B s).size : Int) := by rw [hsz]; omega
        have hrb : r = .inr (n + 1) := by
          have hdl : s.drop fr ≠ [] := by
            intro e
            have := congrArg List.length e
            simp at this
            omega
          obtain ⟨F, hF⟩ : ∃ F, s.length + 1 - fr = F + 1 := ⟨s.length - fr, by omega⟩
          rw [hpr, hF, parseEv, if_neg hdl]
          have := cut_no (s.drop fr) hno
          rw [this]
          rfl
        clear hpr
        replace hrb := Lib.hid hrb
        go_wp2
        go_ret3
        exact ⟨hb, .inr ⟨n + 1, hrb.out, by rw [Int.natCast_add]; rfl⟩⟩
      · have f1 : ¬((fr : Int) < (s.length : Int)) := by omega
        have f2 : ¬((fr : Int) < ((B s).size : Int)) := by rw [hsz]; omega
        obtain rfl : fr = s.length := by omega
        have hrb : r = .inl acc := by
          rw [hpr, List.drop_length, Nat.add_sub_cancel_left, parseEv, if_pos rfl]
          simp [pre]
        clear hpr
        replace hrb := Lib.hid hrb
        go_wp2
        go_ret3
        first
          | exact ⟨hb, .inl ⟨acc, _, hrb.out, rfl, hown⟩⟩
          | exact ⟨hb, .inl ⟨acc, hrb.out, _, rfl, hown⟩⟩
          | exact ⟨hb, .inl ⟨acc, hrb.out, rfl, hown⟩⟩
end Go.Proofs.YthndenpgkdjkiaaDoor
