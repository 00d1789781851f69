import Derived.Test.YthndenpgkdjkiaaDoorTEv6
import Derived.Test.YthndenpgkdjkiaaDoorTScript10
namespace Go.Proofs.YthndenpgkdjkiaaDoor
open Go.Shelf Go.RowKit Go.Sort
set_option linter.unusedVariables false
set_option maxRecDepth 100000

theorem parseEv_more (k : Nat) : ∀ (s : Bs) (n : Nat), s.length < k → ∀ k', s.length < k' → parseEv k s n = parseEv k' s n := by
  induction k with
  | zero => intro s n h; omega
  | succ k ih =>
    intro s n h k' h'
    obtain ⟨k', rfl⟩ : ∃ j, k' = j + 1 := ⟨k' - 1, by omega⟩
    rw [parseEv, parseEv]
    by_cases hs : s = []
    · rw [if_pos hs, if_pos hs]
    · rw [if_neg hs, if_neg hs]
      have := cut_len 10 s hs
      rw [ih (cutOn 10 s).2.1 (n + 1) (by omega) k' (by omega)]
theorem info72 : (Tryd.prog.info? 72).map (fun i => (i.zero, i.size, i.bytes)) = some (some (.agg #[.int .i64 0, .int .i64 0, .int .i64 0, .int .i64 0, .int .i64 0]), 5, 40) := by kernel_rfl
theorem cell_five_new (w : World) (a b c d e : Value) (t : TypeId) : ∀ j u, [a, b, c, d, e][j]? = some u → (w.alloc (.cells #[a, b, c, d, e] t)).cell? ((⟨w.heap.size, 0, none⟩ : Addr).add j) = some u := by
  intro j u hj
  match j, hj with
  | 0, hj => simp at hj; subst hj; simp [Addr.add]
  | 1, hj => simp at hj; subst hj; simp [Addr.add]
  | 2, hj => simp at hj; subst hj; simp [Addr.add]
  | 3, hj => simp at hj; subst hj; simp [Addr.add]
  | 4, hj => simp at hj; subst hj; simp [Addr.add]
  | j + 5, hj => simp at hj
def pre (acc : List Ev) : List Ev ⊕ Nat → List Ev ⊕ Nat
  | .inl l => .inl (acc ++ l)
  | .inr m => .inr m
theorem flat5_app (l : List Ev) (t : Ev) : l.flatMap evCells ++ evCells t = (l ++ [t]).flatMap evCells := by simp
set_option maxHeartbeats 4000000 in
theorem parse20 (s : Bs) (hs : s.length < 1000000) (w : World) (he : Env w) (r : List Ev ⊕ Nat) (hr : parseEv (s.length + 1) s 1 = r) :
    Calls Tryd.prog 20 #[.string (B s)] w fun e w' => Below w.heap.size w w' ∧
      ((∃ l v, r = .inl l ∧ e = .returned (.tuple #[v, .int .i64 0, .int .i64 0]) ∧ w'.ownsRow w.heap.size 72 5 v l.length (l.flatMap evCells)) ∨
       ∃ m : Nat, r = .inr m ∧ e = .returned (.tuple #[.slice none 0 0, .int .i64 m, .int .i64 3])) := by
  obtain ⟨i0, hi, hz0, hz1, hz2⟩ := info_parts info72
  go_enter Tryd.func20, Tryd.ntmps20
  go_wp2
  go_step3
  go_wp2
  go_step3
  go_wp2
  go_loopw [0, 2, 3] (fun sv v at_ wr => ∃ (rest : Bs) (acc : List Ev) (n : Nat), sv = .string (B rest) ∧ at_ = .int .i64 (n : Int) ∧ n + rest.length ≤ 1000001 ∧ acc.length + rest.length < 1000000 ∧ Below w.heap.size w wr ∧ wr.ownsRow w.heap.size 72 5 v acc.length (acc.flatMap evCells) ∧ r = pre acc (parseEv (rest.length + 1) rest n)) (fun sv _ _ _ => match sv with | .string b => b.size | _ => 0)
  case atStart => exact ⟨s, [], 1, rfl, rfl, by omega, by simpa using hs, Below.refl _ _, ⟨rfl, .inl ⟨rfl, rfl⟩⟩, by rw [hr]; cases r <;> rfl⟩
  case round =>
    obtain ⟨rest, acc, n, rfl, rfl, hn, hl, hb, hown, hpr⟩ := hrel
    obtain ⟨ao, cap, rfl⟩ := own_form hown
    cases rest with
    | nil =>
      have hr' : r = .inl acc := by rw [hpr]; simp [parseEv, pre]
      go_wp2
      try rw [Exit.noGoto_ret]
      go_ret3
      exact ⟨hb, .inl ⟨acc, _, hr', rfl, hown⟩⟩
    | cons c0 t0 =>
      have he' := he.below hb
      have hcl := cut_len 10 (c0 :: t0) (by simp)
      have hfl := cut_fst_len 10 (c0 :: t0)
      rw [parseEv, if_neg (by simp)] at hpr
      rcases hcut : cutOn 10 (c0 :: t0) with ⟨hd, tl, is⟩
      rw [hcut] at hcl hpr hfl
      simp only at hcl hpr hfl
      have hc56 := cut56 (c0 :: t0) 10 (by omega) wr he'
      rw [hcut] at hc56
      simp only at hc56
      have ht := fun w2 he2 => one64_all hd (by omega) w2 he2 _ rfl
      go_wp2_with fail
      refine hc56.mono ?_
      rintro e w2 ⟨rfl, hb2⟩
      have bb2 := hb.trans (hb2.mono hb.size)
      go_wp2_with fail
      refine (ht w2 (he.below bb2)).mono ?_
      rintro e w3 ⟨⟨ev, rfl, hev⟩, hb3⟩
      have bb3 := bb2.trans (hb3.mono bb2.size)
      have own3 := own_below (own_below hown hb2 (fun k hk => (hown.lt k hk).2)) hb3 (fun k hk => by have := (hown.lt k hk).2; have := hb2.size; omega)
      obtain ⟨k5, g5, f5, p5, n5⟩ := ev
      by_cases hgood : is = true ∧ ∃ t, oneEv hd = some t
      · obtain ⟨rfl, t, htt⟩ := hgood
        obtain rfl := hev t htt
        rw [htt] at hpr ⊢
        simp only at hpr
        replace hpr := Lib.hid hpr
        clear hev
        have hsome : (some (k5, g5, f5, p5, n5) : Option Ev).isSome = true := rfl
        go_wp2_with (at_builtin; refine wpList_append_own _ rfl _ _ 35 rfl w.heap.size 72 i0 (.agg #[.int .i64 0, .int .i64 0, .int .i64 0, .int .i64 0, .int .i64 0]) 5 40 Tryd.underlying35 hi hz0 hz1 hz2 rfl (by decide) _ _ _ rfl ((own3.alloc _).alloc _) ⟨w3.heap.size + 1, 0, none⟩ 1 1 [.int .i64 k5, .int .i64 g5, .int .i64 f5, .int .i64 p5, .int .i64 n5] rfl rfl (by have := cell_five_new (w3.alloc (evO (k5, g5, f5, p5, n5))) (.int .i64 k5) (.int .i64 g5) (.int .i64 f5) (.int .i64 p5) (.int .i64 n5) 72; rw [World.size_alloc] at this; exact this) (fun u hu => by simp at hu; rcases hu with rfl | rfl | rfl | rfl | rfl <;> rfl) (by unfold maxLen; omega) (by omega) (by rw [World.size_alloc, World.size_alloc]; have := bb3.size; omega) ?_)
        intro v' w6 own6 hgrow hnil
        go_wp2
        go_roundw
        case rel =>
          refine ⟨tl, acc ++ [(k5, g5, f5, p5, n5)], n + 1, rfl, by go_num, by omega, by rw [List.length_append, List.length_singleton]; omega, ?_, ?_, ?_⟩
          · have hz := bb3.size
            exact (((bb3.alloc hz _).alloc (by rw [World.size_alloc]; omega) _).grown hgrow (by rw [World.size_alloc, World.size_alloc]; omega) (fun k hk => (own3.lt k hk).1))
          · rw [← flat5_app, List.length_append]
            exact own6
          · rw [hpr.out, parseEv_more (tl.length + 1) tl (n + 1) (by omega) (c0 :: t0).length hcl]
            cases parseEv (c0 :: t0).length tl (n + 1) with
            | inl l => simp [pre]
            | inr m => rfl
        case measure => show (B tl).size < (B (c0 :: t0)).size; rw [B_len, B_len]; exact hcl
      · have hrb : r = .inr n := by
          rw [hpr]
          cases is with
          | false => rfl
          | true =>
            cases ho : oneEv hd with
            | none => rfl
            | some t => exact absurd ⟨rfl, t, ho⟩ hgood
        clear hpr hev
        cases is with
        | false =>
          go_wp2
          try rw [Exit.noGoto_ret]
          go_ret3
          exact ⟨bb3.alloc bb3.size _, .inr ⟨n, hrb, rfl⟩⟩
        | true =>
          have hno : (oneEv hd).isSome = false := by
            cases ho : oneEv hd with
            | none => rfl
            | some t => exact absurd ⟨rfl, t, ho⟩ hgood
          rw [hno]
          go_wp2
          try rw [Exit.noGoto_ret]
          go_ret3
          exact ⟨bb3.alloc bb3.size _, .inr ⟨n, hrb, rfl⟩⟩
end Go.Proofs.YthndenpgkdjkiaaDoor
