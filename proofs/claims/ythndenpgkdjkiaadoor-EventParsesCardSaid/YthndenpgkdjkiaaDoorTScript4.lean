import Derived.Test.YthndenpgkdjkiaaDoorTScript3
namespace Go.Proofs.YthndenpgkdjkiaaDoor
open Go.Shelf Go.RowKit Go.Sort
set_option linter.unusedVariables false
set_option maxRecDepth 100000

abbrev Ent := Int × Int × Int
/-- The entries of a text, line by line; none: it is none. -/
def parseK : Nat → Bs → Option (List Ent)
  | 0, _ => some []
  | k + 1, s => if s = [] then some [] else
    match (cutOn 10 s).2.2, three (cutOn 10 s).1 with
    | true, some t => (parseK k (cutOn 10 s).2.1).map (t :: ·)
    | _, _ => none
theorem parseK_more (k : Nat) : ∀ (s : Bs), s.length < k → ∀ k', s.length < k' → parseK k s = parseK k' s := by
  induction k with
  | zero => intro s h; omega
  | succ k ih =>
    intro s h k' h'
    obtain ⟨k', rfl⟩ : ∃ j, k' = j + 1 := ⟨k' - 1, by omega⟩
    rw [parseK, parseK]
    by_cases hs : s = []
    · rw [if_pos hs, if_pos hs]
    · rw [if_neg hs, if_neg hs]
      have := cut_len 10 s hs
      rw [ih (cutOn 10 s).2.1 (by omega) k' (by omega)]
def flat3 (l : List Ent) : List Value := l.flatMap fun t => [.int .i64 t.1, .int .i64 t.2.1, .int .i64 t.2.2]
theorem flat3_app (l : List Ent) (t : Ent) : flat3 l ++ [.int .i64 t.1, .int .i64 t.2.1, .int .i64 t.2.2] = flat3 (l ++ [t]) := by simp [flat3]
theorem info85 : (Tryd.prog.info? 85).map (fun i => (i.zero, i.size, i.bytes)) = some (some (.agg #[.int .i64 0, .int .i64 0, .int .i64 0]), 3, 24) := by kernel_rfl
theorem cell_three_new (w : World) (a b c : Value) (t : TypeId) : ∀ j u, [a, b, c][j]? = some u → (w.alloc (.cells #[a, b, c] t)).cell? ((⟨w.heap.size, 0, none⟩ : Addr).add j) = some u := by
  intro j u hj
  match j, hj with
  | 0, hj => simp at hj; subst hj; simp [Addr.add]
  | 1, hj => simp at hj; subst hj; simp [Addr.add]
  | 2, hj => simp at hj; subst hj; simp [Addr.add]
  | j + 3, hj => simp at hj
theorem cut_fst_len (x : UInt8) (s : Bs) : (cutOn x s).1.length ≤ s.length := by
  induction s with
  | nil => simp [cutOn]
  | cons c t ih =>
    rw [cutOn]
    split
    · simp
    · simp; omega
theorem own_below {w w' : World} {base e size n BB : Nat} {v : Value} {xs : List Value} (h : w.ownsRow base e size v n xs) (hb : Below BB w w') (hlt : ∀ k, v.ownBlock = some k → k < BB) : w'.ownsRow base e size v n xs := by
  obtain ⟨h1, h2⟩ := h
  refine ⟨h1, ?_⟩
  rcases h2 with h2 | ⟨g, cap, cur, rfl, hg, hh, r⟩
  · exact .inl h2
  · exact .inr ⟨g, cap, cur, rfl, hg, (hb.block g (hlt g rfl)).trans hh, r⟩
theorem own_form {w : World} {base e size n : Nat} {v : Value} {xs : List Value} (h : w.ownsRow base e size v n xs) : ∃ ao cap, v = .slice ao n cap := by
  rcases h.2 with ⟨rfl, rfl⟩ | ⟨g, cap, cur, rfl, _⟩
  · exact ⟨_, _, rfl⟩
  · exact ⟨_, _, rfl⟩
set_option maxHeartbeats 2000000 in
theorem parse14 (s : Bs) (hs : s.length < 60000) (w : World) (he : Env w) (r : Option (List Ent)) (hr : parseK (s.length + 1) s = r) :
    Calls Tryd.prog 14 #[.string (B s)] w fun e w' => ∃ (v : Value) (n : Int), e = .returned (.tuple #[v, .int .i64 n, .int .i64 (if r.isSome then 0 else 3)]) ∧ Below w.heap.size w w' ∧
      (∀ l, r = some l → w'.ownsRow w.heap.size 85 3 v l.length (flat3 l)) ∧ (r = none → v = .slice none 0 0) := by
  obtain ⟨i0, hi, hz0, hz1, hz2⟩ := info_parts info85
  go_enter Tryd.func14, Tryd.ntmps14
  go_wp2
  go_step3
  go_wp2
  go_step3
  go_wp2
  go_loopw [0, 2, 3] (fun sv v at_ wr => ∃ (rest : Bs) (acc : List Ent) (n : Nat), sv = .string (B rest) ∧ at_ = .int .i64 (n : Int) ∧ n + rest.length ≤ 60000 ∧ acc.length + rest.length < 60000 ∧ Below w.heap.size w wr ∧ wr.ownsRow w.heap.size 85 3 v acc.length (flat3 acc) ∧ r = (parseK (rest.length + 1) rest).map (acc ++ ·)) (fun sv _ _ _ => match sv with | .string b => b.size | _ => 0)
  case atStart => exact ⟨s, [], 1, rfl, rfl, by omega, by simpa using hs, Below.refl _ _, ⟨rfl, .inl ⟨rfl, rfl⟩⟩, by rw [hr]; simp⟩
  case round =>
    obtain ⟨rest, acc, n, rfl, rfl, hn, hl, hb, hown, hpr⟩ := hrel
    obtain ⟨ao, cap, rfl⟩ := own_form hown
    cases rest with
    | nil =>
      have hr' : r = some acc := by rw [hpr]; simp [parseK]
      go_wp2
      try rw [Exit.noGoto_ret]
      go_ret3
      rw [hr']
      exact ⟨_, 0, rfl, hb, fun l hl => by injection hl with hl; subst hl; exact hown, fun h => (by cases h)⟩
    | cons c0 t0 =>
      have he' := he.below hb
      have hcl := cut_len 10 (c0 :: t0) (by simp)
      rw [parseK, if_neg (by simp)] at hpr
      rcases hcut : cutOn 10 (c0 :: t0) with ⟨hd, tl, is⟩
      have hfl := cut_fst_len 10 (c0 :: t0)
      rw [hcut] at hcl hpr hfl
      simp only at hcl hpr hfl
      have hc56 := cut56 (c0 :: t0) 10 (by omega) wr he'
      rw [hcut] at hc56
      simp only at hc56
      cases is with
      | false =>
        simp only [Option.map_none] at hpr
        replace hpr := Lib.hid hpr
        go_wp2_with fail
        refine hc56.mono ?_
        rintro e w2 ⟨rfl, hb2⟩
        go_wp2
        try rw [Exit.noGoto_ret]
        go_ret3
        rw [hpr.out]
        exact ⟨_, n, rfl, (hb.trans (hb2.mono hb.size)).alloc (Nat.le_trans hb.size hb2.size) _, fun l hl => (by cases hl), fun h => rfl⟩
      | true =>
        go_wp2_with fail
        refine hc56.mono ?_
        rintro e w2 ⟨rfl, hb2⟩
        go_wp2_with fail
        have b3 := (hb.trans (hb2.mono hb.size)).alloc (Nat.le_trans hb.size hb2.size) (.cells #[.int .i64 0, .int .i64 0, .int .i64 0] 85 (0, 0))
        have h3 := alloc_new w2 (.cells #[.int .i64 0, .int .i64 0, .int .i64 0] 85 (0, 0))
        have z3 : (w2.alloc (.cells #[.int .i64 0, .int .i64 0, .int .i64 0] 85 (0, 0))).heap.size = w2.heap.size + 1 := World.size_alloc ..
        have own3 := ((own_below hown hb2 (fun k hk => (hown.lt k hk).2)).alloc (.cells #[.int .i64 0, .int .i64 0, .int .i64 0] 85 (0, 0)))
        generalize hw3 : w2.alloc (.cells #[.int .i64 0, .int .i64 0, .int .i64 0] 85 (0, 0)) = w3 at *
        clear hw3
        have hz := hb2.size
        refine (three57 hd (by omega) w3 (he.below b3) w2.heap.size w2.heap.size 85 0 0 0 h3 (Nat.le_refl _) (by omega)).mono ?_
        rintro e w4 ⟨rfl, ⟨x, y, z, h4, ht⟩, hb4⟩
        have b4 := b3.trans (hb4.mono (by have := b3.size; have := hb.size; omega))
        have own4 := own_below own3 hb4 (fun k hk => by have := (hown.lt k hk).2; omega)
        clear own3 h3
        have d0 := h4.c0
        have d1 := h4.c1
        have d2 := h4.c2
        cases htt : three hd with
        | none =>
          rw [htt] at hpr
          simp only [Option.map_none] at hpr
          replace hpr := Lib.hid hpr
          go_wp2
          try rw [Exit.noGoto_ret]
          go_ret3
          rw [hpr.out]
          exact ⟨_, n, rfl, b4, fun l hl => (by cases hl), fun h => rfl⟩
        | some t =>
          obtain rfl := ht t htt
          have hn5 : ((acc.length : Int) == 65536) = false := by rw [beq_eq_false_iff_ne]; omega
          rw [htt] at hpr
          simp only at hpr
          replace hpr := Lib.hid hpr
          go_wp2_with (at_builtin; refine wpList_append_own _ rfl _ _ 22 rfl w.heap.size 85 i0 (.agg #[.int .i64 0, .int .i64 0, .int .i64 0]) 3 24 Tryd.underlying22 hi hz0 hz1 hz2 rfl (by decide) _ _ _ rfl (own4.alloc _) ⟨w4.heap.size, 0, none⟩ 1 1 [.int .i64 x, .int .i64 y, .int .i64 z] rfl rfl (cell_three_new _ _ _ _ _) (fun u hu => by simp at hu; rcases hu with rfl | rfl | rfl <;> rfl) (by unfold maxLen; omega) (by omega) (by rw [World.size_alloc]; have := b4.size; omega) ?_)
          intro v' w6 own6 hgrow hnil
          go_wp2
          go_roundw
          case rel =>
            refine ⟨tl, acc ++ [(x, y, z)], n + 1, rfl, by go_num, by omega, by simp; omega, ?_, ?_, ?_⟩
            · exact (b4.alloc (by have := b4.size; omega) _).grown hgrow (by rw [World.size_alloc]; have := b4.size; omega) (fun k hk => (own4.lt k hk).1)
            · rw [← flat3_app, List.length_append]
              exact own6
            · rw [hpr.out, parseK_more (tl.length + 1) tl (by omega) (c0 :: t0).length hcl, Option.map_map]
              congr 1
              funext l
              simp
          case measure => show (B tl).size < (B (c0 :: t0)).size; show tl.toArray.size < (c0 :: t0).toArray.size; simpa using hcl
end Go.Proofs.YthndenpgkdjkiaaDoor
