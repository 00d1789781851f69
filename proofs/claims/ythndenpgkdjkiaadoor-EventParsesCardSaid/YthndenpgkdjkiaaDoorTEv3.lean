import Derived.Test.YthndenpgkdjkiaaDoorTEv2
namespace Go.Proofs.YthndenpgkdjkiaaDoor
open Go.Shelf Go.RowKit Go.Sort
set_option linter.unusedVariables false
set_option maxRecDepth 100000
attribute [local go_sem ↓] Go.wp_at_zero Go.wp_at_succ

theorem fmt86 (n : Int) (h : inI n) (w : World) (he : Env w) : Calls Tryd.prog 86 #[.int .i64 n, .int .i64 10] w fun e w' => e = .returned (.string ⟨(Lib.itoa n).toArray⟩) ∧ Below w.heap.size w w' := by
  refine (Tryd.strconv_FormatInt_10 n h.1 h.2 w he.tab).mono ?_
  rintro e w' ⟨rfl, k, os, rfl⟩
  exact ⟨rfl, below_grow k os⟩
theorem join_eq (x : UInt8) (ws : List Bs) : Lib.join ws [x] = joinOn x ws := by
  induction ws with
  | nil => rfl
  | cons a r ih =>
    cases r with
    | nil => rw [Lib.join_one]; rfl
    | cons b r =>
      rw [joinOn, ← ih]
      simp [Lib.join, List.intercalate, List.intersperse]
theorem joinOn_len (x : UInt8) (ws : List Bs) (N : Nat) (h : ∀ w ∈ ws, w.length ≤ N) : (joinOn x ws).length ≤ ws.length * (N + 1) := by
  induction ws with
  | nil => simp [joinOn]
  | cons a r ih =>
    have h1 := h a (by simp)
    have h2 := ih (fun w hw => h w (by simp [hw]))
    cases r with
    | nil => simp only [joinOn, List.length_cons, List.length_nil]; omega
    | cons b r =>
      simp only [joinOn, List.length_append, List.length_cons] at h2 ⊢
      have e : (r.length + 1 + 1) * (N + 1) = (r.length + 1) * (N + 1) + (N + 1) := by rw [Nat.add_mul, Nat.one_mul]
      omega
theorem join87 (BB : Nat) (v : Value) (ws : List Bs) (x : UInt8) (w : World) (hown : w.ownsRow BB 9 1 v ws.length (strs ws)) (hn : ws.length ≤ 1000000) (hlen : (joinOn x ws).length ≤ 140737488355328) :
    Calls Tryd.prog 87 #[v, .string (B [x])] w fun e w' => e = .returned (.string (B (joinOn x ws))) ∧ Below w.heap.size w w' := by
  have hc := fun g hg => hown.cells (g := g) hg
  have hlt := hown.lt
  obtain ⟨h1, h2⟩ := hown
  rcases h2 with ⟨rfl, h⟩ | ⟨g, cap, cur, rfl, hg, hh, hcap, hm, r⟩
  · obtain rfl := List.eq_nil_of_length_eq_zero h
    refine (Tryd.strings_Join_none none 0 (B [x]) w).mono ?_
    rintro e w' ⟨rfl, rfl⟩
    exact ⟨rfl, Below.refl _ _⟩
  · have e1 : (ws.map B).map (·.data.toList) = ws := by rw [List.map_map]; simp [Function.comp_def]
    have hj := Tryd.strings_Join g 0 cap (ws.map B) (B [x]) w (fun j b hb => by
        rw [Nat.zero_add]
        have := hc g rfl j (.string b) (by
          rw [strs, List.getElem?_map]
          rw [List.getElem?_map] at hb
          cases hj : ws[j]? with
          | none => rw [hj] at hb; cases hb
          | some u => rw [hj] at hb; injection hb with hb; subst hb; rfl)
        have ea : (⟨g, 0, none⟩ : Addr).add j = ⟨g, j, none⟩ := by
          cases j with
          | zero => rfl
          | succ j => simp [Addr.add]
        rwa [ea] at this) (hlt g rfl).2 (by simp; omega) (by simpa using hcap) (by
        rw [e1, show (B [x]).data.toList = [x] from rfl, join_eq]
        exact hlen)
    rw [e1, show (B [x]).data.toList = [x] from rfl, join_eq, List.length_map] at hj
    exact hj

theorem alloc3 (w : World) (o1 o2 o3 : Obj) : (((w.alloc o1).alloc o2).alloc o3).heap[w.heap.size]? = some o1 ∧ (((w.alloc o1).alloc o2).alloc o3).heap[w.heap.size + 1]? = some o2 ∧ (((w.alloc o1).alloc o2).alloc o3).heap[w.heap.size + 1 + 1]? = some o3 ∧
    Below w.heap.size w (((w.alloc o1).alloc o2).alloc o3) ∧ (((w.alloc o1).alloc o2).alloc o3).heap.size = w.heap.size + 3 := by
  have s1 : (w.alloc o1).heap.size = w.heap.size + 1 := World.size_alloc ..
  have s2 : ((w.alloc o1).alloc o2).heap.size = w.heap.size + 1 + 1 := by rw [World.size_alloc, s1]
  refine ⟨?_, ?_, ?_, ?_, ?_⟩
  · rw [Below.heap_alloc _ _ _ (by omega), Below.heap_alloc _ _ _ (by omega)]
    exact alloc_new w o1
  · rw [Below.heap_alloc _ _ _ (by omega), ← s1]
    exact alloc_new _ o2
  · rw [← s2]
    exact alloc_new _ o3
  · exact (((Below.refl w.heap.size w).alloc (Nat.le_refl _) _).alloc (by omega) _).alloc (by omega) _
  · rw [World.size_alloc, s2]
theorem lineEv_len (e : Ev) (hi : inEv e) : (lineEv e).length ≤ 110 := by
  have h1 : ∀ w ∈ wordsEv e, w.length ≤ 21 := by
    intro w hw
    obtain ⟨_, i1, i2, i3, i4⟩ := hi
    unfold wordsEv at hw
    rcases List.mem_cons.1 hw with h | hw
    · subst h; split <;> simp [begB, comB]
    · rcases List.mem_cons.1 hw with h | hw
      · subst h; exact itoa_len _ i1
      · rcases List.mem_cons.1 hw with h | hw
        · subst h; exact itoa_len _ i2
        · rcases List.mem_cons.1 hw with h | hw
          · subst h; exact itoa_len _ i3
          · split at hw
            · simp at hw; subst hw; exact itoa_len _ i4
            · simp at hw
  have h2 := joinOn_len 32 (wordsEv e) 21 h1
  have h3 : (wordsEv e).length ≤ 5 := by
    unfold wordsEv
    by_cases h : e.1 = 2
    · simp [h]
    · simp [h]
  unfold lineEv
  omega
set_option maxHeartbeats 4000000 in
theorem line63_no (e : Ev) (hr : right e = false) (w : World) : Calls Tryd.prog 63 #[evV e] w fun x w' => x = .returned (.tuple #[.string (B []), .int .i64 1]) ∧ Below w.heap.size w w' := by
  have hb := (Below.refl w.heap.size w).alloc (Nat.le_refl _) (evO e)
  have hc := right106 e (w.alloc (evO e))
  rw [hr] at hc
  obtain ⟨k, g, f, p, n⟩ := e
  go_enter Tryd.func63, Tryd.ntmps63
  go_wp2_with fail
  refine hc.mono ?_
  rintro x w1 ⟨rfl, h1⟩
  go_wp2
  go_ret2
  exact ⟨rfl, hb.trans (h1.mono hb.size)⟩
set_option maxHeartbeats 4000000 in
theorem line63_beg (g f p : Int) (hr : right (1, g, f, p, 0) = true) (hi : inEv (1, g, f, p, 0)) (w : World) (he : Env w) : Calls Tryd.prog 63 #[evV (1, g, f, p, 0)] w fun x w' => x = .returned (.tuple #[.string (B (lineEv (1, g, f, p, 0))), .int .i64 0]) ∧ Below w.heap.size w w' := by
  have hb := (Below.refl w.heap.size w).alloc (Nat.le_refl _) (evO (1, g, f, p, 0))
  have hn := alloc_new w (evO (1, g, f, p, 0))
  have hz : (w.alloc (evO (1, g, f, p, 0))).heap.size = w.heap.size + 1 := World.size_alloc ..
  have hc := right106 (1, g, f, p, 0) (w.alloc (evO (1, g, f, p, 0)))
  rw [hr] at hc
  go_enter Tryd.func63, Tryd.ntmps63
  go_wp2_with fail
  refine hc.mono ?_
  rintro x w1 ⟨rfl, h1⟩
  have b1 := hb.trans (h1.mono hb.size)
  have e1 : w1.heap[w.heap.size]? = some (evO (1, g, f, p, 0)) := (h1.block w.heap.size (by omega)).trans hn
  have z1 : w.heap.size < w1.heap.size := blk_lt e1
  have c0 : w1.cell? ⟨w.heap.size, 0, none⟩ = some (.int .i64 1) := by rw [Lib.cell_of_heap e1]; rfl
  have c1 : w1.cell? ⟨w.heap.size, 1, none⟩ = some (.int .i64 g) := by rw [Lib.cell_of_heap e1]; rfl
  have c2 : w1.cell? ⟨w.heap.size, 2, none⟩ = some (.int .i64 f) := by rw [Lib.cell_of_heap e1]; rfl
  have c3 : w1.cell? ⟨w.heap.size, 3, none⟩ = some (.int .i64 p) := by rw [Lib.cell_of_heap e1]; rfl
  go_wp2_with fail
  obtain ⟨a0, a1, a2, ab, az⟩ := alloc3 w1 (.cells #[.string ⟨#[98, 101, 103, 105, 110]⟩] 9 (0, 0)) (.cells #[.slice (some ⟨w1.heap.size, 0, none⟩) 1 1] 122 (0, 0)) (.cells #[.int .i64 g, .int .i64 f, .int .i64 p] 3 (0, 0))
  generalize ((w1.alloc (.cells #[.string ⟨#[98, 101, 103, 105, 110]⟩] 9 (0, 0))).alloc (.cells #[.slice (some ⟨w1.heap.size, 0, none⟩) 1 1] 122 (0, 0))).alloc (.cells #[.int .i64 g, .int .i64 f, .int .i64 p] 3 (0, 0)) = W at *
  have hW : Wds w1.heap.size (w1.heap.size + 1) [begB] W := ⟨by omega, _, a1, ⟨rfl, .inr ⟨w1.heap.size, 1, _, rfl, Nat.le_refl _, a0, Nat.le_refl _, by unfold maxLen; omega, rfl, rfl⟩⟩, by simp [Value.ownBlock]⟩
  have b2 := b1.trans (ab.mono b1.size)
  refine (put107 w1.heap.size (w1.heap.size + 1) (w1.heap.size + 1 + 1) [g, f, p] (fun n hn => ?_) (by simp) [begB] (by simp) w W he b2 b1.size (by omega) (by omega) a2 hW).mono ?_
  · obtain ⟨_, i1, i2, i3, _⟩ := hi
    simp only [List.mem_cons, List.mem_nil_iff, or_false] at hn
    rcases hn with rfl | rfl | rfl
    · exact i1
    · exact i2
    · exact i3
  rintro x w4 ⟨rfl, hW4, b4⟩
  have e4 : w4.heap[w.heap.size]? = some (evO (1, g, f, p, 0)) := (b4.block w.heap.size z1).trans ((ab.block w.heap.size z1).trans e1)
  have d0 : w4.cell? ⟨w.heap.size, 0, none⟩ = some (.int .i64 1) := by rw [Lib.cell_of_heap e4]; rfl
  obtain ⟨_, v, hbk, hown, _⟩ := hW4
  have d1 : w4.cell? ⟨w1.heap.size + 1, 0, none⟩ = some v := by rw [Lib.cell_of_heap hbk]; rfl
  have hws : [begB] ++ [g, f, p].map Lib.itoa = wordsEv (1, g, f, p, 0) := rfl
  rw [hws] at hown
  have b5 := b2.trans (b4.mono b1.size)
  go_wp2_with fail
  refine (join87 w1.heap.size v _ 32 w4 hown (by simp [wordsEv]) ?_).mono ?_
  · have := lineEv_len _ hi
    unfold lineEv at this
    omega
  rintro x w5 ⟨rfl, b6⟩
  go_wp2
  go_ret2
  exact ⟨rfl, b5.trans (b6.mono b5.size)⟩
set_option maxHeartbeats 4000000 in
theorem line63_com (g f p n : Int) (hr : right (2, g, f, p, n) = true) (hi : inEv (2, g, f, p, n)) (w : World) (he : Env w) : Calls Tryd.prog 63 #[evV (2, g, f, p, n)] w fun x w' => x = .returned (.tuple #[.string (B (lineEv (2, g, f, p, n))), .int .i64 0]) ∧ Below w.heap.size w w' := by
  obtain ⟨i0, hi0, hz0, hz1, hz2⟩ := info_parts info9
  have hb := (Below.refl w.heap.size w).alloc (Nat.le_refl _) (evO (2, g, f, p, n))
  have hn := alloc_new w (evO (2, g, f, p, n))
  have hz : (w.alloc (evO (2, g, f, p, n))).heap.size = w.heap.size + 1 := World.size_alloc ..
  have hc := right106 (2, g, f, p, n) (w.alloc (evO (2, g, f, p, n)))
  rw [hr] at hc
  go_enter Tryd.func63, Tryd.ntmps63
  go_wp2_with fail
  refine hc.mono ?_
  rintro x w1 ⟨rfl, h1⟩
  have b1 := hb.trans (h1.mono hb.size)
  have e1 : w1.heap[w.heap.size]? = some (evO (2, g, f, p, n)) := (h1.block w.heap.size (by omega)).trans hn
  have z1 : w.heap.size < w1.heap.size := blk_lt e1
  have c0 : w1.cell? ⟨w.heap.size, 0, none⟩ = some (.int .i64 2) := by rw [Lib.cell_of_heap e1]; rfl
  have c1 : w1.cell? ⟨w.heap.size, 1, none⟩ = some (.int .i64 g) := by rw [Lib.cell_of_heap e1]; rfl
  have c2 : w1.cell? ⟨w.heap.size, 2, none⟩ = some (.int .i64 f) := by rw [Lib.cell_of_heap e1]; rfl
  have c3 : w1.cell? ⟨w.heap.size, 3, none⟩ = some (.int .i64 p) := by rw [Lib.cell_of_heap e1]; rfl
  go_wp2_with fail
  obtain ⟨a0, a1, a2, ab, az⟩ := alloc3 w1 (.cells #[.string ⟨#[99, 111, 109, 109, 105, 116]⟩] 9 (0, 0)) (.cells #[.slice (some ⟨w1.heap.size, 0, none⟩) 1 1] 122 (0, 0)) (.cells #[.int .i64 g, .int .i64 f, .int .i64 p] 3 (0, 0))
  generalize ((w1.alloc (.cells #[.string ⟨#[99, 111, 109, 109, 105, 116]⟩] 9 (0, 0))).alloc (.cells #[.slice (some ⟨w1.heap.size, 0, none⟩) 1 1] 122 (0, 0))).alloc (.cells #[.int .i64 g, .int .i64 f, .int .i64 p] 3 (0, 0)) = W at *
  have hW : Wds w1.heap.size (w1.heap.size + 1) [comB] W := ⟨by omega, _, a1, ⟨rfl, .inr ⟨w1.heap.size, 1, _, rfl, Nat.le_refl _, a0, Nat.le_refl _, by unfold maxLen; omega, rfl, rfl⟩⟩, by simp [Value.ownBlock]⟩
  have b2 := b1.trans (ab.mono b1.size)
  have hll := lineEv_len _ hi
  obtain ⟨_, i1, i2, i3, i4⟩ := hi
  refine (put107 w1.heap.size (w1.heap.size + 1) (w1.heap.size + 1 + 1) [g, f, p] (fun n hn => ?_) (by simp) [comB] (by simp) w W he b2 b1.size (by omega) (by omega) a2 hW).mono ?_
  · simp only [List.mem_cons, List.mem_nil_iff, or_false] at hn
    rcases hn with rfl | rfl | rfl
    · exact i1
    · exact i2
    · exact i3
  rintro x wr ⟨rfl, hW4, b4⟩
  have e4 : wr.heap[w.heap.size]? = some (evO (2, g, f, p, n)) := (b4.block w.heap.size z1).trans ((ab.block w.heap.size z1).trans e1)
  have d4 : wr.cell? ⟨w.heap.size, 0, none⟩ = some (.int .i64 2) := by rw [Lib.cell_of_heap e4]; rfl
  have d5 : wr.cell? ⟨w.heap.size, 4, none⟩ = some (.int .i64 n) := by rw [Lib.cell_of_heap e4]; rfl
  obtain ⟨hB2, v, hbk, hown, hne⟩ := hW4
  have hlt : w1.heap.size + 1 < wr.heap.size := blk_lt hbk
  have d0 : wr.cell? ⟨w1.heap.size + 1, 0, none⟩ = some v := by rw [Lib.cell_of_heap hbk]; rfl
  have b5 := b2.trans (b4.mono b1.size)
  have he2 := he.below b5
  generalize hWW : [comB] ++ [g, f, p].map Lib.itoa = WW at hown
  have hlen : WW.length ≤ 200 := by rw [← hWW]; simp
  clear a0 a1 a2 az hW c0 c1 c2 c3
  have he3 : ∀ X, Below wr.heap.size wr X → Env X := fun X h => he2.below h
  have key : ∀ X w2, Below wr.heap.size wr X → Below X.heap.size X w2 → w2.ownsRow w1.heap.size 9 1 v WW.length (strs WW) ∧ w2.cell? ⟨w1.heap.size + 1, 0, none⟩ = some v ∧ w2.frozen? ⟨w1.heap.size + 1, 0, none⟩ = false ∧ Below wr.heap.size wr w2 := fun X w2 hX hb2 =>
    ⟨own_below hown (hX.trans (hb2.mono hX.size)) (fun k hk => (hown.lt k hk).2), ((hX.trans (hb2.mono hX.size)).cell (p := ⟨w1.heap.size + 1, 0, none⟩) hlt).trans d0, ((hX.trans (hb2.mono hX.size)).frozen (p := ⟨w1.heap.size + 1, 0, none⟩) hlt).trans (Lib.frozen_of_heap hbk 0), hX.trans (hb2.mono hX.size)⟩
  go_wp2_with fail
  go_region_law (first
    | (go_simp; go_at_call 86; refine (fmt86 n i4 _ (he3 _ (by repeat (first | exact Below.refl _ _ | apply Below.drew)))).mono ?_; rintro e w2 ⟨rfl, hb2⟩; obtain ⟨own2, d2, f2, z2⟩ := key _ w2 (by repeat (first | exact Below.refl _ _ | apply Below.drew)) hb2; have hz3 : w1.heap.size + 1 < w2.heap.size := Nat.lt_of_lt_of_le hlt z2.size)
    | (have own3 := own2; refine step_append_lies _ (by rfl) _ _ _ (by rfl) w1.heap.size 9 i0 _ 1 16 Tryd.underlying122 hi0 hz0 hz1 hz2 rfl (by omega) v WW.length (strs WW) (by rfl) ((own2.alloc _).drew) ⟨w2.heap.size, 0, none⟩ 1 1 [.string (B (Lib.itoa n))] (by rfl) (by rfl) (World.news_of_block (cs := #[.string (B (Lib.itoa n))]) (t := 9) (fr := (0, 0)) (alloc_new w2 _)) (by simp [Value.oneCell']) (by omega) (by unfold maxLen; omega) (by omega) (by simp; omega) (w2.heap.size + 1) (by simp) ?_; intro gg cap' w3 hown3 hgrow3 hat3 hlt3; have c3 : w3.cell? ⟨w1.heap.size + 1, 0, none⟩ = some v := (hgrow3.cell_far ⟨w1.heap.size + 1, 0, none⟩ (by simp; omega) (Ne.symm hne)).trans ((((Below.refl w2.heap.size w2).alloc (Nat.le_refl _) _).cell (p := ⟨w1.heap.size + 1, 0, none⟩) hz3).trans d2); have f3 : w3.frozen? ⟨w1.heap.size + 1, 0, none⟩ = false := (hgrow3.frozen_far ⟨w1.heap.size + 1, 0, none⟩ (by simp; omega) (Ne.symm hne)).trans ((((Below.refl w2.heap.size w2).alloc (Nat.le_refl _) _).frozen (p := ⟨w1.heap.size + 1, 0, none⟩) hz3).trans f2))
    | fail)
  all_goals
    have hW2 : WW ++ [Lib.itoa n] = wordsEv (2, g, f, p, n) := by rw [← hWW]; rfl
    have hgb2 : some gg ≠ some (w1.heap.size + 1) := by
      rcases hat3 with h | h
      · rw [← h]; exact hne
      · intro e; injection e; omega
    have hown4 : w3.ownsRow w1.heap.size 9 1 (.slice (some ⟨gg, 0, none⟩) (WW.length + 1) cap') (WW ++ [Lib.itoa n]).length (strs (WW ++ [Lib.itoa n])) := by
      rw [List.length_append]
      simpa [strs] using hown3
    have hown5 := own_set (p := ⟨w1.heap.size + 1, 0, none⟩) hown4 hgb2 (.slice (some ⟨gg, 0, none⟩) (WW.length + 1) cap')
    rw [hW2] at hown5
    have bz : Below wr.heap.size wr (w2.alloc (Obj.cells #[Value.string (B (Lib.itoa n))] 9 (0, 0))) := z2.alloc z2.size _
    have hz1 := b4.size
    have b7 := ((b5.trans (bz.mono b5.size)).grown hgrow3 (by show w.heap.size ≤ (w2.alloc _).heap.size; rw [World.size_alloc]; have := z2.size; have := b1.size; omega) (fun k hk => Nat.le_trans b1.size (hown.lt k hk).1)).setCell (p := ⟨w1.heap.size + 1, 0, none⟩) (by show w.heap.size ≤ w1.heap.size + 1; have := b1.size; omega) (.slice (some ⟨gg, 0, none⟩) (WW.length + 1) cap')
    clear hgrow3 hown3 hown4
    go_wp2_with fail
    refine (join87 w1.heap.size _ _ 32 _ hown5 (by simp [wordsEv]) ?_).mono ?_
    · unfold lineEv at hll
      omega
    rintro x w5 ⟨rfl, b6⟩
    go_wp2
    go_ret2
    exact ⟨rfl, b7.trans (b6.mono b7.size)⟩
theorem line63 (e : Ev) (hi : inEv e) (w : World) (he : Env w) : Calls Tryd.prog 63 #[evV e] w fun x w' => x = .returned (.tuple #[.string (B (if right e then lineEv e else [])), .int .i64 (if right e then 0 else 1)]) ∧ Below w.heap.size w w' := by
  by_cases hr : right e = true
  · rw [if_pos hr, if_pos hr]
    obtain ⟨k, g, f, p, n⟩ := e
    rcases right_kind hr with ⟨h1, h2⟩ | h1
    · simp only at h1 h2
      subst h1 h2
      exact line63_beg g f p hr hi w he
    · simp only at h1
      subst h1
      exact line63_com g f p n hr hi w he
  · have hr : right e = false := by simpa using hr
    rw [hr]
    exact line63_no e hr w
theorem alive19 (w : World) (he : Env w) : Calls Tryd.prog 19 #[] w fun e w' => e = .returned (.bool true) ∧ Below w.heap.size w w' := by
  have hl := line63 (1, 3, 0, 5, 0) (by unfold inEv inI; decide) w he
  have hr : right (1, 3, 0, 5, 0) = true := by decide
  have hb : lineEv (1, 3, 0, 5, 0) = [98, 101, 103, 105, 110, 32, 51, 32, 48, 32, 53] := by decide +kernel
  rw [hr, if_pos rfl, if_pos rfl, hb] at hl
  go_enter Tryd.func19, Tryd.ntmps19
  go_wp2_with fail
  refine hl.mono ?_
  rintro e w1 ⟨rfl, b1⟩
  go_wp2
  go_ret
  exact ⟨rfl, b1⟩
end Go.Proofs.YthndenpgkdjkiaaDoor
