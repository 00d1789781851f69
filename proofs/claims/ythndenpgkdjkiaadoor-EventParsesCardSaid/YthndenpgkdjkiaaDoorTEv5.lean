import Derived.Test.YthndenpgkdjkiaaDoorTEv4
namespace Go.Proofs.YthndenpgkdjkiaaDoor
open Go.Shelf Go.RowKit Go.Sort
set_option linter.unusedVariables false
set_option maxRecDepth 100000
attribute [local go_sem ↓] Go.wp_at_zero Go.wp_at_succ

theorem numbers_append (a b : List Bs) : numbers (a ++ b) = match numbers a, numbers b with
    | some x, some y => some (x ++ y)
    | _, _ => none := by
  induction a with
  | nil => simp only [List.nil_append, numbers]; cases numbers b <;> rfl
  | cons x r ih =>
    rw [List.cons_append, numbers, numbers, ih]
    cases number x <;> cases numbers r <;> cases numbers b <;> rfl
theorem info2 : (Tryd.prog.info? 2).map (fun i => (i.zero, i.size, i.bytes)) = some (some (.int .i64 0), 1, 8) := by kernel_rfl
abbrev zEv : Obj := .cells #[.int .i64 0, .int .i64 0, .int .i64 0, .int .i64 0, .int .i64 0] 72 (0, 0)
theorem own_some {w : World} {base e size n : Nat} {v : Value} {xs : List Value} (h : w.ownsRow base e size v n xs) (hn : 0 < n) : ∃ g cap, v = .slice (some ⟨g, 0, none⟩) n cap := by
  rcases h.2 with ⟨_, h⟩ | ⟨g, cap, _, h, _⟩
  · omega
  · exact ⟨g, cap, h⟩
def ints (l : List Int) : List Value := l.map fun n => .int .i64 n
theorem res64 (tmps : Array Value) (b : Nat) (e : Ev) (v : Value) (w : World) (hp : tmps.getD 2 undef = .pointer (some ⟨b, 0, none⟩)) (hv : tmps.getD 3 undef = v) (h : w.heap[b]? = some (evO e)) :
    (results Tryd.f64 tmps).run Tryd.prog w = .ok (.tuple #[evV e, v]) w := by
  have c0 : w.cell? ⟨b, 0, none⟩ = some (.int .i64 e.1) := by rw [Lib.cell_of_heap h]; rfl
  have c1 : w.cell? ⟨b, 1, none⟩ = some (.int .i64 e.2.1) := by rw [Lib.cell_of_heap h]; rfl
  have c2 : w.cell? ⟨b, 2, none⟩ = some (.int .i64 e.2.2.1) := by rw [Lib.cell_of_heap h]; rfl
  have c3 : w.cell? ⟨b, 3, none⟩ = some (.int .i64 e.2.2.2.1) := by rw [Lib.cell_of_heap h]; rfl
  have c4 : w.cell? ⟨b, 4, none⟩ = some (.int .i64 e.2.2.2.2) := by rw [Lib.cell_of_heap h]; rfl
  have a24 := Tryd.isAgg72
  have z24 := Tryd.sizeOf72
  have hr : Tryd.f64.results = #[.cell 2 72, .tmp 3] := rfl
  unfold results
  rw [hr]
  go_simp
  have hp' : tmps[2]?.getD undef = .pointer (some ⟨b, 0, none⟩) := by simpa using hp
  have hv' : tmps[3]?.getD undef = v := by simpa using hv
  rw [hp', hv']
  go_simp
theorem tells_none (a : Bs) (ws : List Bs) (h : numbers ws = none) : tells (a :: ws) = none := by
  simp only [tells, h]
theorem numbers_len (ws : List Bs) (l : List Int) (h : numbers ws = some l) : l.length = ws.length := by
  have := (numbers_iff ws l h).1
  rw [this]
  simp
theorem tells_len (a : Bs) (ws : List Bs) (h : ¬(a = begB ∧ ws.length = 3)) (h2 : ¬(a = comB ∧ ws.length = 4)) : tells (a :: ws) = none := by
  simp only [tells]
  split
  · rename_i g f p hn
    have := numbers_len _ _ hn
    rw [if_neg]
    intro e
    exact h ⟨e, by simpa using this.symm⟩
  · rename_i g f p n hn
    have := numbers_len _ _ hn
    rw [if_neg]
    intro e
    exact h2 ⟨e, by simpa using this.symm⟩
  · rfl
theorem sp_count (x : UInt8) (s : Bs) : (sp x s).length ≤ s.length + 1 := by
  induction s with
  | nil => simp [sp]
  | cons c t ih =>
    by_cases h : c = x
    · subst h
      rw [sp, if_pos rfl]
      simp; omega
    · obtain ⟨a, r, h1, h2⟩ := sp_cons_ne x c t h
      rw [h2]
      rw [h1] at ih
      simp at ih ⊢; omega
abbrev set5 (w : World) (b : Nat) (e : Ev) : World := ((((w.setCell ⟨b, 0, none⟩ (.int .i64 e.1)).setCell ⟨b, 1, none⟩ (.int .i64 e.2.1)).setCell ⟨b, 2, none⟩ (.int .i64 e.2.2.1)).setCell ⟨b, 3, none⟩ (.int .i64 e.2.2.2.1)).setCell ⟨b, 4, none⟩ (.int .i64 e.2.2.2.2)
theorem set5_at {w : World} {b : Nat} {e0 : Ev} (h : w.heap[b]? = some (evO e0)) (e : Ev) : (set5 w b e).heap[b]? = some (evO e) :=
  cells_set (cells_set (cells_set (cells_set (cells_set h 0 _) 1 _) 2 _) 3 _) 4 _
theorem set5_below {BB b : Nat} {w0 w : World} (h : Below BB w0 w) (hb : BB ≤ b) (e : Ev) : Below BB w0 (set5 w b e) :=
  ((((h.setCell (p := ⟨b, 0, none⟩) hb _).setCell (p := ⟨b, 1, none⟩) hb _).setCell (p := ⟨b, 2, none⟩) hb _).setCell (p := ⟨b, 3, none⟩) hb _).setCell (p := ⟨b, 4, none⟩) hb _
set_option maxHeartbeats 4000000 in
theorem one64_nil (s : Bs) (hs : s.length < 4294967281) (w : World) (he : Env w) (a : Bs) (hsp : sp 32 s = [a]) :
    Calls Tryd.prog 64 #[.string (B s)] w fun x w' => (∃ e, x = .returned (.tuple #[evV e, .bool false])) ∧ Below w.heap.size w w' := by
  have hb := (Below.refl w.heap.size w).alloc (Nat.le_refl _) zEv
  have hn := alloc_new w zEv
  have hz : (w.alloc zEv).heap.size = w.heap.size + 1 := World.size_alloc ..
  go_enter Tryd.func64, Tryd.ntmps64
  go_wp2_with fail
  generalize w.alloc zEv = w1 at *
  refine (split103 s 32 hs w1 (he.below hb)).mono ?_
  rintro x w2 ⟨rfl, hw2⟩
  rw [hsp] at hw2 ⊢
  have b2 : Below w.heap.size w w2 := by rw [hw2]; exact hb.alloc hb.size _
  have e2 : w2.heap[w.heap.size]? = some zEv := by rw [hw2, Below.heap_alloc _ _ _ (by omega)]; exact hn
  have f2 : w2.heap[w.heap.size + 1]? = some (.cells (strVals [a]) 9 (0, 0)) := by rw [hw2, ← hz]; exact alloc_new _ _
  have g0 : w2.cell? ⟨w.heap.size + 1, 0, none⟩ = some (.string (B a)) := by rw [Lib.cell_of_heap f2]; rfl
  have c0 : w2.cell? ⟨w.heap.size, 0, none⟩ = some (.int .i64 0) := by rw [Lib.cell_of_heap e2]; rfl
  have c1 : w2.cell? ⟨w.heap.size, 1, none⟩ = some (.int .i64 0) := by rw [Lib.cell_of_heap e2]; rfl
  have c2 : w2.cell? ⟨w.heap.size, 2, none⟩ = some (.int .i64 0) := by rw [Lib.cell_of_heap e2]; rfl
  have c3 : w2.cell? ⟨w.heap.size, 3, none⟩ = some (.int .i64 0) := by rw [Lib.cell_of_heap e2]; rfl
  have c4 : w2.cell? ⟨w.heap.size, 4, none⟩ = some (.int .i64 0) := by rw [Lib.cell_of_heap e2]; rfl
  have z0 : ∀ j, w2.frozen? ⟨w.heap.size, j, none⟩ = false := Lib.frozen_of_heap e2
  clear hw2
  simp only [List.length_cons, List.length_nil, Nat.zero_add]
  go_wp2
  refine wp_loop_rounds 1 ?_
  rw [rounds_succ]
  go_wp2
  all_goals
    refine bodyPost_ret (res64 _ w.heap.size (0, 0, 0, 0, 0) (.bool false) _ rfl rfl (set5_at (e0 := (0, 0, 0, 0, 0)) e2 (0, 0, 0, 0, 0))) rfl ?_
    exact ⟨⟨_, rfl⟩, set5_below b2 (Nat.le_refl _) (0, 0, 0, 0, 0)⟩
set_option maxHeartbeats 4000000 in
theorem one64_cons (s : Bs) (hs : s.length < 4294967281) (w : World) (he : Env w) (a : Bs) (ws : List Bs) (hsp : sp 32 s = a :: ws) (hws : ws ≠ []) (r : Option Ev) (hr : oneEv s = r) :
    Calls Tryd.prog 64 #[.string (B s)] w fun x w' => (∃ e, x = .returned (.tuple #[evV e, .bool r.isSome]) ∧ ∀ t, r = some t → t = e) ∧ Below w.heap.size w w' := by
  obtain ⟨i0, hi, hz0, hz1, hz2⟩ := info_parts info2
  have hb := (Below.refl w.heap.size w).alloc (Nat.le_refl _) zEv
  have hn := alloc_new w zEv
  have hz : (w.alloc zEv).heap.size = w.heap.size + 1 := World.size_alloc ..
  have hlen := sp_len 32 s
  have hcnt := sp_count 32 s
  rw [hsp] at hlen hcnt
  rw [List.length_cons] at hcnt
  have hm0 : 0 < ws.length := List.length_pos_iff.2 hws
  obtain ⟨m, hm⟩ : ∃ m, ws.length = m := ⟨_, rfl⟩
  obtain ⟨R, hR⟩ : ∃ R, r.isSome = R := ⟨_, rfl⟩
  rw [hR]
  unfold oneEv at hr
  rw [hsp] at hr
  go_enter Tryd.func64, Tryd.ntmps64
  go_wp2_with fail
  generalize w.alloc zEv = w1 at *
  refine (split103 s 32 hs w1 (he.below hb)).mono ?_
  rintro x w2 ⟨rfl, hw2⟩
  rw [hsp] at hw2 ⊢
  rw [hm] at hcnt hm0
  rw [List.length_cons, hm]
  have b2 : Below w.heap.size w w2 := by rw [hw2]; exact hb.alloc hb.size _
  have e2 : w2.heap[w.heap.size]? = some zEv := by rw [hw2, Below.heap_alloc _ _ _ (by omega)]; exact hn
  have f2 : w2.heap[w.heap.size + 1]? = some (.cells (strVals (a :: ws)) 9 (0, 0)) := by rw [hw2, ← hz]; exact alloc_new _ _
  have z2 : w2.heap.size = w.heap.size + 2 := by rw [hw2, World.size_alloc, hz]
  clear hw2
  replace hm := Lib.hid hm
  replace hR := Lib.hid hR
  replace hr := Lib.hid hr
  have hm1 : ¬(m = 0) := by omega
  go_wp2
  go_loopw [5, 15] (fun v i wr => ∃ (k : Nat) (l : List Int), i = .int .i64 (k : Int) ∧ k ≤ m ∧ Below w2.heap.size w2 wr ∧ numbers (ws.take k) = some l ∧ l.length = k ∧ wr.ownsRow w2.heap.size 2 1 v l.length (ints l)) (fun _ i _ => m - (intOf i).toNat)
  case atStart => exact ⟨0, [], rfl, Nat.zero_le _, Below.refl _ _, by simp [numbers], rfl, World.ownsRow_nil _ _ _ _⟩
  case round =>
    obtain ⟨k, l, rfl, hk, hbr, hnum, hll, hown⟩ := hrel
    rw [hll] at hown
    replace hll := Lib.hid hll
    have er : wr.heap[w.heap.size]? = some zEv := (hbr.block _ (by omega)).trans e2
    have fr : wr.heap[w.heap.size + 1]? = some (.cells (strVals (a :: ws)) 9 (0, 0)) := (hbr.block _ (by omega)).trans f2
    have br := b2.trans (hbr.mono b2.size)
    have zr := hbr.size
    by_cases hkm : k < m
    · have hkw : k < ws.length := by rw [hm.out]; exact hkm
      obtain ⟨x, hx⟩ : ∃ x, ws[k]? = some x := ⟨_, List.getElem?_eq_getElem hkw⟩
      have c0 : wr.cell? ⟨w.heap.size + 1, 1 + k, none⟩ = some (.string (B x)) := by
        rw [Lib.cell_of_heap fr, Nat.add_comm 1 k]
        simp [strVals, hx]
      have hxl : x.length ≤ s.length := hlen x (List.mem_cons_of_mem _ (List.mem_of_getElem? hx))
      have hnx : numbers (ws.take (k + 1)) = match number x with | some y => some (l ++ [y]) | none => none := by
        rw [List.take_add_one, hx, Option.toList_some, numbers_append, hnum]
        cases hx2 : number x with
        | none => simp [numbers, hx2]
        | some y => simp [numbers, hx2]
      go_wp2_with fail
      refine (number39' x wr (by omega)).mono ?_
      rintro q w4 ⟨rfl, b4⟩
      have e4 : w4.heap[w.heap.size]? = some zEv := (b4.block _ (blk_lt er)).trans er
      have bb4 := br.trans (b4.mono br.size)
      have own4 := own_below hown b4 (fun k hk => (hown.lt k hk).2)
      have z4 := b4.size
      cases hx2 : number x with
      | none =>
        rw [hx2] at hnx
        simp only at hnx
        have hr0 : r = none := by
          rw [← hr.out, tells_none]
          have := numbers_append (ws.take (k + 1)) (ws.drop (k + 1))
          rw [List.take_append_drop, hnx] at this
          exact this
        have hR0 : R = false := by rw [← hR.out, hr0]; rfl
        replace hr0 := Lib.hid hr0
        replace hR0 := Lib.hid hR0
        clear hnx
        have c0 : w4.cell? ⟨w.heap.size, 0, none⟩ = some (.int .i64 0) := by rw [Lib.cell_of_heap e4]; rfl
        have c1 : w4.cell? ⟨w.heap.size, 1, none⟩ = some (.int .i64 0) := by rw [Lib.cell_of_heap e4]; rfl
        have c2 : w4.cell? ⟨w.heap.size, 2, none⟩ = some (.int .i64 0) := by rw [Lib.cell_of_heap e4]; rfl
        have c3 : w4.cell? ⟨w.heap.size, 3, none⟩ = some (.int .i64 0) := by rw [Lib.cell_of_heap e4]; rfl
        have c4 : w4.cell? ⟨w.heap.size, 4, none⟩ = some (.int .i64 0) := by rw [Lib.cell_of_heap e4]; rfl
        have g0 : ∀ j, w4.frozen? ⟨w.heap.size, j, none⟩ = false := Lib.frozen_of_heap e4
        go_wp2
        refine bodyPost_ret (res64 _ w.heap.size (0, 0, 0, 0, 0) (.bool false) _ rfl rfl (set5_at (e0 := (0, 0, 0, 0, 0)) e4 (0, 0, 0, 0, 0))) rfl ?_
        rw [hr0.out, hR0.out]
        exact ⟨⟨_, rfl, fun t ht => by cases ht⟩, set5_below bb4 (Nat.le_refl _) (0, 0, 0, 0, 0)⟩
      | some y =>
        rw [hx2] at hnx
        simp only at hnx
        replace hnx := Lib.hid hnx
        replace hnum := Lib.hid hnum
        obtain ⟨ao, cap, rfl⟩ := own_form own4
        go_wp2_with (at_builtin; refine wpList_append_own _ rfl _ _ 145 rfl w2.heap.size 2 i0 (.int .i64 0) 1 8 Tryd.underlying145 hi hz0 hz1 hz2 rfl (by decide) _ _ _ rfl (own4.alloc _) ⟨w4.heap.size, 0, none⟩ 1 1 [.int .i64 y] rfl rfl (cell_one_new _ _ _) (fun u hu => by simp at hu; subst hu; rfl) (by unfold maxLen; omega) (by omega) (by rw [World.size_alloc]; omega) ?_)
        intro v' w6 own6 hgrow hnil
        go_wp2
        go_roundw
        case rel =>
          refine ⟨k + 1, l ++ [y], by go_num, hkm, ?_, hnx.out, by simp [hll.out], ?_⟩
          · exact ((hbr.trans (b4.mono zr)).alloc (by omega) _).grown hgrow (by rw [World.size_alloc]; omega) (fun k hk => (own4.lt k hk).1)
          · rw [List.length_append, hll.out]
            simpa [ints, z2] using own6
        case measure => simp [intOf]; omega
    · obtain rfl : k = m := by omega
      rw [← hm.out, List.take_length] at hnum
      have g0 : wr.cell? ⟨w.heap.size + 1, 0, none⟩ = some (.string (B a)) := by rw [Lib.cell_of_heap fr]; rfl
      have c0 : wr.cell? ⟨w.heap.size, 0, none⟩ = some (.int .i64 0) := by rw [Lib.cell_of_heap er]; rfl
      have c1 : wr.cell? ⟨w.heap.size, 1, none⟩ = some (.int .i64 0) := by rw [Lib.cell_of_heap er]; rfl
      have c2 : wr.cell? ⟨w.heap.size, 2, none⟩ = some (.int .i64 0) := by rw [Lib.cell_of_heap er]; rfl
      have c3 : wr.cell? ⟨w.heap.size, 3, none⟩ = some (.int .i64 0) := by rw [Lib.cell_of_heap er]; rfl
      have c4 : wr.cell? ⟨w.heap.size, 4, none⟩ = some (.int .i64 0) := by rw [Lib.cell_of_heap er]; rfl
      have y0 : ∀ j, wr.frozen? ⟨w.heap.size, j, none⟩ = false := Lib.frozen_of_heap er
      by_cases ha : a = begB
      · by_cases h3 : k = 3
        · subst h3
          obtain ⟨g, f, p, rfl⟩ : ∃ g f p, l = [g, f, p] := by
            match l, hll.out with
            | [g, f, p], _ => exact ⟨g, f, p, rfl⟩
          have a1 : a = [98, 101, 103, 105, 110] := ha
          have hre : (if right (1, g, f, p, 0) then some (1, g, f, p, 0) else none) = r := by
            rw [← hr.out]
            simp only [tells, hnum, ha, if_true]
          obtain ⟨gb, cap, rfl⟩ := own_some hown (by decide)
          have n0 := hown.cellAt 0 (by decide)
          have n1 := hown.cellAt 1 (by decide)
          have n2 := hown.cellAt 2 (by decide)
          simp only [ints, List.map_cons, List.map_nil, List.getElem?_cons_zero, List.getElem?_cons_succ] at n0 n1 n2
          have hlt := (hown.lt gb rfl)
          replace hre := Lib.hid hre
          have hgb : gb ≠ w.heap.size := by omega
          have hgb' : w.heap.size ≠ gb := by omega
          have hlb := blk_lt er
          go_wp2
          obtain ⟨w5, hw5⟩ : ∃ w5, wr.setCell ⟨w.heap.size, 0, none⟩ (.int .i64 1) = w5 := ⟨_, rfl⟩
          have e5 : w5.heap[w.heap.size]? = some (evO (1, 0, 0, 0, 0)) := by rw [← hw5]; exact cells_set er 0 _
          have b5 : Below w.heap.size w w5 := by rw [← hw5]; exact br.setCell (p := ⟨w.heap.size, 0, none⟩) (Nat.le_refl _) _
          rw [hw5]
          replace n0 : w5.cell? ⟨gb, 0, none⟩ = some (.int .i64 g) := by rw [← hw5]; exact (World.cell?_of_block (Below.heap_setCell _ _ _ _ hgb)).trans n0
          replace n1 : w5.cell? ⟨gb, 1, none⟩ = some (.int .i64 f) := by rw [← hw5]; exact (World.cell?_of_block (Below.heap_setCell _ _ _ _ hgb)).trans n1
          replace n2 : w5.cell? ⟨gb, 2, none⟩ = some (.int .i64 p) := by rw [← hw5]; exact (World.cell?_of_block (Below.heap_setCell _ _ _ _ hgb)).trans n2
          clear hw5 c0 c1 c2 c3 c4 y0 g0
          have c1 : w5.cell? ⟨w.heap.size, 1, none⟩ = some (.int .i64 0) := by rw [Lib.cell_of_heap e5]; rfl
          have c2 : w5.cell? ⟨w.heap.size, 2, none⟩ = some (.int .i64 0) := by rw [Lib.cell_of_heap e5]; rfl
          have c3 : w5.cell? ⟨w.heap.size, 3, none⟩ = some (.int .i64 0) := by rw [Lib.cell_of_heap e5]; rfl
          have y1 : w5.frozen? ⟨w.heap.size, 1, none⟩ = false := Lib.frozen_of_heap e5 1
          have y2 : w5.frozen? ⟨w.heap.size, 2, none⟩ = false := Lib.frozen_of_heap e5 2
          have y3 : w5.frozen? ⟨w.heap.size, 3, none⟩ = false := Lib.frozen_of_heap e5 3
          go_region_held3 (fun w' => w'.cell? ⟨gb, 0, none⟩ = some (.int .i64 g) ∧ w'.cell? ⟨gb, 1, none⟩ = some (.int .i64 f) ∧ w'.cell? ⟨gb, 2, none⟩ = some (.int .i64 p)) (go_keep) (fail)
          obtain ⟨w7, hw7⟩ : ∃ w7, (((w5.setCell ⟨w.heap.size, 1, none⟩ (.int .i64 g)).setCell ⟨w.heap.size, 2, none⟩ (.int .i64 f)).setCell ⟨w.heap.size, 3, none⟩ (.int .i64 p)).drew = w7 := ⟨_, rfl⟩
          have e7 : w7.heap[w.heap.size]? = some (evO (1, g, f, p, 0)) := by rw [← hw7]; exact cells_set (cells_set (cells_set e5 1 _) 2 _) 3 _
          have b7 : Below w.heap.size w w7 := by
            rw [← hw7]
            exact Below.drew (((b5.setCell (p := ⟨w.heap.size, 1, none⟩) (Nat.le_refl _) _).setCell (p := ⟨w.heap.size, 2, none⟩) (Nat.le_refl _) _).setCell (p := ⟨w.heap.size, 3, none⟩) (Nat.le_refl _) _)
          rw [hw7]
          clear hw7 c1 c2 c3 y1 y2 y3 n0 n1 n2
          have l7 := blk_lt e7
          have s0 : w7.cell? ⟨w.heap.size, 0, none⟩ = some (.int .i64 1) := by rw [Lib.cell_of_heap e7]; rfl
          have s1 : w7.cell? ⟨w.heap.size, 1, none⟩ = some (.int .i64 g) := by rw [Lib.cell_of_heap e7]; rfl
          have s2 : w7.cell? ⟨w.heap.size, 2, none⟩ = some (.int .i64 f) := by rw [Lib.cell_of_heap e7]; rfl
          have s3 : w7.cell? ⟨w.heap.size, 3, none⟩ = some (.int .i64 p) := by rw [Lib.cell_of_heap e7]; rfl
          have s4 : w7.cell? ⟨w.heap.size, 4, none⟩ = some (.int .i64 0) := by rw [Lib.cell_of_heap e7]; rfl
          have y7 : ∀ j, w7.frozen? ⟨w.heap.size, j, none⟩ = false := Lib.frozen_of_heap e7
          have key : ∀ w9, Below w7.drew.heap.size w7.drew w9 → w9.heap[w.heap.size]? = some (evO (1, g, f, p, 0)) ∧ Below w.heap.size w w9 := fun w9 hb => ⟨(hb.block _ l7).trans e7, (Below.drew b7).trans (hb.mono b7.size)⟩
          go_wp2
          go_region_held3 (fun w' => w'.cell? ⟨w.heap.size, 0, none⟩ = some (.int .i64 1) ∧ w'.cell? ⟨w.heap.size, 1, none⟩ = some (.int .i64 g) ∧ w'.cell? ⟨w.heap.size, 2, none⟩ = some (.int .i64 f) ∧ w'.cell? ⟨w.heap.size, 3, none⟩ = some (.int .i64 p) ∧ w'.cell? ⟨w.heap.size, 4, none⟩ = some (.int .i64 0)) (first | go_keep | (have e10 := set5_at (e0 := (1, g, f, p, 0)) e9 (1, g, f, p, 0); exact ⟨Lib.cell_of_heap e10 0, Lib.cell_of_heap e10 1, Lib.cell_of_heap e10 2, Lib.cell_of_heap e10 3, Lib.cell_of_heap e10 4⟩)) (first
            | (go_at_call 106; refine (right106 (1, g, f, p, 0) _).mono ?_; rintro q w9 ⟨rfl, hb9⟩; obtain ⟨e9, b9⟩ := key w9 hb9; have m0 := (show w9.cell? ⟨w.heap.size, 0, none⟩ = some (.int .i64 1) by rw [Lib.cell_of_heap e9]; rfl); have m1 := (show w9.cell? ⟨w.heap.size, 1, none⟩ = some (.int .i64 g) by rw [Lib.cell_of_heap e9]; rfl); have m2 := (show w9.cell? ⟨w.heap.size, 2, none⟩ = some (.int .i64 f) by rw [Lib.cell_of_heap e9]; rfl); have m3 := (show w9.cell? ⟨w.heap.size, 3, none⟩ = some (.int .i64 p) by rw [Lib.cell_of_heap e9]; rfl); have m4 := (show w9.cell? ⟨w.heap.size, 4, none⟩ = some (.int .i64 0) by rw [Lib.cell_of_heap e9]; rfl); have y9 : ∀ j, w9.frozen? ⟨w.heap.size, j, none⟩ = false := Lib.frozen_of_heap e9)
            | fail)
          go_wp2
          refine bodyPost_ret (res64 _ w.heap.size (1, g, f, p, 0) (.bool (right (1, g, f, p, 0))) _ rfl rfl (set5_at (e0 := (1, g, f, p, 0)) e9 (1, g, f, p, 0))) rfl ?_
          have hR0 : R = right (1, g, f, p, 0) := by rw [← hR.out, ← hre.out]; cases right (1, g, f, p, 0) <;> rfl
          rw [hR0]
          refine ⟨⟨_, rfl, fun t ht => ?_⟩, set5_below b9 (Nat.le_refl _) (1, g, f, p, 0)⟩
          rw [← hre.out] at ht
          cases hrt : right (1, g, f, p, 0) with
          | true => rw [hrt] at ht; injection ht with ht; exact ht.symm
          | false => rw [hrt] at ht; cases ht
        · have h1 : ¬(a = begB ∧ k = 3) := fun h => h3 h.2
          have h2 : ¬(a = comB ∧ k = 4) := fun h => by rw [ha] at h; exact absurd h.1 (by decide)
          have k3 : ((k : Int) == 3) = false := by rw [beq_eq_false_iff_ne]; omega
          have a1 : a = [98, 101, 103, 105, 110] := ha
          have a2 : ¬(a = [99, 111, 109, 109, 105, 116]) := by rw [a1]; decide
          have hr0 : r = none := by
            rw [← hr.out, tells_len a ws (by rw [hm.out]; exact h1) (by rw [hm.out]; exact h2)]
          have hR0 : R = false := by rw [← hR.out, hr0]; rfl
          replace hr0 := Lib.hid hr0
          replace hR0 := Lib.hid hR0
          obtain ⟨ao, cap, rfl⟩ := own_form hown
          go_wp2
          refine bodyPost_ret (res64 _ w.heap.size (0, 0, 0, 0, 0) (.bool false) _ rfl rfl (set5_at (e0 := (0, 0, 0, 0, 0)) er (0, 0, 0, 0, 0))) rfl ?_
          rw [hr0.out, hR0.out]
          exact ⟨⟨_, rfl, fun t ht => by cases ht⟩, set5_below br (Nat.le_refl _) (0, 0, 0, 0, 0)⟩
      · have h1 : ¬(a = begB ∧ k = 3) := fun h => ha h.1
        have a1 : ¬(a = [98, 101, 103, 105, 110]) := ha
        by_cases hc : a = comB
        · have a2 : a = [99, 111, 109, 109, 105, 116] := hc
          by_cases h4 : k = 4
          · subst h4
            obtain ⟨g, f, p, n, rfl⟩ : ∃ g f p n, l = [g, f, p, n] := by
              match l, hll.out with
              | [g, f, p, n], _ => exact ⟨g, f, p, n, rfl⟩
            have hre : (if right (2, g, f, p, n) then some (2, g, f, p, n) else none) = r := by
              rw [← hr.out]
              simp only [tells, hnum, hc, if_true]
            obtain ⟨gb, cap, rfl⟩ := own_some hown (by decide)
            have n0 := hown.cellAt 0 (by decide)
            have n1 := hown.cellAt 1 (by decide)
            have n2 := hown.cellAt 2 (by decide)
            have n3 := hown.cellAt 3 (by decide)
            simp only [ints, List.map_cons, List.map_nil, List.getElem?_cons_zero, List.getElem?_cons_succ] at n0 n1 n2 n3
            have hlt := (hown.lt gb rfl)
            replace hre := Lib.hid hre
            have hgb : gb ≠ w.heap.size := by omega
            have hgb' : w.heap.size ≠ gb := by omega
            have hlb := blk_lt er
            go_wp2
            go_region_held3 (fun w' => w'.cell? ⟨gb, 3, none⟩ = some (.int .i64 n)) (go_keep) (fail)
            obtain ⟨w5, hw5⟩ : ∃ w5, ((wr.setCell ⟨w.heap.size, 0, none⟩ (.int .i64 2)).setCell ⟨w.heap.size, 4, none⟩ (.int .i64 n)).drew = w5 := ⟨_, rfl⟩
            have e5 : w5.heap[w.heap.size]? = some (evO (2, 0, 0, 0, n)) := by rw [← hw5]; exact cells_set (cells_set er 0 _) 4 _
            have b5 : Below w.heap.size w w5 := by rw [← hw5]; exact Below.drew ((br.setCell (p := ⟨w.heap.size, 0, none⟩) (Nat.le_refl _) _).setCell (p := ⟨w.heap.size, 4, none⟩) (Nat.le_refl _) _)
            rw [hw5]
            replace n0 : w5.cell? ⟨gb, 0, none⟩ = some (.int .i64 g) := by rw [← hw5]; exact (World.cell?_of_block ((Below.heap_setCell _ _ _ _ hgb).trans (Below.heap_setCell _ _ _ _ hgb))).trans n0
            replace n1 : w5.cell? ⟨gb, 1, none⟩ = some (.int .i64 f) := by rw [← hw5]; exact (World.cell?_of_block ((Below.heap_setCell _ _ _ _ hgb).trans (Below.heap_setCell _ _ _ _ hgb))).trans n1
            replace n2 : w5.cell? ⟨gb, 2, none⟩ = some (.int .i64 p) := by rw [← hw5]; exact (World.cell?_of_block ((Below.heap_setCell _ _ _ _ hgb).trans (Below.heap_setCell _ _ _ _ hgb))).trans n2
            clear hw5 c0 c1 c2 c3 c4 y0 g0
            have c1 : w5.cell? ⟨w.heap.size, 1, none⟩ = some (.int .i64 0) := by rw [Lib.cell_of_heap e5]; rfl
            have c2 : w5.cell? ⟨w.heap.size, 2, none⟩ = some (.int .i64 0) := by rw [Lib.cell_of_heap e5]; rfl
            have c3 : w5.cell? ⟨w.heap.size, 3, none⟩ = some (.int .i64 0) := by rw [Lib.cell_of_heap e5]; rfl
            have y1 : w5.frozen? ⟨w.heap.size, 1, none⟩ = false := Lib.frozen_of_heap e5 1
            have y2 : w5.frozen? ⟨w.heap.size, 2, none⟩ = false := Lib.frozen_of_heap e5 2
            have y3 : w5.frozen? ⟨w.heap.size, 3, none⟩ = false := Lib.frozen_of_heap e5 3
            go_wp2
            go_region_held3 (fun w' => w'.cell? ⟨gb, 0, none⟩ = some (.int .i64 g) ∧ w'.cell? ⟨gb, 1, none⟩ = some (.int .i64 f) ∧ w'.cell? ⟨gb, 2, none⟩ = some (.int .i64 p)) (go_keep) (fail)
            obtain ⟨w7, hw7⟩ : ∃ w7, (((w5.setCell ⟨w.heap.size, 1, none⟩ (.int .i64 g)).setCell ⟨w.heap.size, 2, none⟩ (.int .i64 f)).setCell ⟨w.heap.size, 3, none⟩ (.int .i64 p)).drew = w7 := ⟨_, rfl⟩
            have e7 : w7.heap[w.heap.size]? = some (evO (2, g, f, p, n)) := by rw [← hw7]; exact cells_set (cells_set (cells_set e5 1 _) 2 _) 3 _
            have b7 : Below w.heap.size w w7 := by
              rw [← hw7]
              exact Below.drew (((b5.setCell (p := ⟨w.heap.size, 1, none⟩) (Nat.le_refl _) _).setCell (p := ⟨w.heap.size, 2, none⟩) (Nat.le_refl _) _).setCell (p := ⟨w.heap.size, 3, none⟩) (Nat.le_refl _) _)
            rw [hw7]
            clear hw7 c1 c2 c3 y1 y2 y3 n0 n1 n2
            have l7 := blk_lt e7
            have s0 : w7.cell? ⟨w.heap.size, 0, none⟩ = some (.int .i64 2) := by rw [Lib.cell_of_heap e7]; rfl
            have s1 : w7.cell? ⟨w.heap.size, 1, none⟩ = some (.int .i64 g) := by rw [Lib.cell_of_heap e7]; rfl
            have s2 : w7.cell? ⟨w.heap.size, 2, none⟩ = some (.int .i64 f) := by rw [Lib.cell_of_heap e7]; rfl
            have s3 : w7.cell? ⟨w.heap.size, 3, none⟩ = some (.int .i64 p) := by rw [Lib.cell_of_heap e7]; rfl
            have s4 : w7.cell? ⟨w.heap.size, 4, none⟩ = some (.int .i64 n) := by rw [Lib.cell_of_heap e7]; rfl
            have y7 : ∀ j, w7.frozen? ⟨w.heap.size, j, none⟩ = false := Lib.frozen_of_heap e7
            have key : ∀ w9, Below w7.drew.heap.size w7.drew w9 → w9.heap[w.heap.size]? = some (evO (2, g, f, p, n)) ∧ Below w.heap.size w w9 := fun w9 hb => ⟨(hb.block _ l7).trans e7, (Below.drew b7).trans (hb.mono b7.size)⟩
            go_wp2
            go_region_held3 (fun w' => w'.cell? ⟨w.heap.size, 0, none⟩ = some (.int .i64 2) ∧ w'.cell? ⟨w.heap.size, 1, none⟩ = some (.int .i64 g) ∧ w'.cell? ⟨w.heap.size, 2, none⟩ = some (.int .i64 f) ∧ w'.cell? ⟨w.heap.size, 3, none⟩ = some (.int .i64 p) ∧ w'.cell? ⟨w.heap.size, 4, none⟩ = some (.int .i64 n)) (first | go_keep | (have e10 := set5_at (e0 := (2, g, f, p, n)) e9 (2, g, f, p, n); exact ⟨Lib.cell_of_heap e10 0, Lib.cell_of_heap e10 1, Lib.cell_of_heap e10 2, Lib.cell_of_heap e10 3, Lib.cell_of_heap e10 4⟩)) (first
              | (go_at_call 106; refine (right106 (2, g, f, p, n) _).mono ?_; rintro q w9 ⟨rfl, hb9⟩; obtain ⟨e9, b9⟩ := key w9 hb9; have m0 := (show w9.cell? ⟨w.heap.size, 0, none⟩ = some (.int .i64 2) by rw [Lib.cell_of_heap e9]; rfl); have m1 := (show w9.cell? ⟨w.heap.size, 1, none⟩ = some (.int .i64 g) by rw [Lib.cell_of_heap e9]; rfl); have m2 := (show w9.cell? ⟨w.heap.size, 2, none⟩ = some (.int .i64 f) by rw [Lib.cell_of_heap e9]; rfl); have m3 := (show w9.cell? ⟨w.heap.size, 3, none⟩ = some (.int .i64 p) by rw [Lib.cell_of_heap e9]; rfl); have m4 := (show w9.cell? ⟨w.heap.size, 4, none⟩ = some (.int .i64 n) by rw [Lib.cell_of_heap e9]; rfl); have y9 : ∀ j, w9.frozen? ⟨w.heap.size, j, none⟩ = false := Lib.frozen_of_heap e9)
              | fail)
            go_wp2
            refine bodyPost_ret (res64 _ w.heap.size (2, g, f, p, n) (.bool (right (2, g, f, p, n))) _ rfl rfl (set5_at (e0 := (2, g, f, p, n)) e9 (2, g, f, p, n))) rfl ?_
            have hR0 : R = right (2, g, f, p, n) := by rw [← hR.out, ← hre.out]; cases right (2, g, f, p, n) <;> rfl
            rw [hR0]
            refine ⟨⟨_, rfl, fun t ht => ?_⟩, set5_below b9 (Nat.le_refl _) (2, g, f, p, n)⟩
            rw [← hre.out] at ht
            cases hrt : right (2, g, f, p, n) with
            | true => rw [hrt] at ht; injection ht with ht; exact ht.symm
            | false => rw [hrt] at ht; cases ht
          · have h2 : ¬(a = comB ∧ k = 4) := fun h => h4 h.2
            have k4 : ((k : Int) == 4) = false := by rw [beq_eq_false_iff_ne]; omega
            have hr0 : r = none := by
              rw [← hr.out, tells_len a ws (by rw [hm.out]; exact h1) (by rw [hm.out]; exact h2)]
            have hR0 : R = false := by rw [← hR.out, hr0]; rfl
            replace hr0 := Lib.hid hr0
            replace hR0 := Lib.hid hR0
            obtain ⟨ao, cap, rfl⟩ := own_form hown
            go_wp2
            refine bodyPost_ret (res64 _ w.heap.size (0, 0, 0, 0, 0) (.bool false) _ rfl rfl (set5_at (e0 := (0, 0, 0, 0, 0)) er (0, 0, 0, 0, 0))) rfl ?_
            rw [hr0.out, hR0.out]
            exact ⟨⟨_, rfl, fun t ht => by cases ht⟩, set5_below br (Nat.le_refl _) (0, 0, 0, 0, 0)⟩
        · have h2 : ¬(a = comB ∧ k = 4) := fun h => hc h.1
          have a2 : ¬(a = [99, 111, 109, 109, 105, 116]) := hc
          have hr0 : r = none := by
            rw [← hr.out, tells_len a ws (by rw [hm.out]; exact h1) (by rw [hm.out]; exact h2)]
          have hR0 : R = false := by rw [← hR.out, hr0]; rfl
          replace hr0 := Lib.hid hr0
          replace hR0 := Lib.hid hR0
          obtain ⟨ao, cap, rfl⟩ := own_form hown
          go_wp2
          refine bodyPost_ret (res64 _ w.heap.size (0, 0, 0, 0, 0) (.bool false) _ rfl rfl (set5_at (e0 := (0, 0, 0, 0, 0)) er (0, 0, 0, 0, 0))) rfl ?_
          rw [hr0.out, hR0.out]
          exact ⟨⟨_, rfl, fun t ht => by cases ht⟩, set5_below br (Nat.le_refl _) (0, 0, 0, 0, 0)⟩
end Go.Proofs.YthndenpgkdjkiaaDoor
