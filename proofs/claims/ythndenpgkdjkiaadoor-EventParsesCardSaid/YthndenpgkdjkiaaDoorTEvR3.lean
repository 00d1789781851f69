import Derived.Test.YthndenpgkdjkiaaDoorTEvR2
namespace Go.Proofs.YthndenpgkdjkiaaDoor
open Go.Shelf Go.RowKit Go.Sort
set_option linter.unusedVariables false
set_option maxRecDepth 100000

def pad (l : List Int) : List Int := l ++ List.replicate (4 - l.length) 0
theorem pad_set (l : List Int) (y : Int) (h : l.length < 4) : (intCells (pad l)).setIfInBounds l.length (.int .i64 y) = intCells (pad (l ++ [y])) := by
  have e : 4 - l.length = (4 - (l ++ [y]).length) + 1 := by simp; omega
  unfold intCells pad
  rw [e, List.replicate_succ]
  apply Array.ext'
  simp
abbrev arrO : Obj := .cells #[.int .i64 0, .int .i64 0, .int .i64 0, .int .i64 0] 147 (0, 0)
theorem res65 (tmps : Array Value) (b : Nat) (e : Ev) (v : Value) (w : World) (hp : tmps.getD 2 undef = .pointer (some ⟨b, 0, none⟩)) (hv : tmps.getD 3 undef = v) (h : w.heap[b]? = some (evO e)) :
    (results Tryd.f65 tmps).run Tryd.prog w = .ok (.tuple #[evV e, v]) w := by
  have hr : Tryd.f65.results = Tryd.f64.results := rfl
  have := res64 tmps b e v w hp hv h
  unfold results at this ⊢
  rw [hr]
  exact this
set_option maxHeartbeats 4000000 in
theorem one65 (s : Bs) (hs : s.length < 1000000) (w : World) (r : Option Ev) (hr : oneEv s = r) :
    Calls Tryd.prog 65 #[.string (B s)] w fun x w' => (∃ e, x = .returned (.tuple #[evV e, .bool r.isSome]) ∧ ∀ t, r = some t → t = e) ∧ Below w.heap.size w w' := by
  have hb := (Below.refl w.heap.size w).alloc (Nat.le_refl _) zEv
  have hn := alloc_new w zEv
  have hz : (w.alloc zEv).heap.size = w.heap.size + 1 := World.size_alloc ..
  obtain ⟨a, ws, hsp⟩ : ∃ a ws, sp 32 s = a :: ws := by
    cases h : sp 32 s with
    | nil => exact absurd h (sp_ne 32 s)
    | cons a ws => exact ⟨a, ws, rfl⟩
  have hcnt := sp_count 32 s
  have hw8 := words108 s hs
  rw [hsp] at hcnt hw8
  obtain ⟨R, hR⟩ : ∃ R, r.isSome = R := ⟨_, rfl⟩
  rw [hR]
  unfold oneEv at hr
  rw [hsp] at hr
  obtain ⟨m, hm⟩ : ∃ m, ws.length = m := ⟨_, rfl⟩
  rw [List.length_cons, hm] at hw8 hcnt
  replace hR := Lib.hid hR
  go_enter Tryd.func65, Tryd.ntmps65
  go_wp2_with fail
  generalize w.alloc zEv = w1 at *
  refine (hw8 w1).mono ?_
  rintro x w2 ⟨v, rfl, hown, hb2⟩
  have b2 := hb.trans (hb2.mono hb.size)
  have e2 : w2.heap[w.heap.size]? = some zEv := (hb2.block _ (by omega)).trans hn
  have z2 := blk_lt e2
  obtain ⟨gb, cap, rfl⟩ := own_some hown (by omega)
  have hgb := hown.lt gb rfl
  have b3 := b2.alloc b2.size arrO
  have e3 : (w2.alloc arrO).heap[w.heap.size]? = some zEv := (((Below.refl w2.heap.size w2).alloc (Nat.le_refl _) arrO).block _ z2).trans e2
  have n3 := alloc_new w2 arrO
  have bw3 := (Below.refl w2.heap.size w2).alloc (Nat.le_refl _) arrO
  have z3 : (w2.alloc arrO).heap.size = w2.heap.size + 1 := World.size_alloc ..
  have c0 : w2.cell? ⟨w.heap.size, 0, none⟩ = some (.int .i64 0) := by rw [Lib.cell_of_heap e2]; rfl
  have c1 : w2.cell? ⟨w.heap.size, 1, none⟩ = some (.int .i64 0) := by rw [Lib.cell_of_heap e2]; rfl
  have c2 : w2.cell? ⟨w.heap.size, 2, none⟩ = some (.int .i64 0) := by rw [Lib.cell_of_heap e2]; rfl
  have c3 : w2.cell? ⟨w.heap.size, 3, none⟩ = some (.int .i64 0) := by rw [Lib.cell_of_heap e2]; rfl
  have c4 : w2.cell? ⟨w.heap.size, 4, none⟩ = some (.int .i64 0) := by rw [Lib.cell_of_heap e2]; rfl
  have y3 : ∀ j, w2.frozen? ⟨w.heap.size, j, none⟩ = false := Lib.frozen_of_heap e2
  by_cases h5 : 4 < m
  · have g5 : ((m : Int) + 1 > 5) := by omega
    have hr0 : r = none := by rw [← hr, tells_len a ws (by omega) (by omega)]
    have hR0 : R = false := by rw [← hR.out, hr0]; rfl
    replace hr0 := Lib.hid hr0
    replace hR0 := Lib.hid hR0
    clear hr
    go_wp2
    have e6 : ((set5 w2 w.heap.size (0, 0, 0, 0, 0)).alloc arrO).heap[w.heap.size]? = some zEv := by
      rw [Below.heap_alloc _ _ _ (blk_lt (set5_at (e0 := (0, 0, 0, 0, 0)) e2 (0, 0, 0, 0, 0)))]
      exact set5_at (e0 := (0, 0, 0, 0, 0)) e2 (0, 0, 0, 0, 0)
    have b6 := (set5_below b2 (Nat.le_refl _) (0, 0, 0, 0, 0)).alloc (set5_below b2 (Nat.le_refl _) (0, 0, 0, 0, 0)).size arrO
    generalize (set5 w2 w.heap.size (0, 0, 0, 0, 0)).alloc arrO = w6 at *
    refine bodyPost_ret (res65 _ w.heap.size (0, 0, 0, 0, 0) (.bool false) _ rfl rfl e6) rfl ?_
    rw [hr0.out, hR0.out]
    exact ⟨⟨_, rfl, fun t ht => by cases ht⟩, b6⟩
  · have g5 : ¬((m : Int) + 1 > 5) := by omega
    have hcell : ∀ k, (h : k < m) → w2.cell? ⟨gb, k + 1, none⟩ = (ws[k]?).map fun b => Value.string (B b) := by
      intro k h
      rw [hown.cellAt (k + 1) (by omega)]
      simp [strs]
    replace hr := Lib.hid hr
    go_wp2
    generalize w2.alloc arrO = w3 at *
    go_loopw [6] (fun i wr => ∃ (k : Nat) (l : List Int), i = .int .i64 ((k : Int) + 1) ∧ k ≤ m ∧ Below w2.heap.size w2 wr ∧ numbers (ws.take k) = some l ∧ l.length = k ∧ wr.heap[w2.heap.size]? = some (.cells (intCells (pad l)) 147 (0, 0))) (fun i _ => m + 1 - (intOf i).toNat)
    case atStart => exact ⟨0, [], rfl, Nat.zero_le _, bw3, by simp [numbers], rfl, n3⟩
    case round =>
      obtain ⟨k, l, rfl, hk, hbr, hnum, hll, har⟩ := hrel
      have er : wr.heap[w.heap.size]? = some zEv := (hbr.block _ z2).trans e2
      have br := b2.trans (hbr.mono b2.size)
      have lar := blk_lt har
      by_cases hkm : k < m
      · have hkw : k < ws.length := by rw [hm]; exact hkm
        obtain ⟨x, hx⟩ : ∃ x, ws[k]? = some x := ⟨_, List.getElem?_eq_getElem hkw⟩
        have d0 : wr.cell? ⟨gb, k + 1, none⟩ = some (.string (B x)) := by
          rw [hbr.cell (p := ⟨gb, k + 1, none⟩) hgb.2, hcell k hkm, hx]
          rfl
        have hnx : numbers (ws.take (k + 1)) = match number x with | some y => some (l ++ [y]) | none => none := by
          rw [List.take_add_one, hx, Option.toList_some, numbers_append, hnum]
          cases hx2 : number x with
          | none => simp [numbers, hx2]
          | some y => simp [numbers, hx2]
        go_wp2_with fail
        refine (number40 x wr).mono ?_
        rintro q w4 ⟨rfl, b4⟩
        have e4 : w4.heap[w.heap.size]? = some zEv := (b4.block _ (blk_lt er)).trans er
        have bb4 := br.trans (b4.mono br.size)
        have ar4 := (b4.block _ lar).trans har
        cases hx2 : number x with
        | none =>
          rw [hx2] at hnx
          simp only at hnx
          have hr0 : r = none := by
            rw [← hr.out, tells_none]
            have := numbers_append (ws.take (k + 1)) (ws.drop (k + 1))
            rw [List.take_append_drop, hnx] at this
            exact this
          have hR0 : R = false := by rw [← hR.out, hr0]; rfl
          replace hr0 := Lib.hid hr0
          replace hR0 := Lib.hid hR0
          clear hnx c0 c1 c2 c3 c4 y3
          have c0 : w4.cell? ⟨w.heap.size, 0, none⟩ = some (.int .i64 0) := by rw [Lib.cell_of_heap e4]; rfl
          have c1 : w4.cell? ⟨w.heap.size, 1, none⟩ = some (.int .i64 0) := by rw [Lib.cell_of_heap e4]; rfl
          have c2 : w4.cell? ⟨w.heap.size, 2, none⟩ = some (.int .i64 0) := by rw [Lib.cell_of_heap e4]; rfl
          have c3 : w4.cell? ⟨w.heap.size, 3, none⟩ = some (.int .i64 0) := by rw [Lib.cell_of_heap e4]; rfl
          have c4 : w4.cell? ⟨w.heap.size, 4, none⟩ = some (.int .i64 0) := by rw [Lib.cell_of_heap e4]; rfl
          have g0 : ∀ j, w4.frozen? ⟨w.heap.size, j, none⟩ = false := Lib.frozen_of_heap e4
          go_wp2
          refine bodyPost_ret (res65 _ w.heap.size (0, 0, 0, 0, 0) (.bool false) _ rfl rfl (set5_at (e0 := (0, 0, 0, 0, 0)) e4 (0, 0, 0, 0, 0))) rfl ?_
          rw [hr0.out, hR0.out]
          exact ⟨⟨_, rfl, fun t ht => by cases ht⟩, set5_below bb4 (Nat.le_refl _) (0, 0, 0, 0, 0)⟩
        | some y =>
          rw [hx2] at hnx
          simp only at hnx
          have hk4 : k < 4 := by omega
          have ps := pad_set l y (by omega)
          rw [hll] at ps
          have hsome : ∃ u, w4.cell? ⟨w2.heap.size, k, none⟩ = some u := by
            rw [Lib.cell_of_heap ar4]
            exact ⟨_, Array.getElem?_eq_getElem (by simp [intCells, pad, hll]; omega)⟩
          obtain ⟨u, hu⟩ := hsome
          have hf := Lib.frozen_of_heap ar4 k
          have hk40 : (k : Int) < 4 := by omega
          replace hnx := Lib.hid hnx
          replace hnum := Lib.hid hnum
          replace hll := Lib.hid hll
          replace ps := Lib.hid ps
          go_wp2
          go_roundw
          case rel =>
            refine ⟨k + 1, l ++ [y], by go_num, hkm, ?_, hnx.out, by simp [hll.out], ?_⟩
            · exact (hbr.trans (b4.mono hbr.size)).setCell (p := ⟨w2.heap.size, k, none⟩) (Nat.le_refl _) _
            · rw [← ps.out]
              exact cells_set ar4 k _
          case measure => simp [intOf]; omega
      · obtain rfl : k = m := by omega
        rw [← hm, List.take_length] at hnum
        obtain ⟨q0, q1, q2, q3, hq⟩ : ∃ q0 q1 q2 q3, pad l = [q0, q1, q2, q3] := by
          have hpl : (pad l).length = 4 := by simp [pad]; omega
          match hp : pad l, hpl with
          | [q0, q1, q2, q3], _ => exact ⟨q0, q1, q2, q3, rfl⟩
        rw [hq] at har
        have g0 : wr.cell? ⟨gb, 0, none⟩ = some (.string (B a)) := by
          rw [hbr.cell (p := ⟨gb, 0, none⟩) hgb.2, hown.cellAt 0 (by omega)]
          rfl
        have r0 : wr.cell? ⟨w2.heap.size, 0, none⟩ = some (.int .i64 q0) := by rw [Lib.cell_of_heap har]; rfl
        have r1 : wr.cell? ⟨w2.heap.size, 1, none⟩ = some (.int .i64 q1) := by rw [Lib.cell_of_heap har]; rfl
        have r2 : wr.cell? ⟨w2.heap.size, 2, none⟩ = some (.int .i64 q2) := by rw [Lib.cell_of_heap har]; rfl
        have r3 : wr.cell? ⟨w2.heap.size, 3, none⟩ = some (.int .i64 q3) := by rw [Lib.cell_of_heap har]; rfl
        clear c0 c1 c2 c3 c4 y3
        have hgw : gb < wr.heap.size := Nat.lt_of_lt_of_le hgb.2 hbr.size
        have hlw : w.heap.size < wr.heap.size := blk_lt er
        by_cases ha : a = begB ∧ k = 3
        · obtain ⟨ha, rfl⟩ := ha
          obtain ⟨g, f, p, rfl⟩ : ∃ g f p, l = [g, f, p] := by
            match l, hll with
            | [g, f, p], _ => exact ⟨g, f, p, rfl⟩
          have hq' : [g, f, p, 0] = [q0, q1, q2, q3] := hq
          simp only [List.cons.injEq, and_true] at hq'
          obtain ⟨rfl, rfl, rfl, rfl⟩ := hq'
          have a1 : a = [98, 101, 103, 105, 110] := ha
          have hre : (if right (1, g, f, p, 0) then some (1, g, f, p, 0) else none) = r := by
            rw [← hr.out]
            simp only [tells, hnum, ha, if_true]
          replace hre := Lib.hid hre
          clear hr hnum hq
          go_wp2_with fail
          have n5 := alloc_new wr (evO (1, g, f, p, 0))
          have b5 := br.alloc br.size (evO (1, g, f, p, 0))
          have er5 : (wr.alloc (evO (1, g, f, p, 0))).heap[w.heap.size]? = some zEv := (Below.heap_alloc _ _ _ hlw).trans er
          generalize wr.alloc (evO (1, g, f, p, 0)) = w5 at *
          refine (right109 (1, g, f, p, 0) _).mono ?_
          rintro q w6 ⟨rfl, b6⟩
          have e6 : w6.heap[wr.heap.size]? = some (evO (1, g, f, p, 0)) := (b6.block _ (blk_lt n5)).trans n5
          have e7 : w6.heap[w.heap.size]? = some zEv := (b6.block _ (blk_lt er5)).trans er5
          have b7 := b5.trans (b6.mono b5.size)
          have u0 : w6.cell? ⟨wr.heap.size, 0, none⟩ = some (.int .i64 1) := by rw [Lib.cell_of_heap e6]; rfl
          have o0 : w6.cell? ⟨w.heap.size, 0, none⟩ = some (.int .i64 0) := by rw [Lib.cell_of_heap e7]; rfl
          have u1 : w6.cell? ⟨wr.heap.size, 1, none⟩ = some (.int .i64 g) := by rw [Lib.cell_of_heap e6]; rfl
          have o1 : w6.cell? ⟨w.heap.size, 1, none⟩ = some (.int .i64 0) := by rw [Lib.cell_of_heap e7]; rfl
          have u2 : w6.cell? ⟨wr.heap.size, 2, none⟩ = some (.int .i64 f) := by rw [Lib.cell_of_heap e6]; rfl
          have o2 : w6.cell? ⟨w.heap.size, 2, none⟩ = some (.int .i64 0) := by rw [Lib.cell_of_heap e7]; rfl
          have u3 : w6.cell? ⟨wr.heap.size, 3, none⟩ = some (.int .i64 p) := by rw [Lib.cell_of_heap e6]; rfl
          have o3 : w6.cell? ⟨w.heap.size, 3, none⟩ = some (.int .i64 0) := by rw [Lib.cell_of_heap e7]; rfl
          have u4 : w6.cell? ⟨wr.heap.size, 4, none⟩ = some (.int .i64 0) := by rw [Lib.cell_of_heap e6]; rfl
          have o4 : w6.cell? ⟨w.heap.size, 4, none⟩ = some (.int .i64 0) := by rw [Lib.cell_of_heap e7]; rfl
          have y7 : ∀ j, w6.frozen? ⟨w.heap.size, j, none⟩ = false := Lib.frozen_of_heap e7
          cases hrt : right (1, g, f, p, 0) with
          | true =>
            have hr0 : r = some (1, g, f, p, 0) := by rw [← hre.out, hrt]; rfl
            have hR0 : R = true := by rw [← hR.out, hr0]; rfl
            replace hr0 := Lib.hid hr0
            replace hR0 := Lib.hid hR0
            go_wp2
            refine bodyPost_ret (res65 _ w.heap.size (1, g, f, p, 0) (.bool true) _ rfl rfl (set5_at (e0 := (0, 0, 0, 0, 0)) e7 (1, g, f, p, 0))) rfl ?_
            rw [hr0.out, hR0.out]
            exact ⟨⟨_, rfl, fun t ht => by injection ht with ht; exact ht.symm⟩, set5_below b7 (Nat.le_refl _) (1, g, f, p, 0)⟩
          | false =>
            have hr0 : r = none := by rw [← hre.out, hrt]; rfl
            have hR0 : R = false := by rw [← hR.out, hr0]; rfl
            replace hr0 := Lib.hid hr0
            replace hR0 := Lib.hid hR0
            go_wp2
            refine bodyPost_ret (res65 _ w.heap.size (0, 0, 0, 0, 0) (.bool false) _ rfl rfl (set5_at (e0 := (0, 0, 0, 0, 0)) e7 (0, 0, 0, 0, 0))) rfl ?_
            rw [hr0.out, hR0.out]
            exact ⟨⟨_, rfl, fun t ht => by cases ht⟩, set5_below b7 (Nat.le_refl _) (0, 0, 0, 0, 0)⟩
        · by_cases hc : a = comB ∧ k = 4
          · obtain ⟨hc, rfl⟩ := hc
            obtain ⟨g, f, p, n, rfl⟩ : ∃ g f p n, l = [g, f, p, n] := by
              match l, hll with
              | [g, f, p, n], _ => exact ⟨g, f, p, n, rfl⟩
            have hq' : [g, f, p, n] = [q0, q1, q2, q3] := hq
            simp only [List.cons.injEq, and_true] at hq'
            obtain ⟨rfl, rfl, rfl, rfl⟩ := hq'
            have a2 : a = [99, 111, 109, 109, 105, 116] := hc
            have a1 : ¬(a = [98, 101, 103, 105, 110]) := by rw [a2]; decide
            have hre : (if right (2, g, f, p, n) then some (2, g, f, p, n) else none) = r := by
              rw [← hr.out]
              simp only [tells, hnum, hc, if_true]
            replace hre := Lib.hid hre
            clear hr hnum hq
            go_wp2_with fail
            have n5 := alloc_new wr (evO (2, g, f, p, n))
            have b5 := br.alloc br.size (evO (2, g, f, p, n))
            have er5 : (wr.alloc (evO (2, g, f, p, n))).heap[w.heap.size]? = some zEv := (Below.heap_alloc _ _ _ hlw).trans er
            generalize wr.alloc (evO (2, g, f, p, n)) = w5 at *
            refine (right109 (2, g, f, p, n) _).mono ?_
            rintro q w6 ⟨rfl, b6⟩
            have e6 : w6.heap[wr.heap.size]? = some (evO (2, g, f, p, n)) := (b6.block _ (blk_lt n5)).trans n5
            have e7 : w6.heap[w.heap.size]? = some zEv := (b6.block _ (blk_lt er5)).trans er5
            have b7 := b5.trans (b6.mono b5.size)
            have u0 : w6.cell? ⟨wr.heap.size, 0, none⟩ = some (.int .i64 2) := by rw [Lib.cell_of_heap e6]; rfl
            have o0 : w6.cell? ⟨w.heap.size, 0, none⟩ = some (.int .i64 0) := by rw [Lib.cell_of_heap e7]; rfl
            have u1 : w6.cell? ⟨wr.heap.size, 1, none⟩ = some (.int .i64 g) := by rw [Lib.cell_of_heap e6]; rfl
            have o1 : w6.cell? ⟨w.heap.size, 1, none⟩ = some (.int .i64 0) := by rw [Lib.cell_of_heap e7]; rfl
            have u2 : w6.cell? ⟨wr.heap.size, 2, none⟩ = some (.int .i64 f) := by rw [Lib.cell_of_heap e6]; rfl
            have o2 : w6.cell? ⟨w.heap.size, 2, none⟩ = some (.int .i64 0) := by rw [Lib.cell_of_heap e7]; rfl
            have u3 : w6.cell? ⟨wr.heap.size, 3, none⟩ = some (.int .i64 p) := by rw [Lib.cell_of_heap e6]; rfl
            have o3 : w6.cell? ⟨w.heap.size, 3, none⟩ = some (.int .i64 0) := by rw [Lib.cell_of_heap e7]; rfl
            have u4 : w6.cell? ⟨wr.heap.size, 4, none⟩ = some (.int .i64 n) := by rw [Lib.cell_of_heap e6]; rfl
            have o4 : w6.cell? ⟨w.heap.size, 4, none⟩ = some (.int .i64 0) := by rw [Lib.cell_of_heap e7]; rfl
            have y7 : ∀ j, w6.frozen? ⟨w.heap.size, j, none⟩ = false := Lib.frozen_of_heap e7
            cases hrt : right (2, g, f, p, n) with
            | true =>
              have hr0 : r = some (2, g, f, p, n) := by rw [← hre.out, hrt]; rfl
              have hR0 : R = true := by rw [← hR.out, hr0]; rfl
              replace hr0 := Lib.hid hr0
              replace hR0 := Lib.hid hR0
              go_wp2
              refine bodyPost_ret (res65 _ w.heap.size (2, g, f, p, n) (.bool true) _ rfl rfl (set5_at (e0 := (0, 0, 0, 0, 0)) e7 (2, g, f, p, n))) rfl ?_
              rw [hr0.out, hR0.out]
              exact ⟨⟨_, rfl, fun t ht => by injection ht with ht; exact ht.symm⟩, set5_below b7 (Nat.le_refl _) (2, g, f, p, n)⟩
            | false =>
              have hr0 : r = none := by rw [← hre.out, hrt]; rfl
              have hR0 : R = false := by rw [← hR.out, hr0]; rfl
              replace hr0 := Lib.hid hr0
              replace hR0 := Lib.hid hR0
              go_wp2
              refine bodyPost_ret (res65 _ w.heap.size (0, 0, 0, 0, 0) (.bool false) _ rfl rfl (set5_at (e0 := (0, 0, 0, 0, 0)) e7 (0, 0, 0, 0, 0))) rfl ?_
              rw [hr0.out, hR0.out]
              exact ⟨⟨_, rfl, fun t ht => by cases ht⟩, set5_below b7 (Nat.le_refl _) (0, 0, 0, 0, 0)⟩
          · have hr0 : r = none := by
              rw [← hr.out, tells_len a ws (by rw [hm]; exact ha) (by rw [hm]; exact hc)]
            have hR0 : R = false := by rw [← hR.out, hr0]; rfl
            replace hr0 := Lib.hid hr0
            replace hR0 := Lib.hid hR0
            clear hr hnum hq
            by_cases x1 : a = begB
            · have k3 : ((k : Int) + 1 == 4) = false := by rw [beq_eq_false_iff_ne]; intro e; exact ha ⟨x1, by omega⟩
              have k3' : ((k : Int) == 3) = false := by rw [beq_eq_false_iff_ne]; intro e; exact ha ⟨x1, by omega⟩
              have a1 : a = [98, 101, 103, 105, 110] := x1
              have a2 : ¬(a = [99, 111, 109, 109, 105, 116]) := by rw [a1]; decide
              go_wp2_with fail
              have n5 := alloc_new wr (evO (0, q0, q1, q2, q3))
              have b5 := br.alloc br.size (evO (0, q0, q1, q2, q3))
              have er5 : (wr.alloc (evO (0, q0, q1, q2, q3))).heap[w.heap.size]? = some zEv := (Below.heap_alloc _ _ _ hlw).trans er
              generalize wr.alloc (evO (0, q0, q1, q2, q3)) = w5 at *
              refine (right109 (0, q0, q1, q2, q3) _).mono ?_
              rintro q w6 ⟨rfl, b6⟩
              have e6 : w6.heap[wr.heap.size]? = some (evO (0, q0, q1, q2, q3)) := (b6.block _ (blk_lt n5)).trans n5
              have e7 : w6.heap[w.heap.size]? = some zEv := (b6.block _ (blk_lt er5)).trans er5
              have b7 := b5.trans (b6.mono b5.size)
              have u0 : w6.cell? ⟨wr.heap.size, 0, none⟩ = some (.int .i64 0) := by rw [Lib.cell_of_heap e6]; rfl
              have o0 : w6.cell? ⟨w.heap.size, 0, none⟩ = some (.int .i64 0) := by rw [Lib.cell_of_heap e7]; rfl
              have u1 : w6.cell? ⟨wr.heap.size, 1, none⟩ = some (.int .i64 q0) := by rw [Lib.cell_of_heap e6]; rfl
              have o1 : w6.cell? ⟨w.heap.size, 1, none⟩ = some (.int .i64 0) := by rw [Lib.cell_of_heap e7]; rfl
              have u2 : w6.cell? ⟨wr.heap.size, 2, none⟩ = some (.int .i64 q1) := by rw [Lib.cell_of_heap e6]; rfl
              have o2 : w6.cell? ⟨w.heap.size, 2, none⟩ = some (.int .i64 0) := by rw [Lib.cell_of_heap e7]; rfl
              have u3 : w6.cell? ⟨wr.heap.size, 3, none⟩ = some (.int .i64 q2) := by rw [Lib.cell_of_heap e6]; rfl
              have o3 : w6.cell? ⟨w.heap.size, 3, none⟩ = some (.int .i64 0) := by rw [Lib.cell_of_heap e7]; rfl
              have u4 : w6.cell? ⟨wr.heap.size, 4, none⟩ = some (.int .i64 q3) := by rw [Lib.cell_of_heap e6]; rfl
              have o4 : w6.cell? ⟨w.heap.size, 4, none⟩ = some (.int .i64 0) := by rw [Lib.cell_of_heap e7]; rfl
              have y7 : ∀ j, w6.frozen? ⟨w.heap.size, j, none⟩ = false := Lib.frozen_of_heap e7
              have hrt : right (0, q0, q1, q2, q3) = false := by simp [right]
              rw [hrt]
              go_wp2
              refine bodyPost_ret (res65 _ w.heap.size (0, 0, 0, 0, 0) (.bool false) _ rfl rfl (set5_at (e0 := (0, 0, 0, 0, 0)) e7 (0, 0, 0, 0, 0))) rfl ?_
              rw [hr0.out, hR0.out]
              exact ⟨⟨_, rfl, fun t ht => by cases ht⟩, set5_below b7 (Nat.le_refl _) (0, 0, 0, 0, 0)⟩
            · have a1 : ¬(a = [98, 101, 103, 105, 110]) := x1
              by_cases x2 : a = comB
              · have k4 : ((k : Int) + 1 == 5) = false := by rw [beq_eq_false_iff_ne]; intro e; exact hc ⟨x2, by omega⟩
                have a2 : a = [99, 111, 109, 109, 105, 116] := x2
                go_wp2_with fail
                have n5 := alloc_new wr (evO (0, q0, q1, q2, q3))
                have b5 := br.alloc br.size (evO (0, q0, q1, q2, q3))
                have er5 : (wr.alloc (evO (0, q0, q1, q2, q3))).heap[w.heap.size]? = some zEv := (Below.heap_alloc _ _ _ hlw).trans er
                generalize wr.alloc (evO (0, q0, q1, q2, q3)) = w5 at *
                refine (right109 (0, q0, q1, q2, q3) _).mono ?_
                rintro q w6 ⟨rfl, b6⟩
                have e6 : w6.heap[wr.heap.size]? = some (evO (0, q0, q1, q2, q3)) := (b6.block _ (blk_lt n5)).trans n5
                have e7 : w6.heap[w.heap.size]? = some zEv := (b6.block _ (blk_lt er5)).trans er5
                have b7 := b5.trans (b6.mono b5.size)
                have u0 : w6.cell? ⟨wr.heap.size, 0, none⟩ = some (.int .i64 0) := by rw [Lib.cell_of_heap e6]; rfl
                have o0 : w6.cell? ⟨w.heap.size, 0, none⟩ = some (.int .i64 0) := by rw [Lib.cell_of_heap e7]; rfl
                have u1 : w6.cell? ⟨wr.heap.size, 1, none⟩ = some (.int .i64 q0) := by rw [Lib.cell_of_heap e6]; rfl
                have o1 : w6.cell? ⟨w.heap.size, 1, none⟩ = some (.int .i64 0) := by rw [Lib.cell_of_heap e7]; rfl
                have u2 : w6.cell? ⟨wr.heap.size, 2, none⟩ = some (.int .i64 q1) := by rw [Lib.cell_of_heap e6]; rfl
                have o2 : w6.cell? ⟨w.heap.size, 2, none⟩ = some (.int .i64 0) := by rw [Lib.cell_of_heap e7]; rfl
                have u3 : w6.cell? ⟨wr.heap.size, 3, none⟩ = some (.int .i64 q2) := by rw [Lib.cell_of_heap e6]; rfl
                have o3 : w6.cell? ⟨w.heap.size, 3, none⟩ = some (.int .i64 0) := by rw [Lib.cell_of_heap e7]; rfl
                have u4 : w6.cell? ⟨wr.heap.size, 4, none⟩ = some (.int .i64 q3) := by rw [Lib.cell_of_heap e6]; rfl
                have o4 : w6.cell? ⟨w.heap.size, 4, none⟩ = some (.int .i64 0) := by rw [Lib.cell_of_heap e7]; rfl
                have y7 : ∀ j, w6.frozen? ⟨w.heap.size, j, none⟩ = false := Lib.frozen_of_heap e7
                have hrt : right (0, q0, q1, q2, q3) = false := by simp [right]
                rw [hrt]
                go_wp2
                refine bodyPost_ret (res65 _ w.heap.size (0, 0, 0, 0, 0) (.bool false) _ rfl rfl (set5_at (e0 := (0, 0, 0, 0, 0)) e7 (0, 0, 0, 0, 0))) rfl ?_
                rw [hr0.out, hR0.out]
                exact ⟨⟨_, rfl, fun t ht => by cases ht⟩, set5_below b7 (Nat.le_refl _) (0, 0, 0, 0, 0)⟩
              · have a2 : ¬(a = [99, 111, 109, 109, 105, 116]) := x2
                go_wp2_with fail
                have n5 := alloc_new wr (evO (0, q0, q1, q2, q3))
                have b5 := br.alloc br.size (evO (0, q0, q1, q2, q3))
                have er5 : (wr.alloc (evO (0, q0, q1, q2, q3))).heap[w.heap.size]? = some zEv := (Below.heap_alloc _ _ _ hlw).trans er
                generalize wr.alloc (evO (0, q0, q1, q2, q3)) = w5 at *
                refine (right109 (0, q0, q1, q2, q3) _).mono ?_
                rintro q w6 ⟨rfl, b6⟩
                have e6 : w6.heap[wr.heap.size]? = some (evO (0, q0, q1, q2, q3)) := (b6.block _ (blk_lt n5)).trans n5
                have e7 : w6.heap[w.heap.size]? = some zEv := (b6.block _ (blk_lt er5)).trans er5
                have b7 := b5.trans (b6.mono b5.size)
                have u0 : w6.cell? ⟨wr.heap.size, 0, none⟩ = some (.int .i64 0) := by rw [Lib.cell_of_heap e6]; rfl
                have o0 : w6.cell? ⟨w.heap.size, 0, none⟩ = some (.int .i64 0) := by rw [Lib.cell_of_heap e7]; rfl
                have u1 : w6.cell? ⟨wr.heap.size, 1, none⟩ = some (.int .i64 q0) := by rw [Lib.cell_of_heap e6]; rfl
                have o1 : w6.cell? ⟨w.heap.size, 1, none⟩ = some (.int .i64 0) := by rw [Lib.cell_of_heap e7]; rfl
                have u2 : w6.cell? ⟨wr.heap.size, 2, none⟩ = some (.int .i64 q1) := by rw [Lib.cell_of_heap e6]; rfl
                have o2 : w6.cell? ⟨w.heap.size, 2, none⟩ = some (.int .i64 0) := by rw [Lib.cell_of_heap e7]; rfl
                have u3 : w6.cell? ⟨wr.heap.size, 3, none⟩ = some (.int .i64 q2) := by rw [Lib.cell_of_heap e6]; rfl
                have o3 : w6.cell? ⟨w.heap.size, 3, none⟩ = some (.int .i64 0) := by rw [Lib.cell_of_heap e7]; rfl
                have u4 : w6.cell? ⟨wr.heap.size, 4, none⟩ = some (.int .i64 q3) := by rw [Lib.cell_of_heap e6]; rfl
                have o4 : w6.cell? ⟨w.heap.size, 4, none⟩ = some (.int .i64 0) := by rw [Lib.cell_of_heap e7]; rfl
                have y7 : ∀ j, w6.frozen? ⟨w.heap.size, j, none⟩ = false := Lib.frozen_of_heap e7
                have hrt : right (0, q0, q1, q2, q3) = false := by simp [right]
                rw [hrt]
                go_wp2
                refine bodyPost_ret (res65 _ w.heap.size (0, 0, 0, 0, 0) (.bool false) _ rfl rfl (set5_at (e0 := (0, 0, 0, 0, 0)) e7 (0, 0, 0, 0, 0))) rfl ?_
                rw [hr0.out, hR0.out]
                exact ⟨⟨_, rfl, fun t ht => by cases ht⟩, set5_below b7 (Nat.le_refl _) (0, 0, 0, 0, 0)⟩
end Go.Proofs.YthndenpgkdjkiaaDoor
