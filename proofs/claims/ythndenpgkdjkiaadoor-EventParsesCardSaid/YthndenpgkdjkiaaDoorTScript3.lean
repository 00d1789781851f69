import Derived.Test.YthndenpgkdjkiaaDoorTScript2
namespace Go.Proofs.YthndenpgkdjkiaaDoor
open Go.Shelf Go.RowKit Go.Sort
set_option linter.unusedVariables false
set_option maxRecDepth 100000

abbrev B (l : Bs) : ByteArray := ⟨l.toArray⟩
theorem B_data (s : ByteArray) : B s.data.toList = s := by apply ByteArray.ext; simp
def strVals (ws : List Bs) : Array Value := (ws.map fun b => Value.string (B b)).toArray
theorem split103 (s : Bs) (x : UInt8) (hs : s.length < 4294967281) (w : World) (he : Env w) :
    Calls Tryd.prog 103 #[.string (B s), .string (B [x])] w fun e w' =>
      e = .returned (.slice (some ⟨w.heap.size, 0, none⟩) (sp x s).length (sp x s).length) ∧ w' = w.alloc (.cells (strVals (sp x s)) 9) := by
  obtain ⟨m, hm⟩ := he.mx
  have h1 : 1 ≤ (B [x]).size := by show 1 ≤ [x].toArray.size; simp
  refine (Tryd.strings_Split (B s) (B [x]) m w (by show s.toArray.size < _; simpa using hs) hm h1).mono ?_
  rintro e w' ⟨rfl, rfl⟩
  have hd := Lib.splitB_data (B [x]) 0 (Lib.countB (B s) (B [x])) (B s)
  have hk : Lib.splitK (B [x]).data.toList 0 (Lib.countB (B s) (B [x])) (B s).data.toList = sp x s := splitK_eq x s
  rw [hk] at hd
  have hl : (sp x s).length = Lib.countB (B s) (B [x]) + 1 := by
    rw [← hd, List.length_map, Lib.splitB_all _ h1 _ _ _ rfl]
  rw [hl]
  refine ⟨by push_cast; rfl, ?_⟩
  congr 3
  rw [← hd, List.map_map]
  apply List.map_congr_left
  intro b _
  simp only [Function.comp, B_data]
theorem cut56 (s : Bs) (x : UInt8) (hs : s.length < 4294967281) (w : World) (he : Env w) :
    Calls Tryd.prog 56 #[.string (B s), .string (B [x])] w fun e w' =>
      e = .returned (.tuple #[.string (B (cutOn x s).1), .string (B (cutOn x s).2.1), .bool (cutOn x s).2.2]) ∧ Below w.heap.size w w' := by
  obtain ⟨m, hm⟩ := he.mx
  refine (Tryd.strings_Cut (B s) (B [x]) m w (by show s.toArray.size < _; simpa using hs) hm).mono ?_
  rintro e w' ⟨rfl, n, rfl⟩
  rw [show Lib.cut (B s).data.toList (B [x]).data.toList = cutOn x s from cut_eq x s]
  exact ⟨rfl, ⟨rfl, rfl, rfl, Nat.le_refl _, fun i hi => rfl⟩⟩
theorem number39' (s : Bs) (w : World) (hsz : s.length ≤ 4294967280) :
    Calls Tryd.prog 39 #[.string (B s)] w fun e w' => e = .returned (.tuple #[.int .i64 ((number s).getD 0), .bool (number s).isSome]) ∧ Below w.heap.size w w' :=
  number39 (B s) w (by show s.toArray.size ≤ _; simpa using hsz)

/-- Three numbers, one space between. -/
def three (s : Bs) : Option (Int × Int × Int) :=
  match sp 32 s with
  | [a, b, c] => match number a, number b, number c with
    | some x, some y, some z => some (x, y, z)
    | _, _, _ => none
  | _ => none
/-- A block of three numbers. -/
abbrev Is3 (bl T : Nat) (x y z : Int) (w : World) : Prop := w.heap[bl]? = some (.cells #[.int .i64 x, .int .i64 y, .int .i64 z] T (0, 0))
theorem sp_len (x : UInt8) (s : Bs) : ∀ b ∈ sp x s, b.length ≤ s.length := by
  induction s with
  | nil => simp [sp]
  | cons c t ih =>
    by_cases h : c = x
    · subst h
      rw [sp, if_pos rfl]
      intro b hb
      rcases List.mem_cons.1 hb with rfl | hb
      · simp
      · have := ih b hb; simp; omega
    · obtain ⟨a, r, h1, h2⟩ := sp_cons_ne x c t h
      rw [h2]
      rw [h1] at ih
      intro b hb
      rcases List.mem_cons.1 hb with rfl | hb
      · have := ih a (by simp); simp; omega
      · have := ih b (by simp [hb]); simp; omega
theorem blk_lt {w : World} {b : Nat} {o : Obj} (h : w.heap[b]? = some o) : b < w.heap.size := by
  rcases Nat.lt_or_ge b w.heap.size with h' | h'
  · exact h'
  · simp [Array.getElem?_eq_none h'] at h
theorem cells_set {w : World} {g : Nat} {t : TypeId} {cs : Array Value} (h : w.heap[g]? = some (.cells cs t (0, 0))) (i : Nat) (u : Value) : (w.setCell ⟨g, i, none⟩ u).heap[g]? = some (.cells (cs.setIfInBounds i u) t (0, 0)) := by
  simp [World.setCell, Array.getElem?_modify, h]
theorem alloc_new (w : World) (o : Obj) : (w.alloc o).heap[w.heap.size]? = some o := by
  show (w.heap.push o)[w.heap.size]? = some o
  exact Array.getElem?_push_size
theorem Is3.below {bl T : Nat} {x y z : Int} {w w' : World} {BB : Nat} (h : Is3 bl T x y z w) (hb : Below BB w w') (hlt : bl < BB) : Is3 bl T x y z w' := (hb.block bl hlt).trans h
theorem Is3.c0 {bl T : Nat} {x y z : Int} {w : World} (h : Is3 bl T x y z w) : w.cell? ⟨bl, 0, none⟩ = some (.int .i64 x) := by rw [Lib.cell_of_heap h]; rfl
theorem Is3.c1 {bl T : Nat} {x y z : Int} {w : World} (h : Is3 bl T x y z w) : w.cell? ⟨bl, 1, none⟩ = some (.int .i64 y) := by rw [Lib.cell_of_heap h]; rfl
theorem Is3.c2 {bl T : Nat} {x y z : Int} {w : World} (h : Is3 bl T x y z w) : w.cell? ⟨bl, 2, none⟩ = some (.int .i64 z) := by rw [Lib.cell_of_heap h]; rfl
theorem Is3.f {bl T : Nat} {x y z : Int} {w : World} (h : Is3 bl T x y z w) (i : Nat) : w.frozen? ⟨bl, i, none⟩ = false := Lib.frozen_of_heap h i
theorem Is3.s0 {bl T : Nat} {x y z : Int} {w : World} (h : Is3 bl T x y z w) (u : Int) : Is3 bl T u y z (w.setCell ⟨bl, 0, none⟩ (.int .i64 u)) := cells_set h 0 _
theorem Is3.s1 {bl T : Nat} {x y z : Int} {w : World} (h : Is3 bl T x y z w) (u : Int) : Is3 bl T x u z (w.setCell ⟨bl, 1, none⟩ (.int .i64 u)) := cells_set h 1 _
theorem Is3.s2 {bl T : Nat} {x y z : Int} {w : World} (h : Is3 bl T x y z w) (u : Int) : Is3 bl T x y u (w.setCell ⟨bl, 2, none⟩ (.int .i64 u)) := cells_set h 2 _
set_option maxHeartbeats 1000000 in
theorem three57_len (s : Bs) (hs : s.length < 4294967281) (hl : (sp 32 s).length ≠ 3) (w : World) (he : Env w) (v : Value) (hv : ∃ p q r : Option Addr, v = .agg #[.pointer p, .pointer q, .pointer r]) :
    Calls Tryd.prog 57 #[.string (B s), v] w fun e w' => e = .returned (.bool false) ∧ Below w.heap.size w w' := by
  obtain ⟨p, q, r, rfl⟩ := hv
  have hn : ((sp 32 s).length : Int) != 3 := by rw [bne_iff_ne]; omega
  go_enter Tryd.func57, Tryd.ntmps57
  go_wp2_with fail
  refine (split103 s 32 hs _ (he.below ((Below.refl w.heap.size w).alloc (Nat.le_refl _) _))).mono ?_
  rintro e w1 ⟨rfl, rfl⟩
  go_wp2
  go_ret
  exact ⟨rfl, ((Below.refl w.heap.size w).alloc (Nat.le_refl _) _).alloc (by rw [World.size_alloc]; omega) _⟩
set_option maxHeartbeats 1000000 in
theorem three57_go (s a b c : Bs) (t3 : Option (Int × Int × Int)) (ht3 : t3 = three s) (hs : s.length < 4294967281) (hsp : sp 32 s = [a, b, c]) (w : World) (he : Env w) (BB bl T : Nat) (x0 y0 z0 : Int) (hbl : Is3 bl T x0 y0 z0 w) (hB : BB ≤ bl) (hB2 : BB ≤ w.heap.size) :
    Calls Tryd.prog 57 #[.string (B s), .agg #[.pointer (some ⟨bl, 0, none⟩), .pointer (some ⟨bl, 1, none⟩), .pointer (some ⟨bl, 2, none⟩)]] w fun e w' => e = .returned (.bool t3.isSome) ∧ (∃ x y z, Is3 bl T x y z w' ∧ ∀ t, t3 = some t → t = (x, y, z)) ∧ Below BB w w' := by
  have hlen := sp_len 32 s
  have hla : a.length ≤ s.length := hlen a (by simp [hsp])
  have hlb : b.length ≤ s.length := hlen b (by simp [hsp])
  have hlc : c.length ≤ s.length := hlen c (by simp [hsp])
  clear hlen
  unfold three at ht3
  rw [hsp] at ht3
  simp only at ht3
  go_enter Tryd.func57, Tryd.ntmps57
  go_wp2_with fail
  refine (split103 s 32 hs _ (he.below ((Below.refl w.heap.size w).alloc (Nat.le_refl _) _))).mono ?_
  rintro e w1 ⟨rfl, hw⟩
  rw [hsp] at hw ⊢
  obtain ⟨g, hg⟩ : ∃ g, (w.alloc (.cells #[.pointer (some ⟨bl, 0, none⟩), .pointer (some ⟨bl, 1, none⟩), .pointer (some ⟨bl, 2, none⟩)] 88)).heap.size = g := ⟨_, rfl⟩
  have hgw : g = w.heap.size + 1 := by rw [← hg, World.size_alloc]
  have hbllt : bl < w.heap.size := blk_lt hbl
  have b1 : Below BB w w1 := by
    rw [hw]
    exact ((Below.refl BB w).alloc hB2 _).alloc (by rw [World.size_alloc]; omega) _
  have hbl1 : Is3 bl T x0 y0 z0 w1 := by
    refine hbl.below (BB := w.heap.size) ?_ hbllt
    rw [hw]
    exact ((Below.refl _ w).alloc (Nat.le_refl _) _).alloc (by rw [World.size_alloc]; omega) _
  have hws : w1.heap[g]? = some (.cells #[.string (B a), .string (B b), .string (B c)] 9 (0, 0)) := by
    rw [hw, ← hg]
    exact alloc_new _ _
  have hps : w1.heap[w.heap.size]? = some (.cells #[.pointer (some ⟨bl, 0, none⟩), .pointer (some ⟨bl, 1, none⟩), .pointer (some ⟨bl, 2, none⟩)] 88 (0, 0)) := by
    rw [hw, Below.heap_alloc _ _ _ (by rw [World.size_alloc]; omega)]
    exact alloc_new _ _
  have p0 : w1.cell? ⟨w.heap.size, 0, none⟩ = some (.pointer (some ⟨bl, 0, none⟩)) := by rw [Lib.cell_of_heap hps]; rfl
  have p1 : w1.cell? ⟨w.heap.size, 1, none⟩ = some (.pointer (some ⟨bl, 1, none⟩)) := by rw [Lib.cell_of_heap hps]; rfl
  have p2 : w1.cell? ⟨w.heap.size, 2, none⟩ = some (.pointer (some ⟨bl, 2, none⟩)) := by rw [Lib.cell_of_heap hps]; rfl
  have s0 : w1.cell? ⟨g, 0, none⟩ = some (.string (B a)) := by rw [Lib.cell_of_heap hws]; rfl
  have s1 : w1.cell? ⟨g, 1, none⟩ = some (.string (B b)) := by rw [Lib.cell_of_heap hws]; rfl
  have s2 : w1.cell? ⟨g, 2, none⟩ = some (.string (B c)) := by rw [Lib.cell_of_heap hws]; rfl
  have c0 : w1.cell? ⟨bl, 0, none⟩ = some (.int .i64 x0) := hbl1.c0
  have f0 : w1.frozen? ⟨bl, 0, none⟩ = false := hbl1.f 0
  have i0 : ∀ w : World, (Instr.index 88 (.agg #[.pointer (some ⟨bl, 0, none⟩), .pointer (some ⟨bl, 1, none⟩), .pointer (some ⟨bl, 2, none⟩)]) (.int .i64 0)).run Tryd.prog w = .ok (.pointer (some ⟨bl, 0, none⟩)) w := fun _ => by kernel_rfl
  have i1 : ∀ w : World, (Instr.index 88 (.agg #[.pointer (some ⟨bl, 0, none⟩), .pointer (some ⟨bl, 1, none⟩), .pointer (some ⟨bl, 2, none⟩)]) (.int .i64 1)).run Tryd.prog w = .ok (.pointer (some ⟨bl, 1, none⟩)) w := fun _ => by kernel_rfl
  have i2 : ∀ w : World, (Instr.index 88 (.agg #[.pointer (some ⟨bl, 0, none⟩), .pointer (some ⟨bl, 1, none⟩), .pointer (some ⟨bl, 2, none⟩)]) (.int .i64 2)).run Tryd.prog w = .ok (.pointer (some ⟨bl, 2, none⟩)) w := fun _ => by kernel_rfl
  have hl3 : ([a, b, c] : List Bs).length = 3 := rfl
  rw [hl3, hg]
  clear hg
  subst hgw
  replace hw := Lib.hid hw
  have hlt1 : w.heap.size + 1 < w1.heap.size := World.block_lt_of_cell? w1 _ s0
  go_wp2
  refine wp_loop_rounds 4 ?_
  rw [rounds_succ]
  go_wp2_with fail
  refine (number39' a _ (by omega)).mono ?_
  rintro e w2 ⟨rfl, hb2⟩
  have hbl2 := hbl1.below hb2 (by omega)
  have c0 := hbl2.c0
  have f0 := hbl2.f 0
  have b2 := b1.trans (hb2.mono (by have := b1.size; omega))
  replace s1 := (hb2.cell (p := ⟨w.heap.size + 1, 1, none⟩) hlt1).trans s1
  replace s2 := (hb2.cell (p := ⟨w.heap.size + 1, 2, none⟩) hlt1).trans s2
  have hne : w.heap.size + 1 ≠ bl := by omega
  cases na : number a with
  | none =>
    rw [na] at ht3
    replace ht3 := Lib.hid ht3
    go_wp2
    go_ret
    exact ⟨by rw [ht3.out]; rfl, ⟨_, _, _, hbl2, fun t ht => by rw [ht3.out] at ht; cases ht⟩, b2⟩
  | some x =>
    go_wp2
    obtain ⟨w3, hw3⟩ : ∃ w3, w2.setCell ⟨bl, 0, none⟩ (.int .i64 ((some x).getD 0)) = w3 := ⟨_, rfl⟩
    rw [Option.getD_some] at hw3
    rw [hw3]
    have hbl3 : Is3 bl T x y0 z0 w3 := by rw [← hw3]; exact hbl2.s0 x
    have b3 : Below BB w w3 := by rw [← hw3]; exact b2.setCell hB _
    have t1 : w3.cell? ⟨w.heap.size + 1, 1, none⟩ = some (.string (B b)) := by rw [← hw3]; exact (World.cell?_of_block (Below.heap_setCell _ _ _ _ hne)).trans s1
    have t2 : w3.cell? ⟨w.heap.size + 1, 2, none⟩ = some (.string (B c)) := by rw [← hw3]; exact (World.cell?_of_block (Below.heap_setCell _ _ _ _ hne)).trans s2
    have hlt3 : w.heap.size + 1 < w3.heap.size := World.block_lt_of_cell? w3 _ t1
    replace hw3 := Lib.hid hw3
    rw [rounds_succ]
    go_wp2_with fail
    refine (number39' b _ (by omega)).mono ?_
    rintro e w4 ⟨rfl, hb4⟩
    have hbl4 := hbl3.below hb4 (by omega)
    have d1 := hbl4.c1
    have g1 := hbl4.f 1
    have b4 := b3.trans (hb4.mono (by have := b3.size; omega))
    replace t2 := (hb4.cell (p := ⟨w.heap.size + 1, 2, none⟩) hlt3).trans t2
    cases nb : number b with
    | none =>
      rw [na, nb] at ht3
      replace ht3 := Lib.hid ht3
      go_wp2
      go_ret
      exact ⟨by rw [ht3.out]; rfl, ⟨_, _, _, hbl4, fun t ht => by rw [ht3.out] at ht; cases ht⟩, b4⟩
    | some y =>
      go_wp2
      obtain ⟨w5, hw5⟩ : ∃ w5, w4.setCell ⟨bl, 1, none⟩ (.int .i64 ((some y).getD 0)) = w5 := ⟨_, rfl⟩
      rw [Option.getD_some] at hw5
      rw [hw5]
      have hbl5 : Is3 bl T x y z0 w5 := by rw [← hw5]; exact hbl4.s1 y
      have b5 : Below BB w w5 := by rw [← hw5]; exact b4.setCell hB _
      have u2 : w5.cell? ⟨w.heap.size + 1, 2, none⟩ = some (.string (B c)) := by rw [← hw5]; exact (World.cell?_of_block (Below.heap_setCell _ _ _ _ hne)).trans t2
      have hlt5 : w.heap.size + 1 < w5.heap.size := World.block_lt_of_cell? w5 _ u2
      replace hw5 := Lib.hid hw5
      rw [rounds_succ]
      go_wp2_with fail
      refine (number39' c _ (by omega)).mono ?_
      rintro e w6 ⟨rfl, hb6⟩
      have hbl6 := hbl5.below hb6 (by omega)
      have e1 := hbl6.c2
      have j1 := hbl6.f 2
      have b6 := b5.trans (hb6.mono (by have := b5.size; omega))
      cases nc : number c with
      | none =>
        rw [na, nb, nc] at ht3
        replace ht3 := Lib.hid ht3
        go_wp2
        go_ret
        exact ⟨by rw [ht3.out]; rfl, ⟨_, _, _, hbl6, fun t ht => by rw [ht3.out] at ht; cases ht⟩, b6⟩
      | some z =>
        rw [na, nb, nc] at ht3
        replace ht3 := Lib.hid ht3
        go_wp2
        rw [rounds_succ]
        go_wp2
        go_ret
        exact ⟨by rw [ht3.out]; rfl, ⟨_, _, _, hbl6.s2 z, fun t ht => by rw [ht3.out] at ht; injection ht with ht; exact ht.symm⟩, b6.setCell hB _⟩
theorem three_len (s : Bs) (h : (sp 32 s).length ≠ 3) : three s = none := by
  unfold three
  match hs : sp 32 s with
  | [a, b, c] => rw [hs] at h; simp at h
  | [] => rfl
  | [a] => rfl
  | [a, b] => rfl
  | a :: b :: c :: d :: r => rfl
theorem three57 (s : Bs) (hs : s.length < 4294967281) (w : World) (he : Env w) (BB bl T : Nat) (x0 y0 z0 : Int) (hbl : Is3 bl T x0 y0 z0 w) (hB : BB ≤ bl) (hB2 : BB ≤ w.heap.size) :
    Calls Tryd.prog 57 #[.string (B s), .agg #[.pointer (some ⟨bl, 0, none⟩), .pointer (some ⟨bl, 1, none⟩), .pointer (some ⟨bl, 2, none⟩)]] w fun e w' => e = .returned (.bool (three s).isSome) ∧ (∃ x y z, Is3 bl T x y z w' ∧ ∀ t, three s = some t → t = (x, y, z)) ∧ Below BB w w' := by
  by_cases hl : (sp 32 s).length = 3
  · obtain ⟨a, b, c, h⟩ : ∃ a b c, sp 32 s = [a, b, c] := by
      match hs : sp 32 s with
      | [a, b, c] => exact ⟨a, b, c, rfl⟩
      | [] => rw [hs] at hl; simp at hl
      | [a] => rw [hs] at hl; simp at hl
      | [a, b] => rw [hs] at hl; simp at hl
      | a :: b :: c :: d :: r => rw [hs] at hl; simp at hl
    exact three57_go s a b c _ rfl hs h w he BB bl T x0 y0 z0 hbl hB hB2
  · refine (three57_len s hs hl w he _ ⟨_, _, _, rfl⟩).mono ?_
    rintro e w' ⟨rfl, hb⟩
    have hn := three_len s hl
    exact ⟨by rw [hn]; rfl, ⟨x0, y0, z0, hbl.below hb (blk_lt hbl), fun t ht => by rw [hn] at ht; cases ht⟩, hb.mono hB2⟩
end Go.Proofs.YthndenpgkdjkiaaDoor
