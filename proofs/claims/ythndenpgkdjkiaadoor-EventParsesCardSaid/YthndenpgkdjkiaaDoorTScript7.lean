import Derived.Test.YthndenpgkdjkiaaDoorTScript6
namespace Go.Proofs.YthndenpgkdjkiaaDoor
open Go.Shelf Go.RowKit Go.Sort
set_option linter.unusedVariables false
set_option maxRecDepth 100000

theorem words17_no (a b c : Int) (h : ¬confOk a b c) (w : World) : Calls Tryd.prog 17 #[.agg #[.int .i64 a, .int .i64 b, .int .i64 c]] w fun e w' => e = .returned (.string (B [])) ∧ Below w.heap.size w w' := by
  have hb := (Below.refl w.heap.size w).alloc (Nat.le_refl _) (.cells #[.int .i64 a, .int .i64 b, .int .i64 c] 24 (0, 0))
  have hc := conf62 a b c (w.alloc (.cells #[.int .i64 a, .int .i64 b, .int .i64 c] 24 (0, 0)))
  rw [if_neg h] at hc
  go_enter Tryd.func17, Tryd.ntmps17
  go_wp2_with fail
  refine hc.mono ?_
  rintro e w1 ⟨rfl, h1⟩
  go_wp2
  go_ret
  exact ⟨rfl, hb.trans (h1.mono hb.size)⟩
theorem confOk_in {a b c : Int} (h : confOk a b c) : inI a ∧ inI b ∧ inI c := by
  obtain ⟨⟨h1, h2⟩, ⟨h3, h4⟩, h5, h6⟩ := h
  unfold inI
  refine ⟨⟨?_, ?_⟩, ⟨?_, ?_⟩, ?_, ?_⟩ <;> omega
theorem words17_yes (a b c : Int) (h : confOk a b c) (w : World) (he : Env w) : Calls Tryd.prog 17 #[.agg #[.int .i64 a, .int .i64 b, .int .i64 c]] w fun e w' => e = .returned (.string (B (lineOf a b c))) ∧ Below w.heap.size w w' := by
  have hb := (Below.refl w.heap.size w).alloc (Nat.le_refl _) (.cells #[.int .i64 a, .int .i64 b, .int .i64 c] 24 (0, 0))
  have hn := alloc_new w (.cells #[.int .i64 a, .int .i64 b, .int .i64 c] 24 (0, 0))
  have hz : (w.alloc (.cells #[.int .i64 a, .int .i64 b, .int .i64 c] 24 (0, 0))).heap.size = w.heap.size + 1 := World.size_alloc ..
  have hc := conf62 a b c (w.alloc (.cells #[.int .i64 a, .int .i64 b, .int .i64 c] 24 (0, 0)))
  rw [if_pos h] at hc
  have hi := confOk_in h
  clear h
  go_enter Tryd.func17, Tryd.ntmps17
  go_wp2_with fail
  refine hc.mono ?_
  rintro e w1 ⟨rfl, h1⟩
  have h3 : Is3 w.heap.size 24 a b c w1 := Is3.below (w := w.alloc (.cells #[.int .i64 a, .int .i64 b, .int .i64 c] 24 (0, 0))) hn h1 (by omega)
  have c0 := h3.c0
  have c1 := h3.c1
  have c2 := h3.c2
  have b1 := hb.trans (h1.mono hb.size)
  go_wp2_with fail
  refine (line59 a b c hi.1 hi.2.1 hi.2.2 w1 (he.below b1)).mono ?_
  rintro e w2 ⟨rfl, h2⟩
  go_wp2
  go_ret
  exact ⟨rfl, b1.trans (h2.mono b1.size)⟩
theorem words17 (a b c : Int) (w : World) (he : Env w) : Calls Tryd.prog 17 #[.agg #[.int .i64 a, .int .i64 b, .int .i64 c]] w fun e w' => e = .returned (.string (B (if confOk a b c then lineOf a b c else []))) ∧ Below w.heap.size w w' := by
  by_cases h : confOk a b c
  · rw [if_pos h]; exact words17_yes a b c h w he
  · rw [if_neg h]; exact words17_no a b c h w
def conf18' (s : Bs) : Option Ent := match three s with
  | some t => if confOk t.1 t.2.1 t.2.2 then some t else none
  | none => none
theorem res18 (tmps : Array Value) (b : Nat) (x y z : Int) (v : Value) (w : World) (hp : tmps.getD 2 undef = .pointer (some ⟨b, 0, none⟩)) (hv : tmps.getD 3 undef = v) (h : Is3 b 24 x y z w) :
    (results Tryd.f18 tmps).run Tryd.prog w = .ok (.tuple #[.agg #[.int .i64 x, .int .i64 y, .int .i64 z], v]) w := by
  have c0 := h.c0
  have c1 := h.c1
  have c2 := h.c2
  have a24 := Tryd.isAgg24
  have z24 := Tryd.sizeOf24
  have hr : Tryd.f18.results = #[.cell 2 24, .tmp 3] := rfl
  unfold results
  rw [hr]
  go_simp
  have hp' : tmps[2]?.getD undef = .pointer (some ⟨b, 0, none⟩) := by simpa using hp
  have hv' : tmps[3]?.getD undef = v := by simpa using hv
  rw [hp', hv']
  go_simp
theorem conf18 (s : Bs) (hs : s.length < 4294967281) (w : World) (he : Env w) : Calls Tryd.prog 18 #[.string (B s)] w fun e w' =>
    (∃ x y z : Int, e = .returned (.tuple #[.agg #[.int .i64 x, .int .i64 y, .int .i64 z], .bool (conf18' s).isSome]) ∧ ∀ t, conf18' s = some t → t = (x, y, z)) ∧ Below w.heap.size w w' := by
  have hb := (Below.refl w.heap.size w).alloc (Nat.le_refl _) (.cells #[.int .i64 0, .int .i64 0, .int .i64 0] 24 (0, 0))
  have hn := alloc_new w (.cells #[.int .i64 0, .int .i64 0, .int .i64 0] 24 (0, 0))
  have hz : (w.alloc (.cells #[.int .i64 0, .int .i64 0, .int .i64 0] 24 (0, 0))).heap.size = w.heap.size + 1 := World.size_alloc ..
  have ht := three57 s hs (w.alloc (.cells #[.int .i64 0, .int .i64 0, .int .i64 0] 24 (0, 0))) (he.below hb) w.heap.size w.heap.size 24 0 0 0 hn (Nat.le_refl _) (by omega)
  obtain ⟨r, hr⟩ : ∃ r, r = conf18' s := ⟨_, rfl⟩
  rw [← hr]
  unfold conf18' at hr
  go_enter Tryd.func18, Tryd.ntmps18
  go_wp2_with fail
  refine ht.mono ?_
  rintro e w1 ⟨rfl, ⟨x, y, z, h1, hxy⟩, b1⟩
  have c0 := h1.c0
  have c1 := h1.c1
  have c2 := h1.c2
  have f0 := h1.f 0
  have f1 := h1.f 1
  have f2 := h1.f 2
  have hlt : w.heap.size < w1.heap.size := blk_lt h1
  have hb1 := hb.trans b1
  cases h3 : three s with
  | none =>
    rw [h3] at hr
    replace hr := Lib.hid hr
    go_wp2
    refine bodyPost_ret (res18 _ w.heap.size 0 0 0 (.bool false) _ rfl rfl (((h1.s0 0).s1 0).s2 0)) rfl ?_
    rw [hr.out]
    exact ⟨⟨_, _, _, rfl, fun t ht => by cases ht⟩, ((hb1.setCell (p := ⟨w.heap.size, 0, none⟩) (Nat.le_refl _) _).setCell (p := ⟨w.heap.size, 1, none⟩) (Nat.le_refl _) _).setCell (p := ⟨w.heap.size, 2, none⟩) (Nat.le_refl _) _⟩
  | some t =>
    obtain rfl := hxy t h3
    rw [h3] at hr
    simp only at hr
    go_wp2_with fail
    refine (conf62 x y z _).mono ?_
    rintro e w2 ⟨rfl, b2⟩
    have h2 := h1.below b2 hlt
    have hb2 := hb1.trans (b2.mono hb1.size)
    have c0 := h2.c0
    have c1 := h2.c1
    have c2 := h2.c2
    have f0 := h2.f 0
    have f1 := h2.f 1
    have f2 := h2.f 2
    by_cases hc : confOk x y z
    · rw [if_pos hc] at hr
      rw [if_pos hc]
      replace hr := Lib.hid hr
      go_wp2
      refine bodyPost_ret (res18 _ w.heap.size x y z (.bool true) _ rfl rfl (((h2.s0 x).s1 y).s2 z)) rfl ?_
      rw [hr.out]
      exact ⟨⟨_, _, _, rfl, fun t ht => by injection ht with ht; exact ht.symm⟩, ((hb2.setCell (p := ⟨w.heap.size, 0, none⟩) (Nat.le_refl _) _).setCell (p := ⟨w.heap.size, 1, none⟩) (Nat.le_refl _) _).setCell (p := ⟨w.heap.size, 2, none⟩) (Nat.le_refl _) _⟩
    · rw [if_neg hc] at hr
      rw [if_neg hc]
      replace hr := Lib.hid hr
      go_wp2
      refine bodyPost_ret (res18 _ w.heap.size 0 0 0 (.bool false) _ rfl rfl (((h2.s0 0).s1 0).s2 0)) rfl ?_
      rw [hr.out]
      exact ⟨⟨_, _, _, rfl, fun t ht => by cases ht⟩, ((hb2.setCell (p := ⟨w.heap.size, 0, none⟩) (Nat.le_refl _) _).setCell (p := ⟨w.heap.size, 1, none⟩) (Nat.le_refl _) _).setCell (p := ⟨w.heap.size, 2, none⟩) (Nat.le_refl _) _⟩
end Go.Proofs.YthndenpgkdjkiaaDoor
