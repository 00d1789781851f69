import Derived.Test.YthndenpgkdjkiaaDoorTScript4
namespace Go.Proofs.YthndenpgkdjkiaaDoor
open Go.Shelf Go.RowKit Go.Sort
set_option linter.unusedVariables false
set_option maxRecDepth 100000

theorem add_one (a : Addr) (n j : Nat) : a.add (n + (j + 1)) = ⟨(a.add n).block, (a.add n).off + (j + 1), none⟩ := by
  unfold Addr.add
  rw [if_neg (by omega)]
  by_cases h : n = 0
  · subst h; simp
  · rw [if_neg h]; simp; omega
/-- The entries that lie behind an address. -/
def Rd3 (w : World) (a : Addr) (l : List Ent) : Prop := ∀ k t, l[k]? = some t → w.cell? (a.add (k * 3)) = some (.int .i64 t.1) ∧ w.cell? ⟨(a.add (k * 3)).block, (a.add (k * 3)).off + 1, none⟩ = some (.int .i64 t.2.1) ∧ w.cell? ⟨(a.add (k * 3)).block, (a.add (k * 3)).off + 2, none⟩ = some (.int .i64 t.2.2)
/-- A slice of entries. -/
def Sl3 (w : World) (v : Value) (l : List Ent) : Prop := (v = .slice none 0 0 ∧ l = []) ∨ ∃ a cap, v = .slice (some a) l.length cap ∧ l.length ≤ cap ∧ cap ≤ maxLen ∧ Rd3 w a l
theorem Sl3.below {w w' : World} {v : Value} {l : List Ent} (h : Sl3 w v l) (hb : Below w.heap.size w w') : Sl3 w' v l := by
  rcases h with h | ⟨a, cap, h1, h2, h3, h4⟩
  · exact .inl h
  · refine .inr ⟨a, cap, h1, h2, h3, fun k t hk => ?_⟩
    obtain ⟨c0, c1, c2⟩ := h4 k t hk
    exact ⟨(hb.cell (World.block_lt_of_cell? w _ c0)).trans c0, (hb.cell (World.block_lt_of_cell? w _ c1)).trans c1, (hb.cell (World.block_lt_of_cell? w _ c2)).trans c2⟩
theorem flat3_get (l : List Ent) : ∀ k t, l[k]? = some t → (flat3 l)[k * 3]? = some (.int .i64 t.1) ∧ (flat3 l)[k * 3 + 1]? = some (.int .i64 t.2.1) ∧ (flat3 l)[k * 3 + 2]? = some (.int .i64 t.2.2) := by
  induction l with
  | nil => intro k t h; simp at h
  | cons a r ih =>
    intro k t h
    cases k with
    | zero => simp at h; subst h; simp [flat3]
    | succ k =>
      simp at h
      have := ih k t h
      have e : (k + 1) * 3 = k * 3 + 3 := by omega
      rw [e]
      simpa [flat3] using this
theorem sl3_own {w : World} {base : Nat} {v : Value} {l : List Ent} (h : w.ownsRow base 85 3 v l.length (flat3 l)) : Sl3 w v l := by
  have hc := fun g hg => h.cells (g := g) hg
  obtain ⟨h1, h2⟩ := h
  rcases h2 with ⟨rfl, h⟩ | ⟨g, cap, cur, rfl, hg, hh, hn, hm, r⟩
  · exact .inl ⟨rfl, List.eq_nil_of_length_eq_zero h⟩
  · refine .inr ⟨_, cap, rfl, hn, hm, fun k t hk => ?_⟩
    obtain ⟨f0, f1, f2⟩ := flat3_get l k t hk
    exact ⟨hc g rfl _ _ f0, (add_one _ _ 0) ▸ hc g rfl _ _ f1, (add_one _ _ 1) ▸ hc g rfl _ _ f2⟩
theorem builder_below {B b : Nat} {bs : List Value} {w w' : World} (h : Lib.IsBuilder 92 5 B b bs w) (hb : Below w.heap.size w w') : Lib.IsBuilder 92 5 B b bs w' := by
  have go : ∀ p, Lib.BuilderAt 92 5 B b p bs w → Lib.BuilderAt 92 5 B b p bs w' := by
    intro p hp
    have hlt := hp.lt
    obtain ⟨hB, v, hbk, hown, hne⟩ := hp
    exact ⟨hB, v, (hb.block b hlt).trans hbk, own_below hown hb (fun k hk => (hown.lt k hk).2), hne⟩
  rcases h with h | h
  · exact .inl (go _ h)
  · exact .inr (go _ h)
def inE (t : Ent) : Prop := inI t.1 ∧ inI t.2.1 ∧ inI t.2.2
def lineE (t : Ent) : Bs := lineOf t.1 t.2.1 t.2.2
theorem lineE_len (t : Ent) (h : inE t) : (lineE t).length ≤ 65 := by
  have h1 := itoa_len _ h.1
  have h2 := itoa_len _ h.2.1
  have h3 := itoa_len _ h.2.2
  simp [lineE, lineOf]
  omega
def printE (l : List Ent) : Bs := l.flatMap fun t => lineE t ++ [10]
theorem printE_len (l : List Ent) (h : ∀ t ∈ l, inE t) : (printE l).length ≤ 66 * l.length := by
  induction l with
  | nil => simp [printE]
  | cons a r ih =>
    have h1 := ih (fun t ht => h t (by simp [ht]))
    have h2 := lineE_len a (h a (by simp))
    simp only [printE, List.flatMap_cons, List.length_append, List.length_cons, List.length_nil] at *
    omega
set_option maxHeartbeats 2000000 in
theorem print15 (v : Value) (l : List Ent) (hl : l.length ≤ 65536) (hin : ∀ t ∈ l, inE t) (w : World) (hv : Sl3 w v l) (he : Env w) :
    Calls Tryd.prog 15 #[v] w fun e w' => e = .returned (.string (B (printE l))) ∧ Below w.heap.size w w' := by
  obtain ⟨ao, cap, rfl⟩ : ∃ ao cap, v = .slice ao l.length cap := by
    rcases hv with ⟨rfl, rfl⟩ | ⟨a, cap, rfl, _⟩
    · exact ⟨_, _, rfl⟩
    · exact ⟨_, _, rfl⟩
  have hb0 := (Below.refl w.heap.size w).alloc (Nat.le_refl _) (.cells #[.pointer none, .slice none 0 0] 92 (0, 0))
  have hB0 : Lib.IsBuilder 92 5 w.heap.size w.heap.size [] (w.alloc (.cells #[.pointer none, .slice none 0 0] 92 (0, 0))) :=
    .inl ⟨Nat.le_refl _, _, alloc_new _ _, World.ownsRow_nil _ _ _ _, by simp [Value.ownBlock]⟩
  have z0 : (w.alloc (.cells #[.pointer none, .slice none 0 0] 92 (0, 0))).heap.size = w.heap.size + 1 := World.size_alloc ..
  obtain ⟨b, hbw⟩ : ∃ b, w.heap.size = b := ⟨_, rfl⟩
  go_enter Tryd.func15, Tryd.ntmps15
  go_wp2
  rw [hbw] at hB0 z0 hb0
  generalize w.alloc (.cells #[.pointer none, .slice none 0 0] 92 (0, 0)) = W at *
  go_loopw [10] (fun i wr => ∃ k : Nat, i = .int .i64 (k : Int) ∧ k ≤ l.length ∧ Below b w wr ∧ b < wr.heap.size ∧ Lib.IsBuilder 92 5 b b (Lib.byteCells (printE (l.take k))) wr) (fun i _ => l.length - (intOf i).toNat)
  case atStart => exact ⟨0, rfl, Nat.zero_le _, hb0, by omega, by simpa [printE, Lib.byteCells] using hB0⟩
  case round =>
    obtain ⟨k, rfl, hk, hb, hlt, hbd⟩ := hrel
    by_cases hkl : k < l.length
    · obtain ⟨a, h2, h3, h4⟩ : ∃ a, ao = some a ∧ cap ≤ maxLen ∧ Rd3 w a l := by
        rcases hv with ⟨_, h⟩ | ⟨a, cap', h1, h2, h3, h4⟩
        · rw [h] at hkl; simp at hkl
        · injection h1 with h1 h5 h6
          subst h6
          exact ⟨a, h1, h3, h4⟩
      subst h2
      obtain ⟨t, ht⟩ : ∃ t, l[k]? = some t := ⟨_, List.getElem?_eq_getElem hkl⟩
      obtain ⟨c0, c1, c2⟩ := h4 k t ht
      replace c0 := (hb.cell (by rw [← hbw]; exact World.block_lt_of_cell? w _ c0)).trans c0
      replace c1 := (hb.cell (by rw [← hbw]; exact World.block_lt_of_cell? w _ c1)).trans c1
      replace c2 := (hb.cell (by rw [← hbw]; exact World.block_lt_of_cell? w _ c2)).trans c2
      have hit := hin t (List.mem_of_getElem? ht)
      clear h4
      have ll := lineE_len t hit
      unfold lineE at ll
      have a1 := addStr (lineOf t.1 t.2.1 t.2.2) [10] (by simp; omega)
      have hb3 := (Below.refl wr.heap.size wr).alloc (Nat.le_refl _) (.cells #[.int .i64 t.1, .int .i64 t.2.1, .int .i64 t.2.2] 85 (0, 0))
      go_wp2_with fail
      generalize wr.alloc (.cells #[.int .i64 t.1, .int .i64 t.2.1, .int .i64 t.2.2] 85 (0, 0)) = w3 at *
      have hb03 : Below b w w3 := hb.trans (hb3.mono (by omega))
      refine (line59 _ _ _ hit.1 hit.2.1 hit.2.2 w3 (he.below (by rw [hbw]; exact hb03))).mono ?_
      rintro e w4 ⟨rfl, hb4⟩
      have hbd4 := builder_below (builder_below hbd hb3) hb4
      have hb04 : Below b w w4 := hb03.trans (hb4.mono (by have := hb3.size; omega))
      go_wp2_with fail
      refine (writeString b b _ _ w4 hbd4 ?hlen ?hsz).mono ?_
      case hlen =>
        have h1 := printE_len (l.take k) (fun t ht => hin t (List.mem_of_mem_take ht))
        have h2 : (Lib.byteCells (printE (l.take k))).length = (printE (l.take k)).length := by simp [Lib.byteCells]
        have h3 : (l.take k).length ≤ 65536 := by simp; omega
        have h4 : (B (lineOf t.1 t.2.1 t.2.2 ++ [10])).size = (lineOf t.1 t.2.1 t.2.2).length + 1 := by show Array.size _ = _; simp
        rw [h4]
        omega
      case hsz => have := hb04.size; omega
      rintro e w5 ⟨rfl, hbd5, hb5⟩
      go_wp2
      go_roundw
      case rel =>
        refine ⟨k + 1, by go_num, hkl, hb04.trans hb5, by have := hb04.size; have := hb5.size; have := hb4.size; have := hb3.size; omega, .inr ?_⟩
        have e1 : printE (l.take (k + 1)) = printE (l.take k) ++ (lineOf t.1 t.2.1 t.2.2 ++ [10]) := by
          rw [List.take_add_one, ht]
          simp [printE, lineE]
        have e2 : Lib.byteCells (printE (l.take (k + 1))) = Lib.byteCells (printE (l.take k)) ++ Lib.strCells (B (lineOf t.1 t.2.1 t.2.2 ++ [10])) := by
          rw [e1]
          simp [Lib.byteCells, Lib.strCells]
        rw [e2]
        exact hbd5
      case measure => simp [intOf]; omega
    · obtain rfl : k = l.length := by omega
      rw [List.take_length] at hbd
      go_wp2_with (go_at_call 60; refine (Tryd.Builder_String_any b b _ _ hbd (by omega)).mono ?_)
      rintro e w5 ⟨rfl, hb5⟩
      go_wp2
      go_ret
      exact ⟨rfl, by rw [hbw]; exact hb.trans hb5⟩
end Go.Proofs.YthndenpgkdjkiaaDoor
