import Derived.Test.YthndenpgkdjkiaaDoorTScript6
namespace Go.Proofs.YthndenpgkdjkiaaDoor
open Go.Shelf Go.RowKit Go.Sort
set_option linter.unusedVariables false

/-! ### Slices of structs, read in place -/
def ofs (p : Addr) : Nat → Addr
  | 0 => p
  | j + 1 => ⟨p.block, p.off + (j + 1), none⟩
theorem ofs_block (p : Addr) (j : Nat) : (ofs p j).block = p.block := by cases j <;> rfl
theorem add_ofs (a : Addr) (n j : Nat) : a.add (n + j) = ofs (a.add n) j := by
  cases j with
  | zero => rfl
  | succ j => exact add_one a n j
def RdN {α : Type} (N : Nat) (cells : α → List Value) (w : World) (a : Addr) (l : List α) : Prop := ∀ k t, l[k]? = some t → ∀ j v, (cells t)[j]? = some v → w.cell? (ofs (a.add (k * N)) j) = some v
def SlN {α : Type} (N : Nat) (cells : α → List Value) (w : World) (v : Value) (l : List α) : Prop := (v = .slice none 0 0 ∧ l = []) ∨ ∃ a cap, v = .slice (some a) l.length cap ∧ l.length ≤ cap ∧ cap ≤ maxLen ∧ RdN N cells w a l
section
variable {α : Type} {N : Nat} {cells : α → List Value} {w w' : World} {v : Value} {l : List α}
theorem RdN.below {a : Addr} (h : RdN N cells w a l) (hb : Below w.heap.size w w') : RdN N cells w' a l := fun k t hk j v hv => by
  have := h k t hk j v hv
  exact (hb.cell (World.block_lt_of_cell? w _ this)).trans this
theorem SlN.below (h : SlN N cells w v l) (hb : Below w.heap.size w w') : SlN N cells w' v l := by
  rcases h with h | ⟨a, cap, h1, h2, h3, h4⟩
  · exact .inl h
  · exact .inr ⟨a, cap, h1, h2, h3, h4.below hb⟩
theorem SlN.form (h : SlN N cells w v l) : ∃ ao cap, v = .slice ao l.length cap := by
  rcases h with ⟨rfl, rfl⟩ | ⟨a, cap, rfl, _⟩
  · exact ⟨_, _, rfl⟩
  · exact ⟨_, _, rfl⟩
theorem SlN.some {ao : Option Addr} {n cap : Nat} (h : SlN N cells w (.slice ao n cap) l) (hn : 0 < l.length) : ∃ a, ao = some a ∧ cap ≤ maxLen ∧ RdN N cells w a l := by
  rcases h with ⟨_, h⟩ | ⟨a, cap', h1, h2, h3, h4⟩
  · rw [h] at hn; simp at hn
  · injection h1 with h1 h5 h6
    subst h6
    exact ⟨a, h1, h3, h4⟩
theorem SlN.len (h : SlN N cells w v l) : l.length ≤ maxLen := by
  rcases h with ⟨rfl, rfl⟩ | ⟨a, cap, rfl, h1, h2, _⟩
  · simp
  · omega
theorem flat_get (hN : ∀ t, (cells t).length = N) : ∀ (l : List α) k t, l[k]? = some t → ∀ j v, (cells t)[j]? = some v → (l.flatMap cells)[k * N + j]? = some v := by
  intro l
  induction l with
  | nil => intro k t h; simp at h
  | cons a r ih =>
    intro k t h j v hv
    have hj : j < N := by
      have := (List.getElem?_eq_some_iff.1 hv).1
      rw [hN] at this
      exact this
    rw [List.flatMap_cons]
    cases k with
    | zero =>
      simp at h
      subst h
      rw [Nat.zero_mul, Nat.zero_add, List.getElem?_append_left (by rw [hN]; exact hj)]
      exact hv
    | succ k =>
      simp at h
      have := ih k t h j v hv
      have e : (k + 1) * N + j = N + (k * N + j) := by rw [Nat.add_mul, Nat.one_mul]; omega
      rw [e, List.getElem?_append_right (by rw [hN]; omega), hN, Nat.add_sub_cancel_left]
      exact this
theorem slN_own {base e : Nat} (hN : ∀ t, (cells t).length = N) (h : w.ownsRow base e N v l.length (l.flatMap cells)) : SlN N cells w v l := by
  have hc := fun g hg => h.cells (g := g) hg
  obtain ⟨h1, h2⟩ := h
  rcases h2 with ⟨rfl, h⟩ | ⟨g, cap, cur, rfl, hg, hh, hn, hm, r⟩
  · exact .inl ⟨rfl, List.eq_nil_of_length_eq_zero h⟩
  · refine .inr ⟨_, cap, rfl, hn, hm, fun k t hk j v hv => ?_⟩
    rw [← add_ofs]
    exact hc g rfl _ _ (flat_get hN l k t hk j v hv)
end
end Go.Proofs.YthndenpgkdjkiaaDoor
