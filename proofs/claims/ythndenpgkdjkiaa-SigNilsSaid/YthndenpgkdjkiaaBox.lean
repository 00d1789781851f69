/-
A box of signals in memory, and what its queue's own methods do (Len, Less, Swap, Push, Pop): contracts of the Go functions 6, 19, 25, 32 to 34, 70 to 73; no conditions but those that each contract states.
-/
import Derived.Test.YthndenpgkdjkiaaRows
import Derived.WalkKit
import Derived.Lib.Hide
import Derived.Deep.AppendLies
import Derived.Laws.OwnMore
import Derived.WalkSmall
import Derived.OpenShut
import Derived.Outline
import Derived.Deep.QuietTactic
import Derived.BigQuiet
import Derived.BigRegion
import Derived.Deep.RegionHeld3
import Derived.Deep.RegionLaw
import Derived.OwnWalk

namespace Go.Proofs.Ythndenpgkdjkiaa
open Go.RowKit
set_option linter.unusedVariables false

/-! ### The box in memory -/
abbrev Sg := Int × Int
def sigCells (l : List Sg) : List Value := l.flatMap fun s => [.int .i64 s.1, .int .i64 s.2]
theorem sigCells_length (l : List Sg) : (sigCells l).length = l.length * 2 := by
  induction l with
  | nil => rfl
  | cons a l ih => simp only [sigCells, List.flatMap_cons, List.length_append] at *; simp [ih]; omega
theorem sigCells_fst (l : List Sg) (i : Nat) (h : i < l.length) : (sigCells l)[i * 2]? = some (.int .i64 l[i].1) := by
  induction l generalizing i with
  | nil => simp at h
  | cons a l ih =>
    cases i with
    | zero => simp [sigCells]
    | succ i =>
      have := ih i (by simpa using h)
      simp only [sigCells, List.flatMap_cons] at *
      rw [show (i + 1) * 2 = i * 2 + 2 by omega]
      simpa using this
theorem sigCells_snd (l : List Sg) (i : Nat) (h : i < l.length) : (sigCells l)[i * 2 + 1]? = some (.int .i64 l[i].2) := by
  induction l generalizing i with
  | nil => simp at h
  | cons a l ih =>
    cases i with
    | zero => simp [sigCells]
    | succ i =>
      have := ih i (by simpa using h)
      simp only [sigCells, List.flatMap_cons] at *
      rw [show (i + 1) * 2 + 1 = (i * 2 + 1) + 2 by omega]
      simpa using this
theorem sigCells_append (l m : List Sg) : sigCells (l ++ m) = sigCells l ++ sigCells m := by simp [sigCells]
theorem sigCells_set (l : List Sg) (i : Nat) (s : Sg) (h : i < l.length) : ((sigCells l).set (i * 2) (.int .i64 s.1)).set (i * 2 + 1) (.int .i64 s.2) = sigCells (l.set i s) := by
  induction l generalizing i with
  | nil => simp at h
  | cons a l ih =>
    cases i with
    | zero => simp [sigCells]
    | succ i =>
      have := ih i (by simpa using h)
      simp only [sigCells, List.flatMap_cons, List.set_cons_succ] at *
      rw [show (i + 1) * 2 = i * 2 + 2 by omega]
      simpa using this
theorem sigCells_set2 (l : List Sg) (i : Nat) (d : Int) (h : i < l.length) : (sigCells l).set (i * 2 + 1) (.int .i64 d) = sigCells (l.set i (l[i].1, d)) := by
  rw [← sigCells_set l i _ h]
  congr 1
  apply List.ext_getElem?
  intro k
  rw [List.getElem?_set]
  split
  · subst_vars
    have hl := sigCells_length l
    rw [if_pos (by omega)]
    exact sigCells_fst l i h
  · rfl

/-- A box's cells: the row's slice value, and the places. -/
def boxCells (v : Value) (at_ : List Int) : Array Value := (v :: at_.map (Value.int .i64)).toArray
theorem boxCells_set (v : Value) (l : List Int) (k : Nat) (x : Int) : (boxCells v l).setIfInBounds (1 + k) (.int .i64 x) = boxCells v (l.set k x) := by
  unfold boxCells
  simp [Nat.add_comm 1 k, List.map_set]
theorem boxCells_setv (v v' : Value) (l : List Int) : (boxCells v l).setIfInBounds 0 v' = boxCells v' l := by
  unfold boxCells
  simp
theorem boxCells_at (v : Value) (l : List Int) (k : Nat) (h : k < l.length) : (boxCells v l)[1 + k]? = some (.int .i64 l[k]) := by
  unfold boxCells
  simp [Nat.add_comm 1 k, h]

/-- The frame of whatever works on a box that lies from base on: of elder blocks those of the types 45 and 51, from base on, may have turned. -/
structure Fr (base : Nat) (w w' : World) : Prop where
  os : w'.os = w.os
  tape : w'.tape = w.tape
  output : w'.output = w.output
  size : w.heap.size ≤ w'.heap.size
  block : ∀ k, k < w.heap.size → (k < base ∨ ∀ c fr, w.heap[k]? ≠ some (.cells c 45 fr) ∧ w.heap[k]? ≠ some (.cells c 51 fr)) → w'.heap[k]? = w.heap[k]?
theorem Fr.refl (base : Nat) (w : World) : Fr base w w := ⟨rfl, rfl, rfl, Nat.le_refl _, fun _ _ _ => rfl⟩
theorem Fr.trans {base : Nat} {a b c : World} (h : Fr base a b) (k : Fr base b c) : Fr base a c :=
  ⟨k.os.trans h.os, k.tape.trans h.tape, k.output.trans h.output, Nat.le_trans h.size k.size, fun i hi ho => by
    have h1 := h.block i hi ho
    rw [← h1]
    exact k.block i (Nat.lt_of_lt_of_le hi h.size) (ho.imp id fun ho => by rw [h1]; exact ho)⟩
theorem Fr.of_below {base : Nat} {w w' : World} (h : Below w.heap.size w w') : Fr base w w' := ⟨h.os, h.tape, h.output, h.size, fun k hk _ => h.block k hk⟩
theorem Fr.below {base : Nat} {w w' : World} (h : Fr base w w') (hb : base ≤ w.heap.size) : Below base w w' := ⟨h.os, h.tape, h.output, h.size, fun k hk => h.block k (Nat.lt_of_lt_of_le hk hb) (.inl hk)⟩
theorem Fr.drew {base : Nat} {w w' : World} (h : Fr base w w') : Fr base w w'.drew := ⟨h.os, h.tape, h.output, h.size, h.block⟩
theorem Fr.setCell {base : Nat} {w w' : World} (h : Fr base w w') (a : Addr) (u : Value) (hb : base ≤ a.block) (c : Array Value) (fr : Nat × Nat) (ht : w'.heap[a.block]? = some (.cells c 45 fr) ∨ w'.heap[a.block]? = some (.cells c 51 fr)) : Fr base w (w'.setCell a u) :=
  h.trans ⟨rfl, rfl, rfl, by simp [World.setCell], fun k hk ho => by
    refine Below.heap_setCell w' a u k fun he => ?_
    subst he
    rcases ho with ho | ho
    · omega
    · rcases ht with ht | ht
      · exact (ho c fr).1 ht
      · exact (ho c fr).2 ht⟩

/-- Block b is a box, of base's own, that holds the row l and the places at_. -/
structure QRow (base b g cap : Nat) (w : World) (l : List Sg) (at_ : List Int) : Prop where
  bb : base ≤ b
  len : at_.length = 64
  box : w.heap[b]? = some (.cells (boxCells (.slice (some ⟨g, 0, none⟩) l.length cap) at_) 45 (0, 0))
  row : w.ownsRow base 51 2 (.slice (some ⟨g, 0, none⟩) l.length cap) l.length (sigCells l)
def QIs (base b : Nat) (w : World) (l : List Sg) (at_ : List Int) : Prop :=
  (∃ g cap, QRow base b g cap w l at_) ∨ (l = [] ∧ base ≤ b ∧ at_.length = 64 ∧ w.heap[b]? = some (.cells (boxCells (.slice none 0 0) at_) 45 (0, 0)))
section
variable {base b g cap : Nat} {w w' : World} {l : List Sg} {at_ : List Int}
theorem QIs.row (h : QIs base b w l at_) (hl : 0 < l.length) : ∃ g cap, QRow base b g cap w l at_ := by
  rcases h with h | ⟨rfl, _⟩
  · exact h
  · simp at hl
theorem QIs.lt (h : QIs base b w l at_) : b < w.heap.size := by
  rcases h with ⟨g, cap, h⟩ | ⟨_, _, _, h⟩
  · exact (Array.getElem?_eq_some_iff.1 h.box).1
  · exact (Array.getElem?_eq_some_iff.1 h).1
theorem QIs.len64 (h : QIs base b w l at_) : at_.length = 64 := by
  rcases h with ⟨g, cap, h⟩ | ⟨_, _, h, _⟩
  · exact h.len
  · exact h
theorem QIs.bb (h : QIs base b w l at_) : base ≤ b := by
  rcases h with ⟨g, cap, h⟩ | ⟨_, h, _, _⟩
  · exact h.bb
  · exact h
theorem QRow.gb (h : QRow base b g cap w l at_) : base ≤ g ∧ g < w.heap.size := h.row.lt g rfl
theorem QRow.ne (h : QRow base b g cap w l at_) : b ≠ g := by
  rintro rfl
  rcases h.row.2 with ⟨he, _⟩ | ⟨g', cap', cur, he, _, hh, _⟩
  · cases he
  · injection he with he
    injection he with he
    injection he with he
    subst he
    rw [h.box] at hh
    simp at hh
theorem QRow.typ (h : QRow base b g cap w l at_) : ∃ c, w.heap[g]? = some (.cells c 51 (0, 0)) := by
  rcases h.row.2 with ⟨he, _⟩ | ⟨g', cap', cur, he, _, hh, _⟩
  · cases he
  · injection he with he
    injection he with he
    injection he with he
    subst he
    exact ⟨_, hh⟩
theorem QRow.cell0 (h : QRow base b g cap w l at_) : w.cell? ⟨b, 0, none⟩ = some (.slice (some ⟨g, 0, none⟩) l.length cap) := by
  simp [World.cell?, h.box, boxCells]
theorem QRow.cellAt (h : QRow base b g cap w l at_) (k : Nat) (hk : k < at_.length) : w.cell? ⟨b, 1 + k, none⟩ = some (.int .i64 at_[k]) := by
  simp [World.cell?, h.box, boxCells_at _ _ k hk]
theorem QRow.frz (h : QRow base b g cap w l at_) (k : Nat) : w.frozen? ⟨b, k, none⟩ = false := by simp [World.frozen?, h.box]
theorem QRow.frzg (h : QRow base b g cap w l at_) (k : Nat) : w.frozen? ⟨g, k, none⟩ = false := h.row.frozenAt k
theorem QRow.c1 (h : QRow base b g cap w l at_) (i : Nat) (hi : i < l.length) : w.cell? ⟨g, i * 2, none⟩ = some (.int .i64 l[i].1) := by
  rw [h.row.cellAt (i * 2) (by omega)]; exact sigCells_fst l i hi
theorem QRow.c2 (h : QRow base b g cap w l at_) (i : Nat) (hi : i < l.length) : w.cell? ⟨g, i * 2 + 1, none⟩ = some (.int .i64 l[i].2) := by
  rw [h.row.cellAt (i * 2 + 1) (by omega)]; exact sigCells_snd l i hi
theorem QRow.drew (h : QRow base b g cap w l at_) : QRow base b g cap w.drew l at_ := ⟨h.bb, h.len, h.box, h.row⟩
theorem QRow.below (h : QRow base b g cap w l at_) (hb : Below w.heap.size w w') : QRow base b g cap w' l at_ :=
  ⟨h.bb, h.len, (hb.block b (Array.getElem?_eq_some_iff.1 h.box).1).trans h.box, h.row.kept (row := none) ⟨hb.os, hb.tape, hb.output, hb.size, fun i hi _ => hb.block i hi⟩ (by simp [Value.ownBlock])⟩
theorem QIs.below (h : QIs base b w l at_) (hb : Below w.heap.size w w') : QIs base b w' l at_ := by
  rcases h with ⟨g, cap, h⟩ | ⟨h1, h2, h3, h4⟩
  · exact .inl ⟨g, cap, h.below hb⟩
  · exact .inr ⟨h1, h2, h3, (hb.block b (Array.getElem?_eq_some_iff.1 h4).1).trans h4⟩
theorem QRow.setRow (h : QRow base b g cap w l at_) (l' : List Sg) (w1 : World) (hl : l'.length = l.length) (hw : w1.ownsRow base 51 2 (.slice (some ⟨g, 0, none⟩) l.length cap) l.length (sigCells l')) (hbx : w1.heap[b]? = w.heap[b]?) : QRow base b g cap w1 l' at_ :=
  ⟨h.bb, h.len, by rw [hbx, hl]; exact h.box, by rw [hl]; exact hw⟩
/-- Element i is another one. -/
theorem QRow.put (h : QRow base b g cap w l at_) (i : Nat) (s : Sg) (hi : i < l.length) : QRow base b g cap ((w.setCell ⟨g, i * 2, none⟩ (.int .i64 s.1)).setCell ⟨g, i * 2 + 1, none⟩ (.int .i64 s.2)) (l.set i s) at_ ∧ Fr base w ((w.setCell ⟨g, i * 2, none⟩ (.int .i64 s.1)).setCell ⟨g, i * 2 + 1, none⟩ (.int .i64 s.2)) := by
  have h1 := (h.row.stored (i * 2) (.int .i64 s.1)).1
  have h2 := (h1.stored (i * 2 + 1) (.int .i64 s.2)).1
  rw [sigCells_set l i s hi] at h2
  obtain ⟨c, hc⟩ := h.typ
  have q := h.setRow _ _ (by simp) h2 (by rw [Below.heap_setCell _ _ _ _ h.ne, Below.heap_setCell _ _ _ _ h.ne])
  have h1' : QRow base b g cap (w.setCell ⟨g, i * 2, none⟩ (.int .i64 s.1)) l at_ → True := fun _ => trivial
  refine ⟨q, ?_⟩
  have f1 := (Fr.refl base w).setCell ⟨g, i * 2, none⟩ (.int .i64 s.1) h.gb.1 c (0, 0) (.inr hc)
  have t1 : ∃ c', (w.setCell ⟨g, i * 2, none⟩ (.int .i64 s.1)).heap[g]? = some (.cells c' 51 (0, 0)) := by
    rcases h1.2 with ⟨he, _⟩ | ⟨g', cap', cur, he, _, hh, _⟩
    · cases he
    · injection he with he
      injection he with he
      injection he with he
      subst he
      exact ⟨_, hh⟩
  obtain ⟨c', hc'⟩ := t1
  exact f1.setCell ⟨g, i * 2 + 1, none⟩ (.int .i64 s.2) h.gb.1 c' (0, 0) (.inr hc')
theorem heap_setCell_at (w : World) (b o : Nat) (u : Value) (c : Array Value) (t : TypeId) (fr : Nat × Nat) (h : w.heap[b]? = some (.cells c t fr)) : (w.setCell ⟨b, o, none⟩ u).heap[b]? = some (.cells (c.setIfInBounds o u) t fr) := by
  simp [World.setCell, Array.getElem?_modify, h]
/-- A place is another one. -/
theorem QRow.place (h : QRow base b g cap w l at_) (k : Nat) (x : Int) : QRow base b g cap (w.setCell ⟨b, 1 + k, none⟩ (.int .i64 x)) l (at_.set k x) ∧ Fr base w (w.setCell ⟨b, 1 + k, none⟩ (.int .i64 x)) := by
  refine ⟨⟨h.bb, by simp [h.len], ?_, ?_⟩, ?_⟩
  · rw [heap_setCell_at _ _ _ _ _ _ _ h.box, boxCells_set]
  · refine h.row.kept (row := some b) ⟨rfl, rfl, rfl, by simp [World.setCell], fun i hi hne => Below.heap_setCell _ _ _ _ (by simpa using hne)⟩ (.inr ?_)
    simp [Value.ownBlock]
    exact fun he => h.ne he.symm
  · exact (Fr.refl base w).setCell _ _ h.bb _ _ (.inl h.box)
end
end Go.Proofs.Ythndenpgkdjkiaa

namespace Go.Proofs.Ythndenpgkdjkiaa
open Go.RowKit
set_option linter.unusedVariables false

def ats (k : Nat) : List Int := List.replicate k (-1) ++ List.replicate (64 - k) 0
theorem ats_set (k : Nat) (h : k < 64) : (ats k).set k (-1) = ats (k + 1) := by
  unfold ats
  rw [List.set_append_right _ _ (by simp)]
  simp only [List.length_replicate, Nat.sub_self]
  obtain ⟨m, hm⟩ : ∃ m, 64 - k = m + 1 := ⟨63 - k, by omega⟩
  rw [hm, show 64 - (k + 1) = m by omega, List.replicate_succ, List.set_cons_zero, List.replicate_succ']
  simp
theorem ats_cell (v : Value) (k : Nat) (h : k < 64) : ∃ u, (boxCells v (ats k))[1 + k]? = some u :=
  ⟨_, Array.getElem?_eq_getElem (by simp [boxCells, ats]; omega)⟩

theorem zero45 (w : World) : (zeroValue 45).run Try.prog w = .ok (.agg (boxCells (.slice none 0 0) (ats 0))) w := by kernel_rfl
set_option maxRecDepth 100000 in
set_option maxHeartbeats 1000000 in
theorem new_any (w : World) : Calls Try.prog 6 #[] w fun e w' => e = .returned (.pointer (some ⟨w.heap.size, 0, none⟩)) ∧ w' = w.alloc (.cells (boxCells (.slice none 0 0) (ats 64)) 45) := by
  have hz := zero45
  go_enter Try.func6, Try.ntmps6
  go_wp2
  go_loopw [5] (fun i wr => ∃ k : Nat, k ≤ 64 ∧ i = .int .i64 k ∧ wr = w.alloc (.cells (boxCells (.slice none 0 0) (ats k)) 45)) (fun i _ => 64 - (intOf i).toNat)
  case atStart => exact ⟨0, by omega, rfl, by first | rfl | kernel_rfl⟩
  case round =>
    obtain ⟨k, hk, rfl, rfl⟩ := hrel
    by_cases hlt : k < 64
    · obtain ⟨v, hv⟩ := ats_cell (.slice none 0 0) k hlt
      go_wp2
      go_roundw
      case rel => exact ⟨k + 1, by omega, by go_num, by rw [boxCells_set, ats_set k hlt]⟩
      case measure => simp [intOf]; omega
    · obtain rfl : k = 64 := by omega
      go_wp2
      go_ret
      exact ⟨rfl, rfl⟩
end Go.Proofs.Ythndenpgkdjkiaa

namespace Go.Proofs.Ythndenpgkdjkiaa
open Go.RowKit
set_option linter.unusedVariables false
set_option maxRecDepth 100000

theorem bcell {W w1 : World} (hb : Below W.heap.size W w1) : (∀ b o, b < W.heap.size → w1.cell? ⟨b, o, none⟩ = W.cell? ⟨b, o, none⟩) ∧ (∀ b o, b < W.heap.size → w1.frozen? ⟨b, o, none⟩ = W.frozen? ⟨b, o, none⟩) :=
  ⟨fun b o h => hb.cell (p := ⟨b, o, none⟩) h, fun b o h => hb.frozen (p := ⟨b, o, none⟩) h⟩
theorem below_undrew {w w' : World} (h : Below w.drew.heap.size w.drew w') : Below w.heap.size w w' := ⟨h.os, h.tape, h.output, h.size, h.block⟩
def cmpI (x y : Int) : Int := if x < y then -1 else if y < x then 1 else 0
theorem cmpI_lt {x y : Int} (h : x < y) : cmpI x y = -1 := by simp [cmpI, h]
theorem cmpI_gt {x y : Int} (h : y < x) : cmpI x y = 1 := by unfold cmpI; rw [if_neg (by omega), if_pos h]
theorem cmpI_eq {x y : Int} (h : x = y) : cmpI x y = 0 := by unfold cmpI; rw [if_neg (by omega), if_neg (by omega)]
theorem ret_int {k : IntKind} {a b : Int} (h : a = b) : Ending.returned (.int k a) = .returned (.int k b) := by rw [h]

theorem cmp33 (x y : Int) (w : World) : Calls Try.prog 33 #[.int .i64 x, .int .i64 y] w fun e w' => e = .returned (.int .i64 (cmpI x y)) ∧ w = w' := by
  rcases Int.lt_trichotomy x y with h | h | h
  · go_enter Try.func33, Try.ntmps33
    go_wp2
    go_ret
    exact ⟨ret_int (cmpI_lt h).symm, rfl⟩
  · subst h
    go_enter Try.func33, Try.ntmps33
    go_wp2
    go_ret
    exact ⟨ret_int (cmpI_eq rfl).symm, rfl⟩
  · have h2 : ¬ x < y := by omega
    go_enter Try.func33, Try.ntmps33
    go_wp2
    go_ret
    exact ⟨ret_int (cmpI_gt h).symm, rfl⟩
theorem cmp34 (x y : Int) (w : World) : Calls Try.prog 34 #[.int .i64 x, .int .i64 y] w fun e w' => e = .returned (.int .i64 (cmpI x y)) ∧ w = w' := by
  rcases Int.lt_trichotomy x y with h | h | h
  · go_enter Try.func34, Try.ntmps34
    go_wp2
    go_ret
    exact ⟨ret_int (cmpI_lt h).symm, rfl⟩
  · subst h
    go_enter Try.func34, Try.ntmps34
    go_wp2
    go_ret
    exact ⟨ret_int (cmpI_eq rfl).symm, rfl⟩
  · have h2 : ¬ x < y := by omega
    go_enter Try.func34, Try.ntmps34
    go_wp2
    go_ret
    exact ⟨ret_int (cmpI_gt h).symm, rfl⟩

def orI (a b : Int) : Int := if a = 0 then b else a
theorem or32 (g : Nat) (a b : Int) (w : World) (ha : w.cell? ⟨g, 0, none⟩ = some (.int .i64 a)) (hb : w.cell? ⟨g, 1, none⟩ = some (.int .i64 b)) :
    Calls Try.prog 32 #[.slice (some ⟨g, 0, none⟩) 2 2] w fun e w' => e = .returned (.int .i64 (orI a b)) ∧ w = w' := by
  by_cases h1 : a = 0
  · subst h1
    by_cases h2 : b = 0
    · subst h2
      go_enter Try.func32, Try.ntmps32
      go_wp2
      refine wp_loop_rounds 3 ?_
      rw [rounds_succ]
      go_wp2
      rw [rounds_succ]
      go_wp2
      rw [rounds_succ]
      go_wp2
      go_ret
      exact ⟨ret_int (by simp [orI]), rfl⟩
    · have h3 : (b != 0) = true := by rw [bne_iff_ne]; exact h2
      go_enter Try.func32, Try.ntmps32
      go_wp2
      refine wp_loop_rounds 2 ?_
      rw [rounds_succ]
      go_wp2
      rw [rounds_succ]
      go_wp2
      go_ret
      exact ⟨ret_int (by simp [orI]), rfl⟩
  · have h3 : (a != 0) = true := by rw [bne_iff_ne]; exact h1
    go_enter Try.func32, Try.ntmps32
    go_wp2
    refine wp_loop_rounds 1 ?_
    rw [rounds_succ]
    go_wp2
    go_ret
    exact ⟨ret_int (by simp [orI, h1]), rfl⟩

def sgI (m1 d1 m2 d2 : Int) : Int := orI (cmpI d1 d2) (cmpI m1 m2)
def sgLt (a b : Sg) : Bool := decide (sgI a.1 a.2 b.1 b.2 < 0)
set_option maxHeartbeats 400000 in
theorem compare25 (m1 d1 m2 d2 : Int) (w : World) : Calls Try.prog 25 #[.agg #[.int .i64 m1, .int .i64 d1], .agg #[.int .i64 m2, .int .i64 d2]] w fun e w' => e = .returned (.int .i64 (sgI m1 d1 m2 d2)) ∧ Below w.heap.size w w' := by
  go_enter Try.func25, Try.ntmps25
  go_wp2
  go_region_held3 (fun w' => w'.cell? ⟨w.heap.size, 0, none⟩ = some (.int .i64 m1) ∧ w'.cell? ⟨w.heap.size, 1, none⟩ = some (.int .i64 d1) ∧ w'.cell? ⟨w.heap.size + 1, 0, none⟩ = some (.int .i64 m2) ∧ w'.cell? ⟨w.heap.size + 1, 1, none⟩ = some (.int .i64 d2)) (go_keep)
    (first | (go_at_call 33; refine (cmp33 _ _ _).mono ?_; rintro e w' ⟨rfl, rfl⟩) | (go_at_call 34; refine (cmp34 _ _ _).mono ?_; rintro e w' ⟨rfl, rfl⟩) | (go_at_call 32; refine (or32 _ (cmpI d1 d2) (cmpI m1 m2) _ ?_ ?_).mono ?_; (simp [go_sem]); (simp [go_sem]); rintro e w' ⟨rfl, rfl⟩))
  go_wp2
  go_ret
  refine ⟨rfl, ?_⟩
  repeat (first | exact Below.refl _ _ | refine Below.alloc ?_ (by simp; try omega) _ | refine Below.drew ?_)

theorem len19 (base b : Nat) (w : World) (l : List Sg) (at_ : List Int) (h : QIs base b w l at_) : Calls Try.prog 19 #[.pointer (some ⟨b, 0, none⟩)] w fun e w' => e = .returned (.int .i64 l.length) ∧ w = w' := by
  have hc : ∃ a c, w.cell? ⟨b, 0, none⟩ = some (.slice a l.length c) := by
    rcases h with ⟨g, cap, h⟩ | ⟨rfl, _, _, h⟩
    · exact ⟨_, _, h.cell0⟩
    · exact ⟨none, 0, by simp [World.cell?, h, boxCells]⟩
  obtain ⟨a, c, hc⟩ := hc
  clear h
  go_enter Try.func19, Try.ntmps19
  go_wp2
  go_ret
  exact ⟨rfl, rfl⟩

theorem getD_sg (l : List Sg) (i : Nat) (h : i < l.length) : l.getD i (0, 0) = l[i] := by simp [h]
theorem less70 (base b : Nat) (w : World) (l : List Sg) (at_ : List Int) (h : QIs base b w l at_) (i j : Nat) (hi : i < l.length) (hj : j < l.length) :
    Calls Try.prog 70 #[.pointer (some ⟨b, 0, none⟩), .int .i64 i, .int .i64 j] w fun e w' => e = .returned (.bool (sgLt l[i] l[j])) ∧ Below w.heap.size w w' := by
  obtain ⟨g, cap, q⟩ := h.row (by omega)
  have hb := q.cell0
  have hi1 := q.c1 i hi
  have hi2 := q.c2 i hi
  have hj1 := q.c1 j hj
  have hj2 := q.c2 j hj
  have b0 := h.lt
  have b1 := q.gb.2
  have hi' : (i : Int) < l.length := by omega
  have hj' : (j : Int) < l.length := by omega
  have hi0 : (0 : Int) ≤ (i : Int) := by omega
  have hj0 : (0 : Int) ≤ (j : Int) := by omega
  clear h q
  generalize e1 : l[i] = s at *
  generalize e2 : l[j] = t at *
  clear e1 e2
  obtain ⟨m1, d1⟩ := s
  obtain ⟨m2, d2⟩ := t
  generalize l.length = n at *
  have hfin : sgLt (m1, d1) (m2, d2) = decide (sgI m1 d1 m2 d2 < 0) := rfl
  have Hfin := Lib.hid hfin
  clear hfin
  go_enter Try.func70, Try.ntmps70
  go_wp2
  go_region_held3 (fun w' => w'.cell? ⟨b, 0, none⟩ = some (.slice (some ⟨g, 0, none⟩) n cap) ∧ w'.cell? ⟨g, i * 2, none⟩ = some (.int .i64 m1) ∧ w'.cell? ⟨g, i * 2 + 1, none⟩ = some (.int .i64 d1) ∧ w'.cell? ⟨g, j * 2, none⟩ = some (.int .i64 m2) ∧ w'.cell? ⟨g, j * 2 + 1, none⟩ = some (.int .i64 d2) ∧ b < w'.heap.size ∧ g < w'.heap.size) (first | go_keep | (simp [*]; omega))
    (first | (go_at_call 25; refine (compare25 _ _ _ _ _).mono ?_; rintro e w' ⟨rfl, hbel⟩; have hbel := below_undrew hbel; have hcc := (bcell hbel).1; have hs1 := Nat.lt_of_lt_of_le b0 hbel.size; have hs2 := Nat.lt_of_lt_of_le b1 hbel.size))
  go_wp2
  go_ret
  refine ⟨by rw [Hfin.out]; rfl, ?_⟩
  exact ‹Below _ _ _›
end Go.Proofs.Ythndenpgkdjkiaa

namespace Go.Proofs.Ythndenpgkdjkiaa
open Go.RowKit
set_option linter.unusedVariables false
set_option maxRecDepth 100000

/-- Two rows change places. -/
def swapL (l : List Sg) (i j : Nat) : List Sg := (l.set i (l.getD j (0, 0))).set j (l.getD i (0, 0))
def swapA (l : List Sg) (a : List Int) (i j : Nat) : List Int := (a.set (l.getD j (0, 0)).1.toNat i).set (l.getD i (0, 0)).1.toNat j

theorem swap_rows {base b g cap : Nat} {w : World} {l : List Sg} {at_ : List Int} (q : QRow base b g cap w l at_) (i j : Nat) (hi : i < l.length) (hj : j < l.length) :
    QRow base b g cap ((((w.setCell ⟨g, i * 2, none⟩ (.int .i64 l[j].1)).setCell ⟨g, i * 2 + 1, none⟩ (.int .i64 l[j].2)).setCell ⟨g, j * 2, none⟩ (.int .i64 l[i].1)).setCell ⟨g, j * 2 + 1, none⟩ (.int .i64 l[i].2)).drew (swapL l i j) at_ ∧
      Fr base w ((((w.setCell ⟨g, i * 2, none⟩ (.int .i64 l[j].1)).setCell ⟨g, i * 2 + 1, none⟩ (.int .i64 l[j].2)).setCell ⟨g, j * 2, none⟩ (.int .i64 l[i].1)).setCell ⟨g, j * 2 + 1, none⟩ (.int .i64 l[i].2)).drew := by
  obtain ⟨q1, f1⟩ := q.put i l[j] hi
  obtain ⟨q2, f2⟩ := q1.put j l[i] (by simpa using hj)
  have e : (l.set i l[j]).set j l[i] = swapL l i j := by simp [swapL, List.getD_eq_getElem?_getD, hi, hj]
  rw [e] at q2
  exact ⟨q2.drew, (f1.trans f2).drew⟩

set_option maxHeartbeats 800000 in
theorem swap73 (base b : Nat) (w : World) (l : List Sg) (at_ : List Int) (h : QIs base b w l at_) (i j : Nat) (hi : i < l.length) (hj : j < l.length) (hne : i ≠ j)
    (hm : ∀ s ∈ l, 0 ≤ s.1 ∧ s.1 < 64) (hd : l[i].1 ≠ l[j].1) :
    Calls Try.prog 73 #[.pointer (some ⟨b, 0, none⟩), .int .i64 i, .int .i64 j] w fun e w' => e = .returned (.tuple #[]) ∧ QIs base b w' (swapL l i j) (swapA l at_ i j) ∧ Fr base w w' := by
  obtain ⟨g, cap, q⟩ := h.row (by omega)
  have hb := q.cell0
  have hi1 := q.c1 i hi
  have hi2 := q.c2 i hi
  have hj1 := q.c1 j hj
  have hj2 := q.c2 j hj
  have hi' : (i : Int) < l.length := by omega
  have hj' : (j : Int) < l.length := by omega
  have hi0 : (0 : Int) ≤ (i : Int) := by omega
  have hj0 : (0 : Int) ≤ (j : Int) := by omega
  have n1 : ¬ (i * 2 = j * 2) := by omega
  have n2 : ¬ (i * 2 + 1 = j * 2) := by omega
  have n3 : ¬ (i * 2 = j * 2 + 1) := by omega
  have f1 := q.frzg (i * 2)
  have f2 := q.frzg (i * 2 + 1)
  have f3 := q.frzg (j * 2)
  have f4 := q.frzg (j * 2 + 1)
  have hbg := q.ne
  have S := swap_rows q i j hi hj
  have bi := hm _ (List.getElem_mem hi)
  have bj := hm _ (List.getElem_mem hj)
  obtain ⟨mi, hmi⟩ := Int.eq_ofNat_of_zero_le bi.1
  obtain ⟨mj, hmj⟩ := Int.eq_ofNat_of_zero_le bj.1
  replace S := Lib.hid S
  replace q := Lib.hid q
  have H1 := Lib.hid hmi
  have H2 := Lib.hid hmj
  clear hmi hmj
  go_enter Try.func73, Try.ntmps73
  go_wp2
  go_region
  go_wp2
  generalize hW : ((((w.setCell ⟨g, i * 2, none⟩ (.int .i64 l[j].1)).setCell ⟨g, i * 2 + 1, none⟩ (.int .i64 l[j].2)).setCell ⟨g, j * 2, none⟩ (.int .i64 l[i].1)).setCell ⟨g, j * 2 + 1, none⟩ (.int .i64 l[i].2)).drew = W at S ⊢
  have HW := Lib.hid hW
  clear hW h f1 f2 f3 f4 hi1 hi2 hj1 hj2 hb
  obtain ⟨q2, fr⟩ := S.out
  have hl : (swapL l i j).length = l.length := by simp [swapL]
  have hb := q2.cell0
  rw [hl] at hb
  have ei : (swapL l i j)[i]? = some l[j] := by simp [swapL, hi, hj, Ne.symm hne]
  have ej : (swapL l i j)[j]? = some l[i] := by simp [swapL, hi, hj]
  have hi1 := q2.c1 i (by omega)
  have hj1 := q2.c1 j (by omega)
  rw [(List.getElem?_eq_some_iff.1 ei).2, H2.out] at hi1
  rw [(List.getElem?_eq_some_iff.1 ej).2, H1.out] at hj1
  obtain ⟨x1, a1⟩ : ∃ x, W.cell? ⟨b, 1 + mj, none⟩ = some x := ⟨_, q2.cellAt mj (by rw [q2.len]; have := H2.out; omega)⟩
  obtain ⟨x2, a2⟩ : ∃ x, W.cell? ⟨b, 1 + mi, none⟩ = some x := ⟨_, q2.cellAt mi (by rw [q2.len]; have := H1.out; omega)⟩
  have z1 := q2.frz (1 + mj)
  have z2 := q2.frz (1 + mi)
  have b1 : (mj : Int) < 64 := by have := H2.out; omega
  have b2 : (mi : Int) < 64 := by have := H1.out; omega
  have b3 : ¬ (1 + mj = 1 + mi) := by have := H1.out; have := H2.out; omega
  have S1 := (q2.place mj i).1.place mi j
  have S2 := (q2.place mj i).2
  clear S ei ej hd hm bi bj
  replace q2 := Lib.hid q2
  replace S1 := Lib.hid S1
  replace S2 := Lib.hid S2
  replace fr := Lib.hid fr
  replace hl := Lib.hid hl
  go_region
  go_wp2
  go_end0
  have ea : swapA l at_ i j = (at_.set mj i).set mi j := by
    unfold swapA
    rw [List.getD_eq_getElem?_getD, List.getD_eq_getElem?_getD, List.getElem?_eq_getElem hi, List.getElem?_eq_getElem hj]
    simp only [Option.getD_some, H1.out, H2.out, Int.toNat_natCast]
  rw [ea]
  exact ⟨rfl, .inl ⟨g, cap, S1.out.1.drew⟩, ((fr.out.trans S2.out).trans S1.out.2).drew⟩
end Go.Proofs.Ythndenpgkdjkiaa

namespace Go.Proofs.Ythndenpgkdjkiaa
open Go.RowKit
set_option linter.unusedVariables false
set_option maxRecDepth 100000

structure QV (base b : Nat) (A : Option Addr) (cap : Nat) (w : World) (l : List Sg) (at_ : List Int) : Prop where
  bb : base ≤ b
  len : at_.length = 64
  box : w.heap[b]? = some (.cells (boxCells (.slice A l.length cap) at_) 45 (0, 0))
  row : w.ownsRow base 51 2 (.slice A l.length cap) l.length (sigCells l)
  apart : (Value.slice A l.length cap).ownBlock ≠ some b
theorem QRow.view {base b g cap : Nat} {w : World} {l : List Sg} {at_ : List Int} (q : QRow base b g cap w l at_) : QV base b (some ⟨g, 0, none⟩) cap w l at_ :=
  ⟨q.bb, q.len, q.box, q.row, by simp [Value.ownBlock]; exact fun h => q.ne h.symm⟩
theorem QIs.view {base b : Nat} {w : World} {l : List Sg} {at_ : List Int} (h : QIs base b w l at_) : ∃ A cap, QV base b A cap w l at_ := by
  rcases h with ⟨g, cap, q⟩ | ⟨rfl, h1, h2, h3⟩
  · exact ⟨_, _, q.view⟩
  · exact ⟨none, 0, h1, h2, h3, World.ownsRow_nil _ _ _ _, by simp [Value.ownBlock]⟩
theorem QV.place {base b cap : Nat} {A : Option Addr} {w : World} {l : List Sg} {at_ : List Int} (h : QV base b A cap w l at_) (k : Nat) (x : Int) : QV base b A cap (w.setCell ⟨b, 1 + k, none⟩ (.int .i64 x)) l (at_.set k x) ∧ Fr base w (w.setCell ⟨b, 1 + k, none⟩ (.int .i64 x)) := by
  refine ⟨⟨h.bb, by simp [h.len], ?_, ?_, h.apart⟩, ?_⟩
  · rw [heap_setCell_at _ _ _ _ _ _ _ h.box, boxCells_set]
  · exact h.row.kept (row := some b) ⟨rfl, rfl, rfl, by simp [World.setCell], fun i hi hne => Below.heap_setCell _ _ _ _ (by simpa using hne)⟩ (.inr h.apart)
  · exact (Fr.refl base w).setCell _ _ h.bb _ _ (.inl h.box)
theorem QV.drew {base b cap : Nat} {A : Option Addr} {w : World} {l : List Sg} {at_ : List Int} (h : QV base b A cap w l at_) : QV base b A cap w.drew l at_ := ⟨h.bb, h.len, h.box, h.row, h.apart⟩
theorem QV.below {base b cap : Nat} {A : Option Addr} {w w' : World} {l : List Sg} {at_ : List Int} (h : QV base b A cap w l at_) (hb : Below w.heap.size w w') : QV base b A cap w' l at_ :=
  ⟨h.bb, h.len, (hb.block b (Array.getElem?_eq_some_iff.1 h.box).1).trans h.box, h.row.kept (row := none) ⟨hb.os, hb.tape, hb.output, hb.size, fun i hi _ => hb.block i hi⟩ (Classical.em _), h.apart⟩
theorem QV.cell0 {base b cap : Nat} {A : Option Addr} {w : World} {l : List Sg} {at_ : List Int} (h : QV base b A cap w l at_) : w.cell? ⟨b, 0, none⟩ = some (.slice A l.length cap) := by
  simp [World.cell?, h.box, boxCells]
theorem QV.cellAt {base b cap : Nat} {A : Option Addr} {w : World} {l : List Sg} {at_ : List Int} (h : QV base b A cap w l at_) (k : Nat) (hk : k < at_.length) : w.cell? ⟨b, 1 + k, none⟩ = some (.int .i64 at_[k]) := by
  simp [World.cell?, h.box, boxCells_at _ _ k hk]
theorem QV.frz {base b cap : Nat} {A : Option Addr} {w : World} {l : List Sg} {at_ : List Int} (h : QV base b A cap w l at_) (k : Nat) : w.frozen? ⟨b, k, none⟩ = false := by simp [World.frozen?, h.box]
theorem QV.lt {base b cap : Nat} {A : Option Addr} {w : World} {l : List Sg} {at_ : List Int} (h : QV base b A cap w l at_) : b < w.heap.size := (Array.getElem?_eq_some_iff.1 h.box).1

theorem info51 : (Try.prog.info? 51).map (fun i => (i.zero, i.size, i.bytes)) = some (some (.agg #[.int .i64 0, .int .i64 0]), 2, 16) := by kernel_rfl
theorem frz_alloc {w : World} {b : Nat} {o : Obj} (h : b < w.heap.size) : (w.alloc o).drew.frozen? ⟨b, 0, none⟩ = w.frozen? ⟨b, 0, none⟩ :=
  (((Below.refl _ _).alloc (Nat.le_refl _) o).drew).frozen (p := ⟨b, 0, none⟩) h
theorem cell_alloc {w : World} {b : Nat} {o : Obj} (h : b < w.heap.size) : (w.alloc o).drew.cell? ⟨b, 0, none⟩ = w.cell? ⟨b, 0, none⟩ :=
  (((Below.refl _ _).alloc (Nat.le_refl _) o).drew).cell (p := ⟨b, 0, none⟩) h
theorem grown_alloc (w : World) (o : Obj) (row : Option Nat) : w.grownBy (w.alloc o).drew row :=
  let h := World.grownBy_alloc w o row
  ⟨h.os, h.tape, h.output, h.size, h.block⟩
def pushA (l : List Sg) (a : List Int) (s : Sg) : List Int := a.set s.1.toNat l.length

/-- What an append to the row leaves, the box's first cell set. -/
theorem push_done {base b cap cap' g : Nat} {A : Option Addr} {W w1 : World} {l : List Sg} {at_ : List Int} (q : QV base b A cap W l at_) (s : Sg)
    (hown : w1.ownsRow base 51 2 (.slice (some ⟨g, 0, none⟩) (l.length + 1) cap') (l.length + 1) (sigCells l ++ [.int .i64 s.1, .int .i64 s.2]))
    (hg : W.grownBy w1 (Value.slice A l.length cap).ownBlock) (hgb : g ≠ b) :
    QRow base b g cap' (w1.setCell ⟨b, 0, none⟩ (.slice (some ⟨g, 0, none⟩) (l.length + 1) cap')) (l ++ [s]) at_ ∧ Fr base W (w1.setCell ⟨b, 0, none⟩ (.slice (some ⟨g, 0, none⟩) (l.length + 1) cap')) := by
  have hbx : w1.heap[b]? = some (.cells (boxCells (.slice A l.length cap) at_) 45 (0, 0)) := (hg.block b q.lt (Ne.symm q.apart)).trans q.box
  refine ⟨⟨q.bb, q.len, ?_, ?_⟩, ?_⟩
  · rw [heap_setCell_at _ _ _ _ _ _ _ hbx, boxCells_setv]
    simp
  · have h := hown.kept (w' := w1.setCell ⟨b, 0, none⟩ (.slice (some ⟨g, 0, none⟩) (l.length + 1) cap')) (row := some b) ⟨rfl, rfl, rfl, by simp [World.setCell], fun i hi hne => Below.heap_setCell _ _ _ _ (by simpa using hne)⟩ (.inr (by simpa [Value.ownBlock] using hgb))
    have e : sigCells l ++ [.int .i64 s.1, .int .i64 s.2] = sigCells (l ++ [s]) := by simp [sigCells]
    rw [e] at h
    simpa using h
  · refine Fr.setCell ⟨hg.os, hg.tape, hg.output, hg.size, fun k hk ho => ?_⟩ _ _ q.bb _ _ (.inl hbx)
    refine hg.block k hk fun he => ?_
    rcases q.row.2 with ⟨hv, _⟩ | ⟨g', cap'', cur, hv, hb', hh, _⟩
    · rw [hv] at he
      simp [Value.ownBlock] at he
    · rw [hv] at he
      simp [Value.ownBlock] at he
      subst he
      rcases ho with ho | ho
      · omega
      · exact (ho _ _).2 hh

theorem assert51 (v : Value) (w : World) : (Instr.typeAssert (.iface 51 v) 20 51 true).run Try.prog w = .ok (.tuple #[v, .bool true]) w := by kernel_rfl
set_option maxHeartbeats 1600000 in
theorem push72 (base b : Nat) (w : World) (l : List Sg) (at_ : List Int) (h : QIs base b w l at_) (s : Sg) (hs0 : 0 ≤ s.1) (hs1 : s.1 < 64) (hn : l.length ≤ 1000) (hbase : base ≤ w.heap.size) :
    Calls Try.prog 72 #[.pointer (some ⟨b, 0, none⟩), .iface 51 (.agg #[.int .i64 s.1, .int .i64 s.2])] w fun e w' => e = .returned (.tuple #[]) ∧ QIs base b w' (l ++ [s]) (pushA l at_ s) ∧ Fr base w w' := by
  obtain ⟨m, d⟩ := s
  obtain ⟨m, rfl⟩ := Int.eq_ofNat_of_zero_le hs0
  simp only at hs1 hs0 ⊢
  obtain ⟨A, cap, q⟩ := h.view
  clear h
  have hm : m < at_.length := by rw [q.len]; omega
  obtain ⟨i0, hi0, hz0, hz1, hz2⟩ := info_parts info51
  have hta := assert51
  have b0 := q.lt
  go_enter Try.func72, Try.ntmps72
  go_wp2
  have hbel : Below w.heap.size w (w.alloc (.cells #[.int .i64 m, .int .i64 d] 51)) := (Below.refl _ _).alloc (Nat.le_refl _) _
  have t0 : (w.alloc (.cells #[.int .i64 m, .int .i64 d] 51)).cell? ⟨w.heap.size, 0, none⟩ = some (.int .i64 m) := by simp [go_sem]
  have t1 : (w.alloc (.cells #[.int .i64 m, .int .i64 d] 51)).cell? ⟨w.heap.size, 1, none⟩ = some (.int .i64 d) := by simp [go_sem]
  have tz : w.heap.size < (w.alloc (.cells #[.int .i64 m, .int .i64 d] 51)).heap.size := by simp
  generalize w.alloc (.cells #[.int .i64 m, .int .i64 d] 51) = W at *
  have hne : ¬ (w.heap.size = b) := by omega
  have hbt : base ≤ w.heap.size := hbase
  have hapt : (Value.slice A l.length cap).ownBlock ≠ some w.heap.size := fun he => Nat.lt_irrefl _ (q.row.lt _ he).2
  have q1 := q.below hbel
  have frW : Fr base w W := Fr.of_below hbel
  replace frW := Lib.hid frW
  clear q hbel hbase b0
  generalize w.heap.size = t at *
  have c0 := q1.cell0
  obtain ⟨x0, c1⟩ : ∃ x, W.cell? ⟨b, 1 + m, none⟩ = some x := ⟨_, q1.cellAt m hm⟩
  have z1 := q1.frz (1 + m)
  have hm1 : (m : Int) < 64 := hs1
  have P := q1.place m l.length
  replace q1 := Lib.hid q1
  replace P := Lib.hid P
  go_region
  go_wp2
  -- region 3
  have q2 := P.out.1.drew
  have fr2 := (frW.out.trans P.out.2).drew
  have t0' : (W.setCell ⟨b, 1 + m, none⟩ (.int .i64 l.length)).drew.cell? ⟨t, 0, none⟩ = some (.int .i64 m) := by simp [go_sem, t0]
  have t1' : (W.setCell ⟨b, 1 + m, none⟩ (.int .i64 l.length)).drew.cell? ⟨t, 1, none⟩ = some (.int .i64 d) := by simp [go_sem, t1]
  have tz' : t < (W.setCell ⟨b, 1 + m, none⟩ (.int .i64 l.length)).drew.heap.size := by simpa [World.setCell] using tz
  clear P frW q1 c0 c1 z1 t0 t1 tz
  generalize (W.setCell ⟨b, 1 + m, none⟩ (.int .i64 l.length)).drew = W2 at *
  clear W
  have c0 := q2.cell0
  have z0 := q2.frz 0
  have b2 := q2.lt
  have hown := q2.row
  have hap := q2.apart
  replace q2 := Lib.hid q2
  replace fr2 := Lib.hid fr2
  go_region_law ((refine step_append_lies _ (by rfl) _ _ _ (by rfl) base 51 i0 _ 2 16 Try.underlying39 hi0 hz0 hz1 hz2 rfl (by omega) (.slice A l.length cap) l.length (sigCells l) (by rfl) ((hown.alloc _).drew) ⟨W2.heap.size, 0, none⟩ 1 1 [.int .i64 m, .int .i64 d] (by rfl) (by rfl) (World.news_of_block (cs := #[.int .i64 m, .int .i64 d]) (t := 51) (fr := (0, 0)) (heap_alloc_new W2 _)) (by simp [Value.oneCell']) (by omega) (by unfold maxLen; omega) (by omega) (by simp; omega) (W2.heap.size + 1) (by simp) ?_; intro g cap' w1 hown1 hgrow hat hlt; have hfz : w1.frozen? ⟨b, 0, none⟩ = false := (hgrow.frozen_far ⟨b, 0, none⟩ (by simp; omega) (Ne.symm hap)).trans ((frz_alloc b2).trans z0); have hcb : w1.cell? ⟨b, 0, none⟩ = some (.slice A l.length cap) := (hgrow.cell_far ⟨b, 0, none⟩ (by simp; omega) (Ne.symm hap)).trans ((cell_alloc b2).trans c0)))
  all_goals
    go_wp2
    go_end0
    have hg2 : W2.grownBy w1 (Value.slice A l.length cap).ownBlock := World.grownBy.trans (grown_alloc W2 _ _) hgrow
    have hgb : g ≠ b := by
      rintro rfl
      rcases hat with hat | hat
      · exact hap hat
      · omega
    have D := push_done q2.out (s := ((m : Int), d)) hown1 hg2 hgb
    exact ⟨rfl, .inl ⟨g, cap', D.1⟩, fr2.out.trans D.2⟩
end Go.Proofs.Ythndenpgkdjkiaa

namespace Go.Proofs.Ythndenpgkdjkiaa
open Go.RowKit
set_option linter.unusedVariables false
set_option maxRecDepth 100000

theorem pop_done {base b g cap : Nat} {w : World} {l : List Sg} {s : Sg} {at_ : List Int} (q : QRow base b g cap w (l ++ [s]) at_) :
    QRow base b g cap (w.setCell ⟨b, 0, none⟩ (.slice (some ⟨g, 0, none⟩) l.length cap)) l at_ ∧ Fr base w (w.setCell ⟨b, 0, none⟩ (.slice (some ⟨g, 0, none⟩) l.length cap)) := by
  refine ⟨⟨q.bb, q.len, ?_, ?_⟩, (Fr.refl base w).setCell _ _ q.bb _ _ (.inl q.box)⟩
  · rw [heap_setCell_at _ _ _ _ _ _ _ q.box, boxCells_setv]
  · refine ⟨sigCells_length l, .inr ?_⟩
    rcases q.row.2 with ⟨hv, _⟩ | ⟨g', cap', cur, hv, hb, hh, hn, hc, hs, ht⟩
    · cases hv
    · injection hv with h1 h2 h3
      injection h1 with h1
      injection h1 with h1
      subst h1 h3
      refine ⟨g, cap, cur, rfl, hb, ?_, ?_, hc, hs, ?_⟩
      · rw [Below.heap_setCell _ _ _ _ (Ne.symm q.ne)]
        exact hh
      · simp at hn
        omega
      · have e : sigCells (l ++ [s]) = sigCells l ++ sigCells [s] := sigCells_append _ _
        rw [e] at ht
        have := congrArg (List.take (l.length * 2)) ht
        rw [List.take_take, List.take_left' (sigCells_length l)] at this
        rw [← this]
        congr 1
        simp
set_option maxHeartbeats 1600000 in
theorem pop71 (base b : Nat) (w : World) (l : List Sg) (s : Sg) (at_ : List Int) (h : QIs base b w (l ++ [s]) at_) (hs0 : 0 ≤ s.1) (hs1 : s.1 < 64) (hn : l.length ≤ 1000) (hbase : base ≤ w.heap.size) :
    Calls Try.prog 71 #[.pointer (some ⟨b, 0, none⟩)] w fun e w' => e = .returned (.iface 51 (.agg #[.int .i64 s.1, .int .i64 s.2])) ∧ QIs base b w' l (at_.set s.1.toNat (-1)) ∧ Fr base w w' := by
  obtain ⟨m, d⟩ := s
  obtain ⟨m, rfl⟩ := Int.eq_ofNat_of_zero_le hs0
  simp only at hs1 hs0 ⊢
  obtain ⟨g, cap, q⟩ := h.row (by simp)
  have hle : l.length + 1 ≤ cap := by
    rcases q.row.2 with ⟨hv, _⟩ | ⟨g', cap', cur, hv, hb, hh, hn, hc, hs, ht⟩
    · cases hv
    · injection hv with h1 h2 h3
      subst h3
      simpa using hn
  have c0 := q.cell0
  have e0 := q.c1 l.length (by simp)
  have e1 := q.c2 l.length (by simp)
  simp only [List.length_append, List.length_cons, List.length_nil, List.getElem_concat_length, Nat.zero_add] at c0 e0 e1
  have b0 := q.view.lt
  have b1 := q.gb.2
  have hne := q.ne
  have z0 := q.frz 0
  have D := pop_done q
  replace D := Lib.hid D
  clear q h
  go_enter Try.func71, Try.ntmps71
  go_wp2
  obtain ⟨q1, f1⟩ := D.out
  have hsz : w.heap.size = (w.setCell ⟨b, 0, none⟩ (.slice (some ⟨g, 0, none⟩) l.length cap)).heap.size := by simp [World.setCell]
  clear D c0 e0 e1 z0
  generalize w.setCell ⟨b, 0, none⟩ (.slice (some ⟨g, 0, none⟩) l.length cap) = W at *
  rw [hsz] at b0 b1 hbase ⊢
  clear hsz
  have hbel : Below W.heap.size W (W.alloc (.cells #[.int .i64 m, .int .i64 d] 51)) := (Below.refl _ _).alloc (Nat.le_refl _) _
  have t0 : (W.alloc (.cells #[.int .i64 m, .int .i64 d] 51)).cell? ⟨W.heap.size, 0, none⟩ = some (.int .i64 m) := by simp [go_sem]
  have t1 : (W.alloc (.cells #[.int .i64 m, .int .i64 d] 51)).cell? ⟨W.heap.size, 1, none⟩ = some (.int .i64 d) := by simp [go_sem]
  have q2 := q1.below hbel
  have f2 := f1.trans (Fr.of_below (base := base) hbel)
  generalize W.alloc (.cells #[.int .i64 m, .int .i64 d] 51) = W1 at *
  have htb : ¬ (W.heap.size = b) := by omega
  generalize W.heap.size = t at *
  clear hbel q1 f1 b0 b1 hbase W
  have hm : m < at_.length := by rw [q2.len]; omega
  obtain ⟨x0, c1⟩ : ∃ x, W1.cell? ⟨b, 1 + m, none⟩ = some x := ⟨_, q2.cellAt m hm⟩
  have z1 := q2.frz (1 + m)
  have hm1 : (m : Int) < 64 := hs1
  have P := q2.place m (-1)
  replace q2 := Lib.hid q2
  replace f2 := Lib.hid f2
  replace P := Lib.hid P
  go_region
  go_wp2
  go_ret
  exact ⟨rfl, .inl ⟨g, cap, P.out.1.drew⟩, (f2.out.trans P.out.2).drew⟩
end Go.Proofs.Ythndenpgkdjkiaa
