import Derived.Test.YthndenpgkdjkiaaDoorTNumber
import Derived.Test.YthndenpgkdjkiaaDoorTBuild
import Derived.Lib.AppendIntMem
import Derived.Lib.ItoaLen
import Derived.Sort.Grow
namespace Go.Proofs.YthndenpgkdjkiaaDoor
open Go.Shelf Go.RowKit Go.Sort
set_option linter.unusedVariables false
set_option maxRecDepth 100000

/-- What the library's own variables must hold: the powers of ten, and some number as bytealg's greatest length. -/
structure Env (w : World) : Prop where
  tab : Lib.TabIs Tryd.prog w "internal/strconv.uint64pow10" .u64 Lib.pow10Tab
  mx : ∃ m, w.cell? ⟨1, 0, none⟩ = some (.int .i64 m)
theorem Env.below {w w' : World} (h : Env w) (hb : Below w.heap.size w w') : Env w' := by
  refine ⟨Lib.tabBelow_of_tabIs h.tab w' hb, ?_⟩
  obtain ⟨m, hm⟩ := h.mx
  exact ⟨m, (hb.cell (World.block_lt_of_cell? w _ hm)).trans hm⟩
theorem below_grow {w : World} (k : Nat) (os : Array Obj) : Below w.heap.size w (grow (w.drewN k) os) :=
  ⟨rfl, rfl, rfl, by simp, fun i hi => heap_grow_old (w.drewN k) os hi⟩
theorem itoa_len (n : Int) (h : inI n) : (Lib.itoa n).length ≤ 21 := Lib.itoa_length_le n h.1 h.2
theorem addStr (l m : Bs) (h : l.length + m.length ≤ 9223372036854775807) (w : World) : (Op.stringOp .add ⟨l.toArray⟩ ⟨m.toArray⟩).run Tryd.prog w = .ok (.string ⟨(l ++ m).toArray⟩) w := by
  have h1 := run_string_add_sum (P := Tryd.prog) (w := w) ⟨l.toArray⟩ ⟨m.toArray⟩ (by show l.toArray.size + m.toArray.size ≤ _; simpa using h)
  rw [h1]
  congr 2
theorem itoa84 (n : Int) (h : inI n) (w : World) (he : Env w) : Calls Tryd.prog 84 #[.int .i64 n] w fun e w' => e = .returned (.string ⟨(Lib.itoa n).toArray⟩) ∧ Below w.heap.size w w' := by
  refine (Tryd.strconv_Itoa n h.1 h.2 w he.tab).mono ?_
  rintro e w' ⟨rfl, k, os, rfl⟩
  exact ⟨rfl, below_grow k os⟩
def lineOf (a b c : Int) : Bs := Lib.itoa a ++ [32] ++ Lib.itoa b ++ [32] ++ Lib.itoa c

theorem line59 (a b c : Int) (ha : inI a) (hb : inI b) (hc : inI c) (w : World) (he : Env w) :
    Calls Tryd.prog 59 #[.int .i64 a, .int .i64 b, .int .i64 c] w fun e w' => e = .returned (.string ⟨(lineOf a b c).toArray⟩) ∧ Below w.heap.size w w' := by
  have la := itoa_len a ha
  have lb := itoa_len b hb
  have lc := itoa_len c hc
  have a1 := addStr (Lib.itoa a) [32] (by simp; omega)
  have a2 := addStr (Lib.itoa a ++ [32]) (Lib.itoa b) (by simp; omega)
  have a3 := addStr (Lib.itoa a ++ [32] ++ Lib.itoa b) [32] (by simp; omega)
  have a4 := addStr (Lib.itoa a ++ [32] ++ Lib.itoa b ++ [32]) (Lib.itoa c) (by simp; omega)
  go_enter Tryd.func59, Tryd.ntmps59
  go_wp2_with fail
  refine (itoa84 a ha _ he).mono ?_
  rintro e w1 ⟨rfl, h1⟩
  go_wp2_with fail
  refine (itoa84 b hb _ (he.below h1)).mono ?_
  rintro e w2 ⟨rfl, h2⟩
  go_wp2_with fail
  refine (itoa84 c hc _ ((he.below h1).below h2)).mono ?_
  rintro e w3 ⟨rfl, h3⟩
  go_wp2
  go_ret
  refine ⟨?_, (h1.trans (h2.mono h1.size)).trans (h3.mono (Nat.le_trans h1.size h2.size))⟩
  show Ending.returned (Value.string _) = _
  congr 2
  apply ByteArray.ext
  simp [lineOf]
end Go.Proofs.YthndenpgkdjkiaaDoor
