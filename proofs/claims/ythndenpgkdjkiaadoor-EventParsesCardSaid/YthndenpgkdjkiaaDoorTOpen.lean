import Derived.Test.YthndenpgkdjkiaaDoorTNum
import Derived.Test.YthndenpgkdjkiaaDoorProg
import Derived.Deep.Slices
import Derived.Deep.Fields
import Derived.ChangeSame
import Derived.ChangeArms
import Derived.Lib.SmallJoins
import Derived.OpenShut
import Derived.ChangeMaps5
namespace Go.Proofs.YthndenpgkdjkiaaDoor
open Go.ChangeShapes Go.WideShapes Go.Deep
set_option linter.unusedVariables false

section
variable {H : Type} {enc : TypeId × Value → H} {P : Program} {w : World} {base : Nat} {spare : Nat → Bool} {held : Bool}
theorem wf_inI {n : Int} (h : (Lit.int .i64 n).wf = true) : inI n := by
  simp [Lit.wf, IntKind.min, IntKind.max] at h
  obtain ⟨h1, h2⟩ := h
  have h1 : (-9223372036854775808 : Int) ≤ n := of_decide_eq_true h1
  have h2 : n ≤ (9223372036854775807 : Int) := of_decide_eq_true h2
  exact ⟨h1, h2⟩
/-- The cells of a struct of ints. -/
theorem struct_ints {e : TypeId} {fs : Array Field} {fuel : Nat} {cs : List Value} {x : DataW H × List MemPlace} (he : P.underlying e = some (.struct fs)) (hone : oneCellFields P fs = true) (hC : P.cellsOf e = fs.size)
    (hint : ∀ (j : Nat) f, fs[j]? = some f → P.underlying f.type = some (.int .i64)) (h : DataW.trod enc P w base spare held fuel e cs = some x) :
    cs.length = fs.size ∧ ∀ j, j < fs.size → ∃ n : Int, cs[j]? = some (.int .i64 n) ∧ inI n := by
  obtain ⟨xs, n, _, hx, hlen, hxl, hf⟩ := DataW.trod_struct he h
  refine ⟨hlen.trans hC, fun j hj => ?_⟩
  have hfj : fs[j]? = some fs[j] := Array.getElem?_eq_getElem hj
  obtain ⟨ho, hk⟩ := hone_of hone j _ hfj
  have h1 := hf j _ hfj
  rw [ho, hk] at h1
  have hjc : j < cs.length := by rw [hlen, hC]; exact hj
  have hone' : (cs.drop j).take 1 = [cs[j]'hjc] := by
    rw [List.drop_eq_getElem_cons hjc]
    rfl
  rw [hone', List.getElem?_eq_getElem (by omega)] at h1
  obtain ⟨m, e1, _, e3⟩ := DataW.trod_int (hint j _ hfj) h1
  simp only [List.cons.injEq, and_true] at e1
  exact ⟨m, by rw [List.getElem?_eq_getElem hjc, e1], wf_inI e3⟩
def isI64 (P : Program) (f : Field) : Bool := match P.underlying f.type with
  | some (.int .i64) => true
  | _ => false
theorem ints_of (P : Program) (fs : Array Field) (h : fs.all (isI64 P) = true) (j : Nat) (f : Field) (hf : fs[j]? = some f) : P.underlying f.type = some (.int .i64) := by
  obtain ⟨hj, rfl⟩ := Array.getElem?_eq_some_iff.1 hf
  have := Array.all_eq_true.1 h j hj
  unfold isI64 at this
  split at this
  · assumption
  · cases this
/-- A slice of structs of ints: each cell. -/
theorem open_recs {t e : TypeId} {fs : Array Field} {r : Reach} {b0 : Nat} {v : Value} {d : DataW H} {p : List MemPlace} (ht : P.underlying t = some (.slice e)) (he : P.underlying e = some (.struct fs)) (hone : oneCellFields P fs = true) (hC : P.cellsOf e = fs.size)
    (hint : ∀ (j : Nat) f, fs[j]? = some f → P.underlying f.type = some (.int .i64)) (hval : Value.okWide P w r b0 t v) (h : DataW.Trod enc P w base spare held t v d p) :
    v = .slice none 0 0 ∨ ∃ (a : Addr) (len cap : Nat), v = .slice (some a) len cap ∧ len ≤ cap ∧ cap ≤ maxLen ∧
      ∀ i, i < len → ∀ j, j < fs.size → ∃ n : Int, w.cell? ((a.add (i * fs.size)).add j) = some (.int .i64 n) ∧ inI n := by
  obtain ⟨ao, len, cap, rfl⟩ := okWide_slice ht hval
  obtain ⟨fuel, hf⟩ := h
  rcases open_slice ht hf with ⟨h0, _⟩ | ⟨a, len', cap', m, n, D, Pl, hcs, hb, hl, hm, hmm, hx, hi⟩
  · simp [Value.cells] at h0
    exact .inl (by rw [h0.1, h0.2.1, h0.2.2])
  · simp [Value.cells] at hcs
    obtain ⟨rfl, rfl, rfl⟩ := hcs
    refine .inr ⟨a, len, cap, rfl, hl, hm, fun i hil j hj => ?_⟩
    obtain ⟨cs, hc, htr⟩ := hi i (by rw [hmm]; split <;> omega)
    rw [hC] at hc
    obtain ⟨hcl, hat⟩ := struct_ints he hone hC hint htr
    obtain ⟨z, hz, hin⟩ := hat j hj
    obtain ⟨_, _, hcell⟩ := World.cells?_some hc
    exact ⟨z, by rw [hcell j hj, hz], hin⟩
end
end Go.Proofs.YthndenpgkdjkiaaDoor
