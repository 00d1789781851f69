import Derived.Test.YthndenpgkdjkiaaDoorTRow
import Derived.Test.YthndenpgkdjkiaaDoorTEv8
namespace Go.Proofs.YthndenpgkdjkiaaDoor
open Go.ChangeShapes Go.WideShapes Go.ChangeAt Go.RowKit
set_option linter.unusedVariables false
set_option maxRecDepth 100000
/-- Arguments that are events. -/
theorem open_evs {H : Type} {enc : TypeId × Value → H} {W : World} {r : Reach} {b0 base : Nat} {spare : Nat → Bool} {held : Bool} {v : Value} {d : DataW H} {p : List MemPlace}
    (hval : Value.okWide Tryd.prog W r b0 35 v) (h : DataW.Trod enc Tryd.prog W base spare held 35 v d p) : ∃ ao n cap l, v = .slice ao n cap ∧ l.length = n ∧ Sl5 W v l ∧ ∀ t ∈ l, inEv t := by
  have ho := open_recs Tryd.underlying35 Tryd.underlying72 (by kernel_rfl) (by kernel_rfl) (ints_of _ _ (by kernel_rfl)) hval h
  rcases ho with rfl | ⟨a, len, cap, rfl, hl, hm, hc⟩
  · exact ⟨none, 0, 0, [], rfl, rfl, .inl ⟨rfl, rfl⟩, by simp⟩
  · simp only [List.size_toArray, List.length_cons, List.length_nil, Nat.zero_add, Nat.reduceAdd] at hc
    obtain ⟨f, hf⟩ := Go.Deep.choose_lt (α := Ev) (n := len) (p := fun i t => (∀ j v, (evCells t)[j]? = some v → W.cell? (ofs (a.add (i * 5)) j) = some v) ∧ inEv t) (fun i hi => by
      obtain ⟨x, hx, ix⟩ := hc i hi 0 (by omega)
      obtain ⟨y, hy, iy⟩ := hc i hi 1 (by omega)
      obtain ⟨z, hz, iz⟩ := hc i hi 2 (by omega)
      obtain ⟨u, hu, iu⟩ := hc i hi 3 (by omega)
      obtain ⟨q, hq, iq⟩ := hc i hi 4 (by omega)
      refine ⟨(x, y, z, u, q), fun j v hj => ?_, ix, iy, iz, iu, iq⟩
      match j, hj with
      | 0, hj => injection hj with hj; subst hj; exact hx
      | 1, hj => injection hj with hj; subst hj; exact hy
      | 2, hj => injection hj with hj; subst hj; exact hz
      | 3, hj => injection hj with hj; subst hj; exact hu
      | 4, hj => injection hj with hj; subst hj; exact hq
      | j + 5, hj => simp [evCells] at hj)
    have hlen : ((List.range len).map f).length = len := by simp
    refine ⟨some a, len, cap, (List.range len).map f, rfl, hlen, .inr ⟨a, cap, by rw [hlen], by rw [hlen]; exact hl, hm, fun k t hk => ?_⟩, fun t ht => ?_⟩
    · have hk' : k < len := by have := (List.getElem?_eq_some_iff.1 hk).1; rw [hlen] at this; exact this
      have : f k = t := by simpa [List.getElem?_map, List.getElem?_range hk'] using hk
      subst this
      exact (hf k hk').1
    · obtain ⟨i, hi, rfl⟩ := List.mem_map.1 ht
      exact (hf i (List.mem_range.1 hi)).2
end Go.Proofs.YthndenpgkdjkiaaDoor
