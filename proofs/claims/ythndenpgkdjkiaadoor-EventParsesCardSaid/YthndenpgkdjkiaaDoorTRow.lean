import Derived.Test.YthndenpgkdjkiaaDoorTScript10
import Derived.Test.YthndenpgkdjkiaaDoorTOpen
import Derived.Test.YthndenpgkdjkiaaDoorCards
import Derived.Test.YthndenpgkdjkiaaDoorTie
import Derived.WalkKit
import Derived.ProofKit
import Derived.OpenShut
import Derived.Deep.DeepHandedRow
import Derived.Lib.LaidTab
import Derived.Lib.LaidU8
import Derived.Lay
import Derived.MakeChecks
namespace Go.Proofs.YthndenpgkdjkiaaDoor
open Go.ChangeShapes Go.WideShapes Go.ChangeAt Go.RowKit
set_option linter.unusedVariables false
set_option maxRecDepth 100000

theorem own : ownKnob Tryd.prog.godebug = none := by kernel_rfl
theorem gPow : Tryd.prog.globalNamed "internal/strconv.uint64pow10" = some 2 := by kernel_rfl
theorem gPowType : (Tryd.prog.globals[2]?).map (·.type) = some 206 := by kernel_rfl
theorem cells206 : Tryd.prog.cellsOf 206 = 20 := by kernel_rfl
theorem cells188 : Tryd.prog.cellsOf 188 = 1 := by kernel_rfl
theorem powData : (Rows.laid_internal_strconv_uint64pow10 : DataW Unit) = Lib.tabData .u64 Lib.pow10Tab := by kernel_rfl
theorem pow_of {W : World} {l : List (String × DataW Unit)} (h : laidMet Tryd.prog l W) (hm : ("internal/strconv.uint64pow10", (Rows.laid_internal_strconv_uint64pow10 : DataW Unit)) ∈ l) :
    Lib.TabIs Tryd.prog W "internal/strconv.uint64pow10" .u64 Lib.pow10Tab := by
  obtain ⟨g', t', cs, fuel, p, hg', ht', hvar, hd⟩ := Lib.laidMet.reads h hm
  obtain rfl := Option.some.inj (gPow.symm.trans hg')
  obtain rfl := Option.some.inj (gPowType.symm.trans ht')
  rw [powData] at hd
  unfold Lib.TabIs
  rw [hvar, ← Lib.cells_of_tab Tryd.underlying206 Tryd.underlying188 cells188 cells206 hd]
theorem env_of {W : World} {l : List (String × DataW Unit)} (hp : (l.all fun x => x.2.handleName?.isNone) = true) (h : laidMetH Tryd.prog l W) (hm : ("internal/strconv.uint64pow10", (Rows.laid_internal_strconv_uint64pow10 : DataW Unit)) ∈ l)
    (hs : W.ShapedOpen Tryd.prog) : Env W := by
  rw [MakeChecks.laidMetH_plain _ _ _ hp] at h
  exact ⟨pow_of h hm, Tryd.laysM145.s1_3 W hs⟩
theorem laidOut : laidOutB Tryd.prog = true := by kernel_rfl
/-- The arguments read as they did. -/
theorem belowAllP {P : Program} {H : Type} {enc : TypeId × Value → H} {W W' : World} (hl : laidOutB P = true) (hb : Below W.heap.size W W') (ts : List TypeId) : ∀ (vs : List Value) (ds : List (DataW H)) (ps : List MemPlace),
    (ts.all fun t => P.readableRec t && decide (t < P.types.size)) = true → (∀ x ∈ ps, x.block < W.heap.size) →
    DataW.TrodAll enc P W 0 (fun _ => true) true ts vs ds ps → DataW.TrodAll enc P W' 0 (fun b => decide (b < W.heap.size)) true ts vs ds ps := by
  induction ts with
  | nil =>
    intro vs ds ps _ _ h
    obtain ⟨rfl, rfl, rfl⟩ := trodAll_nil h
    rfl
  | cons t ts ih =>
    intro vs ds ps ht hlt h
    obtain ⟨v, vs', d, ds', p, q, rfl, rfl, rfl, h1, h2⟩ := trodAll_cons h
    simp only [List.all_cons, Bool.and_eq_true, decide_eq_true_eq] at ht
    refine trodAll_cons_mk (Below.trod hl ht.1.1 ht.1.2 h1 hb (fun x hx => hlt x (List.mem_append_left _ hx))) (ih vs' ds' q ?_ (fun x hx => hlt x (List.mem_append_right _ hx)) h2)
    simpa using ht.2
theorem belowAll {H : Type} {enc : TypeId × Value → H} {W W' : World} (hb : Below W.heap.size W W') (ts : List TypeId) (vs : List Value) (ds : List (DataW H)) (ps : List MemPlace)
    (ht : (ts.all fun t => Tryd.prog.readableRec t && decide (t < Tryd.prog.types.size)) = true) (hlt : ∀ x ∈ ps, x.block < W.heap.size)
    (h : DataW.TrodAll enc Tryd.prog W 0 (fun _ => true) true ts vs ds ps) : DataW.TrodAll enc Tryd.prog W' 0 (fun b => decide (b < W.heap.size)) true ts vs ds ps := belowAllP laidOut hb ts vs ds ps ht hlt h
/-- Arguments that are entries. -/
theorem open_ents {H : Type} {enc : TypeId × Value → H} {W : World} {r : Reach} {b0 base : Nat} {spare : Nat → Bool} {held : Bool} {v : Value} {d : DataW H} {p : List MemPlace}
    (hval : Value.okWide Tryd.prog W r b0 22 v) (h : DataW.Trod enc Tryd.prog W base spare held 22 v d p) : ∃ ao n cap l, v = .slice ao n cap ∧ l.length = n ∧ Sl3 W v l ∧ ∀ t ∈ l, inE t := by
  have ho := open_recs Tryd.underlying22 Tryd.underlying85 (by kernel_rfl) (by kernel_rfl) (ints_of _ _ (by kernel_rfl)) hval h
  rcases ho with rfl | ⟨a, len, cap, rfl, hl, hm, hc⟩
  · exact ⟨none, 0, 0, [], rfl, rfl, .inl ⟨rfl, rfl⟩, by simp⟩
  · simp only [List.size_toArray, List.length_cons, List.length_nil, Nat.zero_add, Nat.reduceAdd] at hc
    obtain ⟨f, hf⟩ := Go.Deep.choose_lt (α := Ent) (n := len) (p := fun i t => (W.cell? (a.add (i * 3)) = some (.int .i64 t.1) ∧ W.cell? ⟨(a.add (i * 3)).block, (a.add (i * 3)).off + 1, none⟩ = some (.int .i64 t.2.1) ∧ W.cell? ⟨(a.add (i * 3)).block, (a.add (i * 3)).off + 2, none⟩ = some (.int .i64 t.2.2)) ∧ inE t) (fun i hi => by
      obtain ⟨x, hx, ix⟩ := hc i hi 0 (by omega)
      obtain ⟨y, hy, iy⟩ := hc i hi 1 (by omega)
      obtain ⟨z, hz, iz⟩ := hc i hi 2 (by omega)
      exact ⟨(x, y, z), ⟨by simpa [Addr.add] using hx, hy, hz⟩, ix, iy, iz⟩)
    have hlen : ((List.range len).map f).length = len := by simp
    refine ⟨some a, len, cap, (List.range len).map f, rfl, hlen, .inr ⟨a, cap, by rw [hlen], by rw [hlen]; exact hl, hm, fun k t hk => ?_⟩, fun t ht => ?_⟩
    · have hk' : k < len := by have := (List.getElem?_eq_some_iff.1 hk).1; rw [hlen] at this; exact this
      have : f k = t := by simpa [List.getElem?_map, List.getElem?_range hk'] using hk
      subst this
      exact (hf k hk').1
    · obtain ⟨i, hi, rfl⟩ := List.mem_map.1 ht
      exact (hf i (List.mem_range.1 hi)).2
end Go.Proofs.YthndenpgkdjkiaaDoor
