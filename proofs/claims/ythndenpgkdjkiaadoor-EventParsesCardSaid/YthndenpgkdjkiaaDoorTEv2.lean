import Derived.Test.YthndenpgkdjkiaaDoorTEv1
import Derived.Test.YthndenpgkdjkiaaDoorTScript5
import Derived.Deep.RegionHeld3
import Derived.Deep.AppendLies
import Derived.Deep.DrawnRows
namespace Go.Proofs.YthndenpgkdjkiaaDoor
open Go.Shelf Go.RowKit Go.Sort
set_option linter.unusedVariables false
set_option maxRecDepth 100000
attribute [local go_sem ↓] Go.wp_at_zero Go.wp_at_succ

def strs (ws : List Bs) : List Value := ws.map fun b => .string (B b)
/-- A variable that holds words of its own. -/
def Wds (BB bw : Nat) (ws : List Bs) (w : World) : Prop := BB ≤ bw ∧ ∃ v, w.heap[bw]? = some (.cells #[v] 122 (0, 0)) ∧ w.ownsRow BB 9 1 v ws.length (strs ws) ∧ v.ownBlock ≠ some bw
theorem info9 : (Tryd.prog.info? 9).map (fun i => (i.zero, i.size, i.bytes)) = some (some (.string ByteArray.empty), 1, 16) := by kernel_rfl
theorem Env.drew {w : World} (h : Env w) : Env w.drew := h.below (Below.drew (Below.refl _ _))
def intCells (ns : List Int) : Array Value := (ns.map fun n => Value.int .i64 n).toArray
theorem own_set {w : World} {base e size n : Nat} {v : Value} {xs : List Value} (h : w.ownsRow base e size v n xs) {p : Addr} (hne : v.ownBlock ≠ some p.block) (u : Value) : (w.setCell p u).ownsRow base e size v n xs :=
  h.kept (row := some p.block) ⟨rfl, rfl, rfl, by simp [World.setCell], fun k _ hk => Below.heap_setCell _ _ _ _ (fun e => hk (by simp [e]))⟩ (Or.inr hne)
set_option maxHeartbeats 4000000 in
theorem put107 (BB bw gn : Nat) (ns : List Int) (hns : ∀ n ∈ ns, inI n) (hnl : ns.length ≤ 100) (ws : List Bs) (hws : ws.length ≤ 100) (w0 w : World) (he : Env w0) (h0 : Below w0.heap.size w0 w) (hBB : w0.heap.size ≤ BB) (hB : BB ≤ gn) (hgb : gn ≠ bw)
    (hg : w.heap[gn]? = some (.cells (intCells ns) 3 (0, 0))) (hw : Wds BB bw ws w) :
    Calls Tryd.prog 107 #[.slice (some ⟨gn, 0, none⟩) ns.length ns.length, .pointer (some ⟨bw, 0, none⟩)] w fun e w' => e = .returned (.tuple #[]) ∧ Wds BB bw (ws ++ ns.map Lib.itoa) w' ∧ Below BB w w' := by
  obtain ⟨i0, hi, hz0, hz1, hz2⟩ := info_parts info9
  obtain ⟨m, hm⟩ : ∃ m, ns.length = m := ⟨_, rfl⟩
  have hBw : BB < w.heap.size := Nat.lt_of_le_of_lt hB (blk_lt hg)
  rw [hm] at hnl ⊢
  go_enter Tryd.func107, Tryd.ntmps107
  go_wp2
  go_loopw [7] (fun i wr => ∃ k : Nat, i = .int .i64 (k : Int) ∧ k ≤ m ∧ Below BB w wr ∧ wr.heap[gn]? = some (.cells (intCells ns) 3 (0, 0)) ∧ Wds BB bw (ws ++ (ns.take k).map Lib.itoa) wr) (fun i _ => m - (intOf i).toNat)
  case atStart => exact ⟨0, rfl, Nat.zero_le _, Below.refl _ _, hg, by simpa using hw⟩
  case round =>
    obtain ⟨k, rfl, hk, hb, hgr, hwr⟩ := hrel
    by_cases hkm : k < m
    · have hkn : k < ns.length := by rw [hm]; exact hkm
      have c0 : wr.cell? ⟨gn, k, none⟩ = some (.int .i64 (ns[k]'hkn)) := by
        rw [Lib.cell_of_heap hgr]
        simp [intCells, hkn]
      have hin := hns _ (List.getElem_mem hkn)
      obtain ⟨hB2, v, hbk, hown, hne⟩ := hwr
      have d0 : wr.cell? ⟨bw, 0, none⟩ = some v := by rw [Lib.cell_of_heap hbk]; rfl
      have hlt : bw < wr.heap.size := blk_lt hbk
      have hltg : gn < wr.heap.size := blk_lt hgr
      generalize hx : ns[k]'hkn = x at c0 hin
      go_wp2
      have he2 : Env wr := he.below (h0.trans (hb.mono hBB))
      have hlen : (ws ++ List.map Lib.itoa (List.take k ns)).length ≤ 200 := by simp; omega
      generalize hW : ws ++ List.map Lib.itoa (List.take k ns) = W at hown hlen
      have he3 : ∀ X, Below wr.heap.size wr X → Env X := fun X h => he2.below h
      have key : ∀ X w2, Below wr.heap.size wr X → Below X.heap.size X w2 → w2.ownsRow BB 9 1 v W.length (strs W) ∧ w2.cell? ⟨bw, 0, none⟩ = some v ∧ w2.frozen? ⟨bw, 0, none⟩ = false ∧ Below wr.heap.size wr w2 := fun X w2 hX hb2 =>
        ⟨own_below hown (hX.trans (hb2.mono hX.size)) (fun k hk => (hown.lt k hk).2), ((hX.trans (hb2.mono hX.size)).cell (p := ⟨bw, 0, none⟩) hlt).trans d0, ((hX.trans (hb2.mono hX.size)).frozen (p := ⟨bw, 0, none⟩) hlt).trans (Lib.frozen_of_heap hbk 0), hX.trans (hb2.mono hX.size)⟩
      go_region_law (first
        | (go_simp; go_at_call 84; refine (itoa84 x hin _ (he3 _ (by repeat (first | exact Below.refl _ _ | apply Below.drew)))).mono ?_; rintro e w2 ⟨rfl, hb2⟩; obtain ⟨own2, d2, f2, z2⟩ := key _ w2 (by repeat (first | exact Below.refl _ _ | apply Below.drew)) hb2; have hz3 : bw < w2.heap.size := Nat.lt_of_lt_of_le hlt z2.size)
        | (have own3 := own2; refine step_append_lies _ (by rfl) _ _ _ (by rfl) BB 9 i0 _ 1 16 Tryd.underlying122 hi hz0 hz1 hz2 rfl (by omega) v W.length (strs W) (by rfl) ((own2.alloc _).drew) ⟨w2.heap.size, 0, none⟩ 1 1 [.string (B (Lib.itoa x))] (by rfl) (by rfl) (World.news_of_block (cs := #[.string (B (Lib.itoa x))]) (t := 9) (fr := (0, 0)) (alloc_new w2 _)) (by simp [Value.oneCell']) (by omega) (by unfold maxLen; omega) (by omega) (by simp; have := hb.size;  have := z2.size; omega) (w2.heap.size + 1) (by simp) ?_; intro g cap' w3 hown3 hgrow3 hat3 hlt3; have c3 : w3.cell? ⟨bw, 0, none⟩ = some v := (hgrow3.cell_far ⟨bw, 0, none⟩ (by simp; omega) (Ne.symm hne)).trans ((((Below.refl w2.heap.size w2).alloc (Nat.le_refl _) _).cell (p := ⟨bw, 0, none⟩) hz3).trans d2); have f3 : w3.frozen? ⟨bw, 0, none⟩ = false := (hgrow3.frozen_far ⟨bw, 0, none⟩ (by simp; omega) (Ne.symm hne)).trans ((((Below.refl w2.heap.size w2).alloc (Nat.le_refl _) _).frozen (p := ⟨bw, 0, none⟩) hz3).trans f2))
        | fail)
      all_goals
        go_wp2
        go_roundw
        case rel =>
          have hW2 : W ++ [Lib.itoa x] = ws ++ List.map Lib.itoa (List.take (k + 1) ns) := by
            rw [← hW, List.take_add_one, List.getElem?_eq_getElem hkn, hx]
            simp
          have hgb2 : some g ≠ some bw := by
            rcases hat3 with h | h
            · rw [← h]; exact hne
            · intro e; injection e; omega
          have bz : Below wr.heap.size wr (w2.alloc (Obj.cells #[Value.string (B (Lib.itoa x))] 9 (0, 0))) := z2.alloc z2.size _
          have hz1 := hb.size
          refine ⟨k + 1, by go_num, hkm, ?_, ?_, ?_⟩
          · exact ((hb.trans (bz.mono (by omega))).grown hgrow3 (by rw [World.size_alloc]; have := z2.size; omega) (fun k hk => (hown.lt k hk).1)).setCell (p := ⟨bw, 0, none⟩) hB2 _
          · rw [Below.heap_setCell _ _ _ _ hgb]
            exact (hgrow3.block gn (by show gn < (w2.alloc _).heap.size; rw [World.size_alloc]; have := z2.size; omega) (Lib.ownBlock_ne hown hgr (by decide)).symm).trans ((bz.block gn hltg).trans hgr)
          · rw [← hW2]
            refine ⟨hB2, _, cells_set (t := 122) (cs := #[v]) ?_ 0 _, ?_, hgb2⟩
            · exact (hgrow3.block bw (by show bw < (w2.alloc _).heap.size; rw [World.size_alloc]; omega) hne.symm).trans ((bz.block bw hlt).trans hbk)
            · have hown4 : w3.ownsRow BB 9 1 (.slice (some ⟨g, 0, none⟩) (W.length + 1) cap') (W ++ [Lib.itoa x]).length (strs (W ++ [Lib.itoa x])) := by
                rw [List.length_append]
                simpa [strs] using hown3
              exact own_set (p := ⟨bw, 0, none⟩) hown4 hgb2 _
        case measure => simp [intOf]; omega
    · obtain rfl : k = m := by omega
      rw [← hm, List.take_length] at hwr
      go_wp2
      go_end0
      exact ⟨rfl, hwr, hb⟩
end Go.Proofs.YthndenpgkdjkiaaDoor
