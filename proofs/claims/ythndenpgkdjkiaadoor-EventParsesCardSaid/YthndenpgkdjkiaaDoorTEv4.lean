import Derived.Test.YthndenpgkdjkiaaDoorTEv3
import Derived.Test.YthndenpgkdjkiaaDoorTSl
namespace Go.Proofs.YthndenpgkdjkiaaDoor
open Go.Shelf Go.RowKit Go.Sort
set_option linter.unusedVariables false
set_option maxRecDepth 100000

def evCells (e : Ev) : List Value := [.int .i64 e.1, .int .i64 e.2.1, .int .i64 e.2.2.1, .int .i64 e.2.2.2.1, .int .i64 e.2.2.2.2]
abbrev Sl5 := SlN (α := Ev) 5 evCells
theorem evCells_len (e : Ev) : (evCells e).length = 5 := rfl
set_option maxHeartbeats 4000000 in
theorem print29 (v : Value) (l : List Ev) (hl : l.length ≤ 65536) (hin : ∀ t ∈ l, inEv t) (w : World) (hv : Sl5 w v l) (he : Env w) :
    Calls Tryd.prog 29 #[v] w fun e w' => e = .returned (.tuple #[.string (B ((printEv l).getD [])), .int .i64 (if (printEv l).isSome then 0 else 1)]) ∧ Below w.heap.size w w' := by
  obtain ⟨r, hr⟩ : ∃ r, printEv l = r := ⟨_, rfl⟩
  rw [hr]
  obtain ⟨F, hF⟩ : ∃ F : Int, (if r.isSome then 0 else 1) = F := ⟨_, rfl⟩
  obtain ⟨S, hS⟩ : ∃ S, r.getD [] = S := ⟨_, rfl⟩
  rw [hF, hS]
  replace hF := Lib.hid hF
  replace hS := Lib.hid hS
  obtain ⟨ao, cap, rfl⟩ := hv.form
  obtain ⟨n, hnl⟩ : ∃ n, l.length = n := ⟨_, rfl⟩
  rw [hnl] at hv hl ⊢
  have hb0 := (Below.refl w.heap.size w).alloc (Nat.le_refl _) (.cells #[.pointer none, .slice none 0 0] 92 (0, 0))
  have hB0 : Lib.IsBuilder 92 5 w.heap.size w.heap.size [] (w.alloc (.cells #[.pointer none, .slice none 0 0] 92 (0, 0))) :=
    .inl ⟨Nat.le_refl _, _, alloc_new _ _, World.ownsRow_nil _ _ _ _, by simp [Value.ownBlock]⟩
  have z0 : (w.alloc (.cells #[.pointer none, .slice none 0 0] 92 (0, 0))).heap.size = w.heap.size + 1 := World.size_alloc ..
  obtain ⟨b, hbw⟩ : ∃ b, w.heap.size = b := ⟨_, rfl⟩
  replace hnl := Lib.hid hnl
  go_enter Tryd.func29, Tryd.ntmps29
  go_wp2
  rw [hbw] at hB0 z0 hb0
  generalize w.alloc (.cells #[.pointer none, .slice none 0 0] 92 (0, 0)) = W at *
  go_loopw [11] (fun i wr => ∃ (k : Nat) (acc : Bs), i = .int .i64 (k : Int) ∧ k ≤ n ∧ Below b w wr ∧ b < wr.heap.size ∧ Lib.IsBuilder 92 5 b b (Lib.byteCells acc) wr ∧ acc.length ≤ 111 * k ∧ r = (printEv (l.drop k)).map (acc ++ ·)) (fun i _ => n - (intOf i).toNat)
  case atStart => exact ⟨0, [], rfl, Nat.zero_le _, hb0, by omega, by simpa [Lib.byteCells] using hB0, by simp, by rw [← hr]; simp⟩
  case round =>
    obtain ⟨k, acc, rfl, hk, hb, hlt, hbd, hal, hre⟩ := hrel
    by_cases hkl : k < n
    · have hkl' : k < l.length := by rw [hnl.out]; exact hkl
      obtain ⟨a, rfl, hc, h4⟩ := hv.some (by omega)
      obtain ⟨t, ht⟩ : ∃ t, l[k]? = some t := ⟨_, List.getElem?_eq_getElem hkl'⟩
      have hit := hin t (List.mem_of_getElem? ht)
      have hcell := fun j v hj => (h4.below (hbw ▸ hb)) k t ht j v hj
      have c0 := hcell 0 _ rfl
      have c1 := hcell 1 _ rfl
      have c2 := hcell 2 _ rfl
      have c3 := hcell 3 _ rfl
      have c4 := hcell 4 _ rfl
      simp only [ofs, Nat.zero_add, Nat.reduceAdd] at c0 c1 c2 c3 c4
      have hdr : l.drop k = t :: l.drop (k + 1) := by
        rw [List.drop_eq_getElem_cons hkl']
        congr 1
        rw [List.getElem?_eq_getElem hkl'] at ht
        injection ht
      rw [hdr, printEv] at hre
      have hb3 := (Below.refl wr.heap.size wr).alloc (Nat.le_refl _) (evO t)
      clear hcell h4
      go_wp2_with fail
      generalize wr.alloc (evO t) = w3 at *
      have hb03 : Below b w w3 := hb.trans (hb3.mono (by omega))
      refine (line63 t hit w3 (he.below (by rw [hbw]; exact hb03))).mono ?_
      rintro e w4 ⟨rfl, hb4⟩
      have hbd4 := builder_below (builder_below hbd hb3) hb4
      have hb04 : Below b w w4 := hb03.trans (hb4.mono (by have := hb3.size; omega))
      cases hrt : right t with
      | false =>
        rw [hrt] at hre
        simp only [Bool.false_eq_true, if_false, Option.map_none] at hre
        replace hre := Lib.hid hre
        go_wp2
        go_ret2
        rw [← hF.out, ← hS.out, hre.out]
        exact ⟨rfl, by first | exact hb04 | (rw [hbw]; exact hb04)⟩
      | true =>
        rw [hrt, if_pos rfl] at hre
        replace hre := Lib.hid hre
        rw [if_pos rfl, if_pos rfl]
        have ll := lineEv_len t hit
        generalize hLL : lineEv t = L at *
        have a1 := addStr L [10] (by simp; omega)
        go_wp2_with fail
        refine (writeString b b _ _ w4 hbd4 ?hlen ?hsz).mono ?_
        case hlen =>
          have h2 : (Lib.byteCells acc).length = acc.length := by simp [Lib.byteCells]
          have h4 : (B (L ++ [10])).size = L.length + 1 := by show Array.size _ = _; simp
          rw [h4]
          omega
        case hsz => have := hb04.size; omega
        rintro e w5 ⟨rfl, hbd5, hb5⟩
        go_wp2
        go_roundw
        case rel =>
          refine ⟨k + 1, acc ++ (L ++ [10]), by go_num, hkl, hb04.trans hb5, by have := hb04.size; have := hb5.size; have := hb4.size; have := hb3.size; omega, .inr ?_, by simp; omega, ?_⟩
          · have e2 : Lib.byteCells (acc ++ (L ++ [10])) = Lib.byteCells acc ++ Lib.strCells (B (L ++ [10])) := by
              simp [Lib.byteCells, Lib.strCells]
            rw [e2]
            exact hbd5
          · rw [hre.out, Option.map_map]
            congr 1
            funext x
            simp
        case measure => simp [intOf]; omega
    · obtain rfl : k = n := by omega
      have hd : l.drop k = [] := List.drop_of_length_le (by rw [hnl.out]; exact Nat.le_refl _)
      rw [hd] at hre
      have hr2 : r = some acc := by rw [hre]; simp [printEv]
      replace hr2 := Lib.hid hr2
      clear hre
      go_wp2_with (go_at_call 60; refine (Tryd.Builder_String_any b b _ _ hbd (by omega)).mono ?_)
      rintro e w5 ⟨rfl, hb5⟩
      go_wp2
      go_ret2
      rw [← hF.out, ← hS.out, hr2.out]
      exact ⟨rfl, by first | exact hb.trans hb5 | (rw [hbw]; exact hb.trans hb5)⟩
end Go.Proofs.YthndenpgkdjkiaaDoor
