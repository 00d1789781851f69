import Derived.Test.YthndenpgkdjkiaaDoorTRow
namespace Go.Proofs.YthndenpgkdjkiaaDoor
namespace scriptBack
open Go.ChangeShapes Go.WideShapes Go.ChangeAt Go.RowKit Go.ChangeMaps Go.Lib Go.Joins
set_option linter.unusedVariables false
set_option maxRecDepth 100000

theorem contract (H : Type) (enc : TypeId × Value → H) (W : World) (base : Nat) (args : Array Value) (ds gs : List (DataW H)) (before : List MemPlace)
    (hval : ∀ (j : Nat) t v, Tryd.f3.params[j]? = some t → args[j]? = some v → Value.okWide Tryd.prog W .any base t v)
    (hW : DataW.Whole enc Tryd.prog Tryd.f3.params.toList Rows.scriptBackSpec.vars false W args.toList ds gs before) (hL : laidMetH Tryd.prog Rows.scriptBackRow.laid W) (hS : W.ShapedOpen Tryd.prog) :
    Calls Tryd.prog 3 args W fun e W' => ∃ v, e = .returned v ∧ Rows.scriptBackSpec.post enc Tryd.prog Tryd.f3 false true false false W args v W' := by
  have he : Env W := env_of (by kernel_rfl) hL (by unfold Rows.scriptBackRow; simp) hS
  have hW' := hW
  obtain ⟨p, q, hA0, hV, rfl, hfz, hnd⟩ := hW
  have hA : DataW.TrodAll enc Tryd.prog W 0 (fun _ => true) true Tryd.f3.params.toList args.toList ds p := hA0
  have hA2 := hA
  rw [Tryd.params3] at hA hval
  obtain ⟨v0, vs0, d0, ds0, p0, q0, hargs, rfl, rfl, h0, r0⟩ := trodAll_cons hA
  obtain ⟨v1, vs1, d1, ds1, p1, q1, rfl, rfl, rfl, h1, r1⟩ := trodAll_cons r0
  obtain ⟨v2, vs2, d2, ds2, p2, q2, rfl, rfl, rfl, h2, r2⟩ := trodAll_cons r1
  obtain ⟨rfl, rfl, rfl⟩ := trodAll_nil r2
  obtain rfl : args = #[v0, v1, v2] := by cases args; simp_all
  obtain ⟨rfl, rfl⟩ := trodVars_none hV
  obtain ⟨ao, n, cap, l, rfl, hl, hs, hin⟩ := open_ents (hval 0 22 v0 rfl rfl) h0
  obtain ⟨s, rfl, _, _, hsz⟩ := open_string Tryd.underlying9 (hval 1 9 v1 rfl rfl) h1
  obtain ⟨w0, w1, w2, y0, y1, y2, k, rfl, _, _, t0, t1, t2⟩ := open_agg3 Tryd.underlying24 (by kernel_rfl) (by kernel_rfl) (hval 2 24 v2 rfl rfl) h2
  obtain ⟨a, ea, _, _⟩ := DataW.trod_int Tryd.underlying3 t0
  obtain ⟨b, eb, _, _⟩ := DataW.trod_int Tryd.underlying3 t1
  obtain ⟨c, ec, _, _⟩ := DataW.trod_int Tryd.underlying3 t2
  simp only [List.cons.injEq, and_true] at ea eb ec
  subst ea eb ec
  clear hA0
  simp only [List.append_nil] at hW' hA2
  have walk : Calls Tryd.prog 3 #[.slice ao n cap, .string s, .agg #[.int .i64 a, .int .i64 b, .int .i64 c]] W fun e w' => e = .returned (.bool true) ∧ Below W.heap.size W w' := by
    have hB := B_data s
    rw [← hB]
    by_cases h : 60 < n
    · exact law3_big n ao cap _ a b c W he (.inl h)
    · by_cases h' : 1000 < s.data.toList.length
      · exact law3_big n ao cap _ a b c W he (.inr ⟨by omega, h'⟩)
      · exact law3_small n ao cap l hl hin _ a b c W he hs (by omega) (by omega)
  refine walk.mono fun e W' ⟨he', bel⟩ => ?_
  subst he'
  have hlt := fun x hx => by simpa using hW'.lt x hx
  exact ⟨_, rfl, _, _, _, [], _, [], hW', trodAll_mk1 (shut_bool Tryd.underlying4 _), belowAll bel _ _ _ _ (by kernel_rfl) hlt hA2, rfl, bel.frame _, fun h => by cases h⟩

end scriptBack
end Go.Proofs.YthndenpgkdjkiaaDoor
