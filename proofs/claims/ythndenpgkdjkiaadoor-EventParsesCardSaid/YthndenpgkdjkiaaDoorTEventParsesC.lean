import Derived.Test.YthndenpgkdjkiaaDoorTEvROpen
namespace Go.Proofs.YthndenpgkdjkiaaDoor
namespace eventParses
open Go.ChangeShapes Go.WideShapes Go.ChangeAt Go.RowKit Go.ChangeMaps Go.Lib Go.Joins
set_option linter.unusedVariables false
set_option maxRecDepth 100000

theorem contract (H : Type) (enc : TypeId × Value → H) (W : World) (base : Nat) (args : Array Value) (ds gs : List (DataW H)) (before : List MemPlace)
    (hval : ∀ (j : Nat) t v, Tryd.f4.params[j]? = some t → args[j]? = some v → Value.okWide Tryd.prog W .any base t v)
    (hW : DataW.Whole enc Tryd.prog Tryd.f4.params.toList Rows.eventParsesSpec.vars false W args.toList ds gs before)
    (hL : laidMetH Tryd.prog Rows.eventParsesRow.laid W) (hS : W.ShapedOpen Tryd.prog) :
    Calls Tryd.prog 4 args W fun e W' => ∃ v, e = .returned v ∧ Rows.eventParsesSpec.post enc Tryd.prog Tryd.f4 false true false false W args v W' := by
  have he : Env W := env_of (by kernel_rfl) hL (by unfold Rows.eventParsesRow; simp) hS
  have hW' := hW
  obtain ⟨p, q, hA0, hV, rfl, hfz, hnd⟩ := hW
  have hA : DataW.TrodAll enc Tryd.prog W 0 (fun _ => true) true Tryd.f4.params.toList args.toList ds p := hA0
  have hA2 := hA
  rw [Tryd.params4] at hA hval
  obtain ⟨v0, vs0, d0, ds0, p0, q0, hargs, rfl, rfl, h0, r0⟩ := trodAll_cons hA
  obtain ⟨rfl, rfl, rfl⟩ := trodAll_nil r0
  obtain rfl : args = #[v0] := by cases args; simp_all
  obtain ⟨rfl, rfl⟩ := trodVars_none hV
  obtain ⟨s, rfl, _, _, hsz⟩ := open_string Tryd.underlying9 (hval 0 9 v0 rfl rfl) h0
  clear hA0
  simp only [List.append_nil] at hW' hA2
  have walk : Calls Tryd.prog 4 #[.string s] W fun e w' => e = .returned (.bool true) ∧ Below W.heap.size W w' := by
    have hB := B_data s
    rw [← hB]
    by_cases h' : 1000 < s.data.toList.length
    · exact law4_big _ W he h'
    · exact law4_small _ W he (by omega)

  refine walk.mono fun e W' ⟨he', bel⟩ => ?_
  subst he'
  have hlt := fun x hx => by simpa using hW'.lt x hx
  exact ⟨_, rfl, _, _, _, [], _, [], hW', trodAll_mk1 (shut_bool Tryd.underlying4 _), belowAll bel _ _ _ _ (by kernel_rfl) hlt hA2, rfl, bel.frame _, fun h => by cases h⟩
end eventParses
end Go.Proofs.YthndenpgkdjkiaaDoor
