import Derived.Test.YthndenpgkdjkiaaDoorTEvOpen
namespace Go.Proofs.YthndenpgkdjkiaaDoor
namespace eventBack
open Go.ChangeShapes Go.WideShapes Go.ChangeAt Go.RowKit Go.ChangeMaps Go.Lib Go.Joins
set_option linter.unusedVariables false
set_option maxRecDepth 100000

theorem contract (H : Type) (enc : TypeId × Value → H) (W : World) (base : Nat) (args : Array Value) (ds gs : List (DataW H)) (before : List MemPlace)
    (hval : ∀ (j : Nat) t v, Tryd.f6.params[j]? = some t → args[j]? = some v → Value.okWide Tryd.prog W .any base t v)
    (hW : DataW.Whole enc Tryd.prog Tryd.f6.params.toList Rows.eventBackSpec.vars false W args.toList ds gs before)
    (hL : laidMetH Tryd.prog Rows.eventBackRow.laid W) (hS : W.ShapedOpen Tryd.prog) :
    Calls Tryd.prog 6 args W fun e W' => ∃ v, e = .returned v ∧ Rows.eventBackSpec.post enc Tryd.prog Tryd.f6 false true false false W args v W' := by
  have he : Env W := env_of (by kernel_rfl) hL (by unfold Rows.eventBackRow; simp) hS
  have hW' := hW
  obtain ⟨p, q, hA0, hV, rfl, hfz, hnd⟩ := hW
  have hA : DataW.TrodAll enc Tryd.prog W 0 (fun _ => true) true Tryd.f6.params.toList args.toList ds p := hA0
  have hA2 := hA
  rw [Tryd.params6] at hA hval
  obtain ⟨v0, vs0, d0, ds0, p0, q0, hargs, rfl, rfl, h0, r0⟩ := trodAll_cons hA
  obtain ⟨v1, vs1, d1, ds1, p1, q1, rfl, rfl, rfl, h1, r1⟩ := trodAll_cons r0
  obtain ⟨rfl, rfl, rfl⟩ := trodAll_nil r1
  obtain rfl : args = #[v0, v1] := by cases args; simp_all
  obtain ⟨rfl, rfl⟩ := trodVars_none hV
  obtain ⟨ao, n, cap, l, rfl, hl, hs, hin⟩ := open_evs (hval 0 35 v0 rfl rfl) h0
  obtain ⟨s, rfl, _, _, hsz⟩ := open_string Tryd.underlying9 (hval 1 9 v1 rfl rfl) h1
  clear hA0
  simp only [List.append_nil] at hW' hA2
  have walk : Calls Tryd.prog 6 #[.slice ao n cap, .string s] W fun e w' => e = .returned (.bool true) ∧ Below W.heap.size W w' := by
    have hB := B_data s
    rw [← hB]
    by_cases h : 60 < n
    · exact law6_big n ao cap _ W he (.inl h)
    · by_cases h' : 1000 < s.data.toList.length
      · exact law6_big n ao cap _ W he (.inr ⟨by omega, h'⟩)
      · exact law6_small n ao cap l hl hin _ W he hs (by omega) (by omega)

  refine walk.mono fun e W' ⟨he', bel⟩ => ?_
  subst he'
  have hlt := fun x hx => by simpa using hW'.lt x hx
  exact ⟨_, rfl, _, _, _, [], _, [], hW', trodAll_mk1 (shut_bool Tryd.underlying4 _), belowAll bel _ _ _ _ (by kernel_rfl) hlt hA2, rfl, bel.frame _, fun h => by cases h⟩
end eventBack
end Go.Proofs.YthndenpgkdjkiaaDoor
