/- PlacesNames: for all arguments of the row the law returns true and its arguments read as before; the listed package-level variables hold what the program's text lays (tied). -/
import Derived.Test.YtglmcknlnoknoaaGreatDoorP6a
import Derived.Test.YtglmcknlnoknoaaGreatDoorP0a
import Derived.Test.YtglmcknlnoknoaaGreatDoorYPlacesNames3a
namespace Go.Proofs.YtglmcknlnoknoaaGreatDoor.LPlacesNames
open Go.ChangeShapes Go.WideShapes Go.ChangeAt Go.RowKit Go.Lib
open Go.ChangeMaps (open_string shut_string)

set_option maxRecDepth 100000 in
theorem contract (H : Type) (enc : TypeId × Value → H) (W : World) (base : Nat) (args : Array Value) (ds gs : List (DataW H)) (before : List MemPlace)
    (hval : ∀ (j : Nat) t v, Tryz.f7.params[j]? = some t → args[j]? = some v → Value.okWide Tryz.prog W .any base t v)
    (hW : DataW.Whole enc Tryz.prog Tryz.f7.params.toList Rows.placesNamesSpec.vars false W args.toList ds gs before)
    (hL : laidMetH Tryz.prog Rows.placesNamesRow.laid W) (hSh : W.ShapedOpen Tryz.prog) :
    Calls Tryz.prog 7 args W fun e W' => ∃ v, e = .returned v ∧ Rows.placesNamesSpec.post enc Tryz.prog Tryz.f7 false true false false W args v W' := by
  have hE : Env W := env_of_laid hL hSh
  have hW0 := hW
  obtain ⟨p, q, hA0, hV, rfl, hfz, hnd⟩ := hW
  have hA : DataW.TrodAll enc Tryz.prog W 0 (fun _ => true) true Tryz.f7.params.toList args.toList ds p := hA0
  obtain ⟨args⟩ := args
  rw [Tryz.params7] at hA hval
  simp only [List.getElem?_toArray] at hA hval
  replace hA : DataW.TrodAll enc Tryz.prog W 0 (fun _ => true) true [] args ds p := hA
  obtain ⟨rfl, rfl, rfl⟩ := trodAll_nil hA
  refine (qPlacesNames_any W hE).mono ?_
  rintro e W' ⟨rfl, hb⟩
  exact ⟨_, rfl, post_law (by kernel_rfl) (by kernel_rfl) rfl Tryz.underlying4 rfl (fun gs' h => by subst h; rfl) hW0 hb⟩

set_option maxRecDepth 100000 in
theorem witness_row (os : Os) {H : Type} (enc : TypeId × Value → H) :
    (OpenSpec.ofChange Rows.placesNamesSpec).preRow enc Tryz.prog Tryz.f7 Rows.placesNamesRow.domain false Rows.placesNamesRow.laid ((laidWorld os).forCall (fun _ _ => 0) ⟨#[], #[], []⟩).memory #[] := by
  have hw : (DataW.whole enc Tryz.prog ((laidWorld os).forCall (fun _ _ => 0) ⟨#[], #[], []⟩).memory Tryz.f7.params.toList Rows.placesNamesSpec.vars false (#[] : Array Value).toList 8).map (fun x => (x.1, x.2.1)) =
      some ([], []) := by kernel_rfl
  obtain ⟨⟨x1, x2, x3⟩, hx, hx1⟩ := Option.map_eq_some_iff.1 hw
  simp only [Prod.mk.injEq] at hx1
  obtain ⟨rfl, rfl⟩ := hx1
  exact OpenSpec.preRow_of_cond 8 hx (by kernel_rfl) (fun k hk => by cases hk) (by kernel_rfl) (laid_in os _).met

set_option maxRecDepth 100000 in
theorem lifted (os : Os) (started : os.Started) (H : Type) (enc : TypeId × Value → H) (F : Stop.Interp) :
    ReturnsInHanded {} Tryz.checked os 7 .any ((OpenSpec.ofChange Rows.placesNamesSpec).preRow enc Tryz.prog Tryz.f7 Rows.placesNamesRow.domain false Rows.placesNamesRow.laid) (((OpenSpec.ofChange Rows.placesNamesSpec).at F).post enc Tryz.prog Tryz.f7 false true false false) := by
  refine returnsInHanded_of_row (C := Tryz.checked) (s := OpenSpec.ofChange Rows.placesNamesSpec) ownK started (by kernel_rfl) Tryz.func7
    (witness_row_atRef (enc := enc) (C := Tryz.checked) false (laidWorld os) #[] rfl (by kernel_rfl) (by kernel_rfl) (by kernel_rfl) (witness_row os enc)) ?_
  intro W base args ds gs before hval hW _ _ _ hL hSh _
  exact contract H enc W base args ds gs before hval hW hL hSh

theorem fact1 : (Rows.placesNamesRow.inPlace == Tryz.pinned.checked.prog.inPlace 7) = true := by kernel_rfl
theorem fact2 : (Rows.placesNamesRow.unfollowed == Tryz.pinned.checked.prog.unfollowed 7) = true := by kernel_rfl
theorem fact3 : (Rows.placesNamesRow.recurses == Tryz.pinned.checked.prog.recurses 7) = true := by kernel_rfl
theorem fact4 : (Rows.placesNamesRow.named == Tryz.pinned.checked.prog.varsNamed 7) = true := by kernel_rfl
theorem closed_ : joinedFacts Tryz.pinned.checked.prog 7 Tryz.f7 (OpenSpec.ofChange Rows.placesNamesSpec).bare Rows.placesNamesRow = true := by
  unfold joinedFacts
  rw [fact1, fact2, fact3, fact4]
  kernel_rfl
theorem named_ : Tryz.pinned.checked.prog.funcNamed Rows.placesNamesRow.func = some 7 := by kernel_rfl
theorem inst_ : Tryz.f7.isInstance Tryz.pinned.checked.prog Rows.placesNamesRow.origin Rows.placesNamesRow.targs := of_decide_eq_true (by kernel_rfl)
theorem wrap_ : Tryz.f7.isWrapper Tryz.pinned.checked.prog Rows.placesNamesRow.wrapper Rows.placesNamesRow.mainSum := by unfold Func.isWrapper; first | (rw [if_pos (by decide +kernel)]; kernel_rfl) | (rw [if_neg (by decide +kernel)]; exact ⟨rfl, rfl⟩)
theorem said : Rows.PlacesNamesSaid :=
  OpenClaim.holds_of_cond 7 Tryz.f7 rfl rfl rfl rfl rfl rfl rfl ⟨rfl, rfl, rfl, rfl, rfl⟩ rfl rfl rfl rfl rfl named_ Tryz.func7 closed_ inst_ wrap_
    (fun os started H enc _ F => by rw [OpenClaim.pre_eq_preRow]; exact lifted os started H enc F)

theorem plain (f : FuncId) (fn : Func) (hf : Tryz.pinned.checked.prog.funcNamed Rows.placesNamesRow.func = some f) (hfn : Tryz.pinned.checked.prog.funcs[f]? = some fn) :
    true = Tryz.pinned.checked.prog.looks [] ∧ ∀ (j : Nat) t, fn.params[j]? = some t → Tryz.pinned.checked.prog.wantsStandIn t = false := by
  obtain rfl : f = 7 := Option.some.inj ((show Tryz.prog.funcNamed Rows.placesNamesRow.func = some 7 by kernel_rfl).symm.trans hf) |>.symm
  obtain rfl : fn = Tryz.f7 := (Option.some.inj (Tryz.func7.symm.trans hfn)).symm
  refine ⟨by kernel_rfl, fun j t ht => ?_⟩
  have hm := Array.mem_of_getElem? ht
  rw [Tryz.params7] at hm
  simp at hm

theorem wf_ : Rows.placesNamesRow.wfByText (OpenSpec.ofChange Rows.placesNamesSpec) = true := by kernel_rfl
theorem main_ : Tryz.pinned.checked.prog.mainIs = some (Rows.placesNamesCard.stood.harness.1, Rows.placesNamesCard.stood.harness.2.toList) := by kernel_rfl
theorem goes_ : false = Rows.placesNamesRow.goesBy Tryz.pinned.checked.prog := by kernel_rfl
theorem card : Rows.PlacesNamesCardSaid :=
  Claim7.holds_tied_plain_at .later [] _ _ _ _ said (fun _ h => by cases h) wf_ (fun _ h => by cases h) placesNames_row_tie rfl ⟨rfl, rfl⟩ main_ rfl plain goes_
end Go.Proofs.YtglmcknlnoknoaaGreatDoor.LPlacesNames

