/- DecimalTells: for every input the law returns true, and each argument reads afterwards as it read before. The package variables that the row lists hold what the program's text lays (the card ties them). -/
import Derived.Test.YtplcolaagnpccaaDoorWi
import Derived.Test.YtplcolaagnpccaaDoorWh
namespace Go.Proofs.YtplcolaagnpccaaDoor.DecimalTells
open Go Go.Proofs VL Go.ChangeShapes LB 
set_option linter.unusedVariables false
set_option linter.unusedSimpArgs false

theorem law : ∀ xs, ShAs [(.int .i64, false), (.str, false), (.str, false)] xs → VCall Tryd.prog 6 xs [] fun out _ => out = .ret (.bool true) := by
  intro xs h
  simp only [ShAs, ShA, ShT] at h
  obtain ⟨_, _, rfl, ⟨a, h0, hw⟩, _, _, rfl, ⟨s, h1, hs⟩, _, _, rfl, ⟨t, h2, ht⟩, rfl⟩ := h
  cases h0; cases h1; cases h2
  exact B23.tells a (i64_wf hw) s t

theorem met (os : Os) (args : Array Value) : laidMetH Tryd.prog Rows.decimalTellsRow.laid ((laidWorld os Rows.decimalTellsRow.laid).forCall (fun _ _ => 0) ⟨#[], args, []⟩).memory :=
  laidMet_of_run' 40 (by kernel_rfl) (by kernel_rfl)

set_option maxRecDepth 100000 in
theorem lifted (os : Os) (started : os.Started) (H : Type) (enc : TypeId × Value → H) :
    ReturnsInHanded {} Tryd.checked os 6 .any (fun w args => (Rows.decimalTellsSpec.pre enc Tryd.prog Tryd.f6 Rows.decimalTellsRow.domain false w args ∧ laidMetH Tryd.prog Rows.decimalTellsRow.laid w) ∧ sizedMet enc Tryd.prog Tryd.f6 (OpenSpec.ofChange Rows.decimalTellsSpec) false w args)
      (Rows.decimalTellsSpec.post enc Tryd.prog Tryd.f6 false true false false) := by
  refine returnsInHanded_of_change_and (C := Tryd.checked) (X := fun w _ => laidMetH Tryd.prog Rows.decimalTellsRow.laid w) (fun _ _ _ hh h => h.of_heap hh) own started (by kernel_rfl) Tryd.func6
    (ChangeSpec.witness_at (enc := enc) (C := Tryd.checked) (os := os) (X := fun w _ => laidMetH Tryd.prog Rows.decimalTellsRow.laid w) false (laidWorld os Rows.decimalTellsRow.laid) #[.int .i64 0, .string ⟨#[]⟩, .string ⟨#[]⟩] 8 (by kernel_rfl) (by kernel_rfl) (by kernel_rfl) (by kernel_rfl) (by kernel_rfl) (by kernel_rfl) (met os _)) ?_
  intro W base args ds gs before hval hW _ hsz hL _
  have hL' : laidMet Tryd.prog Rows.decimalTellsRow.laid W := hL
  exact law_lift (n := 9) (ts := Tryd.f6.params.toList) rfl laidOut (by kernel_rfl) rfl rfl (by kernel_rfl) (by kernel_rfl)
    (fun ds h => match ds, h with | [_, _, _], _ => rfl) Tryd.func6 (by rfl) (by rfl) law W base args ds gs before hval hW hsz (globs (by simp [Rows.decimalTellsRow]) hL')

theorem bare : Rows.DecimalTellsSaid :=
  OpenClaim.holds_of_wide 6 Tryd.f6 rfl rfl rfl rfl rfl rfl rfl ⟨rfl, rfl, rfl, rfl, rfl⟩ rfl rfl rfl rfl rfl (by kernel_rfl) Tryd.func6 (by kernel_rfl)
    (of_decide_eq_true (by kernel_rfl)) (by unfold Func.isWrapper; first | (rw [if_pos (by decide +kernel)]; kernel_rfl) | (rw [if_neg (by decide +kernel)]; exact ⟨rfl, rfl⟩))
    (fun os started H enc _ => lifted os started H enc)

theorem proved : Rows.DecimalTellsCardSaid :=
  Claim7.holds_tied_plain_at .later [] [.data, .data, .data, .data, .pinned] true (true, "fbab66556865580bf6956feb5c3762da59628effe759a3714bc4dde6e2f64c80") true
    bare (fun _ h => by cases h) (by kernel_rfl) (fun _ h => by cases h) decimalTells_row_tie rfl ⟨rfl, rfl⟩ (by kernel_rfl) rfl
    (fun f fn hf hfn => by
      obtain rfl : f = 6 := Option.some.inj ((show Tryd.prog.funcNamed "quittance/quittancelaw02.DecimalTells" = some 6 by kernel_rfl).symm.trans hf) |>.symm
      obtain rfl : fn = Tryd.f6 := (Option.some.inj (Tryd.func6.symm.trans hfn)).symm
      exact ⟨by kernel_rfl, fun j t ht => by
        have hall : (Tryd.f6.params.all fun t => !(Tryd.prog.wantsStandIn t)) = true := by kernel_rfl
        have := Array.all_eq_true'.1 hall t (Array.mem_of_getElem? ht)
        have h2 : Tryd.prog.wantsStandIn t = false := by simpa using this
        exact h2⟩)
    (by kernel_rfl)
#print axioms proved
end Go.Proofs.YtplcolaagnpccaaDoor.DecimalTells
