/- StatementLines: for every input the law returns true, and each argument reads afterwards as it read before. The package variables that the row lists hold what the program's text lays (the card ties them). -/
import Derived.Test.YtplcolaagnpccaaDoorWk
import Derived.Test.YtplcolaagnpccaaDoorWh
namespace Go.Proofs.YtplcolaagnpccaaDoor.StatementLines
open Go Go.Proofs VL Go.ChangeShapes LB 
set_option linter.unusedVariables false
set_option linter.unusedSimpArgs false

theorem law : ∀ xs, ShAs [(BB15.tyStm, true)] xs → VCall Tryd.prog 4 xs [] fun out _ => out = .ret (.bool true) := by
  intro xs h
  simp only [ShAs] at h
  obtain ⟨_, _, rfl, h, rfl⟩ := h
  obtain ⟨s, rfl, hs, h1, h2, h3, h4, h5, h6, h7, h8, h9, h10⟩ := BB15.stm_of h
  exact BB16.lines s hs h1 h2 h3 h4 h5 h6 h7 h8 h9 h10

theorem met (os : Os) (args : Array Value) : laidMetH Tryd.prog Rows.statementLinesRow.laid ((laidWorld os Rows.statementLinesRow.laid).forCall (fun _ _ => 0) ⟨#[], args, []⟩).memory :=
  laidMet_of_run' 40 (by kernel_rfl) (by kernel_rfl)

set_option maxRecDepth 100000 in
theorem lifted (os : Os) (started : os.Started) (H : Type) (enc : TypeId × Value → H) :
    ReturnsInHanded {} Tryd.checked os 4 .any (fun w args => (Rows.statementLinesSpec.pre enc Tryd.prog Tryd.f4 Rows.statementLinesRow.domain false w args ∧ laidMetH Tryd.prog Rows.statementLinesRow.laid w) ∧ sizedMet enc Tryd.prog Tryd.f4 (OpenSpec.ofChange Rows.statementLinesSpec) false w args)
      (Rows.statementLinesSpec.post enc Tryd.prog Tryd.f4 false true false false) := by
  refine returnsInHanded_of_change_and (C := Tryd.checked) (X := fun w _ => laidMetH Tryd.prog Rows.statementLinesRow.laid w) (fun _ _ _ hh h => h.of_heap hh) own started (by kernel_rfl) Tryd.func4
    (ChangeSpec.witness_at (enc := enc) (C := Tryd.checked) (os := os) (X := fun w _ => laidMetH Tryd.prog Rows.statementLinesRow.laid w) false (laidWorld os Rows.statementLinesRow.laid) #[.agg #[.int .i64 0, .bool false, .bool false, .int .i64 0, .int .i64 0, .int .i64 0, .int .i64 0, .int .i64 0, .int .i64 0, .int .i64 0, .slice none 0 0, .int .i64 0, .int .i64 0]] 8 (by kernel_rfl) (by kernel_rfl) (by kernel_rfl) (by kernel_rfl) (by kernel_rfl) (by kernel_rfl) (met os _)) ?_
  intro W base args ds gs before hval hW _ hsz hL _
  have hL' : laidMet Tryd.prog Rows.statementLinesRow.laid W := hL
  exact law_lift (n := 9) (ts := Tryd.f4.params.toList) rfl laidOut (by kernel_rfl) rfl rfl (by kernel_rfl) (by kernel_rfl)
    (fun ds h => match ds, h with | [_], _ => rfl) Tryd.func4 (by rfl) (by rfl) law W base args ds gs before hval hW hsz (globs (by simp [Rows.statementLinesRow]) hL')

theorem bare : Rows.StatementLinesSaid :=
  OpenClaim.holds_of_wide 4 Tryd.f4 rfl rfl rfl rfl rfl rfl rfl ⟨rfl, rfl, rfl, rfl, rfl⟩ rfl rfl rfl rfl rfl (by kernel_rfl) Tryd.func4 (by kernel_rfl)
    (of_decide_eq_true (by kernel_rfl)) (by unfold Func.isWrapper; first | (rw [if_pos (by decide +kernel)]; kernel_rfl) | (rw [if_neg (by decide +kernel)]; exact ⟨rfl, rfl⟩))
    (fun os started H enc _ => lifted os started H enc)

theorem proved : Rows.StatementLinesCardSaid :=
  Claim7.holds_tied_plain_at .later [] [.data, .data, .data] true (true, "fbab66556865580bf6956feb5c3762da59628effe759a3714bc4dde6e2f64c80") true
    bare (fun _ h => by cases h) (by kernel_rfl) (fun _ h => by cases h) statementLines_row_tie rfl ⟨rfl, rfl⟩ (by kernel_rfl) rfl
    (fun f fn hf hfn => by
      obtain rfl : f = 4 := Option.some.inj ((show Tryd.prog.funcNamed "quittance/quittancelaw23.StatementLines" = some 4 by kernel_rfl).symm.trans hf) |>.symm
      obtain rfl : fn = Tryd.f4 := (Option.some.inj (Tryd.func4.symm.trans hfn)).symm
      exact ⟨by kernel_rfl, fun j t ht => by
        have hall : (Tryd.f4.params.all fun t => !(Tryd.prog.wantsStandIn t)) = true := by kernel_rfl
        have := Array.all_eq_true'.1 hall t (Array.mem_of_getElem? ht)
        have h2 : Tryd.prog.wantsStandIn t = false := by simpa using this
        exact h2⟩)
    (by kernel_rfl)
#print axioms proved
end Go.Proofs.YtplcolaagnpccaaDoor.StatementLines
