/- PrinterLines: for every input the law returns true, and each argument reads afterwards as it read before. The package variables that the row lists hold what the program's text lays (the card ties them). -/
import Derived.Test.YtdjbfmfkeokfaaaGreatDoorRf
namespace Go.Proofs.YtdjbfmfkeokfaaaGreatDoor.PrinterLines
open Go Go.Proofs VL Go.ChangeShapes LBP 
set_option linter.unusedVariables false
set_option linter.unusedSimpArgs false

theorem law : ∀ xs, ShAs [(tyProd, true), (.sl (.int .i64) 1 8 false, false)] xs → VCall Tryz.prog 5 xs [] fun out _ => out = .ret (.bool true) := by
  intro xs h
  simp only [ShAs] at h
  obtain ⟨_, _, rfl, h, _, _, rfl, h2, rfl⟩ := h
  obtain ⟨p, rfl, hp⟩ := prod_of h
  simp only [ShA, ShT, if_false, Bool.false_eq_true] at h2
  obtain ⟨l, h0, hz, hx⟩ := h2
  cases h0
  obtain ⟨ns, rfl, hn⟩ := ints_of hx
  rw [List.length_map] at hz
  exact PA4.g_lines p hp ns (by omega)

theorem met (os : Os) (args : Array Value) : laidMetH Tryz.prog Rows.printerLinesRow.laid ((laidWorld os Rows.printerLinesRow.laid).forCall (fun _ _ => 0) ⟨#[], args, []⟩).memory :=
  laidMet_of_run' 40 (by kernel_rfl) (by kernel_rfl)

set_option maxRecDepth 100000 in
theorem lifted (os : Os) (started : os.Started) (H : Type) (enc : TypeId × Value → H) :
    ReturnsInHanded {} Tryz.checked os 5 .any (fun w args => (Rows.printerLinesSpec.pre enc Tryz.prog Tryz.f5 Rows.printerLinesRow.domain false w args ∧ laidMetH Tryz.prog Rows.printerLinesRow.laid w) ∧ sizedMet enc Tryz.prog Tryz.f5 (OpenSpec.ofChange Rows.printerLinesSpec) false w args)
      (Rows.printerLinesSpec.post enc Tryz.prog Tryz.f5 false true false false) := by
  refine wrap_both (C := Tryz.checked) (X := fun w _ => laidMetH Tryz.prog Rows.printerLinesRow.laid w) (fun _ _ _ hh h => h.of_heap hh) own started (by kernel_rfl) Tryz.func5
    (ChangeSpec.witness_at (enc := enc) (C := Tryz.checked) (os := os) (X := fun w _ => laidMetH Tryz.prog Rows.printerLinesRow.laid w) false (laidWorld os Rows.printerLinesRow.laid) #[.agg #[.string ⟨#[]⟩, .int .i64 0, .int .i64 0, .int .i64 0, .int .i64 0, .int .i64 0, .int .i64 0, .int .i64 0, .slice none 0 0, .int .i64 0, .int .i64 0, .int .i64 0, .int .i64 0, .int .i64 0, .int .i64 0, .slice none 0 0, .int .i64 0, .int .i64 0, .slice none 0 0], .slice none 0 0] 8 (by kernel_rfl) (by kernel_rfl) (by kernel_rfl) (by kernel_rfl) (by kernel_rfl) (by kernel_rfl) (met os _)) ?_
  intro W base args ds gs before hval hW _ hsz hL hsh _
  have hL' : laidMet Tryz.prog Rows.printerLinesRow.laid W := hL
  exact law_lift (n := 9) (ts := Tryz.f5.params.toList) rfl laidOut (by kernel_rfl) rfl rfl (by kernel_rfl) (by kernel_rfl)
    (fun ds h => match ds, h with | [_, _], _ => rfl) Tryz.func5 (by rfl) (by rfl) law W base args ds gs before hval hW hsz (globs (by simp [Rows.printerLinesRow]) hL') (hgi W hsh)

theorem bare : Rows.PrinterLinesSaid :=
  OpenClaim.holds_of_wide 5 Tryz.f5 rfl rfl rfl rfl rfl rfl rfl ⟨rfl, rfl, rfl, rfl, rfl⟩ rfl rfl rfl rfl rfl (by kernel_rfl) Tryz.func5 (by kernel_rfl)
    (of_decide_eq_true (by kernel_rfl)) (by unfold Func.isWrapper; first | (rw [if_pos (by decide +kernel)]; kernel_rfl) | (rw [if_neg (by decide +kernel)]; exact ⟨rfl, rfl⟩))
    (fun os started H enc _ => lifted os started H enc)

theorem proved : Rows.PrinterLinesCardSaid :=
  Claim7.holds_tied_plain_at .later [] [.data, .data, .data, .data, .pinned] true (true, "85e3ad4d93960ebfe4ab1890ad4afa97d472ed67f49c8083d196bdc21ff05d49") true
    bare (fun _ h => by cases h) (by kernel_rfl) (fun _ h => by cases h) printerLines_row_tie rfl ⟨rfl, rfl⟩ (by kernel_rfl) rfl
    (fun f fn hf hfn => by
      obtain rfl : f = 5 := Option.some.inj ((show Tryz.prog.funcNamed "quittance/quittancelaw10.PrinterLines" = some 5 by kernel_rfl).symm.trans hf) |>.symm
      obtain rfl : fn = Tryz.f5 := (Option.some.inj (Tryz.func5.symm.trans hfn)).symm
      exact ⟨by kernel_rfl, fun j t ht => by
        have hall : (Tryz.f5.params.all fun t => !(Tryz.prog.wantsStandIn t)) = true := by kernel_rfl
        have := Array.all_eq_true'.1 hall t (Array.mem_of_getElem? ht)
        have h2 : Tryz.prog.wantsStandIn t = false := by simpa using this
        exact h2⟩)
    (by kernel_rfl)
#print axioms proved
end Go.Proofs.YtdjbfmfkeokfaaaGreatDoor.PrinterLines

