/- PrinterBack: for every input the law returns true, and each argument reads afterwards as it read before. The package variables that the row lists hold what the program's text lays (the card ties them). -/
import Derived.Test.YtdjbfmfkeokfaaaGreatDoorRf
namespace Go.Proofs.YtdjbfmfkeokfaaaGreatDoor.PrinterBack
open Go Go.Proofs VL Go.ChangeShapes LBP 
set_option linter.unusedVariables false
set_option linter.unusedSimpArgs false

theorem law : ∀ xs, ShAs [(tyProd, true), (.str, false)] xs → VCall Tryz.prog 6 xs [] fun out _ => out = .ret (.bool true) := by
  intro xs h
  simp only [ShAs] at h
  obtain ⟨_, _, rfl, h, _, _, rfl, h2, rfl⟩ := h
  obtain ⟨p, rfl, hp⟩ := prod_of h
  simp only [ShA, ShT, if_false, Bool.false_eq_true] at h2
  obtain ⟨s, h0, hs⟩ := h2
  cases h0
  exact PA5.g_back p hp s

theorem met (os : Os) (args : Array Value) : laidMetH Tryz.prog Rows.printerBackRow.laid ((laidWorld os Rows.printerBackRow.laid).forCall (fun _ _ => 0) ⟨#[], args, []⟩).memory :=
  laidMet_of_run' 40 (by kernel_rfl) (by kernel_rfl)

set_option maxRecDepth 100000 in
theorem lifted (os : Os) (started : os.Started) (H : Type) (enc : TypeId × Value → H) :
    ReturnsInHanded {} Tryz.checked os 6 .any (fun w args => (Rows.printerBackSpec.pre enc Tryz.prog Tryz.f6 Rows.printerBackRow.domain false w args ∧ laidMetH Tryz.prog Rows.printerBackRow.laid w) ∧ sizedMet enc Tryz.prog Tryz.f6 (OpenSpec.ofChange Rows.printerBackSpec) false w args)
      (Rows.printerBackSpec.post enc Tryz.prog Tryz.f6 false true false false) := by
  refine wrap_both (C := Tryz.checked) (X := fun w _ => laidMetH Tryz.prog Rows.printerBackRow.laid w) (fun _ _ _ hh h => h.of_heap hh) own started (by kernel_rfl) Tryz.func6
    (ChangeSpec.witness_at (enc := enc) (C := Tryz.checked) (os := os) (X := fun w _ => laidMetH Tryz.prog Rows.printerBackRow.laid w) false (laidWorld os Rows.printerBackRow.laid) #[.agg #[.string ⟨#[]⟩, .int .i64 0, .int .i64 0, .int .i64 0, .int .i64 0, .int .i64 0, .int .i64 0, .int .i64 0, .slice none 0 0, .int .i64 0, .int .i64 0, .int .i64 0, .int .i64 0, .int .i64 0, .int .i64 0, .slice none 0 0, .int .i64 0, .int .i64 0, .slice none 0 0], .string ⟨#[]⟩] 8 (by kernel_rfl) (by kernel_rfl) (by kernel_rfl) (by kernel_rfl) (by kernel_rfl) (by kernel_rfl) (met os _)) ?_
  intro W base args ds gs before hval hW _ hsz hL hsh _
  have hL' : laidMet Tryz.prog Rows.printerBackRow.laid W := hL
  exact law_lift (n := 9) (ts := Tryz.f6.params.toList) rfl laidOut (by kernel_rfl) rfl rfl (by kernel_rfl) (by kernel_rfl)
    (fun ds h => match ds, h with | [_, _], _ => rfl) Tryz.func6 (by rfl) (by rfl) law W base args ds gs before hval hW hsz (globs (by simp [Rows.printerBackRow]) hL') (hgi W hsh)

theorem bare : Rows.PrinterBackSaid :=
  OpenClaim.holds_of_wide 6 Tryz.f6 rfl rfl rfl rfl rfl rfl rfl ⟨rfl, rfl, rfl, rfl, rfl⟩ rfl rfl rfl rfl rfl (by kernel_rfl) Tryz.func6 (by kernel_rfl)
    (of_decide_eq_true (by kernel_rfl)) (by unfold Func.isWrapper; first | (rw [if_pos (by decide +kernel)]; kernel_rfl) | (rw [if_neg (by decide +kernel)]; exact ⟨rfl, rfl⟩))
    (fun os started H enc _ => lifted os started H enc)

theorem proved : Rows.PrinterBackCardSaid :=
  Claim7.holds_tied_plain_at .later [] [.data, .data, .data, .data, .pinned] true (true, "85e3ad4d93960ebfe4ab1890ad4afa97d472ed67f49c8083d196bdc21ff05d49") true
    bare (fun _ h => by cases h) (by kernel_rfl) (fun _ h => by cases h) printerBack_row_tie rfl ⟨rfl, rfl⟩ (by kernel_rfl) rfl
    (fun f fn hf hfn => by
      obtain rfl : f = 6 := Option.some.inj ((show Tryz.prog.funcNamed "quittance/quittancelaw10.PrinterBack" = some 6 by kernel_rfl).symm.trans hf) |>.symm
      obtain rfl : fn = Tryz.f6 := (Option.some.inj (Tryz.func6.symm.trans hfn)).symm
      exact ⟨by kernel_rfl, fun j t ht => by
        have hall : (Tryz.f6.params.all fun t => !(Tryz.prog.wantsStandIn t)) = true := by kernel_rfl
        have := Array.all_eq_true'.1 hall t (Array.mem_of_getElem? ht)
        have h2 : Tryz.prog.wantsStandIn t = false := by simpa using this
        exact h2⟩)
    (by kernel_rfl)
#print axioms proved
end Go.Proofs.YtdjbfmfkeokfaaaGreatDoor.PrinterBack

