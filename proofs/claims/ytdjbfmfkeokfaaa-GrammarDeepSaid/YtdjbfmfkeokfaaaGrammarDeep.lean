/- GrammarDeep: for every input the law returns true, and each argument reads afterwards as it read before. No conditions. -/
import Derived.Test.YtdjbfmfkeokfaaaWe
namespace Go.Proofs.Ytdjbfmfkeokfaaa.GrammarDeep
open Go Go.Proofs VL Go.ChangeShapes
set_option linter.unusedVariables false
set_option linter.unusedSimpArgs false

theorem own : ownKnob Try.prog.godebug = none := by kernel_rfl
theorem laidOut : laidOutB Try.prog = true := by kernel_rfl

theorem law : ∀ xs, ShAs [(.int .i64, false), (.bool, false)] xs →
    VCall Try.prog 3 xs [] fun out _ => out = .ret (.bool true) := by
  intro xs h
  simp only [ShAs, ShA, if_true, if_false, Bool.false_eq_true] at h
  obtain ⟨_, _, rfl, ⟨n, h0, hs⟩, _, _, rfl, ⟨b, h1⟩, rfl⟩ := h
  cases h0; cases h1
  exact CRF.g_deep n b

set_option maxRecDepth 100000 in
theorem lifted (os : Os) (started : os.Started) (H : Type) (enc : TypeId × Value → H) :
    ReturnsInHanded {} Try.checked os 3 .any (Rows.grammarDeepSpec.pre6 enc Try.prog Try.f3 Rows.grammarDeepRow.domain false)
      (Rows.grammarDeepSpec.post enc Try.prog Try.f3 false true false false) := by
  refine returnsInHanded_of_change_shaped (C := Try.checked) own started (by kernel_rfl) Try.func3
    (ChangeSpec.witness6 (enc := enc) (C := Try.checked) false ⟨#[], #[.int .i64 0, .bool false], []⟩ 8 (by kernel_rfl) (by kernel_rfl) (by kernel_rfl) (by kernel_rfl)) ?_
  intro W base args ds gs before hval hW _ hsz hsh _
  exact law_lift (n := 9) (ts := Try.f3.params.toList) rfl laidOut (by kernel_rfl) rfl rfl (by kernel_rfl) (by kernel_rfl)
    (fun ds h => match ds, h with | [_, _], _ => rfl) Try.func3 (by rfl) (by rfl) law W base args ds gs before hval hW hsz (by intro b l h; cases h) (CR9.hgi W hsh)

theorem proved : Rows.GrammarDeepSaid :=
  OpenClaim.holds_of_wide 3 Try.f3 rfl rfl rfl rfl rfl rfl rfl ⟨rfl, rfl, rfl, rfl, rfl⟩ rfl rfl rfl rfl rfl (by kernel_rfl) Try.func3 (by kernel_rfl)
    (of_decide_eq_true (by kernel_rfl)) (by unfold Func.isWrapper; first | (rw [if_pos (by decide +kernel)]; kernel_rfl) | (rw [if_neg (by decide +kernel)]; exact ⟨rfl, rfl⟩))
    (fun os started H enc _ => lifted os started H enc)
#print axioms proved
end Go.Proofs.Ytdjbfmfkeokfaaa.GrammarDeep

