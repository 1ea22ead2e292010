/- EventNeeds: for every input the law returns true, and each argument reads afterwards as it read before. No conditions. -/
import Derived.Test.YtopoljadcjeflaaEa
import Derived.Test.YtopoljadcjeflaaVc
namespace Go.Proofs.Ytopoljadcjeflaa.EventNeeds
open Go Go.Proofs VL Go.ChangeShapes
set_option linter.unusedVariables false

theorem own : ownKnob Try.prog.godebug = none := by kernel_rfl
theorem laidOut : laidOutB Try.prog = true := by kernel_rfl

theorem law : ∀ xs, ShAs [(.int .i64, false), (.int .i64, false), (.int .i64, false), (.int .i64, false), (.int .i64, false)] xs →
    (VL.sys Try.prog).call 3 xs [] fun out _ => out = .ret (.bool true) := by
  intro xs h
  simp only [ShAs, ShA, ShT, Bool.false_eq_true, if_false] at h
  obtain ⟨_, _, rfl, ⟨kind, h1, _⟩, _, _, rfl, ⟨key, h2, _⟩, _, _, rfl, ⟨day, h3, _⟩, _, _, rfl, ⟨amount, h4, _⟩, _, _, rfl, ⟨ref, h5, _⟩, rfl⟩ := h
  cases h1; cases h2; cases h3; cases h4; cases h5
  exact E18.needs kind key day amount ref

set_option maxRecDepth 100000 in
theorem lifted (os : Os) (started : os.Started) (H : Type) (enc : TypeId × Value → H) :
    ReturnsInHanded {} Try.checked os 3 .any (Rows.eventNeedsSpec.pre6 enc Try.prog Try.f3 Rows.eventNeedsRow.domain false)
      (Rows.eventNeedsSpec.post enc Try.prog Try.f3 false true false false) := by
  refine returnsInHanded_of_change_sized (C := Try.checked) own started (by kernel_rfl) Try.func3
    (ChangeSpec.witness6 (enc := enc) (C := Try.checked) false ⟨#[], #[.int .i64 0, .int .i64 0, .int .i64 0, .int .i64 0, .int .i64 0], []⟩ 8 (by kernel_rfl) (by kernel_rfl) (by kernel_rfl) (by kernel_rfl)) ?_
  intro W base args ds gs before hval hW _ hsz _
  exact law_lift (n := 9) (ts := Try.f3.params.toList) rfl laidOut (by kernel_rfl) rfl rfl (by kernel_rfl) (by kernel_rfl)
    (fun ds h => match ds, h with | [_, _, _, _, _], _ => rfl) law W base args ds gs before hval hW hsz

theorem proved : Rows.EventNeedsSaid :=
  OpenClaim.holds_of_wide 3 Try.f3 rfl rfl rfl rfl rfl rfl rfl ⟨rfl, rfl, rfl, rfl, rfl⟩ rfl rfl rfl rfl rfl (by kernel_rfl) Try.func3 (by kernel_rfl)
    (of_decide_eq_true (by kernel_rfl)) (by unfold Func.isWrapper; first | (rw [if_pos (by decide +kernel)]; kernel_rfl) | (rw [if_neg (by decide +kernel)]; exact ⟨rfl, rfl⟩))
    (fun os started H enc _ => lifted os started H enc)
#print axioms proved
end Go.Proofs.Ytopoljadcjeflaa.EventNeeds
