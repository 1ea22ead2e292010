/- CodecTells: for every input the law returns true, and each argument reads afterwards as it read before. No conditions. -/
import Derived.Test.YtopoljadcjeflaaWg
namespace Go.Proofs.Ytopoljadcjeflaa.CodecTells
open Go Go.Proofs VL Go.ChangeShapes
set_option linter.unusedVariables false
set_option linter.unusedSimpArgs false

theorem own : ownKnob Try.prog.godebug = none := by kernel_rfl
theorem laidOut : laidOutB Try.prog = true := by kernel_rfl

theorem law : ∀ xs, ShAs [(.str, false), (.sl (.row [.int .i64, .int .i64, .int .i64, .int .i64, .int .i64]) 5 40 true, false), (.sl (.int .u8) 1 1 false, false)] xs →
    VCall Try.prog 7 xs [] fun out _ => out = .ret (.bool true) := by
  intro xs h
  simp only [ShAs, ShA, ShT, if_true, Bool.false_eq_true, if_false] at h
  obtain ⟨_, _, rfl, ⟨t, h0, ht⟩, _, _, rfl, ⟨l, h1, hl, hx⟩, _, _, rfl, ⟨b, h2, hb, hy⟩, rfl⟩ := h
  cases h0; cases h1; cases h2
  obtain ⟨es, rfl, _⟩ := E26.evs_of hx
  obtain ⟨ns, rfl, hw⟩ := ints_of hy
  exact E26.tells t es ns ht (fun x hx => E26.byte_of (hw x hx))

set_option maxRecDepth 100000 in
theorem lifted (os : Os) (started : os.Started) (H : Type) (enc : TypeId × Value → H) :
    ReturnsInHanded {} Try.checked os 7 .any (Rows.codecTellsSpec.pre6 enc Try.prog Try.f7 Rows.codecTellsRow.domain false)
      (Rows.codecTellsSpec.post enc Try.prog Try.f7 false true false false) := by
  refine returnsInHanded_of_change_sized (C := Try.checked) own started (by kernel_rfl) Try.func7
    (ChangeSpec.witness6 (enc := enc) (C := Try.checked) false ⟨#[], #[.string ⟨#[]⟩, .slice none 0 0, .slice none 0 0], []⟩ 8 (by kernel_rfl) (by kernel_rfl) (by kernel_rfl) (by kernel_rfl)) ?_
  intro W base args ds gs before hval hW _ hsz _
  exact law_lift (n := 9) (ts := Try.f7.params.toList) rfl laidOut (by kernel_rfl) rfl rfl (by kernel_rfl) (by kernel_rfl)
    (fun ds h => match ds, h with | [_, _, _], _ => rfl) Try.func7 (by rfl) (by rfl) law W base args ds gs before hval hW hsz

theorem proved : Rows.CodecTellsSaid :=
  OpenClaim.holds_of_wide 7 Try.f7 rfl rfl rfl rfl rfl rfl rfl ⟨rfl, rfl, rfl, rfl, rfl⟩ rfl rfl rfl rfl rfl (by kernel_rfl) Try.func7 (by kernel_rfl)
    (of_decide_eq_true (by kernel_rfl)) (by unfold Func.isWrapper; first | (rw [if_pos (by decide +kernel)]; kernel_rfl) | (rw [if_neg (by decide +kernel)]; exact ⟨rfl, rfl⟩))
    (fun os started H enc _ => lifted os started H enc)
#print axioms proved
end Go.Proofs.Ytopoljadcjeflaa.CodecTells

