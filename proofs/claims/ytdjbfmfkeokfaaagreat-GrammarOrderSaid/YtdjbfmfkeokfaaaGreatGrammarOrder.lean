/- GrammarOrder: for every input the law returns true, and each argument reads afterwards as it read before. No conditions. -/
import Derived.Test.YtdjbfmfkeokfaaaGreatYf
namespace Go.Proofs.YtdjbfmfkeokfaaaGreat.GrammarOrder
open Go Go.Proofs VL Go.ChangeShapes
set_option linter.unusedVariables false
set_option linter.unusedSimpArgs false

theorem own : ownKnob Tryz.prog.godebug = none := by kernel_rfl
theorem laidOut : laidOutB Tryz.prog = true := by kernel_rfl

theorem law : ∀ xs, ShAs [(.sl (.int .i64) 1 8 false, false), (.sl .bool 1 1 false, false)] xs →
    VCall Tryz.prog 5 xs [] fun out _ => out = .ret (.bool true) := by
  intro xs h
  simp only [ShAs, ShA, ShT, if_true, if_false, Bool.false_eq_true] at h
  obtain ⟨_, _, rfl, ⟨l, h0, _, hx⟩, _, _, rfl, ⟨m, h1, _, hy⟩, rfl⟩ := h
  cases h0; cases h1
  obtain ⟨ns, rfl, _⟩ := ints_of hx
  obtain ⟨bs, rfl⟩ := CO4.bools_of hy
  exact CO4.g_order ns bs

set_option maxRecDepth 100000 in
theorem lifted (os : Os) (started : os.Started) (H : Type) (enc : TypeId × Value → H) :
    ReturnsInHanded {} Tryz.checked os 5 .any (Rows.grammarOrderSpec.pre6 enc Tryz.prog Tryz.f5 Rows.grammarOrderRow.domain false)
      (Rows.grammarOrderSpec.post enc Tryz.prog Tryz.f5 false true false false) := by
  refine returnsInHanded_of_change_shaped (C := Tryz.checked) own started (by kernel_rfl) Tryz.func5
    (ChangeSpec.witness6 (enc := enc) (C := Tryz.checked) false ⟨#[], #[.slice none 0 0, .slice none 0 0], []⟩ 8 (by kernel_rfl) (by kernel_rfl) (by kernel_rfl) (by kernel_rfl)) ?_
  intro W base args ds gs before hval hW _ hsz hsh _
  exact law_lift (n := 9) (ts := Tryz.f5.params.toList) rfl laidOut (by kernel_rfl) rfl rfl (by kernel_rfl) (by kernel_rfl)
    (fun ds h => match ds, h with | [_, _], _ => rfl) Tryz.func5 (by rfl) (by rfl) law W base args ds gs before hval hW hsz (by intro b l h; cases h) (CR9.hgi W hsh)

theorem proved : Rows.GrammarOrderSaid :=
  OpenClaim.holds_of_wide 5 Tryz.f5 rfl rfl rfl rfl rfl rfl rfl ⟨rfl, rfl, rfl, rfl, rfl⟩ rfl rfl rfl rfl rfl (by kernel_rfl) Tryz.func5 (by kernel_rfl)
    (of_decide_eq_true (by kernel_rfl)) (by unfold Func.isWrapper; first | (rw [if_pos (by decide +kernel)]; kernel_rfl) | (rw [if_neg (by decide +kernel)]; exact ⟨rfl, rfl⟩))
    (fun os started H enc _ => lifted os started H enc)
#print axioms proved
end Go.Proofs.YtdjbfmfkeokfaaaGreat.GrammarOrder

