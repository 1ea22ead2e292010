/- EventTells: for every input the law returns true, and each argument reads afterwards as it read before. No conditions. -/
import Derived.Test.YtopoljadcjeflaaWf
namespace E18
open Go Go.Proofs VL A1 A2
set_option pp.maxSteps 6000
set_option linter.unusedSimpArgs false
set_option linter.unusedVariables false
set_option maxRecDepth 100000

set_option maxHeartbeats 4000000 in
theorem tells
    (e : Ev) (l : List Int) (hb : ∀ x ∈ l, Byte x) (hll : l.length < 4611686018427387904) :
    VCall Try.prog 4 [encE e, .sl (bL l) .no] [] fun out _ => out = .ret (.bool true) := by
  have hlen := bL_len l
  refine call_fun [] 0 Try.func4 (by rfl) (by rfl) ?_
  conv => whnf
  repeat (refine step_go [] ?_; conv => whnf)
  refine two (fun g => ?_) (fun g => ?_)
  · conv => whnf
    repeat (refine step_go [] ?_; conv => whnf)
    refine c_awake _ ?_; conv => whnf
    repeat (refine step_go [] ?_; conv => whnf)
    try exact rfl
  have hl : l.length ≤ 100 := by simp at g; omega
  conv => whnf
  repeat (refine step_go [] ?_; conv => whnf)
  refine c_own l 71 (by omega) _ ?_; conv => whnf
  repeat (refine step_go [] ?_; conv => whnf)
  refine VCall.args (args' := [.sl (bL l) .no]) (.cons .spare .nil) rfl ?_
  refine c_take l (by omega) _ ?_; conv => whnf
  repeat (refine step_go [] ?_; conv => whnf)
  refine c_rtake l (by omega) (fun x hx => ⟨(hb x hx).1, by have := (hb x hx).2; omega⟩) _ ?_; conv => whnf
  repeat (refine step_go [] ?_; conv => whnf)
  refine ⟨by decide +kernel, ?_⟩; conv => whnf
  refine c_awake _ ?_; conv => whnf
  repeat' first
    | (refine step_go [] ?_; conv => whnf)
    | (refine ⟨rfl, ?_⟩; conv => whnf)
    | (rw [flat_ev]; conv => whnf)
    | (rw [flat_20]; conv => whnf)
    | (refine c_check e _ ?_; conv => whnf)
    | (refine c_rcheck e _ ?_; conv => whnf)
    | (refine c_pack e _ ?_; conv => whnf)
    | (refine c_rpack e _ ?_; conv => whnf)
    | (refine c_kept l 71 (by omega) _ ?_; conv => whnf)
    | (refine yes (by simp) ?_; conv => whnf)
    | exact rfl
    | (refine congrArg (fun b => Out.ret (V.bool b)) ?_; simp; done)
end E18

namespace Go.Proofs.Ytopoljadcjeflaa.EventTells
open Go Go.Proofs VL Go.ChangeShapes
set_option linter.unusedVariables false
set_option linter.unusedSimpArgs false

theorem own : ownKnob Try.prog.godebug = none := by kernel_rfl
theorem laidOut : laidOutB Try.prog = true := by kernel_rfl

theorem byte_of {n : Int} (h : (Lit.int IntKind.u8 n).wf = true) : E18.Byte n := by
  simp [Lit.wf, IntKind.min, IntKind.max, IntKind.signed, IntKind.bits] at h
  exact ⟨by omega, by omega⟩

theorem law : ∀ xs, ShAs [(.row [.int .i64, .int .i64, .int .i64, .int .i64, .int .i64], true), (.sl (.int .u8) 1 1 false, false)] xs →
    VCall Try.prog 4 xs [] fun out _ => out = .ret (.bool true) := by
  intro xs h
  simp only [ShAs, ShA, ShT, if_true, Bool.false_eq_true, if_false] at h
  obtain ⟨_, _, rfl, ⟨_, rfl, he⟩, _, _, rfl, ⟨l, h1, hl, hx⟩, rfl⟩ := h
  cases h1
  have he : ShTs [.int .i64, .int .i64, .int .i64, .int .i64, .int .i64] _ := he
  obtain ⟨key, _, rfl, _, he⟩ := ShTs.int he
  obtain ⟨kind, _, rfl, _, he⟩ := ShTs.int he
  obtain ⟨day, _, rfl, _, he⟩ := ShTs.int he
  obtain ⟨amount, _, rfl, _, he⟩ := ShTs.int he
  obtain ⟨ref, _, rfl, _, he⟩ := ShTs.int he
  obtain rfl : _ = [] := he
  obtain ⟨ns, rfl, hw⟩ := ints_of hx
  exact E18.tells ⟨key, kind, day, amount, ref⟩ ns (fun x hx => byte_of (hw x hx)) (by simp at hl; omega)

set_option maxRecDepth 100000 in
theorem lifted (os : Os) (started : os.Started) (H : Type) (enc : TypeId × Value → H) :
    ReturnsInHanded {} Try.checked os 4 .any (Rows.eventTellsSpec.pre6 enc Try.prog Try.f4 Rows.eventTellsRow.domain false)
      (Rows.eventTellsSpec.post enc Try.prog Try.f4 false true false false) := by
  refine returnsInHanded_of_change_sized (C := Try.checked) own started (by kernel_rfl) Try.func4
    (ChangeSpec.witness6 (enc := enc) (C := Try.checked) false ⟨#[], #[.agg #[.int .i64 0, .int .i64 0, .int .i64 0, .int .i64 0, .int .i64 0], .slice none 0 0], []⟩ 8 (by kernel_rfl) (by kernel_rfl) (by kernel_rfl) (by kernel_rfl)) ?_
  intro W base args ds gs before hval hW _ hsz _
  exact law_lift (n := 9) (ts := Try.f4.params.toList) rfl laidOut (by kernel_rfl) rfl rfl (by kernel_rfl) (by kernel_rfl)
    (fun ds h => match ds, h with | [_, _], _ => rfl) Try.func4 (by rfl) (by rfl) law W base args ds gs before hval hW hsz

theorem proved : Rows.EventTellsSaid :=
  OpenClaim.holds_of_wide 4 Try.f4 rfl rfl rfl rfl rfl rfl rfl ⟨rfl, rfl, rfl, rfl, rfl⟩ rfl rfl rfl rfl rfl (by kernel_rfl) Try.func4 (by kernel_rfl)
    (of_decide_eq_true (by kernel_rfl)) (by unfold Func.isWrapper; first | (rw [if_pos (by decide +kernel)]; kernel_rfl) | (rw [if_neg (by decide +kernel)]; exact ⟨rfl, rfl⟩))
    (fun os started H enc _ => lifted os started H enc)
#print axioms proved
end Go.Proofs.Ytopoljadcjeflaa.EventTells

