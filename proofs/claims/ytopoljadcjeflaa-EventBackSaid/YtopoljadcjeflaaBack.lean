/- EventBack: for every input the law returns true, and each argument reads afterwards as it read before. No conditions. -/
import Derived.Test.YtopoljadcjeflaaWf
namespace E18
open Go Go.Proofs VL
set_option pp.maxSteps 6000
set_option linter.unusedSimpArgs false
set_option linter.unusedVariables false
set_option maxRecDepth 100000

def pL (e : Ev) : List Int := [pk e 0, pk e 1, pk e 2, pk e 3, pk e 4, pk e 5, pk e 6, pk e 7, pk e 8, pk e 9, pk e 10, pk e 11, pk e 12, pk e 13, pk e 14, pk e 15, pk e 16, pk e 17, pk e 18, pk e 19]
theorem pL_eq (e : Ev) : pL e = packL e := by
  obtain ⟨c0, c1, c2, c3, c4, c5, c6, c7, c8, c9, c10, c11, c12, c13, c14, c15, c16, c17, c18, c19, h⟩ := list20 (packL_len e)
  unfold pL pk
  rw [h]; rfl

theorem flat_ev (m : Nat) (a b c d e : Int) : flatT (VL.sys Try.prog m []).P 23 [.int .i64 a, .int .i64 b, .int .i64 c, .int .i64 d, .int .i64 e] = true := by kernel_rfl
theorem flat_20 (m : Nat) (x0 x1 x2 x3 x4 x5 x6 x7 x8 x9 x10 x11 x12 x13 x14 x15 x16 x17 x18 x19 : Int) : flatT (VL.sys Try.prog m []).P 32 [.int .u8 x0, .int .u8 x1, .int .u8 x2, .int .u8 x3, .int .u8 x4, .int .u8 x5, .int .u8 x6, .int .u8 x7, .int .u8 x8, .int .u8 x9, .int .u8 x10, .int .u8 x11, .int .u8 x12, .int .u8 x13, .int .u8 x14, .int .u8 x15, .int .u8 x16, .int .u8 x17, .int .u8 x18, .int .u8 x19] = true := by kernel_rfl

theorem takeC_two {b : List Int} (h : b.length = 20) : takeC b = 0 ∨ takeC b = 4 := by
  by_cases hc : checkS (evOf b) = 0
  · exact .inl (take_good h hc).2
  · exact .inr (take_bad h hc).2

theorem encP_take {x0 x1 x2 x3 x4 x5 x6 x7 x8 x9 x10 x11 x12 x13 x14 x15 x16 x17 x18 x19 : Int} (hx : ∀ x ∈ [x0, x1, x2, x3, x4, x5, x6, x7, x8, x9, x10, x11, x12, x13, x14, x15, x16, x17, x18, x19], Byte x) (h : takeC [x0, x1, x2, x3, x4, x5, x6, x7, x8, x9, x10, x11, x12, x13, x14, x15, x16, x17, x18, x19] = 0) : encP (takeE [x0, x1, x2, x3, x4, x5, x6, x7, x8, x9, x10, x11, x12, x13, x14, x15, x16, x17, x18, x19]) = .agg [.int .u8 x0, .int .u8 x1, .int .u8 x2, .int .u8 x3, .int .u8 x4, .int .u8 x5, .int .u8 x6, .int .u8 x7, .int .u8 x8, .int .u8 x9, .int .u8 x10, .int .u8 x11, .int .u8 x12, .int .u8 x13, .int .u8 x14, .int .u8 x15, .int .u8 x16, .int .u8 x17, .int .u8 x18, .int .u8 x19] := by
  have hp := (pack_take hx h).1
  unfold encP pk
  rw [hp]; rfl

set_option maxHeartbeats 4000000 in
theorem back (e : Ev) (x0 x1 x2 x3 x4 x5 x6 x7 x8 x9 x10 x11 x12 x13 x14 x15 x16 x17 x18 x19 : Int) (hx : ∀ x ∈ [x0, x1, x2, x3, x4, x5, x6, x7, x8, x9, x10, x11, x12, x13, x14, x15, x16, x17, x18, x19], Byte x) :
    VCall Try.prog 5 [encE e, .agg [.int .u8 x0, .int .u8 x1, .int .u8 x2, .int .u8 x3, .int .u8 x4, .int .u8 x5, .int .u8 x6, .int .u8 x7, .int .u8 x8, .int .u8 x9, .int .u8 x10, .int .u8 x11, .int .u8 x12, .int .u8 x13, .int .u8 x14, .int .u8 x15, .int .u8 x16, .int .u8 x17, .int .u8 x18, .int .u8 x19]] [] fun out _ => out = .ret (.bool true) := by
  have hg : ∃ (x : Ev) (f : Int) (good : Bool), takeE (pL e) = x ∧ takeC (pL e) = f ∧ (checkS e == 0) = good ∧ ((good = true ∧ x = e ∧ f = 0) ∨ (good = false ∧ x = zeroE ∧ f = 4 ∧ encP e = encP zeroE ∧ pL e = [0, 0, 0, 0, 0, 0, 0, 0, 0, 0, 0, 0, 0, 0, 0, 0, 0, 0, 0, 0])) := by
    refine ⟨_, _, _, rfl, rfl, rfl, ?_⟩
    rw [pL_eq]
    by_cases hc : checkS e = 0
    · exact .inl ⟨by simp [hc], (take_pack hc).1, (take_pack hc).2⟩
    · refine .inr ⟨by simp [hc], (take_packbad hc).1, (take_packbad hc).2, ?_, packL_bad hc⟩
      unfold encP pk
      rw [packL_bad hc, packL_bad (show checkS zeroE ≠ 0 by rw [show zeroE = ⟨0, 0, 0, 0, 0⟩ from rfl, chk2]; decide)]
  obtain ⟨x, f, good, t1, t2, t3, hg⟩ := hg
  have hz : encP zeroE = .agg [.int .u8 0, .int .u8 0, .int .u8 0, .int .u8 0, .int .u8 0, .int .u8 0, .int .u8 0, .int .u8 0, .int .u8 0, .int .u8 0, .int .u8 0, .int .u8 0, .int .u8 0, .int .u8 0, .int .u8 0, .int .u8 0, .int .u8 0, .int .u8 0, .int .u8 0, .int .u8 0] := by
    unfold encP pk
    rw [packL_bad (show checkS zeroE ≠ 0 by rw [show zeroE = ⟨0, 0, 0, 0, 0⟩ from rfl, chk2]; decide)]; rfl
  have h2 := takeC_two (b := [x0, x1, x2, x3, x4, x5, x6, x7, x8, x9, x10, x11, x12, x13, x14, x15, x16, x17, x18, x19]) rfl
  refine call_fun [] 0 Try.func5 (by rfl) (by rfl) ?_
  conv => whnf
  repeat (refine step_go [] ?_; conv => whnf)
  refine c_pack e _ ?_
  rcases hg with ⟨rfl, rfl, rfl⟩ | ⟨rfl, rfl, rfl, hbad, hpl⟩
  · conv => whnf
    repeat (refine step_go [] ?_; conv => whnf)
    refine VCall.args (args' := [.sl (bL (pL x)) .no]) (.cons .no .nil) rfl ?_
    refine c_take (pL x) (by simp [pL]) _ ?_
    rw [t1, t2]; conv => whnf
    repeat (refine step_go [] ?_; conv => whnf)
    refine VCall.args (args' := [.sl (bL [x0, x1, x2, x3, x4, x5, x6, x7, x8, x9, x10, x11, x12, x13, x14, x15, x16, x17, x18, x19]) .no]) (.cons .no .nil) rfl ?_
    refine c_take [x0, x1, x2, x3, x4, x5, x6, x7, x8, x9, x10, x11, x12, x13, x14, x15, x16, x17, x18, x19] (by simp) _ ?_
    rcases h2 with h2 | h2
    all_goals rw [h2]; conv => whnf
    all_goals repeat (refine step_go [] ?_; conv => whnf)
    all_goals refine c_rcheck x _ ?_; conv => whnf
    all_goals repeat (refine step_go [] ?_; conv => whnf)
    all_goals rw [t3]
    all_goals refine ⟨by decide +kernel, ?_⟩; conv => whnf
    all_goals refine c_awake _ ?_; conv => whnf
    all_goals repeat' first
      | exact rfl
      | (refine congrArg (fun b => Out.ret (V.bool b)) ?_; simp; done)
      | (refine step_go [] ?_; conv => whnf)
      | (refine ⟨rfl, ?_⟩; conv => whnf)
      | (rw [flat_ev]; conv => whnf)
      | (rw [flat_20]; conv => whnf)
      | (refine yes (by simp) ?_; conv => whnf)
      | (refine c_pack (takeE [x0, x1, x2, x3, x4, x5, x6, x7, x8, x9, x10, x11, x12, x13, x14, x15, x16, x17, x18, x19]) _ ?_; rw [encP_take hx h2]; conv => whnf)
  · rw [hpl] at t1 t2
    rw [hbad, hz]
    conv => whnf
    repeat (refine step_go [] ?_; conv => whnf)
    refine VCall.args (args' := [.sl (bL ([0, 0, 0, 0, 0, 0, 0, 0, 0, 0, 0, 0, 0, 0, 0, 0, 0, 0, 0, 0])) .no]) (.cons .no .nil) rfl ?_
    refine c_take ([0, 0, 0, 0, 0, 0, 0, 0, 0, 0, 0, 0, 0, 0, 0, 0, 0, 0, 0, 0]) (by simp [pL]) _ ?_
    rw [t1, t2]; conv => whnf
    repeat (refine step_go [] ?_; conv => whnf)
    refine VCall.args (args' := [.sl (bL [x0, x1, x2, x3, x4, x5, x6, x7, x8, x9, x10, x11, x12, x13, x14, x15, x16, x17, x18, x19]) .no]) (.cons .no .nil) rfl ?_
    refine c_take [x0, x1, x2, x3, x4, x5, x6, x7, x8, x9, x10, x11, x12, x13, x14, x15, x16, x17, x18, x19] (by simp) _ ?_
    rcases h2 with h2 | h2
    all_goals rw [h2]; conv => whnf
    all_goals repeat (refine step_go [] ?_; conv => whnf)
    all_goals refine c_rcheck e _ ?_; conv => whnf
    all_goals repeat (refine step_go [] ?_; conv => whnf)
    all_goals rw [t3]
    all_goals refine ⟨by decide +kernel, ?_⟩; conv => whnf
    all_goals refine c_awake _ ?_; conv => whnf
    all_goals repeat' first
      | exact rfl
      | (refine congrArg (fun b => Out.ret (V.bool b)) ?_; simp; done)
      | (refine step_go [] ?_; conv => whnf)
      | (refine ⟨rfl, ?_⟩; conv => whnf)
      | (rw [flat_ev]; conv => whnf)
      | (rw [flat_20]; conv => whnf)
      | (refine yes (by simp) ?_; conv => whnf)
      | (refine c_pack (takeE [x0, x1, x2, x3, x4, x5, x6, x7, x8, x9, x10, x11, x12, x13, x14, x15, x16, x17, x18, x19]) _ ?_; rw [encP_take hx h2]; conv => whnf)
end E18

namespace Go.Proofs.Ytopoljadcjeflaa.EventBack
open Go Go.Proofs VL Go.ChangeShapes
set_option linter.unusedVariables false
set_option linter.unusedSimpArgs false

theorem own : ownKnob Try.prog.godebug = none := by kernel_rfl
theorem laidOut : laidOutB Try.prog = true := by kernel_rfl

theorem byte_of {n : Int} (h : (Lit.int IntKind.u8 n).wf = true) : E18.Byte n := by
  simp [Lit.wf, IntKind.min, IntKind.max, IntKind.signed, IntKind.bits] at h
  exact ⟨by omega, by omega⟩

theorem law : ∀ xs, ShAs [(.row [.int .i64, .int .i64, .int .i64, .int .i64, .int .i64], true), (.row (List.replicate 20 (.int .u8)), true)] xs →
    VCall Try.prog 5 xs [] fun out _ => out = .ret (.bool true) := by
  intro xs h
  simp only [ShAs, ShA, if_true] at h
  obtain ⟨_, _, rfl, ⟨_, rfl, he⟩, _, _, rfl, ⟨_, rfl, hb⟩, rfl⟩ := h
  obtain ⟨key, _, rfl, _, he⟩ := ShTs.int he
  obtain ⟨kind, _, rfl, _, he⟩ := ShTs.int he
  obtain ⟨day, _, rfl, _, he⟩ := ShTs.int he
  obtain ⟨amount, _, rfl, _, he⟩ := ShTs.int he
  obtain ⟨ref, _, rfl, _, he⟩ := ShTs.int he
  obtain rfl : _ = [] := he
  obtain ⟨l, hl, rfl, hw⟩ := ShTs.ints 20 hb
  obtain ⟨b0, b1, b2, b3, b4, b5, b6, b7, b8, b9, b10, b11, b12, b13, b14, b15, b16, b17, b18, b19, rfl⟩ := E18.list20 hl
  exact E18.back ⟨key, kind, day, amount, ref⟩ b0 b1 b2 b3 b4 b5 b6 b7 b8 b9 b10 b11 b12 b13 b14 b15 b16 b17 b18 b19 fun x hx => byte_of (hw x hx)

set_option maxRecDepth 100000 in
theorem lifted (os : Os) (started : os.Started) (H : Type) (enc : TypeId × Value → H) :
    ReturnsInHanded {} Try.checked os 5 .any (Rows.eventBackSpec.pre6 enc Try.prog Try.f5 Rows.eventBackRow.domain false)
      (Rows.eventBackSpec.post enc Try.prog Try.f5 false true false false) := by
  refine returnsInHanded_of_change_sized (C := Try.checked) own started (by kernel_rfl) Try.func5
    (ChangeSpec.witness6 (enc := enc) (C := Try.checked) false ⟨#[], #[.agg #[.int .i64 0, .int .i64 0, .int .i64 0, .int .i64 0, .int .i64 0], .agg #[.int .u8 0, .int .u8 0, .int .u8 0, .int .u8 0, .int .u8 0, .int .u8 0, .int .u8 0, .int .u8 0, .int .u8 0, .int .u8 0, .int .u8 0, .int .u8 0, .int .u8 0, .int .u8 0, .int .u8 0, .int .u8 0, .int .u8 0, .int .u8 0, .int .u8 0, .int .u8 0]], []⟩ 8 (by kernel_rfl) (by kernel_rfl) (by kernel_rfl) (by kernel_rfl)) ?_
  intro W base args ds gs before hval hW _ hsz _
  exact law_lift (n := 9) (ts := Try.f5.params.toList) rfl laidOut (by kernel_rfl) rfl rfl (by kernel_rfl) (by kernel_rfl)
    (fun ds h => match ds, h with | [_, _], _ => rfl) Try.func5 (by rfl) (by rfl) law W base args ds gs before hval hW hsz

theorem proved : Rows.EventBackSaid :=
  OpenClaim.holds_of_wide 5 Try.f5 rfl rfl rfl rfl rfl rfl rfl ⟨rfl, rfl, rfl, rfl, rfl⟩ rfl rfl rfl rfl rfl (by kernel_rfl) Try.func5 (by kernel_rfl)
    (of_decide_eq_true (by kernel_rfl)) (by unfold Func.isWrapper; first | (rw [if_pos (by decide +kernel)]; kernel_rfl) | (rw [if_neg (by decide +kernel)]; exact ⟨rfl, rfl⟩))
    (fun os started H enc _ => lifted os started H enc)
#print axioms proved
end Go.Proofs.Ytopoljadcjeflaa.EventBack
