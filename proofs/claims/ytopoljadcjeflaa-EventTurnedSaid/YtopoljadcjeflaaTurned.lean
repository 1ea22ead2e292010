/- EventTurned: for every input the law returns true, and each argument reads afterwards as it read before. No conditions. -/
import Derived.Test.YtopoljadcjeflaaWf
namespace E18
open Go Go.Proofs VL
set_option pp.maxSteps 6000
set_option linter.unusedSimpArgs false
set_option linter.unusedVariables false
set_option maxRecDepth 100000

def pL (e : Ev) : List Int := [pk e 0, pk e 1, pk e 2, pk e 3, pk e 4, pk e 5, pk e 6, pk e 7, pk e 8, pk e 9, pk e 10, pk e 11, pk e 12, pk e 13, pk e 14, pk e 15, pk e 16, pk e 17, pk e 18, pk e 19]
theorem pL_eq (e : Ev) : pL e = packL e := by
  obtain ⟨c0, c1, c2, c3, c4, c5, c6, c7, c8, c9, c10, c11, c12, c13, c14, c15, c16, c17, c18, c19, h⟩ := list20 (packL_len e)
  unfold pL pk
  rw [h]; rfl

theorem flat_ev (m : Nat) (a b c d e : Int) : flatT (VL.sys Try.prog m []).P 23 [.int .i64 a, .int .i64 b, .int .i64 c, .int .i64 d, .int .i64 e] = true := by kernel_rfl
theorem flat_20 (m : Nat) (x0 x1 x2 x3 x4 x5 x6 x7 x8 x9 x10 x11 x12 x13 x14 x15 x16 x17 x18 x19 : Int) : flatT (VL.sys Try.prog m []).P 32 [.int .u8 x0, .int .u8 x1, .int .u8 x2, .int .u8 x3, .int .u8 x4, .int .u8 x5, .int .u8 x6, .int .u8 x7, .int .u8 x8, .int .u8 x9, .int .u8 x10, .int .u8 x11, .int .u8 x12, .int .u8 x13, .int .u8 x14, .int .u8 x15, .int .u8 x16, .int .u8 x17, .int .u8 x18, .int .u8 x19] = true := by kernel_rfl

theorem takeC_two {b : List Int} (h : b.length = 20) : takeC b = 0 ∨ takeC b = 4 := by
  by_cases hc : checkS (evOf b) = 0
  · exact .inl (take_good h hc).2
  · exact .inr (take_bad h hc).2

theorem encP_take {x0 x1 x2 x3 x4 x5 x6 x7 x8 x9 x10 x11 x12 x13 x14 x15 x16 x17 x18 x19 : Int} (hx : ∀ x ∈ [x0, x1, x2, x3, x4, x5, x6, x7, x8, x9, x10, x11, x12, x13, x14, x15, x16, x17, x18, x19], Byte x) (h : takeC [x0, x1, x2, x3, x4, x5, x6, x7, x8, x9, x10, x11, x12, x13, x14, x15, x16, x17, x18, x19] = 0) : encP (takeE [x0, x1, x2, x3, x4, x5, x6, x7, x8, x9, x10, x11, x12, x13, x14, x15, x16, x17, x18, x19]) = .agg [.int .u8 x0, .int .u8 x1, .int .u8 x2, .int .u8 x3, .int .u8 x4, .int .u8 x5, .int .u8 x6, .int .u8 x7, .int .u8 x8, .int .u8 x9, .int .u8 x10, .int .u8 x11, .int .u8 x12, .int .u8 x13, .int .u8 x14, .int .u8 x15, .int .u8 x16, .int .u8 x17, .int .u8 x18, .int .u8 x19] := by
  have hp := (pack_take hx h).1
  unfold encP pk
  rw [hp]; rfl

set_option maxHeartbeats 4000000 in
theorem back (e : Ev) (x0 x1 x2 x3 x4 x5 x6 x7 x8 x9 x10 x11 x12 x13 x14 x15 x16 x17 x18 x19 : Int) (hx : ∀ x ∈ [x0, x1, x2, x3, x4, x5, x6, x7, x8, x9, x10, x11, x12, x13, x14, x15, x16, x17, x18, x19], Byte x) :
    VCall Try.prog 5 [encE e, .agg [.int .u8 x0, .int .u8 x1, .int .u8 x2, .int .u8 x3, .int .u8 x4, .int .u8 x5, .int .u8 x6, .int .u8 x7, .int .u8 x8, .int .u8 x9, .int .u8 x10, .int .u8 x11, .int .u8 x12, .int .u8 x13, .int .u8 x14, .int .u8 x15, .int .u8 x16, .int .u8 x17, .int .u8 x18, .int .u8 x19]] [] fun out _ => out = .ret (.bool true) := by
  have hg : ∃ (x : Ev) (f : Int) (good : Bool), takeE (pL e) = x ∧ takeC (pL e) = f ∧ (checkS e == 0) = good ∧ ((good = true ∧ x = e ∧ f = 0) ∨ (good = false ∧ x = zeroE ∧ f = 4 ∧ encP e = encP zeroE ∧ pL e = [0, 0, 0, 0, 0, 0, 0, 0, 0, 0, 0, 0, 0, 0, 0, 0, 0, 0, 0, 0])) := by
    refine ⟨_, _, _, rfl, rfl, rfl, ?_⟩
    rw [pL_eq]
    by_cases hc : checkS e = 0
    · exact .inl ⟨by simp [hc], (take_pack hc).1, (take_pack hc).2⟩
    · refine .inr ⟨by simp [hc], (take_packbad hc).1, (take_packbad hc).2, ?_, packL_bad hc⟩
      unfold encP pk
      rw [packL_bad hc, packL_bad (show checkS zeroE ≠ 0 by rw [show zeroE = ⟨0, 0, 0, 0, 0⟩ from rfl, chk2]; decide)]
  obtain ⟨x, f, good, t1, t2, t3, hg⟩ := hg
  have hz : encP zeroE = .agg [.int .u8 0, .int .u8 0, .int .u8 0, .int .u8 0, .int .u8 0, .int .u8 0, .int .u8 0, .int .u8 0, .int .u8 0, .int .u8 0, .int .u8 0, .int .u8 0, .int .u8 0, .int .u8 0, .int .u8 0, .int .u8 0, .int .u8 0, .int .u8 0, .int .u8 0, .int .u8 0] := by
    unfold encP pk
    rw [packL_bad (show checkS zeroE ≠ 0 by rw [show zeroE = ⟨0, 0, 0, 0, 0⟩ from rfl, chk2]; decide)]; rfl
  have h2 := takeC_two (b := [x0, x1, x2, x3, x4, x5, x6, x7, x8, x9, x10, x11, x12, x13, x14, x15, x16, x17, x18, x19]) rfl
  refine call_fun [] 0 Try.func5 (by rfl) (by rfl) ?_
  conv => whnf
  repeat (refine step_go [] ?_; conv => whnf)
  refine c_pack e _ ?_
  rcases hg with ⟨rfl, rfl, rfl⟩ | ⟨rfl, rfl, rfl, hbad, hpl⟩
  · conv => whnf
    repeat (refine step_go [] ?_; conv => whnf)
    refine VCall.args (args' := [.sl (bL (pL x)) .no]) (.cons .no .nil) rfl ?_
    refine c_take (pL x) (by simp [pL]) _ ?_
    rw [t1, t2]; conv => whnf
    repeat (refine step_go [] ?_; conv => whnf)
    refine VCall.args (args' := [.sl (bL [x0, x1, x2, x3, x4, x5, x6, x7, x8, x9, x10, x11, x12, x13, x14, x15, x16, x17, x18, x19]) .no]) (.cons .no .nil) rfl ?_
    refine c_take [x0, x1, x2, x3, x4, x5, x6, x7, x8, x9, x10, x11, x12, x13, x14, x15, x16, x17, x18, x19] (by simp) _ ?_
    rcases h2 with h2 | h2
    all_goals rw [h2]; conv => whnf
    all_goals repeat (refine step_go [] ?_; conv => whnf)
    all_goals refine c_rcheck x _ ?_; conv => whnf
    all_goals repeat (refine step_go [] ?_; conv => whnf)
    all_goals rw [t3]
    all_goals refine ⟨by decide +kernel, ?_⟩; conv => whnf
    all_goals refine c_awake _ ?_; conv => whnf
    all_goals repeat' first
      | exact rfl
      | (refine congrArg (fun b => Out.ret (V.bool b)) ?_; simp; done)
      | (refine step_go [] ?_; conv => whnf)
      | (refine ⟨rfl, ?_⟩; conv => whnf)
      | (rw [flat_ev]; conv => whnf)
      | (rw [flat_20]; conv => whnf)
      | (refine yes (by simp) ?_; conv => whnf)
      | (refine c_pack (takeE [x0, x1, x2, x3, x4, x5, x6, x7, x8, x9, x10, x11, x12, x13, x14, x15, x16, x17, x18, x19]) _ ?_; rw [encP_take hx h2]; conv => whnf)
  · rw [hpl] at t1 t2
    rw [hbad, hz]
    conv => whnf
    repeat (refine step_go [] ?_; conv => whnf)
    refine VCall.args (args' := [.sl (bL ([0, 0, 0, 0, 0, 0, 0, 0, 0, 0, 0, 0, 0, 0, 0, 0, 0, 0, 0, 0])) .no]) (.cons .no .nil) rfl ?_
    refine c_take ([0, 0, 0, 0, 0, 0, 0, 0, 0, 0, 0, 0, 0, 0, 0, 0, 0, 0, 0, 0]) (by simp [pL]) _ ?_
    rw [t1, t2]; conv => whnf
    repeat (refine step_go [] ?_; conv => whnf)
    refine VCall.args (args' := [.sl (bL [x0, x1, x2, x3, x4, x5, x6, x7, x8, x9, x10, x11, x12, x13, x14, x15, x16, x17, x18, x19]) .no]) (.cons .no .nil) rfl ?_
    refine c_take [x0, x1, x2, x3, x4, x5, x6, x7, x8, x9, x10, x11, x12, x13, x14, x15, x16, x17, x18, x19] (by simp) _ ?_
    rcases h2 with h2 | h2
    all_goals rw [h2]; conv => whnf
    all_goals repeat (refine step_go [] ?_; conv => whnf)
    all_goals refine c_rcheck e _ ?_; conv => whnf
    all_goals repeat (refine step_go [] ?_; conv => whnf)
    all_goals rw [t3]
    all_goals refine ⟨by decide +kernel, ?_⟩; conv => whnf
    all_goals refine c_awake _ ?_; conv => whnf
    all_goals repeat' first
      | exact rfl
      | (refine congrArg (fun b => Out.ret (V.bool b)) ?_; simp; done)
      | (refine step_go [] ?_; conv => whnf)
      | (refine ⟨rfl, ?_⟩; conv => whnf)
      | (rw [flat_ev]; conv => whnf)
      | (rw [flat_20]; conv => whnf)
      | (refine yes (by simp) ?_; conv => whnf)
      | (refine c_pack (takeE [x0, x1, x2, x3, x4, x5, x6, x7, x8, x9, x10, x11, x12, x13, x14, x15, x16, x17, x18, x19]) _ ?_; rw [encP_take hx h2]; conv => whnf)
end E18

namespace E18
open Go Go.Proofs VL
set_option pp.maxSteps 6000
set_option linter.unusedSimpArgs false
set_option linter.unusedVariables false
set_option maxRecDepth 100000

theorem flat_ev' (m : Nat) (a b c d e : Int) : flatT (VL.sys Try.prog m [22, 31]).P 23 [.int .i64 a, .int .i64 b, .int .i64 c, .int .i64 d, .int .i64 e] = true := by kernel_rfl

theorem take_of_four {b : List Int} (hl : b.length = 20) (h : takeC b = 4) : takeE b = zeroE := by
  by_cases hc : checkS (evOf b) = 0
  · rw [(take_good hl hc).2] at h; cases h
  · exact (take_bad hl hc).1

theorem byte_pL {e : Ev} (hc : checkS e = 0) : ∀ y ∈ packL e, Byte y := by
  unfold packL
  rw [if_pos hc]
  intro y hy
  simp only [List.mem_cons, List.not_mem_nil, or_false] at hy
  rcases hy with rfl | rfl | rfl | rfl | rfl | rfl | rfl | rfl | rfl | rfl | rfl | rfl | rfl | rfl | rfl | rfl | rfl | rfl | rfl | rfl <;> exact by8_byte _ _

theorem xor_byte {a x : Int} (ha : Byte a) (hx : Byte x) : Byte (bitsV .xor .u8 a x) ∧ (bitsV .xor .u8 a x = a ↔ x = 0) := by
  obtain ⟨n, rfl⟩ := Int.eq_ofNat_of_zero_le ha.1
  obtain ⟨m, rfl⟩ := Int.eq_ofNat_of_zero_le hx.1
  have hn : n < 256 := by have := ha.2; omega
  have hm : m < 256 := by have := hx.2; omega
  have e1 : (BitVec.ofInt IntKind.u8.bits (n : Int)).toNat = n := by
    rw [BitVec.toNat_ofInt]; show ((n : Int) % ((2 ^ 8 : Nat) : Int)).toNat = _; omega
  have e2 : (BitVec.ofInt IntKind.u8.bits (m : Int)).toNat = m := by
    rw [BitVec.toNat_ofInt]; show ((m : Int) % ((2 ^ 8 : Nat) : Int)).toNat = _; omega
  have hlt : n ^^^ m < 256 := Nat.xor_lt_two_pow (n := 8) hn hm
  have e3 : bitsV .xor .u8 (n : Int) (m : Int) = ((n ^^^ m : Nat) : Int) := by
    unfold bitsV
    simp only
    rw [BitVec.toNat_xor, e1, e2, wrapU8]
    omega
  rw [e3]
  refine ⟨⟨by omega, by omega⟩, ⟨fun h => ?_, fun h => ?_⟩⟩
  · have h : n ^^^ m = n := by omega
    have : n ^^^ (n ^^^ m) = n ^^^ n := by rw [h]
    rw [← Nat.xor_assoc, Nat.xor_self, Nat.zero_xor] at this
    omega
  · have : m = 0 := by omega
    subst this; simp

set_option maxHeartbeats 4000000 in
theorem turned (e : Ev) (at_ x : Int) (hx : Byte x) :
    VCall Try.prog 6 [encE e, .int .i64 at_, .int .u8 x] [] fun out _ => out = .ret (.bool true) := by
  refine call_fun [22, 31] 0 Try.func6 (by rfl) (by rfl) ?_
  conv => whnf
  repeat (refine step_go [22, 31] ?_; conv => whnf)
  refine c_rcheck e _ ?_; conv => whnf
  repeat (refine step_go [22, 31] ?_; conv => whnf)
  refine two (fun g => ?_) (fun g => ?_)
  · conv => whnf
    repeat (refine step_go [22, 31] ?_; conv => whnf)
    refine c_awake _ ?_; conv => whnf
    repeat (refine step_go [22, 31] ?_; conv => whnf)
    try exact rfl
  have hc : checkS e = 0 := by simpa using g
  conv => whnf
  repeat (refine step_go [22, 31] ?_; conv => whnf)
  refine c_pack e _ ?_; conv => whnf
  repeat (refine step_go [22, 31] ?_; conv => whnf)
  have hpl : ∀ y ∈ bL (pL e), y.cells.length = 1 := bL_cells
  refine ⟨by simp, hpl, fun sp _ hsp => ?_⟩; conv => whnf
  have h20 : (pL e).length = 20 := rfl
  have hB : ∀ y ∈ pL e, Byte y := fun y hy => byte_pL hc y (by rw [← pL_eq]; exact hy)
  have hpe : packL e = pL e := (pL_eq e).symm
  have htk := take_pack hc
  rw [← pL_eq] at htk
  obtain ⟨p, hp⟩ : ∃ p, p = pL e := ⟨_, rfl⟩
  refine VStep.weak (s' := ⟨(.undef :: .int .i64 at_ :: .int .u8 x :: .ptr 0 0 :: .undef :: .undef :: .bool false :: .undef :: .slo 2 1 0 20 (20 + sp.length) :: .undef :: .undef :: .undef :: .undef :: .undef :: .undef :: .undef :: .undef :: .undef :: .undef :: .undef :: .undef :: .undef :: .undef :: .undef :: .undef :: .undef :: .undef :: .undef :: .undef :: .undef :: .undef :: .undef :: .undef :: .undef :: .undef :: .undef :: .undef :: .undef :: .undef :: .undef :: .undef :: .undef :: .undef :: .undef :: .undef :: .undef :: .undef :: .undef :: .undef :: .undef :: .undef :: .undef :: .undef :: .undef :: .undef :: .undef :: .undef :: .undef :: .undef :: .undef :: .undef :: .undef :: .undef :: .undef :: .undef :: .undef :: .undef :: .undef :: .undef :: .undef :: .undef :: .undef :: .undef :: .undef :: .undef :: .undef :: .undef :: .undef :: .undef :: .undef :: .undef :: .undef :: .undef :: .undef :: .undef :: .undef :: .undef :: .undef :: []), (.cells true 23 (.int .i64 e.key :: .int .i64 e.kind :: .int .i64 e.day :: .int .i64 e.amount :: .int .i64 e.ref :: [])) :: .none :: .buf false 1 (bL p ++ sp) :: [], 0, []⟩) (weak_of ?_ ?_ rfl rfl rfl) ?_
  · repeat' first
      | exact VWs.nil
      | refine VWs.cons VW.undef ?_
      | refine VWs.cons (VW.eq rfl) ?_
  · subst hp
    exact .cons (.eq rfl) (.cons (.none rfl) (.cons (.eq rfl) .nil))
  rw [← hp] at h20 hB htk hpe
  clear hp hpl
  have hlen := bL_len p
  have hll : (bL p ++ sp).length = 20 + sp.length := by simp [hlen, h20]
  repeat (refine step_go [22, 31] ?_; conv => whnf)
  refine ⟨by omega, by omega, by omega, ?_⟩; conv => whnf
  repeat (refine step_go [22, 31] ?_; conv => whnf)
  refine VCall.lend rfl ?_; conv => whnf
  refine ⟨by rw [hll]; simp, ?_⟩; conv => whnf
  have e19 : ((bL p ++ sp).drop (0 + Int.toNat 0)).take (Int.toNat 19 - Int.toNat 0) = bL (p.take 19) := by
    rw [show 0 + Int.toNat 0 = 0 from rfl, show Int.toNat 19 - Int.toNat 0 = 19 from rfl, List.drop_zero, List.take_append_of_le_length (by omega)]
    simp [bL, List.map_take]
  rw [e19]
  have l19 : (p.take 19).length < 20 := by simp; omega
  refine c_take (p.take 19) (by omega) _ ?_
  rw [(take_short l19).1, (take_short l19).2]
  refine ⟨rfl, ?_⟩; conv => whnf
  repeat (refine step_go [22, 31] ?_; conv => whnf)
  have e20 : ∀ q : List V, ((bL p ++ q).drop 0).take 20 = bL p := fun q => by
    rw [List.drop_zero, List.take_append_of_le_length (by omega), List.take_of_length_le (by omega)]
  have l21 : 20 < (p ++ [x]).length := by simp; omega
  refine ⟨by omega, ?_⟩
  rw [e20 sp]; conv => whnf
  refine ⟨by simp; omega, bL_cells, fun sp2 _ hsp2 => ?_⟩; conv => whnf
  repeat (refine step_go [22, 31] ?_; conv => whnf)
  rw [hlen, h20]
  refine ⟨by simp, fun y hy => by simp at hy; subst hy; rfl, ?_⟩; conv => whnf
  have t21 : ∀ q : List V, ((bL p ++ [V.int .u8 x] ++ q).drop 0).take 21 = bL (p ++ [x]) := fun q => by
    rw [List.drop_zero, List.take_append_of_le_length (by simp; omega), List.take_of_length_le (by simp; omega), ← bL_app]; rfl
  have key : ∀ (R G : Prop), ((Unit → R) → G) → R → G := fun _ _ f r => f fun _ => r
  refine key ?R _ ?h ?r
  case h =>
    intro rest
    refine two (fun g1 => ?_) (fun g1 => ?_)
    · skip
      have g1 := Nat.le_of_ble_eq_true g1
      simp only [List.length_singleton] at g1
      refine ⟨by simp [hlen, h20], ?_⟩; conv => whnf
      repeat (refine step_go [22, 31] ?_; conv => whnf)
      refine VCall.lend rfl ?_; conv => whnf
      have e1 : List.take (0 + 20) (bL p ++ sp2) ++ [V.int .u8 x] ++ List.drop (0 + 20 + [V.int .u8 x].length) (bL p ++ sp2) = bL p ++ [V.int .u8 x] ++ sp2.drop 1 := by
        rw [show 0 + 20 = (bL p).length by omega, List.take_left, List.drop_append]
        simp [hlen, h20]
      refine ⟨by simp [hlen, h20]; omega, ?_⟩; conv => whnf
      refine Eq.mp (congrArg (fun q => VCall Try.prog 18 [.sl q .no] [] _) (show bL (p ++ [x]) = _ from by rw [← t21 (sp2.drop 1), ← e1]; rfl)) ?_
      refine c_take (p ++ [x]) (by simp; omega) _ ?_
      rw [(take_long l21).1, (take_long l21).2]
      refine ⟨rfl, ?_⟩; conv => whnf
      refine VStep.weak (s' := ⟨(.undef :: .int .i64 at_ :: .int .u8 x :: .ptr 0 0 :: .undef :: .undef :: .bool false :: .undef :: .slo 2 1 0 20 (20 + sp.length) :: .undef :: .int .i64 21 :: .undef :: .int .i64 4 :: .undef :: .undef :: .undef :: .undef :: .undef :: .undef :: .undef :: .undef :: .undef :: .undef :: .undef :: .undef :: .undef :: .undef :: .undef :: .undef :: .undef :: .undef :: .undef :: .undef :: .undef :: .undef :: .undef :: .undef :: .undef :: .undef :: .undef :: .undef :: .undef :: .undef :: .undef :: .undef :: .undef :: .undef :: .undef :: .undef :: .undef :: .undef :: .undef :: .undef :: .undef :: .undef :: .undef :: .undef :: .undef :: .undef :: .undef :: .undef :: .undef :: .undef :: .undef :: .undef :: .undef :: .undef :: .undef :: .undef :: .undef :: .undef :: .undef :: .undef :: .undef :: .undef :: .undef :: .undef :: .undef :: .undef :: .undef :: .undef :: .undef :: .undef :: .undef :: .undef :: .undef :: .undef :: .undef :: []), (.cells true 23 (.int .i64 e.key :: .int .i64 e.kind :: .int .i64 e.day :: .int .i64 e.amount :: .int .i64 e.ref :: [])) :: .none :: .buf false 1 (bL p ++ sp) :: [], 0, []⟩) (weak_of ?_ ?_ rfl rfl rfl) ?_
      · repeat' first
          | exact VWs.nil
          | refine VWs.cons VW.undef ?_
          | refine VWs.cons (VW.eq rfl) ?_
      · exact .cons (.eq rfl) (.cons (.eq rfl) (.cons (.eq rfl) .nil))
      exact rest ()
    · refine ⟨by simp [hlen, h20], fun sp3 hsp3 => ?_⟩; conv => whnf
      repeat (refine step_go [22, 31] ?_; conv => whnf)
      refine VCall.lend rfl ?_; conv => whnf
      refine ⟨by simp [hlen, h20]; omega, ?_⟩; conv => whnf
      refine Eq.mp (congrArg (fun q => VCall Try.prog 18 [.sl q .no] [] _) (show bL (p ++ [x]) = _ from by rw [e20 sp2, ← t21 sp3]; rfl)) ?_
      refine c_take (p ++ [x]) (by simp; omega) _ ?_
      rw [(take_long l21).1, (take_long l21).2]
      refine ⟨rfl, ?_⟩; conv => whnf
      refine VStep.weak (s' := ⟨(.undef :: .int .i64 at_ :: .int .u8 x :: .ptr 0 0 :: .undef :: .undef :: .bool false :: .undef :: .slo 2 1 0 20 (20 + sp.length) :: .undef :: .int .i64 21 :: .undef :: .int .i64 4 :: .undef :: .undef :: .undef :: .undef :: .undef :: .undef :: .undef :: .undef :: .undef :: .undef :: .undef :: .undef :: .undef :: .undef :: .undef :: .undef :: .undef :: .undef :: .undef :: .undef :: .undef :: .undef :: .undef :: .undef :: .undef :: .undef :: .undef :: .undef :: .undef :: .undef :: .undef :: .undef :: .undef :: .undef :: .undef :: .undef :: .undef :: .undef :: .undef :: .undef :: .undef :: .undef :: .undef :: .undef :: .undef :: .undef :: .undef :: .undef :: .undef :: .undef :: .undef :: .undef :: .undef :: .undef :: .undef :: .undef :: .undef :: .undef :: .undef :: .undef :: .undef :: .undef :: .undef :: .undef :: .undef :: .undef :: .undef :: .undef :: .undef :: .undef :: .undef :: .undef :: .undef :: .undef :: .undef :: []), (.cells true 23 (.int .i64 e.key :: .int .i64 e.kind :: .int .i64 e.day :: .int .i64 e.amount :: .int .i64 e.ref :: [])) :: .none :: .buf false 1 (bL p ++ sp) :: [], 0, []⟩) (weak_of ?_ ?_ rfl rfl rfl) ?_
      · repeat' first
          | exact VWs.nil
          | refine VWs.cons VW.undef ?_
          | refine VWs.cons (VW.eq rfl) ?_
      · exact .cons (.eq rfl) (.cons (.eq rfl) (.cons (.eq rfl) .nil))
      exact rest ()
  case r =>
    repeat (refine step_go [22, 31] ?_; conv => whnf)
    obtain ⟨j, hj, hjw⟩ : ∃ j : Nat, j < 20 ∧ IntKind.i64.wrap ((IntKind.u64.wrap at_).tmod 20) = (j : Int) := by
      have h0 : 0 ≤ IntKind.u64.wrap at_ := by
        have : IntKind.u64.wrap at_ = at_ % 18446744073709551616 := by unfold IntKind.wrap; simp [IntKind.bits, IntKind.signed]
        omega
      have h1 := Int.tmod_lt_of_pos (IntKind.u64.wrap at_) (show (0 : Int) < 20 by omega)
      have h2 := Int.tmod_nonneg (20 : Int) h0
      exact ⟨((IntKind.u64.wrap at_).tmod 20).toNat, by omega, by rw [wrap64 (by omega) (by omega)]; omega⟩
    refine ⟨by decide, ?_⟩; conv => whnf
    refine ⟨by decide, ?_⟩; conv => whnf
    rw [hjw, Int.toNat_natCast]
    have hjp : j < p.length := by omega
    have hget : ∀ q : List V, (bL p ++ q)[0 + j]? = some (.int .u8 p[j]) := fun q => by
      rw [Nat.zero_add, List.getElem?_append_left (by omega), bL_get, List.getElem?_eq_getElem hjp]; rfl
    refine ⟨by omega, by omega, ?_⟩; conv => whnf
    refine ⟨_, hget sp, ?_⟩; conv => whnf
    refine ⟨by omega, by omega, ?_⟩; conv => whnf
    refine ⟨_, hget sp, ?_⟩; conv => whnf
    obtain ⟨y, hy⟩ : ∃ y, y = bitsV .xor .u8 p[j] x := ⟨_, rfl⟩
    rw [← hy]
    repeat (refine step_go [22, 31] ?_; conv => whnf)
    refine VCall.lend rfl ?_; conv => whnf
    have hset : ((bL p ++ sp).set (0 + j) (V.remake (.int .u8 p[j]) [.int .u8 y])) = bL (p.set j y) ++ sp := by
      rw [Nat.zero_add, List.set_append_left _ _ (by omega)]
      simp [bL, V.remake, List.map_set]
    rw [Int.toNat_natCast, hset]
    refine ⟨by rw [List.length_append, bL_len, List.length_set, h20]; omega, ?_⟩; conv => whnf
    have hpj : Byte p[j] := hB _ (List.getElem_mem _)
    obtain ⟨hyB, hyx⟩ := xor_byte hpj hx
    rw [← hy] at hyB hyx
    have hsl : (p.set j y).length = 20 := by simp [h20]
    have ht20 : ((bL (p.set j y) ++ sp).drop 0).take 20 = bL (p.set j y) := by
      rw [List.drop_zero, List.take_append_of_le_length (by simp [bL, h20]), List.take_of_length_le (by simp [bL, h20])]
    rw [ht20]
    by_cases hx0 : x = 0
    · have hyp : y = p[j] := hyx.2 hx0
      have hpp : p.set j y = p := by rw [hyp]; simp
      refine c_take (p.set j y) (by omega) _ ?_
      rw [hpp, htk.1, htk.2]
      refine ⟨rfl, ?_⟩; conv => whnf
      repeat (refine step_go [22, 31] ?_; conv => whnf)
      refine c_awake _ ?_; conv => whnf
      subst hx0
      repeat' first
        | (refine step_go [22, 31] ?_; conv => whnf)
        | (refine yes (by decide) ?_; conv => whnf)
        | (refine no (by decide) ?_; conv => whnf)
        | (rw [flat_ev']; conv => whnf)
        | (refine yes (by simp) ?_; conv => whnf)
        | (refine no (by simp) ?_; conv => whnf)
        | exact rfl
        | (refine congrArg (fun b => Out.ret (V.bool b)) ?_; simp; done)
    · have hne : p.set j y ≠ p := fun h => by
        have h1 : (p.set j y)[j]? = p[j]? := by rw [h]
        rw [List.getElem?_set_self hjp, List.getElem?_eq_getElem hjp] at h1
        exact hx0 (hyx.1 (Option.some.inj h1))
      refine c_take (p.set j y) (by omega) _ ?_
      have hb' : ∀ z ∈ p.set j y, Byte z := fun z hz => by
        rcases List.mem_or_eq_of_mem_set hz with h | h
        · exact hB z h
        · rw [h]; exact hyB
      rcases takeC_two hsl with h4 | h4
      · have hX : takeE (p.set j y) ≠ e := fun h => hne (by
          have := (pack_take hb' h4).1
          rw [h] at this
          rw [← this, hpe])
        rw [h4]
        generalize takeE (p.set j y) = X at hX
        refine ⟨rfl, ?_⟩; conv => whnf
        repeat (refine step_go [22, 31] ?_; conv => whnf)
        refine c_awake _ ?_; conv => whnf
        have heq : eqCells [V.int .i64 X.key, V.int .i64 X.kind, V.int .i64 X.day, V.int .i64 X.amount, V.int .i64 X.ref] [V.int .i64 e.key, V.int .i64 e.kind, V.int .i64 e.day, V.int .i64 e.amount, V.int .i64 e.ref] = some false := by
          have : (X.key == e.key && (X.kind == e.kind && (X.day == e.day && (X.amount == e.amount && (X.ref == e.ref && true))))) = false := by
            rw [Bool.eq_false_iff]
            intro h
            simp at h
            apply hX
            cases X; cases e
            simp_all
          rw [← this]; rfl
        rw [heq, flat_ev']; conv => whnf
        have hx1 : (x == 0) = false := by simpa using hx0
        rw [hx1]
        repeat' first
          | (refine step_go [22, 31] ?_; conv => whnf)
          | (refine yes (by decide) ?_; conv => whnf)
          | (refine no (by decide) ?_; conv => whnf)
          | exact rfl
      · rw [h4, (take_of_four hsl h4)]
        refine ⟨rfl, ?_⟩; conv => whnf
        repeat (refine step_go [22, 31] ?_; conv => whnf)
        refine c_awake _ ?_; conv => whnf
        repeat' first
          | (refine step_go [22, 31] ?_; conv => whnf)
          | (refine yes (by decide) ?_; conv => whnf)
          | (refine no (by decide) ?_; conv => whnf)
          | (rw [flat_ev']; conv => whnf)
          | (refine yes (by simp) ?_; conv => whnf)
          | (refine no (by simp) ?_; conv => whnf)
          | exact rfl
          | (refine congrArg (fun b => Out.ret (V.bool b)) ?_; simp; done)
end E18

namespace Go.Proofs.Ytopoljadcjeflaa.EventTurned
open Go Go.Proofs VL Go.ChangeShapes
set_option linter.unusedVariables false
set_option linter.unusedSimpArgs false

theorem own : ownKnob Try.prog.godebug = none := by kernel_rfl
theorem laidOut : laidOutB Try.prog = true := by kernel_rfl

theorem byte_of {n : Int} (h : (Lit.int IntKind.u8 n).wf = true) : E18.Byte n := by
  simp [Lit.wf, IntKind.min, IntKind.max, IntKind.signed, IntKind.bits] at h
  exact ⟨by omega, by omega⟩

theorem law : ∀ xs, ShAs [(.row [.int .i64, .int .i64, .int .i64, .int .i64, .int .i64], true), (.int .i64, false), (.int .u8, false)] xs →
    VCall Try.prog 6 xs [] fun out _ => out = .ret (.bool true) := by
  intro xs h
  simp only [ShAs, ShA, ShT, if_true, Bool.false_eq_true, if_false] at h
  obtain ⟨_, _, rfl, ⟨_, rfl, he⟩, _, _, rfl, ⟨at_, h1, _⟩, _, _, rfl, ⟨x, h2, hw⟩, rfl⟩ := h
  cases h1; cases h2
  have he : ShTs [.int .i64, .int .i64, .int .i64, .int .i64, .int .i64] _ := he
  obtain ⟨key, _, rfl, _, he⟩ := ShTs.int he
  obtain ⟨kind, _, rfl, _, he⟩ := ShTs.int he
  obtain ⟨day, _, rfl, _, he⟩ := ShTs.int he
  obtain ⟨amount, _, rfl, _, he⟩ := ShTs.int he
  obtain ⟨ref, _, rfl, _, he⟩ := ShTs.int he
  obtain rfl : _ = [] := he
  exact E18.turned ⟨key, kind, day, amount, ref⟩ at_ x (byte_of hw)

set_option maxRecDepth 100000 in
theorem lifted (os : Os) (started : os.Started) (H : Type) (enc : TypeId × Value → H) :
    ReturnsInHanded {} Try.checked os 6 .any (Rows.eventTurnedSpec.pre6 enc Try.prog Try.f6 Rows.eventTurnedRow.domain false)
      (Rows.eventTurnedSpec.post enc Try.prog Try.f6 false true false false) := by
  refine returnsInHanded_of_change_sized (C := Try.checked) own started (by kernel_rfl) Try.func6
    (ChangeSpec.witness6 (enc := enc) (C := Try.checked) false ⟨#[], #[.agg #[.int .i64 0, .int .i64 0, .int .i64 0, .int .i64 0, .int .i64 0], .int .i64 0, .int .u8 0], []⟩ 8 (by kernel_rfl) (by kernel_rfl) (by kernel_rfl) (by kernel_rfl)) ?_
  intro W base args ds gs before hval hW _ hsz _
  exact law_lift (n := 9) (ts := Try.f6.params.toList) rfl laidOut (by kernel_rfl) rfl rfl (by kernel_rfl) (by kernel_rfl)
    (fun ds h => match ds, h with | [_, _, _], _ => rfl) Try.func6 (by rfl) (by rfl) law W base args ds gs before hval hW hsz

theorem proved : Rows.EventTurnedSaid :=
  OpenClaim.holds_of_wide 6 Try.f6 rfl rfl rfl rfl rfl rfl rfl ⟨rfl, rfl, rfl, rfl, rfl⟩ rfl rfl rfl rfl rfl (by kernel_rfl) Try.func6 (by kernel_rfl)
    (of_decide_eq_true (by kernel_rfl)) (by unfold Func.isWrapper; first | (rw [if_pos (by decide +kernel)]; kernel_rfl) | (rw [if_neg (by decide +kernel)]; exact ⟨rfl, rfl⟩))
    (fun os started H enc _ => lifted os started H enc)
#print axioms proved
end Go.Proofs.Ytopoljadcjeflaa.EventTurned
