/- CodecLong: for every input the law returns true, and each argument reads afterwards as it read before. No conditions. -/
import Derived.Test.YtopoljadcjeflaaWg
namespace E26
open Go Go.Proofs VL E18
set_option pp.maxSteps 1500
set_option linter.unusedSimpArgs false
set_option linter.unusedVariables false
set_option maxRecDepth 100000

def cs (n : Nat) (c : Int) : List Int := List.replicate n c
theorem cs_byte {n : Nat} {c : Int} (hc : Byte c) : ∀ x ∈ cs n c, Byte x := fun x hx => by
  have := List.eq_of_mem_replicate hx; subst this; exact hc
theorem cs_len (n : Nat) (c : Int) : (cs n c).length = n := by simp [cs]

theorem long_C {n : Nat} {c : Int} : packC (toBA (cs n c)) [] = if 20000 < n then 3 else 0 := by
  unfold packC
  rw [toBA_size, cs_len]
  simp [badE]
theorem long_B {n : Nat} {c : Int} (hc : Byte c) (hn : n ≤ 20000) : packB (toBA (cs n c)) [] = hdr n ++ cs n c := by
  unfold packB
  rw [long_C, if_neg (show ¬ 20000 < n by omega), if_pos rfl, toBA_size, cs_len, sB_toBA (fun x hx => cs_byte hc x hx)]
  simp

theorem hdr_num {n : Nat} (hn : n < 65536) (l : List Int) : num2 (hdr n ++ l) = n := by
  unfold num2 hdr shiftV
  simp only [List.cons_append, List.nil_append, List.getD_cons_zero, List.getD_cons_succ]
  rw [wrapU8, wrapU8, show (min (Int.toNat 8) IntKind.i64.bits) = 8 by decide, Int.fdiv_eq_ediv_of_nonneg _ (by decide)]
  show (n : Int) / 256 % 256 * 256 + (n : Int) % 256 = n
  omega

theorem long_T {n : Nat} {c : Int} (hn : n ≤ 20000) : tkS (hdr n ++ cs n c) = (0, cs n c, []) := by
  have hl : (hdr n ++ cs n c).length = n + 2 := by simp [hdr, cs_len]
  have hnum := hdr_num (n := n) (by omega) (cs n c)
  have hev : evsS (hdr n ++ cs n c).length ((hdr n ++ cs n c).drop (2 + (num2 (hdr n ++ cs n c)).toNat)) 0 = (0, []) := by
    rw [hnum, Int.toNat_natCast, List.drop_of_length_le (by rw [hl]; omega), evsS_nil]
  rw [tkS_3 (by omega) (by omega) (by rw [hl]; omega) hev rfl, hnum, Int.toNat_natCast]
  congr 2
  show (cs n c).take n = cs n c
  rw [List.take_of_length_le (by rw [cs_len]; omega)]

theorem far_T {n : Nat} {c : Int} (h1 : 20000 < n) (h2 : n < 65536) : tkS (hdr n ++ [c]) = (4, [], []) :=
  tkS_1 (by simp [hdr]) (by rw [hdr_num h2]; omega)

theorem fill_step {n i : Nat} {c : Int} (hi : i < n) : (bL (cs i c ++ cs (n - i) 0)).set i (.int .u8 c) = bL (cs (i + 1) c ++ cs (n - (i + 1)) 0) := by
  obtain ⟨k, rfl⟩ : ∃ k, n = i + 1 + k := ⟨n - (i + 1), by omega⟩
  rw [show i + 1 + k - i = k + 1 by omega, show i + 1 + k - (i + 1) = k by omega]
  unfold cs bL
  rw [List.map_append, List.map_replicate, List.map_replicate, List.set_append_right _ _ (by simp), List.length_replicate, Nat.sub_self, List.replicate_succ, List.set_cons_zero, List.map_append, List.map_replicate, List.map_replicate, List.replicate_succ']
  simp

theorem far_ex (over : Int) : ∃ F : Nat, IntKind.i64.wrap (20001 + IntKind.i64.wrap ((IntKind.u64.wrap over).tmod 40000)) = (F : Int) ∧ 20000 < F ∧ F < 65536 := by
  have h0 : 0 ≤ IntKind.u64.wrap over := by
    have : IntKind.u64.wrap over = over % 18446744073709551616 := by unfold IntKind.wrap; simp [IntKind.bits, IntKind.signed]
    rw [this]; omega
  have h1 : (IntKind.u64.wrap over).tmod 40000 = IntKind.u64.wrap over % 40000 := Int.tmod_eq_emod_of_nonneg h0
  rw [h1, wrap64 (x := IntKind.u64.wrap over % 40000) (by omega) (by omega), wrap64 (by omega) (by omega)]
  exact ⟨(20001 + IntKind.u64.wrap over % 40000).toNat, by omega, by omega, by omega⟩

theorem long (c : Int) (hc : Byte c) (over : Int) : VCall Try.prog 9 [.int .u8 c, .bool false, .int .i64 over] [] fun out _ => out = .ret (.bool true) := by
  obtain ⟨N, hN⟩ : ∃ N : Nat, N = 20000 := ⟨_, rfl⟩
  have hrep : List.replicate (Int.toNat 20000) (ofConstAgg (Value.int IntKind.u8 0)) = bL (cs 0 c ++ cs (N - 0) 0) := by
    subst hN; unfold cs bL; rw [List.map_append, List.map_replicate, List.map_replicate]; rfl
  have hNt : Int.toNat 20000 = N := by omega
  refine call_fun [] 0 Try.func9 (by rfl) (by rfl) ?_
  conv => whnf
  repeat (refine step_go [] ?_; conv => whnf)
  rw [hrep, hNt]
  refine ⟨by decide, by decide, by decide +kernel, by decide, ?_⟩; conv => whnf
  repeat (refine step_go [] ?_; conv => whnf)
  let S : Nat → St := fun i => ⟨(.int .u8 c :: .bool false :: .int .i64 over :: .undef :: .undef :: .undef :: .bool false :: .int .i64 20000 :: .slo 0 1 0 N N :: .undef :: .undef :: .undef :: .undef :: .undef :: .undef :: .undef :: .undef :: .undef :: .undef :: .undef :: .undef :: .undef :: .undef :: .undef :: .undef :: .int .i64 N :: .int .i64 i :: .undef :: .undef :: .undef :: .undef :: .undef :: .undef :: .undef :: .undef :: .undef :: .undef :: .undef :: .undef :: .undef :: .undef :: .undef :: .undef :: .undef :: .undef :: .undef :: .undef :: .undef :: .undef :: .undef :: .undef :: .undef :: .undef :: .undef :: .undef :: .undef :: .undef :: .undef :: .undef :: .undef :: .undef :: .undef :: .undef :: .undef :: .undef :: .undef :: .undef :: .undef :: .undef :: .undef :: .undef :: .undef :: .undef :: .undef :: .undef :: .undef :: .undef :: .undef :: .undef :: .undef :: .undef :: .undef :: .undef :: .undef :: .undef :: .undef :: .undef :: .undef :: .undef :: .undef :: .undef :: .undef :: .undef :: .undef :: .undef :: .undef :: .undef :: .undef :: .undef :: .undef :: .undef :: .undef :: []), [.buf false 1 (bL (cs i c ++ cs (N - i) 0))], 0, []⟩
  refine VLoop.enter (s' := S 0) (weak_of ?_ (.cons (.eq rfl) .nil) rfl rfl rfl) (VLoop.ind S N ?_ ?_)
  · repeat' first
      | exact VWs.nil
      | refine VWs.cons VW.undef ?_
      | refine VWs.cons (VW.eq rfl) ?_
  · intro i hi ih
    refine loop_round [] ?_; conv => whnf
    repeat (refine step_go [] ?_; conv => whnf)
    refine yes (by simpa using hi) ?_; conv => whnf
    repeat (refine step_go [] ?_; conv => whnf)
    rw [Int.toNat_natCast]
    refine ⟨by omega, by omega, ?_⟩; conv => whnf
    refine ⟨.int .u8 0, ?_, ?_⟩
    · rw [Nat.zero_add, bL_get, List.getElem?_append_right (by rw [cs_len]; omega), cs_len, Nat.sub_self]
      show Option.map _ (List.replicate _ _)[0]? = _
      rw [List.getElem?_replicate, if_pos (by omega)]; rfl
    conv => whnf
    repeat (refine step_go [] ?_; conv => whnf)
    refine ⟨S (i + 1), weak_of ?_ ?_ rfl rfl rfl, ih⟩
    · repeat' first
        | exact VWs.nil
        | refine VWs.cons VW.undef ?_
        | refine VWs.cons (VW.eq rfl) ?_
        | refine VWs.cons (VW.eq (congrArg (V.int .i64) (by rw [wrap64 (by omega) (by omega)]; omega))) ?_
    · refine .cons (.eq (congrArg (VObj.buf false 1) ?_)) .nil
      rw [Nat.zero_add]
      exact fill_step hi
  · have hfin : bL (cs N c ++ cs (N - N) 0) = bL (cs N c) := by rw [Nat.sub_self]; simp [cs]
    refine loop_round [] ?_; conv => whnf
    repeat (refine step_go [] ?_; conv => whnf)
    refine no (by simp) ?_; conv => whnf
    refine weak_frz 0 false ?_; conv => whnf
    rw [hfin]
    have hdt : List.take N (List.drop 0 (bL (cs N c))) = bL (cs N c) := by
      rw [List.drop_zero, List.take_of_length_le (by rw [bL_len, cs_len]; omega)]
    have hT : bL (cs N c) = bytesV (toBA (cs N c)) := toBA_V fun x hx => cs_byte hc x hx
    have hsz : (toBA (cs N c)).size ≤ 140737488351232 := by rw [toBA_size, cs_len]; omega
    refine ⟨by rw [bL_len, cs_len]; omega, ?_⟩
    rw [hdt]; conv => whnf
    repeat (refine step_go [] ?_; conv => whnf)
    refine ⟨_, hT, ?_⟩; conv => whnf
    refine VCall.args (args' := [.str (toBA (cs N c)), .sl (eL []) .no]) (.cons (.eq rfl) (.cons .no .nil)) rfl ?_
    refine c_Pack _ [] hsz _ ?_
    rw [long_C, if_neg (show ¬ 20000 < N by omega), long_B hc (by omega)]; conv => whnf
    repeat (refine step_go [] ?_; conv => whnf)
    refine ⟨by decide, ?_⟩; conv => whnf
    repeat (refine step_go [] ?_; conv => whnf)
    obtain ⟨F, hF, hF1, hF2⟩ := far_ex over
    rw [hF]
    refine ⟨by decide, ?_⟩; conv => whnf
    refine VCall.args (args' := [.sl (bL (hdr F ++ [c])) .no]) (.cons .no .nil) rfl ?_
    refine c_Take _ (by simp [hdr]) (fun x hx => ?_) _ ?_
    · simp only [List.mem_append, List.mem_singleton] at hx
      rcases hx with hx | rfl
      · exact hdr_byte _ x hx
      · exact hc
    rw [far_T hF1 hF2]; conv => whnf
    repeat (refine step_go [] ?_; conv => whnf)
    have hl : (hdr N ++ cs N c).length < 1000000 := by rw [List.length_append, cs_len]; simp [hdr]; omega
    refine c_Take _ hl (fun x hx => ?_) _ ?_
    · simp only [List.mem_append] at hx
      rcases hx with hx | hx
      · exact hdr_byte _ x hx
      · exact cs_byte hc x hx
    rw [long_T (by omega)]; conv => whnf
    repeat' first
      | (refine step_go [] ?_; conv => whnf)
      | (refine c_awake _ ?_; conv => whnf)
      | (refine ⟨_, hT, ?_⟩; conv => whnf)
      | (refine yes (by simp) ?_; conv => whnf)
      | exact rfl

theorem long' (c : Int) (hc : Byte c) (over : Int) : VCall Try.prog 9 [.int .u8 c, .bool true, .int .i64 over] [] fun out _ => out = .ret (.bool true) := by
  obtain ⟨N, hN⟩ : ∃ N : Nat, N = 20001 := ⟨_, rfl⟩
  have hw : IntKind.i64.wrap (20000 + 1) = 20001 := by decide
  have hrep : List.replicate (Int.toNat 20001) (ofConstAgg (Value.int IntKind.u8 0)) = bL (cs 0 c ++ cs (N - 0) 0) := by
    subst hN; unfold cs bL; rw [List.map_append, List.map_replicate, List.map_replicate]; rfl
  have hNt : Int.toNat 20001 = N := by omega
  refine call_fun [] 0 Try.func9 (by rfl) (by rfl) ?_
  conv => whnf
  repeat (refine step_go [] ?_; conv => whnf)
  rw [hw, hrep, hNt]
  refine ⟨by decide, by decide, by decide +kernel, by decide, ?_⟩; conv => whnf
  repeat (refine step_go [] ?_; conv => whnf)
  let S : Nat → St := fun i => ⟨(.int .u8 c :: .bool true :: .int .i64 over :: .undef :: .undef :: .undef :: .bool false :: .int .i64 20001 :: .slo 0 1 0 N N :: .undef :: .undef :: .undef :: .undef :: .undef :: .undef :: .undef :: .undef :: .undef :: .undef :: .undef :: .undef :: .undef :: .undef :: .undef :: .undef :: .int .i64 N :: .int .i64 i :: .undef :: .undef :: .undef :: .undef :: .undef :: .undef :: .undef :: .undef :: .undef :: .undef :: .undef :: .undef :: .undef :: .undef :: .undef :: .undef :: .undef :: .undef :: .undef :: .undef :: .undef :: .undef :: .undef :: .undef :: .undef :: .undef :: .undef :: .undef :: .undef :: .undef :: .undef :: .undef :: .undef :: .undef :: .undef :: .undef :: .undef :: .undef :: .undef :: .undef :: .undef :: .undef :: .undef :: .undef :: .undef :: .undef :: .undef :: .undef :: .undef :: .undef :: .undef :: .undef :: .undef :: .undef :: .undef :: .undef :: .undef :: .undef :: .undef :: .undef :: .undef :: .undef :: .undef :: .undef :: .undef :: .undef :: .undef :: .undef :: .undef :: .undef :: .undef :: .undef :: .undef :: .undef :: .undef :: []), [.buf false 1 (bL (cs i c ++ cs (N - i) 0))], 0, []⟩
  refine VLoop.enter (s' := S 0) (weak_of ?_ (.cons (.eq rfl) .nil) rfl rfl rfl) (VLoop.ind S N ?_ ?_)
  · repeat' first
      | exact VWs.nil
      | refine VWs.cons VW.undef ?_
      | refine VWs.cons (VW.eq rfl) ?_
  · intro i hi ih
    refine loop_round [] ?_; conv => whnf
    repeat (refine step_go [] ?_; conv => whnf)
    refine yes (by simpa using hi) ?_; conv => whnf
    repeat (refine step_go [] ?_; conv => whnf)
    rw [Int.toNat_natCast]
    refine ⟨by omega, by omega, ?_⟩; conv => whnf
    refine ⟨.int .u8 0, ?_, ?_⟩
    · rw [Nat.zero_add, bL_get, List.getElem?_append_right (by rw [cs_len]; omega), cs_len, Nat.sub_self]
      show Option.map _ (List.replicate _ _)[0]? = _
      rw [List.getElem?_replicate, if_pos (by omega)]; rfl
    conv => whnf
    repeat (refine step_go [] ?_; conv => whnf)
    refine ⟨S (i + 1), weak_of ?_ ?_ rfl rfl rfl, ih⟩
    · repeat' first
        | exact VWs.nil
        | refine VWs.cons VW.undef ?_
        | refine VWs.cons (VW.eq rfl) ?_
        | refine VWs.cons (VW.eq (congrArg (V.int .i64) (by rw [wrap64 (by omega) (by omega)]; omega))) ?_
    · refine .cons (.eq (congrArg (VObj.buf false 1) ?_)) .nil
      rw [Nat.zero_add]
      exact fill_step hi
  · have hfin : bL (cs N c ++ cs (N - N) 0) = bL (cs N c) := by rw [Nat.sub_self]; simp [cs]
    refine loop_round [] ?_; conv => whnf
    repeat (refine step_go [] ?_; conv => whnf)
    refine no (by simp) ?_; conv => whnf
    refine weak_frz 0 false ?_; conv => whnf
    rw [hfin]
    have hdt : List.take N (List.drop 0 (bL (cs N c))) = bL (cs N c) := by
      rw [List.drop_zero, List.take_of_length_le (by rw [bL_len, cs_len]; omega)]
    have hT : bL (cs N c) = bytesV (toBA (cs N c)) := toBA_V fun x hx => cs_byte hc x hx
    have hsz : (toBA (cs N c)).size ≤ 140737488351232 := by rw [toBA_size, cs_len]; omega
    refine ⟨by rw [bL_len, cs_len]; omega, ?_⟩
    rw [hdt]; conv => whnf
    repeat (refine step_go [] ?_; conv => whnf)
    refine ⟨_, hT, ?_⟩; conv => whnf
    refine VCall.args (args' := [.str (toBA (cs N c)), .sl (eL []) .no]) (.cons (.eq rfl) (.cons .no .nil)) rfl ?_
    refine c_Pack _ [] hsz _ ?_
    have hC3 : packC (toBA (cs N c)) [] = 3 := by rw [long_C, if_pos (show 20000 < N by omega)]
    rw [packB_bad (by rw [hC3]; decide), hC3]; conv => whnf
    repeat (refine step_go [] ?_; conv => whnf)
    refine ⟨by decide, ?_⟩; conv => whnf
    repeat (refine step_go [] ?_; conv => whnf)
    obtain ⟨F, hF, hF1, hF2⟩ := far_ex over
    rw [hF]
    refine ⟨by decide, ?_⟩; conv => whnf
    refine VCall.args (args' := [.sl (bL (hdr F ++ [c])) .no]) (.cons .no .nil) rfl ?_
    refine c_Take _ (by simp [hdr]) (fun x hx => ?_) _ ?_
    · simp only [List.mem_append, List.mem_singleton] at hx
      rcases hx with hx | rfl
      · exact hdr_byte _ x hx
      · exact hc
    rw [far_T hF1 hF2]; conv => whnf
    repeat' first
      | (refine step_go [] ?_; conv => whnf)
      | (refine c_awake _ ?_; conv => whnf)
      | exact rfl
end E26

namespace Go.Proofs.Ytopoljadcjeflaa.CodecLong
open Go Go.Proofs VL Go.ChangeShapes
set_option linter.unusedVariables false
set_option linter.unusedSimpArgs false

theorem own : ownKnob Try.prog.godebug = none := by kernel_rfl
theorem laidOut : laidOutB Try.prog = true := by kernel_rfl

theorem law : ∀ xs, ShAs [(.int .u8, false), (.bool, false), (.int .i64, false)] xs →
    VCall Try.prog 9 xs [] fun out _ => out = .ret (.bool true) := by
  intro xs h
  simp only [ShAs, ShA, ShT, Bool.false_eq_true, if_false] at h
  obtain ⟨_, _, rfl, ⟨c, h0, hc⟩, _, _, rfl, ⟨m, h1⟩, _, _, rfl, ⟨over, h2, _⟩, rfl⟩ := h
  cases h0; cases h1; cases h2
  cases m
  · exact E26.long c (E26.byte_of hc) over
  · exact E26.long' c (E26.byte_of hc) over

set_option maxRecDepth 100000 in
theorem lifted (os : Os) (started : os.Started) (H : Type) (enc : TypeId × Value → H) :
    ReturnsInHanded {} Try.checked os 9 .any (Rows.codecLongSpec.pre6 enc Try.prog Try.f9 Rows.codecLongRow.domain false)
      (Rows.codecLongSpec.post enc Try.prog Try.f9 false true false false) := by
  refine returnsInHanded_of_change_sized (C := Try.checked) own started (by kernel_rfl) Try.func9
    (ChangeSpec.witness6 (enc := enc) (C := Try.checked) false ⟨#[], #[.int .u8 0, .bool false, .int .i64 0], []⟩ 8 (by kernel_rfl) (by kernel_rfl) (by kernel_rfl) (by kernel_rfl)) ?_
  intro W base args ds gs before hval hW _ hsz _
  exact law_lift (n := 9) (ts := Try.f9.params.toList) rfl laidOut (by kernel_rfl) rfl rfl (by kernel_rfl) (by kernel_rfl)
    (fun ds h => match ds, h with | [_, _, _], _ => rfl) Try.func9 (by rfl) (by rfl) law W base args ds gs before hval hW hsz

theorem proved : Rows.CodecLongSaid :=
  OpenClaim.holds_of_wide 9 Try.f9 rfl rfl rfl rfl rfl rfl rfl ⟨rfl, rfl, rfl, rfl, rfl⟩ rfl rfl rfl rfl rfl (by kernel_rfl) Try.func9 (by kernel_rfl)
    (of_decide_eq_true (by kernel_rfl)) (by unfold Func.isWrapper; first | (rw [if_pos (by decide +kernel)]; kernel_rfl) | (rw [if_neg (by decide +kernel)]; exact ⟨rfl, rfl⟩))
    (fun os started H enc _ => lifted os started H enc)
#print axioms proved
end Go.Proofs.Ytopoljadcjeflaa.CodecLong

