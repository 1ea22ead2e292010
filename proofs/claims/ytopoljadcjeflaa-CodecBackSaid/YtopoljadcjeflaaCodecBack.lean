/- CodecBack: for every input the law returns true, and each argument reads afterwards as it read before. No conditions. -/
import Derived.Test.YtopoljadcjeflaaWg
namespace E26
open Go Go.Proofs VL E18
set_option pp.maxSteps 1500
set_option linter.unusedSimpArgs false
set_option linter.unusedVariables false
set_option maxRecDepth 100000

def cs (n : Nat) (c : Int) : List Int := List.replicate n c
theorem cs_byte {n : Nat} {c : Int} (hc : Byte c) : ∀ x ∈ cs n c, Byte x := fun x hx => by
  have := List.eq_of_mem_replicate hx; subst this; exact hc
theorem cs_len (n : Nat) (c : Int) : (cs n c).length = n := by simp [cs]

theorem long_C {n : Nat} {c : Int} : packC (toBA (cs n c)) [] = if 20000 < n then 3 else 0 := by
  unfold packC
  rw [toBA_size, cs_len]
  simp [badE]
theorem long_B {n : Nat} {c : Int} (hc : Byte c) (hn : n ≤ 20000) : packB (toBA (cs n c)) [] = hdr n ++ cs n c := by
  unfold packB
  rw [long_C, if_neg (show ¬ 20000 < n by omega), if_pos rfl, toBA_size, cs_len, sB_toBA (fun x hx => cs_byte hc x hx)]
  simp

theorem hdr_num {n : Nat} (hn : n < 65536) (l : List Int) : num2 (hdr n ++ l) = n := by
  unfold num2 hdr shiftV
  simp only [List.cons_append, List.nil_append, List.getD_cons_zero, List.getD_cons_succ]
  rw [wrapU8, wrapU8, show (min (Int.toNat 8) IntKind.i64.bits) = 8 by decide, Int.fdiv_eq_ediv_of_nonneg _ (by decide)]
  show (n : Int) / 256 % 256 * 256 + (n : Int) % 256 = n
  omega

theorem long_T {n : Nat} {c : Int} (hn : n ≤ 20000) : tkS (hdr n ++ cs n c) = (0, cs n c, []) := by
  have hl : (hdr n ++ cs n c).length = n + 2 := by simp [hdr, cs_len]
  have hnum := hdr_num (n := n) (by omega) (cs n c)
  have hev : evsS (hdr n ++ cs n c).length ((hdr n ++ cs n c).drop (2 + (num2 (hdr n ++ cs n c)).toNat)) 0 = (0, []) := by
    rw [hnum, Int.toNat_natCast, List.drop_of_length_le (by rw [hl]; omega), evsS_nil]
  rw [tkS_3 (by omega) (by omega) (by rw [hl]; omega) hev rfl, hnum, Int.toNat_natCast]
  congr 2
  show (cs n c).take n = cs n c
  rw [List.take_of_length_le (by rw [cs_len]; omega)]

theorem far_T {n : Nat} {c : Int} (h1 : 20000 < n) (h2 : n < 65536) : tkS (hdr n ++ [c]) = (4, [], []) :=
  tkS_1 (by simp [hdr]) (by rw [hdr_num h2]; omega)

theorem fill_step {n i : Nat} {c : Int} (hi : i < n) : (bL (cs i c ++ cs (n - i) 0)).set i (.int .u8 c) = bL (cs (i + 1) c ++ cs (n - (i + 1)) 0) := by
  obtain ⟨k, rfl⟩ : ∃ k, n = i + 1 + k := ⟨n - (i + 1), by omega⟩
  rw [show i + 1 + k - i = k + 1 by omega, show i + 1 + k - (i + 1) = k by omega]
  unfold cs bL
  rw [List.map_append, List.map_replicate, List.map_replicate, List.set_append_right _ _ (by simp), List.length_replicate, Nat.sub_self, List.replicate_succ, List.set_cons_zero, List.map_append, List.map_replicate, List.map_replicate, List.replicate_succ']
  simp

theorem far_ex (over : Int) : ∃ F : Nat, IntKind.i64.wrap (20001 + IntKind.i64.wrap ((IntKind.u64.wrap over).tmod 40000)) = (F : Int) ∧ 20000 < F ∧ F < 65536 := by
  have h0 : 0 ≤ IntKind.u64.wrap over := by
    have : IntKind.u64.wrap over = over % 18446744073709551616 := by unfold IntKind.wrap; simp [IntKind.bits, IntKind.signed]
    rw [this]; omega
  have h1 : (IntKind.u64.wrap over).tmod 40000 = IntKind.u64.wrap over % 40000 := Int.tmod_eq_emod_of_nonneg h0
  rw [h1, wrap64 (x := IntKind.u64.wrap over % 40000) (by omega) (by omega), wrap64 (by omega) (by omega)]
  exact ⟨(20001 + IntKind.u64.wrap over % 40000).toNat, by omega, by omega, by omega⟩

theorem long (c : Int) (hc : Byte c) (over : Int) : VCall Try.prog 9 [.int .u8 c, .bool false, .int .i64 over] [] fun out _ => out = .ret (.bool true) := by
  obtain ⟨N, hN⟩ : ∃ N : Nat, N = 20000 := ⟨_, rfl⟩
  have hrep : List.replicate (Int.toNat 20000) (ofConstAgg (Value.int IntKind.u8 0)) = bL (cs 0 c ++ cs (N - 0) 0) := by
    subst hN; unfold cs bL; rw [List.map_append, List.map_replicate, List.map_replicate]; rfl
  have hNt : Int.toNat 20000 = N := by omega
  refine call_fun [] 0 Try.func9 (by rfl) (by rfl) ?_
  conv => whnf
  repeat (refine step_go [] ?_; conv => whnf)
  rw [hrep, hNt]
  refine ⟨by decide, by decide, by decide +kernel, by decide, ?_⟩; conv => whnf
  repeat (refine step_go [] ?_; conv => whnf)
  let S : Nat → St := fun i => ⟨(.int .u8 c :: .bool false :: .int .i64 over :: .undef :: .undef :: .undef :: .bool false :: .int .i64 20000 :: .slo 0 1 0 N N :: .undef :: .undef :: .undef :: .undef :: .undef :: .undef :: .undef :: .undef :: .undef :: .undef :: .undef :: .undef :: .undef :: .undef :: .undef :: .undef :: .int .i64 N :: .int .i64 i :: .undef :: .undef :: .undef :: .undef :: .undef :: .undef :: .undef :: .undef :: .undef :: .undef :: .undef :: .undef :: .undef :: .undef :: .undef :: .undef :: .undef :: .undef :: .undef :: .undef :: .undef :: .undef :: .undef :: .undef :: .undef :: .undef :: .undef :: .undef :: .undef :: .undef :: .undef :: .undef :: .undef :: .undef :: .undef :: .undef :: .undef :: .undef :: .undef :: .undef :: .undef :: .undef :: .undef :: .undef :: .undef :: .undef :: .undef :: .undef :: .undef :: .undef :: .undef :: .undef :: .undef :: .undef :: .undef :: .undef :: .undef :: .undef :: .undef :: .undef :: .undef :: .undef :: .undef :: .undef :: .undef :: .undef :: .undef :: .undef :: .undef :: .undef :: .undef :: .undef :: .undef :: .undef :: .undef :: []), [.buf false 1 (bL (cs i c ++ cs (N - i) 0))], 0, []⟩
  refine VLoop.enter (s' := S 0) (weak_of ?_ (.cons (.eq rfl) .nil) rfl rfl rfl) (VLoop.ind S N ?_ ?_)
  · repeat' first
      | exact VWs.nil
      | refine VWs.cons VW.undef ?_
      | refine VWs.cons (VW.eq rfl) ?_
  · intro i hi ih
    refine loop_round [] ?_; conv => whnf
    repeat (refine step_go [] ?_; conv => whnf)
    refine yes (by simpa using hi) ?_; conv => whnf
    repeat (refine step_go [] ?_; conv => whnf)
    rw [Int.toNat_natCast]
    refine ⟨by omega, by omega, ?_⟩; conv => whnf
    refine ⟨.int .u8 0, ?_, ?_⟩
    · rw [Nat.zero_add, bL_get, List.getElem?_append_right (by rw [cs_len]; omega), cs_len, Nat.sub_self]
      show Option.map _ (List.replicate _ _)[0]? = _
      rw [List.getElem?_replicate, if_pos (by omega)]; rfl
    conv => whnf
    repeat (refine step_go [] ?_; conv => whnf)
    refine ⟨S (i + 1), weak_of ?_ ?_ rfl rfl rfl, ih⟩
    · repeat' first
        | exact VWs.nil
        | refine VWs.cons VW.undef ?_
        | refine VWs.cons (VW.eq rfl) ?_
        | refine VWs.cons (VW.eq (congrArg (V.int .i64) (by rw [wrap64 (by omega) (by omega)]; omega))) ?_
    · refine .cons (.eq (congrArg (VObj.buf false 1) ?_)) .nil
      rw [Nat.zero_add]
      exact fill_step hi
  · have hfin : bL (cs N c ++ cs (N - N) 0) = bL (cs N c) := by rw [Nat.sub_self]; simp [cs]
    refine loop_round [] ?_; conv => whnf
    repeat (refine step_go [] ?_; conv => whnf)
    refine no (by simp) ?_; conv => whnf
    refine weak_frz 0 false ?_; conv => whnf
    rw [hfin]
    have hdt : List.take N (List.drop 0 (bL (cs N c))) = bL (cs N c) := by
      rw [List.drop_zero, List.take_of_length_le (by rw [bL_len, cs_len]; omega)]
    have hT : bL (cs N c) = bytesV (toBA (cs N c)) := toBA_V fun x hx => cs_byte hc x hx
    have hsz : (toBA (cs N c)).size ≤ 140737488351232 := by rw [toBA_size, cs_len]; omega
    refine ⟨by rw [bL_len, cs_len]; omega, ?_⟩
    rw [hdt]; conv => whnf
    repeat (refine step_go [] ?_; conv => whnf)
    refine ⟨_, hT, ?_⟩; conv => whnf
    refine VCall.args (args' := [.str (toBA (cs N c)), .sl (eL []) .no]) (.cons (.eq rfl) (.cons .no .nil)) rfl ?_
    refine c_Pack _ [] hsz _ ?_
    rw [long_C, if_neg (show ¬ 20000 < N by omega), long_B hc (by omega)]; conv => whnf
    repeat (refine step_go [] ?_; conv => whnf)
    refine ⟨by decide, ?_⟩; conv => whnf
    repeat (refine step_go [] ?_; conv => whnf)
    obtain ⟨F, hF, hF1, hF2⟩ := far_ex over
    rw [hF]
    refine ⟨by decide, ?_⟩; conv => whnf
    refine VCall.args (args' := [.sl (bL (hdr F ++ [c])) .no]) (.cons .no .nil) rfl ?_
    refine c_Take _ (by simp [hdr]) (fun x hx => ?_) _ ?_
    · simp only [List.mem_append, List.mem_singleton] at hx
      rcases hx with hx | rfl
      · exact hdr_byte _ x hx
      · exact hc
    rw [far_T hF1 hF2]; conv => whnf
    repeat (refine step_go [] ?_; conv => whnf)
    have hl : (hdr N ++ cs N c).length < 1000000 := by rw [List.length_append, cs_len]; simp [hdr]; omega
    refine c_Take _ hl (fun x hx => ?_) _ ?_
    · simp only [List.mem_append] at hx
      rcases hx with hx | hx
      · exact hdr_byte _ x hx
      · exact cs_byte hc x hx
    rw [long_T (by omega)]; conv => whnf
    repeat' first
      | (refine step_go [] ?_; conv => whnf)
      | (refine c_awake _ ?_; conv => whnf)
      | (refine ⟨_, hT, ?_⟩; conv => whnf)
      | (refine yes (by simp) ?_; conv => whnf)
      | exact rfl

theorem long' (c : Int) (hc : Byte c) (over : Int) : VCall Try.prog 9 [.int .u8 c, .bool true, .int .i64 over] [] fun out _ => out = .ret (.bool true) := by
  obtain ⟨N, hN⟩ : ∃ N : Nat, N = 20001 := ⟨_, rfl⟩
  have hw : IntKind.i64.wrap (20000 + 1) = 20001 := by decide
  have hrep : List.replicate (Int.toNat 20001) (ofConstAgg (Value.int IntKind.u8 0)) = bL (cs 0 c ++ cs (N - 0) 0) := by
    subst hN; unfold cs bL; rw [List.map_append, List.map_replicate, List.map_replicate]; rfl
  have hNt : Int.toNat 20001 = N := by omega
  refine call_fun [] 0 Try.func9 (by rfl) (by rfl) ?_
  conv => whnf
  repeat (refine step_go [] ?_; conv => whnf)
  rw [hw, hrep, hNt]
  refine ⟨by decide, by decide, by decide +kernel, by decide, ?_⟩; conv => whnf
  repeat (refine step_go [] ?_; conv => whnf)
  let S : Nat → St := fun i => ⟨(.int .u8 c :: .bool true :: .int .i64 over :: .undef :: .undef :: .undef :: .bool false :: .int .i64 20001 :: .slo 0 1 0 N N :: .undef :: .undef :: .undef :: .undef :: .undef :: .undef :: .undef :: .undef :: .undef :: .undef :: .undef :: .undef :: .undef :: .undef :: .undef :: .undef :: .int .i64 N :: .int .i64 i :: .undef :: .undef :: .undef :: .undef :: .undef :: .undef :: .undef :: .undef :: .undef :: .undef :: .undef :: .undef :: .undef :: .undef :: .undef :: .undef :: .undef :: .undef :: .undef :: .undef :: .undef :: .undef :: .undef :: .undef :: .undef :: .undef :: .undef :: .undef :: .undef :: .undef :: .undef :: .undef :: .undef :: .undef :: .undef :: .undef :: .undef :: .undef :: .undef :: .undef :: .undef :: .undef :: .undef :: .undef :: .undef :: .undef :: .undef :: .undef :: .undef :: .undef :: .undef :: .undef :: .undef :: .undef :: .undef :: .undef :: .undef :: .undef :: .undef :: .undef :: .undef :: .undef :: .undef :: .undef :: .undef :: .undef :: .undef :: .undef :: .undef :: .undef :: .undef :: .undef :: .undef :: .undef :: .undef :: []), [.buf false 1 (bL (cs i c ++ cs (N - i) 0))], 0, []⟩
  refine VLoop.enter (s' := S 0) (weak_of ?_ (.cons (.eq rfl) .nil) rfl rfl rfl) (VLoop.ind S N ?_ ?_)
  · repeat' first
      | exact VWs.nil
      | refine VWs.cons VW.undef ?_
      | refine VWs.cons (VW.eq rfl) ?_
  · intro i hi ih
    refine loop_round [] ?_; conv => whnf
    repeat (refine step_go [] ?_; conv => whnf)
    refine yes (by simpa using hi) ?_; conv => whnf
    repeat (refine step_go [] ?_; conv => whnf)
    rw [Int.toNat_natCast]
    refine ⟨by omega, by omega, ?_⟩; conv => whnf
    refine ⟨.int .u8 0, ?_, ?_⟩
    · rw [Nat.zero_add, bL_get, List.getElem?_append_right (by rw [cs_len]; omega), cs_len, Nat.sub_self]
      show Option.map _ (List.replicate _ _)[0]? = _
      rw [List.getElem?_replicate, if_pos (by omega)]; rfl
    conv => whnf
    repeat (refine step_go [] ?_; conv => whnf)
    refine ⟨S (i + 1), weak_of ?_ ?_ rfl rfl rfl, ih⟩
    · repeat' first
        | exact VWs.nil
        | refine VWs.cons VW.undef ?_
        | refine VWs.cons (VW.eq rfl) ?_
        | refine VWs.cons (VW.eq (congrArg (V.int .i64) (by rw [wrap64 (by omega) (by omega)]; omega))) ?_
    · refine .cons (.eq (congrArg (VObj.buf false 1) ?_)) .nil
      rw [Nat.zero_add]
      exact fill_step hi
  · have hfin : bL (cs N c ++ cs (N - N) 0) = bL (cs N c) := by rw [Nat.sub_self]; simp [cs]
    refine loop_round [] ?_; conv => whnf
    repeat (refine step_go [] ?_; conv => whnf)
    refine no (by simp) ?_; conv => whnf
    refine weak_frz 0 false ?_; conv => whnf
    rw [hfin]
    have hdt : List.take N (List.drop 0 (bL (cs N c))) = bL (cs N c) := by
      rw [List.drop_zero, List.take_of_length_le (by rw [bL_len, cs_len]; omega)]
    have hT : bL (cs N c) = bytesV (toBA (cs N c)) := toBA_V fun x hx => cs_byte hc x hx
    have hsz : (toBA (cs N c)).size ≤ 140737488351232 := by rw [toBA_size, cs_len]; omega
    refine ⟨by rw [bL_len, cs_len]; omega, ?_⟩
    rw [hdt]; conv => whnf
    repeat (refine step_go [] ?_; conv => whnf)
    refine ⟨_, hT, ?_⟩; conv => whnf
    refine VCall.args (args' := [.str (toBA (cs N c)), .sl (eL []) .no]) (.cons (.eq rfl) (.cons .no .nil)) rfl ?_
    refine c_Pack _ [] hsz _ ?_
    have hC3 : packC (toBA (cs N c)) [] = 3 := by rw [long_C, if_pos (show 20000 < N by omega)]
    rw [packB_bad (by rw [hC3]; decide), hC3]; conv => whnf
    repeat (refine step_go [] ?_; conv => whnf)
    refine ⟨by decide, ?_⟩; conv => whnf
    repeat (refine step_go [] ?_; conv => whnf)
    obtain ⟨F, hF, hF1, hF2⟩ := far_ex over
    rw [hF]
    refine ⟨by decide, ?_⟩; conv => whnf
    refine VCall.args (args' := [.sl (bL (hdr F ++ [c])) .no]) (.cons .no .nil) rfl ?_
    refine c_Take _ (by simp [hdr]) (fun x hx => ?_) _ ?_
    · simp only [List.mem_append, List.mem_singleton] at hx
      rcases hx with hx | rfl
      · exact hdr_byte _ x hx
      · exact hc
    rw [far_T hF1 hF2]; conv => whnf
    repeat' first
      | (refine step_go [] ?_; conv => whnf)
      | (refine c_awake _ ?_; conv => whnf)
      | exact rfl
end E26

namespace E26
open Go Go.Proofs VL E18
set_option pp.maxSteps 1500
set_option linter.unusedSimpArgs false
set_option linter.unusedVariables false
set_option maxRecDepth 100000

theorem evs_pack : ∀ (l : List Ev) (f j k : Nat), (∀ e ∈ l, checkS e = 0) → l.length + k ≤ 4096 → j ≤ 20 * l.length → j ≤ f →
    evsS f ((l.flatMap packL).take j) k = (if j % 20 = 0 then 0 else 21, l.take (j / 20))
  | [], f, j, k, _, _, hj, _ => by
    have : j = 0 := by simpa using hj
    subst this
    simp [evsS_nil]
  | e :: r, f, j, k, hc, hk, hj, hf => by
    have hpl := packL_len e
    simp only [List.length_cons] at hk hj
    rw [List.flatMap_cons]
    rcases Nat.eq_zero_or_pos j with rfl | hj0
    · simp [evsS_nil]
    obtain ⟨f, rfl⟩ : ∃ f', f = f' + 1 := ⟨f - 1, by omega⟩
    have hlen : ((packL e ++ r.flatMap packL).take j).length = j := by
      rw [List.length_take, List.length_append, hpl, flat_len]; omega
    have hne : (packL e ++ r.flatMap packL).take j ≠ [] := by intro h; rw [h] at hlen; simp at hlen; omega
    rcases Nat.lt_or_ge j 20 with h20 | h20
    · rw [evsS_short hne (by omega) (by omega), if_neg (by omega), Nat.div_eq_of_lt h20]; rfl
    · have e1 : ((packL e ++ r.flatMap packL).take j).take 20 = packL e := by
        rw [List.take_take, Nat.min_eq_left h20, List.take_append_of_le_length (by omega), List.take_of_length_le (by omega)]
      have e2 : ((packL e ++ r.flatMap packL).take j).drop 20 = (r.flatMap packL).take (j - 20) := by
        rw [List.drop_take, List.drop_append_of_le_length (by omega), List.drop_of_length_le (by omega), List.nil_append]
      obtain ⟨t1, t2⟩ := take_pack (hc e (by simp))
      rw [evsS_go hne (by omega) (by omega) (by rw [e1]; exact t2), e1, e2, t1, evs_pack r f (j - 20) (k + 1) (fun x hx => hc x (by simp [hx])) (by omega) (by omega) (by omega)]
      obtain ⟨q, rfl⟩ : ∃ q, j = q + 20 := ⟨j - 20, by omega⟩
      simp only [Nat.add_sub_cancel, Nat.add_mod_right, Nat.add_div_right _ (show 0 < 20 by omega), List.take_succ_cons]

theorem evs_back : ∀ (f : Nat) (b : List Int) (k : Nat), (∀ x ∈ b, Byte x) → b.length ≤ f → k ≤ 4096 → (evsS f b k).1 = 0 → (evsS f b k).2.flatMap packL = b ∧ (∀ e ∈ (evsS f b k).2, checkS e = 0) ∧ (evsS f b k).2.length + k ≤ 4096
  | 0, b, k, _, hl, hk, _ => by
    have : b = [] := List.eq_nil_of_length_eq_zero (by omega)
    subst this
    simp [evsS]; exact hk
  | f + 1, b, k, hb, hl, hk, h => by
    by_cases hn : b = []
    · subst hn; simp [evsS_nil]; exact hk
    by_cases h1 : 4096 ≤ k
    · rw [evsS_full hn h1] at h; simp at h
    by_cases h2 : b.length < 20
    · rw [evsS_short hn (by omega) h2] at h; simp at h
    by_cases h3 : takeC (b.take 20) = 0
    · rw [evsS_go hn (by omega) (by omega) h3] at h ⊢
      simp only at h ⊢
      obtain ⟨a1, a2, a3⟩ := evs_back f (b.drop 20) (k + 1) (fun x hx => hb x (List.mem_of_mem_drop hx)) (by simp; omega) (by omega) h
      obtain ⟨p1, p2, _⟩ := pack_take (fun x hx => hb x (List.mem_of_mem_take hx)) h3
      refine ⟨by rw [List.flatMap_cons, p1, a1, List.take_append_drop], fun e he => ?_, by simp; omega⟩
      cases he with
      | head => exact p2
      | tail _ he => exact a2 e he
    · rw [evsS_bad hn (by omega) (by omega) h3] at h; exact absurd h (by simp)

theorem badE_zero {l : List Ev} : badE l = 0 ↔ ∀ e ∈ l, checkS e = 0 := by
  induction l with
  | nil => simp [badE]
  | cons x r ih =>
    by_cases h : checkS x = 0
    · simp [badE, h, ih]
    · simp [badE, h]

/-- what is packed, whole, or cut off -/
theorem tk_pack {t : ByteArray} {l : List Ev} (h : packC t l = 0) (k : Nat) (hk : k ≤ 2 + t.size + 20 * l.length) :
    (packB t l).length = 2 + t.size + 20 * l.length ∧
    tkS ((packB t l).take k) = if 2 + t.size ≤ k ∧ (k - 2 - t.size) % 20 = 0 then (0, sB t, l.take ((k - 2 - t.size) / 20)) else (21, [], []) := by
  have hB : packB t l = hdr t.size ++ sB t ++ l.flatMap packL := by unfold packB; rw [if_pos h]
  have hsz : t.size ≤ 20000 ∧ l.length ≤ 4096 ∧ badE l = 0 := by
    unfold packC at h
    split at h
    · simp at h
    · exact ⟨by omega, by omega, h⟩
  have hh : (hdr t.size).length = 2 := rfl
  have hsl := sB_len t
  have hfl := flat_len l
  have hlen : (packB t l).length = 2 + t.size + 20 * l.length := by rw [hB]; simp only [List.length_append]; omega
  refine ⟨hlen, ?_⟩
  have htl : ((packB t l).take k).length = k := by rw [List.length_take]; omega
  by_cases h2 : k < 2
  · rw [tkS_0 (by omega), if_neg (by omega)]
  have hn : num2 ((packB t l).take k) = t.size := by
    obtain ⟨q, rfl⟩ : ∃ q, k = q + 2 := ⟨k - 2, by omega⟩
    rw [hB, List.append_assoc]
    have : (hdr t.size ++ (sB t ++ l.flatMap packL)).take (q + 2) = hdr t.size ++ (sB t ++ l.flatMap packL).take q := by simp [hdr]
    rw [this]
    exact hdr_num (by omega) _
  by_cases h3 : k < 2 + t.size
  · rw [tkS_2 (by omega) (by omega) (by omega), if_neg (by omega)]
  obtain ⟨j, rfl⟩ : ∃ j, k = 2 + t.size + j := ⟨k - (2 + t.size), by omega⟩
  have hht : (hdr t.size ++ sB t).length = 2 + t.size := by simp only [List.length_append]; omega
  have e1 : (packB t l).take (2 + t.size + j) = hdr t.size ++ sB t ++ (l.flatMap packL).take j := by
    rw [hB, ← hht, List.take_length_add_append]
  have e2 : ((packB t l).take (2 + t.size + j)).drop (2 + t.size) = (l.flatMap packL).take j := by
    rw [e1, ← hht, List.drop_left]
  have e3 : (((packB t l).take (2 + t.size + j)).drop 2).take t.size = sB t := by
    rw [e1]
    show ((sB t ++ (l.flatMap packL).take j)).take t.size = _
    rw [← hsl, List.take_left]
  have hev : evsS ((packB t l).take (2 + t.size + j)).length (((packB t l).take (2 + t.size + j)).drop (2 + (num2 ((packB t l).take (2 + t.size + j))).toNat)) 0 = (if j % 20 = 0 then 0 else 21, l.take (j / 20)) := by
    rw [hn, Int.toNat_natCast, e2, evs_pack l _ j 0 (badE_zero.1 hsz.2.2) (by omega) (by omega) (by omega)]
  have e4 : 2 + t.size + j - 2 - t.size = j := by omega
  rw [e4]
  by_cases hj : j % 20 = 0
  · rw [if_pos hj] at hev
    rw [tkS_3 (by omega) (by omega) (by omega) hev rfl, if_pos ⟨by omega, hj⟩, hn, Int.toNat_natCast, e3]
  · rw [if_neg hj] at hev
    rw [tkS_4 (by omega) (by omega) (by omega) hev (by simp), if_neg (by omega)]

theorem hdr_of {b : List Int} (hb : ∀ x ∈ b, Byte x) (h : 2 ≤ b.length) : hdr (num2 b) = b.take 2 := by
  obtain ⟨x, y, r, rfl⟩ : ∃ x y r, b = x :: y :: r := by
    match b, h with
    | x :: y :: r, _ => exact ⟨x, y, r, rfl⟩
  have hx := hb x (by simp)
  have hy := hb y (by simp)
  unfold hdr num2 shiftV
  simp only [List.getD_cons_zero, List.getD_cons_succ, List.take_succ_cons, List.take_zero]
  rw [wrapU8, wrapU8, show (min (Int.toNat 8) IntKind.i64.bits) = 8 by decide, Int.fdiv_eq_ediv_of_nonneg _ (by decide)]
  have := hx.1; have := hx.2; have := hy.1; have := hy.2
  have a1 : (x * 256 + y) / 2 ^ 8 % 256 = x := by show (x * 256 + y) / 256 % 256 = x; omega
  have a2 : (x * 256 + y) % 256 = y := by omega
  rw [a1, a2]

/-- what is taken, packed again -/
theorem pack_tk {b : List Int} (hb : ∀ x ∈ b, Byte x) (h : (tkS b).1 = 0) : packC (toBA (tkS b).2.1) (tkS b).2.2 = 0 ∧ packB (toBA (tkS b).2.1) (tkS b).2.2 = b := by
  by_cases g1 : b.length < 2
  · rw [tkS_0 g1] at h; simp at h
  by_cases g2 : 20000 < num2 b
  · rw [tkS_1 (by omega) g2] at h; simp at h
  by_cases g3 : (b.length : Int) - 2 < num2 b
  · rw [tkS_2 (by omega) (by omega) g3] at h; simp at h
  by_cases g4 : (evsS b.length (b.drop (2 + (num2 b).toNat)) 0).1 = 0
  · have e := tkS_3 (b := b) (by omega) (by omega) (by omega) rfl g4
    obtain ⟨a1, a2, a3⟩ := evs_back b.length (b.drop (2 + (num2 b).toNat)) 0 (fun x hx => hb x (List.mem_of_mem_drop hx)) (by simp) (by omega) g4
    rw [e]
    simp only
    have hn0 : 0 ≤ num2 b := by
      obtain ⟨x, y, r, rfl⟩ : ∃ x y r, b = x :: y :: r := by
        match b, g1 with
        | x :: y :: r, _ => exact ⟨x, y, r, rfl⟩
        | [], g => exact absurd (by simp) g
        | [_], g => exact absurd (by simp) g
      have := (hb x (by simp)).1; have := (hb y (by simp)).1
      unfold num2; simp; omega
    have hT : ((b.drop 2).take (num2 b).toNat).length = (num2 b).toNat := by simp; omega
    have hsz : (toBA ((b.drop 2).take (num2 b).toNat)).size = (num2 b).toNat := by rw [toBA_size, hT]
    have hC : packC (toBA ((b.drop 2).take (num2 b).toNat)) (evsS b.length (b.drop (2 + (num2 b).toNat)) 0).2 = 0 := by
      unfold packC
      rw [if_neg (by omega)]
      exact badE_zero.2 a2
    refine ⟨hC, ?_⟩
    unfold packB
    rw [if_pos hC, hsz, sB_toBA (fun x hx => hb x (List.mem_of_mem_drop (List.mem_of_mem_take hx))), a1, show (((num2 b).toNat : Nat) : Int) = num2 b by omega, hdr_of hb (by omega)]
    rw [List.append_assoc, ← List.drop_drop, List.take_append_drop, List.take_append_drop]
  · rw [tkS_4 (by omega) (by omega) (by omega) rfl g4] at h; exact absurd h g4
end E26

namespace E26
open Go Go.Proofs VL E18
set_option pp.maxSteps 700
set_option linter.unusedSimpArgs false
set_option linter.unusedVariables false
set_option maxRecDepth 100000

theorem tkS_txt (b : List Int) : (tkS b).2.1.length ≤ b.length := by
  unfold tkS
  repeat' split
  all_goals first | (simp; done) | skip
  simp only [List.length_take, List.length_drop]; omega

theorem tk_all {t : ByteArray} {l : List Ev} (h : packC t l = 0) : tkS (packB t l) = (0, sB t, l) := by
  obtain ⟨h1, h2⟩ := tk_pack h (2 + t.size + 20 * l.length) (Nat.le_refl _)
  rw [List.take_of_length_le (by omega), if_pos ⟨by omega, by omega⟩] at h2
  rw [h2, List.take_of_length_le (by omega)]

theorem cut_ex (cut : Int) {n : Nat} (hn : 0 < n) (h : n < 1000000) : ∃ k : Nat, IntKind.i64.wrap ((IntKind.u64.wrap cut).tmod (IntKind.u64.wrap n)) = (k : Int) ∧ k < n := by
  have h0 : 0 ≤ IntKind.u64.wrap cut := by
    have : IntKind.u64.wrap cut = cut % 18446744073709551616 := by unfold IntKind.wrap; simp [IntKind.bits, IntKind.signed]
    rw [this]; omega
  rw [wrapU64 (x := (n : Int)) (by omega) (by omega), Int.tmod_eq_emod_of_nonneg h0]
  have h1 := Int.emod_nonneg (IntKind.u64.wrap cut) (show (n : Int) ≠ 0 by omega)
  have h2 := Int.emod_lt_of_pos (IntKind.u64.wrap cut) (show (0 : Int) < n by omega)
  rw [wrap64 (by omega) (by omega)]
  exact ⟨(IntKind.u64.wrap cut % n).toNat, by omega, by omega⟩

set_option maxHeartbeats 4000000 in
theorem cback (t : ByteArray) (l : List Ev) (b : List Int) (cut : Int) (ht : t.size ≤ 140737488351232) (hb : ∀ x ∈ b, Byte x) : VCall Try.prog 8 [.str t, .sl (eL l) .no, .sl (bL b) .no, .int .i64 cut] [] fun out _ => out = .ret (.bool true) := by
  have hlen := bL_len b
  have helen := eL_len l
  refine call_fun [] 0 Try.func8 (by rfl) (by rfl) ?_
  conv => whnf
  repeat (refine step_go [] ?_; conv => whnf)
  refine two (fun g => ?_) (fun g => ?_)
  · conv => whnf
    repeat' first
      | (refine step_go [] ?_; conv => whnf)
      | (refine c_awake _ ?_; conv => whnf)
  have htl : t.size ≤ 3000 := by simp at g; omega
  conv => whnf
  repeat (refine step_go [] ?_; conv => whnf)
  refine two (fun g => ?_) (fun g => ?_)
  · conv => whnf
    repeat' first
      | (refine step_go [] ?_; conv => whnf)
      | (refine c_awake _ ?_; conv => whnf)
  have hl : l.length ≤ 60 := by simp [helen] at g; omega
  conv => whnf
  repeat (refine step_go [] ?_; conv => whnf)
  refine two (fun g => ?_) (fun g => ?_)
  · conv => whnf
    repeat' first
      | (refine step_go [] ?_; conv => whnf)
      | (refine c_awake _ ?_; conv => whnf)
  have hbl : b.length ≤ 3000 := by simp [hlen] at g; omega
  have hTs : (toBA (tkS b).2.1).size ≤ 140737488351232 := by rw [toBA_size]; have := tkS_txt b; omega
  conv => whnf
  repeat (refine step_go [] ?_; conv => whnf)
  refine c_Pack t l ht _ ?_
  by_cases hc : packC t l = 0
  · rw [hc]
    obtain ⟨hpl, _⟩ := tk_pack hc 0 (by omega)
    have hbp := bL_len (packB t l)
    have hnn : (bL (packB t l)).length < 1000000 := by omega
    conv => whnf
    repeat (refine step_go [] ?_; conv => whnf)
    refine c_Take (packB t l) (by omega) (packB_byte t l) _ ?_
    rw [tk_all hc, toBA_sB]; conv => whnf
    repeat' first
      | (refine step_go [] ?_; conv => whnf)
      | (refine c_plain l (by omega) _ ?_; conv => whnf)
      | (refine no (beq_false_of_ne (by omega)) ?_; conv => whnf)
      | (refine no (by rw [beq_self_eq_true]; rfl) ?_; conv => whnf)
    obtain ⟨k, hk, hkl⟩ := cut_ex cut (n := (packB t l).length) (by omega) (by omega)
    have hk : IntKind.i64.wrap ((IntKind.u64.wrap cut).tmod (IntKind.u64.wrap ↑(bL (packB t l)).length)) = (k : Int) := by rw [hbp]; exact hk
    refine ⟨by rw [wrapU64 (by omega) (by omega)]; omega, ?_⟩; conv => whnf
    repeat (refine step_go [] ?_; conv => whnf)
    rw [hk]
    have ecut : List.drop (Int.toNat 0) (List.take (Int.toNat (k : Int)) (bL (packB t l))) = bL ((packB t l).take k) := by
      rw [Int.toNat_natCast]; simp [bL]
    refine ⟨by decide, by omega, by omega, bL_cells, ?_⟩
    rw [ecut]; conv => whnf
    repeat (refine step_go [] ?_; conv => whnf)
    obtain ⟨_, htk⟩ := tk_pack hc k (by omega)
    refine c_Take ((packB t l).take k) (by rw [List.length_take]; omega) (fun x hx => packB_byte t l x (List.mem_of_mem_take hx)) _ ?_
    rw [htk]
    have hw1 : IntKind.i64.wrap (2 + (t.size : Int)) = ((2 + t.size : Nat) : Int) := by rw [wrap64 (by omega) (by omega)]; omega
    have hw2 : IntKind.i64.wrap ((k : Int) - 2) = (k : Int) - 2 := wrap64 (by omega) (by omega)
    have hw3 : IntKind.i64.wrap ((k : Int) - 2 - (t.size : Int)) = (k : Int) - 2 - (t.size : Int) := wrap64 (by omega) (by omega)
    by_cases hw : 2 + t.size ≤ k ∧ (k - 2 - t.size) % 20 = 0
    · rw [if_pos hw, toBA_sB]
      conv => whnf
      repeat (refine step_go [] ?_; conv => whnf)
      rw [hw1]
      refine yes (decide_eq_true (by omega)) ?_; conv => whnf
      rw [hw2, hw3]
      refine ⟨by decide, ?_⟩; conv => whnf
      obtain ⟨q, hq⟩ : ∃ q, k = 2 + t.size + 20 * q := ⟨(k - 2 - t.size) / 20, by omega⟩
      have hq1 : (k - 2 - t.size) / 20 = q := by omega
      have hm : (((k : Int) - 2 - (t.size : Int)).tmod 20 == 0) = true := by
        rw [beq_iff_eq, Int.tmod_eq_emod_of_nonneg (by omega)]; omega
      have hd : IntKind.i64.wrap (((k : Int) - 2 - (t.size : Int)).tdiv 20) = (q : Int) := by
        rw [Int.tdiv_eq_ediv_of_nonneg (by omega), wrap64 (by omega) (by omega)]; omega
      have hql : (eL (l.take q)).length = q := by rw [eL_len, List.length_take]; omega
      rw [hm, hq1]
      repeat (refine step_go [] ?_; conv => whnf)
      refine no (by rw [beq_self_eq_true]; rfl) ?_; conv => whnf
      rw [hw2, hw3]
      refine ⟨by decide, ?_⟩
      rw [hd]; conv => whnf
      refine no (show ((((eL (l.take q)).length : Nat) : Int) != (q : Int)) = false by rw [hql]; exact bne_self_eq_false _) ?_; conv => whnf
      repeat (refine step_go [] ?_; conv => whnf)
      refine c_Take b (by omega) hb _ ?_
      by_cases hg : (tkS b).1 = 0
      · obtain ⟨p1, p2⟩ := pack_tk hb hg
        rw [hg]; conv => whnf
        repeat (refine step_go [] ?_; conv => whnf)
        refine c_Pack _ _ hTs _ ?_
        rw [p1, p2]; conv => whnf
        repeat' first
          | (refine step_go [] ?_; conv => whnf)
          | (refine c_awake _ ?_; conv => whnf)
          | (refine c_bytes b hb _ ?_; conv => whnf)
          | exact rfl
      · have hg2 : ((tkS b).1 != 0) = true := by simpa using hg
        conv => whnf
        repeat (refine step_go [] ?_; conv => whnf)
        refine c_Pack _ _ hTs _ ?_; conv => whnf
        repeat' first
          | (refine step_go [] ?_; conv => whnf)
          | (refine c_awake _ ?_; conv => whnf)
          | (refine yes hg2 ?_; conv => whnf)
          | exact rfl
          | exact congrArg (fun b => Out.ret (V.bool b)) (by rw [hg2]; done)
    · rw [if_neg hw]
      by_cases hw0 : 2 + t.size ≤ k
      · have hm : (((k : Int) - 2 - (t.size : Int)).tmod 20 == 0) = false := by
          rw [beq_eq_false_iff_ne, Int.tmod_eq_emod_of_nonneg (by omega)]; omega
        conv => whnf
        repeat (refine step_go [] ?_; conv => whnf)
        rw [hw1]
        refine yes (decide_eq_true (by omega)) ?_; conv => whnf
        rw [hw2, hw3]
        refine ⟨by decide, ?_⟩; conv => whnf
        rw [hm]
        repeat (refine step_go [] ?_; conv => whnf)
        refine c_Take b (by omega) hb _ ?_
        by_cases hg : (tkS b).1 = 0
        · obtain ⟨p1, p2⟩ := pack_tk hb hg
          rw [hg]; conv => whnf
          repeat (refine step_go [] ?_; conv => whnf)
          refine c_Pack _ _ hTs _ ?_
          rw [p1, p2]; conv => whnf
          repeat' first
            | (refine step_go [] ?_; conv => whnf)
            | (refine c_awake _ ?_; conv => whnf)
            | (refine c_bytes b hb _ ?_; conv => whnf)
            | exact rfl
        · have hg2 : ((tkS b).1 != 0) = true := by simpa using hg
          conv => whnf
          repeat (refine step_go [] ?_; conv => whnf)
          refine c_Pack _ _ hTs _ ?_; conv => whnf
          repeat' first
            | (refine step_go [] ?_; conv => whnf)
            | (refine c_awake _ ?_; conv => whnf)
            | (refine yes hg2 ?_; conv => whnf)
            | exact rfl
            | exact congrArg (fun b => Out.ret (V.bool b)) (by rw [hg2]; done)
      · conv => whnf
        repeat (refine step_go [] ?_; conv => whnf)
        rw [hw1]
        refine no (decide_eq_false (by omega)) ?_; conv => whnf
        repeat (refine step_go [] ?_; conv => whnf)
        refine c_Take b (by omega) hb _ ?_
        by_cases hg : (tkS b).1 = 0
        · obtain ⟨p1, p2⟩ := pack_tk hb hg
          rw [hg]; conv => whnf
          repeat (refine step_go [] ?_; conv => whnf)
          refine c_Pack _ _ hTs _ ?_
          rw [p1, p2]; conv => whnf
          repeat' first
            | (refine step_go [] ?_; conv => whnf)
            | (refine c_awake _ ?_; conv => whnf)
            | (refine c_bytes b hb _ ?_; conv => whnf)
            | exact rfl
        · have hg2 : ((tkS b).1 != 0) = true := by simpa using hg
          conv => whnf
          repeat (refine step_go [] ?_; conv => whnf)
          refine c_Pack _ _ hTs _ ?_; conv => whnf
          repeat' first
            | (refine step_go [] ?_; conv => whnf)
            | (refine c_awake _ ?_; conv => whnf)
            | (refine yes hg2 ?_; conv => whnf)
            | exact rfl
            | exact congrArg (fun b => Out.ret (V.bool b)) (by rw [hg2]; done)
  · have hcb : (packC t l == 0) = false := by simpa using hc
    conv => whnf
    repeat (refine step_go [] ?_; conv => whnf)
    refine no hcb ?_; conv => whnf
    repeat (refine step_go [] ?_; conv => whnf)
    refine c_Take b (by omega) hb _ ?_
    by_cases hg : (tkS b).1 = 0
    · obtain ⟨p1, p2⟩ := pack_tk hb hg
      rw [hg]; conv => whnf
      repeat (refine step_go [] ?_; conv => whnf)
      refine c_Pack _ _ hTs _ ?_
      rw [p1, p2]; conv => whnf
      repeat' first
        | (refine step_go [] ?_; conv => whnf)
        | (refine c_awake _ ?_; conv => whnf)
        | (refine c_bytes b hb _ ?_; conv => whnf)
        | exact rfl
    · have hg2 : ((tkS b).1 != 0) = true := by simpa using hg
      conv => whnf
      repeat (refine step_go [] ?_; conv => whnf)
      refine c_Pack _ _ hTs _ ?_; conv => whnf
      repeat' first
        | (refine step_go [] ?_; conv => whnf)
        | (refine c_awake _ ?_; conv => whnf)
        | (refine yes hg2 ?_; conv => whnf)
        | exact rfl
        | exact congrArg (fun b => Out.ret (V.bool b)) (by rw [hg2]; done)
end E26

namespace Go.Proofs.Ytopoljadcjeflaa.CodecBack
open Go Go.Proofs VL Go.ChangeShapes
set_option linter.unusedVariables false
set_option linter.unusedSimpArgs false

theorem own : ownKnob Try.prog.godebug = none := by kernel_rfl
theorem laidOut : laidOutB Try.prog = true := by kernel_rfl

theorem law : ∀ xs, ShAs [(.str, false), (.sl (.row [.int .i64, .int .i64, .int .i64, .int .i64, .int .i64]) 5 40 true, false), (.sl (.int .u8) 1 1 false, false), (.int .i64, false)] xs →
    VCall Try.prog 8 xs [] fun out _ => out = .ret (.bool true) := by
  intro xs h
  simp only [ShAs, ShA, ShT, if_true, Bool.false_eq_true, if_false] at h
  obtain ⟨_, _, rfl, ⟨t, h0, ht⟩, _, _, rfl, ⟨l, h1, hl, hx⟩, _, _, rfl, ⟨b, h2, hb, hy⟩, _, _, rfl, ⟨cut, h3, _⟩, rfl⟩ := h
  cases h0; cases h1; cases h2; cases h3
  obtain ⟨es, rfl, _⟩ := E26.evs_of hx
  obtain ⟨ns, rfl, hw⟩ := ints_of hy
  exact E26.cback t es ns cut ht (fun x hx => E26.byte_of (hw x hx))

set_option maxRecDepth 100000 in
theorem lifted (os : Os) (started : os.Started) (H : Type) (enc : TypeId × Value → H) :
    ReturnsInHanded {} Try.checked os 8 .any (Rows.codecBackSpec.pre6 enc Try.prog Try.f8 Rows.codecBackRow.domain false)
      (Rows.codecBackSpec.post enc Try.prog Try.f8 false true false false) := by
  refine returnsInHanded_of_change_sized (C := Try.checked) own started (by kernel_rfl) Try.func8
    (ChangeSpec.witness6 (enc := enc) (C := Try.checked) false ⟨#[], #[.string ⟨#[]⟩, .slice none 0 0, .slice none 0 0, .int .i64 0], []⟩ 8 (by kernel_rfl) (by kernel_rfl) (by kernel_rfl) (by kernel_rfl)) ?_
  intro W base args ds gs before hval hW _ hsz _
  exact law_lift (n := 9) (ts := Try.f8.params.toList) rfl laidOut (by kernel_rfl) rfl rfl (by kernel_rfl) (by kernel_rfl)
    (fun ds h => match ds, h with | [_, _, _, _], _ => rfl) Try.func8 (by rfl) (by rfl) law W base args ds gs before hval hW hsz

theorem proved : Rows.CodecBackSaid :=
  OpenClaim.holds_of_wide 8 Try.f8 rfl rfl rfl rfl rfl rfl rfl ⟨rfl, rfl, rfl, rfl, rfl⟩ rfl rfl rfl rfl rfl (by kernel_rfl) Try.func8 (by kernel_rfl)
    (of_decide_eq_true (by kernel_rfl)) (by unfold Func.isWrapper; first | (rw [if_pos (by decide +kernel)]; kernel_rfl) | (rw [if_neg (by decide +kernel)]; exact ⟨rfl, rfl⟩))
    (fun os started H enc _ => lifted os started H enc)
#print axioms proved
end Go.Proofs.Ytopoljadcjeflaa.CodecBack

