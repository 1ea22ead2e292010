/- Part Wg of the proof: E26a E26b E26c E26d E26e E26f E26g. -/
import Derived.Test.YtopoljadcjeflaaWf
namespace E26
open Go Go.Proofs VL E18
set_option pp.maxSteps 1500
set_option linter.unusedSimpArgs false
set_option linter.unusedVariables false
set_option maxRecDepth 100000

theorem c_must (b : Bool) (e : Int) (K) (h0 : b = true → K (.ret (.tup [])) []) (h1 : b = false → K (.pan (.ifc 106 (.int .i64 e))) []) : VCall Try.prog 76 [.bool b, .int .i64 e] [] K := by
  refine call_fun [] 0 Try.func76 (by rfl) (by rfl) ?_
  conv => whnf
  repeat' first
    | (refine step_go [] ?_; conv => whnf)
    | (refine two (fun g => ?_) (fun g => ?_) <;> (conv => whnf))
  · exact h1 (by simpa using g)
  · exact h0 (by simpa using g)

theorem d_caught0 (x : Int) (K) (h : K false [.cells true 24 [.int .i64 x]]) : VCallD Try.prog 58 [.ptr 0 0] [.cells true 24 [.int .i64 x]] none K := by
  refine calld_fun [] 1 Try.func58 (by rfl) (by rfl) ?_
  conv => whnf
  refine ⟨rfl, ?_⟩
  conv => whnf
  repeat (refine step_go [] ?_; conv => whnf)
  exact h

theorem d_caught1 (x e : Int) (K) (h : K true [.cells true 24 [.int .i64 e]]) : VCallD Try.prog 58 [.ptr 0 0] [.cells true 24 [.int .i64 x]] (some (.ifc 106 (.int .i64 e))) K := by
  refine calld_fun [] 1 Try.func58 (by rfl) (by rfl) ?_
  conv => whnf
  refine ⟨rfl, ?_⟩
  conv => whnf
  repeat (refine step_go [] ?_; conv => whnf)
  exact h

def hdr (n : Int) : List Int := [IntKind.u8.wrap (shiftV .shr .i64 n 8), IntKind.u8.wrap n]
def badE : List Ev → Int
  | [] => 0
  | e :: r => if checkS e = 0 then badE r else checkS e
@[irreducible] def packC (t : ByteArray) (l : List Ev) : Int := if 20000 < t.size ∨ 4096 < l.length then 3 else badE l
@[irreducible] def packB (t : ByteArray) (l : List Ev) : List Int := if packC t l = 0 then hdr t.size ++ sB t ++ l.flatMap packL else []

def eL (l : List Ev) : List V := l.map encE
theorem eL_len (l : List Ev) : (eL l).length = l.length := by simp [eL]
theorem eL_get (l : List Ev) (i : Nat) : (eL l)[i]? = (l[i]?).map encE := by simp [eL]
theorem eL_app (l m : List Ev) : eL l ++ eL m = eL (l ++ m) := by simp [eL]
theorem eL_cells {l : List Ev} : ∀ x ∈ eL l, x.cells.length = 5 := by
  intro x hx
  obtain ⟨n, _, rfl⟩ := List.mem_map.1 hx
  rfl

theorem encP_eq (e : Ev) : encP e = .agg (bL (packL e)) := by
  have h := packL_len e
  unfold encP pk
  generalize packL e = l at h
  obtain ⟨b0, b1, b2, b3, b4, b5, b6, b7, b8, b9, b10, b11, b12, b13, b14, b15, b16, b17, b18, b19, rfl⟩ := list20 h
  rfl

theorem flat_len (l : List Ev) : (l.flatMap packL).length = 20 * l.length := by
  induction l with
  | nil => rfl
  | cons x r ih => simp [ih, packL_len]; omega

theorem badE_take (l : List Ev) (i : Nat) (hi : i < l.length) (h : badE (l.take i) = 0) : badE (l.take (i + 1)) = checkS l[i] ∧ (checkS l[i] ≠ 0 → badE l = checkS l[i]) := by
  induction l generalizing i with
  | nil => simp at hi
  | cons x r ih =>
    cases i with
    | zero =>
      simp only [List.take_succ_cons, List.take_zero, badE, List.getElem_cons_zero]
      by_cases hx : checkS x = 0
      · simp [hx]
      · simp [hx]
    | succ i =>
      simp only [List.take_succ_cons, badE] at h ⊢
      by_cases hx : checkS x = 0
      · rw [if_pos hx] at h ⊢
        rw [if_pos hx]
        exact ih i (by simpa using hi) h
      · rw [if_neg hx] at h; exact absurd h hx

theorem c_packed (t : ByteArray) (l : List Ev) (ht : t.size ≤ 140737488351232) (K) (h0 : packC t l = 0 → K (.ret (.sl (bL (packB t l)) .no)) []) (h1 : packC t l ≠ 0 → K (.pan (.ifc 106 (.int .i64 (packC t l)))) []) :
    VCall Try.prog 59 [.str t, .sl (eL l) .no] [] K := by
  have hlen := eL_len l
  refine call_fun [] 0 Try.func59 (by rfl) (by rfl) ?_
  conv => whnf
  repeat (refine step_go [] ?_; conv => whnf)
  have hbig : (20000 < t.size ∨ 4096 < l.length) → packC t l = 3 := fun h => by unfold packC; rw [if_pos h]
  refine two (fun g => ?_) (fun g => ?_)
  case refine_2 =>
    have g : 20000 < t.size := by simp at g; omega
    conv => whnf
    repeat (refine step_go [] ?_; conv => whnf)
    refine c_must _ _ _ (by simp) (fun _ => ?_)
    conv => whnf
    rw [hbig (.inl g)] at h1
    exact h1 (by decide)
  have g1 : t.size ≤ 20000 := by simp at g; omega
  conv => whnf
  repeat (refine step_go [] ?_; conv => whnf)
  refine c_must _ _ _ (fun g => ?_) (fun g => ?_)
  case refine_2 =>
    have g : 4096 < l.length := by simp [hlen] at g; omega
    conv => whnf
    rw [hbig (.inr g)] at h1
    exact h1 (by decide)
  have g2 : l.length ≤ 4096 := by simp [hlen] at g; omega
  have hC : packC t l = badE l := by unfold packC; rw [if_neg (by omega)]
  have hsB := sB_len t
  conv => whnf
  repeat (refine step_go [] ?_; conv => whnf)
  refine ⟨by decide, ?_⟩; conv => whnf
  repeat (refine step_go [] ?_; conv => whnf)
  rw [bytesV_eq]
  refine ⟨by rw [bL_len, hsB]; simp; omega, bL_cells, by simp [V.cells], ?_⟩; conv => whnf
  repeat (refine step_go [] ?_; conv => whnf)
  have e0 : (V.int IntKind.u8 (IntKind.u8.wrap (shiftV BinOp.shr IntKind.i64 (↑t.size) 8)) :: V.int IntKind.u8 (IntKind.u8.wrap ↑t.size) :: []) ++ bL (sB t) = bL (hdr t.size ++ sB t ++ (l.take 0).flatMap packL) := by
    simp [bL, hdr]
  let S : Nat → St := fun i => ⟨(.str t :: .sl (eL l) .no :: .undef :: .undef :: .sl [] .ex :: .sl (bL (hdr t.size ++ sB t ++ (l.take i).flatMap packL)) (.tok 0 1) :: .undef :: .undef :: .undef :: .undef :: .undef :: .undef :: .undef :: .undef :: .undef :: .undef :: .undef :: .undef :: .undef :: .undef :: .undef :: .undef :: .undef :: .undef :: .undef :: .undef :: .undef :: .undef :: .undef :: .sl (eL l) .no :: .int .i64 l.length :: .int .i64 i :: .undef :: .undef :: .undef :: .undef :: .undef :: .undef :: .undef :: .undef :: .undef :: .undef :: .undef :: .undef :: .undef :: .undef :: .undef :: .undef :: []), [], 1, []⟩
  refine VLoop.enter (s' := S 0) (weak_of ?_ .nil rfl rfl rfl) (VLoop.indW S (fun i => l.length - i) (fun i => i ≤ l.length ∧ badE (l.take i) = 0) ?_ 0 ⟨by omega, by simp [badE]⟩)
  · repeat' first
      | exact VWs.nil
      | refine VWs.cons VW.undef ?_
      | refine VWs.cons (VW.eq rfl) ?_
      | refine VWs.cons (VW.eq (congrArg (fun x => V.sl x (.tok 0 1)) e0)) ?_
      | refine VWs.cons (VW.eq (by rw [hlen])) ?_
  · intro i ⟨hi, hb⟩ ih
    refine loop_round [] ?_; conv => whnf
    repeat (refine step_go [] ?_; conv => whnf)
    refine two (fun g => ?_) (fun g => ?_)
    · have hi : i < l.length := by simpa using g
      have hget : (eL l)[(i : Int).toNat]? = some (encE l[i]) := by rw [Int.toNat_natCast, eL_get, List.getElem?_eq_getElem hi]; rfl
      obtain ⟨hb1, hb2⟩ := badE_take l i hi hb
      conv => whnf
      repeat (refine step_go [] ?_; conv => whnf)
      refine ⟨by omega, _, hget, rfl, ?_⟩; conv => whnf
      repeat (refine step_go [] ?_; conv => whnf)
      refine c_check l[i] _ ?_; conv => whnf
      repeat (refine step_go [] ?_; conv => whnf)
      refine c_must _ _ _ (fun g => ?_) (fun g => ?_)
      case refine_2 =>
        have g : checkS l[i] ≠ 0 := by simpa using g
        conv => whnf
        rw [hC, hb2 g] at h1
        exact h1 g
      have g : checkS l[i] = 0 := by simpa using g
      conv => whnf
      repeat (refine step_go [] ?_; conv => whnf)
      refine c_pack l[i] _ ?_
      conv => whnf
      repeat (refine step_go [] ?_; conv => whnf)
      have hfl := flat_len (l.take i)
      refine ⟨?_, by simp [V.cells], ?_⟩
      · rw [bL_len, List.length_append, List.length_append, hsB, hfl, List.length_take]; simp [hdr]; omega
      conv => whnf
      repeat (refine step_go [] ?_; conv => whnf)
      refine weak_sel (src := []) ?_; conv => whnf
      refine VLoop.enter (s' := S (i + 1)) (weak_of ?_ .nil rfl rfl rfl) (ih (i + 1) ⟨by omega, by rw [hb1, g]⟩ (by omega))
      have ep : bL (packL l[i]) = [.int .u8 (pk l[i] 0), .int .u8 (pk l[i] 1), .int .u8 (pk l[i] 2), .int .u8 (pk l[i] 3), .int .u8 (pk l[i] 4), .int .u8 (pk l[i] 5), .int .u8 (pk l[i] 6), .int .u8 (pk l[i] 7), .int .u8 (pk l[i] 8), .int .u8 (pk l[i] 9), .int .u8 (pk l[i] 10), .int .u8 (pk l[i] 11), .int .u8 (pk l[i] 12), .int .u8 (pk l[i] 13), .int .u8 (pk l[i] 14), .int .u8 (pk l[i] 15), .int .u8 (pk l[i] 16), .int .u8 (pk l[i] 17), .int .u8 (pk l[i] 18), .int .u8 (pk l[i] 19)] := by
        have := encP_eq l[i]
        unfold encP at this
        exact (V.agg.inj this).symm
      have e1 : bL (hdr t.size ++ sB t ++ (l.take i).flatMap packL) ++ [.int .u8 (pk l[i] 0), .int .u8 (pk l[i] 1), .int .u8 (pk l[i] 2), .int .u8 (pk l[i] 3), .int .u8 (pk l[i] 4), .int .u8 (pk l[i] 5), .int .u8 (pk l[i] 6), .int .u8 (pk l[i] 7), .int .u8 (pk l[i] 8), .int .u8 (pk l[i] 9), .int .u8 (pk l[i] 10), .int .u8 (pk l[i] 11), .int .u8 (pk l[i] 12), .int .u8 (pk l[i] 13), .int .u8 (pk l[i] 14), .int .u8 (pk l[i] 15), .int .u8 (pk l[i] 16), .int .u8 (pk l[i] 17), .int .u8 (pk l[i] 18), .int .u8 (pk l[i] 19)] = bL (hdr t.size ++ sB t ++ (l.take (i + 1)).flatMap packL) := by
        rw [← ep, bL_app, List.take_succ_eq_append_getElem hi, List.flatMap_append]; simp
      repeat' first
        | exact VWs.nil
        | refine VWs.cons VW.undef ?_
        | refine VWs.cons (VW.eq rfl) ?_
        | refine VWs.cons (VW.eq (congrArg (fun x => V.sl x (.tok 0 1)) e1)) ?_
        | refine VWs.cons (VW.eq (congrArg (V.int .i64) (by rw [wrap64 (by omega) (by omega)]; omega))) ?_
    · have hi : i = l.length := by simp at g; omega
      subst hi
      conv => whnf
      refine ⟨_, Weak.refl, ?_⟩; conv => whnf
      repeat (refine step_go [] ?_; conv => whnf)
      rw [List.take_length] at hb ⊢
      have hc0 : packC t l = 0 := by rw [hC]; exact hb
      have := h0 hc0
      unfold packB at this
      rw [if_pos hc0] at this
      exact this
end E26

namespace E26
open Go Go.Proofs VL E18
set_option pp.maxSteps 1500
set_option linter.unusedSimpArgs false
set_option linter.unusedVariables false
set_option maxRecDepth 100000

theorem packB_bad {t : ByteArray} {l : List Ev} (h : packC t l ≠ 0) : packB t l = [] := by unfold packB; rw [if_neg h]

theorem c_Pack (t : ByteArray) (l : List Ev) (ht : t.size ≤ 140737488351232) (K) (h : K (.ret (.tup [.sl (bL (packB t l)) .no, .int .i64 (packC t l)])) []) :
    VCall Try.prog 26 [.str t, .sl (eL l) .no] [] K := by
  refine VCall.weak (call_fun [] 0 Try.func26 (by rfl) (by rfl) ?_)
  conv => whnf
  repeat (refine step_go [] ?_; conv => whnf)
  refine c_packed t l ht _ (fun hc => ?_) (fun hc => ?_)
  · conv => whnf
    repeat' first
      | (refine step_go [] ?_; conv => whnf)
      | (refine d_caught0 _ _ ?_; conv => whnf)
    rw [hc] at h
    exact ⟨_, _, Weak.refl, h⟩
  · rw [packB_bad hc] at h
    conv => whnf
    repeat' first
      | (refine step_go [] ?_; conv => whnf)
      | (refine d_caught1 _ _ _ ?_; conv => whnf)
    exact ⟨_, _, weak_of (.cons (.tup (.cons .no (.cons (.eq rfl) .nil))) .nil) .nil rfl rfl rfl, h⟩

theorem c_RPack (t : ByteArray) (l : List Ev) (ht : t.size ≤ 140737488351232) (K) (h : K (.ret (.tup [.sl (bL (packB t l)) .no, .int .i64 (packC t l)])) []) :
    VCall Try.prog 27 [.str t, .sl (eL l) .no] [] K := by
  have hlen := eL_len l
  have hbig : (20000 < t.size ∨ 4096 < l.length) → packC t l = 3 := fun h => by unfold packC; rw [if_pos h]
  have hbad : (20000 < t.size ∨ 4096 < l.length) → K (.ret (.tup [.sl [] .no, .int .i64 3])) [] := fun hb => by
    have hc := hbig hb
    rw [packB_bad (by rw [hc]; decide), hc] at h; exact h
  refine VCall.weak (call_fun [] 0 Try.func27 (by rfl) (by rfl) ?_)
  conv => whnf
  repeat (refine step_go [] ?_; conv => whnf)
  refine two (fun g => ?_) (fun g => ?_)
  case refine_1 =>
    have g : 20000 < t.size := by simp at g; omega
    conv => whnf
    repeat (refine step_go [] ?_; conv => whnf)
    exact ⟨_, _, weak_of (.cons (.tup (.cons .no (.cons (.eq rfl) .nil))) .nil) .nil rfl rfl rfl, hbad (.inl g)⟩
  have g1 : t.size ≤ 20000 := by simp at g; omega
  conv => whnf
  repeat (refine step_go [] ?_; conv => whnf)
  refine two (fun g => ?_) (fun g => ?_)
  case refine_1 =>
    have g : 4096 < l.length := by simp [hlen] at g; omega
    conv => whnf
    repeat (refine step_go [] ?_; conv => whnf)
    exact ⟨_, _, weak_of (.cons (.tup (.cons .no (.cons (.eq rfl) .nil))) .nil) .nil rfl rfl rfl, hbad (.inr g)⟩
  have g2 : l.length ≤ 4096 := by simp [hlen] at g; omega
  have hC : packC t l = badE l := by unfold packC; rw [if_neg (by omega)]
  have hsB := sB_len t
  conv => whnf
  repeat (refine step_go [] ?_; conv => whnf)
  refine ⟨by decide, ?_⟩; conv => whnf
  repeat (refine step_go [] ?_; conv => whnf)
  rw [bytesV_eq]
  refine ⟨by rw [bL_len, hsB]; simp; omega, bL_cells, by simp [V.cells], ?_⟩; conv => whnf
  repeat (refine step_go [] ?_; conv => whnf)
  have e0 : (V.int IntKind.u8 (IntKind.u8.wrap (shiftV BinOp.shr IntKind.i64 (↑t.size) 8)) :: V.int IntKind.u8 (IntKind.u8.wrap ↑t.size) :: []) ++ bL (sB t) = bL (hdr t.size ++ sB t ++ (l.take 0).flatMap packL) := by
    simp [bL, hdr]
  let S : Nat → St := fun i => ⟨(.str t :: .sl (eL l) .no :: .undef :: .undef :: .sl [] .ex :: .int .i64 0 :: .sl (bL (hdr t.size ++ sB t ++ (l.take i).flatMap packL)) (.tok 0 1) :: .int .i64 i :: .undef :: .undef :: .undef :: .undef :: .undef :: .undef :: .undef :: .undef :: .undef :: .undef :: .undef :: .undef :: .undef :: .undef :: .undef :: .undef :: .undef :: .undef :: .undef :: .undef :: .undef :: .undef :: .undef :: .undef :: .undef :: .undef :: .undef :: .undef :: .undef :: .undef :: .undef :: .undef :: .undef :: .undef :: .undef :: .undef :: .undef :: .undef :: .undef :: .undef :: .undef :: .undef :: .undef :: []), [], 1, []⟩
  refine VLoop.enter (s' := S 0) (weak_of ?_ .nil rfl rfl rfl) (VLoop.indW S (fun i => l.length - i) (fun i => i ≤ l.length ∧ badE (l.take i) = 0) ?_ 0 ⟨by omega, by simp [badE]⟩)
  · repeat' first
      | exact VWs.nil
      | refine VWs.cons VW.undef ?_
      | refine VWs.cons (VW.eq rfl) ?_
      | refine VWs.cons (VW.eq (congrArg (fun x => V.sl x (.tok 0 1)) e0)) ?_
  · intro i ⟨hi, hb⟩ ih
    refine loop_round [] ?_; conv => whnf
    repeat (refine step_go [] ?_; conv => whnf)
    refine two (fun g => ?_) (fun g => ?_)
    · have hi : i < l.length := by simpa [hlen] using g
      have hget : (eL l)[(i : Int).toNat]? = some (encE l[i]) := by rw [Int.toNat_natCast, eL_get, List.getElem?_eq_getElem hi]; rfl
      obtain ⟨hb1, hb2⟩ := badE_take l i hi hb
      conv => whnf
      repeat (refine step_go [] ?_; conv => whnf)
      refine ⟨by omega, _, hget, rfl, ?_⟩; conv => whnf
      repeat (refine step_go [] ?_; conv => whnf)
      refine c_rcheck l[i] _ ?_; conv => whnf
      repeat (refine step_go [] ?_; conv => whnf)
      refine two (fun g => ?_) (fun g => ?_)
      · have g : checkS l[i] ≠ 0 := by simpa using g
        conv => whnf
        repeat (refine step_go [] ?_; conv => whnf)
        refine ⟨_, Weak.refl, ?_⟩; conv => whnf
        repeat (refine step_go [] ?_; conv => whnf)
        have hc : packC t l = checkS l[i] := by rw [hC, hb2 g]
        rw [packB_bad (by rw [hc]; exact g), hc] at h
        exact ⟨_, _, weak_of (.cons (.tup (.cons .no (.cons (.eq rfl) .nil))) .nil) .nil rfl rfl rfl, h⟩
      have g : checkS l[i] = 0 := by simpa using g
      conv => whnf
      repeat (refine step_go [] ?_; conv => whnf)
      refine ⟨by omega, _, hget, rfl, ?_⟩; conv => whnf
      repeat (refine step_go [] ?_; conv => whnf)
      refine c_rpack l[i] _ ?_
      conv => whnf
      repeat (refine step_go [] ?_; conv => whnf)
      have hfl := flat_len (l.take i)
      refine ⟨?_, by simp [V.cells], ?_⟩
      · rw [bL_len, List.length_append, List.length_append, hsB, hfl, List.length_take]; simp [hdr]; omega
      conv => whnf
      repeat (refine step_go [] ?_; conv => whnf)
      refine weak_sel (src := []) ?_; conv => whnf
      refine VLoop.enter (s' := S (i + 1)) (weak_of ?_ .nil rfl rfl rfl) (ih (i + 1) ⟨by omega, by rw [hb1, g]⟩ (by omega))
      have ep : bL (packL l[i]) = [.int .u8 (pk l[i] 0), .int .u8 (pk l[i] 1), .int .u8 (pk l[i] 2), .int .u8 (pk l[i] 3), .int .u8 (pk l[i] 4), .int .u8 (pk l[i] 5), .int .u8 (pk l[i] 6), .int .u8 (pk l[i] 7), .int .u8 (pk l[i] 8), .int .u8 (pk l[i] 9), .int .u8 (pk l[i] 10), .int .u8 (pk l[i] 11), .int .u8 (pk l[i] 12), .int .u8 (pk l[i] 13), .int .u8 (pk l[i] 14), .int .u8 (pk l[i] 15), .int .u8 (pk l[i] 16), .int .u8 (pk l[i] 17), .int .u8 (pk l[i] 18), .int .u8 (pk l[i] 19)] := by
        have := encP_eq l[i]
        unfold encP at this
        exact (V.agg.inj this).symm
      have e1 : bL (hdr t.size ++ sB t ++ (l.take i).flatMap packL) ++ [.int .u8 (pk l[i] 0), .int .u8 (pk l[i] 1), .int .u8 (pk l[i] 2), .int .u8 (pk l[i] 3), .int .u8 (pk l[i] 4), .int .u8 (pk l[i] 5), .int .u8 (pk l[i] 6), .int .u8 (pk l[i] 7), .int .u8 (pk l[i] 8), .int .u8 (pk l[i] 9), .int .u8 (pk l[i] 10), .int .u8 (pk l[i] 11), .int .u8 (pk l[i] 12), .int .u8 (pk l[i] 13), .int .u8 (pk l[i] 14), .int .u8 (pk l[i] 15), .int .u8 (pk l[i] 16), .int .u8 (pk l[i] 17), .int .u8 (pk l[i] 18), .int .u8 (pk l[i] 19)] = bL (hdr t.size ++ sB t ++ (l.take (i + 1)).flatMap packL) := by
        rw [← ep, bL_app, List.take_succ_eq_append_getElem hi, List.flatMap_append]; simp
      repeat' first
        | exact VWs.nil
        | refine VWs.cons VW.undef ?_
        | refine VWs.cons (VW.eq rfl) ?_
        | refine VWs.cons (VW.eq (congrArg (fun x => V.sl x (.tok 0 1)) e1)) ?_
        | refine VWs.cons (VW.eq (congrArg (V.int .i64) (by rw [wrap64 (by omega) (by omega)]; omega))) ?_
    · have hi : i = l.length := by simp [hlen] at g; omega
      subst hi
      conv => whnf
      refine ⟨_, Weak.refl, ?_⟩; conv => whnf
      repeat (refine step_go [] ?_; conv => whnf)
      rw [List.take_length] at hb ⊢
      have hc0 : packC t l = 0 := by rw [hC]; exact hb
      rw [hc0] at h
      unfold packB at h
      rw [if_pos hc0] at h
      exact ⟨_, _, Weak.refl, h⟩
end E26

namespace E26
open Go Go.Proofs VL E18
set_option pp.maxSteps 800
set_option linter.unusedSimpArgs false
set_option linter.unusedVariables false
set_option maxRecDepth 100000

def evsS : Nat → List Int → Nat → Int × List Ev
  | 0, _, _ => (0, [])
  | f + 1, b, k =>
    if b = [] then (0, []) else
    if 4096 ≤ k then (4, []) else
    if b.length < 20 then (21, []) else
    if takeC (b.take 20) = 0 then ((evsS f (b.drop 20) (k + 1)).1, takeE (b.take 20) :: (evsS f (b.drop 20) (k + 1)).2) else (4, [])

theorem evsS_nil (f k : Nat) : evsS f [] k = (0, []) := by cases f <;> simp [evsS]
theorem evsS_full {f : Nat} {b : List Int} {k : Nat} (h : b ≠ []) (hk : 4096 ≤ k) : evsS (f + 1) b k = (4, []) := by simp [evsS, h, hk]
theorem evsS_short {f : Nat} {b : List Int} {k : Nat} (h : b ≠ []) (hk : k < 4096) (hb : b.length < 20) : evsS (f + 1) b k = (21, []) := by
  simp only [evsS, if_neg h, if_neg (show ¬ 4096 ≤ k by omega), if_pos hb]
theorem evsS_bad {f : Nat} {b : List Int} {k : Nat} (h : b ≠ []) (hk : k < 4096) (hb : 20 ≤ b.length) (ht : takeC (b.take 20) ≠ 0) : evsS (f + 1) b k = (4, []) := by
  simp only [evsS, if_neg h, if_neg (show ¬ 4096 ≤ k by omega), if_neg (show ¬ b.length < 20 by omega), if_neg ht]
theorem evsS_go {f : Nat} {b : List Int} {k : Nat} (h : b ≠ []) (hk : k < 4096) (hb : 20 ≤ b.length) (ht : takeC (b.take 20) = 0) :
    evsS (f + 1) b k = ((evsS f (b.drop 20) (k + 1)).1, takeE (b.take 20) :: (evsS f (b.drop 20) (k + 1)).2) := by
  simp only [evsS, if_neg h, if_neg (show ¬ 4096 ≤ k by omega), if_neg (show ¬ b.length < 20 by omega), if_pos ht]

def num2 (b : List Int) : Int := b.getD 0 0 * 256 + b.getD 1 0
@[irreducible] def tkS (b : List Int) : Int × List Int × List Ev :=
  if b.length < 2 then (21, [], []) else
  if 20000 < num2 b then (4, [], []) else
  if (b.length : Int) - 2 < num2 b then (21, [], []) else
  if (evsS b.length (b.drop (2 + (num2 b).toNat)) 0).1 = 0 then (0, (b.drop 2).take (num2 b).toNat, (evsS b.length (b.drop (2 + (num2 b).toNat)) 0).2)
  else ((evsS b.length (b.drop (2 + (num2 b).toNat)) 0).1, [], [])

theorem tkS_0 {b : List Int} (h : b.length < 2) : tkS b = (21, [], []) := by unfold tkS; rw [if_pos h]
theorem tkS_1 {b : List Int} (h : 2 ≤ b.length) (h1 : 20000 < num2 b) : tkS b = (4, [], []) := by unfold tkS; rw [if_neg (by omega), if_pos h1]
theorem tkS_2 {b : List Int} (h : 2 ≤ b.length) (h1 : num2 b ≤ 20000) (h2 : (b.length : Int) - 2 < num2 b) : tkS b = (21, [], []) := by unfold tkS; rw [if_neg (by omega), if_neg (by omega), if_pos h2]
theorem tkS_3 {b : List Int} {r : Int × List Ev} (h : 2 ≤ b.length) (h1 : num2 b ≤ 20000) (h2 : num2 b ≤ (b.length : Int) - 2) (hr : evsS b.length (b.drop (2 + (num2 b).toNat)) 0 = r) (h3 : r.1 = 0) : tkS b = (0, (b.drop 2).take (num2 b).toNat, r.2) := by
  unfold tkS; rw [if_neg (by omega), if_neg (by omega), if_neg (by omega), hr, if_pos h3]
theorem tkS_4 {b : List Int} {r : Int × List Ev} (h : 2 ≤ b.length) (h1 : num2 b ≤ 20000) (h2 : num2 b ≤ (b.length : Int) - 2) (hr : evsS b.length (b.drop (2 + (num2 b).toNat)) 0 = r) (h3 : r.1 ≠ 0) : tkS b = (r.1, [], []) := by
  unfold tkS; rw [if_neg (by omega), if_neg (by omega), if_neg (by omega), hr, if_neg h3]

theorem shl8 {x : Int} (h0 : 0 ≤ x) (h1 : x < 256) : shiftV .shl .i64 (IntKind.i64.wrap x) 8 = x * 256 := by
  obtain ⟨n, rfl⟩ := Int.eq_ofNat_of_zero_le h0
  have : ∀ n : Fin 256, shiftV .shl .i64 (IntKind.i64.wrap (n.val : Int)) 8 = (n.val : Int) * 256 := by decide +kernel
  exact this ⟨n, by omega⟩
theorem or8 {x y : Int} (h0 : 0 ≤ x) (h1 : x < 256) (h2 : 0 ≤ y) (h3 : y < 256) : bitsV .or .i64 (shiftV .shl .i64 (IntKind.i64.wrap x) 8) (IntKind.i64.wrap y) = x * 256 + y := by
  rw [shl8 h0 h1, wrap64 (x := y) (by omega) (by omega)]
  obtain ⟨n, rfl⟩ := Int.eq_ofNat_of_zero_le h0
  obtain ⟨m, rfl⟩ := Int.eq_ofNat_of_zero_le h2
  unfold bitsV
  simp only
  have e1 : (BitVec.ofInt IntKind.i64.bits ((n : Int) * 256)).toNat = n * 256 := by
    rw [BitVec.toNat_ofInt]; show ((n : Int) * 256 % ((2 ^ 64 : Nat) : Int)).toNat = _; omega
  have e2 : (BitVec.ofInt IntKind.i64.bits (m : Int)).toNat = m := by
    rw [BitVec.toNat_ofInt]; show ((m : Int) % ((2 ^ 64 : Nat) : Int)).toNat = _; omega
  rw [BitVec.toNat_or, e1, e2]
  have e3 : n * 256 ||| m = n * 256 + m := by
    have := Nat.two_pow_add_eq_or_of_lt (i := 8) (show m < 2 ^ 8 by omega) n
    rw [Nat.mul_comm]; exact this.symm
  rw [e3, wrap64 (by omega) (by omega)]
  omega

theorem c_taken (b : List Int) (hb : b.length < 1000000) (hr : ∀ x ∈ b, Byte x) (K) (h0 : (tkS b).1 = 0 → K (.ret (.tup [.str (toBA (tkS b).2.1), .sl (eL (tkS b).2.2) .no])) [])
    (h1 : (tkS b).1 ≠ 0 → K (.pan (.ifc 106 (.int .i64 (tkS b).1))) []) : VCall Try.prog 60 [.sl (bL b) .no] [] K := by
  have hlen := bL_len b
  refine call_fun [] 0 Try.func60 (by rfl) (by rfl) ?_
  conv => whnf
  repeat (refine step_go [] ?_; conv => whnf)
  refine c_must _ _ _ (fun g => ?_) (fun g => ?_)
  case refine_2 =>
    have g : b.length < 2 := by simp [hlen] at g; omega
    conv => whnf
    rw [tkS_0 g] at h1
    exact h1 (by decide)
  have g1 : 2 ≤ b.length := by simp [hlen] at g; omega
  have n0 : (bL b)[Int.toNat 0]? = some (.int .u8 (b.getD 0 0)) := by
    show (bL b)[0]? = _
    rw [bL_get, List.getElem?_eq_getElem (by omega), List.getD_eq_getElem?_getD, List.getElem?_eq_getElem (by omega)]; rfl
  have n1 : (bL b)[Int.toNat 1]? = some (.int .u8 (b.getD 1 0)) := by
    show (bL b)[1]? = _
    rw [bL_get, List.getElem?_eq_getElem (by omega), List.getD_eq_getElem?_getD, List.getElem?_eq_getElem (by omega)]; rfl
  have m0 : Byte (b.getD 0 0) := by
    rw [List.getD_eq_getElem?_getD, List.getElem?_eq_getElem (by omega)]; exact hr _ (List.getElem_mem _)
  have m1 : Byte (b.getD 1 0) := by
    rw [List.getD_eq_getElem?_getD, List.getElem?_eq_getElem (by omega)]; exact hr _ (List.getElem_mem _)
  have hn : bitsV .or .i64 (shiftV .shl .i64 (IntKind.i64.wrap (b.getD 0 0)) 8) (IntKind.i64.wrap (b.getD 1 0)) = num2 b := or8 m0.1 m0.2 m1.1 m1.2
  have hn0 : 0 ≤ num2 b := by unfold num2; have := m0.1; have := m1.1; omega
  have hn9 : num2 b < 65536 := by unfold num2; have := m0.2; have := m1.2; omega
  conv => whnf
  repeat (refine step_go [] ?_; conv => whnf)
  refine ⟨by decide +kernel, ?_⟩; conv => whnf
  repeat' first
    | (refine step_go [] ?_; conv => whnf)
    | (refine ⟨by decide, _, n0, rfl, ?_⟩; conv => whnf)
    | (refine ⟨by decide, _, n1, rfl, ?_⟩; conv => whnf)
    | (refine And.intro rfl ?_; conv => whnf)
    | (refine ⟨by decide, ?_⟩; conv => whnf)
  rw [hn]
  refine c_must _ _ _ (fun g => ?_) (fun g => ?_)
  case refine_2 =>
    have g : 20000 < num2 b := by simp at g; omega
    conv => whnf
    rw [tkS_1 g1 g] at h1
    exact h1 (by decide)
  have g2 : num2 b ≤ 20000 := by simp at g; omega
  conv => whnf
  repeat (refine step_go [] ?_; conv => whnf)
  have hd2 : (bL b).drop (Int.toNat 2) = bL (b.drop 2) := by simp [bL]
  have hl2 : (b.drop 2).length = b.length - 2 := by simp
  refine ⟨by decide, by rw [hlen]; omega, bL_cells, ?_⟩
  rw [hd2]; conv => whnf
  repeat (refine step_go [] ?_; conv => whnf)
  refine c_must _ _ _ (fun g => ?_) (fun g => ?_)
  case refine_2 =>
    have g : (b.length : Int) - 2 < num2 b := by simp [bL_len, hl2] at g; omega
    conv => whnf
    rw [tkS_2 g1 g2 g] at h1
    exact h1 (by decide)
  have g3 : num2 b ≤ (b.length : Int) - 2 := by simp [bL_len, hl2] at g; omega
  have hbd : ∀ x ∈ (b.drop 2).take (num2 b).toNat, 0 ≤ x ∧ x < 256 := fun x hx => hr x (List.mem_of_mem_drop (List.mem_of_mem_take hx))
  have hcv : List.drop (Int.toNat 0) (List.take (num2 b).toNat (bL (b.drop 2))) = bytesV (toBA ((b.drop 2).take (num2 b).toNat)) := by
    rw [← toBA_V hbd]; simp [bL]
  have hdr : List.drop (num2 b).toNat (bL (b.drop 2)) = bL (b.drop (2 + (num2 b).toNat)) := by
    simp [bL, List.drop_drop]
  have hl3 : (bL (b.drop 2)).length = b.length - 2 := by rw [bL_len, hl2]
  conv => whnf
  repeat (refine step_go [] ?_; conv => whnf)
  refine ⟨by decide +kernel, ?_⟩; conv => whnf
  repeat' first
    | (refine step_go [] ?_; conv => whnf)
    | (refine ⟨by decide, by omega, by rw [hl3]; omega, bL_cells, ?_⟩; conv => whnf)
    | (refine ⟨_, hcv, ?_⟩; conv => whnf)
    | (refine ⟨by omega, by rw [hl3]; omega, bL_cells, ?_⟩; conv => whnf)
    | (refine And.intro rfl ?_; conv => whnf)
  generalize htx : toBA ((b.drop 2).take (num2 b).toNat) = tx at *
  let S : Nat × List Int × List Ev → St := fun x => ⟨(.sl (bL x.2.1) .no :: .undef :: .str (ByteArray.mk #[]) :: .sl [] .ex :: .undef :: .str tx :: .sl (eL x.2.2) (.tok 0 5) :: .undef :: .undef :: .undef :: .undef :: .undef :: .undef :: .undef :: .undef :: .undef :: .undef :: .undef :: .undef :: .undef :: .undef :: .undef :: .undef :: .undef :: .undef :: .undef :: .undef :: .undef :: .undef :: .undef :: .undef :: .undef :: .undef :: .undef :: .undef :: .undef :: .undef :: .undef :: .undef :: .undef :: .undef :: .undef :: .undef :: .undef :: .undef :: .undef :: .undef :: .undef :: .undef :: .undef :: .undef :: .undef :: .undef :: .undef :: .undef :: .undef :: .undef :: .undef :: .undef :: .undef :: .undef :: .undef :: .undef :: .undef :: .undef :: .undef :: .undef :: .undef :: []), [], 1, []⟩
  have hl0 : (b.drop (2 + (num2 b).toNat)).length ≤ b.length := by simp
  refine VLoop.enter (s' := S (b.length, b.drop (2 + (num2 b).toNat), [])) (Weak.trans (weak_room (i := 6) (sz := 5) rfl (by decide) (by simp)) (weak_of ?_ .nil rfl rfl rfl))
    (VLoop.indW S (fun x => x.1) (fun x => x.2.1.length ≤ x.1 ∧ x.2.2.length ≤ 4096 ∧ (∀ y ∈ x.2.1, Byte y) ∧ evsS b.length (b.drop (2 + (num2 b).toNat)) 0 = ((evsS x.1 x.2.1 x.2.2.length).1, x.2.2 ++ (evsS x.1 x.2.1 x.2.2.length).2)) ?_ (b.length, b.drop (2 + (num2 b).toNat), [])
      ⟨hl0, by simp, fun y hy => hr y (List.mem_of_mem_drop hy), by simp⟩)
  · repeat' first
      | exact VWs.nil
      | refine VWs.cons VW.undef ?_
      | refine VWs.cons (VW.eq rfl) ?_
      | refine VWs.cons (VW.eq (congrArg (fun x => V.sl x .no) hdr)) ?_
  · rintro ⟨f, r, acc⟩ ⟨hf, hacc, hrb, hev⟩ ih
    simp only at hf hacc hrb hev
    have hrl := bL_len r
    have hal := eL_len acc
    refine loop_round [] ?_; conv => whnf
    repeat (refine step_go [] ?_; conv => whnf)
    refine two (fun g => ?_) (fun g => ?_)
    · have hrn : r ≠ [] := by rintro rfl; simp [bL] at g
      obtain ⟨f, rfl⟩ : ∃ f', f = f' + 1 := ⟨f - 1, by have := List.length_pos_iff.2 hrn; omega⟩
      conv => whnf
      repeat (refine step_go [] ?_; conv => whnf)
      refine c_must _ _ _ (fun g => ?_) (fun g => ?_)
      case refine_2 =>
        have g : 4096 ≤ acc.length := by simp [hal] at g; omega
        rw [evsS_full hrn g] at hev
        simp only at hev
        rw [tkS_4 g1 g2 g3 hev (by simp)] at h1
        conv => whnf
        exact h1 (by simp)
      have hk : acc.length < 4096 := by simp [hal] at g; omega
      conv => whnf
      repeat (refine step_go [] ?_; conv => whnf)
      refine c_must _ _ _ (fun g => ?_) (fun g => ?_)
      case refine_2 =>
        have g : r.length < 20 := by simp [hrl] at g; omega
        rw [evsS_short hrn hk g] at hev
        simp only at hev
        rw [tkS_4 g1 g2 g3 hev (by simp)] at h1
        conv => whnf
        exact h1 (by simp)
      have hk2 : 20 ≤ r.length := by simp [hrl] at g; omega
      conv => whnf
      repeat (refine step_go [] ?_; conv => whnf)
      have e20 : List.drop (Int.toNat 0) (List.take (Int.toNat 20) (bL r)) = bL (r.take 20) := by simp [bL]
      refine ⟨by decide, by decide, by rw [hrl]; omega, bL_cells, ?_⟩
      rw [e20]; conv => whnf
      repeat (refine step_go [] ?_; conv => whnf)
      refine c_take (r.take 20) (by rw [List.length_take]; omega) _ ?_; conv => whnf
      repeat (refine step_go [] ?_; conv => whnf)
      refine c_must _ _ _ (fun g => ?_) (fun g => ?_)
      case refine_2 =>
        have g : takeC (r.take 20) ≠ 0 := by simpa using g
        rw [evsS_bad hrn hk hk2 g] at hev
        simp only at hev
        rw [tkS_4 g1 g2 g3 hev (by simp)] at h1
        conv => whnf
        exact h1 (by simp)
      have g : takeC (r.take 20) = 0 := by simpa using g
      rw [evsS_go hrn hk hk2 g] at hev
      conv => whnf
      repeat (refine step_go [] ?_; conv => whnf)
      refine ⟨by decide +kernel, ?_⟩; conv => whnf
      have e2 : List.drop (Int.toNat 20) (bL r) = bL (r.drop 20) := by simp [bL]
      repeat' first
        | (refine step_go [] ?_; conv => whnf)
        | (refine ⟨by decide, by rw [hrl]; omega, bL_cells, ?_⟩; conv => whnf)
        | (refine ⟨by rw [hal]; simp; omega, by simp [V.cells], ?_⟩; conv => whnf)
        | (refine And.intro rfl ?_; conv => whnf)
      refine weak_sel (src := []) ?_; conv => whnf
      refine VLoop.enter (s' := S (f, r.drop 20, acc ++ [takeE (r.take 20)])) (weak_of ?_ .nil rfl rfl rfl) (ih (f, r.drop 20, acc ++ [takeE (r.take 20)]) ⟨?_, ?_, ?_, ?_⟩ ?_)
      · have e3 : eL acc ++ [encE (takeE (r.take 20))] = eL (acc ++ [takeE (r.take 20)]) := by simp [eL]
        repeat' first
          | exact VWs.nil
          | refine VWs.cons VW.undef ?_
          | refine VWs.cons (VW.eq rfl) ?_
          | refine VWs.cons (VW.eq (congrArg (fun x => V.sl x .no) e2)) ?_
          | refine VWs.cons (VW.eq (congrArg (fun x => V.sl x (.tok 0 5)) e3)) ?_
      · simp; omega
      · simp; omega
      · exact fun y hy => hrb y (List.mem_of_mem_drop hy)
      · rw [hev]; simp
      · simp
    · have hrn : r = [] := by
        cases r with
        | nil => rfl
        | cons x r => simp [bL] at g
      subst hrn
      rw [evsS_nil] at hev
      simp only [List.append_nil] at hev
      conv => whnf
      refine ⟨_, Weak.refl, ?_⟩; conv => whnf
      repeat (refine step_go [] ?_; conv => whnf)
      have := tkS_3 g1 g2 g3 hev rfl
      rw [htx.symm]
      rw [this] at h0
      exact h0 rfl
end E26

namespace E26
open Go Go.Proofs VL E18
set_option pp.maxSteps 800
set_option linter.unusedSimpArgs false
set_option linter.unusedVariables false
set_option maxRecDepth 100000

theorem tkS_bad {b : List Int} (h : (tkS b).1 ≠ 0) : (tkS b).2.1 = [] ∧ (tkS b).2.2 = [] := by
  unfold tkS at h ⊢
  repeat' split
  all_goals first | exact ⟨rfl, rfl⟩ | skip
  all_goals (simp_all)

theorem c_Take (b : List Int) (hb : b.length < 1000000) (hr : ∀ x ∈ b, Byte x) (K) (h : K (.ret (.tup [.str (toBA (tkS b).2.1), .sl (eL (tkS b).2.2) .no, .int .i64 (tkS b).1])) []) :
    VCall Try.prog 28 [.sl (bL b) .no] [] K := by
  refine VCall.weak (call_fun [] 0 Try.func28 (by rfl) (by rfl) ?_)
  conv => whnf
  repeat (refine step_go [] ?_; conv => whnf)
  refine c_taken b hb hr _ (fun hc => ?_) (fun hc => ?_)
  · conv => whnf
    repeat' first
      | (refine step_go [] ?_; conv => whnf)
      | (refine d_caught0 _ _ ?_; conv => whnf)
    rw [hc] at h
    exact ⟨_, _, Weak.refl, h⟩
  · rw [(tkS_bad hc).1, (tkS_bad hc).2] at h
    conv => whnf
    repeat' first
      | (refine step_go [] ?_; conv => whnf)
      | (refine d_caught1 _ _ _ ?_; conv => whnf)
    exact ⟨_, _, weak_of (.cons (.tup (.cons (.eq rfl) (.cons .no (.cons (.eq rfl) .nil)))) .nil) .nil rfl rfl rfl, h⟩

theorem c_RTake (b : List Int) (hb : b.length < 1000000) (hr : ∀ x ∈ b, Byte x) (K) (h : K (.ret (.tup [.str (toBA (tkS b).2.1), .sl (eL (tkS b).2.2) .no, .int .i64 (tkS b).1])) []) :
    VCall Try.prog 29 [.sl (bL b) .no] [] K := by
  have hlen := bL_len b
  have hbad : ∀ e, e ≠ 0 → tkS b = (e, [], []) → K (.ret (.tup [.str (ByteArray.mk #[]), .sl [] .no, .int .i64 e])) [] := fun e he ht => by
    rw [ht] at h; exact h
  have wk0 : ∀ e : Int, Weak 0 ⟨[.tup [.str (ByteArray.mk #[]), .sl [] .ex, .int .i64 e]], [], 0, []⟩ ⟨[.tup [.str (ByteArray.mk #[]), .sl [] .no, .int .i64 e]], [], 0, []⟩ := fun e =>
    weak_of (.cons (.tup (.cons (.eq rfl) (.cons .no (.cons (.eq rfl) .nil)))) .nil) .nil rfl rfl rfl
  refine VCall.weak (call_fun [] 0 Try.func29 (by rfl) (by rfl) ?_)
  conv => whnf
  repeat (refine step_go [] ?_; conv => whnf)
  refine two (fun g => ?_) (fun g => ?_)
  · have g : b.length < 2 := by simp [hlen] at g; omega
    conv => whnf
    repeat (refine step_go [] ?_; conv => whnf)
    exact ⟨_, _, wk0 21, hbad 21 (by decide) (tkS_0 g)⟩
  have g1 : 2 ≤ b.length := by simp [hlen] at g; omega
  have n0 : (bL b)[Int.toNat 0]? = some (.int .u8 (b.getD 0 0)) := by
    show (bL b)[0]? = _
    rw [bL_get, List.getElem?_eq_getElem (by omega), List.getD_eq_getElem?_getD, List.getElem?_eq_getElem (by omega)]; rfl
  have n1 : (bL b)[Int.toNat 1]? = some (.int .u8 (b.getD 1 0)) := by
    show (bL b)[1]? = _
    rw [bL_get, List.getElem?_eq_getElem (by omega), List.getD_eq_getElem?_getD, List.getElem?_eq_getElem (by omega)]; rfl
  have m0 : Byte (b.getD 0 0) := by
    rw [List.getD_eq_getElem?_getD, List.getElem?_eq_getElem (by omega)]; exact hr _ (List.getElem_mem _)
  have m1 : Byte (b.getD 1 0) := by
    rw [List.getD_eq_getElem?_getD, List.getElem?_eq_getElem (by omega)]; exact hr _ (List.getElem_mem _)
  have hn0 : 0 ≤ num2 b := by unfold num2; have := m0.1; have := m1.1; omega
  have hn9 : num2 b < 65536 := by unfold num2; have := m0.2; have := m1.2; omega
  have hn : IntKind.i64.wrap (shiftV .shl .i64 (IntKind.i64.wrap (b.getD 0 0)) 8 + IntKind.i64.wrap (b.getD 1 0)) = num2 b := by
    rw [shl8 m0.1 m0.2, wrap64 (x := b.getD 1 0) (by have := m1.1; omega) (by have := m1.2; omega)]
    show IntKind.i64.wrap (num2 b) = _
    rw [wrap64 (by omega) (by omega)]
  conv => whnf
  repeat (refine step_go [] ?_; conv => whnf)
  refine ⟨by decide +kernel, ?_⟩; conv => whnf
  repeat' first
    | (refine step_go [] ?_; conv => whnf)
    | (refine ⟨by decide, _, n0, rfl, ?_⟩; conv => whnf)
    | (refine ⟨by decide, _, n1, rfl, ?_⟩; conv => whnf)
    | (refine And.intro rfl ?_; conv => whnf)
    | (refine ⟨by decide, ?_⟩; conv => whnf)
  rw [hn]
  refine two (fun g => ?_) (fun g => ?_)
  · have g : 20000 < num2 b := by simp at g; omega
    conv => whnf
    repeat (refine step_go [] ?_; conv => whnf)
    exact ⟨_, _, wk0 4, hbad 4 (by decide) (tkS_1 g1 g)⟩
  have g2 : num2 b ≤ 20000 := by simp at g; omega
  have hw2 : IntKind.i64.wrap (2 + num2 b) = 2 + num2 b := wrap64 (by omega) (by omega)
  conv => whnf
  repeat (refine step_go [] ?_; conv => whnf)
  rw [hw2]
  refine two (fun g => ?_) (fun g => ?_)
  · have g : (b.length : Int) - 2 < num2 b := by simp [hlen] at g; omega
    conv => whnf
    repeat (refine step_go [] ?_; conv => whnf)
    exact ⟨_, _, wk0 21, hbad 21 (by decide) (tkS_2 g1 g2 g)⟩
  have g3 : num2 b ≤ (b.length : Int) - 2 := by simp [hlen] at g; omega
  conv => whnf
  repeat (refine step_go [] ?_; conv => whnf)
  let S : Nat × Nat × List Ev → St := fun ⟨_, at_, acc⟩ => ⟨(.sl (bL b) .no :: .undef :: .str (ByteArray.mk #[]) :: .sl [] .ex :: .int .i64 0 :: .int .i64 (num2 b) :: .sl (eL acc) (.tok 0 5) :: .int .i64 (at_ : Nat) :: .undef :: .undef :: .undef :: .undef :: .undef :: .undef :: .undef :: .undef :: .undef :: .undef :: .undef :: .undef :: .undef :: .undef :: .undef :: .undef :: .undef :: .undef :: .undef :: .undef :: .undef :: .undef :: .undef :: .undef :: .undef :: .undef :: .undef :: .undef :: .undef :: .undef :: .undef :: .undef :: .undef :: .undef :: .undef :: .undef :: .undef :: .undef :: .undef :: .undef :: .undef :: .undef :: .undef :: .undef :: .undef :: .undef :: .undef :: .undef :: .undef :: .undef :: .undef :: .undef :: .undef :: .undef :: .undef :: .undef :: .undef :: .undef :: .undef :: []), [], 1, []⟩
  refine VLoop.enter (s' := S (b.length, 2 + (num2 b).toNat, [])) (Weak.trans (weak_room (i := 6) (sz := 5) rfl (by decide) (by simp)) (weak_of ?_ .nil rfl rfl rfl))
    (VLoop.indW S (fun x => x.1) (fun x => x.2.1 ≤ b.length ∧ b.length - x.2.1 ≤ x.1 ∧ x.2.2.length ≤ 4096 ∧ evsS b.length (b.drop (2 + (num2 b).toNat)) 0 = ((evsS x.1 (b.drop x.2.1) x.2.2.length).1, x.2.2 ++ (evsS x.1 (b.drop x.2.1) x.2.2.length).2)) ?_ (b.length, 2 + (num2 b).toNat, [])
      ⟨by simp <;> omega, by simp <;> omega, by simp, by simp⟩)
  · repeat' first
      | exact VWs.nil
      | refine VWs.cons VW.undef ?_
      | refine VWs.cons (VW.eq rfl) ?_
      | refine VWs.cons (VW.eq (congrArg (V.int .i64) (by rw [hw2]; simp; omega))) ?_
  · rintro ⟨f, at_, acc⟩ ⟨hat, hf, hacc, hev⟩ ih
    simp only at hf hacc hat hev
    have hal := eL_len acc
    have hdl : (b.drop at_).length = b.length - at_ := by simp
    have hw20 : IntKind.i64.wrap ((at_ : Int) + 20) = ((at_ + 20 : Nat) : Int) := by rw [wrap64 (by omega) (by omega)]; omega
    refine loop_round [] ?_; conv => whnf
    repeat (refine step_go [] ?_; conv => whnf)
    refine two (fun g => ?_) (fun g => ?_)
    · have g : at_ < b.length := by simp [hlen] at g; omega
      have hrn : b.drop at_ ≠ [] := by intro e; rw [e] at hdl; simp at hdl; omega
      obtain ⟨f, rfl⟩ : ∃ f', f = f' + 1 := ⟨f - 1, by omega⟩
      conv => whnf
      repeat (refine step_go [] ?_; conv => whnf)
      refine two (fun g => ?_) (fun g => ?_)
      · have g : 4096 ≤ acc.length := by simp [hal] at g; omega
        rw [evsS_full hrn g] at hev
        simp only at hev
        conv => whnf
        repeat (refine step_go [] ?_; conv => whnf)
        refine ⟨_, Weak.refl, ?_⟩; conv => whnf
        exact ⟨_, _, wk0 4, hbad 4 (by decide) (tkS_4 g1 g2 g3 hev (by simp))⟩
      have hk : acc.length < 4096 := by simp [hal] at g; omega
      conv => whnf
      repeat (refine step_go [] ?_; conv => whnf)
      rw [hw20]
      refine two (fun g => ?_) (fun g => ?_)
      · have g : (b.drop at_).length < 20 := by simp [hlen] at g; omega
        rw [evsS_short hrn hk g] at hev
        simp only at hev
        conv => whnf
        repeat (refine step_go [] ?_; conv => whnf)
        refine ⟨_, Weak.refl, ?_⟩; conv => whnf
        exact ⟨_, _, wk0 21, hbad 21 (by decide) (tkS_4 g1 g2 g3 hev (by simp))⟩
      have hk2 : 20 ≤ (b.drop at_).length := by simp [hlen] at g; omega
      conv => whnf
      repeat (refine step_go [] ?_; conv => whnf)
      rw [hw20]
      have e20 : List.drop (Int.toNat (at_ : Int)) (List.take (Int.toNat ((at_ + 20 : Nat) : Int)) (bL b)) = bL ((b.drop at_).take 20) := by
        rw [Int.toNat_natCast, Int.toNat_natCast]
        simp [bL, List.drop_take]
      refine ⟨by omega, by omega, by rw [hlen]; omega, bL_cells, ?_⟩
      rw [e20]; conv => whnf
      repeat (refine step_go [] ?_; conv => whnf)
      refine c_rtake ((b.drop at_).take 20) (by rw [List.length_take]; omega) (fun x hx => ?_) _ ?_
      · have := hr x (List.mem_of_mem_drop (List.mem_of_mem_take hx)); exact ⟨this.1, by have := this.2; omega⟩
      conv => whnf
      repeat (refine step_go [] ?_; conv => whnf)
      refine two (fun g => ?_) (fun g => ?_)
      · have g : takeC ((b.drop at_).take 20) ≠ 0 := by simpa using g
        rw [evsS_bad hrn hk hk2 g] at hev
        simp only at hev
        conv => whnf
        repeat (refine step_go [] ?_; conv => whnf)
        refine ⟨_, Weak.refl, ?_⟩; conv => whnf
        exact ⟨_, _, wk0 4, hbad 4 (by decide) (tkS_4 g1 g2 g3 hev (by simp))⟩
      have g : takeC ((b.drop at_).take 20) = 0 := by simpa using g
      rw [evsS_go hrn hk hk2 g] at hev
      conv => whnf
      repeat (refine step_go [] ?_; conv => whnf)
      refine ⟨by rw [hal]; simp; omega, by simp [V.cells], ?_⟩; conv => whnf
      repeat (refine step_go [] ?_; conv => whnf)
      refine weak_sel (src := []) ?_; conv => whnf
      refine VLoop.enter (s' := S (f, at_ + 20, acc ++ [takeE ((b.drop at_).take 20)])) (weak_of ?_ .nil rfl rfl rfl) (ih (f, at_ + 20, acc ++ [takeE ((b.drop at_).take 20)]) ⟨?_, ?_, ?_, ?_⟩ ?_)
      · have e3 : eL acc ++ [encE (takeE ((b.drop at_).take 20))] = eL (acc ++ [takeE ((b.drop at_).take 20)]) := by simp [eL]
        repeat' first
          | exact VWs.nil
          | refine VWs.cons VW.undef ?_
          | refine VWs.cons (VW.eq rfl) ?_
          | refine VWs.cons (VW.eq (congrArg (V.int .i64) hw20)) ?_
          | refine VWs.cons (VW.eq (congrArg (fun x => V.sl x (.tok 0 5)) e3)) ?_
      · simp; omega
      · simp; omega
      · simp; omega
      · rw [hev]; simp [List.drop_drop]
      · simp
    · have hrn : at_ = b.length := by simp [hlen] at g; omega
      subst hrn
      rw [List.drop_length, evsS_nil] at hev
      simp only [List.append_nil] at hev
      conv => whnf
      refine ⟨_, Weak.refl, ?_⟩; conv => whnf
      repeat (refine step_go [] ?_; conv => whnf)
      rw [hw2]
      have hbd : ∀ x ∈ (b.drop 2).take (num2 b).toNat, 0 ≤ x ∧ x < 256 := fun x hx => hr x (List.mem_of_mem_drop (List.mem_of_mem_take hx))
      have e9 : List.drop (Int.toNat 2) (List.take (Int.toNat (2 + num2 b)) (bL b)) = bL ((b.drop 2).take (num2 b).toNat) := by
        rw [show Int.toNat (2 + num2 b) = (num2 b).toNat + 2 by omega]
        simp [bL, List.drop_take]
      refine ⟨by decide, by omega, by rw [hlen]; omega, bL_cells, ?_⟩
      rw [e9]; conv => whnf
      refine ⟨_, toBA_V hbd, ?_⟩; conv => whnf
      repeat (refine step_go [] ?_; conv => whnf)
      rw [tkS_3 g1 g2 g3 hev rfl] at h
      exact ⟨_, _, Weak.refl, h⟩
end E26

namespace E26
open Go Go.Proofs VL E18
set_option pp.maxSteps 1500
set_option linter.unusedSimpArgs false
set_option linter.unusedVariables false
set_option maxRecDepth 100000

theorem c_own (l : List Ev) (f : Ev) (hl : l.length < 1000000) (K) (h : K (.ret (.spare (eL l) (eL [f, f, f]))) []) : VCall Try.prog 25 [.sl (eL l) .no, encE f] [] K := by
  have hlen := eL_len l
  refine call_fun [] 0 Try.func25 (by rfl) (by rfl) ?_
  conv => whnf
  refine step_go [] ?_; conv => whnf
  rw [show IntKind.i64.wrap (↑(eL l).length + 3) = (((eL l).length + 3 : Nat) : Int) by rw [wrap64 (by omega) (by omega)]; omega, Int.toNat_natCast]
  refine ⟨by omega, by omega, ?_, by omega, ?_⟩
  · show _ * ((40 : Nat) : Int) ≤ _; omega
  conv => whnf
  refine step_go [] ?_; conv => whnf
  refine ⟨by simp; omega, eL_cells, yes (Nat.ble_eq_true_of_le (by omega)) ⟨by simp, ?_⟩⟩
  conv => whnf
  refine step_go [] ?_; conv => whnf
  rw [show IntKind.i64.wrap (↑(eL l).length + 3) = (((eL l).length + 3 : Nat) : Int) by rw [wrap64 (by omega) (by omega)]; omega, Int.toNat_natCast]
  refine ⟨by omega, by omega, by omega, ?_⟩
  conv => whnf
  refine step_go [] ?_; conv => whnf
  refine step_go [] ?_; conv => whnf
  let S : Nat → St := fun i => ⟨(.sl (eL l) .no :: encE f :: .undef :: .ptr 0 0 :: .sl [] .ex :: .slo 1 5 0 l.length (l.length + 3) :: .slo 1 5 0 (l.length + 3) (l.length + 3) :: .int .i64 ((l.length + i : Nat) : Int) :: .undef :: .undef :: .undef :: .undef :: .undef :: .undef :: .undef :: .undef :: .undef :: .undef :: .undef :: .undef :: .undef :: .undef :: .undef :: .undef :: .undef :: .undef :: .undef :: .undef :: .undef :: .undef :: .undef :: .undef :: .undef :: []), [.cells true 23 [.int .i64 f.key, .int .i64 f.kind, .int .i64 f.day, .int .i64 f.amount, .int .i64 f.ref], .buf false 5 (eL l ++ eL (List.replicate i f ++ List.replicate (3 - i) zeroE))], 0, []⟩
  refine VLoop.enter (s' := S 0) (weak_of ?_ ?_ rfl rfl rfl) (VLoop.ind S 3 ?_ ?_)
  · repeat' first
      | exact VWs.nil
      | refine VWs.cons VW.undef ?_
      | refine VWs.cons (VW.eq rfl) ?_
      | refine VWs.cons (VW.eq (by simp [hlen])) ?_
  · refine .cons (.eq rfl) (.cons (.eq ?_) .nil)
    rw [hlen]
    simp only [Int.toNat_zero, Nat.zero_add, List.take_zero, List.nil_append, List.drop_replicate, Nat.add_sub_cancel_left, hlen]
    rfl
  have hlt : ∀ (a b : Int), a < b → decide (a < b) = true := fun a b h => by simpa using h
  · intro i hi ih
    refine loop_round [] ?_; conv => whnf
    refine step_go [] ?_; conv => whnf
    refine yes (hlt _ _ (by omega)) ?_; conv => whnf
    refine step_go [] ?_; conv => whnf
    rw [Int.toNat_natCast]
    refine ⟨by omega, by omega, ?_⟩; conv => whnf
    refine ⟨encE zeroE, ?_, ?_⟩
    · rw [Nat.zero_add, List.getElem?_append_right (by rw [hlen]; omega), hlen, Nat.add_sub_cancel_left, eL_get, List.getElem?_append_right (by simp), List.length_replicate, Nat.sub_self, List.getElem?_replicate, if_pos (by omega)]
      rfl
    conv => whnf
    refine step_go [] ?_; conv => whnf
    refine ⟨S (i + 1), weak_of ?_ ?_ rfl rfl rfl, ih⟩
    · repeat' first
        | exact VWs.nil
        | refine VWs.cons VW.undef ?_
        | refine VWs.cons (VW.eq rfl) ?_
        | refine VWs.cons (VW.eq (congrArg (V.int .i64) (by rw [wrap64 (by omega) (by omega)]; omega))) ?_
    · refine .cons (.eq rfl) (.cons (.eq (congrArg (VObj.buf false 5) ?_)) .nil)
      obtain rfl | rfl | rfl : i = 0 ∨ i = 1 ∨ i = 2 := by omega
      all_goals simp [eL, List.set_append, List.replicate, V.remake, encE, zeroE]
  · refine loop_round [] ?_; conv => whnf
    refine step_go [] ?_; conv => whnf
    refine no (by simp) ?_; conv => whnf
    refine weak_frz 1 true ?_; conv => whnf
    have hl3 : (eL l ++ eL (List.replicate 3 f ++ List.replicate (3 - 3) zeroE)).length = l.length + 3 := by simp [eL]
    repeat' first
      | (refine ⟨by rw [hl3]; omega, by omega, ?_⟩; conv => whnf)
      | (refine step_go [] ?_; conv => whnf)
    have e1 : ((eL l ++ eL (List.replicate 3 f ++ List.replicate (3 - 3) zeroE)).drop 0).take l.length = eL l := by
      rw [List.drop_zero, ← hlen, List.take_left]
    have e2 : ((eL l ++ eL (List.replicate 3 f ++ List.replicate (3 - 3) zeroE)).drop (0 + l.length)).take (l.length + 3 - l.length) = eL [f, f, f] := by
      rw [Nat.zero_add, ← hlen, List.drop_left, Nat.add_sub_cancel_left]; rfl
    rw [e1, e2]
    exact h

theorem flat_ev (m : Nat) (a b c d e : Int) : flatT (VL.sys Try.prog m []).P 23 [.int .i64 a, .int .i64 b, .int .i64 c, .int .i64 d, .int .i64 e] = true := by kernel_rfl

theorem c_eqE (a : Ev) (K) (h : K (.ret (.bool true)) []) : VCall Try.prog 62 [encE a, encE a] [] K := by
  refine call_fun [] 0 Try.func62 (by rfl) (by rfl) ?_
  conv => whnf
  repeat' first
    | (refine step_go [] ?_; conv => whnf)
    | (rw [flat_ev]; conv => whnf)
  refine Eq.mp (congrArg (fun b => K (.ret (.bool b)) []) ?_) h
  simp

theorem c_same (l : List Ev) (hl : l.length < 1000000) (K) (h : K (.ret (.bool true)) []) : VCall Try.prog 61 [.sl (eL l) .no, .sl (eL l) .no, .fn (.func 62) [] []] [] K := by
  have hlen := eL_len l
  refine call_fun [] 0 Try.func61 (by rfl) (by rfl) ?_
  conv => whnf
  repeat (refine step_go [] ?_; conv => whnf)
  refine no (by simp) ?_; conv => whnf
  repeat (refine step_go [] ?_; conv => whnf)
  let S : Nat → St := fun i => ⟨(.sl (eL l) .no :: .sl (eL l) .no :: .fn (.func 62) [] [] :: .undef :: .undef :: .undef :: .bool false :: .int .i64 i :: .undef :: .undef :: .undef :: .undef :: .undef :: .undef :: .undef :: .undef :: .undef :: .undef :: .undef :: .undef :: .undef :: .undef :: .undef :: .undef :: .undef :: .undef :: .undef :: .undef :: .undef :: .undef :: []), [], 0, []⟩
  refine VLoop.enter (s' := S 0) (weak_of ?_ .nil rfl rfl rfl) (VLoop.ind S l.length ?_ ?_)
  · repeat' first
      | exact VWs.nil
      | refine VWs.cons VW.undef ?_
      | refine VWs.cons (VW.eq rfl) ?_
  · intro i hi ih
    have hget : (eL l)[(i : Int).toNat]? = some (encE l[i]) := by rw [Int.toNat_natCast, eL_get, List.getElem?_eq_getElem hi]; rfl
    refine loop_round [] ?_; conv => whnf
    repeat (refine step_go [] ?_; conv => whnf)
    refine yes (by simp [hlen]; exact hi) ?_; conv => whnf
    repeat (refine step_go [] ?_; conv => whnf)
    refine ⟨by decide +kernel, ?_⟩; conv => whnf
    refine ⟨by omega, _, hget, rfl, ?_⟩; conv => whnf
    refine ⟨by omega, _, hget, rfl, ?_⟩; conv => whnf
    refine c_eqE _ _ ?_; conv => whnf
    repeat (refine step_go [] ?_; conv => whnf)
    refine ⟨S (i + 1), weak_of ?_ .nil rfl rfl rfl, ih⟩
    repeat' first
      | exact VWs.nil
      | refine VWs.cons VW.undef ?_
      | refine VWs.cons (VW.eq rfl) ?_
      | refine VWs.cons (VW.eq (congrArg (V.int .i64) (by rw [wrap64 (by omega) (by omega)]; omega))) ?_
  · refine loop_round [] ?_; conv => whnf
    repeat (refine step_go [] ?_; conv => whnf)
    refine no (by simp [hlen]) ?_; conv => whnf
    refine ⟨_, Weak.refl, ?_⟩; conv => whnf
    repeat (refine step_go [] ?_; conv => whnf)
    exact h

theorem c_plain (l : List Ev) (hl : l.length < 1000000) (K) (h : K (.ret (.bool true)) []) : VCall Try.prog 31 [.sl (eL l) .no, .sl (eL l) .no] [] K := by
  refine call_fun [] 0 Try.func31 (by rfl) (by rfl) ?_
  conv => whnf
  repeat (refine step_go [] ?_; conv => whnf)
  refine c_same l hl _ ?_; conv => whnf
  repeat (refine step_go [] ?_; conv => whnf)
  exact h

theorem c_kept (l : List Ev) (f : Ev) (hl : l.length < 1000000) (K) (h : K (.ret (.bool true)) []) : VCall Try.prog 32 [.spare (eL l) (eL [f, f, f]), .sl (eL l) .no, encE f] [] K := by
  have hlen := eL_len l
  have h3 : (eL [f, f, f]).length = 3 := rfl
  refine call_fun [] 0 Try.func32 (by rfl) (by rfl) ?_
  conv => whnf
  repeat (refine step_go [] ?_; conv => whnf)
  refine VCall.args (args' := [.sl (eL l) .no, .sl (eL l) .no]) (.cons .spare (.cons (.eq rfl) .nil)) rfl ?_
  refine c_plain l hl _ ?_; conv => whnf
  repeat (refine step_go [] ?_; conv => whnf)
  refine no (by rw [h3, wrap64 (by omega) (by omega)]; simp) ?_; conv => whnf
  repeat (refine step_go [] ?_; conv => whnf)
  rw [show IntKind.i64.wrap (↑(eL l).length + 3) = (((eL l).length + 3 : Nat) : Int) by rw [wrap64 (by omega) (by omega)]; omega, Int.toNat_natCast]
  refine ⟨by omega, by omega, by rw [h3]; omega, ?_, ?_⟩
  · rw [eL_app]; exact eL_cells
  conv => whnf
  repeat (refine step_go [] ?_; conv => whnf)
  let S : Nat → St := fun i => ⟨(.spare (eL l) (eL [f, f, f]) :: .sl (eL l) .no :: encE f :: .undef :: .undef :: .ptr 0 0 :: .bool false :: .sl (eL (l ++ [f, f, f])) .no :: .int .i64 ((l.length + i : Nat) : Int) :: .undef :: .undef :: .undef :: .undef :: .undef :: .undef :: .undef :: .undef :: .undef :: .undef :: .undef :: .undef :: .undef :: .undef :: .undef :: .undef :: .undef :: .undef :: .undef :: .undef :: .undef :: .undef :: .undef :: .undef :: .undef :: .undef :: .undef :: .undef :: .undef :: .undef :: .undef :: []), [.cells true 23 [.int .i64 f.key, .int .i64 f.kind, .int .i64 f.day, .int .i64 f.amount, .int .i64 f.ref]], 0, []⟩
  refine VLoop.enter (s' := S 0) (weak_of ?_ (.cons (.eq rfl) .nil) rfl rfl rfl) (VLoop.ind S 3 ?_ ?_)
  · have e : ((eL l ++ eL [f, f, f]).take ((eL l).length + 3)).drop (Int.toNat 0) = eL (l ++ [f, f, f]) := by
      rw [Int.toNat_zero, List.drop_zero, eL_app, List.take_of_length_le (by simp [eL])]
    repeat' first
      | exact VWs.nil
      | refine VWs.cons VW.undef ?_
      | refine VWs.cons (VW.eq rfl) ?_
      | refine VWs.cons (VW.eq (by rw [e])) ?_
      | refine VWs.cons (VW.eq (by rw [hlen]; rfl)) ?_
  · intro i hi ih
    have hget : (eL (l ++ [f, f, f]))[((l.length + i : Nat) : Int).toNat]? = some (encE f) := by
      rw [Int.toNat_natCast, eL_get, List.getElem?_append_right (by omega), Nat.add_sub_cancel_left]
      obtain rfl | rfl | rfl : i = 0 ∨ i = 1 ∨ i = 2 := by omega
      all_goals rfl
    have hll : (eL (l ++ [f, f, f])).length = l.length + 3 := by simp [eL]
    refine loop_round [] ?_; conv => whnf
    repeat (refine step_go [] ?_; conv => whnf)
    refine yes (by simp [hll]; omega) ?_; conv => whnf
    repeat (refine step_go [] ?_; conv => whnf)
    refine ⟨by decide +kernel, ?_⟩; conv => whnf
    repeat' first
      | (refine step_go [] ?_; conv => whnf)
      | (refine ⟨by omega, _, hget, rfl, ?_⟩; conv => whnf)
      | (rw [flat_ev]; conv => whnf)
      | (refine And.intro rfl ?_; conv => whnf)
    refine no (by simp) ?_; conv => whnf
    repeat (refine step_go [] ?_; conv => whnf)
    refine ⟨S (i + 1), weak_of ?_ (.cons (.eq rfl) .nil) rfl rfl rfl, ih⟩
    repeat' first
      | exact VWs.nil
      | refine VWs.cons VW.undef ?_
      | refine VWs.cons (VW.eq rfl) ?_
      | refine VWs.cons (VW.eq (congrArg (V.int .i64) (by rw [wrap64 (by omega) (by omega)]; omega))) ?_
  · have hll : (eL (l ++ [f, f, f])).length = l.length + 3 := by simp [eL]
    refine loop_round [] ?_; conv => whnf
    repeat (refine step_go [] ?_; conv => whnf)
    refine no (by simp [hll]) ?_; conv => whnf
    refine ⟨_, Weak.refl, ?_⟩; conv => whnf
    repeat (refine step_go [] ?_; conv => whnf)
    exact h
end E26

namespace E26
open Go Go.Proofs VL E18
set_option pp.maxSteps 1500
set_option linter.unusedSimpArgs false
set_option linter.unusedVariables false
set_option maxRecDepth 100000

theorem c_bytes (a : List Int) (ha : ∀ x ∈ a, Byte x) (K) (h : K (.ret (.bool true)) []) : VCall Try.prog 30 [.sl (bL a) .no, .sl (bL a) .no] [] K := by
  have e := toBA_V (l := a) (fun x hx => ha x hx)
  refine call_fun [] 0 Try.func30 (by rfl) (by rfl) ?_
  conv => whnf
  repeat' first
    | (refine step_go [] ?_; conv => whnf)
    | (refine ⟨_, e, ?_⟩; conv => whnf)
    | (refine ⟨by decide +kernel, ?_⟩; conv => whnf)
    | (refine And.intro rfl ?_; conv => whnf)
  refine Eq.mp (congrArg (fun b => K (.ret (.bool b)) []) ?_) h
  simp

theorem hdr_byte (n : Int) : ∀ x ∈ hdr n, Byte x := by
  intro x hx
  have hw : ∀ y : Int, Byte (IntKind.u8.wrap y) := fun y => by rw [wrapU8]; exact ⟨Int.emod_nonneg _ (by omega), Int.emod_lt_of_pos _ (by omega)⟩
  simp only [hdr, List.mem_cons, List.not_mem_nil, or_false] at hx
  rcases hx with rfl | rfl <;> exact hw _

theorem packL_byte (e : Ev) : ∀ x ∈ packL e, Byte x := by
  intro x hx
  unfold packL at hx
  split at hx
  · simp only [List.mem_cons, List.not_mem_nil, or_false] at hx
    rcases hx with rfl | rfl | rfl | rfl | rfl | rfl | rfl | rfl | rfl | rfl | rfl | rfl | rfl | rfl | rfl | rfl | rfl | rfl | rfl | rfl <;> exact by8_byte _ _
  · simp only [List.mem_cons, List.not_mem_nil, or_false, or_self] at hx
    subst hx; exact ⟨by omega, by omega⟩

theorem packB_byte (t : ByteArray) (l : List Ev) : ∀ x ∈ packB t l, Byte x := by
  intro x hx
  unfold packB at hx
  split at hx
  · simp only [List.mem_append, List.mem_flatMap] at hx
    rcases hx with (hx | hx) | ⟨e, _, hx⟩
    · exact hdr_byte _ x hx
    · exact sB_byte t x hx
    · exact packL_byte e x hx
  · simp at hx

theorem evsS_len : ∀ (f : Nat) (b : List Int) (k : Nat), (evsS f b k).2.length ≤ f
  | 0, _, _ => by simp [evsS]
  | f + 1, b, k => by
    unfold evsS
    repeat' split
    all_goals first | (simp; done) | skip
    have := evsS_len f (b.drop 20) (k + 1)
    simp; exact this

theorem tkS_len (b : List Int) (hb : b.length < 1000000) : (tkS b).2.2.length < 1000000 := by
  have := evsS_len b.length (b.drop (2 + (num2 b).toNat)) 0
  unfold tkS
  repeat' split
  all_goals first | (simp; done) | skip
  simp only; omega

theorem pk0C : packC (ByteArray.mk #[]) [] = 0 := by unfold packC; decide
theorem pk0B : packB (ByteArray.mk #[]) [] = [0, 0] := by unfold packB; rw [pk0C]; decide
theorem tk0 : tkS [] = (21, [], []) := tkS_0 (by simp)

theorem c_awake (K) (h : K (.ret (.bool true)) []) : VCall Try.prog 24 [] [] K := by
  refine call_fun [] 0 Try.func24 (by rfl) (by rfl) ?_
  conv => whnf
  repeat (refine step_go [] ?_; conv => whnf)
  refine VCall.args (args' := [.str (ByteArray.mk #[]), .sl (eL []) .no]) (.cons (.eq rfl) (.cons .no .nil)) rfl ?_
  refine c_Pack _ _ (by decide) _ ?_
  rw [pk0C, pk0B]; conv => whnf
  repeat (refine step_go [] ?_; conv => whnf)
  refine VCall.args (args' := [.sl (bL []) .no]) (.cons .no .nil) rfl ?_
  refine c_Take [] (by simp) (by simp) _ ?_
  rw [tk0]; conv => whnf
  repeat (refine step_go [] ?_; conv => whnf)
  exact h

set_option maxHeartbeats 4000000 in
theorem tells (t : ByteArray) (l : List Ev) (b : List Int) (ht : t.size ≤ 140737488351232) (hb : ∀ x ∈ b, Byte x) : VCall Try.prog 7 [.str t, .sl (eL l) .no, .sl (bL b) .no] [] fun out _ => out = .ret (.bool true) := by
  have hlen := bL_len b
  have helen := eL_len l
  refine call_fun [] 0 Try.func7 (by rfl) (by rfl) ?_
  conv => whnf
  repeat (refine step_go [] ?_; conv => whnf)
  refine two (fun g => ?_) (fun g => ?_)
  · conv => whnf
    repeat' first
      | (refine step_go [] ?_; conv => whnf)
      | (refine c_awake _ ?_; conv => whnf)
  conv => whnf
  repeat (refine step_go [] ?_; conv => whnf)
  refine two (fun g => ?_) (fun g => ?_)
  · conv => whnf
    repeat' first
      | (refine step_go [] ?_; conv => whnf)
      | (refine c_awake _ ?_; conv => whnf)
  have hl : l.length ≤ 60 := by simp [helen] at g; omega
  conv => whnf
  repeat (refine step_go [] ?_; conv => whnf)
  refine two (fun g => ?_) (fun g => ?_)
  · conv => whnf
    repeat' first
      | (refine step_go [] ?_; conv => whnf)
      | (refine c_awake _ ?_; conv => whnf)
  have hbl : b.length ≤ 3000 := by simp [hlen] at g; omega
  conv => whnf
  repeat (refine step_go [] ?_; conv => whnf)
  refine c_own l ⟨71, 0, 0, 0, 0⟩ (by omega) _ ?_; conv => whnf
  repeat (refine step_go [] ?_; conv => whnf)
  refine A1.c_own b 71 (by omega) _ ?_; conv => whnf
  repeat (refine step_go [] ?_; conv => whnf)
  refine VCall.args (args' := [.str t, .sl (eL l) .no]) (.cons (.eq rfl) (.cons .spare .nil)) rfl ?_
  refine c_Pack t l ht _ ?_; conv => whnf
  repeat (refine step_go [] ?_; conv => whnf)
  refine c_RPack t l ht _ ?_; conv => whnf
  repeat (refine step_go [] ?_; conv => whnf)
  refine VCall.args (args' := [.sl (bL b) .no]) (.cons .spare .nil) rfl ?_
  refine c_Take b (by omega) hb _ ?_; conv => whnf
  repeat (refine step_go [] ?_; conv => whnf)
  refine c_RTake b (by omega) hb _ ?_; conv => whnf
  repeat' first
    | (refine step_go [] ?_; conv => whnf)
    | (refine c_awake _ ?_; conv => whnf)
    | (refine c_bytes _ (packB_byte t l) _ ?_; conv => whnf)
    | (refine yes (by simp) ?_; conv => whnf)
    | (refine c_plain (tkS b).2.2 (tkS_len b (by omega)) _ ?_; conv => whnf)
    | (refine c_kept l ⟨71, 0, 0, 0, 0⟩ (by omega) _ ?_; conv => whnf)
    | (refine A2.c_kept b 71 (by omega) _ ?_; conv => whnf)
    | exact rfl
end E26

namespace E26
open Go Go.Proofs VL E18
set_option linter.unusedSimpArgs false
set_option linter.unusedVariables false
theorem byte_of {n : Int} (h : (Lit.int IntKind.u8 n).wf = true) : Byte n := by
  simp [Lit.wf, IntKind.min, IntKind.max, IntKind.signed, IntKind.bits] at h
  exact ⟨by omega, by omega⟩

theorem i64_of {n : Int} (h : (Lit.int IntKind.i64 n).wf = true) : -9223372036854775808 ≤ n ∧ n ≤ 9223372036854775807 := by
  simp [Lit.wf, IntKind.min, IntKind.max, IntKind.signed, IntKind.bits] at h
  exact ⟨by omega, by omega⟩

def In64 (n : Int) : Prop := -9223372036854775808 ≤ n ∧ n ≤ 9223372036854775807
def EvOk (e : Ev) : Prop := In64 e.key ∧ In64 e.kind ∧ In64 e.day ∧ In64 e.amount ∧ In64 e.ref

theorem ev_of {cs : List V} (h : ShTs [.int .i64, .int .i64, .int .i64, .int .i64, .int .i64] cs) : ∃ e : Ev, .agg cs = encE e ∧ EvOk e := by
  obtain ⟨a, _, rfl, h1, h⟩ := ShTs.int h
  obtain ⟨b, _, rfl, h2, h⟩ := ShTs.int h
  obtain ⟨c, _, rfl, h3, h⟩ := ShTs.int h
  obtain ⟨d, _, rfl, h4, h⟩ := ShTs.int h
  obtain ⟨e, _, rfl, h5, h⟩ := ShTs.int h
  obtain rfl : _ = [] := h
  exact ⟨⟨a, b, c, d, e⟩, rfl, i64_of h1, i64_of h2, i64_of h3, i64_of h4, i64_of h5⟩

theorem evs_of : ∀ {l : List V}, (∀ x ∈ l, ∃ cs, x = .agg cs ∧ ShTs [.int .i64, .int .i64, .int .i64, .int .i64, .int .i64] cs) → ∃ es : List Ev, l = eL es ∧ ∀ e ∈ es, EvOk e
  | [], _ => ⟨[], rfl, by simp⟩
  | x :: r, h => by
    obtain ⟨cs, rfl, hc⟩ := h _ (.head _)
    obtain ⟨e, he, hk⟩ := ev_of hc
    obtain ⟨es, rfl, hes⟩ := evs_of (l := r) fun y hy => h y (.tail _ hy)
    exact ⟨e :: es, by rw [he]; rfl, fun m hm => by
      cases hm with
      | head => exact hk
      | tail _ hm => exact hes m hm⟩
end E26
