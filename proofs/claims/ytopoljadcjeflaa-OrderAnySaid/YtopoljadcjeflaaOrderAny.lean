/- OrderAny: for every input the law returns true, and each argument reads afterwards as it read before. No conditions. -/
import Derived.Test.YtopoljadcjeflaaWh
namespace E19
open Go Go.Proofs VL E18 E26
set_option pp.maxSteps 1200
set_option linter.unusedSimpArgs false
set_option linter.unusedVariables false
set_option maxRecDepth 100000

@[irreducible] def rGet (l : List Ev) (k : Int) : Option Ev := l.find? fun x => x.key == k
@[irreducible] def rRev (l : List Ev) (k : Int) : Bool := l.any fun x => x.kind == 5 && x.ref == k
@[irreducible] def rFst (l : List Ev) : Option Ev := l.find? fun x => x.kind == 1

theorem find_step {l : List Ev} {p : Ev → Bool} {i : Nat} (hi : i < l.length) : (l.drop i).find? p = if p l[i] then some l[i] else (l.drop (i + 1)).find? p := by
  rw [List.drop_eq_getElem_cons hi, List.find?_cons]
  split <;> simp_all
theorem any_step {l : List Ev} {p : Ev → Bool} {i : Nat} (hi : i < l.length) : (l.drop i).any p = (p l[i] || (l.drop (i + 1)).any p) := by
  rw [List.drop_eq_getElem_cons hi, List.any_cons]

theorem get_at {l : List Ev} {i : Nat} (hi : i < l.length) : (eL l)[(i : Int).toNat]? = some (encE l[i]) := by
  rw [Int.toNat_natCast, eL_get, List.getElem?_eq_getElem hi]; rfl

theorem c_rget (l : List Ev) (k : Int) (hl : l.length < 1000000) (K) (h : K (.ret (.tup [encE ((rGet l k).getD zeroE), .bool (rGet l k).isSome])) []) : VCall Try.prog 50 [.sl (eL l) .no, .int .i64 k] [] K := by
  have hlen := eL_len l
  refine call_fun [] 0 Try.func50 (by rfl) (by rfl) ?_
  conv => whnf
  repeat (refine step_go [] ?_; conv => whnf)
  let S : Nat → St := fun i => ⟨(.sl (eL l) .no :: .int .i64 k :: .undef :: .undef :: .ptr 0 0 :: .bool false :: .int .i64 (i : Nat) :: .undef :: .undef :: .undef :: .undef :: .undef :: .undef :: .undef :: .undef :: .undef :: .undef :: .undef :: .undef :: .undef :: .undef :: .undef :: .undef :: .undef :: .undef :: []), [.cells true 23 [.int .i64 0, .int .i64 0, .int .i64 0, .int .i64 0, .int .i64 0]], 0, []⟩
  refine VLoop.enter (s' := S 0) (weak_of ?_ (.cons (.eq rfl) .nil) rfl rfl rfl) (VLoop.indW S (fun i => l.length - i) (fun i => i ≤ l.length ∧ rGet l k = (l.drop i).find? fun x => x.key == k) ?_ 0 ⟨by omega, by unfold rGet; simp⟩)
  · repeat' first
      | exact VWs.nil
      | refine VWs.cons VW.undef ?_
      | refine VWs.cons (VW.eq rfl) ?_
  · rintro i ⟨hi, hv⟩ ih
    refine loop_round [] ?_; conv => whnf
    repeat (refine step_go [] ?_; conv => whnf)
    refine two (fun g => ?_) (fun g => ?_)
    · have hi : i < l.length := by simp [hlen] at g; omega
      rw [find_step hi] at hv
      conv => whnf
      repeat (refine step_go [] ?_; conv => whnf)
      refine ⟨by omega, _, get_at hi, rfl, ?_⟩; conv => whnf
      repeat (refine step_go [] ?_; conv => whnf)
      refine two (fun g => ?_) (fun g => ?_)
      · rw [if_pos g] at hv
        rw [hv] at h
        conv => whnf
        repeat (refine step_go [] ?_; conv => whnf)
        refine ⟨by omega, _, get_at hi, rfl, ?_⟩; conv => whnf
        repeat' first
          | (refine step_go [] ?_; conv => whnf)
          | (refine ⟨_, Weak.refl, ?_⟩; conv => whnf)
        exact h
      · rw [if_neg (by simpa using g)] at hv
        conv => whnf
        repeat (refine step_go [] ?_; conv => whnf)
        refine ⟨S (i + 1), weak_of ?_ (.cons (.eq rfl) .nil) rfl rfl rfl, ih (i + 1) ⟨by omega, hv⟩ (by omega)⟩
        repeat' first
          | exact VWs.nil
          | refine VWs.cons VW.undef ?_
          | refine VWs.cons (VW.eq rfl) ?_
          | refine VWs.cons (VW.eq (congrArg (V.int .i64) (by rw [wrap64 (by omega) (by omega)]; omega))) ?_
    · have hi : i = l.length := by simp [hlen] at g; omega
      subst hi
      rw [List.drop_length] at hv
      rw [hv] at h
      conv => whnf
      refine ⟨_, Weak.refl, ?_⟩; conv => whnf
      repeat (refine step_go [] ?_; conv => whnf)
      exact h

theorem c_rfst (l : List Ev) (hl : l.length < 1000000) (K) (h : K (.ret (.tup [encE ((rFst l).getD zeroE), .bool (rFst l).isSome])) []) : VCall Try.prog 71 [.sl (eL l) .no] [] K := by
  have hlen := eL_len l
  refine call_fun [] 0 Try.func71 (by rfl) (by rfl) ?_
  conv => whnf
  repeat (refine step_go [] ?_; conv => whnf)
  let S : Nat → St := fun i => ⟨(.sl (eL l) .no :: .undef :: .ptr 0 0 :: .bool false :: .int .i64 (i : Nat) :: .undef :: .undef :: .undef :: .undef :: .undef :: .undef :: .undef :: .undef :: .undef :: .undef :: .undef :: .undef :: .undef :: .undef :: .undef :: .undef :: .undef :: []), [.cells true 23 [.int .i64 0, .int .i64 0, .int .i64 0, .int .i64 0, .int .i64 0]], 0, []⟩
  refine VLoop.enter (s' := S 0) (weak_of ?_ (.cons (.eq rfl) .nil) rfl rfl rfl) (VLoop.indW S (fun i => l.length - i) (fun i => i ≤ l.length ∧ rFst l = (l.drop i).find? fun x => x.kind == 1) ?_ 0 ⟨by omega, by unfold rFst; simp⟩)
  · repeat' first
      | exact VWs.nil
      | refine VWs.cons VW.undef ?_
      | refine VWs.cons (VW.eq rfl) ?_
  · rintro i ⟨hi, hv⟩ ih
    refine loop_round [] ?_; conv => whnf
    repeat (refine step_go [] ?_; conv => whnf)
    refine two (fun g => ?_) (fun g => ?_)
    · have hi : i < l.length := by simp [hlen] at g; omega
      rw [find_step hi] at hv
      conv => whnf
      repeat (refine step_go [] ?_; conv => whnf)
      refine ⟨by omega, _, get_at hi, rfl, ?_⟩; conv => whnf
      repeat (refine step_go [] ?_; conv => whnf)
      refine two (fun g => ?_) (fun g => ?_)
      · rw [if_pos g] at hv
        rw [hv] at h
        conv => whnf
        repeat (refine step_go [] ?_; conv => whnf)
        refine ⟨by omega, _, get_at hi, rfl, ?_⟩; conv => whnf
        repeat' first
          | (refine step_go [] ?_; conv => whnf)
          | (refine ⟨_, Weak.refl, ?_⟩; conv => whnf)
        exact h
      · rw [if_neg (by simpa using g)] at hv
        conv => whnf
        repeat (refine step_go [] ?_; conv => whnf)
        refine ⟨S (i + 1), weak_of ?_ (.cons (.eq rfl) .nil) rfl rfl rfl, ih (i + 1) ⟨by omega, hv⟩ (by omega)⟩
        repeat' first
          | exact VWs.nil
          | refine VWs.cons VW.undef ?_
          | refine VWs.cons (VW.eq rfl) ?_
          | refine VWs.cons (VW.eq (congrArg (V.int .i64) (by rw [wrap64 (by omega) (by omega)]; omega))) ?_
    · have hi : i = l.length := by simp [hlen] at g; omega
      subst hi
      rw [List.drop_length] at hv
      rw [hv] at h
      conv => whnf
      refine ⟨_, Weak.refl, ?_⟩; conv => whnf
      repeat (refine step_go [] ?_; conv => whnf)
      exact h

theorem c_rrev (l : List Ev) (k : Int) (hl : l.length < 1000000) (K) (h : K (.ret (.bool (rRev l k))) []) : VCall Try.prog 43 [.sl (eL l) .no, .int .i64 k] [] K := by
  have hlen := eL_len l
  refine call_fun [] 0 Try.func43 (by rfl) (by rfl) ?_
  conv => whnf
  repeat (refine step_go [] ?_; conv => whnf)
  let S : Nat → St := fun i => ⟨(.sl (eL l) .no :: .int .i64 k :: .undef :: .undef :: .bool false :: .int .i64 (i : Nat) :: .undef :: .undef :: .undef :: .undef :: .undef :: .undef :: .undef :: .undef :: .undef :: .undef :: .undef :: .undef :: .undef :: .undef :: .undef :: .undef :: .undef :: .undef :: .undef :: .undef :: .undef :: []), [], 0, []⟩
  refine VLoop.enter (s' := S 0) (weak_of ?_ .nil rfl rfl rfl) (VLoop.indW S (fun i => l.length - i) (fun i => i ≤ l.length ∧ rRev l k = (l.drop i).any fun x => x.kind == 5 && x.ref == k) ?_ 0 ⟨by omega, by unfold rRev; simp⟩)
  · repeat' first
      | exact VWs.nil
      | refine VWs.cons VW.undef ?_
      | refine VWs.cons (VW.eq rfl) ?_
  · rintro i ⟨hi, hv⟩ ih
    refine loop_round [] ?_; conv => whnf
    repeat (refine step_go [] ?_; conv => whnf)
    refine two (fun g => ?_) (fun g => ?_)
    · have hi : i < l.length := by simp [hlen] at g; omega
      rw [any_step hi] at hv
      have hno : (l[i].kind == 5 && l[i].ref == k) = false → VLoop Try.prog 0 _ (S (i + 1)) _ := fun hb => ih (i + 1) ⟨by omega, by rw [hv, hb]; rfl⟩ (by omega)
      conv => whnf
      repeat (refine step_go [] ?_; conv => whnf)
      refine ⟨by omega, _, get_at hi, rfl, ?_⟩; conv => whnf
      repeat (refine step_go [] ?_; conv => whnf)
      refine two (fun g => ?_) (fun g => ?_)
      · conv => whnf
        refine ⟨by omega, _, get_at hi, rfl, ?_⟩; conv => whnf
        repeat (refine step_go [] ?_; conv => whnf)
        refine two (fun g2 => ?_) (fun g2 => ?_)
        · have hb : (l[i].kind == 5 && l[i].ref == k) = true := by rw [g, g2]; rfl
          rw [hv, hb] at h
          conv => whnf
          repeat' first
            | (refine step_go [] ?_; conv => whnf)
            | (refine ⟨_, Weak.refl, ?_⟩; conv => whnf)
          exact h
        · have hb : (l[i].kind == 5 && l[i].ref == k) = false := by rw [g, g2]; rfl
          conv => whnf
          repeat (refine step_go [] ?_; conv => whnf)
          refine ⟨S (i + 1), weak_of ?_ .nil rfl rfl rfl, hno hb⟩
          repeat' first
            | exact VWs.nil
            | refine VWs.cons VW.undef ?_
            | refine VWs.cons (VW.eq rfl) ?_
            | refine VWs.cons (VW.eq (congrArg (V.int .i64) (by rw [wrap64 (by omega) (by omega)]; omega))) ?_
      · have hb : (l[i].kind == 5 && l[i].ref == k) = false := by rw [g]; rfl
        conv => whnf
        repeat (refine step_go [] ?_; conv => whnf)
        refine ⟨S (i + 1), weak_of ?_ .nil rfl rfl rfl, hno hb⟩
        repeat' first
          | exact VWs.nil
          | refine VWs.cons VW.undef ?_
          | refine VWs.cons (VW.eq rfl) ?_
          | refine VWs.cons (VW.eq (congrArg (V.int .i64) (by rw [wrap64 (by omega) (by omega)]; omega))) ?_
    · have hi : i = l.length := by simp [hlen] at g; omega
      subst hi
      rw [List.drop_length] at hv
      rw [hv] at h
      conv => whnf
      refine ⟨_, Weak.refl, ?_⟩; conv => whnf
      repeat (refine step_go [] ?_; conv => whnf)
      exact h

theorem c_ahead (a b : Ev) (K) (h : K (.ret (.bool (decide (ltE a b)))) []) : VCall Try.prog 41 [encE a, encE b] [] K := by
  refine call_fun [] 0 Try.func41 (by rfl) (by rfl) ?_
  conv => whnf
  repeat (refine step_go [] ?_; conv => whnf)
  refine two (fun g => ?_) (fun g => ?_)
  · have g := of_decide_eq_true g
    conv => whnf
    repeat (refine step_go [] ?_; conv => whnf)
    rw [show decide (ltE a b) = true by simp [ltE, g]] at h
    exact h
  have g := of_decide_eq_false g
  conv => whnf
  refine two (fun g2 => ?_) (fun g2 => ?_)
  · have g2 : a.day = b.day := by simpa using g2
    conv => whnf
    repeat (refine step_go [] ?_; conv => whnf)
    rw [show decide (ltE a b) = decide (a.key < b.key) by simp [ltE, g2]] at h
    exact h
  · have g2 : ¬ a.day = b.day := by simpa using g2
    conv => whnf
    repeat (refine step_go [] ?_; conv => whnf)
    rw [show decide (ltE a b) = false by simp [ltE, g, g2] <;> omega] at h
    exact h
end E19

namespace E19
open Go Go.Proofs VL E18 E26
set_option pp.maxSteps 1200
set_option linter.unusedSimpArgs false
set_option linter.unusedVariables false
set_option maxRecDepth 100000

theorem c_rput (l : List Ev) (e : Ev) (hl : l.length < 90000) (K)
    (h : ∀ k, k ≤ l.length → (∀ j (hj : j < l.length), k ≤ j → ltE e l[j]) → (k = 0 ∨ ∃ hk : k - 1 < l.length, ¬ ltE e l[k - 1]) → K (.ret (.sl (eL (insS l k e)) .no)) []) :
    VCall Try.prog 46 [.sl (eL l) .no, encE e] [] K := by
  have hlen := eL_len l
  refine call_fun [] 0 Try.func46 (by rfl) (by rfl) ?_
  conv => whnf
  repeat (refine step_go [] ?_; conv => whnf)
  let S : Nat → St := fun k => ⟨(.sl (eL l) .no :: .undef :: .undef :: .ptr 0 0 :: .sl [] .ex :: .int .i64 (k : Nat) :: .undef :: .undef :: .undef :: .undef :: .undef :: .undef :: .undef :: .undef :: .undef :: .undef :: .undef :: .undef :: .undef :: .undef :: .undef :: .undef :: .undef :: .undef :: .undef :: .undef :: .undef :: .undef :: .undef :: .undef :: .undef :: .undef :: []), [.cells true 23 [.int .i64 e.key, .int .i64 e.kind, .int .i64 e.day, .int .i64 e.amount, .int .i64 e.ref]], 0, []⟩
  refine VLoop.enter (s' := S l.length) (weak_of ?_ (.cons (.eq rfl) .nil) rfl rfl rfl) (VLoop.indW S (fun k => k) (fun k => k ≤ l.length ∧ ∀ j (hj : j < l.length), k ≤ j → ltE e l[j]) ?_ l.length ⟨Nat.le_refl _, fun j hj h => by omega⟩)
  · repeat' first
      | exact VWs.nil
      | refine VWs.cons VW.undef ?_
      | refine VWs.cons (VW.eq rfl) ?_
      | refine VWs.cons (VW.eq (by rw [hlen])) ?_
  · rintro k ⟨hk, hv⟩ ih'
    have ih := ih'
    clear ih'
    have hend : (k = 0 ∨ ∃ hk : k - 1 < l.length, ¬ ltE e l[k - 1]) → K (.ret (.sl (eL (insS l k e)) .no)) [] := h k hk hv
    have e1 : List.drop (Int.toNat 0) (List.take (Int.toNat (k : Int)) (eL l)) = eL (l.take k) := by rw [Int.toNat_natCast]; simp [eL]
    have e2 : List.drop (Int.toNat (k : Int)) (eL l) = eL (l.drop k) := by rw [Int.toNat_natCast]; simp [eL]
    have e3 : eL (l.take k) ++ [encE e] ++ eL (l.drop k) = eL (insS l k e) := by simp [insS, eL]
    have hAl : (eL (l.take k)).length = k := by rw [eL_len, List.length_take]; omega
    have hBl : (eL (l.drop k)).length = l.length - k := by rw [eL_len, List.length_drop]
    refine loop_round [] ?_; conv => whnf
    refine ⟨by decide +kernel, ?_⟩; conv => whnf
    refine two (fun g => ?_) (fun g => ?_)
    · have hk0 : 0 < k := by simpa using g
      have w1 : IntKind.i64.wrap ((k : Int) - 1) = ((k - 1 : Nat) : Int) := by rw [wrap64 (by omega) (by omega)]; omega
      have hk1 : k - 1 < l.length := by omega
      conv => whnf
      rw [w1]
      refine ⟨by omega, _, get_at hk1, rfl, ?_⟩; conv => whnf
      repeat' first
        | (refine yes g ?_; conv => whnf)
        | (refine And.intro rfl ?_; conv => whnf)
        | (refine ⟨by omega, _, get_at hk1, rfl, ?_⟩; conv => whnf)
        | (refine c_ahead e l[k - 1] _ ?_; conv => whnf)
        | (rw [w1]; refine ⟨by omega, _, get_at hk1, rfl, ?_⟩; conv => whnf)
      repeat (refine step_go [] ?_; conv => whnf)
      refine two (fun g2 => ?_) (fun g2 => ?_)
      · have g2 : ltE e l[k - 1] := of_decide_eq_true g2
        conv => whnf
        repeat (refine step_go [] ?_; conv => whnf)
        refine ⟨S (k - 1), weak_of ?_ (.cons (.eq rfl) .nil) rfl rfl rfl, ih (k - 1) ⟨by omega, fun j hj hkj => ?_⟩ (by omega)⟩
        · repeat' first
            | exact VWs.nil
            | refine VWs.cons VW.undef ?_
            | refine VWs.cons (VW.eq rfl) ?_
            | refine VWs.cons (VW.eq (congrArg (V.int .i64) w1)) ?_
        · rcases Nat.lt_or_ge j k with h1 | h1
          · have : j = k - 1 := by omega
            subst this; exact g2
          · exact hv j hj h1
      · have g2 : ¬ ltE e l[k - 1] := of_decide_eq_false g2
        have hfin := hend (.inr ⟨hk1, g2⟩)
        clear h hend
        conv => whnf
        refine ⟨_, Weak.refl, ?_⟩; conv => whnf
        repeat (refine step_go [] ?_; conv => whnf)
        refine ⟨by decide +kernel, ?_⟩; conv => whnf
        refine ⟨by omega, by omega, by rw [hlen]; omega, eL_cells, ?_⟩
        rw [e1]; conv => whnf
        refine ⟨by omega, by rw [hlen]; omega, eL_cells, ?_⟩
        rw [e2]; conv => whnf
        refine ⟨by simp only [List.length_nil, hAl]; omega, eL_cells, by simp, ?_⟩; conv => whnf
        repeat (refine And.intro rfl ?_; conv => whnf)
        refine ⟨by omega, by rw [hlen]; omega, eL_cells, ?_⟩
        rw [e2]; conv => whnf
        repeat (refine And.intro rfl ?_; conv => whnf)
        refine ⟨by simp only [List.nil_append, List.length_singleton, hAl]; omega, by simp [V.cells, encE], ?_⟩; conv => whnf
        repeat (refine And.intro rfl ?_; conv => whnf)
        refine ⟨by omega, by rw [hlen]; omega, eL_cells, ?_⟩
        rw [e2]; conv => whnf
        repeat (refine And.intro rfl ?_; conv => whnf)
        refine ⟨by simp only [List.nil_append, List.length_append, List.length_singleton, hAl, hBl]; omega, eL_cells, ?_⟩; conv => whnf
        refine step_go [] ?_; conv => whnf
        rw [← e3] at hfin
        exact hfin
    · have hk0 : k = 0 := by simpa using g
      have hfin := hend (.inl hk0)
      clear h hend
      conv => whnf
      repeat (refine step_go [] ?_; conv => whnf)
      refine ⟨_, Weak.refl, ?_⟩; conv => whnf
      repeat (refine step_go [] ?_; conv => whnf)
      refine ⟨by decide +kernel, ?_⟩; conv => whnf
      refine ⟨by omega, by omega, by rw [hlen]; omega, eL_cells, ?_⟩
      rw [e1]; conv => whnf
      refine ⟨by omega, by rw [hlen]; omega, eL_cells, ?_⟩
      rw [e2]; conv => whnf
      refine ⟨by simp only [List.length_nil, hAl]; omega, eL_cells, by simp, ?_⟩; conv => whnf
      repeat (refine And.intro rfl ?_; conv => whnf)
      refine ⟨by omega, by rw [hlen]; omega, eL_cells, ?_⟩
      rw [e2]; conv => whnf
      repeat (refine And.intro rfl ?_; conv => whnf)
      refine ⟨by simp only [List.nil_append, List.length_singleton, hAl]; omega, by simp [V.cells, encE], ?_⟩; conv => whnf
      repeat (refine And.intro rfl ?_; conv => whnf)
      refine ⟨by omega, by rw [hlen]; omega, eL_cells, ?_⟩
      rw [e2]; conv => whnf
      repeat (refine And.intro rfl ?_; conv => whnf)
      refine ⟨by simp only [List.nil_append, List.length_append, List.length_singleton, hAl, hBl]; omega, eL_cells, ?_⟩; conv => whnf
      refine step_go [] ?_; conv => whnf
      rw [← e3] at hfin
      exact hfin
end E19

namespace E19
open Go Go.Proofs VL E18 E26
set_option pp.maxSteps 1200
set_option linter.unusedSimpArgs false
set_option linter.unusedVariables false
set_option maxRecDepth 100000

@[irreducible] def rMay (l : List Ev) (e : Ev) : Bool × Int :=
  if checkS e ≠ 0 then (false, checkS e) else
  if (rGet l e.key).isSome = true then (if evEq ((rGet l e.key).getD zeroE) e then (false, 0) else (false, 14)) else
  if 4096 ≤ l.length then (false, 15) else
  if e.kind = 5 ∧ ((rGet l e.ref).isSome = false ∨ ((rGet l e.ref).getD zeroE).kind ≠ 2 ∨ rRev l e.ref = true) then (false, 20) else
  if ((rFst l).isSome = true ↔ e.kind = 1) then (false, 17) else
  if (rFst l).isSome = true ∧ ltE e ((rFst l).getD zeroE) then (false, 18) else (true, 0)

theorem c_rmay (l : List Ev) (e : Ev) (hl : l.length < 90000) (K) (h : K (.ret (.tup [.bool (rMay l e).1, .int .i64 (rMay l e).2])) []) :
    VCall Try.prog 45 [.sl (eL l) .no, encE e] [] K := by
  have hfin : ∀ (b : Bool) (x : Int), rMay l e = (b, x) → K (.ret (.tup [.bool b, .int .i64 x])) [] := fun b x hx => by rw [hx] at h; exact h
  clear h
  have hlen := eL_len l
  generalize hy : (rGet l e.key).getD zeroE = y at *
  generalize hz : (rGet l e.ref).getD zeroE = z at *
  generalize hw : (rFst l).getD zeroE = w at *
  generalize hys : (rGet l e.key).isSome = ys at *
  generalize hzs : (rGet l e.ref).isSome = zs at *
  generalize hws : (rFst l).isSome = ws at *
  generalize hrv : rRev l e.ref = rv at *
  refine call_fun [] 0 Try.func45 (by rfl) (by rfl) ?_
  conv => whnf
  repeat (refine step_go [] ?_; conv => whnf)
  refine c_rcheck e _ ?_; conv => whnf
  repeat (refine step_go [] ?_; conv => whnf)
  refine two (fun g => ?_) (fun g => ?_)
  · have g : checkS e ≠ 0 := by simpa using g
    conv => whnf
    repeat (refine step_go [] ?_; conv => whnf)
    exact hfin _ _ (by unfold rMay; rw [if_pos g])
  have hce : checkS e = 0 := by simpa using g
  clear g
  have hce' : ¬ checkS e ≠ 0 := by simp [hce]
  conv => whnf
  repeat (refine step_go [] ?_; conv => whnf)
  refine c_rget l e.key (by omega) _ ?_
  rw [hy, hys]; conv => whnf
  repeat (refine step_go [] ?_; conv => whnf)
  cases ys
  case true =>
    conv => whnf
    rw [flat_ev]; conv => whnf
    repeat (refine step_go [] ?_; conv => whnf)
    refine two (fun g => ?_) (fun g => ?_)
    · have g' : evEq y e = true := by unfold evEq; exact g
      conv => whnf
      repeat (refine step_go [] ?_; conv => whnf)
      exact hfin _ _ (by unfold rMay; rw [if_neg hce', hys, if_pos rfl, hy, if_pos g'])
    · have g' : evEq y e = false := by unfold evEq; exact g
      conv => whnf
      repeat (refine step_go [] ?_; conv => whnf)
      exact hfin _ _ (by unfold rMay; rw [if_neg hce', hys, if_pos rfl, hy, if_neg (by simp [g'])])
  have hys' : ¬ (rGet l e.key).isSome = true := by rw [hys]; simp
  conv => whnf
  repeat (refine step_go [] ?_; conv => whnf)
  refine two (fun g => ?_) (fun g => ?_)
  · have g : 4096 ≤ l.length := by simp [hlen] at g; omega
    conv => whnf
    repeat (refine step_go [] ?_; conv => whnf)
    exact hfin _ _ (by unfold rMay; rw [if_neg hce', if_neg hys', if_pos g])
  have hfl : ¬ 4096 ≤ l.length := by simp [hlen] at g; omega
  clear g
  conv => whnf
  repeat (refine step_go [] ?_; conv => whnf)
  refine two (fun g => ?_) (fun g => ?_)
  · have hk5 : e.kind = 5 := by simpa using g
    conv => whnf
    repeat (refine step_go [] ?_; conv => whnf)
    refine c_rget l e.ref (by omega) _ ?_
    rw [hz, hzs]; conv => whnf
    repeat (refine step_go [] ?_; conv => whnf)
    cases zs
    case false =>
      conv => whnf
      repeat (refine step_go [] ?_; conv => whnf)
      exact hfin _ _ (by unfold rMay; rw [if_neg hce', if_neg hys', if_neg hfl, if_pos (by rw [hzs, hz, hrv]; simp_all)])
    conv => whnf
    repeat (refine step_go [] ?_; conv => whnf)
    refine two (fun g2 => ?_) (fun g2 => ?_)
    · have g2 : z.kind ≠ 2 := by simpa using g2
      conv => whnf
      repeat (refine step_go [] ?_; conv => whnf)
      exact hfin _ _ (by unfold rMay; rw [if_neg hce', if_neg hys', if_neg hfl, if_pos (by rw [hzs, hz, hrv]; simp_all)])
    have hk2 : z.kind = 2 := by simpa using g2
    clear g2
    conv => whnf
    repeat (refine step_go [] ?_; conv => whnf)
    refine c_rrev l e.ref (by omega) _ ?_
    rw [hrv]; conv => whnf
    repeat (refine step_go [] ?_; conv => whnf)
    cases rv
    case true =>
      conv => whnf
      repeat (refine step_go [] ?_; conv => whnf)
      exact hfin _ _ (by unfold rMay; rw [if_neg hce', if_neg hys', if_neg hfl, if_pos (by rw [hzs, hz, hrv]; simp_all)])
    have h5 : ¬ (e.kind = 5 ∧ ((rGet l e.ref).isSome = false ∨ ((rGet l e.ref).getD zeroE).kind ≠ 2 ∨ rRev l e.ref = true)) := by rw [hzs, hz, hrv]; simp [hk2]
    conv => whnf
    repeat (refine step_go [] ?_; conv => whnf)
    refine c_rfst l (by omega) _ ?_
    rw [hw, hws]; conv => whnf
    repeat (refine step_go [] ?_; conv => whnf)
    refine two (fun g => ?_) (fun g => ?_)
    · have g' : ((rFst l).isSome = true ↔ e.kind = 1) := by rw [hws]; cases ws <;> simpa using g
      conv => whnf
      repeat (refine step_go [] ?_; conv => whnf)
      exact hfin _ _ (by unfold rMay; rw [if_neg hce', if_neg hys', if_neg hfl, if_neg h5, if_pos g'])
    have hst : ¬ ((rFst l).isSome = true ↔ e.kind = 1) := by rw [hws]; cases ws <;> simpa using g
    clear g
    cases ws
    case false =>
      conv => whnf
      repeat (refine step_go [] ?_; conv => whnf)
      exact hfin _ _ (by unfold rMay; rw [if_neg hce', if_neg hys', if_neg hfl, if_neg h5, if_neg hst, if_neg (by rw [hws]; simp)])
    conv => whnf
    repeat (refine step_go [] ?_; conv => whnf)
    refine c_ahead e w _ ?_; conv => whnf
    repeat (refine step_go [] ?_; conv => whnf)
    refine two (fun g => ?_) (fun g => ?_)
    · have g' := of_decide_eq_true g
      conv => whnf
      repeat (refine step_go [] ?_; conv => whnf)
      exact hfin _ _ (by unfold rMay; rw [if_neg hce', if_neg hys', if_neg hfl, if_neg h5, if_neg hst, if_pos (by rw [hws, hw]; exact ⟨rfl, g'⟩)])
    · have g' := of_decide_eq_false g
      conv => whnf
      repeat (refine step_go [] ?_; conv => whnf)
      exact hfin _ _ (by unfold rMay; rw [if_neg hce', if_neg hys', if_neg hfl, if_neg h5, if_neg hst, if_neg (by rw [hws, hw]; exact fun h => g' h.2)])
  · have hk5 : ¬ e.kind = 5 := by simpa using g
    have h5 : ¬ (e.kind = 5 ∧ ((rGet l e.ref).isSome = false ∨ ((rGet l e.ref).getD zeroE).kind ≠ 2 ∨ rRev l e.ref = true)) := fun h => hk5 h.1
    clear g
    conv => whnf
    repeat (refine step_go [] ?_; conv => whnf)
    refine c_rfst l (by omega) _ ?_
    rw [hw, hws]; conv => whnf
    repeat (refine step_go [] ?_; conv => whnf)
    refine two (fun g => ?_) (fun g => ?_)
    · have g' : ((rFst l).isSome = true ↔ e.kind = 1) := by rw [hws]; cases ws <;> simpa using g
      conv => whnf
      repeat (refine step_go [] ?_; conv => whnf)
      exact hfin _ _ (by unfold rMay; rw [if_neg hce', if_neg hys', if_neg hfl, if_neg h5, if_pos g'])
    have hst : ¬ ((rFst l).isSome = true ↔ e.kind = 1) := by rw [hws]; cases ws <;> simpa using g
    clear g
    cases ws
    case false =>
      conv => whnf
      repeat (refine step_go [] ?_; conv => whnf)
      exact hfin _ _ (by unfold rMay; rw [if_neg hce', if_neg hys', if_neg hfl, if_neg h5, if_neg hst, if_neg (by rw [hws]; simp)])
    conv => whnf
    repeat (refine step_go [] ?_; conv => whnf)
    refine c_ahead e w _ ?_; conv => whnf
    repeat (refine step_go [] ?_; conv => whnf)
    refine two (fun g => ?_) (fun g => ?_)
    · have g' := of_decide_eq_true g
      conv => whnf
      repeat (refine step_go [] ?_; conv => whnf)
      exact hfin _ _ (by unfold rMay; rw [if_neg hce', if_neg hys', if_neg hfl, if_neg h5, if_neg hst, if_pos (by rw [hws, hw]; exact ⟨rfl, g'⟩)])
    · have g' := of_decide_eq_false g
      conv => whnf
      repeat (refine step_go [] ?_; conv => whnf)
      exact hfin _ _ (by unfold rMay; rw [if_neg hce', if_neg hys', if_neg hfl, if_neg h5, if_neg hst, if_neg (by rw [hws, hw]; exact fun h => g' h.2)])
end E19

namespace E19
open Go Go.Proofs VL E18 E26
set_option pp.maxSteps 1200
set_option linter.unusedSimpArgs false
set_option linter.unusedVariables false
set_option maxRecDepth 100000

theorem filt_step {l : List Ev} {p : Ev → Bool} {i : Nat} (hi : i < l.length) : (l.take (i + 1)).filter p = (l.take i).filter p ++ (if p l[i] then [l[i]] else []) := by
  rw [List.take_succ_eq_append_getElem hi, List.filter_append]
  congr 1
  by_cases h : p l[i] = true
  · rw [if_pos h]; simp [h]
  · rw [if_neg h]; simp [h]

def cntP (gs : List (Int × Bool)) (x : Ev) : Bool := x.kind != 5 && !((gGet gs x.key).getD false)
@[irreducible] def cntS (B : Bk) : List Ev := B.l.filter (cntP B.gs)

theorem c_counting (B : Bk) (sp : List V) (hl : B.l.length < 90000) (K) (h : K (.ret (.sl (eL (cntS B)) .no)) (B.obj sp false)) : VCall Try.prog 39 [.ptr 0 0] (B.obj sp false) K := by
  obtain ⟨l, ks, gs, paid⟩ := B
  simp only at hl
  have hlen := eL_len l
  refine call_fun [] 4 Try.func39 (by rfl) (by rfl) ?_
  conv => whnf
  repeat (refine step_go [] ?_; conv => whnf)
  refine c_all ⟨l, ks, gs, paid⟩ sp hl _ ?_; conv => whnf
  repeat (refine step_go [] ?_; conv => whnf)
  let S : Nat → St := fun i => ⟨(.ptr 0 0 :: .undef :: .sl [] .ex :: .sl (eL ((l.take i).filter (cntP gs))) (.tok 0 5) :: .undef :: .undef :: .undef :: .sl (eL l) .no :: .int .i64 l.length :: .int .i64 (i : Nat) :: .undef :: .undef :: .undef :: .undef :: .undef :: .undef :: .undef :: .undef :: .undef :: .undef :: .undef :: .undef :: .undef :: .undef :: .undef :: .undef :: .undef :: .undef :: .undef :: .undef :: .undef :: .undef :: []), bookO l ks gs paid sp false, 1, []⟩
  refine VLoop.enter (s' := S 0) (Weak.trans (weak_room (i := 3) (sz := 5) rfl (by decide) (by simp)) (weak_of ?_ (.cons (.eq rfl) (.cons (.eq rfl) (.cons (.eq rfl) (.cons (.eq rfl) .nil)))) rfl rfl rfl)) (VLoop.ind S l.length ?_ ?_)
  · repeat' first
      | exact VWs.nil
      | refine VWs.cons VW.undef ?_
      | refine VWs.cons (VW.eq rfl) ?_
      | refine VWs.cons (VW.eq (by rw [hlen])) ?_
  · intro i hi ih
    have hfs := filt_step (l := l) (p := cntP gs) hi
    have hfl : ((l.take i).filter (cntP gs)).length ≤ l.length := Nat.le_trans (List.length_filter_le _ _) (by simp; omega)
    have hfe := eL_len ((l.take i).filter (cntP gs))
    refine loop_round [] ?_; conv => whnf
    repeat (refine step_go [] ?_; conv => whnf)
    refine yes (by simpa using hi) ?_; conv => whnf
    repeat (refine step_go [] ?_; conv => whnf)
    refine ⟨by omega, _, get_at hi, rfl, ?_⟩; conv => whnf
    repeat (refine step_go [] ?_; conv => whnf)
    refine ⟨by decide +kernel, ?_⟩; conv => whnf
    refine two (fun g => ?_) (fun g => ?_)
    · rcases hg : gGet gs l[i].key with _ | y
      · have hp : cntP gs l[i] = true := by unfold cntP; rw [hg, g]; rfl
        rw [if_pos hp] at hfs
        conv => whnf
        refine ⟨gPlain _ _, _, gNone hg, ?_⟩; conv => whnf
        repeat (refine step_go [] ?_; conv => whnf)
        refine ⟨by rw [hfe]; simp; omega, by simp [V.cells, encE], ?_⟩; conv => whnf
        repeat (refine step_go [] ?_; conv => whnf)
        refine weak_sel (src := [0, 1, 2, 3]) ?_; conv => whnf
        refine VLoop.enter (s' := S (i + 1)) (weak_of ?_ (.cons (.eq rfl) (.cons (.eq rfl) (.cons (.eq rfl) (.cons (.eq rfl) .nil)))) rfl rfl rfl) ih
        have e3 : eL ((l.take i).filter (cntP gs)) ++ [encE l[i]] = eL ((l.take (i + 1)).filter (cntP gs)) := by rw [hfs]; simp [eL]
        repeat' first
          | exact VWs.nil
          | refine VWs.cons VW.undef ?_
          | refine VWs.cons (VW.eq rfl) ?_
          | refine VWs.cons (VW.eq (congrArg (fun x => V.sl x (.tok 0 5)) e3)) ?_
          | refine VWs.cons (VW.eq (congrArg (V.int .i64) (by rw [wrap64 (by omega) (by omega)]; omega))) ?_
      · obtain ⟨j, hj⟩ := gSome hg
        conv => whnf
        refine ⟨gPlain _ _, _, hj, ?_⟩; conv => whnf
        repeat (refine step_go [] ?_; conv => whnf)
        cases y
        · have hp : cntP gs l[i] = true := by unfold cntP; rw [hg, g]; rfl
          rw [if_pos hp] at hfs
          conv => whnf
          repeat (refine step_go [] ?_; conv => whnf)
          refine ⟨by rw [hfe]; simp; omega, by simp [V.cells, encE], ?_⟩; conv => whnf
          repeat (refine step_go [] ?_; conv => whnf)
          refine weak_sel (src := [0, 1, 2, 3]) ?_; conv => whnf
          refine VLoop.enter (s' := S (i + 1)) (weak_of ?_ (.cons (.eq rfl) (.cons (.eq rfl) (.cons (.eq rfl) (.cons (.eq rfl) .nil)))) rfl rfl rfl) ih
          have e3 : eL ((l.take i).filter (cntP gs)) ++ [encE l[i]] = eL ((l.take (i + 1)).filter (cntP gs)) := by rw [hfs]; simp [eL]
          repeat' first
            | exact VWs.nil
            | refine VWs.cons VW.undef ?_
            | refine VWs.cons (VW.eq rfl) ?_
            | refine VWs.cons (VW.eq (congrArg (fun x => V.sl x (.tok 0 5)) e3)) ?_
            | refine VWs.cons (VW.eq (congrArg (V.int .i64) (by rw [wrap64 (by omega) (by omega)]; omega))) ?_
        · have hp : ¬ cntP gs l[i] = true := by unfold cntP; rw [hg, g]; simp
          rw [if_neg hp] at hfs
          conv => whnf
          repeat (refine step_go [] ?_; conv => whnf)
          refine weak_sel (src := [0, 1, 2, 3]) ?_; conv => whnf
          refine VLoop.enter (s' := S (i + 1)) (weak_of ?_ (.cons (.eq rfl) (.cons (.eq rfl) (.cons (.eq rfl) (.cons (.eq rfl) .nil)))) rfl rfl rfl) ih
          have e3 : eL ((l.take i).filter (cntP gs)) = eL ((l.take (i + 1)).filter (cntP gs)) := by rw [hfs]; simp [eL]
          repeat' first
            | exact VWs.nil
            | refine VWs.cons VW.undef ?_
            | refine VWs.cons (VW.eq rfl) ?_
            | refine VWs.cons (VW.eq (congrArg (fun x => V.sl x (.tok 0 5)) e3)) ?_
            | refine VWs.cons (VW.eq (congrArg (V.int .i64) (by rw [wrap64 (by omega) (by omega)]; omega))) ?_
    · have hp : ¬ cntP gs l[i] = true := by unfold cntP; rw [g]; simp
      rw [if_neg hp] at hfs
      conv => whnf
      repeat (refine step_go [] ?_; conv => whnf)
      refine weak_sel (src := [0, 1, 2, 3]) ?_; conv => whnf
      refine VLoop.enter (s' := S (i + 1)) (weak_of ?_ (.cons (.eq rfl) (.cons (.eq rfl) (.cons (.eq rfl) (.cons (.eq rfl) .nil)))) rfl rfl rfl) ih
      have e3 : eL ((l.take i).filter (cntP gs)) = eL ((l.take (i + 1)).filter (cntP gs)) := by rw [hfs]; simp [eL]
      repeat' first
        | exact VWs.nil
        | refine VWs.cons VW.undef ?_
        | refine VWs.cons (VW.eq rfl) ?_
        | refine VWs.cons (VW.eq (congrArg (fun x => V.sl x (.tok 0 5)) e3)) ?_
        | refine VWs.cons (VW.eq (congrArg (V.int .i64) (by rw [wrap64 (by omega) (by omega)]; omega))) ?_
  · refine loop_round [] ?_; conv => whnf
    repeat (refine step_go [] ?_; conv => whnf)
    refine no (by simp) ?_; conv => whnf
    refine ⟨_, Weak.refl, ?_⟩; conv => whnf
    repeat (refine step_go [] ?_; conv => whnf)
    rw [List.take_length]
    unfold cntS at h
    exact h
end E19

namespace E19
open Go Go.Proofs VL E18 E26
set_option pp.maxSteps 1200
set_option linter.unusedSimpArgs false
set_option linter.unusedVariables false
set_option maxRecDepth 100000

def rcntP (l : List Ev) (x : Ev) : Bool := x.kind != 5 && !(x.kind == 2 && rRev l x.key)
@[irreducible] def rCnt (l : List Ev) : List Ev := l.filter (rcntP l)

theorem c_rcounting (l : List Ev) (hl : l.length < 90000) (K) (h : K (.ret (.sl (eL (rCnt l)) .no)) []) : VCall Try.prog 40 [.sl (eL l) .no] [] K := by
  have hlen := eL_len l
  refine VCall.weak (call_fun [] 0 Try.func40 (by rfl) (by rfl) ?_)
  conv => whnf
  repeat (refine step_go [] ?_; conv => whnf)
  let S : Nat → St := fun i => ⟨(.sl (eL l) .no :: .undef :: .sl [] .ex :: .sl (eL ((l.take i).filter (rcntP l))) (.tok 0 5) :: .int .i64 (i : Nat) :: .undef :: .undef :: .undef :: .undef :: .undef :: .undef :: .undef :: .undef :: .undef :: .undef :: .undef :: .undef :: .undef :: .undef :: .undef :: .undef :: .undef :: .undef :: .undef :: .undef :: .undef :: .undef :: .undef :: .undef :: .undef :: .undef :: .undef :: .undef :: .undef :: .undef :: .undef :: .undef :: .undef :: .undef :: .undef :: .undef :: .undef :: .undef :: []), [], 1, []⟩
  refine VLoop.enter (s' := S 0) (Weak.trans (weak_room (i := 3) (sz := 5) rfl (by decide) (by simp)) (weak_of ?_ .nil rfl rfl rfl)) (VLoop.ind S l.length ?_ ?_)
  · repeat' first
      | exact VWs.nil
      | refine VWs.cons VW.undef ?_
      | refine VWs.cons (VW.eq rfl) ?_
  · intro i hi ih
    have hfs := filt_step (l := l) (p := rcntP l) hi
    have hfl : ((l.take i).filter (rcntP l)).length ≤ l.length := Nat.le_trans (List.length_filter_le _ _) (by simp; omega)
    have hfe := eL_len ((l.take i).filter (rcntP l))
    have hyes : rcntP l l[i] = true → eL ((l.take i).filter (rcntP l)) ++ [encE l[i]] = eL ((l.take (i + 1)).filter (rcntP l)) := fun hp => by rw [hfs, if_pos hp]; simp [eL]
    have hno : ¬ rcntP l l[i] = true → eL ((l.take i).filter (rcntP l)) = eL ((l.take (i + 1)).filter (rcntP l)) := fun hp => by rw [hfs, if_neg hp]; simp [eL]
    clear hfs
    refine loop_round [] ?_; conv => whnf
    repeat (refine step_go [] ?_; conv => whnf)
    refine yes (by simp [hlen]; exact hi) ?_; conv => whnf
    repeat (refine step_go [] ?_; conv => whnf)
    refine ⟨by omega, _, get_at hi, rfl, ?_⟩; conv => whnf
    refine two (fun g => ?_) (fun g => ?_)
    · conv => whnf
      refine ⟨by omega, _, get_at hi, rfl, ?_⟩; conv => whnf
      refine two (fun g2 => ?_) (fun g2 => ?_)
      · conv => whnf
        refine ⟨by omega, _, get_at hi, rfl, ?_⟩; conv => whnf
        refine c_rrev l l[i].key (by omega) _ ?_
        rcases hr : rRev l l[i].key with _ | _
        · have e3 := hyes (by unfold rcntP; rw [hr, g, g2]; rfl)
          conv => whnf
          repeat (refine step_go [] ?_; conv => whnf)
          refine ⟨by omega, _, get_at hi, rfl, ?_⟩; conv => whnf
          repeat (refine step_go [] ?_; conv => whnf)
          refine ⟨by rw [hfe]; simp; omega, by simp [V.cells, encE], ?_⟩; conv => whnf
          repeat (refine step_go [] ?_; conv => whnf)
          refine ⟨S (i + 1), weak_of ?_ .nil rfl rfl rfl, ih⟩
          repeat' first
            | exact VWs.nil
            | refine VWs.cons VW.undef ?_
            | refine VWs.cons (VW.eq rfl) ?_
            | refine VWs.cons (VW.eq (congrArg (fun x => V.sl x (.tok 0 5)) e3)) ?_
            | refine VWs.cons (VW.eq (congrArg (V.int .i64) (by rw [wrap64 (by omega) (by omega)]; omega))) ?_
        · have e3 := hno (by unfold rcntP; rw [hr, g, g2]; simp)
          conv => whnf
          repeat (refine step_go [] ?_; conv => whnf)
          refine ⟨S (i + 1), weak_of ?_ .nil rfl rfl rfl, ih⟩
          repeat' first
            | exact VWs.nil
            | refine VWs.cons VW.undef ?_
            | refine VWs.cons (VW.eq rfl) ?_
            | refine VWs.cons (VW.eq (congrArg (fun x => V.sl x (.tok 0 5)) e3)) ?_
            | refine VWs.cons (VW.eq (congrArg (V.int .i64) (by rw [wrap64 (by omega) (by omega)]; omega))) ?_
      · have e3 := hyes (by unfold rcntP; rw [g, g2]; rfl)
        conv => whnf
        repeat (refine step_go [] ?_; conv => whnf)
        refine ⟨by omega, _, get_at hi, rfl, ?_⟩; conv => whnf
        repeat (refine step_go [] ?_; conv => whnf)
        refine ⟨by rw [hfe]; simp; omega, by simp [V.cells, encE], ?_⟩; conv => whnf
        repeat (refine step_go [] ?_; conv => whnf)
        refine ⟨S (i + 1), weak_of ?_ .nil rfl rfl rfl, ih⟩
        repeat' first
          | exact VWs.nil
          | refine VWs.cons VW.undef ?_
          | refine VWs.cons (VW.eq rfl) ?_
          | refine VWs.cons (VW.eq (congrArg (fun x => V.sl x (.tok 0 5)) e3)) ?_
          | refine VWs.cons (VW.eq (congrArg (V.int .i64) (by rw [wrap64 (by omega) (by omega)]; omega))) ?_
    · have e3 := hno (by unfold rcntP; rw [g]; simp)
      conv => whnf
      repeat (refine step_go [] ?_; conv => whnf)
      refine ⟨S (i + 1), weak_of ?_ .nil rfl rfl rfl, ih⟩
      repeat' first
        | exact VWs.nil
        | refine VWs.cons VW.undef ?_
        | refine VWs.cons (VW.eq rfl) ?_
        | refine VWs.cons (VW.eq (congrArg (fun x => V.sl x (.tok 0 5)) e3)) ?_
        | refine VWs.cons (VW.eq (congrArg (V.int .i64) (by rw [wrap64 (by omega) (by omega)]; omega))) ?_
  · refine loop_round [] ?_; conv => whnf
    repeat (refine step_go [] ?_; conv => whnf)
    refine no (by simp [hlen]) ?_; conv => whnf
    refine ⟨_, Weak.refl, ?_⟩; conv => whnf
    repeat (refine step_go [] ?_; conv => whnf)
    rw [List.take_length]
    unfold rCnt at h
    exact ⟨_, _, Weak.refl, h⟩
end E19

namespace E19
open Go Go.Proofs VL E18 E26
set_option linter.unusedSimpArgs false
set_option linter.unusedVariables false
set_option maxRecDepth 100000

def Uniq (l : List Ev) : Prop := l.Pairwise fun a b => a.key ≠ b.key

theorem mem_ins {l : List Ev} {k : Nat} {e x : Ev} : x ∈ insS l k e ↔ x = e ∨ x ∈ l := by
  unfold insS
  simp only [List.mem_append, List.mem_singleton]
  constructor
  · rintro ((h | h) | h)
    · exact .inr (List.mem_of_mem_take h)
    · exact .inl h
    · exact .inr (List.mem_of_mem_drop h)
  · rintro (h | h)
    · exact .inl (.inr h)
    · rw [← List.take_append_drop k l, List.mem_append] at h
      rcases h with h | h
      · exact .inl (.inl h)
      · exact .inr h

theorem rGet_mem {l : List Ev} {k : Int} {x : Ev} (h : rGet l k = some x) : x ∈ l ∧ x.key = k := by
  unfold rGet at h
  exact ⟨List.mem_of_find?_eq_some h, by simpa using List.find?_some h⟩
theorem rGet_none {l : List Ev} {k : Int} : rGet l k = none ↔ ∀ x ∈ l, x.key ≠ k := by
  unfold rGet; simp
theorem rGet_of {l : List Ev} (hu : Uniq l) {x : Ev} (hx : x ∈ l) : rGet l x.key = some x := by
  unfold rGet
  induction l with
  | nil => cases hx
  | cons a r ih =>
    have hu' := List.pairwise_cons.1 hu
    rw [List.find?_cons]
    by_cases h : a.key = x.key
    · rw [show (a.key == x.key) = true by simpa using h]
      cases hx with
      | head => rfl
      | tail _ hx => exact absurd h (hu'.1 x hx)
    · rw [show (a.key == x.key) = false by simpa using h]
      cases hx with
      | head => exact absurd rfl h
      | tail _ hx => exact ih hu'.2 hx
theorem rRev_iff {l : List Ev} {k : Int} : rRev l k = true ↔ ∃ x ∈ l, x.kind = 5 ∧ x.ref = k := by
  unfold rRev; simp
theorem rFst_some {l : List Ev} {x : Ev} (h : rFst l = some x) : x ∈ l ∧ x.kind = 1 := by
  unfold rFst at h
  exact ⟨List.mem_of_find?_eq_some h, by simpa using List.find?_some h⟩
theorem rFst_none {l : List Ev} : rFst l = none ↔ ∀ x ∈ l, x.kind ≠ 1 := by
  unfold rFst; simp

theorem rGet_ins {l : List Ev} {k : Nat} {e : Ev} (hn : rGet l e.key = none) (j : Int) : rGet (insS l k e) j = if e.key = j then some e else rGet l j := by
  have hl : rGet l j = rGet (l.take k ++ l.drop k) j := by rw [List.take_append_drop]
  rw [hl]
  unfold rGet insS at *
  rw [List.find?_append, List.find?_append, List.find?_append]
  by_cases h : e.key = j
  · subst h
    rw [if_pos rfl]
    have : (l.take k).find? (fun x => x.key == e.key) = none := by
      simp only [List.find?_eq_none] at hn ⊢
      exact fun x hx => hn x (List.mem_of_mem_take hx)
    rw [this]; simp
  · rw [if_neg h]
    have : [e].find? (fun x => x.key == j) = none := by simp [h]
    rw [this]; simp

theorem rRev_ins {l : List Ev} {k : Nat} {e : Ev} (j : Int) : rRev (insS l k e) j = ((e.kind == 5 && e.ref == j) || rRev l j) := by
  have hl : rRev l j = rRev (l.take k ++ l.drop k) j := by rw [List.take_append_drop]
  rw [hl]
  unfold rRev insS
  rw [List.any_append, List.any_append, List.any_append]
  simp only [List.any_cons, List.any_nil, Bool.or_false]
  cases (l.take k).any _ <;> cases (l.drop k).any _ <;> cases (e.kind == 5 && e.ref == j) <;> rfl

theorem rFst_ins {l : List Ev} {k : Nat} {e : Ev} (h : e.kind = 1 → rFst l = none) : rFst (insS l k e) = if e.kind = 1 then some e else rFst l := by
  have hl : rFst l = rFst (l.take k ++ l.drop k) := by rw [List.take_append_drop]
  by_cases h1 : e.kind = 1
  · have hn := h h1
    rw [if_pos h1]
    rw [rFst_none] at hn
    unfold rFst insS
    rw [List.find?_append, List.find?_append]
    have : (l.take k).find? (fun x => x.kind == 1) = none := by
      simp only [List.find?_eq_none]
      exact fun x hx => by simpa using hn x (List.mem_of_mem_take hx)
    rw [this]; simp [h1]
  · rw [if_neg h1, hl]
    unfold rFst insS
    rw [List.find?_append, List.find?_append, List.find?_append]
    have : [e].find? (fun x => x.kind == 1) = none := by simp [h1]
    rw [this]; simp

theorem kGet_set (ks : List (Int × Ev)) (k : Int) (e : Ev) (j : Int) : kGet (kSet ks k e) j = if k = j then some e else kGet ks j := by
  unfold kGet
  induction ks with
  | nil =>
    simp only [kSet, List.find?_cons]
    by_cases h : k = j
    · subst h; simp
    · rw [if_neg h, show (j == k) = false by simpa using Ne.symm h]
  | cons p r ih =>
    unfold kSet
    by_cases hk : k = p.1
    · rw [if_pos (by simpa using hk)]
      simp only [List.find?_cons]
      by_cases h : k = j
      · subst h; simp
      · rw [if_neg h, show (j == k) = false by simpa using Ne.symm h, show (j == p.1) = false by rw [← hk]; simpa using Ne.symm h]
    · rw [if_neg (by simpa using hk)]
      simp only [List.find?_cons]
      cases hj : (j == p.1) with
      | true =>
        simp only
        rw [if_neg (fun e => hk (by rw [e]; simpa using hj))]
      | false => exact ih
theorem gGet_set (gs : List (Int × Bool)) (k : Int) (j : Int) : gGet (gSet gs k) j = if k = j then some true else gGet gs j := by
  unfold gGet
  induction gs with
  | nil =>
    simp only [gSet, List.find?_cons]
    by_cases h : k = j
    · subst h; simp
    · rw [if_neg h, show (j == k) = false by simpa using Ne.symm h]
  | cons p r ih =>
    unfold gSet
    by_cases hk : k = p.1
    · rw [if_pos (by simpa using hk)]
      simp only [List.find?_cons]
      by_cases h : k = j
      · subst h; simp
      · rw [if_neg h, show (j == k) = false by simpa using Ne.symm h, show (j == p.1) = false by rw [← hk]; simpa using Ne.symm h]
    · rw [if_neg (by simpa using hk)]
      simp only [List.find?_cons]
      cases hj : (j == p.1) with
      | true =>
        simp only
        rw [if_neg (fun e => hk (by rw [e]; simpa using hj))]
      | false => exact ih

structure Good (B : Bk) : Prop where
  srt : Srt B.l
  chk : ∀ x ∈ B.l, checkS x = 0
  keys : ∀ k, kGet B.ks k = rGet B.l k
  uniq : Uniq B.l
  gone : ∀ k, (gGet B.gs k).getD false = rRev B.l k
  paid : B.paid = ((rFst B.l).map (·.key)).getD 0
  refs : ∀ x ∈ B.l, x.kind = 5 → ∃ y ∈ B.l, y.key = x.ref ∧ y.kind = 2
  len : B.l.length ≤ 4096

/-- what is let in -/
structure Ok (l : List Ev) (e : Ev) : Prop where
  chk : checkS e = 0
  new : rGet l e.key = none
  len : l.length < 4096
  ref : e.kind = 5 → (∃ y, rGet l e.ref = some y ∧ y.kind = 2) ∧ rRev l e.ref = false
  once : ((rFst l).isSome = true ↔ e.kind ≠ 1)
  early : ∀ x, rFst l = some x → ¬ ltE e x

theorem rMay_true {l : List Ev} {e : Ev} : (rMay l e).1 = true ↔ Ok l e := by
  unfold rMay
  constructor
  · intro h
    split at h
    · simp at h
    rename_i h1
    split at h
    · split at h <;> simp at h
    rename_i h2
    split at h
    · simp at h
    rename_i h3
    split at h
    · simp at h
    rename_i h4
    split at h
    · simp at h
    rename_i h5
    split at h
    · simp at h
    rename_i h6
    refine ⟨by simpa using h1, by simpa using h2, by omega, fun hk => ?_, ?_, fun x hx hlt => ?_⟩
    · simp only [hk, true_and, not_or] at h4
      obtain ⟨a, b, c⟩ := h4
      cases hr : rGet l e.ref with
      | none => rw [hr] at a; simp at a
      | some y => rw [hr] at b; exact ⟨⟨y, rfl, by simpa using b⟩, by simpa using c⟩
    · constructor
      · intro a b; exact h5 ⟨fun _ => b, fun _ => a⟩
      · intro a
        cases hf : (rFst l).isSome with
        | true => rfl
        | false => exact absurd ⟨(fun h => by rw [hf] at h; cases h), fun h => absurd h a⟩ h5
    · rw [hx] at h6; exact h6 ⟨rfl, hlt⟩
  · intro h
    rw [if_neg (by simp [h.chk]), if_neg (by simp [h.new]), if_neg (by have := h.len; omega), if_neg, if_neg, if_neg]
    · rintro ⟨a, b⟩
      obtain ⟨x, hx⟩ := Option.isSome_iff_exists.1 a
      rw [hx] at b
      exact h.early x hx b
    · intro a
      by_cases hk : e.kind = 1
      · exact h.once.1 (a.2 hk) hk
      · exact hk (a.1 (h.once.2 hk))
    · rintro ⟨hk, a⟩
      obtain ⟨⟨y, hy, hy2⟩, hr⟩ := h.ref hk
      rw [hy, hr] at a
      simp [hy2] at a

theorem key_pos {e : Ev} (h : checkS e = 0) : 1 ≤ e.key := by
  obtain ⟨k1, k2, y1, y2, _⟩ := check_ok h
  exact y1

theorem paid_iff {B : Bk} (g : Good B) : B.paid = 0 ↔ rFst B.l = none := by
  rw [g.paid]
  cases h : rFst B.l with
  | none => simp
  | some x =>
    have := key_pos (g.chk x (rFst_some h).1)
    simp; omega

theorem may_eq {B : Bk} (g : Good B) (e : Ev) : B.may e = rMay B.l e := by
  unfold Bk.may mayS rMay
  by_cases h1 : checkS e ≠ 0
  · rw [if_pos h1, if_pos h1]
  rw [if_neg h1, if_neg h1, g.keys]
  cases hk : rGet B.l e.key with
  | some old => simp
  | none =>
  simp only [Option.isSome_none, Bool.false_eq_true, if_false]
  unfold rulesS fullS namesS onceS earlyS
  rw [g.keys, g.keys, g.gone]
  by_cases h2 : 4096 ≤ B.l.length
  · simp [h2]
  simp only [if_neg h2, ne_eq, not_true_eq_false, if_false]
  have hn : (e.kind = 5 ∧ (((rGet B.l e.ref).getD zeroE).kind ≠ 2 ∨ rRev B.l e.ref = true)) ↔ (e.kind = 5 ∧ ((rGet B.l e.ref).isSome = false ∨ ((rGet B.l e.ref).getD zeroE).kind ≠ 2 ∨ rRev B.l e.ref = true)) := by
    cases hr : rGet B.l e.ref with
    | none => simp [zeroE]
    | some y => simp
  by_cases h3 : (e.kind = 5 ∧ (((rGet B.l e.ref).getD zeroE).kind ≠ 2 ∨ rRev B.l e.ref = true))
  · rw [if_pos h3, if_pos (hn.1 h3)]; simp
  rw [if_neg h3, if_neg (fun h => h3 (hn.2 h))]
  simp only [not_true_eq_false, if_false]
  have hp := paid_iff g
  have ho : (e.kind = 1 ↔ B.paid = 0) ↔ ¬ ((rFst B.l).isSome = true ↔ e.kind = 1) := by
    rw [hp]
    cases rFst B.l with
    | none => simp
    | some x => simp
  by_cases h4 : (e.kind = 1 ↔ B.paid = 0)
  · rw [if_pos h4, if_neg (ho.1 h4)]
    simp only [not_true_eq_false, if_false]
    cases hf : rFst B.l with
    | none => simp [hp.2 hf]
    | some x =>
      obtain ⟨hx, hx1⟩ := rFst_some hf
      have hpx : B.paid = x.key := by rw [g.paid, hf]; rfl
      have hp0 : B.paid ≠ 0 := fun h => by rw [hp.1 h] at hf; cases hf
      rw [hpx, rGet_of g.uniq hx]
      have hx0 : x.key ≠ 0 := hpx ▸ hp0
      by_cases hlt : ltE e x
      · simp [hlt, hx0]
      · simp [hlt]
  · rw [if_neg h4, if_pos (Classical.not_not.1 fun h => h4 (ho.2 h))]; simp

theorem ltE_tri {a b : Ev} (h : a.key ≠ b.key) (h1 : ¬ ltE a b) : ltE b a := by unfold ltE at *; omega

theorem srt_ins {l : List Ev} {e : Ev} (hs : Srt l) (hn : rGet l e.key = none) : Srt (insS l (posS l e) e) := by
  have hne := rGet_none.1 hn
  have hlo : ∀ a ∈ l.take (posS l e), ltE a e := fun a ha => by
    obtain ⟨i, hi, rfl⟩ := List.mem_iff_getElem.1 ha
    rw [List.length_take] at hi
    rw [List.getElem_take]
    exact pos_lt (by omega) (by omega)
  have hhi : ∀ a ∈ l.drop (posS l e), ltE e a := fun a ha => by
    obtain ⟨i, hi, rfl⟩ := List.mem_iff_getElem.1 ha
    rw [List.length_drop] at hi
    rw [List.getElem_drop]
    exact ltE_tri (hne _ (List.getElem_mem _)) (pos_ge hs (by omega) (by omega))
  unfold Srt insS
  rw [List.pairwise_append, List.pairwise_append]
  refine ⟨⟨hs.sublist (List.take_sublist _ _), List.pairwise_singleton _ _, fun a ha b hb => ?_⟩, hs.sublist (List.drop_sublist _ _), fun a ha b hb => ?_⟩
  · simp only [List.mem_singleton] at hb; subst hb; exact hlo a ha
  · rcases List.mem_append.1 ha with ha | ha
    · exact ltE_trans (hlo a ha) (hhi b hb)
    · simp only [List.mem_singleton] at ha; subst ha; exact hhi b hb

theorem uniq_ins {l : List Ev} {k : Nat} {e : Ev} (hu : Uniq l) (hn : rGet l e.key = none) : Uniq (insS l k e) := by
  have hne := rGet_none.1 hn
  unfold Uniq insS
  have hu' : (l.take k ++ l.drop k).Pairwise fun a b => a.key ≠ b.key := by rw [List.take_append_drop]; exact hu
  rw [List.pairwise_append] at hu'
  rw [List.pairwise_append, List.pairwise_append]
  refine ⟨⟨hu'.1, List.pairwise_singleton _ _, fun a ha b hb => ?_⟩, hu'.2.1, fun a ha b hb => ?_⟩
  · simp only [List.mem_singleton] at hb; subst hb; exact hne a (List.mem_of_mem_take ha)
  · rcases List.mem_append.1 ha with ha | ha
    · exact hu'.2.2 a ha b hb
    · simp only [List.mem_singleton] at ha; subst ha; exact Ne.symm (hne b (List.mem_of_mem_drop hb))

theorem put_good {B : Bk} (g : Good B) (e : Ev) : Good (B.put e) := by
  cases hm : (B.may e).1 with
  | false => rw [put_no hm]; exact g
  | true =>
    have ok : Ok B.l e := rMay_true.1 (by rw [← may_eq g]; exact hm)
    rw [put_yes hm]
    have hf1 : e.kind = 1 → rFst B.l = none := fun h => by
      cases hf : rFst B.l with
      | none => rfl
      | some x => exact absurd h (ok.once.1 (by rw [hf]; rfl))
    refine ⟨srt_ins g.srt ok.new, fun x hx => ?_, fun k => ?_, uniq_ins g.uniq ok.new, fun k => ?_, ?_, fun x hx hk => ?_, ?_⟩
    · rcases mem_ins.1 hx with rfl | hx
      · exact ok.chk
      · exact g.chk x hx
    · show kGet (kSet B.ks e.key e) k = rGet (insS B.l (posS B.l e) e) k
      rw [kGet_set, rGet_ins ok.new, g.keys]
    · show (gGet (if e.kind = 5 then gSet B.gs e.ref else B.gs) k).getD false = rRev (insS B.l (posS B.l e) e) k
      rw [rRev_ins]
      by_cases h5 : e.kind = 5
      · rw [if_pos h5, gGet_set]
        by_cases hr : e.ref = k
        · rw [if_pos hr]; simp [h5, hr]
        · rw [if_neg hr, g.gone]; simp [hr]
      · rw [if_neg h5, g.gone]; simp [h5]
    · show (if e.kind = 1 then e.key else B.paid) = _
      rw [rFst_ins hf1]
      by_cases h1 : e.kind = 1
      · rw [if_pos h1, if_pos h1]; rfl
      · rw [if_neg h1, if_neg h1, g.paid]
    · rcases mem_ins.1 hx with rfl | hx
      · obtain ⟨⟨y, hy, hy2⟩, _⟩ := ok.ref hk
        obtain ⟨hy3, hy4⟩ := rGet_mem hy
        exact ⟨y, mem_ins.2 (.inr hy3), hy4, hy2⟩
      · obtain ⟨y, hy, h⟩ := g.refs x hx hk
        exact ⟨y, mem_ins.2 (.inr hy), h⟩
    · show (insS B.l (posS B.l e) e).length ≤ 4096
      rw [insS_len (pos_le _ _)]; have := ok.len; omega

theorem cnt_eq {B : Bk} (g : Good B) : cntS B = rCnt B.l := by
  unfold cntS rCnt
  apply List.filter_congr
  intro x hx
  unfold cntP rcntP
  rw [g.gone]
  cases hr : rRev B.l x.key with
  | false => simp
  | true =>
    obtain ⟨y, hy, h5, href⟩ := rRev_iff.1 hr
    obtain ⟨z, hz, hzk, hz2⟩ := g.refs y hy h5
    have e1 := rGet_of g.uniq hz
    rw [hzk, href] at e1
    have e2 := rGet_of g.uniq hx
    rw [e1] at e2
    cases e2
    simp [hz2]

theorem new_good : Good newB := by
  refine ⟨.nil, by simp [newB], fun k => ?_, .nil, fun k => ?_, ?_, by simp [newB], by simp [newB]⟩
  · unfold kGet rGet newB; rfl
  · unfold gGet rRev newB; rfl
  · unfold rFst newB; rfl

theorem c_rput' (l : List Ev) (e : Ev) (hs : Srt l) (hn : rGet l e.key = none) (hl : l.length < 90000) (K) (h : K (.ret (.sl (eL (insS l (posS l e) e)) .no)) []) : VCall Try.prog 46 [.sl (eL l) .no, encE e] [] K := by
  have hne := rGet_none.1 hn
  refine c_rput l e hl K fun k hk h1 h2 => ?_
  have hp := pos_le l e
  have : k = posS l e := by
    rcases Nat.lt_trichotomy k (posS l e) with hlt | heq | hgt
    · exfalso
      have a := h1 k (by omega) (Nat.le_refl _)
      have b := pos_lt hlt (by omega : k < l.length)
      unfold ltE at a b; omega
    · exact heq
    · exfalso
      rcases h2 with h2 | ⟨hk1, h2⟩
      · omega
      · exact h2 (ltE_tri (hne _ (List.getElem_mem _)) (pos_ge hs (by omega) hk1))
  subst this
  exact h
end E19

namespace E19
open Go Go.Proofs VL E18 E26
set_option pp.maxSteps 1200
set_option linter.unusedSimpArgs false
set_option linter.unusedVariables false
set_option maxRecDepth 100000

theorem c_cloneB (l : List Ev) (sp : List V) (hn : l ≠ []) (hl : l.length < 90000) (K) (h : ∀ sp', C5 sp' → K (.ret (.slo 1 5 0 l.length (l.length + sp'.length))) [.buf false 5 (eL l ++ sp), .buf false 5 (eL l ++ sp')]) :
    VCall Try.prog 70 [.slo 0 5 0 l.length (l.length + sp.length)] [.buf false 5 (eL l ++ sp)] K := by
  have hlen := eL_len l
  have hL : (eL l ++ sp).length = l.length + sp.length := by rw [List.length_append, hlen]
  have htk : List.take l.length (List.drop 0 (eL l ++ sp)) = eL l := by rw [List.drop_zero, List.take_left' hlen]
  have hpos := List.length_pos_iff.2 hn
  refine call_fun [7] 1 Try.func70 (by rfl) (by rfl) ?_
  conv => whnf
  repeat (refine step_go [7] ?_; conv => whnf)
  intro b hb; conv => whnf
  cases b
  · conv => whnf
    repeat (refine step_go [7] ?_; conv => whnf)
    refine ⟨by omega, ?_⟩
    rw [htk]; conv => whnf
    refine ⟨by rw [hlen]; show l.length * 40 ≤ _; omega, eL_cells, fun sp' _ hsp' => ?_⟩; conv => whnf
    repeat (refine step_go [7] ?_; conv => whnf)
    rw [hlen]
    exact h sp' hsp'
  · have := hb rfl
    omega

theorem c_mclone1 (ks : List (Int × Ev)) (K) (h : K (.ret (.mp 1)) [.map (kV ks), .map (kV ks)]) : VCall Try.prog 72 [.mp 0] [.map (kV ks)] K := by
  refine call_fun [] 1 Try.func72 (by rfl) (by rfl) ?_
  conv => whnf
  repeat (refine step_go [] ?_; conv => whnf)
  refine VL.c_clone Try.func81 (by rfl) (by rfl) (by kernel_rfl) (by kernel_rfl) ?_; conv => whnf
  repeat (refine step_go [] ?_; conv => whnf)
  exact h
theorem c_mclone2 (gs : List (Int × Bool)) (K) (h : K (.ret (.mp 1)) [.map (gV gs), .map (gV gs)]) : VCall Try.prog 73 [.mp 0] [.map (gV gs)] K := by
  refine call_fun [] 1 Try.func73 (by rfl) (by rfl) ?_
  conv => whnf
  repeat (refine step_go [] ?_; conv => whnf)
  refine VL.c_clone Try.func81 (by rfl) (by rfl) (by kernel_rfl) (by kernel_rfl) ?_; conv => whnf
  repeat (refine step_go [] ?_; conv => whnf)
  exact h

theorem c_fork (B : Bk) (sp : List V) (hn : B.l ≠ []) (hl : B.l.length < 90000) (K)
    (h : ∀ sp', C5 sp' → K (.ret (.ptr 4 0)) (B.obj sp false ++ [.cells true 95 [.slo 5 5 0 B.l.length (B.l.length + sp'.length), .mp 6, .mp 7, .int .i64 B.paid], .buf false 5 (eL B.l ++ sp'), .map (kV B.ks), .map (gV B.gs)])) :
    VCall Try.prog 48 [.ptr 0 0] (B.obj sp false) K := by
  obtain ⟨l, ks, gs, paid⟩ := B
  simp only at hn hl
  refine call_fun [] 4 Try.func48 (by rfl) (by rfl) ?_
  conv => whnf
  repeat (refine step_go [] ?_; conv => whnf)
  refine ⟨by decide +kernel, ?_⟩; conv => whnf
  refine c_cloneB l sp hn hl _ fun sp' hsp' => ?_; conv => whnf
  repeat (refine And.intro rfl ?_; conv => whnf)
  refine c_mclone1 ks _ ?_; conv => whnf
  repeat (refine And.intro rfl ?_; conv => whnf)
  refine c_mclone2 gs _ ?_; conv => whnf
  repeat (refine And.intro rfl ?_; conv => whnf)
  repeat (refine step_go [] ?_; conv => whnf)
  exact h sp' hsp'
end E19

namespace E19
open Go Go.Proofs VL E18 E26
set_option pp.maxSteps 1200
set_option linter.unusedSimpArgs false
set_option linter.unusedVariables false
set_option maxRecDepth 100000

theorem amt_ex (a : Int) : ∃ n : Int, IntKind.i64.wrap (1 + IntKind.i64.wrap ((IntKind.u64.wrap a).tmod 100000000)) = n ∧ 1 ≤ n ∧ n ≤ 100000000 := by
  have h0 : 0 ≤ IntKind.u64.wrap a := by
    have : IntKind.u64.wrap a = a % 18446744073709551616 := by unfold IntKind.wrap; simp [IntKind.bits, IntKind.signed]
    rw [this]; omega
  have h1 : (IntKind.u64.wrap a).tmod 100000000 = IntKind.u64.wrap a % 100000000 := Int.tmod_eq_emod_of_nonneg h0
  rw [h1, wrap64 (x := IntKind.u64.wrap a % 100000000) (by omega) (by omega), wrap64 (by omega) (by omega)]
  exact ⟨_, rfl, by omega, by omega⟩

def fst0 (n : Int) : Ev := ⟨1, 1, 19723, n, 0⟩

theorem c_raw (a : Int) (l : List Ev) (most : Nat) (hm : most ≤ 1000) (hm0 : 1 ≤ most) (days : Int) (hd0 : 0 ≤ days) (hd1 : days < 1000000) (K) (h : ∀ R : List Ev, R.length ≤ most → (∃ n r, 1 ≤ n ∧ n ≤ 100000000 ∧ R = fst0 n :: r) → K (.ret (.sl (eL R) .no)) []) (hl : l.length < 4611686018427387904) :
    VCall Try.prog 44 [.int .i64 a, .sl (eL l) .no, .int .i64 days, .int .i64 most] [] K := by
  have hlen := eL_len l
  refine call_fun [] 0 Try.func44 (by rfl) (by rfl) ?_
  conv => whnf
  repeat (refine step_go [] ?_; conv => whnf)
  refine ⟨by decide, ?_⟩; conv => whnf
  obtain ⟨n, hn, hn1, hn2⟩ := amt_ex a
  rw [hn]
  repeat (refine step_go [] ?_; conv => whnf)
  let S : Nat × List Ev → St := fun ⟨i, acc⟩ => ⟨(.undef :: .sl (eL l) .no :: .int .i64 days :: .int .i64 most :: .undef :: .undef :: .undef :: .undef :: .sl [] .ex :: .sl (eL acc) (.tok 0 5) :: .int .i64 (i : Nat) :: .undef :: .undef :: .undef :: .undef :: .undef :: .undef :: .undef :: .undef :: .undef :: .undef :: .undef :: .undef :: .undef :: .undef :: .undef :: .undef :: .undef :: .undef :: .undef :: .undef :: .undef :: .undef :: .undef :: .undef :: .undef :: .undef :: .undef :: .undef :: .undef :: .undef :: .undef :: .undef :: .undef :: .undef :: .undef :: .undef :: .undef :: .undef :: .undef :: .undef :: .undef :: .undef :: .undef :: .undef :: .undef :: .undef :: .undef :: .undef :: []), [], 1, []⟩
  refine VLoop.enter (s' := S (0, [fst0 n])) (Weak.trans (weak_room (i := 9) (sz := 5) rfl (by decide) (by simp [V.cells])) (weak_of ?_ .nil rfl rfl rfl))
    (VLoop.indW S (fun x => l.length - x.1) (fun x => x.1 ≤ l.length ∧ x.2.length ≤ most ∧ ∃ r, x.2 = fst0 n :: r) ?_ (0, [fst0 n]) ⟨by simp, by simpa using hm0, [], rfl⟩)
  · repeat' first
      | exact VWs.nil
      | refine VWs.cons VW.undef ?_
      | refine VWs.cons (VW.eq rfl) ?_
  · rintro ⟨i, acc⟩ ⟨hi, hacc, r, hr⟩ ih
    simp only at hi hacc hr
    have hal := eL_len acc
    refine loop_round [] ?_; conv => whnf
    repeat (refine step_go [] ?_; conv => whnf)
    refine two (fun g => ?_) (fun g => ?_)
    · have hil : i < l.length := by simp [hlen] at g; omega
      conv => whnf
      repeat (refine step_go [] ?_; conv => whnf)
      refine two (fun g2 => ?_) (fun g2 => ?_)
      · have ham : acc.length < most := by simp [hal] at g2; omega
        have hw1 : IntKind.i64.wrap (days + 1) = days + 1 := wrap64 (by omega) (by omega)
        have hend : ∀ e : Ev, VLoop Try.prog 0 _ (S (i + 1, acc ++ [e])) _ := fun e => ih (i + 1, acc ++ [e]) ⟨by simp only; omega, by simp; omega, r ++ [e], by rw [hr]; rfl⟩ (by simp only; omega)
        conv => whnf
        repeat (refine step_go [] ?_; conv => whnf)
        refine ⟨by omega, _, get_at hil, rfl, ?_⟩; conv => whnf
        repeat (refine step_go [] ?_; conv => whnf)
        refine two (fun g3 => ?_) (fun g3 => ?_)
        · conv => whnf
          repeat (refine step_go [] ?_; conv => whnf)
          refine two (fun g4 => ?_) (fun g4 => ?_)
          · conv => whnf
            repeat (refine step_go [] ?_; conv => whnf)
            refine ⟨by rw [hw1, wrapU64 (by omega) (by omega)]; omega, ?_⟩; conv => whnf
            repeat (refine step_go [] ?_; conv => whnf)
            refine ⟨by rw [hal]; simp; omega, by simp [V.cells, encE], ?_⟩; conv => whnf
            repeat (refine step_go [] ?_; conv => whnf)
            refine weak_sel (src := []) ?_; conv => whnf
            let e' : Ev := ⟨l[i].key, l[i].kind, IntKind.i64.wrap (19720 + IntKind.i64.wrap ((IntKind.u64.wrap l[i].day).tmod (IntKind.u64.wrap (IntKind.i64.wrap (days + 1))))), l[i].amount, l[i].ref⟩
            refine VLoop.enter (s' := S (i + 1, acc ++ [e'])) (weak_of ?_ .nil rfl rfl rfl) (hend e')
            have e3 : eL acc ++ [encE e'] = eL (acc ++ [e']) := by simp [eL]
            repeat' first
              | exact VWs.nil
              | refine VWs.cons VW.undef ?_
              | refine VWs.cons (VW.eq rfl) ?_
              | refine VWs.cons (VW.eq (congrArg (fun x => V.sl x (.tok 0 5)) e3)) ?_
              | refine VWs.cons (VW.eq (congrArg (V.int .i64) (by rw [wrap64 (by omega) (by omega)]; omega))) ?_
          · conv => whnf
            repeat (refine step_go [] ?_; conv => whnf)
            refine ⟨by rw [hal]; simp; omega, by simp [V.cells, encE], ?_⟩; conv => whnf
            repeat (refine step_go [] ?_; conv => whnf)
            refine weak_sel (src := []) ?_; conv => whnf
            refine VLoop.enter (s' := S (i + 1, acc ++ [l[i]])) (weak_of ?_ .nil rfl rfl rfl) (hend l[i])
            have e3 : ∀ e : Ev, eL acc ++ [encE e] = eL (acc ++ [e]) := fun e => by simp [eL]
            repeat' first
              | exact VWs.nil
              | refine VWs.cons VW.undef ?_
              | refine VWs.cons (VW.eq rfl) ?_
              | refine VWs.cons (VW.eq (congrArg (fun x => V.sl x (.tok 0 5)) (e3 l[i]))) ?_
              | refine VWs.cons (VW.eq (congrArg (V.int .i64) (by rw [wrap64 (by omega) (by omega)]; omega))) ?_
        · conv => whnf
          repeat (refine step_go [] ?_; conv => whnf)
          refine ⟨by rw [hal]; simp; omega, by simp [V.cells, encE], ?_⟩; conv => whnf
          repeat (refine step_go [] ?_; conv => whnf)
          refine weak_sel (src := []) ?_; conv => whnf
          refine VLoop.enter (s' := S (i + 1, acc ++ [l[i]])) (weak_of ?_ .nil rfl rfl rfl) (hend l[i])
          have e3 : ∀ e : Ev, eL acc ++ [encE e] = eL (acc ++ [e]) := fun e => by simp [eL]
          repeat' first
            | exact VWs.nil
            | refine VWs.cons VW.undef ?_
            | refine VWs.cons (VW.eq rfl) ?_
            | refine VWs.cons (VW.eq (congrArg (fun x => V.sl x (.tok 0 5)) (e3 l[i]))) ?_
            | refine VWs.cons (VW.eq (congrArg (V.int .i64) (by rw [wrap64 (by omega) (by omega)]; omega))) ?_
      · conv => whnf
        refine ⟨_, Weak.refl, ?_⟩; conv => whnf
        repeat (refine step_go [] ?_; conv => whnf)
        exact h acc hacc ⟨n, r, hn1, hn2, hr⟩
    · conv => whnf
      repeat (refine step_go [] ?_; conv => whnf)
      refine ⟨_, Weak.refl, ?_⟩; conv => whnf
      repeat (refine step_go [] ?_; conv => whnf)
      exact h acc hacc ⟨n, r, hn1, hn2, hr⟩
end E19

namespace E19
open Go Go.Proofs VL E18 E26
set_option linter.unusedSimpArgs false
set_option linter.unusedVariables false
set_option maxRecDepth 100000

/-- events that are let in, one behind the other -/
structure EvInv (R : List Ev) : Prop where
  srt : Srt R
  uniq : Uniq R
  chk : ∀ x ∈ R, checkS x = 0
  head : ∃ f r, R = f :: r ∧ f.kind = 1 ∧ ∀ x ∈ r, x.kind ≠ 1
  refs : ∀ x ∈ R, x.kind = 5 → ∃ y ∈ R, y.key = x.ref ∧ y.kind = 2
  dist : ∀ x ∈ R, ∀ y ∈ R, x.kind = 5 → y.kind = 5 → x.ref = y.ref → x = y

theorem uniq_eq {l : List Ev} (hu : Uniq l) {x y : Ev} (hx : x ∈ l) (hy : y ∈ l) (h : x.key = y.key) : x = y := by
  have a := rGet_of hu hx
  have b := rGet_of hu hy
  rw [h, b] at a
  exact (Option.some.inj a).symm

theorem ltE_asym {a b : Ev} (h : ltE a b) : ¬ ltE b a := by unfold ltE at *; omega

theorem EvInv.fst {R : List Ev} (h : EvInv R) : ∃ f, rFst R = some f ∧ f ∈ R ∧ f.kind = 1 ∧ ∀ x ∈ R, x = f ∨ ltE f x ∧ x.kind ≠ 1 := by
  obtain ⟨f, r, rfl, h1, h2⟩ := h.head
  refine ⟨f, ?_, by simp, h1, fun x hx => ?_⟩
  · unfold rFst; rw [List.find?_cons]; simp [h1]
  · have := List.pairwise_cons.1 h.srt
    rcases List.mem_cons.1 hx with rfl | hx
    · exact .inl rfl
    · exact .inr ⟨this.1 x hx, h2 x hx⟩

theorem EvInv.put {R : List Ev} (h : EvInv R) {e : Ev} (ok : Ok R e) : EvInv (insS R (posS R e) e) := by
  obtain ⟨f, hf, hfR, hf1, hall⟩ := h.fst
  have hne := rGet_none.1 ok.new
  have he1 : e.kind ≠ 1 := ok.once.1 (by rw [hf]; rfl)
  refine ⟨srt_ins h.srt ok.new, uniq_ins h.uniq ok.new, fun x hx => ?_, ?_, fun x hx hk => ?_, fun x hx y hy hx5 hy5 hr => ?_⟩
  · rcases mem_ins.1 hx with rfl | hx
    · exact ok.chk
    · exact h.chk x hx
  · obtain ⟨f', r, rfl, h1, h2⟩ := h.head
    have hff : f' = f := by
      unfold rFst at hf; rw [List.find?_cons] at hf; simpa [h1] using hf
    subst hff
    have hlt : ltE f' e := ltE_tri (Ne.symm (hne f' (by simp))) (ok.early f' hf)
    have hp : posS (f' :: r) e = posS r e + 1 := by
      unfold posS; rw [List.takeWhile_cons_of_pos (by simpa using hlt)]; rfl
    refine ⟨f', insS r (posS r e) e, by rw [hp]; simp [insS], h1, fun x hx => ?_⟩
    rcases mem_ins.1 hx with rfl | hx
    · exact he1
    · exact h2 x hx
  · rcases mem_ins.1 hx with rfl | hx
    · obtain ⟨⟨y, hy, hy2⟩, _⟩ := ok.ref hk
      obtain ⟨a, b⟩ := rGet_mem hy
      exact ⟨y, mem_ins.2 (.inr a), b, hy2⟩
    · obtain ⟨y, hy, a⟩ := h.refs x hx hk
      exact ⟨y, mem_ins.2 (.inr hy), a⟩
  · rcases mem_ins.1 hx with ex | hx' <;> rcases mem_ins.1 hy with ey | hy'
    · rw [ex, ey]
    · subst ex
      have := (ok.ref hx5).2
      have h3 := (rRev_iff (l := R)).2 ⟨y, hy', hy5, hr.symm⟩
      rw [this] at h3; cases h3
    · subst ey
      have := (ok.ref hy5).2
      have h3 := (rRev_iff (l := R)).2 ⟨x, hx', hx5, hr⟩
      rw [this] at h3; cases h3
    · exact h.dist x hx' y hy' hx5 hy5 hr

theorem EvInv.one {n : Int} (h1 : 1 ≤ n) (h2 : n ≤ 100000000) : EvInv [fst0 n] := by
  have hc : checkS (fst0 n) = 0 := by
    unfold checkS withinS fst0
    simp only
    rw [show (decide ((1 : Int) ≤ 1) && decide ((1 : Int) ≤ 5)) = true by decide, show (decide ((1 : Int) ≤ 1) && decide ((1 : Int) ≤ 1000000)) = true by decide, show (decide ((-25567 : Int) ≤ 19723) && decide ((19723 : Int) ≤ 84370)) = true by decide]
    have h3 : (decide ((1 : Int) ≤ n) && decide (n ≤ 10000000000000)) = true := by simp; omega
    simp [h3]
  refine ⟨List.pairwise_singleton _ _, List.pairwise_singleton _ _, by simpa using hc, ⟨fst0 n, [], rfl, rfl, by simp⟩, ?_, ?_⟩
  · intro x hx hk; simp at hx; subst hx; simp [fst0] at hk
  · intro x hx y hy _ _ _; simp at hx hy; rw [hx, hy]

theorem nodup_of_uniq {l : List Ev} (h : Uniq l) : l.Nodup := h.imp fun hk e => hk (by rw [e])

/-- sorted lists of the same things are the same -/
theorem srt_eq : ∀ {l m : List Ev}, Srt l → Srt m → (∀ x, x ∈ l ↔ x ∈ m) → l = m
  | [], [], _, _, _ => rfl
  | [], y :: m, _, _, h => by have := (h y).2 (by simp); simp at this
  | x :: l, [], _, _, h => by have := (h x).1 (by simp); simp at this
  | x :: l, y :: m, h1, h2, h => by
    have a1 := List.pairwise_cons.1 h1
    have a2 := List.pairwise_cons.1 h2
    have irr : ∀ z : Ev, ¬ ltE z z := fun z => by unfold ltE; omega
    have hxy : x = y := by
      rcases List.mem_cons.1 ((h x).1 (by simp)) with e | hx
      · exact e
      · rcases List.mem_cons.1 ((h y).2 (by simp)) with e | hy
        · exact e.symm
        · exact absurd (a1.1 y hy) (ltE_asym (a2.1 x hx))
    subst hxy
    congr 1
    refine srt_eq a1.2 a2.2 fun z => ?_
    constructor
    · intro hz
      rcases List.mem_cons.1 ((h z).1 (by simp [hz])) with rfl | hz'
      · exact absurd (a1.1 z hz) (irr z)
      · exact hz'
    · intro hz
      rcases List.mem_cons.1 ((h z).2 (by simp [hz])) with rfl | hz'
      · exact absurd (a2.1 z hz) (irr z)
      · exact hz'

/-- a part of them is in; another one may come in -/
theorem sub_ok {R l : List Ev} (h : EvInv R) (hlen : R.length ≤ 4096) (hu : Uniq l) (hsub : ∀ x ∈ l, x ∈ R) {e : Ev} (he : e ∈ R) (hn : e ∉ l) (h1 : e.kind ≠ 1 → ∃ f ∈ l, f.kind = 1)
    (h5 : e.kind = 5 → ∀ y ∈ R, y.kind = 2 → y ∈ l) : Ok l e := by
  obtain ⟨f, hf, hfR, hf1, hall⟩ := h.fst
  have hf0 : ∀ x ∈ R, x.kind = 1 → x = f := fun x hx hk => by
    rcases hall x hx with e | ⟨_, h2⟩
    · exact e
    · exact absurd hk h2
  have hnew : rGet l e.key = none := rGet_none.2 fun x hx hk => hn (by have := uniq_eq h.uniq (hsub x hx) he hk; rwa [this] at hx)
  have hlt : l.length < R.length := by
    have h2 : (e :: l).Nodup := List.nodup_cons.2 ⟨hn, nodup_of_uniq hu⟩
    have := List.Nodup.length_le_of_subset h2 (l₂ := R) fun x hx => by
      rcases List.mem_cons.1 hx with rfl | hx
      · exact he
      · exact hsub x hx
    simp only [List.length_cons] at this
    omega
  refine ⟨h.chk e he, hnew, by omega, fun hk => ⟨?_, ?_⟩, ?_, fun x hx => ?_⟩
  · obtain ⟨y, hy, hyk, hy2⟩ := h.refs e he hk
    have hyl := h5 hk y hy hy2
    exact ⟨y, by rw [← hyk]; exact rGet_of hu hyl, hy2⟩
  · cases hr : rRev l e.ref with
    | false => rfl
    | true =>
      obtain ⟨x, hx, hx5, hxr⟩ := rRev_iff.1 hr
      have := h.dist x (hsub x hx) e he hx5 hk hxr
      subst this
      exact absurd hx hn
  · constructor
    · intro hs hk
      obtain ⟨x, hx⟩ := Option.isSome_iff_exists.1 hs
      obtain ⟨a, b⟩ := rFst_some hx
      rw [hf0 x (hsub x a) b, ← hf0 e he hk] at a
      exact hn a
    · intro hk
      obtain ⟨g, hg, hg1⟩ := h1 hk
      cases hh : rFst l with
      | none => exact absurd hg1 (rFst_none.1 hh g hg)
      | some x => rfl
  · obtain ⟨a, b⟩ := rFst_some hx
    rw [hf0 x (hsub x a) b]
    rcases hall e he with rfl | ⟨h2, _⟩
    · unfold ltE; omega
    · exact ltE_asym h2

theorem len_sub {R l : List Ev} (hu : Uniq l) (hsub : ∀ x ∈ l, x ∈ R) : l.length ≤ R.length := List.Nodup.length_le_of_subset (nodup_of_uniq hu) hsub

/-- what is told of what is there already -/
theorem may_there {B : Bk} (g : Good B) {e : Ev} (he : e ∈ B.l) : B.may e = (false, 0) := by
  rw [may_eq g]
  unfold rMay
  rw [if_neg (by simp [g.chk e he]), rGet_of g.uniq he]
  have h1 : (some e).isSome = true := rfl
  have h2 : evEq ((some e).getD zeroE) e = true := evEq_iff.2 rfl
  rw [if_pos h1, if_pos h2]

theorem may_in {B : Bk} (g : Good B) {e : Ev} (ok : Ok B.l e) : B.may e = (true, 0) := by
  have h1 : (B.may e).1 = true := by rw [may_eq g]; exact rMay_true.2 ok
  rcases hm : B.may e with ⟨b, x⟩
  rw [hm] at h1
  simp only at h1
  subst h1
  have := may_zero (l := B.l) (ks := B.ks) (gs := B.gs) (paid := B.paid) hm
  rw [this]

theorem put_mem {B : Bk} (g : Good B) {e : Ev} (ok : Ok B.l e) (x : Ev) : x ∈ (B.put e).l ↔ x = e ∨ x ∈ B.l := by
  rw [put_yes (by rw [may_in g ok])]
  exact mem_ins
end E19

namespace E19
open Go Go.Proofs VL E18 E26
set_option pp.maxSteps 1200
set_option linter.unusedSimpArgs false
set_option linter.unusedVariables false
set_option maxRecDepth 100000

theorem rMay_ok {l : List Ev} {e : Ev} {x : Int} (h : rMay l e = (true, x)) : Ok l e ∧ x = 0 := by
  have h1 : Ok l e := rMay_true.1 (by rw [h])
  refine ⟨h1, ?_⟩
  unfold rMay at h
  repeat' split at h
  all_goals simp at h
  exact h.symm

set_option maxHeartbeats 4000000 in
theorem c_events (a : Int) (l : List Ev) (most : Nat) (hm : most ≤ 1000) (hm0 : 1 ≤ most) (days : Int) (hd0 : 0 ≤ days) (hd1 : days < 1000000) (K) (h : ∀ R : List Ev, EvInv R → R.length ≤ most → K (.ret (.sl (eL R) .no)) []) (hl : l.length < 4611686018427387904) :
    VCall Try.prog 37 [.int .i64 a, .sl (eL l) .no, .int .i64 days, .int .i64 most] [] K := by
  have hlen := eL_len l
  refine VCall.weak (call_fun [] 0 Try.func37 (by rfl) (by rfl) ?_)
  conv => whnf
  repeat (refine step_go [] ?_; conv => whnf)
  refine ⟨by decide, ?_⟩; conv => whnf
  obtain ⟨n, hn, hn1, hn2⟩ := amt_ex a
  rw [hn]
  repeat (refine step_go [] ?_; conv => whnf)
  let S : Nat × List Ev → St := fun ⟨i, R⟩ => ⟨(.undef :: .sl (eL l) .no :: .int .i64 days :: .int .i64 most :: .undef :: .undef :: .undef :: .undef :: .sl [] .ex :: .sl (eL R) .no :: .int .i64 (i : Nat) :: .undef :: .undef :: .undef :: .undef :: .undef :: .undef :: .undef :: .undef :: .undef :: .undef :: .undef :: .undef :: .undef :: .undef :: .undef :: .undef :: .undef :: .undef :: .undef :: .undef :: .undef :: .undef :: .undef :: .undef :: .undef :: .undef :: .undef :: .undef :: .undef :: .undef :: .undef :: .undef :: .undef :: .undef :: .undef :: .undef :: .undef :: .undef :: .undef :: .undef :: .undef :: .undef :: .undef :: .undef :: .undef :: .undef :: .undef :: .undef :: .undef :: .undef :: .undef :: .undef :: .undef :: .undef :: .undef :: .undef :: .undef :: .undef :: .undef :: .undef :: .undef :: .undef :: .undef :: .undef :: .undef :: .undef :: .undef :: []), [], 0, []⟩
  refine VLoop.enter (s' := S (0, [fst0 n])) (weak_of ?_ .nil rfl rfl rfl)
    (VLoop.indW S (fun x => l.length - x.1) (fun x => x.1 ≤ l.length ∧ x.2.length ≤ most ∧ EvInv x.2) ?_ (0, [fst0 n]) ⟨by simp, by simpa using hm0, EvInv.one hn1 hn2⟩)
  · repeat' first
      | exact VWs.nil
      | refine VWs.cons VW.undef ?_
      | refine VWs.cons (VW.eq rfl) ?_
      | refine VWs.cons VW.no ?_
  · rintro ⟨i, R⟩ ⟨hi, hR, hI⟩ ih
    simp only at hi hR hI
    have hRl := eL_len R
    refine loop_round [] ?_; conv => whnf
    repeat (refine step_go [] ?_; conv => whnf)
    refine two (fun g => ?_) (fun g => ?_)
    · have hil : i < l.length := by simp [hlen] at g; omega
      conv => whnf
      repeat (refine step_go [] ?_; conv => whnf)
      refine two (fun g2 => ?_) (fun g2 => ?_)
      · have ham : R.length < most := by simp [hRl] at g2; omega
        have hw1 : IntKind.i64.wrap (days + 1) = days + 1 := wrap64 (by omega) (by omega)
        have hsame : VLoop Try.prog 0 _ (S (i + 1, R)) _ := ih (i + 1, R) ⟨by simp only; omega, hR, hI⟩ (by simp only; omega)
        have hput : ∀ e : Ev, Ok R e → VLoop Try.prog 0 _ (S (i + 1, insS R (posS R e) e)) _ := fun e ok => ih (i + 1, insS R (posS R e) e) ⟨by simp only; omega, by simp only; rw [insS_len (pos_le _ _)]; omega, hI.put ok⟩ (by simp only; omega)
        conv => whnf
        repeat (refine step_go [] ?_; conv => whnf)
        refine ⟨by omega, _, get_at hil, rfl, ?_⟩; conv => whnf
        repeat (refine step_go [] ?_; conv => whnf)
        refine ⟨by rw [hw1, wrapU64 (by omega) (by omega)]; omega, ?_⟩; conv => whnf
        repeat (refine step_go [] ?_; conv => whnf)
        refine two (fun g3 => ?_) (fun g3 => ?_)
        · conv => whnf
          repeat (refine step_go [] ?_; conv => whnf)
          refine two (fun g4 => ?_) (fun g4 => ?_)
          · conv => whnf
            repeat (refine step_go [] ?_; conv => whnf)
            refine ⟨by decide, ?_⟩; conv => whnf
            repeat (refine step_go [] ?_; conv => whnf)
            let e' : Ev := ⟨l[i].key, l[i].kind, IntKind.i64.wrap (19723 + IntKind.i64.wrap ((IntKind.u64.wrap l[i].day).tmod (IntKind.u64.wrap (IntKind.i64.wrap (days + 1))))), IntKind.i64.wrap (1 + IntKind.i64.wrap ((IntKind.u64.wrap l[i].amount).tmod 30000000)), l[i].ref⟩
            rcases hm' : rMay R e' with ⟨b, x⟩
            refine c_rmay R e' (by omega) _ ?_
            rw [hm']; conv => whnf
            repeat (refine step_go [] ?_; conv => whnf)
            cases b
            · conv => whnf
              repeat (refine step_go [] ?_; conv => whnf)
              refine weak_sel (src := []) ?_; conv => whnf
              refine VLoop.enter (s' := S (i + 1, R)) (weak_of ?_ .nil rfl rfl rfl) hsame
              repeat' first
                | exact VWs.nil
                | refine VWs.cons VW.undef ?_
                | refine VWs.cons (VW.eq rfl) ?_
                | refine VWs.cons (VW.eq (congrArg (V.int .i64) (by rw [wrap64 (by omega) (by omega)]; omega))) ?_
            · obtain ⟨ok, hx⟩ := rMay_ok hm'
              subst hx
              conv => whnf
              repeat (refine step_go [] ?_; conv => whnf)
              refine c_rput' R e' hI.srt ok.new (by omega) _ ?_; conv => whnf
              repeat (refine step_go [] ?_; conv => whnf)
              refine weak_sel (src := []) ?_; conv => whnf
              refine VLoop.enter (s' := S (i + 1, insS R (posS R e') e')) (weak_of ?_ .nil rfl rfl rfl) (hput e' ok)
              repeat' first
                | exact VWs.nil
                | refine VWs.cons VW.undef ?_
                | refine VWs.cons (VW.eq rfl) ?_
                | refine VWs.cons (VW.eq (congrArg (V.int .i64) (by rw [wrap64 (by omega) (by omega)]; omega))) ?_
          · conv => whnf
            repeat (refine step_go [] ?_; conv => whnf)
            let e' : Ev := ⟨l[i].key, l[i].kind, IntKind.i64.wrap (19723 + IntKind.i64.wrap ((IntKind.u64.wrap l[i].day).tmod (IntKind.u64.wrap (IntKind.i64.wrap (days + 1))))), l[i].amount, l[i].ref⟩
            rcases hm' : rMay R e' with ⟨b, x⟩
            refine c_rmay R e' (by omega) _ ?_
            rw [hm']; conv => whnf
            repeat (refine step_go [] ?_; conv => whnf)
            cases b
            · conv => whnf
              repeat (refine step_go [] ?_; conv => whnf)
              refine weak_sel (src := []) ?_; conv => whnf
              refine VLoop.enter (s' := S (i + 1, R)) (weak_of ?_ .nil rfl rfl rfl) hsame
              repeat' first
                | exact VWs.nil
                | refine VWs.cons VW.undef ?_
                | refine VWs.cons (VW.eq rfl) ?_
                | refine VWs.cons (VW.eq (congrArg (V.int .i64) (by rw [wrap64 (by omega) (by omega)]; omega))) ?_
            · obtain ⟨ok, hx⟩ := rMay_ok hm'
              subst hx
              conv => whnf
              repeat (refine step_go [] ?_; conv => whnf)
              refine c_rput' R e' hI.srt ok.new (by omega) _ ?_; conv => whnf
              repeat (refine step_go [] ?_; conv => whnf)
              refine weak_sel (src := []) ?_; conv => whnf
              refine VLoop.enter (s' := S (i + 1, insS R (posS R e') e')) (weak_of ?_ .nil rfl rfl rfl) (hput e' ok)
              repeat' first
                | exact VWs.nil
                | refine VWs.cons VW.undef ?_
                | refine VWs.cons (VW.eq rfl) ?_
                | refine VWs.cons (VW.eq (congrArg (V.int .i64) (by rw [wrap64 (by omega) (by omega)]; omega))) ?_
        · conv => whnf
          repeat (refine step_go [] ?_; conv => whnf)
          let e' : Ev := ⟨l[i].key, l[i].kind, IntKind.i64.wrap (19723 + IntKind.i64.wrap ((IntKind.u64.wrap l[i].day).tmod (IntKind.u64.wrap (IntKind.i64.wrap (days + 1))))), l[i].amount, l[i].ref⟩
          rcases hm' : rMay R e' with ⟨b, x⟩
          refine c_rmay R e' (by omega) _ ?_
          rw [hm']; conv => whnf
          repeat (refine step_go [] ?_; conv => whnf)
          cases b
          · conv => whnf
            repeat (refine step_go [] ?_; conv => whnf)
            refine weak_sel (src := []) ?_; conv => whnf
            refine VLoop.enter (s' := S (i + 1, R)) (weak_of ?_ .nil rfl rfl rfl) hsame
            repeat' first
              | exact VWs.nil
              | refine VWs.cons VW.undef ?_
              | refine VWs.cons (VW.eq rfl) ?_
              | refine VWs.cons (VW.eq (congrArg (V.int .i64) (by rw [wrap64 (by omega) (by omega)]; omega))) ?_
          · obtain ⟨ok, hx⟩ := rMay_ok hm'
            subst hx
            conv => whnf
            repeat (refine step_go [] ?_; conv => whnf)
            refine c_rput' R e' hI.srt ok.new (by omega) _ ?_; conv => whnf
            repeat (refine step_go [] ?_; conv => whnf)
            refine weak_sel (src := []) ?_; conv => whnf
            refine VLoop.enter (s' := S (i + 1, insS R (posS R e') e')) (weak_of ?_ .nil rfl rfl rfl) (hput e' ok)
            repeat' first
              | exact VWs.nil
              | refine VWs.cons VW.undef ?_
              | refine VWs.cons (VW.eq rfl) ?_
              | refine VWs.cons (VW.eq (congrArg (V.int .i64) (by rw [wrap64 (by omega) (by omega)]; omega))) ?_
      · conv => whnf
        refine ⟨_, Weak.refl, ?_⟩; conv => whnf
        repeat (refine step_go [] ?_; conv => whnf)
        exact ⟨_, _, Weak.refl, h R hI hR⟩
    · conv => whnf
      repeat (refine step_go [] ?_; conv => whnf)
      refine ⟨_, Weak.refl, ?_⟩; conv => whnf
      repeat (refine step_go [] ?_; conv => whnf)
      exact ⟨_, _, Weak.refl, h R hI hR⟩
end E19

namespace E19
open Go Go.Proofs VL E18 E26
set_option pp.maxSteps 1200
set_option linter.unusedSimpArgs false
set_option linter.unusedVariables false
set_option maxRecDepth 100000

theorem c_in (l : List Ev) (e : Ev) (he : e ∈ l) (hl : l.length < 1000000) (K) (h : K (.ret (.bool true)) []) : VCall Try.prog 42 [.sl (eL l) .no, encE e] [] K := by
  have hlen := eL_len l
  refine call_fun [] 0 Try.func42 (by rfl) (by rfl) ?_
  conv => whnf
  repeat (refine step_go [] ?_; conv => whnf)
  let S : Nat → St := fun i => ⟨(.sl (eL l) .no :: .undef :: .undef :: .ptr 0 0 :: .bool false :: .int .i64 (i : Nat) :: .undef :: .undef :: .undef :: .undef :: .undef :: .undef :: .undef :: .undef :: .undef :: .undef :: .undef :: .undef :: []), [.cells true 23 [.int .i64 e.key, .int .i64 e.kind, .int .i64 e.day, .int .i64 e.amount, .int .i64 e.ref]], 0, []⟩
  refine VLoop.enter (s' := S 0) (weak_of ?_ (.cons (.eq rfl) .nil) rfl rfl rfl) (VLoop.indW S (fun i => l.length - i) (fun i => i ≤ l.length ∧ e ∈ l.drop i) ?_ 0 ⟨by omega, by simpa using he⟩)
  · repeat' first
      | exact VWs.nil
      | refine VWs.cons VW.undef ?_
      | refine VWs.cons (VW.eq rfl) ?_
  · rintro i ⟨hi, hv⟩ ih
    have hil : i < l.length := by
      rcases Nat.lt_or_ge i l.length with h | h
      · exact h
      · rw [List.drop_of_length_le h] at hv; cases hv
    rw [List.drop_eq_getElem_cons hil] at hv
    refine loop_round [] ?_; conv => whnf
    repeat (refine step_go [] ?_; conv => whnf)
    refine yes (by simp [hlen]; exact hil) ?_; conv => whnf
    repeat (refine step_go [] ?_; conv => whnf)
    refine ⟨by decide +kernel, ?_⟩; conv => whnf
    refine ⟨by omega, _, get_at hil, rfl, ?_⟩; conv => whnf
    rw [flat_ev]; conv => whnf
    repeat (refine step_go [] ?_; conv => whnf)
    refine two (fun g => ?_) (fun g => ?_)
    · conv => whnf
      repeat' first
        | (refine step_go [] ?_; conv => whnf)
        | (refine ⟨_, Weak.refl, ?_⟩; conv => whnf)
      exact h
    · have hne : evEq l[i] e = false := by unfold evEq; exact g
      have hv2 : e ∈ l.drop (i + 1) := by
        rcases List.mem_cons.1 hv with h2 | h2
        · rw [h2, evEq_iff.2 rfl] at hne; cases hne
        · exact h2
      conv => whnf
      repeat (refine step_go [] ?_; conv => whnf)
      refine ⟨S (i + 1), weak_of ?_ (.cons (.eq rfl) .nil) rfl rfl rfl, ih (i + 1) ⟨by omega, hv2⟩ (by omega)⟩
      repeat' first
        | exact VWs.nil
        | refine VWs.cons VW.undef ?_
        | refine VWs.cons (VW.eq rfl) ?_
        | refine VWs.cons (VW.eq (congrArg (V.int .i64) (by rw [wrap64 (by omega) (by omega)]; omega))) ?_

/-- how many reverses there are -/
def backs (l : List Ev) : Nat := (l.filter fun x => x.kind == 5).length

theorem filt3 (a b : Ev → Bool) (hab : ∀ x, a x = true → b x = true → False) : ∀ l : List Ev, (l.filter fun x => !(a x) && !(b x)).length + (l.filter a).length + (l.filter b).length = l.length
  | [] => rfl
  | x :: r => by
    have ih := filt3 a b hab r
    have hx := hab x
    simp only [List.filter_cons]
    cases h1 : a x <;> cases h2 : b x <;> simp_all <;> omega

theorem rcnt_len {R : List Ev} (h : EvInv R) : (rCnt R).length + 2 * backs R = R.length := by
  have h1 := filt3 (fun x => x.kind == 5) (fun x => x.kind == 2 && rRev R x.key) (fun x h1 h2 => by simp at h1 h2; omega) R
  have e1 : rCnt R = R.filter fun x => !(x.kind == 5) && !(x.kind == 2 && rRev R x.key) := by
    unfold rCnt rcntP
    apply List.filter_congr
    intro x _
    rfl
  rw [← e1] at h1
  have hu := nodup_of_uniq h.uniq
  -- reverses, and what they name
  have hA : ((R.filter fun x => x.kind == 5).map (·.ref)).Nodup := by
    rw [List.nodup_iff_pairwise_ne, List.pairwise_map]
    refine (hu.filter _).imp_of_mem fun {a b} ha hb hne hr => ?_
    simp only [List.mem_filter, beq_iff_eq] at ha hb
    exact hne (h.dist a ha.1 b hb.1 ha.2 hb.2 hr)
  have hB : ((R.filter fun x => x.kind == 2 && rRev R x.key).map (·.key)).Nodup := by
    rw [List.nodup_iff_pairwise_ne, List.pairwise_map]
    exact h.uniq.filter _
  have l1 := List.Nodup.length_le_of_subset hA (l₂ := (R.filter fun x => x.kind == 2 && rRev R x.key).map (·.key)) fun k hk => by
    obtain ⟨x, hx, rfl⟩ := List.mem_map.1 hk
    simp only [List.mem_filter, beq_iff_eq] at hx
    obtain ⟨y, hy, hyk, hy2⟩ := h.refs x hx.1 hx.2
    exact List.mem_map.2 ⟨y, by simp only [List.mem_filter, Bool.and_eq_true, beq_iff_eq]; exact ⟨hy, hy2, rRev_iff.2 ⟨x, hx.1, hx.2, hyk.symm⟩⟩, hyk⟩
  have l2 := List.Nodup.length_le_of_subset hB (l₂ := (R.filter fun x => x.kind == 5).map (·.ref)) fun k hk => by
    obtain ⟨y, hy, rfl⟩ := List.mem_map.1 hk
    simp only [List.mem_filter, Bool.and_eq_true, beq_iff_eq] at hy
    obtain ⟨x, hx, hx5, hxr⟩ := rRev_iff.1 hy.2.2
    exact List.mem_map.2 ⟨x, by simp only [List.mem_filter, beq_iff_eq]; exact ⟨hx, hx5⟩, hxr⟩
  rw [List.length_map, List.length_map] at l1 l2
  unfold backs
  omega

theorem rcnt_mem {R : List Ev} (h : EvInv R) {x : Ev} (hx : x ∈ rCnt R) : x ∈ R ∧ x.kind ≠ 5 ∧ rRev R x.key = false := by
  unfold rCnt rcntP at hx
  simp only [List.mem_filter, Bool.and_eq_true, bne_iff_ne, ne_eq, Bool.not_eq_true', Bool.and_eq_false_iff, beq_eq_false_iff_ne] at hx
  obtain ⟨h1, h2, h3⟩ := hx
  refine ⟨h1, h2, ?_⟩
  rcases h3 with h3 | h3
  · cases hr : rRev R x.key with
    | false => rfl
    | true =>
      obtain ⟨y, hy, hy5, hyr⟩ := rRev_iff.1 hr
      obtain ⟨z, hz, hzk, hz2⟩ := h.refs y hy hy5
      have := uniq_eq h.uniq hz h1 (by rw [hzk, hyr])
      subst this
      exact absurd hz2 h3
  · exact h3

theorem backs_step {R : List Ev} {i : Nat} (hi : i < R.length) : backs (R.take (i + 1)) = backs (R.take i) + if R[i].kind = 5 then 1 else 0 := by
  unfold backs
  rw [filt_step hi, List.length_append]
  by_cases h : R[i].kind = 5 <;> simp [h]

theorem take_mem {R : List Ev} {i : Nat} (hi : i < R.length) (x : Ev) : x ∈ R.take (i + 1) ↔ x ∈ R.take i ∨ x = R[i] := by
  rw [List.take_succ_eq_append_getElem hi, List.mem_append, List.mem_singleton]
theorem take_not {R : List Ev} (hu : Uniq R) {i : Nat} (hi : i < R.length) : R[i] ∉ R.take i := by
  intro h
  obtain ⟨j, hj, e⟩ := List.mem_iff_getElem.1 h
  rw [List.length_take] at hj
  rw [List.getElem_take] at e
  have := (List.pairwise_iff_getElem.1 hu) j i (by omega) hi (by omega)
  rw [e] at this
  exact this rfl

/-- a book with some of the events -/
structure Part (R : List Ev) (B : Bk) (Q : Ev → Prop) : Prop where
  good : Good B
  mem : ∀ x, x ∈ B.l ↔ x ∈ R ∧ Q x

theorem Part.len {R : List Ev} {B : Bk} {Q : Ev → Prop} (h : Part R B Q) : B.l.length ≤ R.length := len_sub h.good.uniq fun x hx => ((h.mem x).1 hx).1

theorem Part.there {R : List Ev} {B : Bk} {Q Q' : Ev → Prop} (h : Part R B Q) {e : Ev} (he : e ∈ R) (hq : Q e) (hQ : ∀ x ∈ R, Q' x ↔ Q x ∨ x = e) : Part R (B.put e) Q' := by
  have hb : e ∈ B.l := (h.mem e).2 ⟨he, hq⟩
  rw [put_no (by rw [may_there h.good hb])]
  refine ⟨h.good, fun x => ?_⟩
  rw [h.mem x]
  constructor
  · rintro ⟨a, b⟩; exact ⟨a, (hQ x a).2 (.inl b)⟩
  · rintro ⟨a, b⟩
    rcases (hQ x a).1 b with b | rfl
    · exact ⟨a, b⟩
    · exact ⟨a, hq⟩

theorem Part.in {R : List Ev} {B : Bk} {Q Q' : Ev → Prop} (h : Part R B Q) {e : Ev} (ok : Ok B.l e) (he : e ∈ R) (hQ : ∀ x ∈ R, Q' x ↔ Q x ∨ x = e) : Part R (B.put e) Q' := by
  refine ⟨put_good h.good e, fun x => ?_⟩
  rw [put_mem h.good ok, h.mem x]
  constructor
  · rintro (rfl | ⟨a, b⟩)
    · exact ⟨he, (hQ x he).2 (.inr rfl)⟩
    · exact ⟨a, (hQ x a).2 (.inl b)⟩
  · rintro ⟨a, b⟩
    rcases (hQ x a).1 b with b | rfl
    · exact .inr ⟨a, b⟩
    · exact .inl rfl

theorem Part.skip {R : List Ev} {B : Bk} {Q Q' : Ev → Prop} (h : Part R B Q) (hQ : ∀ x ∈ R, Q' x ↔ Q x) : Part R B Q' :=
  ⟨h.good, fun x => by rw [h.mem x]; exact ⟨fun ⟨a, b⟩ => ⟨a, (hQ x a).2 b⟩, fun ⟨a, b⟩ => ⟨a, (hQ x a).1 b⟩⟩⟩

theorem Part.ok {R : List Ev} {B : Bk} {Q : Ev → Prop} (hI : EvInv R) (hR : R.length ≤ 4096) (h : Part R B Q) {e : Ev} (he : e ∈ R) (hn : ¬ Q e) (h1 : e.kind ≠ 1 → ∀ x ∈ R, x.kind = 1 → Q x) (h5 : e.kind = 5 → ∀ y ∈ R, y.kind = 2 → Q y) : Ok B.l e := by
  refine sub_ok hI hR h.good.uniq (fun x hx => ((h.mem x).1 hx).1) he (fun hb => hn ((h.mem e).1 hb).2) (fun hk => ?_) fun hk y hy hy2 => (h.mem y).2 ⟨hy, h5 hk y hy hy2⟩
  obtain ⟨f, _, hfR, hf1, _⟩ := hI.fst
  exact ⟨f, (h.mem f).2 ⟨hfR, h1 hk f hfR hf1⟩, hf1⟩
end E19

namespace E19
open Go Go.Proofs VL E18 E26
set_option pp.maxSteps 1200
set_option linter.unusedSimpArgs false
set_option linter.unusedVariables false
set_option maxRecDepth 100000

theorem c_ahead_t {a b : Ev} (hlt : ltE a b) (K) (h : K (.ret (.bool true)) []) : VCall Try.prog 41 [encE a, encE b] [] K := c_ahead a b K (by rw [decide_eq_true hlt]; exact h)

set_option maxHeartbeats 4000000 in
theorem stands (a : Int) (l0 : List Ev) (hl0 : l0.length < 4611686018427387904) : VCall Try.prog 12 [.int .i64 a, .sl (eL l0) .no] [] fun out _ => out = .ret (.bool true) := by
  refine call_fun [] 0 Try.func12 (by rfl) (by rfl) ?_
  conv => whnf
  repeat (refine step_go [] ?_; conv => whnf)
  refine c_events a l0 40 (by decide) (by decide) 40 (by decide) (by decide) _ (fun R hI hR => ?_) hl0; conv => whnf
  have hRl := eL_len R
  repeat' first
    | (refine step_go [] ?_; conv => whnf)
    | (refine c_new _ ?_; conv => whnf)
  -- the one that pays out
  let S1 : Nat × Bk × List V → St := fun ⟨i, B, sp⟩ => ⟨(.undef :: .undef :: .undef :: .undef :: .bool false :: .sl (eL R) .no :: .ptr 0 0 :: .int .i64 (i : Nat) :: .undef :: .undef :: .undef :: .undef :: .undef :: .undef :: .undef :: .undef :: .undef :: .undef :: .undef :: .undef :: .undef :: .undef :: .undef :: .undef :: .undef :: .undef :: .undef :: .undef :: .undef :: .undef :: .undef :: .undef :: .undef :: .undef :: .undef :: .undef :: .undef :: .undef :: .undef :: .undef :: .undef :: .undef :: .undef :: .undef :: .undef :: .undef :: .undef :: .undef :: .undef :: .undef :: .undef :: .undef :: .undef :: .undef :: .undef :: .undef :: .undef :: .undef :: .undef :: .undef :: .undef :: .undef :: .undef :: .undef :: .undef :: .undef :: .undef :: .undef :: .undef :: .undef :: .undef :: .undef :: .undef :: .undef :: .undef :: .undef :: .undef :: .undef :: .undef :: .undef :: .undef :: .undef :: .undef :: .undef :: .undef :: .undef :: .undef :: .undef :: .undef :: .undef :: .undef :: .undef :: .undef :: .undef :: .undef :: .undef :: .undef :: .undef :: .undef :: .undef :: .undef :: .undef :: .undef :: .undef :: .undef :: .undef :: .undef :: .undef :: .undef :: .undef :: .undef :: .undef :: .undef :: .undef :: .undef :: .undef :: .undef :: .undef :: .undef :: .undef :: .undef :: .undef :: .undef :: .undef :: .undef :: .undef :: .undef :: .undef :: .undef :: .undef :: .undef :: .undef :: .undef :: .undef :: .undef :: .undef :: .undef :: .undef :: .undef :: .undef :: .undef :: .undef :: .undef :: .undef :: .undef :: .undef :: .undef :: []), B.obj sp true, 0, []⟩
  refine VLoop.enter (s' := S1 (0, newB, [])) (weak_of ?_ (.cons (.eq rfl) (.cons (.eq rfl) (.cons (.eq rfl) (.cons (.eq rfl) .nil)))) rfl rfl rfl)
    (VLoop.indW S1 (fun x => R.length - x.1) (fun x => x.1 ≤ R.length ∧ C5 x.2.2 ∧ Part R x.2.1 fun y => y.kind = 1 ∧ y ∈ R.take x.1) ?_ (0, newB, []) ⟨by simp, by simp [C5], new_good, by simp [newB]⟩)
  · repeat' first
      | exact VWs.nil
      | refine VWs.cons VW.undef ?_
      | refine VWs.cons (VW.eq rfl) ?_
  rintro ⟨i, B, sp⟩ ⟨hi, hsp, hP⟩ ih
  simp only at hi hsp hP
  have hBl := hP.len
  refine loop_round [] ?_; conv => whnf
  repeat (refine step_go [] ?_; conv => whnf)
  refine two (fun g => ?_) (fun g => ?_)
  · have hil : i < R.length := by simp [hRl] at g; omega
    conv => whnf
    repeat (refine step_go [] ?_; conv => whnf)
    refine ⟨by omega, _, get_at hil, rfl, ?_⟩; conv => whnf
    repeat (refine step_go [] ?_; conv => whnf)
    refine two (fun g => ?_) (fun g => ?_)
    · have hk : R[i].kind = 1 := by simpa using g
      conv => whnf
      repeat (refine step_go [] ?_; conv => whnf)
      refine ⟨by omega, _, get_at hil, rfl, ?_⟩; conv => whnf
      have ok := hP.ok hI (by omega) (List.getElem_mem hil) (fun h => take_not hI.uniq hil h.2) (fun h => absurd hk h) (fun h => by omega)
      refine c_put B sp R[i] hsp hP.good.srt (by omega) _ fun sp2 hsp2 => ?_; conv => whnf
      repeat (refine step_go [] ?_; conv => whnf)
      refine ⟨S1 (i + 1, B.put R[i], sp2), weak_of ?_ (.cons (.eq rfl) (.cons (.eq rfl) (.cons (.eq rfl) (.cons (.eq rfl) .nil)))) rfl rfl rfl, ih (i + 1, B.put R[i], sp2) ⟨by simp only; omega, hsp2, ?_⟩ (by simp only; omega)⟩
      · repeat' first
          | exact VWs.nil
          | refine VWs.cons VW.undef ?_
          | refine VWs.cons (VW.eq rfl) ?_
          | refine VWs.cons (VW.eq (congrArg (V.int .i64) (by rw [wrap64 (by omega) (by omega)]; omega))) ?_
      · refine hP.in ok (List.getElem_mem hil) fun x _ => ?_
        rw [take_mem hil]
        constructor
        · rintro ⟨h1, h2 | h2⟩
          · exact .inl ⟨h1, h2⟩
          · exact .inr h2
        · rintro (⟨h1, h2⟩ | rfl)
          · exact ⟨h1, .inl h2⟩
          · exact ⟨hk, .inr rfl⟩
    · have hk : R[i].kind ≠ 1 := by simpa using g
      conv => whnf
      repeat (refine step_go [] ?_; conv => whnf)
      refine ⟨S1 (i + 1, B, sp), weak_of ?_ (.cons (.eq rfl) (.cons (.eq rfl) (.cons (.eq rfl) (.cons (.eq rfl) .nil)))) rfl rfl rfl, ih (i + 1, B, sp) ⟨by simp only; omega, hsp, ?_⟩ (by simp only; omega)⟩
      · repeat' first
          | exact VWs.nil
          | refine VWs.cons VW.undef ?_
          | refine VWs.cons (VW.eq rfl) ?_
          | refine VWs.cons (VW.eq (congrArg (V.int .i64) (by rw [wrap64 (by omega) (by omega)]; omega))) ?_
      · refine hP.skip fun x _ => ?_
        rw [take_mem hil]
        constructor
        · rintro ⟨h1, h2 | rfl⟩
          · exact ⟨h1, h2⟩
          · exact absurd h1 hk
        · rintro ⟨h1, h2⟩; exact ⟨h1, .inl h2⟩
  have hil : i = R.length := by simp [hRl] at g; omega
  subst hil
  clear ih g
  have hP : Part R B fun y => y.kind = 1 ∨ (y.kind ≠ 5 ∧ y ∈ R.take 0) := hP.skip fun x hx => by simp [hx]
  conv => whnf
  refine ⟨_, Weak.refl, ?_⟩; conv => whnf
  repeat (refine step_go [] ?_; conv => whnf)
  -- those that are no reverses
  let S2 : Nat × Bk × List V → St := fun ⟨i, B, sp⟩ => ⟨(.undef :: .undef :: .undef :: .undef :: .bool false :: .sl (eL R) .no :: .ptr 0 0 :: .undef :: .int .i64 (i : Nat) :: .undef :: .undef :: .undef :: .undef :: .undef :: .undef :: .undef :: .undef :: .undef :: .undef :: .undef :: .undef :: .undef :: .undef :: .undef :: .undef :: .undef :: .undef :: .undef :: .undef :: .undef :: .undef :: .undef :: .undef :: .undef :: .undef :: .undef :: .undef :: .undef :: .undef :: .undef :: .undef :: .undef :: .undef :: .undef :: .undef :: .undef :: .undef :: .undef :: .undef :: .undef :: .undef :: .undef :: .undef :: .undef :: .undef :: .undef :: .undef :: .undef :: .undef :: .undef :: .undef :: .undef :: .undef :: .undef :: .undef :: .undef :: .undef :: .undef :: .undef :: .undef :: .undef :: .undef :: .undef :: .undef :: .undef :: .undef :: .undef :: .undef :: .undef :: .undef :: .undef :: .undef :: .undef :: .undef :: .undef :: .undef :: .undef :: .undef :: .undef :: .undef :: .undef :: .undef :: .undef :: .undef :: .undef :: .undef :: .undef :: .undef :: .undef :: .undef :: .undef :: .undef :: .undef :: .undef :: .undef :: .undef :: .undef :: .undef :: .undef :: .undef :: .undef :: .undef :: .undef :: .undef :: .undef :: .undef :: .undef :: .undef :: .undef :: .undef :: .undef :: .undef :: .undef :: .undef :: .undef :: .undef :: .undef :: .undef :: .undef :: .undef :: .undef :: .undef :: .undef :: .undef :: .undef :: .undef :: .undef :: .undef :: .undef :: .undef :: .undef :: .undef :: .undef :: .undef :: .undef :: .undef :: .undef :: []), B.obj sp true, 0, []⟩
  refine VLoop.enter (s' := S2 (0, B, sp)) (weak_of ?_ (.cons (.eq rfl) (.cons (.eq rfl) (.cons (.eq rfl) (.cons (.eq rfl) .nil)))) rfl rfl rfl)
    (VLoop.indW S2 (fun x => R.length - x.1) (fun x => x.1 ≤ R.length ∧ C5 x.2.2 ∧ Part R x.2.1 fun y => y.kind = 1 ∨ (y.kind ≠ 5 ∧ y ∈ R.take x.1)) ?_ (0, B, sp) ⟨by simp, hsp, hP⟩)
  · repeat' first
      | exact VWs.nil
      | refine VWs.cons VW.undef ?_
      | refine VWs.cons (VW.eq rfl) ?_
  rintro ⟨i, B, sp⟩ ⟨hi, hsp, hP⟩ ih
  simp only at hi hsp hP
  have hBl := hP.len
  refine loop_round [] ?_; conv => whnf
  repeat (refine step_go [] ?_; conv => whnf)
  refine two (fun g => ?_) (fun g => ?_)
  · have hil : i < R.length := by simp [hRl] at g; omega
    conv => whnf
    repeat (refine step_go [] ?_; conv => whnf)
    refine ⟨by omega, _, get_at hil, rfl, ?_⟩; conv => whnf
    repeat (refine step_go [] ?_; conv => whnf)
    refine two (fun g => ?_) (fun g => ?_)
    · have hk : R[i].kind ≠ 5 := by simpa using g
      conv => whnf
      repeat (refine step_go [] ?_; conv => whnf)
      refine ⟨by omega, _, get_at hil, rfl, ?_⟩; conv => whnf
      refine c_put B sp R[i] hsp hP.good.srt (by omega) _ fun sp2 hsp2 => ?_; conv => whnf
      repeat (refine step_go [] ?_; conv => whnf)
      refine ⟨S2 (i + 1, B.put R[i], sp2), weak_of ?_ (.cons (.eq rfl) (.cons (.eq rfl) (.cons (.eq rfl) (.cons (.eq rfl) .nil)))) rfl rfl rfl, ih (i + 1, B.put R[i], sp2) ⟨by simp only; omega, hsp2, ?_⟩ (by simp only; omega)⟩
      · repeat' first
          | exact VWs.nil
          | refine VWs.cons VW.undef ?_
          | refine VWs.cons (VW.eq rfl) ?_
          | refine VWs.cons (VW.eq (congrArg (V.int .i64) (by rw [wrap64 (by omega) (by omega)]; omega))) ?_
      · have hQ : ∀ x ∈ R, (x.kind = 1 ∨ (x.kind ≠ 5 ∧ x ∈ R.take (i + 1))) ↔ (x.kind = 1 ∨ (x.kind ≠ 5 ∧ x ∈ R.take i)) ∨ x = R[i] := fun x _ => by
          rw [take_mem hil]
          constructor
          · rintro (h1 | ⟨h1, h2 | h2⟩)
            · exact .inl (.inl h1)
            · exact .inl (.inr ⟨h1, h2⟩)
            · exact .inr h2
          · rintro ((h1 | ⟨h1, h2⟩) | rfl)
            · exact .inl h1
            · exact .inr ⟨h1, .inl h2⟩
            · exact .inr ⟨hk, .inr rfl⟩
        by_cases h1 : R[i].kind = 1
        · exact hP.there (List.getElem_mem hil) (.inl h1) hQ
        · exact hP.in (hP.ok hI (by omega) (List.getElem_mem hil) (fun h => h.elim h1 fun h => take_not hI.uniq hil h.2) (fun _ x _ hx => .inl hx) (fun h => absurd h hk)) (List.getElem_mem hil) hQ
    · have hk : R[i].kind = 5 := by simpa using g
      conv => whnf
      repeat (refine step_go [] ?_; conv => whnf)
      refine ⟨S2 (i + 1, B, sp), weak_of ?_ (.cons (.eq rfl) (.cons (.eq rfl) (.cons (.eq rfl) (.cons (.eq rfl) .nil)))) rfl rfl rfl, ih (i + 1, B, sp) ⟨by simp only; omega, hsp, ?_⟩ (by simp only; omega)⟩
      · repeat' first
          | exact VWs.nil
          | refine VWs.cons VW.undef ?_
          | refine VWs.cons (VW.eq rfl) ?_
          | refine VWs.cons (VW.eq (congrArg (V.int .i64) (by rw [wrap64 (by omega) (by omega)]; omega))) ?_
      · refine hP.skip fun x _ => ?_
        rw [take_mem hil]
        constructor
        · rintro (h1 | ⟨h1, h2 | rfl⟩)
          · exact .inl h1
          · exact .inr ⟨h1, h2⟩
          · exact absurd hk h1
        · rintro (h1 | ⟨h1, h2⟩)
          · exact .inl h1
          · exact .inr ⟨h1, .inl h2⟩
  have hil : i = R.length := by simp [hRl] at g; omega
  subst hil
  clear ih g
  have hP : Part R B fun y => y.kind ≠ 5 ∨ y ∈ R.take 0 := hP.skip fun x hx => by
    simp only [List.take_length, hx, and_true, List.take_zero, List.not_mem_nil, or_false]
    constructor
    · intro h; exact .inr h
    · rintro (h | h)
      · omega
      · exact h
  conv => whnf
  refine ⟨_, Weak.refl, ?_⟩; conv => whnf
  repeat (refine step_go [] ?_; conv => whnf)
  -- all
  let S3 : Nat × Bk × List V → St := fun ⟨i, B, sp⟩ => ⟨(.undef :: .undef :: .undef :: .undef :: .bool false :: .sl (eL R) .no :: .ptr 0 0 :: .undef :: .undef :: .int .i64 (i : Nat) :: .undef :: .undef :: .undef :: .undef :: .undef :: .undef :: .undef :: .undef :: .undef :: .undef :: .undef :: .undef :: .undef :: .undef :: .undef :: .undef :: .undef :: .undef :: .undef :: .undef :: .undef :: .undef :: .undef :: .undef :: .undef :: .undef :: .undef :: .undef :: .undef :: .undef :: .undef :: .undef :: .undef :: .undef :: .undef :: .undef :: .undef :: .undef :: .undef :: .undef :: .undef :: .undef :: .undef :: .undef :: .undef :: .undef :: .undef :: .undef :: .undef :: .undef :: .undef :: .undef :: .undef :: .undef :: .undef :: .undef :: .undef :: .undef :: .undef :: .undef :: .undef :: .undef :: .undef :: .undef :: .undef :: .undef :: .undef :: .undef :: .undef :: .undef :: .undef :: .undef :: .undef :: .undef :: .undef :: .undef :: .undef :: .undef :: .undef :: .undef :: .undef :: .undef :: .undef :: .undef :: .undef :: .undef :: .undef :: .undef :: .undef :: .undef :: .undef :: .undef :: .undef :: .undef :: .undef :: .undef :: .undef :: .undef :: .undef :: .undef :: .undef :: .undef :: .undef :: .undef :: .undef :: .undef :: .undef :: .undef :: .undef :: .undef :: .undef :: .undef :: .undef :: .undef :: .undef :: .undef :: .undef :: .undef :: .undef :: .undef :: .undef :: .undef :: .undef :: .undef :: .undef :: .undef :: .undef :: .undef :: .undef :: .undef :: .undef :: .undef :: .undef :: .undef :: .undef :: .undef :: .undef :: []), B.obj sp true, 0, []⟩
  refine VLoop.enter (s' := S3 (0, B, sp)) (weak_of ?_ (.cons (.eq rfl) (.cons (.eq rfl) (.cons (.eq rfl) (.cons (.eq rfl) .nil)))) rfl rfl rfl)
    (VLoop.indW S3 (fun x => R.length - x.1) (fun x => x.1 ≤ R.length ∧ C5 x.2.2 ∧ Part R x.2.1 fun y => y.kind ≠ 5 ∨ y ∈ R.take x.1) ?_ (0, B, sp) ⟨by simp, hsp, hP⟩)
  · repeat' first
      | exact VWs.nil
      | refine VWs.cons VW.undef ?_
      | refine VWs.cons (VW.eq rfl) ?_
  rintro ⟨i, B, sp⟩ ⟨hi, hsp, hP⟩ ih
  simp only at hi hsp hP
  have hBl := hP.len
  refine loop_round [] ?_; conv => whnf
  repeat (refine step_go [] ?_; conv => whnf)
  refine two (fun g => ?_) (fun g => ?_)
  · have hil : i < R.length := by simp [hRl] at g; omega
    conv => whnf
    repeat (refine step_go [] ?_; conv => whnf)
    refine ⟨by omega, _, get_at hil, rfl, ?_⟩; conv => whnf
    refine c_put B sp R[i] hsp hP.good.srt (by omega) _ fun sp2 hsp2 => ?_; conv => whnf
    repeat (refine step_go [] ?_; conv => whnf)
    refine ⟨S3 (i + 1, B.put R[i], sp2), weak_of ?_ (.cons (.eq rfl) (.cons (.eq rfl) (.cons (.eq rfl) (.cons (.eq rfl) .nil)))) rfl rfl rfl, ih (i + 1, B.put R[i], sp2) ⟨by simp only; omega, hsp2, ?_⟩ (by simp only; omega)⟩
    · repeat' first
        | exact VWs.nil
        | refine VWs.cons VW.undef ?_
        | refine VWs.cons (VW.eq rfl) ?_
        | refine VWs.cons (VW.eq (congrArg (V.int .i64) (by rw [wrap64 (by omega) (by omega)]; omega))) ?_
    · have hQ : ∀ x ∈ R, (x.kind ≠ 5 ∨ x ∈ R.take (i + 1)) ↔ (x.kind ≠ 5 ∨ x ∈ R.take i) ∨ x = R[i] := fun x _ => by
        rw [take_mem hil]
        constructor
        · rintro (h1 | h1 | h1)
          · exact .inl (.inl h1)
          · exact .inl (.inr h1)
          · exact .inr h1
        · rintro ((h1 | h1) | h1)
          · exact .inl h1
          · exact .inr (.inl h1)
          · exact .inr (.inr h1)
      by_cases h1 : R[i].kind = 5
      · exact hP.in (hP.ok hI (by omega) (List.getElem_mem hil) (fun h => h.elim (fun h => h h1) fun h => take_not hI.uniq hil h) (fun _ x _ hx => .inl (by omega)) (fun _ y _ hy => .inl (by omega))) (List.getElem_mem hil) hQ
      · exact hP.there (List.getElem_mem hil) (.inl h1) hQ
  have hil : i = R.length := by simp [hRl] at g; omega
  subst hil
  clear ih g
  have hBR : B.l = R := srt_eq hP.good.srt hI.srt fun x => by
    rw [hP.mem x]
    constructor
    · exact fun h => h.1
    · exact fun h => ⟨h, .inr (by simpa using h)⟩
  conv => whnf
  refine ⟨_, Weak.refl, ?_⟩; conv => whnf
  repeat (refine step_go [] ?_; conv => whnf)
  refine c_all B sp (by omega) _ ?_; conv => whnf
  repeat (refine step_go [] ?_; conv => whnf)
  refine c_counting B sp (by omega) _ ?_
  rw [cnt_eq hP.good, hBR]; conv => whnf
  repeat (refine step_go [] ?_; conv => whnf)
  refine c_awake _ ?_; conv => whnf
  repeat (refine step_go [] ?_; conv => whnf)
  refine no (bne_self_eq_false _) ?_; conv => whnf
  repeat (refine step_go [] ?_; conv => whnf)
  -- as they stand
  let S4 : Nat → St := fun i => ⟨(.undef :: .undef :: .undef :: .undef :: .bool false :: .undef :: .undef :: .undef :: .undef :: .undef :: .sl (eL R) .no :: .sl (eL (rCnt R)) .no :: .int .i64 (backs (R.take i) : Nat) :: .int .i64 (i : Nat) :: .undef :: .undef :: .undef :: .undef :: .undef :: .undef :: .undef :: .undef :: .undef :: .undef :: .undef :: .undef :: .undef :: .undef :: .undef :: .undef :: .undef :: .undef :: .undef :: .undef :: .undef :: .undef :: .undef :: .undef :: .undef :: .undef :: .undef :: .undef :: .undef :: .undef :: .undef :: .undef :: .undef :: .undef :: .undef :: .undef :: .undef :: .undef :: .undef :: .undef :: .undef :: .undef :: .undef :: .undef :: .undef :: .undef :: .undef :: .undef :: .undef :: .undef :: .undef :: .undef :: .undef :: .undef :: .undef :: .undef :: .undef :: .undef :: .undef :: .undef :: .undef :: .undef :: .undef :: .undef :: .undef :: .undef :: .undef :: .undef :: .undef :: .undef :: .undef :: .undef :: .undef :: .undef :: .undef :: .undef :: .undef :: .undef :: .undef :: .undef :: .undef :: .undef :: .undef :: .undef :: .undef :: .undef :: .undef :: .undef :: .undef :: .undef :: .undef :: .undef :: .undef :: .undef :: .undef :: .undef :: .undef :: .undef :: .undef :: .undef :: .undef :: .undef :: .undef :: .undef :: .undef :: .undef :: .undef :: .undef :: .undef :: .undef :: .undef :: .undef :: .undef :: .undef :: .undef :: .undef :: .undef :: .undef :: .undef :: .undef :: .undef :: .undef :: .undef :: .undef :: .undef :: .undef :: .undef :: .undef :: .undef :: .undef :: .undef :: .undef :: .undef :: []), B.obj sp true, 0, []⟩
  refine VLoop.enter (s' := S4 0) (weak_of ?_ (.cons (.eq rfl) (.cons (.eq rfl) (.cons (.eq rfl) (.cons (.eq rfl) .nil)))) rfl rfl rfl) (VLoop.indW S4 (fun i => R.length - i) (fun i => i ≤ R.length) ?_ 0 (by omega))
  · repeat' first
      | exact VWs.nil
      | refine VWs.cons VW.undef ?_
      | refine VWs.cons (VW.eq rfl) ?_
  intro i hi ih
  refine loop_round [] ?_; conv => whnf
  repeat (refine step_go [] ?_; conv => whnf)
  refine two (fun g => ?_) (fun g => ?_)
  · have hil : i < R.length := by simp [hRl] at g; omega
    have hbl : backs (R.take i) ≤ 40 := by
      unfold backs
      have := List.length_filter_le (fun x : Ev => x.kind == 5) (R.take i)
      rw [List.length_take] at this
      omega
    have hbs := backs_step hil
    conv => whnf
    repeat (refine step_go [] ?_; conv => whnf)
    refine ⟨by decide +kernel, ?_⟩; conv => whnf
    refine two (fun g => ?_) (fun g => ?_)
    · have hi0 : 0 < i := by simpa using g
      have w1 : IntKind.i64.wrap ((i : Int) - 1) = ((i - 1 : Nat) : Int) := by rw [wrap64 (by omega) (by omega)]; omega
      have hi1 : i - 1 < R.length := by omega
      have hlt : ltE R[i - 1] R[i] := (List.pairwise_iff_getElem.1 hI.srt) (i - 1) i hi1 hil (by omega)
      conv => whnf
      rw [w1]
      refine ⟨by omega, _, get_at hi1, rfl, ?_⟩; conv => whnf
      refine ⟨by omega, _, get_at hil, rfl, ?_⟩; conv => whnf
      refine c_ahead_t hlt _ ?_; conv => whnf
      repeat' first
        | (refine And.intro rfl ?_; conv => whnf)
        | (refine step_go [] ?_; conv => whnf)
      refine ⟨by omega, _, get_at hil, rfl, ?_⟩; conv => whnf
      repeat (refine step_go [] ?_; conv => whnf)
      refine two (fun g => ?_) (fun g => ?_)
      · have hk : R[i].kind = 5 := by simpa using g
        rw [if_pos hk] at hbs
        conv => whnf
        repeat (refine step_go [] ?_; conv => whnf)
        refine ⟨S4 (i + 1), weak_of ?_ (.cons (.eq rfl) (.cons (.eq rfl) (.cons (.eq rfl) (.cons (.eq rfl) .nil)))) rfl rfl rfl, ih (i + 1) (by omega) (by omega)⟩
        repeat' first
          | exact VWs.nil
          | refine VWs.cons VW.undef ?_
          | refine VWs.cons (VW.eq rfl) ?_
          | refine VWs.cons (VW.eq (congrArg (V.int .i64) (by rw [hbs, wrap64 (by omega) (by omega)]; omega))) ?_
          | refine VWs.cons (VW.eq (congrArg (V.int .i64) (by rw [wrap64 (by omega) (by omega)]; omega))) ?_
      · have hk : ¬ R[i].kind = 5 := by simpa using g
        rw [if_neg hk] at hbs
        conv => whnf
        repeat (refine step_go [] ?_; conv => whnf)
        refine ⟨S4 (i + 1), weak_of ?_ (.cons (.eq rfl) (.cons (.eq rfl) (.cons (.eq rfl) (.cons (.eq rfl) .nil)))) rfl rfl rfl, ih (i + 1) (by omega) (by omega)⟩
        repeat' first
          | exact VWs.nil
          | refine VWs.cons VW.undef ?_
          | refine VWs.cons (VW.eq rfl) ?_
          | refine VWs.cons (VW.eq (congrArg (V.int .i64) (by rw [hbs]; rfl))) ?_
          | refine VWs.cons (VW.eq (congrArg (V.int .i64) (by rw [wrap64 (by omega) (by omega)]; omega))) ?_
    · conv => whnf
      repeat (refine step_go [] ?_; conv => whnf)
      refine ⟨by omega, _, get_at hil, rfl, ?_⟩; conv => whnf
      repeat (refine step_go [] ?_; conv => whnf)
      refine two (fun g => ?_) (fun g => ?_)
      · have hk : R[i].kind = 5 := by simpa using g
        rw [if_pos hk] at hbs
        conv => whnf
        repeat (refine step_go [] ?_; conv => whnf)
        refine ⟨S4 (i + 1), weak_of ?_ (.cons (.eq rfl) (.cons (.eq rfl) (.cons (.eq rfl) (.cons (.eq rfl) .nil)))) rfl rfl rfl, ih (i + 1) (by omega) (by omega)⟩
        repeat' first
          | exact VWs.nil
          | refine VWs.cons VW.undef ?_
          | refine VWs.cons (VW.eq rfl) ?_
          | refine VWs.cons (VW.eq (congrArg (V.int .i64) (by rw [hbs, wrap64 (by omega) (by omega)]; omega))) ?_
          | refine VWs.cons (VW.eq (congrArg (V.int .i64) (by rw [wrap64 (by omega) (by omega)]; omega))) ?_
      · have hk : ¬ R[i].kind = 5 := by simpa using g
        rw [if_neg hk] at hbs
        conv => whnf
        repeat (refine step_go [] ?_; conv => whnf)
        refine ⟨S4 (i + 1), weak_of ?_ (.cons (.eq rfl) (.cons (.eq rfl) (.cons (.eq rfl) (.cons (.eq rfl) .nil)))) rfl rfl rfl, ih (i + 1) (by omega) (by omega)⟩
        repeat' first
          | exact VWs.nil
          | refine VWs.cons VW.undef ?_
          | refine VWs.cons (VW.eq rfl) ?_
          | refine VWs.cons (VW.eq (congrArg (V.int .i64) (by rw [hbs]; rfl))) ?_
          | refine VWs.cons (VW.eq (congrArg (V.int .i64) (by rw [wrap64 (by omega) (by omega)]; omega))) ?_
  have hil : i = R.length := by simp [hRl] at g; omega
  subst hil
  clear ih g
  conv => whnf
  refine ⟨_, Weak.refl, ?_⟩; conv => whnf
  repeat (refine step_go [] ?_; conv => whnf)
  -- those that count
  have hCl := eL_len (rCnt R)
  have hCR := rcnt_len hI
  let S5 : Nat → St := fun i => ⟨(.undef :: .undef :: .undef :: .undef :: .bool false :: .undef :: .undef :: .undef :: .undef :: .undef :: .sl (eL R) .no :: .sl (eL (rCnt R)) .no :: .int .i64 (backs R : Nat) :: .undef :: .int .i64 (i : Nat) :: .undef :: .undef :: .undef :: .undef :: .undef :: .undef :: .undef :: .undef :: .undef :: .undef :: .undef :: .undef :: .undef :: .undef :: .undef :: .undef :: .undef :: .undef :: .undef :: .undef :: .undef :: .undef :: .undef :: .undef :: .undef :: .undef :: .undef :: .undef :: .undef :: .undef :: .undef :: .undef :: .undef :: .undef :: .undef :: .undef :: .undef :: .undef :: .undef :: .undef :: .undef :: .undef :: .undef :: .undef :: .undef :: .undef :: .undef :: .undef :: .undef :: .undef :: .undef :: .undef :: .undef :: .undef :: .undef :: .undef :: .undef :: .undef :: .undef :: .undef :: .undef :: .undef :: .undef :: .undef :: .undef :: .undef :: .undef :: .undef :: .undef :: .undef :: .undef :: .undef :: .undef :: .undef :: .undef :: .undef :: .undef :: .undef :: .undef :: .undef :: .undef :: .undef :: .undef :: .undef :: .undef :: .undef :: .undef :: .undef :: .undef :: .undef :: .undef :: .undef :: .undef :: .undef :: .undef :: .undef :: .undef :: .undef :: .undef :: .undef :: .undef :: .undef :: .undef :: .undef :: .undef :: .undef :: .undef :: .undef :: .undef :: .undef :: .undef :: .undef :: .undef :: .undef :: .undef :: .undef :: .undef :: .undef :: .undef :: .undef :: .undef :: .undef :: .undef :: .undef :: .undef :: .undef :: .undef :: .undef :: .undef :: .undef :: .undef :: .undef :: []), B.obj sp true, 0, []⟩
  refine VLoop.enter (s' := S5 0) (weak_of ?_ (.cons (.eq rfl) (.cons (.eq rfl) (.cons (.eq rfl) (.cons (.eq rfl) .nil)))) rfl rfl rfl) (VLoop.indW S5 (fun i => (rCnt R).length - i) (fun i => i ≤ (rCnt R).length) ?_ 0 (by omega))
  · repeat' first
      | exact VWs.nil
      | refine VWs.cons VW.undef ?_
      | refine VWs.cons (VW.eq rfl) ?_
      | refine VWs.cons (VW.eq (congrArg (V.int .i64) (by rw [List.take_length]))) ?_
  intro i hi ih
  refine loop_round [] ?_; conv => whnf
  repeat (refine step_go [] ?_; conv => whnf)
  refine two (fun g => ?_) (fun g => ?_)
  · have hil : i < (rCnt R).length := by simp [hCl] at g; omega
    obtain ⟨m1, m2, m3⟩ := rcnt_mem hI (List.getElem_mem hil)
    conv => whnf
    repeat (refine step_go [] ?_; conv => whnf)
    refine ⟨by omega, _, get_at hil, rfl, ?_⟩; conv => whnf
    refine no (by simpa using m2) ?_; conv => whnf
    refine ⟨by omega, _, get_at hil, rfl, ?_⟩; conv => whnf
    refine c_in R (rCnt R)[i] m1 (by omega) _ ?_; conv => whnf
    refine ⟨by omega, _, get_at hil, rfl, ?_⟩; conv => whnf
    refine c_rrev R (rCnt R)[i].key (by omega) _ ?_
    rw [m3]; conv => whnf
    repeat (refine step_go [] ?_; conv => whnf)
    refine ⟨S5 (i + 1), weak_of ?_ (.cons (.eq rfl) (.cons (.eq rfl) (.cons (.eq rfl) (.cons (.eq rfl) .nil)))) rfl rfl rfl, ih (i + 1) (by omega) (by omega)⟩
    repeat' first
      | exact VWs.nil
      | refine VWs.cons VW.undef ?_
      | refine VWs.cons (VW.eq rfl) ?_
      | refine VWs.cons (VW.eq (congrArg (V.int .i64) (by rw [wrap64 (by omega) (by omega)]; omega))) ?_
  clear ih g
  conv => whnf
  refine ⟨_, Weak.refl, ?_⟩; conv => whnf
  repeat (refine step_go [] ?_; conv => whnf)
  refine congrArg (fun b => Out.ret (V.bool b)) ?_
  rw [hCl, hRl, wrap64 (x := 2 * _) (by omega) (by omega), wrap64 (by omega) (by omega), beq_iff_eq]
  omega
end E19

namespace E19
open Go Go.Proofs VL E18 E26
set_option pp.maxSteps 1200
set_option linter.unusedSimpArgs false
set_option linter.unusedVariables false
set_option maxRecDepth 100000

theorem swap_ix (x : Int) {n : Nat} (h0 : 0 < n) (hn : n < 1000000) : ∃ q : Nat, IntKind.i64.wrap ((IntKind.u64.wrap x).tmod ((n : Nat) : Int)) = (q : Int) ∧ q < n := by
  have hx : 0 ≤ IntKind.u64.wrap x := by
    show 0 ≤ x % ((2 ^ 64 : Nat) : Int)
    omega
  have h1 := Int.emod_nonneg (IntKind.u64.wrap x) (show ((n : Nat) : Int) ≠ 0 by omega)
  have h2 := Int.emod_lt_of_pos (IntKind.u64.wrap x) (show (0 : Int) < ((n : Nat) : Int) by omega)
  rw [Int.tmod_eq_emod_of_nonneg hx]
  refine ⟨(IntKind.u64.wrap x % (n : Int)).toNat, ?_, by omega⟩
  rw [wrap64 (by omega) (by omega)]
  omega

theorem get_ab {l : List Ev} {sp : List V} {i : Nat} (hi : i < l.length) : (eL l ++ sp)[0 + (i : Int).toNat]? = some (encE l[i]) := by
  rw [Nat.zero_add, List.getElem?_append_left (by rw [eL_len, Int.toNat_natCast]; exact hi), get_at hi]

theorem set_ab {l : List Ev} {sp : List V} {i : Nat} (hi : i < l.length) {a e : Ev} : (eL l ++ sp).set (0 + (i : Int).toNat) ((encE a).remake [.int .i64 e.key, .int .i64 e.kind, .int .i64 e.day, .int .i64 e.amount, .int .i64 e.ref]) = eL (l.set i e) ++ sp := by
  rw [Nat.zero_add, Int.toNat_natCast, List.set_append_left _ _ (by rw [eL_len]; exact hi)]
  refine congrArg (· ++ sp) ?_
  have h : (encE a).remake [.int .i64 e.key, .int .i64 e.kind, .int .i64 e.day, .int .i64 e.amount, .int .i64 e.ref] = encE e := rfl
  rw [h]
  unfold eL
  rw [List.map_set]

theorem weak_then {m : Nat} {s s1 : St} {K : St → Prop} (h : Weak m s s1) (h2 : ∃ s', Weak m s1 s' ∧ K s') : ∃ s', Weak m s s' ∧ K s' := by
  obtain ⟨s', h3, h4⟩ := h2
  exact ⟨s', h.trans h3, h4⟩

theorem weak_then2 {m : Nat} {s : St} {K : St → Prop} (h : ∃ s1, Weak m s s1 ∧ ∃ s', Weak m s1 s' ∧ K s') : ∃ s', Weak m s s' ∧ K s' := by
  obtain ⟨s1, h1, s', h3, h4⟩ := h
  exact ⟨s', h1.trans h3, h4⟩

theorem c_put_in (B : Bk) (sp : List V) (e : Ev) (hsp : C5 sp) (hs : Srt B.l) (hl : B.l.length < 90000) (hm : B.may e = (true, 0)) (K) (h : ∀ sp', C5 sp' → K (.ret (.tup [.bool true, .int .i64 0])) ((B.put e).obj sp' true)) :
    VCall Try.prog 34 [.ptr 0 0, encE e] (B.obj sp false) K :=
  c_put B sp e hsp hs hl K (by rw [hm]; exact h)

/-- which are in after k rounds -/
def qP (f : Ev) (m : List Ev) (k : Nat) (y : Ev) : Prop := y = f ∨ (y ∈ m ∧ (if y.kind = 5 then 2 ≤ k else 1 ≤ k))

set_option maxHeartbeats 4000000 in
theorem any (a : Int) (l0 : List Ev) (cs : List V) (hcs : ∃ cc : List Int, cs = cc.map fun c => V.int .i64 c) (hl0 : l0.length < 4611686018427387904) (hc0 : cs.length < 4611686018427387904) : VCall Try.prog 11 [.int .i64 a, .sl (eL l0) .no, .sl cs .no] [] fun out _ => out = .ret (.bool true) := by
  refine call_fun [22] 0 Try.func11 (by rfl) (by rfl) ?_
  conv => whnf
  repeat (refine step_go [22] ?_; conv => whnf)
  refine c_events a l0 30 (by decide) (by decide) 60 (by decide) (by decide) _ (fun R hI hR => ?_) hl0; conv => whnf
  have hRl := eL_len R
  repeat (refine step_go [22] ?_; conv => whnf)
  obtain ⟨f, r, hRf, hf1, hr1⟩ := hI.head
  have hr : r.length < 30 := by rw [hRf, List.length_cons] at hR; omega
  have hrl := eL_len r
  have hR1 : 1 ≤ R.length := by rw [hRf]; simp
  refine ⟨by omega, by omega, eL_cells, ?_⟩
  rw [show List.drop (Int.toNat 1) (eL R) = eL r by rw [hRf]; rfl]; conv => whnf
  repeat (refine step_go [22] ?_; conv => whnf)
  refine ⟨by rw [hrl]; show r.length * 40 ≤ _; omega, eL_cells, fun sp _ hsp => ?_⟩; conv => whnf
  repeat (refine step_go [22] ?_; conv => whnf)
  rw [hrl]
  obtain ⟨cc, rfl⟩ := hcs
  have hcl : (cc.map fun c => V.int .i64 c).length = cc.length := List.length_map ..
  rw [hcl] at hc0
  -- the order in which they are to come
  let S0 : Nat × List Ev → St := fun ⟨i, m⟩ => ⟨(.undef :: .undef :: .sl (cc.map fun c => V.int .i64 c) .no :: .undef :: .undef :: .undef :: .bool false :: .sl (eL R) .no :: .slo 0 5 0 m.length (m.length + sp.length) :: .int .i64 (i : Nat) :: .undef :: .undef :: .undef :: .undef :: .undef :: .undef :: .undef :: .undef :: .undef :: .undef :: .undef :: .undef :: .undef :: .undef :: .undef :: .undef :: .undef :: .undef :: .undef :: .undef :: .undef :: .undef :: .undef :: .undef :: .undef :: .undef :: .undef :: .undef :: .undef :: .undef :: .undef :: .undef :: .undef :: .undef :: .undef :: .undef :: .undef :: .undef :: .undef :: .undef :: .undef :: .undef :: .undef :: .undef :: .undef :: .undef :: .undef :: .undef :: .undef :: .undef :: .undef :: .undef :: .undef :: .undef :: .undef :: .undef :: .undef :: .undef :: .undef :: .undef :: .undef :: .undef :: .undef :: .undef :: .undef :: .undef :: .undef :: .undef :: .undef :: .undef :: .undef :: .undef :: .undef :: .undef :: .undef :: .undef :: .undef :: .undef :: .undef :: .undef :: .undef :: .undef :: .undef :: .undef :: .undef :: .undef :: .undef :: .undef :: .undef :: .undef :: .undef :: .undef :: .undef :: .undef :: .undef :: .undef :: .undef :: .undef :: .undef :: .undef :: .undef :: .undef :: .undef :: .undef :: .undef :: .undef :: .undef :: .undef :: .undef :: .undef :: .undef :: .undef :: .undef :: .undef :: .undef :: .undef :: .undef :: .undef :: .undef :: .undef :: .undef :: .undef :: .undef :: .undef :: .undef :: .undef :: .undef :: []), [.buf false 5 (eL m ++ sp)], 0, []⟩
  refine VLoop.enter (s' := S0 (0, r)) (weak_of ?_ (.cons (.eq rfl) .nil) rfl rfl rfl)
    (VLoop.indW S0 (fun x => cc.length - x.1) (fun x => x.1 ≤ cc.length ∧ x.1 ≤ 60 ∧ x.2.Perm r) ?_ (0, r) ⟨by simp, by simp, .refl _⟩)
  · repeat' first
      | exact VWs.nil
      | refine VWs.cons VW.undef ?_
      | refine VWs.cons (VW.eq rfl) ?_
  rintro ⟨i, m⟩ ⟨hi, hi6, hm⟩ ih
  simp only at hi hi6 hm
  have hml := hm.length_eq
  have hmL := eL_len m
  refine loop_round [22] ?_; conv => whnf
  repeat (refine step_go [22] ?_; conv => whnf)
  have key : ∀ (R G : Prop), ((Unit → R) → G) → R → G := fun _ _ f r => f fun _ => r
  let Sm : St := ⟨(.undef :: .undef :: .undef :: .undef :: .undef :: .undef :: .bool false :: .sl (eL R) .no :: .slo 0 5 0 m.length (m.length + sp.length) :: .undef :: .undef :: .undef :: .undef :: .undef :: .undef :: .undef :: .undef :: .undef :: .undef :: .undef :: .undef :: .undef :: .undef :: .undef :: .undef :: .undef :: .undef :: .undef :: .undef :: .undef :: .undef :: .undef :: .undef :: .undef :: .undef :: .undef :: .undef :: .undef :: .undef :: .undef :: .undef :: .undef :: .undef :: .undef :: .undef :: .undef :: .undef :: .undef :: .undef :: .undef :: .undef :: .undef :: .undef :: .undef :: .undef :: .undef :: .undef :: .undef :: .undef :: .undef :: .undef :: .undef :: .undef :: .undef :: .undef :: .undef :: .undef :: .undef :: .undef :: .undef :: .undef :: .undef :: .undef :: .undef :: .undef :: .undef :: .undef :: .undef :: .undef :: .undef :: .undef :: .undef :: .undef :: .undef :: .undef :: .undef :: .undef :: .undef :: .undef :: .undef :: .undef :: .undef :: .undef :: .undef :: .undef :: .undef :: .undef :: .undef :: .undef :: .undef :: .undef :: .undef :: .undef :: .undef :: .undef :: .undef :: .undef :: .undef :: .undef :: .undef :: .undef :: .undef :: .undef :: .undef :: .undef :: .undef :: .undef :: .undef :: .undef :: .undef :: .undef :: .undef :: .undef :: .undef :: .undef :: .undef :: .undef :: .undef :: .undef :: .undef :: .undef :: .undef :: .undef :: .undef :: .undef :: .undef :: .undef :: []), [.buf false 5 (eL m ++ sp)], 0, []⟩
  refine key ?R _ ?h ?r
  case h =>
    intro rest
    refine two (fun g => ?_) (fun g => ?_)
    · have hil : i < cc.length := by simpa using g
      conv => whnf
      repeat (refine step_go [22] ?_; conv => whnf)
      refine two (fun g => ?_) (fun g => ?_)
      · have hi6 : i < 60 := by simp at g; omega
        conv => whnf
        repeat (refine step_go [22] ?_; conv => whnf)
        refine two (fun g => ?_) (fun g => ?_)
        · have hm0 : 0 < m.length := by simpa using g
          conv => whnf
          repeat (refine step_go [22] ?_; conv => whnf)
          refine ⟨by omega, _, by rw [Int.toNat_natCast, List.getElem?_map, List.getElem?_eq_getElem hil]; rfl, rfl, ?_⟩; conv => whnf
          repeat (refine step_go [22] ?_; conv => whnf)
          rw [wrapU64 (x := ((m.length : Nat) : Int)) (by omega) (by omega)]
          refine ⟨by omega, ?_⟩; conv => whnf
          repeat (refine step_go [22] ?_; conv => whnf)
          obtain ⟨q, hq, hql⟩ : ∃ q : Nat, IntKind.i64.wrap ((IntKind.u64.wrap cc[i]).tmod ((m.length : Nat) : Int)) = (q : Int) ∧ q < m.length := swap_ix _ hm0 (by omega)
          refine ⟨by decide +kernel, ?_⟩; conv => whnf
          refine ⟨by omega, ?_⟩; conv => whnf
          repeat (refine step_go [22] ?_; conv => whnf)
          rw [hq]
          refine ⟨by omega, by omega, ?_⟩; conv => whnf
          refine ⟨_, get_ab hql, ?_⟩; conv => whnf
          refine ⟨by omega, ?_⟩; conv => whnf
          repeat (refine step_go [22] ?_; conv => whnf)
          obtain ⟨p, hp, hpl⟩ : ∃ p : Nat, ((i : Nat) : Int).tmod ((m.length : Nat) : Int) = (p : Int) ∧ p < m.length := ⟨i % m.length, (Int.ofNat_tmod i m.length).symm, Nat.mod_lt _ hm0⟩
          rw [hp]
          refine ⟨by omega, by omega, ?_⟩; conv => whnf
          refine ⟨_, get_ab hpl, ?_⟩; conv => whnf
          refine ⟨by omega, by omega, ?_⟩; conv => whnf
          refine ⟨_, get_ab hpl, ?_⟩; conv => whnf
          repeat (refine And.intro rfl ?_; conv => whnf)
          refine ⟨by omega, by omega, ?_⟩; conv => whnf
          rw [set_ab hpl]
          refine ⟨_, get_ab (by rw [List.length_set]; exact hql), ?_⟩; conv => whnf
          rw [set_ab (by rw [List.length_set]; exact hql)]
          repeat (refine step_go [22] ?_; conv => whnf)
          refine ⟨S0 (i + 1, (m.set p m[q]).set q m[p]), weak_of ?_ (.cons (.eq rfl) .nil) rfl rfl rfl, ih (i + 1, (m.set p m[q]).set q m[p]) ⟨by simp only; omega, by simp only; omega, (List.set_set_perm hpl hql).trans hm⟩ (by simp only; omega)⟩
          repeat' first
            | exact VWs.nil
            | refine VWs.cons VW.undef ?_
            | refine VWs.cons (VW.eq rfl) ?_
            | refine VWs.cons (VW.eq (by rw [List.length_set, List.length_set])) ?_
            | refine VWs.cons (VW.eq (congrArg (V.int .i64) (by rw [wrap64 (by omega) (by omega)]; omega))) ?_
        · conv => whnf
          repeat (refine step_go [22] ?_; conv => whnf)
          refine weak_then (s1 := Sm) (weak_of ?_ (.cons (.eq rfl) .nil) rfl rfl rfl) ?_
          · repeat' first
              | exact VWs.nil
              | refine VWs.cons VW.undef ?_
              | refine VWs.cons (VW.eq rfl) ?_
          · exact rest ()
      · conv => whnf
        repeat (refine step_go [22] ?_; conv => whnf)
        refine weak_then (s1 := Sm) (weak_of ?_ (.cons (.eq rfl) .nil) rfl rfl rfl) ?_
        · repeat' first
            | exact VWs.nil
            | refine VWs.cons VW.undef ?_
            | refine VWs.cons (VW.eq rfl) ?_
        · exact rest ()
    · conv => whnf
      repeat (refine step_go [22] ?_; conv => whnf)
      refine weak_then (s1 := Sm) (weak_of ?_ (.cons (.eq rfl) .nil) rfl rfl rfl) ?_
      · repeat' first
          | exact VWs.nil
          | refine VWs.cons VW.undef ?_
          | refine VWs.cons (VW.eq rfl) ?_
      · exact rest ()
  case r =>
    clear ih
    have htk : List.take m.length (List.drop 0 (eL m ++ sp)) = eL m := by rw [List.drop_zero, List.take_left' hmL]
    refine weak_then2 (weak_frz 0 false ?_); conv => whnf
    refine ⟨by rw [List.length_append, hmL]; omega, ?_⟩
    rw [htk]; conv => whnf
    refine weak_sel (src := []) ?_; conv => whnf
    repeat (refine step_go [22] ?_; conv => whnf)
    refine c_new _ ?_; conv => whnf
    repeat (refine step_go [22] ?_; conv => whnf)
    refine ⟨by omega, _, get_at (i := 0) (by omega), rfl, ?_⟩; conv => whnf
    have hR0 : R[0]'(by omega) = f := by simp [hRf]
    have hfR : f ∈ R := by rw [hRf]; simp
    have hrR : ∀ x, x ∈ R ↔ x = f ∨ x ∈ m := fun x => by rw [hRf, List.mem_cons, hm.mem_iff]
    have hmu : Uniq m := by
      have h1 : Uniq r := by have := hI.uniq; rw [hRf] at this; exact (List.pairwise_cons.1 this).2
      exact (hm.symm.pairwise h1 fun h => fun e => h e.symm)
    have hfm : f ∉ m := fun h => by
      have h2 := hI.uniq
      rw [hRf] at h2
      exact (List.pairwise_cons.1 h2).1 f (hm.mem_iff.1 h) rfl
    have hm1 : ∀ x ∈ m, x.kind ≠ 1 := fun x hx => hr1 x (hm.mem_iff.1 hx)
    have hP0 : Part R newB fun _ => False := ⟨new_good, fun x => by simp [newB]⟩
    have ok0 : Ok newB.l f := hP0.ok hI (by omega) hfR (fun h => h) (fun h => absurd hf1 h) (fun h => by omega)
    have hP : Part R (newB.put f) (qP f m 0) := hP0.in ok0 hfR fun x hx => by unfold qP; simp
    rw [hR0]
    refine c_put_in newB [] f (by simp [C5]) hP0.good.srt (by simp [newB]) (may_in new_good ok0) _ fun sp1 hsp1 => ?_; conv => whnf
    repeat' first
      | (refine step_go [22] ?_; conv => whnf)
      | (refine c_awake _ ?_; conv => whnf)
    -- two rounds
    let S1 : Nat × Bk × List V → St := fun ⟨k, B, sp⟩ => ⟨(.undef :: .undef :: .undef :: .undef :: .undef :: .undef :: .bool false :: .sl (eL R) .no :: .sl (eL m) .no :: .undef :: .undef :: .ptr 0 0 :: .undef :: .undef :: .int .i64 (k : Nat) :: .undef :: .undef :: .undef :: .undef :: .undef :: .undef :: .undef :: .undef :: .undef :: .undef :: .undef :: .undef :: .undef :: .undef :: .undef :: .undef :: .undef :: .undef :: .undef :: .undef :: .undef :: .undef :: .undef :: .undef :: .undef :: .undef :: .undef :: .undef :: .undef :: .undef :: .undef :: .undef :: .undef :: .undef :: .undef :: .undef :: .undef :: .undef :: .undef :: .undef :: .undef :: .undef :: .undef :: .undef :: .undef :: .undef :: .undef :: .undef :: .undef :: .undef :: .undef :: .undef :: .undef :: .undef :: .undef :: .undef :: .undef :: .undef :: .undef :: .undef :: .undef :: .undef :: .undef :: .undef :: .undef :: .undef :: .undef :: .undef :: .undef :: .undef :: .undef :: .undef :: .undef :: .undef :: .undef :: .undef :: .undef :: .undef :: .undef :: .undef :: .undef :: .undef :: .undef :: .undef :: .undef :: .undef :: .undef :: .undef :: .undef :: .undef :: .undef :: .undef :: .undef :: .undef :: .undef :: .undef :: .undef :: .undef :: .undef :: .undef :: .undef :: .undef :: .undef :: .undef :: .undef :: .undef :: .undef :: .undef :: .undef :: .undef :: .undef :: .undef :: .undef :: .undef :: .undef :: .undef :: .undef :: .undef :: .undef :: .undef :: .undef :: .undef :: []), B.obj sp true, 0, []⟩
    refine VLoop.enter (s' := S1 (0, newB.put f, sp1)) (weak_of ?_ (.cons (.eq rfl) (.cons (.eq rfl) (.cons (.eq rfl) (.cons (.eq rfl) .nil)))) rfl rfl rfl)
      (VLoop.indW S1 (fun x => 2 - x.1) (fun x => x.1 ≤ 2 ∧ C5 x.2.2 ∧ Part R x.2.1 (qP f m x.1)) ?_ (0, newB.put f, sp1) ⟨by simp, hsp1, hP⟩)
    · repeat' first
        | exact VWs.nil
        | refine VWs.cons VW.undef ?_
        | refine VWs.cons (VW.eq rfl) ?_
    clear hP hP0 ok0 hsp1 sp1
    rintro ⟨k, B, sp⟩ ⟨hk2, hsp, hP⟩ ih
    simp only at hk2 hsp hP
    have hBl := hP.len
    refine loop_round [22] ?_; conv => whnf
    repeat (refine step_go [22] ?_; conv => whnf)
    refine two (fun g => ?_) (fun g => ?_)
    · have hk : k < 2 := by simp at g; omega
      conv => whnf
      repeat (refine step_go [22] ?_; conv => whnf)
      let S2 : Nat × Bk × List V → St := fun ⟨j, B, sp⟩ => ⟨(.undef :: .undef :: .undef :: .undef :: .undef :: .undef :: .bool false :: .sl (eL R) .no :: .sl (eL m) .no :: .undef :: .undef :: .ptr 0 0 :: .undef :: .undef :: .int .i64 (k : Nat) :: .int .i64 (j : Nat) :: .undef :: .undef :: .undef :: .undef :: .undef :: .undef :: .undef :: .undef :: .undef :: .undef :: .undef :: .undef :: .undef :: .undef :: .undef :: .undef :: .undef :: .undef :: .undef :: .undef :: .undef :: .undef :: .undef :: .undef :: .undef :: .undef :: .undef :: .undef :: .undef :: .undef :: .undef :: .undef :: .undef :: .undef :: .undef :: .undef :: .undef :: .undef :: .undef :: .undef :: .undef :: .undef :: .undef :: .undef :: .undef :: .undef :: .undef :: .undef :: .undef :: .undef :: .undef :: .undef :: .undef :: .undef :: .undef :: .undef :: .undef :: .undef :: .undef :: .undef :: .undef :: .undef :: .undef :: .undef :: .undef :: .undef :: .undef :: .undef :: .undef :: .undef :: .undef :: .undef :: .undef :: .undef :: .undef :: .undef :: .undef :: .undef :: .undef :: .undef :: .undef :: .undef :: .undef :: .undef :: .undef :: .undef :: .undef :: .undef :: .undef :: .undef :: .undef :: .undef :: .undef :: .undef :: .undef :: .undef :: .undef :: .undef :: .undef :: .undef :: .undef :: .undef :: .undef :: .undef :: .undef :: .undef :: .undef :: .undef :: .undef :: .undef :: .undef :: .undef :: .undef :: .undef :: .undef :: .undef :: .undef :: .undef :: .undef :: .undef :: .undef :: []), B.obj sp true, 0, []⟩
      refine VLoop.enter (s' := S2 (0, B, sp)) (weak_of ?_ (.cons (.eq rfl) (.cons (.eq rfl) (.cons (.eq rfl) (.cons (.eq rfl) .nil)))) rfl rfl rfl)
        (VLoop.indW S2 (fun x => m.length - x.1) (fun x => x.1 ≤ m.length ∧ C5 x.2.2 ∧ Part R x.2.1 fun y => qP f m k y ∨ (y ∈ m.take x.1 ∧ (y.kind = 5 ↔ k = 1))) ?_ (0, B, sp) ⟨by simp, hsp, hP.skip fun x _ => by simp⟩)
      · repeat' first
          | exact VWs.nil
          | refine VWs.cons VW.undef ?_
          | refine VWs.cons (VW.eq rfl) ?_
      clear hP hBl hsp
      rintro ⟨j, B, sp⟩ ⟨hj, hsp, hP⟩ ih2
      simp only at hj hsp hP
      have hBl := hP.len
      refine loop_round [22] ?_; conv => whnf
      repeat (refine step_go [22] ?_; conv => whnf)
      refine two (fun g => ?_) (fun g => ?_)
      · have hjl : j < m.length := by simp [hmL] at g; omega
        conv => whnf
        repeat (refine step_go [22] ?_; conv => whnf)
        refine ⟨by omega, _, get_at hjl, rfl, ?_⟩; conv => whnf
        repeat (refine step_go [22] ?_; conv => whnf)
        refine two (fun g => ?_) (fun g => ?_)
        · have hne : ¬ (m[j].kind = 5 ↔ k = 1) := by
            rw [show (k = 1) = ((k : Int) = 1) from propext (by omega)]
            by_cases a : m[j].kind = 5 <;> by_cases b : (k : Int) = 1 <;> simp [a, b] at g ⊢
            exact g (by rw [beq_eq_false_iff_ne.2 a, beq_eq_false_iff_ne.2 b])
          conv => whnf
          repeat (refine step_go [22] ?_; conv => whnf)
          refine ⟨S2 (j + 1, B, sp), weak_of ?_ (.cons (.eq rfl) (.cons (.eq rfl) (.cons (.eq rfl) (.cons (.eq rfl) .nil)))) rfl rfl rfl, ih2 (j + 1, B, sp) ⟨by simp only; omega, hsp, ?_⟩ (by simp only; omega)⟩
          · repeat' first
              | exact VWs.nil
              | refine VWs.cons VW.undef ?_
              | refine VWs.cons (VW.eq rfl) ?_
              | refine VWs.cons (VW.eq (congrArg (V.int .i64) (by rw [wrap64 (by omega) (by omega)]; omega))) ?_
          · refine hP.skip fun x _ => ?_
            rw [take_mem hjl]
            constructor
            · rintro (h1 | ⟨h2 | rfl, h3⟩)
              · exact .inl h1
              · exact .inr ⟨h2, h3⟩
              · exact absurd h3 hne
            · rintro (h1 | ⟨h2, h3⟩)
              · exact .inl h1
              · exact .inr ⟨.inl h2, h3⟩
        · have heq : m[j].kind = 5 ↔ k = 1 := by
            rw [show (k = 1) = ((k : Int) = 1) from propext (by omega)]
            by_cases a : m[j].kind = 5 <;> by_cases b : (k : Int) = 1 <;> simp [a, b] at g ⊢
          have hjm : m[j] ∈ m := List.getElem_mem hjl
          have hjR : m[j] ∈ R := (hrR _).2 (.inr hjm)
          have ok : Ok B.l m[j] := hP.ok hI (by omega) hjR (fun h => by
              rcases h with (h | ⟨_, h⟩) | ⟨h, _⟩
              · exact hfm (h ▸ hjm)
              · split at h <;> omega
              · exact take_not hmu hjl h)
            (fun _ x hx hx1 => by
              rcases (hrR x).1 hx with h | h
              · exact .inl (.inl h)
              · exact absurd hx1 (hm1 x h))
            (fun h5 y hy hy2 => by
              rcases (hrR y).1 hy with h | h
              · exact .inl (.inl h)
              · refine .inl (.inr ⟨h, ?_⟩)
                rw [if_neg (by omega)]
                have := heq.1 h5
                omega)
          conv => whnf
          repeat (refine step_go [22] ?_; conv => whnf)
          refine ⟨by omega, _, get_at hjl, rfl, ?_⟩; conv => whnf
          refine c_put_in B sp m[j] hsp hP.good.srt (by omega) (may_in hP.good ok) _ fun sp2 hsp2 => ?_; conv => whnf
          repeat (refine step_go [22] ?_; conv => whnf)
          refine ⟨S2 (j + 1, B.put m[j], sp2), weak_of ?_ (.cons (.eq rfl) (.cons (.eq rfl) (.cons (.eq rfl) (.cons (.eq rfl) .nil)))) rfl rfl rfl, ih2 (j + 1, B.put m[j], sp2) ⟨by simp only; omega, hsp2, ?_⟩ (by simp only; omega)⟩
          · repeat' first
              | exact VWs.nil
              | refine VWs.cons VW.undef ?_
              | refine VWs.cons (VW.eq rfl) ?_
              | refine VWs.cons (VW.eq (congrArg (V.int .i64) (by rw [wrap64 (by omega) (by omega)]; omega))) ?_
          · refine hP.in ok hjR fun x _ => ?_
            rw [take_mem hjl]
            constructor
            · rintro (h1 | ⟨h2 | h2, h3⟩)
              · exact .inl (.inl h1)
              · exact .inl (.inr ⟨h2, h3⟩)
              · exact .inr h2
            · rintro ((h1 | ⟨h2, h3⟩) | rfl)
              · exact .inl h1
              · exact .inr ⟨.inl h2, h3⟩
              · exact .inr ⟨.inr rfl, heq⟩
      have hjl : j = m.length := by simp [hmL] at g; omega
      subst hjl
      clear ih2 g
      have hP : Part R B (qP f m (k + 1)) := hP.skip fun x _ => by
        rw [List.take_length]
        unfold qP
        constructor
        · rintro (h | ⟨h, h2⟩)
          · exact .inl (.inl h)
          · by_cases h5 : x.kind = 5
            · rw [if_pos h5] at h2
              by_cases hk1 : k = 1
              · exact .inr ⟨h, by simp [h5, hk1]⟩
              · exact .inl (.inr ⟨h, by rw [if_pos h5]; omega⟩)
            · rw [if_neg h5] at h2
              by_cases hk1 : k = 1
              · exact .inl (.inr ⟨h, by rw [if_neg h5]; omega⟩)
              · exact .inr ⟨h, by simp [h5, hk1]⟩
        · rintro ((h | ⟨h, h2⟩) | ⟨h, h2⟩)
          · exact .inl h
          · refine .inr ⟨h, ?_⟩
            split at h2 <;> rename_i h5
            · rw [if_pos h5]; omega
            · rw [if_neg h5]; omega
          · refine .inr ⟨h, ?_⟩
            by_cases h5 : x.kind = 5
            · have := h2.1 h5; rw [if_pos h5]; omega
            · rw [if_neg h5]; omega
      conv => whnf
      refine ⟨_, Weak.refl, ?_⟩; conv => whnf
      repeat (refine step_go [22] ?_; conv => whnf)
      refine ⟨S1 (k + 1, B, sp), weak_of ?_ (.cons (.eq rfl) (.cons (.eq rfl) (.cons (.eq rfl) (.cons (.eq rfl) .nil)))) rfl rfl rfl, ih (k + 1, B, sp) ⟨by simp only; omega, hsp, hP⟩ (by simp only; omega)⟩
      · repeat' first
          | exact VWs.nil
          | refine VWs.cons VW.undef ?_
          | refine VWs.cons (VW.eq rfl) ?_
          | refine VWs.cons (VW.eq (congrArg (V.int .i64) (by rw [wrap64 (by omega) (by omega)]; omega))) ?_
    have hk : k = 2 := by simp at g; omega
    subst hk
    clear ih g
    have hBR : B.l = R := srt_eq hP.good.srt hI.srt fun x => by
      rw [hP.mem x]
      constructor
      · exact fun h => h.1
      · intro h
        refine ⟨h, ?_⟩
        rcases (hrR x).1 h with h1 | h1
        · exact .inl h1
        · exact .inr ⟨h1, by split <;> omega⟩
    conv => whnf
    refine ⟨_, Weak.refl, ?_⟩; conv => whnf
    repeat (refine step_go [22] ?_; conv => whnf)
    refine c_all B sp (by omega) _ ?_
    rw [hBR]; conv => whnf
    refine c_plain R (by omega) _ ?_; conv => whnf
    repeat (refine step_go [22] ?_; conv => whnf)
    refine c_counting B sp (by omega) _ ?_
    rw [cnt_eq hP.good, hBR]; conv => whnf
    refine c_rcounting R (by omega) _ ?_; conv => whnf
    refine c_plain (rCnt R) (by have := List.length_filter_le (rcntP R) R; unfold rCnt; omega) _ ?_; conv => whnf
    repeat (refine step_go [22] ?_; conv => whnf)
end E19

namespace Go.Proofs.Ytopoljadcjeflaa.OrderAny
open Go Go.Proofs VL Go.ChangeShapes
set_option linter.unusedVariables false
set_option linter.unusedSimpArgs false

theorem own : ownKnob Try.prog.godebug = none := by kernel_rfl
theorem laidOut : laidOutB Try.prog = true := by kernel_rfl

theorem law : ∀ xs, ShAs [(.int .i64, false), (.sl (.row [.int .i64, .int .i64, .int .i64, .int .i64, .int .i64]) 5 40 true, false), (.sl (.int .i64) 1 8 false, false)] xs →
    VCall Try.prog 11 xs [] fun out _ => out = .ret (.bool true) := by
  intro xs h
  simp only [ShAs, ShA, ShT, if_true, Bool.false_eq_true, if_false] at h
  obtain ⟨_, _, rfl, ⟨a, h0, _⟩, _, _, rfl, ⟨l, h1, hl, hx⟩, _, _, rfl, ⟨c, h2, hc, hy⟩, rfl⟩ := h
  cases h0; cases h1; cases h2
  obtain ⟨es, rfl, _⟩ := E26.evs_of hx
  obtain ⟨ns, rfl, _⟩ := ints_of hy
  exact E19.any a es _ ⟨ns, rfl⟩ (by rw [E26.eL_len] at hl; omega) (by omega)

set_option maxRecDepth 100000 in
theorem lifted (os : Os) (started : os.Started) (H : Type) (enc : TypeId × Value → H) :
    ReturnsInHanded {} Try.checked os 11 .any (Rows.orderAnySpec.pre6 enc Try.prog Try.f11 Rows.orderAnyRow.domain false)
      (Rows.orderAnySpec.post enc Try.prog Try.f11 false true false false) := by
  refine returnsInHanded_of_change_sized (C := Try.checked) own started (by kernel_rfl) Try.func11
    (ChangeSpec.witness6 (enc := enc) (C := Try.checked) false ⟨#[], #[.int .i64 0, .slice none 0 0, .slice none 0 0], []⟩ 8 (by kernel_rfl) (by kernel_rfl) (by kernel_rfl) (by kernel_rfl)) ?_
  intro W base args ds gs before hval hW _ hsz _
  exact law_lift (n := 9) (ts := Try.f11.params.toList) rfl laidOut (by kernel_rfl) rfl rfl (by kernel_rfl) (by kernel_rfl)
    (fun ds h => match ds, h with | [_, _, _], _ => rfl) Try.func11 (by rfl) (by rfl) law W base args ds gs before hval hW hsz

theorem proved : Rows.OrderAnySaid :=
  OpenClaim.holds_of_wide 11 Try.f11 rfl rfl rfl rfl rfl rfl rfl ⟨rfl, rfl, rfl, rfl, rfl⟩ rfl rfl rfl rfl rfl (by kernel_rfl) Try.func11 (by kernel_rfl)
    (of_decide_eq_true (by kernel_rfl)) (by unfold Func.isWrapper; first | (rw [if_pos (by decide +kernel)]; kernel_rfl) | (rw [if_neg (by decide +kernel)]; exact ⟨rfl, rfl⟩))
    (fun os started H enc _ => lifted os started H enc)
#print axioms proved
end Go.Proofs.Ytopoljadcjeflaa.OrderAny

