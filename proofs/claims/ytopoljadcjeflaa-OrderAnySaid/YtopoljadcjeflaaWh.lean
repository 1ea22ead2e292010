/- Part Wh of the proof: E19a E19b E19c E19d E19e E19f E19g E19h. -/
import Derived.Test.YtopoljadcjeflaaWg
namespace E19
open Go Go.Proofs VL E18 E26
set_option pp.maxSteps 800
set_option linter.unusedSimpArgs false
set_option linter.unusedVariables false
set_option maxRecDepth 100000

@[irreducible] def cmpI (a b : Int) : Int := if a < b then -1 else if b < a then 1 else 0
@[irreducible] def cmpE (a b : Ev) : Int := if cmpI a.day b.day = 0 then cmpI a.key b.key else cmpI a.day b.day
def ltE (a b : Ev) : Prop := a.day < b.day ∨ a.day = b.day ∧ a.key < b.key
instance (a b : Ev) : Decidable (ltE a b) := by unfold ltE; exact inferInstance

theorem cmpE_lt {a b : Ev} : cmpE a b < 0 ↔ ltE a b := by
  unfold cmpE cmpI ltE
  split <;> (repeat' split) <;> omega

theorem c_nan (x : Int) (K) (h : K (.ret (.bool false)) []) : VCall Try.prog 82 [.int .i64 x] [] K := by
  refine call_fun [] 0 Try.func82 (by rfl) (by rfl) ?_
  conv => whnf
  repeat (refine step_go [] ?_; conv => whnf)
  refine Eq.mp (congrArg (fun b => K (.ret (.bool b)) []) ?_) h
  simp

theorem c_cmpI (a b : Int) (K) (h : K (.ret (.int .i64 (cmpI a b))) []) : VCall Try.prog 78 [.int .i64 a, .int .i64 b] [] K := by
  refine call_fun [] 0 Try.func78 (by rfl) (by rfl) ?_
  conv => whnf
  repeat' first
    | (refine step_go [] ?_; conv => whnf)
    | (refine c_nan _ _ ?_; conv => whnf)
    | (refine two (fun g => ?_) (fun g => ?_) <;> (conv => whnf))
  all_goals
    refine Eq.mp (congrArg (fun b => K (.ret (.int .i64 b)) []) ?_) h
    unfold cmpI
    simp only [decide_eq_true_eq, decide_eq_false_iff_not] at *
    repeat' split
    all_goals omega

theorem c_or (a b : Int) (K) (h : K (.ret (.int .i64 (if a = 0 then b else a))) []) : VCall Try.prog 77 [.sl [.int .i64 a, .int .i64 b] .no] [] K := by
  refine call_fun [] 0 Try.func77 (by rfl) (by rfl) ?_
  conv => whnf
  repeat' first
    | (refine step_go [] ?_; conv => whnf)
    | (refine loop_round [] ?_; conv => whnf)
    | (refine ⟨by decide, _, rfl, rfl, ?_⟩; conv => whnf)
    | (refine two (fun g => ?_) (fun g => ?_) <;> (conv => whnf))
    | (refine ⟨_, Weak.refl, ?_⟩; conv => whnf)
  all_goals
    refine Eq.mp (congrArg (fun b => K (.ret (.int .i64 b)) []) ?_) h
    simp_all

theorem c_cmpE (a b : Ev) (K) (h : K (.ret (.int .i64 (cmpE a b))) []) : VCall Try.prog 64 [encE a, encE b] [] K := by
  refine call_fun [] 0 Try.func64 (by rfl) (by rfl) ?_
  conv => whnf
  repeat (refine step_go [] ?_; conv => whnf)
  refine ⟨by decide +kernel, ?_⟩; conv => whnf
  repeat' first
    | (refine step_go [] ?_; conv => whnf)
    | (refine And.intro rfl ?_; conv => whnf)
    | (refine c_cmpI _ _ _ ?_; conv => whnf)
    | (refine VCall.args (args' := [.sl [.int .i64 (cmpI a.day b.day), .int .i64 (cmpI a.key b.key)] .no]) (.cons .no .nil) rfl ?_; refine c_or _ _ _ ?_; conv => whnf)
  unfold cmpE at h
  exact h
end E19

namespace E19
open Go Go.Proofs VL E18 E26
set_option pp.maxSteps 800
set_option linter.unusedSimpArgs false
set_option linter.unusedVariables false
set_option maxRecDepth 100000

def Srt (l : List Ev) : Prop := l.Pairwise ltE
@[irreducible] def posS (l : List Ev) (e : Ev) : Nat := (l.takeWhile fun x => decide (ltE x e)).length
@[irreducible] def foundS (l : List Ev) (e : Ev) : Bool := match l[posS l e]? with | some x => cmpE x e == 0 | none => false

theorem ltE_trans {a b c : Ev} (h1 : ltE a b) (h2 : ltE b c) : ltE a c := by unfold ltE at *; omega

theorem pos_le (l : List Ev) (e : Ev) : posS l e ≤ l.length := by
  unfold posS
  exact (List.takeWhile_sublist _).length_le

theorem pos_lt {l : List Ev} {e : Ev} {k : Nat} (hk : k < posS l e) (hl : k < l.length) : ltE l[k] e := by
  unfold posS at hk
  induction l generalizing k with
  | nil => simp at hl
  | cons x r ih =>
    by_cases hx : ltE x e
    · rw [List.takeWhile_cons_of_pos (by simpa using hx)] at hk
      cases k with
      | zero => exact hx
      | succ k => exact ih (by simpa using hk) (by simpa using hl)
    · rw [List.takeWhile_cons_of_neg (by simpa using hx)] at hk
      simp at hk

theorem pos_ge {l : List Ev} {e : Ev} (hs : Srt l) {k : Nat} (hk : posS l e ≤ k) (hl : k < l.length) : ¬ ltE l[k] e := by
  unfold posS at hk
  induction l generalizing k with
  | nil => simp at hl
  | cons x r ih =>
    have hs' := List.pairwise_cons.1 hs
    by_cases hx : ltE x e
    · rw [List.takeWhile_cons_of_pos (by simpa using hx)] at hk
      cases k with
      | zero => simp at hk
      | succ k => exact ih hs'.2 (by simpa using hk) (by simpa using hl)
    · intro h
      cases k with
      | zero => exact hx h
      | succ k => exact hx (ltE_trans (hs'.1 _ (List.getElem_mem (by simpa using hl))) h)

theorem shr1 {i j : Nat} (h : i + j < 4611686018427387904) : IntKind.i64.wrap (shiftV .shr .u64 (IntKind.u64.wrap (IntKind.i64.wrap ((i : Int) + (j : Int)))) 1) = (((i + j) / 2 : Nat) : Int) := by
  rw [wrap64 (x := (i : Int) + (j : Int)) (by omega) (by omega), wrapU64 (by omega) (by omega)]
  unfold shiftV
  simp only
  rw [show (min (Int.toNat 1) IntKind.u64.bits) = 1 by decide, Int.fdiv_eq_ediv_of_nonneg _ (by decide)]
  show IntKind.i64.wrap (((i : Int) + (j : Int)) / 2) = _
  rw [wrap64 (by omega) (by omega)]
  omega

theorem c_search (l : List Ev) (e : Ev) (hs : Srt l) (hl : l.length < 1000000) (K) (h : K (.ret (.tup [.int .i64 (posS l e : Nat), .bool (foundS l e)])) []) :
    VCall Try.prog 63 [.sl (eL l) .no, encE e, .fn (.func 64) [] []] [] K := by
  have hlen := eL_len l
  refine call_fun [] 0 Try.func63 (by rfl) (by rfl) ?_
  conv => whnf
  repeat (refine step_go [] ?_; conv => whnf)
  let S : Nat × Nat → St := fun ⟨i, j⟩ => ⟨(.sl (eL l) .no :: .undef :: .fn (.func 64) [] [] :: .undef :: .ptr 0 0 :: .undef :: .int .i64 0 :: .bool false :: .int .i64 l.length :: .int .i64 (i : Nat) :: .int .i64 (j : Nat) :: .undef :: .undef :: .undef :: .undef :: .undef :: .undef :: .undef :: .undef :: .undef :: .undef :: .undef :: .undef :: .undef :: .undef :: .undef :: .undef :: .undef :: .undef :: .undef :: .undef :: .undef :: .undef :: .undef :: .undef :: .undef :: .undef :: .undef :: .undef :: .undef :: .undef :: .undef :: .undef :: .undef :: .undef :: .undef :: .undef :: .undef :: .undef :: []), [.cells true 23 [.int .i64 e.key, .int .i64 e.kind, .int .i64 e.day, .int .i64 e.amount, .int .i64 e.ref]], 0, []⟩
  refine VLoop.enter (s' := S (0, l.length)) (weak_of ?_ (.cons (.eq rfl) .nil) rfl rfl rfl) (VLoop.indW S (fun x => x.2 - x.1) (fun x => x.1 ≤ posS l e ∧ posS l e ≤ x.2 ∧ x.2 ≤ l.length) ?_ (0, l.length) ⟨by omega, pos_le l e, Nat.le_refl _⟩)
  · repeat' first
      | exact VWs.nil
      | refine VWs.cons VW.undef ?_
      | refine VWs.cons (VW.eq rfl) ?_
      | refine VWs.cons (VW.eq (by rw [hlen])) ?_
  · rintro ⟨i, j⟩ ⟨h1, h2, h3⟩ ih
    simp only at h1 h2 h3
    refine loop_round [] ?_; conv => whnf
    repeat (refine step_go [] ?_; conv => whnf)
    refine two (fun g => ?_) (fun g => ?_)
    · have hij : i < j := by simp at g; omega
      have hm1 : i ≤ (i + j) / 2 := by omega
      have hm2 : (i + j) / 2 < j := by omega
      have hml : (i + j) / 2 < l.length := by omega
      have hget : (eL l)[Int.toNat (((i + j) / 2 : Nat) : Int)]? = some (encE l[(i + j) / 2]) := by rw [Int.toNat_natCast, eL_get, List.getElem?_eq_getElem hml]; rfl
      conv => whnf
      repeat (refine step_go [] ?_; conv => whnf)
      refine ⟨by decide, ?_⟩; conv => whnf
      rw [shr1 (by omega)]
      repeat (refine step_go [] ?_; conv => whnf)
      refine ⟨by decide +kernel, ?_⟩; conv => whnf
      repeat' first
        | (refine step_go [] ?_; conv => whnf)
        | (refine ⟨by omega, _, hget, rfl, ?_⟩; conv => whnf)
        | (refine And.intro rfl ?_; conv => whnf)
        | (refine c_cmpE l[(i + j) / 2] e _ ?_; conv => whnf)
      refine two (fun g => ?_) (fun g => ?_)
      · have g : ltE l[(i + j) / 2] e := cmpE_lt.1 (by simpa using g)
        have hp : (i + j) / 2 < posS l e := Nat.lt_of_not_le fun h => pos_ge hs h hml g
        conv => whnf
        repeat (refine step_go [] ?_; conv => whnf)
        refine ⟨S ((i + j) / 2 + 1, j), weak_of ?_ (.cons (.eq rfl) .nil) rfl rfl rfl, ih ((i + j) / 2 + 1, j) ⟨by simp only; omega, h2, h3⟩ (by simp only; omega)⟩
        repeat' first
          | exact VWs.nil
          | refine VWs.cons VW.undef ?_
          | refine VWs.cons (VW.eq rfl) ?_
          | refine VWs.cons (VW.eq (congrArg (V.int .i64) (by rw [wrap64 (by omega) (by omega)]; omega))) ?_
      · have g : ¬ ltE l[(i + j) / 2] e := fun h => by have := cmpE_lt.2 h; simp at g; omega
        have hp : posS l e ≤ (i + j) / 2 := Nat.le_of_not_lt fun h => g (pos_lt h hml)
        conv => whnf
        repeat (refine step_go [] ?_; conv => whnf)
        refine ⟨S (i, (i + j) / 2), weak_of ?_ (.cons (.eq rfl) .nil) rfl rfl rfl, ih (i, (i + j) / 2) ⟨h1, hp, by simp only; omega⟩ (by simp only; omega)⟩
        repeat' first
          | exact VWs.nil
          | refine VWs.cons VW.undef ?_
          | refine VWs.cons (VW.eq rfl) ?_
    · have hij : i = posS l e := by simp at g; omega
      subst hij
      conv => whnf
      refine ⟨_, Weak.refl, ?_⟩; conv => whnf
      repeat (refine step_go [] ?_; conv => whnf)
      refine ⟨by decide +kernel, ?_⟩; conv => whnf
      refine two (fun g => ?_) (fun g => ?_)
      · have hpl : posS l e < l.length := by simpa using g
        have hget : (eL l)[Int.toNat ((posS l e : Nat) : Int)]? = some (encE l[posS l e]) := by rw [Int.toNat_natCast, eL_get, List.getElem?_eq_getElem hpl]; rfl
        have hf : foundS l e = (cmpE l[posS l e] e == 0) := by unfold foundS; rw [List.getElem?_eq_getElem hpl]
        conv => whnf
        repeat' first
          | (refine step_go [] ?_; conv => whnf)
          | (refine ⟨by omega, _, hget, rfl, ?_⟩; conv => whnf)
          | (refine And.intro rfl ?_; conv => whnf)
          | (refine yes g ?_; conv => whnf)
          | (refine c_cmpE l[posS l e] e _ ?_; conv => whnf)
        rw [hf] at h
        exact h
      · have hpl : l.length ≤ posS l e := by simp at g; omega
        have hf : foundS l e = false := by unfold foundS; rw [List.getElem?_eq_none hpl]
        conv => whnf
        repeat' first
          | (refine step_go [] ?_; conv => whnf)
          | (refine And.intro rfl ?_; conv => whnf)
          | (refine no g ?_; conv => whnf)
        rw [hf] at h
        exact h
end E19

namespace E19
open Go Go.Proofs VL E18 E26
set_option pp.maxSteps 2500
set_option linter.unusedSimpArgs false
set_option linter.unusedVariables false
set_option maxRecDepth 100000

def insS (l : List Ev) (k : Nat) (e : Ev) : List Ev := l.take k ++ [e] ++ l.drop k
theorem insS_len {l : List Ev} {k : Nat} {e : Ev} (hk : k ≤ l.length) : (insS l k e).length = l.length + 1 := by simp [insS]; omega
def C5 (l : List V) : Prop := ∀ x ∈ l, x.cells.length = 5
theorem c5_sub {l m : List V} (h : C5 l) (hs : ∀ x ∈ m, x ∈ l) : C5 m := fun x hx => h x (hs x hx)

theorem cpy {A Y T m : List V} {lo n : Nat} (hA : A.length = lo) (hY : Y.length = min m.length n) : List.take lo (A ++ (Y ++ T)) ++ List.take n m ++ List.drop (lo + min m.length n) (A ++ (Y ++ T)) = A ++ (List.take n m ++ T) := by
  rw [List.take_left' hA, ← List.drop_drop, List.drop_left' hA, List.drop_left' hY, List.append_assoc]

theorem c_over (e : Ev) {L : List V} {lo n c : Nat} (hc : lo + c ≤ L.length) (K) (h : K (.ret (.bool false)) [.buf false 5 L]) : VCall Try.prog 79 [.sl [encE e] .no, .slo 0 5 lo n c] [.buf false 5 L] K :=
  c_overlaps (tS := 39) (tR := 4) (e := 23) (size := 5) Try.func79 (by rfl) (by rfl) (by kernel_rfl) (by kernel_rfl) (by kernel_rfl) (fun w => by kernel_rfl) (.inr (by simp [encE, V.cells])) (by decide) hc h

theorem c_insert (l : List Ev) (e : Ev) (sp : List V) (hsp : C5 sp) (k : Nat) (hk : k ≤ l.length) (hl : l.length < 100000) (K)
    (h : ∀ sp', C5 sp' → K (.ret (.slo 0 5 0 (l.length + 1) (l.length + 1 + sp'.length))) [.buf true 5 (eL (insS l k e) ++ sp')]) :
    VCall Try.prog 65 [.slo 0 5 0 l.length (l.length + sp.length), .int .i64 k, .sl [encE e] .no] [.buf false 5 (eL l ++ sp)] K := by
  have hlen := eL_len l
  have hL : (eL l ++ sp).length = l.length + sp.length := by rw [List.length_append, hlen]
  refine VCall.weak (call_fun [] 1 Try.func65 (by rfl) (by rfl) ?_)
  conv => whnf
  repeat (refine step_go [] ?_; conv => whnf)
  rw [Int.toNat_natCast]
  refine ⟨by omega, by omega, ?_⟩; conv => whnf
  repeat (refine step_go [] ?_; conv => whnf)
  refine two (fun g => ?_) (fun g => ?_)
  · have hkl : k = l.length := by simp at g; omega
    subst hkl
    conv => whnf
    repeat (refine step_go [] ?_; conv => whnf)
    refine ⟨by simp; omega, by simp [V.cells, encE], ?_⟩; conv => whnf
    have hins : eL (insS l l.length e) = eL l ++ [encE e] := by simp [insS, eL]
    refine two (fun g => ?_) (fun g => ?_)
    · have hc := Nat.le_of_ble_eq_true g
      simp only [List.length_singleton] at hc
      refine ⟨by omega, ?_⟩; conv => whnf
      repeat (refine step_go [] ?_; conv => whnf)
      have h' := h (sp.drop 1) (c5_sub hsp fun x hx => List.mem_of_mem_drop hx)
      have e1 : List.take (0 + l.length) (eL l ++ sp) ++ [encE e] ++ List.drop (0 + l.length + [encE e].length) (eL l ++ sp) = eL (insS l l.length e) ++ sp.drop 1 := by
        rw [hins, Nat.zero_add, ← hlen, List.take_left, List.length_singleton, List.drop_append]
        simp
      have e2 : l.length + 1 + (sp.drop 1).length = l.length + sp.length := by simp; omega
      rw [e2, ← e1] at h'
      exact ⟨_, _, weak_of (.cons (.eq rfl) .nil) (.cons .moved .nil) rfl rfl rfl, h'⟩
    · refine ⟨by omega, fun sp' hsp' => ?_⟩; conv => whnf
      repeat (refine step_go [] ?_; conv => whnf)
      have h' := h sp' hsp'
      have e1 : List.take l.length (List.drop 0 (eL l ++ sp)) ++ [encE e] ++ sp' = eL (insS l l.length e) ++ sp' := by
        rw [hins, List.drop_zero, ← hlen, List.take_left]
      obtain ⟨s', hw, rfl⟩ := weak_sel (m := 1) (src := [1]) (s := ⟨[.slo 1 5 0 (l.length + [encE e].length) (l.length + [encE e].length + sp'.length)], [.buf false 5 (eL l ++ sp), .buf false 5 (List.take l.length (List.drop 0 (eL l ++ sp)) ++ [encE e] ++ sp')], 0, []⟩)
        (K := fun s' => s' = ⟨[.slo 0 5 0 (l.length + [encE e].length) (l.length + [encE e].length + sp'.length)], [.buf true 5 (List.take l.length (List.drop 0 (eL l ++ sp)) ++ [encE e] ++ sp')], 0, []⟩) rfl
      rw [← e1] at h'
      exact ⟨_, _, hw, h'⟩
  · have hkl : k < l.length := by simp at g; omega
    have w1 : IntKind.i64.wrap ((l.length : Int) + (([encE e].length : Nat) : Int)) = ((l.length + 1 : Nat) : Int) := by rw [List.length_singleton, wrap64 (by omega) (by omega)]; omega
    have w2 : IntKind.i64.wrap (((l.length + 1 : Nat) : Int) - (k : Int)) = ((l.length + 1 - k : Nat) : Int) := by rw [wrap64 (by omega) (by omega)]; omega
    have w3 : IntKind.i64.wrap ((k : Int) + (([encE e].length : Nat) : Int)) = ((k + 1 : Nat) : Int) := by rw [List.length_singleton, wrap64 (by omega) (by omega)]; omega
    have hAl : (eL (l.take k)).length = k := by rw [eL_len, List.length_take]; omega
    have hBl : (eL (l.drop k)).length = l.length - k := by rw [eL_len, List.length_drop]
    have hAB : eL l = eL (l.take k) ++ eL (l.drop k) := by rw [eL_app, List.take_append_drop]
    have hins : eL (insS l k e) = eL (l.take k) ++ [encE e] ++ eL (l.drop k) := by simp [insS, eL]
    conv => whnf
    repeat (refine step_go [] ?_; conv => whnf)
    rw [w1]
    refine two (fun g => ?_) (fun g => ?_)
    · have hcap : l.length + sp.length < l.length + 1 := by simp at g; omega
      conv => whnf
      repeat (refine step_go [] ?_; conv => whnf)
      rw [Int.toNat_natCast]
      refine ⟨by omega, by omega, by omega, ?_⟩; conv => whnf
      repeat (refine step_go [] ?_; conv => whnf)
      rw [w1, w2]
      refine ⟨by omega, by omega, ?_⟩; conv => whnf
      obtain ⟨Z, hZ⟩ : ∃ Z, Z = List.replicate (((l.length + 1 - k : Nat) : Int)).toNat (ofConstAgg (Value.agg #[Value.int IntKind.i64 0, Value.int IntKind.i64 0, Value.int IntKind.i64 0, Value.int IntKind.i64 0, Value.int IntKind.i64 0])) := ⟨_, rfl⟩
      rw [← hZ]
      have hZl : Z.length = l.length + 1 - k := by rw [hZ, List.length_replicate, Int.toNat_natCast]
      have hZ5 : C5 Z := fun x hx => by rw [hZ] at hx; rw [List.eq_of_mem_replicate hx]; rfl
      refine ⟨by simp only [Int.toNat_zero]; omega, hZ5, ?_⟩; conv => whnf
      refine no (Bool.eq_false_iff.2 fun hb => by have := Nat.le_of_ble_eq_true hb; simp only [Int.toNat_zero] at this; omega) ⟨by simp only [Int.toNat_zero]; omega, fun sp' hsp' => ?_⟩; conv => whnf
      repeat (refine step_go [] ?_; conv => whnf)
      have n0 : k - Int.toNat 0 + Z.length = l.length + 1 := by simp only [Int.toNat_zero]; omega
      have hX : List.take (k - Int.toNat 0) (List.drop (0 + Int.toNat 0) (eL l ++ sp)) = eL (l.take k) := by
        simp only [Int.toNat_zero, Nat.sub_zero, Nat.add_zero, List.drop_zero]
        rw [hAB, List.append_assoc, List.take_left' hAl]
      rw [n0]
      refine ⟨by omega, by omega, ?_⟩; conv => whnf
      repeat (refine step_go [] ?_; conv => whnf)
      rw [hX, Int.toNat_natCast]
      refine ⟨by simp [V.cells, encE], ?_⟩; conv => whnf
      refine ⟨by simp only [List.length_append]; omega, ?_⟩; conv => whnf
      repeat (refine step_go [] ?_; conv => whnf)
      refine ⟨by decide +kernel, ?_⟩; conv => whnf
      rw [w3]
      refine ⟨by omega, by omega, ?_⟩; conv => whnf
      refine ⟨by omega, by omega, ?_⟩; conv => whnf
      have hc1 : List.take (0 + k) (eL (List.take k l) ++ Z ++ sp') ++ List.take (l.length + 1 - k) [encE e] ++ List.drop (0 + k + min [encE e].length (l.length + 1 - k)) (eL (List.take k l) ++ Z ++ sp') = eL (l.take k) ++ [encE e] ++ (Z.drop 1 ++ sp') := by
        have h0 := cpy (A := eL (l.take k)) (Y := Z.take 1) (T := Z.drop 1 ++ sp') (m := [encE e]) (lo := k) (n := l.length + 1 - k) hAl (by simp; omega)
        have e0 : eL (l.take k) ++ Z ++ sp' = eL (l.take k) ++ (Z.take 1 ++ (Z.drop 1 ++ sp')) := by rw [← List.append_assoc (Z.take 1), List.take_append_drop, List.append_assoc]
        have e2 : List.take (l.length + 1 - k) [encE e] = [encE e] := List.take_of_length_le (by simp; omega)
        rw [Nat.zero_add, e0, h0, e2, List.append_assoc]
      have hmB : List.take (l.length - (k : Int).toNat) (List.drop (0 + (k : Int).toNat) (eL l ++ sp)) = eL (l.drop k) := by
        rw [Int.toNat_natCast, Nat.zero_add, hAB, List.append_assoc, List.drop_left' hAl, List.take_left' hBl]
      rw [hc1, hmB]
      refine ⟨by rw [Int.toNat_natCast]; omega, ?_⟩; conv => whnf
      rw [Int.toNat_natCast]
      have hZ1 : (Z.drop 1).length = l.length - k := by rw [List.length_drop]; omega
      have hAE : (eL (l.take k) ++ [encE e]).length = k + 1 := by rw [List.length_append, hAl]; rfl
      refine ⟨eL_cells, ?_⟩; conv => whnf
      refine ⟨by simp only [List.length_append, List.length_singleton]; omega, ?_⟩; conv => whnf
      repeat' first
        | (refine step_go [] ?_; conv => whnf)
        | (refine And.intro rfl ?_; conv => whnf)
      have hc2 : List.take (0 + (k + 1)) (eL (List.take k l) ++ [encE e] ++ (List.drop 1 Z ++ sp')) ++ List.take (l.length + 1 - (k + 1)) (eL (List.drop k l)) ++
          List.drop (0 + (k + 1) + min (eL (List.drop k l)).length (l.length + 1 - (k + 1))) (eL (List.take k l) ++ [encE e] ++ (List.drop 1 Z ++ sp')) = eL (insS l k e) ++ sp' := by
        have hBt : List.take (l.length + 1 - (k + 1)) (eL (l.drop k)) = eL (l.drop k) := List.take_of_length_le (by omega)
        rw [Nat.zero_add, cpy hAE (by omega), hBt, hins, ← List.append_assoc]
      have h' := h sp' hsp'
      obtain ⟨s', hw, rfl⟩ := weak_sel (m := 1) (src := [1]) (s := ⟨[.slo 1 5 0 (l.length + 1) (l.length + 1 + sp'.length)], [.buf false 5 (eL l ++ sp), .buf false 5 (eL (insS l k e) ++ sp')], 0, []⟩)
        (K := fun s' => s' = ⟨[.slo 0 5 0 (l.length + 1) (l.length + 1 + sp'.length)], [.buf true 5 (eL (insS l k e) ++ sp')], 0, []⟩) rfl
      rw [hc2]
      exact ⟨_, _, hw, h'⟩
    · have hcap : l.length + 1 ≤ l.length + sp.length := by simp at g; omega
      conv => whnf
      repeat (refine step_go [] ?_; conv => whnf)
      rw [w1, Int.toNat_natCast]
      refine ⟨by omega, by omega, by omega, ?_⟩; conv => whnf
      repeat (refine step_go [] ?_; conv => whnf)
      rw [w3, Int.toNat_natCast]
      refine ⟨by omega, by simp only [Int.toNat_zero]; omega, ?_⟩; conv => whnf
      refine c_over e (by simp only [Int.toNat_zero]; omega) _ ?_; conv => whnf
      repeat (refine step_go [] ?_; conv => whnf)
      refine ⟨by decide +kernel, ?_⟩; conv => whnf
      rw [w3, Int.toNat_natCast]
      refine ⟨by omega, by simp only [Int.toNat_zero]; omega, ?_⟩; conv => whnf
      refine ⟨by omega, by simp only [Int.toNat_zero]; omega, ?_⟩; conv => whnf
      refine ⟨by simp only [Int.toNat_zero, Int.toNat_natCast]; omega, ?_⟩; conv => whnf
      have hm : List.take (l.length + 1 - Int.toNat 0 - (k : Int).toNat) (List.drop (0 + Int.toNat 0 + (k : Int).toNat) (eL l ++ sp)) = eL (l.drop k) ++ sp.take 1 := by
        simp only [Int.toNat_zero, Int.toNat_natCast, Nat.sub_zero, Nat.zero_add, Nat.add_zero]
        rw [hAB, List.append_assoc, List.drop_left' hAl, List.take_append, List.take_of_length_le (by omega), show l.length + 1 - k - (eL (l.drop k)).length = 1 by omega]
      rw [hm]
      have hs1 : (sp.take 1).length = 1 := by rw [List.length_take]; omega
      refine ⟨fun x hx => ?_, ?_⟩
      · rcases List.mem_append.1 hx with hx | hx
        · exact eL_cells x hx
        · exact hsp x (List.mem_of_mem_take hx)
      conv => whnf
      refine ⟨by simp only [Int.toNat_zero, hL]; omega, ?_⟩; conv => whnf
      have hd1 : List.take (0 + Int.toNat 0 + (k + 1)) (eL l ++ sp) ++ List.take (l.length + 1 - Int.toNat 0 - (k + 1)) (eL (List.drop k l) ++ List.take 1 sp) ++
          List.drop (0 + Int.toNat 0 + (k + 1) + min (eL (List.drop k l) ++ List.take 1 sp).length (l.length + 1 - Int.toNat 0 - (k + 1))) (eL l ++ sp) =
          eL (l.take k) ++ ((eL (l.drop k)).take 1 ++ (eL (l.drop k) ++ sp.drop 1)) := by
        simp only [Int.toNat_zero, Nat.sub_zero, Nat.zero_add, Nat.add_zero]
        have hL0 : eL l ++ sp = (eL (l.take k) ++ (eL (l.drop k)).take 1) ++ (((eL (l.drop k)).drop 1 ++ sp.take 1) ++ sp.drop 1) := by
          rw [List.append_assoc ((eL (l.drop k)).drop 1), List.take_append_drop, List.append_assoc, ← List.append_assoc ((eL (l.drop k)).take 1), List.take_append_drop, hAB, List.append_assoc]
        have ht : List.take (l.length + 1 - (k + 1)) (eL (l.drop k) ++ sp.take 1) = eL (l.drop k) := List.take_left' (by omega)
        rw [hL0, cpy (by rw [List.length_append, hAl, List.length_take]; omega) (by simp only [List.length_append, List.length_drop, hs1]; omega), ht, List.append_assoc]
      repeat' first
        | (refine step_go [] ?_; conv => whnf)
        | (refine ⟨by omega, by simp only [Int.toNat_zero]; omega, ?_⟩; conv => whnf)
        | (refine ⟨by simp [V.cells, encE], ?_⟩; rw [hd1]; conv => whnf)
        | (refine ⟨by simp only [List.length_append, Int.toNat_zero, Int.toNat_natCast, List.length_take, List.length_drop]; omega, ?_⟩; conv => whnf)
        | (refine And.intro rfl ?_; conv => whnf)
      have hd2 : List.take (0 + Int.toNat 0 + (k : Int).toNat) (eL (List.take k l) ++ (List.take 1 (eL (List.drop k l)) ++ (eL (List.drop k l) ++ List.drop 1 sp))) ++
          List.take (l.length + 1 - Int.toNat 0 - (k : Int).toNat) [encE e] ++
          List.drop (0 + Int.toNat 0 + (k : Int).toNat + min [encE e].length (l.length + 1 - Int.toNat 0 - (k : Int).toNat)) (eL (List.take k l) ++ (List.take 1 (eL (List.drop k l)) ++ (eL (List.drop k l) ++ List.drop 1 sp))) =
          eL (insS l k e) ++ sp.drop 1 := by
        simp only [Int.toNat_zero, Int.toNat_natCast, Nat.sub_zero, Nat.zero_add, Nat.add_zero]
        have ht : List.take (l.length + 1 - k) [encE e] = [encE e] := List.take_of_length_le (by simp; omega)
        rw [cpy hAl (by rw [List.length_take, List.length_singleton]; omega), ht, hins, List.append_assoc, List.append_assoc]
      have h' := h (sp.drop 1) (c5_sub hsp fun x hx => List.mem_of_mem_drop hx)
      have e2 : l.length + 1 + (sp.drop 1).length = l.length + sp.length - Int.toNat 0 := by simp only [Int.toNat_zero, List.length_drop]; omega
      rw [e2, ← hd2] at h'
      exact ⟨_, _, weak_of (.cons (.eq rfl) .nil) (.cons .moved .nil) rfl rfl rfl, h'⟩
end E19

namespace E19
open Go Go.Proofs VL E18 E26
set_option pp.maxSteps 1200
set_option linter.unusedSimpArgs false
set_option linter.unusedVariables false
set_option maxRecDepth 100000

def kV (ks : List (Int × Ev)) : List (V × V) := ks.map fun p => (.int .i64 p.1, encE p.2)
def gV (gs : List (Int × Bool)) : List (V × V) := gs.map fun p => (.int .i64 p.1, .bool p.2)
@[irreducible] def kGet (ks : List (Int × Ev)) (k : Int) : Option Ev := (ks.find? fun p => k == p.1).map (·.2)
@[irreducible] def gGet (gs : List (Int × Bool)) (k : Int) : Option Bool := (gs.find? fun p => k == p.1).map (·.2)

theorem kPlain (m : Nat) (ks : List (Int × Ev)) : ∀ e ∈ kV ks, plainKey (VL.sys Try.prog m []).P 3 e.1 = true := by
  intro e he
  obtain ⟨p, _, rfl⟩ := List.mem_map.1 he
  rfl
theorem gPlain (m : Nat) (gs : List (Int × Bool)) : ∀ e ∈ gV gs, plainKey (VL.sys Try.prog m []).P 3 e.1 = true := by
  intro e he
  obtain ⟨p, _, rfl⟩ := List.mem_map.1 he
  rfl
theorem kFind (ks : List (Int × Ev)) (k : Int) : (kV ks).find? (fun e => keyB (.int .i64 k) e.1) = (ks.find? fun p => k == p.1).map fun p => (.int .i64 p.1, encE p.2) := by
  unfold kV
  rw [List.find?_map]; rfl
theorem gFind (gs : List (Int × Bool)) (k : Int) : (gV gs).find? (fun e => keyB (.int .i64 k) e.1) = (gs.find? fun p => k == p.1).map fun p => (.int .i64 p.1, .bool p.2) := by
  unfold gV
  rw [List.find?_map]; rfl
theorem kNone {ks : List (Int × Ev)} {k : Int} (h : kGet ks k = none) : (kV ks).find? (fun e => keyB (.int .i64 k) e.1) = none := by
  unfold kGet at h; rw [kFind]; simpa using h
theorem kSome {ks : List (Int × Ev)} {k : Int} {x : Ev} (h : kGet ks k = some x) : ∃ j, (kV ks).find? (fun e => keyB (.int .i64 k) e.1) = some (.int .i64 j, encE x) := by
  unfold kGet at h
  obtain ⟨p, hp, rfl⟩ := Option.map_eq_some_iff.1 h
  exact ⟨p.1, by rw [kFind, hp]; rfl⟩
theorem gNone {gs : List (Int × Bool)} {k : Int} (h : gGet gs k = none) : (gV gs).find? (fun e => keyB (.int .i64 k) e.1) = none := by
  unfold gGet at h; rw [gFind]; simpa using h
theorem gSome {gs : List (Int × Bool)} {k : Int} {x : Bool} (h : gGet gs k = some x) : ∃ j, (gV gs).find? (fun e => keyB (.int .i64 k) e.1) = some (.int .i64 j, .bool x) := by
  unfold gGet at h
  obtain ⟨p, hp, rfl⟩ := Option.map_eq_some_iff.1 h
  exact ⟨p.1, by rw [gFind, hp]; rfl⟩

def bookC (l : List Ev) (sp : List V) (paid : Int) : List V := [.slo 1 5 0 l.length (l.length + sp.length), .mp 2, .mp 3, .int .i64 paid]
def bookO (l : List Ev) (ks : List (Int × Ev)) (gs : List (Int × Bool)) (paid : Int) (sp : List V) (mv : Bool) : List VObj :=
  [.cells true 95 (bookC l sp paid), .buf mv 5 (eL l ++ sp), .map (kV ks), .map (gV gs)]

@[irreducible] def fullS (l : List Ev) : Int := if 4096 ≤ l.length then 15 else 0
@[irreducible] def namesS (ks : List (Int × Ev)) (gs : List (Int × Bool)) (e : Ev) : Int := if e.kind = 5 ∧ (((kGet ks e.ref).getD zeroE).kind ≠ 2 ∨ (gGet gs e.ref).getD false = true) then 20 else 0
@[irreducible] def onceS (paid : Int) (e : Ev) : Int := if (e.kind = 1 ↔ paid = 0) then 0 else 17
@[irreducible] def earlyS (ks : List (Int × Ev)) (paid : Int) (e : Ev) : Int := if paid ≠ 0 ∧ ltE e ((kGet ks paid).getD zeroE) then 18 else 0

section
variable (l : List Ev) (ks : List (Int × Ev)) (gs : List (Int × Bool)) (paid : Int) (sp : List V) (e : Ev) (K : Out → List VObj → Prop)

theorem c_full (h : K (.ret (.int .i64 (fullS l))) (bookO l ks gs paid sp false)) : VCall Try.prog 66 [.ptr 0 0, encE e] (bookO l ks gs paid sp false) K := by
  refine call_fun [] 4 Try.func66 (by rfl) (by rfl) ?_
  conv => whnf
  repeat' first
    | (refine step_go [] ?_; conv => whnf)
    | (refine two (fun g => ?_) (fun g => ?_) <;> (conv => whnf))
  · have hf : fullS l = 15 := by unfold fullS; rw [if_pos (by simp at g; omega)]
    rw [hf] at h; exact h
  · have hf : fullS l = 0 := by unfold fullS; rw [if_neg (by simp at g; omega)]
    rw [hf] at h; exact h

theorem c_names (h : K (.ret (.int .i64 (namesS ks gs e))) (bookO l ks gs paid sp false)) : VCall Try.prog 67 [.ptr 0 0, encE e] (bookO l ks gs paid sp false) K := by
  have hfin : ∀ x : Int, namesS ks gs e = x → K (.ret (.int .i64 x)) (bookO l ks gs paid sp false) := fun x hx => by rw [hx] at h; exact h
  clear h
  refine call_fun [] 4 Try.func67 (by rfl) (by rfl) ?_
  conv => whnf
  repeat (refine step_go [] ?_; conv => whnf)
  refine ⟨by decide +kernel, ?_⟩; conv => whnf
  rcases hk : kGet ks e.ref with _ | x <;> rcases hg : gGet gs e.ref with _ | y
  · repeat' first
      | (refine step_go [] ?_; conv => whnf)
      | (refine two (fun g => ?_) (fun g => ?_) <;> (conv => whnf))
      | (refine ⟨kPlain _ _, _, kNone hk, ?_⟩; conv => whnf)
      | (refine ⟨gPlain _ _, _, gNone hg, ?_⟩; conv => whnf)
    all_goals (refine hfin _ ?_; unfold namesS; simp_all [zeroE])
  · obtain ⟨j, hj⟩ := gSome hg
    repeat' first
      | (refine step_go [] ?_; conv => whnf)
      | (refine two (fun g => ?_) (fun g => ?_) <;> (conv => whnf))
      | (refine ⟨kPlain _ _, _, kNone hk, ?_⟩; conv => whnf)
      | (refine ⟨gPlain _ _, _, hj, ?_⟩; conv => whnf)
    all_goals (refine hfin _ ?_; unfold namesS; simp_all [zeroE])
  · obtain ⟨i, hi⟩ := kSome hk
    repeat' first
      | (refine step_go [] ?_; conv => whnf)
      | (refine two (fun g => ?_) (fun g => ?_) <;> (conv => whnf))
      | (refine ⟨kPlain _ _, _, hi, ?_⟩; conv => whnf)
      | (refine ⟨gPlain _ _, _, gNone hg, ?_⟩; conv => whnf)
    all_goals (refine hfin _ ?_; unfold namesS; simp_all [zeroE])
  · obtain ⟨i, hi⟩ := kSome hk
    obtain ⟨j, hj⟩ := gSome hg
    repeat' first
      | (refine step_go [] ?_; conv => whnf)
      | (refine two (fun g => ?_) (fun g => ?_) <;> (conv => whnf))
      | (refine ⟨kPlain _ _, _, hi, ?_⟩; conv => whnf)
      | (refine ⟨gPlain _ _, _, hj, ?_⟩; conv => whnf)
    all_goals (refine hfin _ ?_; unfold namesS; simp_all [zeroE])

theorem c_once (h : K (.ret (.int .i64 (onceS paid e))) (bookO l ks gs paid sp false)) : VCall Try.prog 68 [.ptr 0 0, encE e] (bookO l ks gs paid sp false) K := by
  have hfin : ∀ x : Int, onceS paid e = x → K (.ret (.int .i64 x)) (bookO l ks gs paid sp false) := fun x hx => by rw [hx] at h; exact h
  clear h
  refine call_fun [] 4 Try.func68 (by rfl) (by rfl) ?_
  conv => whnf
  repeat (refine step_go [] ?_; conv => whnf)
  refine ⟨by decide +kernel, ?_⟩; conv => whnf
  repeat' first
    | (refine step_go [] ?_; conv => whnf)
    | (refine two (fun g => ?_) (fun g => ?_) <;> (conv => whnf))
  all_goals (refine hfin _ ?_; unfold onceS; cases hb1 : (e.kind == 1) <;> cases hb2 : (paid == 0) <;> rw [hb1, hb2] at g <;> simp_all)

theorem c_early (h : K (.ret (.int .i64 (earlyS ks paid e))) (bookO l ks gs paid sp false)) : VCall Try.prog 69 [.ptr 0 0, encE e] (bookO l ks gs paid sp false) K := by
  have hfin : ∀ x : Int, earlyS ks paid e = x → K (.ret (.int .i64 x)) (bookO l ks gs paid sp false) := fun x hx => by rw [hx] at h; exact h
  clear h
  refine call_fun [] 4 Try.func69 (by rfl) (by rfl) ?_
  conv => whnf
  repeat (refine step_go [] ?_; conv => whnf)
  refine ⟨by decide +kernel, ?_⟩; conv => whnf
  rcases hk : kGet ks paid with _ | x
  · repeat' first
      | (refine step_go [] ?_; conv => whnf)
      | (refine two (fun g => ?_) (fun g => ?_) <;> (conv => whnf))
      | (refine ⟨kPlain _ _, _, kNone hk, ?_⟩; conv => whnf)
      | (refine And.intro rfl ?_; conv => whnf)
      | (refine c_cmpE e zeroE _ ?_; conv => whnf)
    all_goals
      (try have g := of_decide_eq_true g)
      (try have g := of_decide_eq_false g)
      refine hfin _ ?_
      unfold earlyS
      simp only [← cmpE_lt]
      simp_all [zeroE] <;> omega
  · obtain ⟨i, hi⟩ := kSome hk
    repeat' first
      | (refine step_go [] ?_; conv => whnf)
      | (refine two (fun g => ?_) (fun g => ?_) <;> (conv => whnf))
      | (refine ⟨kPlain _ _, _, hi, ?_⟩; conv => whnf)
      | (refine c_cmpE e x _ ?_; conv => whnf)
    all_goals
      (try have g := of_decide_eq_true g)
      (try have g := of_decide_eq_false g)
      refine hfin _ ?_
      unfold earlyS
      simp only [← cmpE_lt]
      simp_all [zeroE] <;> omega
end
end E19

namespace E19
open Go Go.Proofs VL E18 E26
set_option pp.maxSteps 1200
set_option linter.unusedSimpArgs false
set_option linter.unusedVariables false
set_option maxRecDepth 100000

@[irreducible] def evEq (a b : Ev) : Bool := a.key == b.key && (a.kind == b.kind && (a.day == b.day && (a.amount == b.amount && (a.ref == b.ref && true))))
theorem evEq_iff {a b : Ev} : evEq a b = true ↔ a = b := by
  unfold evEq
  cases a; cases b
  simp

@[irreducible] def rulesS (l : List Ev) (ks : List (Int × Ev)) (gs : List (Int × Bool)) (paid : Int) (e : Ev) : Int :=
  if fullS l ≠ 0 then fullS l else if namesS ks gs e ≠ 0 then namesS ks gs e else if onceS paid e ≠ 0 then onceS paid e else earlyS ks paid e
@[irreducible] def mayS (l : List Ev) (ks : List (Int × Ev)) (gs : List (Int × Bool)) (paid : Int) (e : Ev) : Bool × Int :=
  if checkS e ≠ 0 then (false, checkS e) else
  match kGet ks e.key with
  | some old => if evEq old e then (false, 0) else (false, 14)
  | none => if rulesS l ks gs paid e ≠ 0 then (false, rulesS l ks gs paid e) else (true, 0)

section
variable (l : List Ev) (ks : List (Int × Ev)) (gs : List (Int × Bool)) (paid : Int) (sp : List V) (e : Ev) (K : Out → List VObj → Prop)

theorem c_may (h : K (.ret (.tup [.bool (mayS l ks gs paid e).1, .int .i64 (mayS l ks gs paid e).2])) (bookO l ks gs paid sp false)) : VCall Try.prog 35 [.ptr 0 0, encE e] (bookO l ks gs paid sp false) K := by
  have hfin : ∀ (b : Bool) (x : Int), mayS l ks gs paid e = (b, x) → K (.ret (.tup [.bool b, .int .i64 x])) (bookO l ks gs paid sp false) := fun b x hx => by rw [hx] at h; exact h
  clear h
  refine call_fun [] 4 Try.func35 (by rfl) (by rfl) ?_
  conv => whnf
  repeat (refine step_go [] ?_; conv => whnf)
  refine c_check e _ ?_; conv => whnf
  repeat (refine step_go [] ?_; conv => whnf)
  refine two (fun g => ?_) (fun g => ?_)
  · have g : checkS e ≠ 0 := by simpa using g
    conv => whnf
    repeat (refine step_go [] ?_; conv => whnf)
    exact hfin _ _ (by unfold mayS; rw [if_pos g])
  have hce : checkS e = 0 := by simpa using g
  clear g
  conv => whnf
  repeat (refine step_go [] ?_; conv => whnf)
  refine ⟨by decide +kernel, ?_⟩; conv => whnf
  rcases hk : kGet ks e.key with _ | old
  · repeat' first
      | (refine step_go [] ?_; conv => whnf)
      | (refine ⟨kPlain _ _, _, kNone hk, ?_⟩; conv => whnf)
      | (refine loop_round [] ?_; conv => whnf)
      | (refine ⟨by decide, _, rfl, rfl, ?_⟩; conv => whnf)
      | (refine c_full l ks gs paid sp e _ ?_; conv => whnf)
      | (refine c_names l ks gs paid sp e _ ?_; conv => whnf)
      | (refine c_once l ks gs paid sp e _ ?_; conv => whnf)
      | (refine c_early l ks gs paid sp e _ ?_; conv => whnf)
      | (refine two (fun g => ?_) (fun g => ?_) <;> (conv => whnf))
      | (refine ⟨_, Weak.refl, ?_⟩; conv => whnf)
      | (refine And.intro rfl ?_; conv => whnf)
    all_goals (refine hfin _ _ ?_; unfold mayS rulesS; simp_all)
  · obtain ⟨j, hj⟩ := kSome hk
    repeat' first
      | (refine step_go [] ?_; conv => whnf)
      | (refine ⟨kPlain _ _, _, hj, ?_⟩; conv => whnf)
      | (refine And.intro rfl ?_; conv => whnf)
      | (rw [flat_ev]; conv => whnf)
      | (refine two (fun g => ?_) (fun g => ?_) <;> (conv => whnf))
    · have g' : (!evEq old e) = true := by unfold evEq; exact g
      have g' : evEq old e = false := by simpa using g'
      refine hfin _ _ ?_
      unfold mayS; rw [if_neg (by simp [hce]), hk]; simp [g']
    · have g' : (!evEq old e) = false := by unfold evEq; exact g
      have g' : evEq old e = true := by simpa using g'
      refine hfin _ _ ?_
      unfold mayS; rw [if_neg (by simp [hce]), hk]; simp [g']
end
end E19

namespace E19
open Go Go.Proofs VL E18 E26
set_option pp.maxSteps 1200
set_option linter.unusedSimpArgs false
set_option linter.unusedVariables false
set_option maxRecDepth 100000

structure Bk where
  l : List Ev
  ks : List (Int × Ev)
  gs : List (Int × Bool)
  paid : Int

def kSet : List (Int × Ev) → Int → Ev → List (Int × Ev)
  | [], k, e => [(k, e)]
  | p :: r, k, e => if k == p.1 then (k, e) :: r else p :: kSet r k e
def gSet : List (Int × Bool) → Int → List (Int × Bool)
  | [], k => [(k, true)]
  | p :: r, k => if k == p.1 then (k, true) :: r else p :: gSet r k
theorem kSet_eq (ks : List (Int × Ev)) (k : Int) (e : Ev) : kV (kSet ks k e) = updV (.int .i64 k) (encE e) (kV ks) := by
  induction ks with
  | nil => rfl
  | cons p r ih =>
    show kV (if k == p.1 then (k, e) :: r else p :: kSet r k e) = if keyB (.int .i64 k) (.int .i64 p.1) then _ else _
    show kV (if k == p.1 then (k, e) :: r else p :: kSet r k e) = if k == p.1 then _ else _
    split
    · rfl
    · show _ :: kV (kSet r k e) = _
      rw [ih]; rfl
theorem gSet_eq (gs : List (Int × Bool)) (k : Int) : gV (gSet gs k) = updV (.int .i64 k) (.bool true) (gV gs) := by
  induction gs with
  | nil => rfl
  | cons p r ih =>
    show gV (if k == p.1 then (k, true) :: r else p :: gSet r k) = if k == p.1 then _ else _
    split
    · rfl
    · show _ :: gV (gSet r k) = _
      rw [ih]; rfl

def Bk.obj (B : Bk) (sp : List V) (mv : Bool) : List VObj := bookO B.l B.ks B.gs B.paid sp mv
def Bk.may (B : Bk) (e : Ev) : Bool × Int := mayS B.l B.ks B.gs B.paid e
def Bk.put (B : Bk) (e : Ev) : Bk :=
  if (B.may e).1 then ⟨insS B.l (posS B.l e) e, kSet B.ks e.key e, if e.kind = 5 then gSet B.gs e.ref else B.gs, if e.kind = 1 then e.key else B.paid⟩ else B
theorem put_no {B : Bk} {e : Ev} (h : (B.may e).1 = false) : B.put e = B := by unfold Bk.put; rw [h]; rfl
theorem put_yes {B : Bk} {e : Ev} (h : (B.may e).1 = true) : B.put e = ⟨insS B.l (posS B.l e) e, kSet B.ks e.key e, if e.kind = 5 then gSet B.gs e.ref else B.gs, if e.kind = 1 then e.key else B.paid⟩ := by unfold Bk.put; rw [if_pos h]

theorem may_zero {l : List Ev} {ks : List (Int × Ev)} {gs : List (Int × Bool)} {paid : Int} {e : Ev} {x : Int} (h : mayS l ks gs paid e = (true, x)) : x = 0 := by
  unfold mayS at h
  split at h
  · simp at h
  · split at h
    · split at h <;> simp at h
    · split at h
      · simp at h
      · simp at h; exact h.symm

theorem c_put (B : Bk) (sp : List V) (e : Ev) (hsp : C5 sp) (hs : Srt B.l) (hl : B.l.length < 90000) (K) (h : ∀ sp', C5 sp' → K (.ret (.tup [.bool (B.may e).1, .int .i64 (B.may e).2])) ((B.put e).obj sp' true)) :
    VCall Try.prog 34 [.ptr 0 0, encE e] (B.obj sp false) K := by
  obtain ⟨l, ks, gs, paid⟩ := B
  simp only at hs hl
  have hlen := eL_len l
  have hL : (eL l ++ sp).length = l.length + sp.length := by rw [List.length_append, hlen]
  refine VCall.weak (call_fun [] 4 Try.func34 (by rfl) (by rfl) ?_)
  conv => whnf
  repeat (refine step_go [] ?_; conv => whnf)
  refine c_may l ks gs paid sp e _ ?_
  rcases hm : mayS l ks gs paid e with ⟨b, x⟩
  have hm' : Bk.may ⟨l, ks, gs, paid⟩ e = (b, x) := hm
  rw [hm'] at h
  cases b
  · rw [put_no (by rw [hm'])] at h
    conv => whnf
    repeat (refine step_go [] ?_; conv => whnf)
    exact ⟨_, _, weak_of (.cons (.eq rfl) .nil) (.cons (.eq rfl) (.cons .moved (.cons (.eq rfl) (.cons (.eq rfl) .nil)))) rfl rfl rfl, h sp hsp⟩
  rw [put_yes (by rw [hm'])] at h
  simp only at h
  conv => whnf
  repeat (refine step_go [] ?_; conv => whnf)
  refine ⟨by decide +kernel, ?_⟩; conv => whnf
  refine VCall.lend rfl ?_; conv => whnf
  have htk : List.take l.length (List.drop 0 (eL l ++ sp)) = eL l := by rw [List.drop_zero, List.take_left' hlen]
  refine ⟨by rw [hL]; omega, ?_⟩
  rw [htk]; conv => whnf
  refine c_search l e hs (by omega) _ ?_; conv => whnf
  have hpl := pos_le l e
  repeat' first
    | (refine step_go [] ?_; conv => whnf)
    | (refine And.intro rfl ?_; conv => whnf)
    | (refine ⟨by decide +kernel, ?_⟩; conv => whnf)
  refine VCall.args (args' := [.slo 0 5 0 l.length (l.length + sp.length), .int .i64 (posS l e : Nat), .sl [encE e] .no]) (.cons (.eq rfl) (.cons (.eq rfl) (.cons .no .nil))) rfl ?_
  refine c_insert l e sp hsp (posS l e) hpl (by omega) _ fun sp' hsp' => ?_; conv => whnf
  have hil := insS_len (e := e) hpl
  have h' := h sp' hsp'
  unfold Bk.obj bookO bookC at h'
  simp only [hil, kSet_eq] at h'
  repeat' first
    | (refine step_go [] ?_; conv => whnf)
    | (refine And.intro rfl ?_; conv => whnf)
    | (refine ⟨by decide +kernel, ?_⟩; conv => whnf)
    | (refine ⟨kPlain _ _, ?_⟩; conv => whnf)
  have hx : x = 0 := may_zero hm
  subst hx
  by_cases h1 : e.kind = 1
  · rw [if_pos h1, if_neg (by omega)] at h'
    refine yes (by simpa using h1) ?_; conv => whnf
    repeat (refine step_go [] ?_; conv => whnf)
    exact ⟨_, _, weak_of (.cons (.eq rfl) .nil) (.cons (.eq rfl) (.cons (.eq rfl) (.cons (.eq rfl) (.cons (.eq rfl) .nil)))) rfl rfl rfl, h'⟩
  refine no (by simpa using h1) ?_; conv => whnf
  repeat (refine step_go [] ?_; conv => whnf)
  by_cases h5 : e.kind = 5
  · rw [if_neg h1, if_pos h5, gSet_eq] at h'
    refine yes (by simpa using h5) ?_; conv => whnf
    repeat' first
      | (refine step_go [] ?_; conv => whnf)
      | (refine ⟨by decide +kernel, ?_⟩; conv => whnf)
      | (refine ⟨gPlain _ _, ?_⟩; conv => whnf)
      | (refine And.intro rfl ?_; conv => whnf)
    exact ⟨_, _, weak_of (.cons (.eq rfl) .nil) (.cons (.eq rfl) (.cons (.eq rfl) (.cons (.eq rfl) (.cons (.eq rfl) .nil)))) rfl rfl rfl, h'⟩
  · rw [if_neg h1, if_neg h5] at h'
    refine no (by simpa using h5) ?_; conv => whnf
    repeat (refine step_go [] ?_; conv => whnf)
    exact ⟨_, _, weak_of (.cons (.eq rfl) .nil) (.cons (.eq rfl) (.cons (.eq rfl) (.cons (.eq rfl) (.cons (.eq rfl) .nil)))) rfl rfl rfl, h'⟩
end E19

namespace E19
open Go Go.Proofs VL E18 E26
set_option pp.maxSteps 1200
set_option linter.unusedSimpArgs false
set_option linter.unusedVariables false
set_option maxRecDepth 100000

def newB : Bk := ⟨[], [], [], 0⟩
theorem c_new (K) (h : K (.ret (.ptr 0 0)) (newB.obj [] true)) : VCall Try.prog 33 [] [] K := by
  refine VCall.weak (call_fun [] 0 Try.func33 (by rfl) (by rfl) ?_)
  conv => whnf
  repeat (refine step_go [] ?_; conv => whnf)
  refine ⟨_, _, Weak.trans (weak_nil 0 0 5 rfl rfl (by decide)) ?_, h⟩
  obtain ⟨s', hw, rfl⟩ := weak_sel (m := 0) (src := [0, 3, 1, 2]) (s := ⟨[.ptr 0 0], [.cells true 95 [.slo 3 5 0 0 0, .mp 1, .mp 2, .int .i64 0], .map [], .map [], .buf false 5 []], 0, []⟩)
    (K := fun s' => s' = ⟨[.ptr 0 0], [.cells true 95 [.slo 1 5 0 0 0, .mp 2, .mp 3, .int .i64 0], .buf false 5 [], .map [], .map []], 0, []⟩) rfl
  exact Weak.trans hw (weak_of (.cons (.eq rfl) .nil) (.cons (.eq rfl) (.cons .moved (.cons (.eq rfl) (.cons (.eq rfl) .nil)))) rfl rfl rfl)

theorem c_clone (l : List Ev) (sp : List V) (hl : l.length < 90000) (K) (h : K (.ret (.sl (eL l) .no)) [.buf false 5 (eL l ++ sp)]) :
    VCall Try.prog 70 [.slo 0 5 0 l.length (l.length + sp.length)] [.buf false 5 (eL l ++ sp)] K := by
  have hlen := eL_len l
  have hL : (eL l ++ sp).length = l.length + sp.length := by rw [List.length_append, hlen]
  have htk : List.take l.length (List.drop 0 (eL l ++ sp)) = eL l := by rw [List.drop_zero, List.take_left' hlen]
  refine VCall.weak (call_fun [] 1 Try.func70 (by rfl) (by rfl) ?_)
  conv => whnf
  repeat (refine step_go [] ?_; conv => whnf)
  intro b hb; conv => whnf
  cases b
  · conv => whnf
    repeat (refine step_go [] ?_; conv => whnf)
    refine ⟨by omega, ?_⟩
    rw [htk]; conv => whnf
    refine ⟨by rw [hlen]; simp; omega, eL_cells, by simp, ?_⟩; conv => whnf
    repeat (refine step_go [] ?_; conv => whnf)
    exact ⟨_, _, Weak.refl, h⟩
  · have := hb rfl
    have hl0 : l = [] := List.eq_nil_of_length_eq_zero (by omega)
    subst hl0
    conv => whnf
    repeat (refine step_go [] ?_; conv => whnf)
    exact ⟨_, _, weak_of (.cons .no .nil) (.cons (.eq rfl) .nil) rfl rfl rfl, h⟩

theorem c_all (B : Bk) (sp : List V) (hl : B.l.length < 90000) (K) (h : K (.ret (.sl (eL B.l) .no)) (B.obj sp false)) : VCall Try.prog 38 [.ptr 0 0] (B.obj sp false) K := by
  obtain ⟨l, ks, gs, paid⟩ := B
  refine call_fun [] 4 Try.func38 (by rfl) (by rfl) ?_
  conv => whnf
  repeat (refine step_go [] ?_; conv => whnf)
  refine c_clone l sp hl _ ?_; conv => whnf
  repeat (refine step_go [] ?_; conv => whnf)
  exact h

theorem c_len (B : Bk) (sp : List V) (hl : B.l.length < 90000) (K) (h : K (.ret (.int .i64 B.l.length)) (B.obj sp false)) : VCall Try.prog 47 [.ptr 0 0] (B.obj sp false) K := by
  refine call_fun [] 4 Try.func47 (by rfl) (by rfl) ?_
  conv => whnf
  repeat (refine step_go [] ?_; conv => whnf)
  refine c_all B sp hl _ ?_; conv => whnf
  repeat (refine step_go [] ?_; conv => whnf)
  rw [eL_len]
  exact h

@[irreducible] def getS (B : Bk) (k : Int) : Ev := (kGet B.ks k).getD zeroE
theorem c_get (B : Bk) (sp : List V) (k : Int) (K) (h : K (.ret (.tup [encE (getS B k), .bool (kGet B.ks k).isSome])) (B.obj sp false)) : VCall Try.prog 49 [.ptr 0 0, .int .i64 k] (B.obj sp false) K := by
  obtain ⟨l, ks, gs, paid⟩ := B
  refine call_fun [] 4 Try.func49 (by rfl) (by rfl) ?_
  conv => whnf
  unfold getS at h
  simp only at h
  rcases hk : kGet ks k with _ | x
  · rw [hk] at h
    repeat' first
      | (refine step_go [] ?_; conv => whnf)
      | (refine ⟨kPlain _ _, _, kNone hk, ?_⟩; conv => whnf)
    exact h
  · rw [hk] at h
    obtain ⟨j, hj⟩ := kSome hk
    repeat' first
      | (refine step_go [] ?_; conv => whnf)
      | (refine ⟨kPlain _ _, _, hj, ?_⟩; conv => whnf)
    exact h
end E19

namespace E19
open Go Go.Proofs VL E18 E26
set_option pp.maxSteps 1200
set_option linter.unusedSimpArgs false
set_option linter.unusedVariables false
set_option maxRecDepth 100000

theorem n_may (e : Ev) (K) (h : K (.ret (.tup [.bool false, .int .i64 2])) []) : VCall Try.prog 35 [.nilp, encE e] [] K := by
  refine call_fun [] 0 Try.func35 (by rfl) (by rfl) ?_
  conv => whnf
  repeat (refine step_go [] ?_; conv => whnf)
  exact h
theorem n_put (e : Ev) (K) (h : K (.ret (.tup [.bool false, .int .i64 2])) []) : VCall Try.prog 34 [.nilp, encE e] [] K := by
  refine call_fun [] 0 Try.func34 (by rfl) (by rfl) ?_
  conv => whnf
  repeat (refine step_go [] ?_; conv => whnf)
  refine n_may e _ ?_; conv => whnf
  repeat (refine step_go [] ?_; conv => whnf)
  exact h
theorem n_get (k : Int) (K) (h : K (.ret (.tup [encE zeroE, .bool false])) []) : VCall Try.prog 49 [.nilp, .int .i64 k] [] K := by
  refine call_fun [] 0 Try.func49 (by rfl) (by rfl) ?_
  conv => whnf
  repeat (refine step_go [] ?_; conv => whnf)
  exact h
theorem n_all (K) (h : K (.ret (.sl [] .ex)) []) : VCall Try.prog 38 [.nilp] [] K := by
  refine call_fun [] 0 Try.func38 (by rfl) (by rfl) ?_
  conv => whnf
  repeat (refine step_go [] ?_; conv => whnf)
  exact h
theorem n_len (K) (h : K (.ret (.int .i64 0)) []) : VCall Try.prog 47 [.nilp] [] K := by
  refine call_fun [] 0 Try.func47 (by rfl) (by rfl) ?_
  conv => whnf
  repeat (refine step_go [] ?_; conv => whnf)
  refine n_all _ ?_; conv => whnf
  repeat (refine step_go [] ?_; conv => whnf)
  exact h
theorem n_counting (K) (h : K (.ret (.sl [] .ex)) []) : VCall Try.prog 39 [.nilp] [] K := by
  refine call_fun [] 0 Try.func39 (by rfl) (by rfl) ?_
  conv => whnf
  repeat (refine step_go [] ?_; conv => whnf)
  refine n_all _ ?_; conv => whnf
  repeat' first
    | (refine step_go [] ?_; conv => whnf)
    | (refine loop_round [] ?_; conv => whnf)
    | (refine ⟨_, Weak.refl, ?_⟩; conv => whnf)
  exact h
theorem n_fork (K) (h : K (.ret .nilp) []) : VCall Try.prog 48 [.nilp] [] K := by
  refine call_fun [] 0 Try.func48 (by rfl) (by rfl) ?_
  conv => whnf
  repeat (refine step_go [] ?_; conv => whnf)
  exact h

def e0 : Ev := ⟨1, 1, 5, 7, 0⟩
theorem chk_e0 : checkS e0 = 0 := by unfold checkS withinS e0; decide
theorem may0 : newB.may e0 = (true, 0) := by
  unfold Bk.may mayS rulesS
  rw [chk_e0]
  unfold fullS namesS onceS earlyS kGet gGet newB e0
  decide
def B1 : Bk := ⟨[e0], [(1, e0)], [], 1⟩
theorem put0 : newB.put e0 = B1 := by
  rw [put_yes (by rw [may0])]
  unfold posS newB e0 B1
  rfl
theorem may1 : B1.may e0 = (false, 0) := by
  unfold Bk.may mayS
  rw [chk_e0]
  unfold kGet evEq B1 e0
  decide

theorem c_awake (K) (h : K (.ret (.bool true)) []) : VCall Try.prog 36 [] [] K := by
  refine call_fun [] 0 Try.func36 (by rfl) (by rfl) ?_
  conv => whnf
  repeat (refine step_go [] ?_; conv => whnf)
  refine c_new _ ?_; conv => whnf
  repeat (refine step_go [] ?_; conv => whnf)
  refine c_put newB [] e0 (by simp [C5]) .nil (by decide) _ fun sp hsp => ?_
  rw [put0, may0]; conv => whnf
  repeat (refine step_go [] ?_; conv => whnf)
  refine c_put B1 sp e0 hsp (by simp [Srt, B1]) (by decide) _ fun sp2 hsp2 => ?_
  rw [put_no (by rw [may1]), may1]; conv => whnf
  repeat' first
    | (refine step_go [] ?_; conv => whnf)
    | (refine c_len B1 sp2 (by decide) _ ?_; conv => whnf)
  exact h

end E19
