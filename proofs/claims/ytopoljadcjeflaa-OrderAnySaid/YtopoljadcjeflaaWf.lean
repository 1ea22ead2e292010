/- Part Wf of the proof: A1 A2 E18 E18g E18h E18i E18m E18p E18r. -/
import Derived.Test.YtopoljadcjeflaaWe
import Derived.Test.YtopoljadcjeflaaRows
namespace A1
open Go Go.Proofs VL
set_option pp.maxSteps 3000
set_option pp.maxSteps 3000
set_option maxRecDepth 100000
set_option linter.unusedVariables false
set_option linter.unusedSimpArgs false

theorem c_own (l : List Int) (f : Int) (hl : l.length < 1000000) (K) (h : K (.ret (.spare (bL l) (bL [f, f, f]))) []) : VCall Try.prog 17 [.sl (bL l) .no, .int .u8 f] [] K := by
  have hlen := bL_len l
  refine call_fun [] 0 Try.func17 (by rfl) (by rfl) ?_
  conv => whnf
  refine step_go [] ?_; conv => whnf
  rw [show IntKind.i64.wrap (↑(bL l).length + 3) = (((bL l).length + 3 : Nat) : Int) by rw [wrap64 (by omega) (by omega)]; omega, Int.toNat_natCast]
  refine ⟨by omega, by omega, ?_, by omega, ?_⟩
  · show _ * ((1 : Nat) : Int) ≤ _; omega
  conv => whnf
  refine step_go [] ?_; conv => whnf
  refine ⟨by simp; omega, bL_cells, yes (Nat.ble_eq_true_of_le (by omega)) ⟨by simp, ?_⟩⟩
  conv => whnf
  refine step_go [] ?_; conv => whnf
  rw [show IntKind.i64.wrap (↑(bL l).length + 3) = (((bL l).length + 3 : Nat) : Int) by rw [wrap64 (by omega) (by omega)]; omega, Int.toNat_natCast]
  refine ⟨by omega, by omega, by omega, ?_⟩
  conv => whnf
  refine step_go [] ?_; conv => whnf
  refine step_go [] ?_; conv => whnf
  let S : Nat → St := fun i => ⟨(.sl (bL l) .no :: .int .u8 f :: .undef :: .undef :: .sl [] .ex :: .slo 0 1 0 l.length (l.length + 3) :: .slo 0 1 0 (l.length + 3) (l.length + 3) :: .int .i64 ((l.length + i : Nat) : Int) :: .undef :: .undef :: .undef :: .undef :: .undef :: .undef :: .undef :: .undef :: .undef :: .undef :: .undef :: .undef :: .undef :: .undef :: .undef :: .undef :: .undef :: .undef :: .undef :: .undef :: .undef :: .undef :: .undef :: .undef :: .undef :: []), [.buf false 1 (bL l ++ bL (List.replicate i f ++ List.replicate (3 - i) 0))], 0, []⟩
  refine VLoop.enter (s' := S 0) (weak_of ?_ ?_ rfl rfl rfl) (VLoop.ind S 3 ?_ ?_)
  · repeat' first
      | exact VWs.nil
      | refine VWs.cons VW.undef ?_
      | refine VWs.cons (VW.eq rfl) ?_
      | refine VWs.cons (VW.eq (by simp [hlen])) ?_
  · refine .cons (.eq ?_) .nil
    rw [hlen]
    simp only [Int.toNat_zero, Nat.zero_add, List.take_zero, List.nil_append, List.drop_replicate, Nat.add_sub_cancel_left, hlen]
    rfl
  have hlt : ∀ (a b : Int), a < b → decide (a < b) = true := fun a b h => by simpa using h
  · intro i hi ih
    refine loop_round [] ?_; conv => whnf
    refine step_go [] ?_; conv => whnf
    refine yes (hlt _ _ (by omega)) ?_; conv => whnf
    refine step_go [] ?_; conv => whnf
    rw [Int.toNat_natCast]
    refine ⟨by omega, by omega, ?_⟩; conv => whnf
    refine ⟨.int .u8 0, ?_, ?_⟩
    · rw [Nat.zero_add, List.getElem?_append_right (by rw [hlen]; omega), hlen, Nat.add_sub_cancel_left, bL_get, List.getElem?_append_right (by simp), List.length_replicate, Nat.sub_self, List.getElem?_replicate, if_pos (by omega)]
      rfl
    conv => whnf
    refine step_go [] ?_; conv => whnf
    refine ⟨S (i + 1), weak_of ?_ ?_ rfl rfl rfl, ih⟩
    · repeat' first
        | exact VWs.nil
        | refine VWs.cons VW.undef ?_
        | refine VWs.cons (VW.eq rfl) ?_
        | refine VWs.cons (VW.eq (congrArg (V.int .i64) (by rw [wrap64 (by omega) (by omega)]; omega))) ?_
    · refine .cons (.eq (congrArg (VObj.buf false 1) ?_)) .nil
      obtain rfl | rfl | rfl : i = 0 ∨ i = 1 ∨ i = 2 := by omega
      all_goals simp [bL, List.set_append, List.replicate, V.remake]
  · refine loop_round [] ?_; conv => whnf
    refine step_go [] ?_; conv => whnf
    refine no (by simp) ?_; conv => whnf
    refine weak_frz 0 true ?_; conv => whnf
    have hl3 : (bL l ++ bL (List.replicate 3 f ++ List.replicate (3 - 3) 0)).length = l.length + 3 := by simp [bL]
    repeat' first
      | (refine ⟨by rw [hl3]; omega, by omega, ?_⟩; conv => whnf)
      | (refine step_go [] ?_; conv => whnf)
    have e1 : ((bL l ++ bL (List.replicate 3 f ++ List.replicate (3 - 3) 0)).drop 0).take l.length = bL l := by
      rw [List.drop_zero, ← hlen, List.take_left]
    have e2 : ((bL l ++ bL (List.replicate 3 f ++ List.replicate (3 - 3) 0)).drop (0 + l.length)).take (l.length + 3 - l.length) = bL [f, f, f] := by
      rw [Nat.zero_add, ← hlen, List.drop_left, Nat.add_sub_cancel_left]; rfl
    rw [e1, e2]
    exact h
end A1

namespace A2
open Go Go.Proofs VL
set_option pp.maxSteps 3000
set_option maxRecDepth 100000
set_option linter.unusedVariables false
set_option linter.unusedSimpArgs false

theorem c_eq (a b : Int) (K) (h : K (.ret (.bool (a == b))) []) : VCall Try.prog 75 [.int .u8 a, .int .u8 b] [] K := by
  refine call_fun [] 0 Try.func75 (by rfl) (by rfl) ?_
  conv => whnf
  repeat (refine step_go [] ?_; conv => whnf)
  exact h

theorem c_same (l : List Int) (hl : l.length < 1000000) (K) (h : K (.ret (.bool true)) []) : VCall Try.prog 74 [.sl (bL l) .no, .sl (bL l) .no, .fn (.func 75) [] []] [] K := by
  have hlen := bL_len l
  refine call_fun [] 0 Try.func74 (by rfl) (by rfl) ?_
  conv => whnf
  repeat (refine step_go [] ?_; conv => whnf)
  refine no (by simp) ?_; conv => whnf
  repeat (refine step_go [] ?_; conv => whnf)
  let S : Nat → St := fun i => ⟨(.sl (bL l) .no :: .sl (bL l) .no :: .fn (.func 75) [] [] :: .undef :: .undef :: .undef :: .bool false :: .int .i64 i :: .undef :: .undef :: .undef :: .undef :: .undef :: .undef :: .undef :: .undef :: .undef :: .undef :: .undef :: .undef :: .undef :: .undef :: .undef :: .undef :: .undef :: .undef :: .undef :: .undef :: .undef :: .undef :: []), [], 0, []⟩
  refine VLoop.enter (s' := S 0) (weak_of ?_ .nil rfl rfl rfl) (VLoop.ind S l.length ?_ ?_)
  · repeat' first
      | exact VWs.nil
      | refine VWs.cons VW.undef ?_
      | refine VWs.cons (VW.eq rfl) ?_
  · intro i hi ih
    have hget : (bL l)[(i : Int).toNat]? = some (.int .u8 (l[i])) := by rw [Int.toNat_natCast, bL_get, List.getElem?_eq_getElem hi]; rfl
    refine loop_round [] ?_; conv => whnf
    repeat (refine step_go [] ?_; conv => whnf)
    refine yes (by simp [hlen]; exact hi) ?_; conv => whnf
    repeat (refine step_go [] ?_; conv => whnf)
    refine ⟨by decide +kernel, ?_⟩; conv => whnf
    refine ⟨by omega, _, hget, rfl, ?_⟩; conv => whnf
    refine ⟨by omega, _, hget, rfl, ?_⟩; conv => whnf
    refine c_eq _ _ _ ?_; conv => whnf
    repeat (refine step_go [] ?_; conv => whnf)
    refine no (by simp) ?_; conv => whnf
    repeat (refine step_go [] ?_; conv => whnf)
    refine ⟨S (i + 1), weak_of ?_ .nil rfl rfl rfl, ih⟩
    repeat' first
      | exact VWs.nil
      | refine VWs.cons VW.undef ?_
      | refine VWs.cons (VW.eq rfl) ?_
      | refine VWs.cons (VW.eq (congrArg (V.int .i64) (by rw [wrap64 (by omega) (by omega)]; omega))) ?_
  · refine loop_round [] ?_; conv => whnf
    repeat (refine step_go [] ?_; conv => whnf)
    refine no (by simp [hlen]) ?_; conv => whnf
    refine ⟨_, Weak.refl, ?_⟩; conv => whnf
    repeat (refine step_go [] ?_; conv => whnf)
    exact h

theorem c_plain (l : List Int) (hl : l.length < 1000000) (K) (h : K (.ret (.bool true)) []) : VCall Try.prog 57 [.sl (bL l) .no, .sl (bL l) .no] [] K := by
  refine call_fun [] 0 Try.func57 (by rfl) (by rfl) ?_
  conv => whnf
  repeat (refine step_go [] ?_; conv => whnf)
  refine c_same l hl _ ?_; conv => whnf
  repeat (refine step_go [] ?_; conv => whnf)
  exact h

theorem c_kept (l : List Int) (f : Int) (hl : l.length < 1000000) (K) (h : K (.ret (.bool true)) []) : VCall Try.prog 23 [.spare (bL l) (bL [f, f, f]), .sl (bL l) .no, .int .u8 f] [] K := by
  have hlen := bL_len l
  have h3 : (bL [f, f, f]).length = 3 := rfl
  refine call_fun [] 0 Try.func23 (by rfl) (by rfl) ?_
  conv => whnf
  repeat (refine step_go [] ?_; conv => whnf)
  refine VCall.args (args' := [.sl (bL l) .no, .sl (bL l) .no]) (.cons .spare (.cons (.eq rfl) .nil)) rfl ?_
  refine c_plain l hl _ ?_; conv => whnf
  repeat (refine step_go [] ?_; conv => whnf)
  refine no (by rw [h3, wrap64 (by omega) (by omega)]; simp) ?_; conv => whnf
  repeat (refine step_go [] ?_; conv => whnf)
  rw [show IntKind.i64.wrap (↑(bL l).length + 3) = (((bL l).length + 3 : Nat) : Int) by rw [wrap64 (by omega) (by omega)]; omega, Int.toNat_natCast]
  refine ⟨by omega, by omega, by rw [h3]; omega, ?_, ?_⟩
  · rw [bL_app]; exact bL_cells
  conv => whnf
  repeat (refine step_go [] ?_; conv => whnf)
  let S : Nat → St := fun i => ⟨(.spare (bL l) (bL [f, f, f]) :: .sl (bL l) .no :: .int .u8 f :: .undef :: .undef :: .undef :: .bool false :: .sl (bL (l ++ [f, f, f])) .no :: .int .i64 ((l.length + i : Nat) : Int) :: .undef :: .undef :: .undef :: .undef :: .undef :: .undef :: .undef :: .undef :: .undef :: .undef :: .undef :: .undef :: .undef :: .undef :: .undef :: .undef :: .undef :: .undef :: .undef :: .undef :: .undef :: .undef :: .undef :: .undef :: .undef :: .undef :: .undef :: .undef :: .undef :: .undef :: .undef :: []), [], 0, []⟩
  refine VLoop.enter (s' := S 0) (weak_of ?_ .nil rfl rfl rfl) (VLoop.ind S 3 ?_ ?_)
  · have e : ((bL l ++ bL [f, f, f]).take ((bL l).length + 3)).drop (Int.toNat 0) = bL (l ++ [f, f, f]) := by
      rw [Int.toNat_zero, List.drop_zero, bL_app, List.take_of_length_le (by simp [bL])]
    repeat' first
      | exact VWs.nil
      | refine VWs.cons VW.undef ?_
      | refine VWs.cons (VW.eq rfl) ?_
      | refine VWs.cons (VW.eq (by rw [e])) ?_
      | refine VWs.cons (VW.eq (by rw [hlen]; rfl)) ?_
  · intro i hi ih
    have hget : (bL (l ++ [f, f, f]))[((l.length + i : Nat) : Int).toNat]? = some (.int .u8 f) := by
      rw [Int.toNat_natCast, bL_get, List.getElem?_append_right (by omega), Nat.add_sub_cancel_left]
      obtain rfl | rfl | rfl : i = 0 ∨ i = 1 ∨ i = 2 := by omega
      all_goals rfl
    have hll : (bL (l ++ [f, f, f])).length = l.length + 3 := by simp [bL]
    refine loop_round [] ?_; conv => whnf
    repeat (refine step_go [] ?_; conv => whnf)
    refine yes (by simp [hll]; omega) ?_; conv => whnf
    repeat (refine step_go [] ?_; conv => whnf)
    refine ⟨by omega, _, hget, rfl, ?_⟩; conv => whnf
    repeat (refine step_go [] ?_; conv => whnf)
    refine no (by simp) ?_; conv => whnf
    repeat (refine step_go [] ?_; conv => whnf)
    refine ⟨S (i + 1), weak_of ?_ .nil rfl rfl rfl, ih⟩
    repeat' first
      | exact VWs.nil
      | refine VWs.cons VW.undef ?_
      | refine VWs.cons (VW.eq rfl) ?_
      | refine VWs.cons (VW.eq (congrArg (V.int .i64) (by rw [wrap64 (by omega) (by omega)]; omega))) ?_
  · have hll : (bL (l ++ [f, f, f])).length = l.length + 3 := by simp [bL]
    refine loop_round [] ?_; conv => whnf
    repeat (refine step_go [] ?_; conv => whnf)
    refine no (by simp [hll]) ?_; conv => whnf
    refine ⟨_, Weak.refl, ?_⟩; conv => whnf
    repeat (refine step_go [] ?_; conv => whnf)
    exact h
end A2

namespace E18
open Go Go.Proofs VL
set_option maxRecDepth 100000
set_option linter.unusedVariables false
@[irreducible] def withinS (a b c : Int) : Bool := decide (b ≤ a) && decide (a ≤ c)

theorem c_w3 (a b c : Int) (K) (h : K (.ret (.bool (withinS a b c))) []) : VCall Try.prog 51 [.int .i64 a, .int .i64 b, .int .i64 c] [] K := by
  refine call_fun [] 0 Try.func51 (by rfl) (by rfl) ?_
  conv => whnf
  repeat' first
    | (refine step_go [] ?_; conv => whnf)
    | (refine two (fun g => ?_) (fun g => ?_) <;> (try rw [g]) <;> (conv => whnf))
  · rw [show withinS a b c = decide (a ≤ c) by simp at g; simp [withinS, g]] at h; exact h
  · have g' : ¬ b ≤ a := by simp at g; omega
    rw [show withinS a b c = false by simp [withinS, g']] at h; exact h

theorem c_w2 (a b c : Int) (K) (h : K (.ret (.bool (withinS a b c))) []) : VCall Try.prog 52 [.int .i64 a, .int .i64 b, .int .i64 c] [] K := by
  refine call_fun [] 0 Try.func52 (by rfl) (by rfl) ?_
  conv => whnf
  repeat' first
    | (refine step_go [] ?_; conv => whnf)
    | (refine two (fun g => ?_) (fun g => ?_) <;> (try rw [g]) <;> (conv => whnf))
  · rw [show withinS a b c = decide (a ≤ c) by simp at g; simp [withinS, g]] at h; exact h
  · have g' : ¬ b ≤ a := by simp at g; omega
    rw [show withinS a b c = false by simp [withinS, g']] at h; exact h

structure Ev where
  (key kind day amount ref : Int)
def encE (e : Ev) : V := .agg [.int .i64 e.key, .int .i64 e.kind, .int .i64 e.day, .int .i64 e.amount, .int .i64 e.ref]

@[irreducible] def checkS (e : Ev) : Int :=
  if withinS e.kind 1 5 = false then 12 else
  if withinS e.key 1 1000000 = false then 13 else
  if withinS e.day (-25567) 84370 = false then 5 else
  if withinS e.amount (if e.kind = 4 ∨ e.kind = 5 then 0 else 1) (if e.kind = 4 then 1000000000 else if e.kind = 5 then 0 else 10000000000000) = false then 16 else
  if e.kind = 5 then (if withinS e.ref 1 1000000 then 0 else 20) else if e.ref = 0 then 0 else 20

theorem c_check (e : Ev) (K) (h : K (.ret (.int .i64 (checkS e))) []) : VCall Try.prog 16 [encE e] [] K := by
  refine call_fun [] 0 Try.func16 (by rfl) (by rfl) ?_
  conv => whnf
  repeat' first
    | (refine two (fun g => ?_) (fun g => ?_) <;> (try rw [g]) <;> (conv => whnf))
    | (refine step_go [] ?_; conv => whnf)
    | (refine c_w3 _ _ _ _ ?_; conv => whnf)
    | (refine c_w2 _ _ _ _ ?_; conv => whnf)
  all_goals (refine Eq.mp ?_ h; clear h; simp_all [checkS])

def sh8 : Nat → Int → Int
  | 0, v => v
  | n + 1, v => shiftV .shr .u64 (sh8 n v) 8
@[irreducible] def by8 (n : Nat) (v : Int) : Int := IntKind.u8.wrap (sh8 n v)

theorem c_put0 (v : Int) (b0 b1 b2 b3 b4 b5 b6 b7 b8 b9 b10 b11 b12 b13 b14 b15 b16 b17 b18 b19 : Int) (K) (h : K (.ret (.tup [])) [.cells true 82 [.int .u8 (by8 3 v), .int .u8 (by8 2 v), .int .u8 (by8 1 v), .int .u8 (by8 0 v), .int .u8 b4, .int .u8 b5, .int .u8 b6, .int .u8 b7, .int .u8 b8, .int .u8 b9, .int .u8 b10, .int .u8 b11, .int .u8 b12, .int .u8 b13, .int .u8 b14, .int .u8 b15, .int .u8 b16, .int .u8 b17, .int .u8 b18, .int .u8 b19, .int .i64 4]]) :
    VCall Try.prog 56 [.ptr 0 0, .int .u64 v, .int .i64 4] [.cells true 82 [.int .u8 b0, .int .u8 b1, .int .u8 b2, .int .u8 b3, .int .u8 b4, .int .u8 b5, .int .u8 b6, .int .u8 b7, .int .u8 b8, .int .u8 b9, .int .u8 b10, .int .u8 b11, .int .u8 b12, .int .u8 b13, .int .u8 b14, .int .u8 b15, .int .u8 b16, .int .u8 b17, .int .u8 b18, .int .u8 b19, .int .i64 0]] K := by
  refine call_fun [] 1 Try.func56 (by rfl) (by rfl) ?_
  conv => whnf
  repeat' first
    | (refine step_go [] ?_; conv => whnf)
    | (refine loop_round [] ?_; conv => whnf)
    | (refine ⟨_, Weak.refl, ?_⟩; conv => whnf)
    | (refine ⟨by decide +kernel, ?_⟩; conv => whnf)
    | (refine ⟨rfl, ?_⟩; conv => whnf)
  unfold by8 at h
  exact h

theorem c_put4 (v : Int) (b0 b1 b2 b3 b4 b5 b6 b7 b8 b9 b10 b11 b12 b13 b14 b15 b16 b17 b18 b19 : Int) (K) (h : K (.ret (.tup [])) [.cells true 82 [.int .u8 b0, .int .u8 b1, .int .u8 b2, .int .u8 b3, .int .u8 (by8 0 v), .int .u8 b5, .int .u8 b6, .int .u8 b7, .int .u8 b8, .int .u8 b9, .int .u8 b10, .int .u8 b11, .int .u8 b12, .int .u8 b13, .int .u8 b14, .int .u8 b15, .int .u8 b16, .int .u8 b17, .int .u8 b18, .int .u8 b19, .int .i64 5]]) :
    VCall Try.prog 56 [.ptr 0 0, .int .u64 v, .int .i64 1] [.cells true 82 [.int .u8 b0, .int .u8 b1, .int .u8 b2, .int .u8 b3, .int .u8 b4, .int .u8 b5, .int .u8 b6, .int .u8 b7, .int .u8 b8, .int .u8 b9, .int .u8 b10, .int .u8 b11, .int .u8 b12, .int .u8 b13, .int .u8 b14, .int .u8 b15, .int .u8 b16, .int .u8 b17, .int .u8 b18, .int .u8 b19, .int .i64 4]] K := by
  refine call_fun [] 1 Try.func56 (by rfl) (by rfl) ?_
  conv => whnf
  repeat' first
    | (refine step_go [] ?_; conv => whnf)
    | (refine loop_round [] ?_; conv => whnf)
    | (refine ⟨_, Weak.refl, ?_⟩; conv => whnf)
    | (refine ⟨by decide +kernel, ?_⟩; conv => whnf)
    | (refine ⟨rfl, ?_⟩; conv => whnf)
  unfold by8 at h
  exact h

theorem c_put5 (v : Int) (b0 b1 b2 b3 b4 b5 b6 b7 b8 b9 b10 b11 b12 b13 b14 b15 b16 b17 b18 b19 : Int) (K) (h : K (.ret (.tup [])) [.cells true 82 [.int .u8 b0, .int .u8 b1, .int .u8 b2, .int .u8 b3, .int .u8 b4, .int .u8 (by8 3 v), .int .u8 (by8 2 v), .int .u8 (by8 1 v), .int .u8 (by8 0 v), .int .u8 b9, .int .u8 b10, .int .u8 b11, .int .u8 b12, .int .u8 b13, .int .u8 b14, .int .u8 b15, .int .u8 b16, .int .u8 b17, .int .u8 b18, .int .u8 b19, .int .i64 9]]) :
    VCall Try.prog 56 [.ptr 0 0, .int .u64 v, .int .i64 4] [.cells true 82 [.int .u8 b0, .int .u8 b1, .int .u8 b2, .int .u8 b3, .int .u8 b4, .int .u8 b5, .int .u8 b6, .int .u8 b7, .int .u8 b8, .int .u8 b9, .int .u8 b10, .int .u8 b11, .int .u8 b12, .int .u8 b13, .int .u8 b14, .int .u8 b15, .int .u8 b16, .int .u8 b17, .int .u8 b18, .int .u8 b19, .int .i64 5]] K := by
  refine call_fun [] 1 Try.func56 (by rfl) (by rfl) ?_
  conv => whnf
  repeat' first
    | (refine step_go [] ?_; conv => whnf)
    | (refine loop_round [] ?_; conv => whnf)
    | (refine ⟨_, Weak.refl, ?_⟩; conv => whnf)
    | (refine ⟨by decide +kernel, ?_⟩; conv => whnf)
    | (refine ⟨rfl, ?_⟩; conv => whnf)
  unfold by8 at h
  exact h

theorem c_put9 (v : Int) (b0 b1 b2 b3 b4 b5 b6 b7 b8 b9 b10 b11 b12 b13 b14 b15 b16 b17 b18 b19 : Int) (K) (h : K (.ret (.tup [])) [.cells true 82 [.int .u8 b0, .int .u8 b1, .int .u8 b2, .int .u8 b3, .int .u8 b4, .int .u8 b5, .int .u8 b6, .int .u8 b7, .int .u8 b8, .int .u8 (by8 7 v), .int .u8 (by8 6 v), .int .u8 (by8 5 v), .int .u8 (by8 4 v), .int .u8 (by8 3 v), .int .u8 (by8 2 v), .int .u8 (by8 1 v), .int .u8 (by8 0 v), .int .u8 b17, .int .u8 b18, .int .u8 b19, .int .i64 17]]) :
    VCall Try.prog 56 [.ptr 0 0, .int .u64 v, .int .i64 8] [.cells true 82 [.int .u8 b0, .int .u8 b1, .int .u8 b2, .int .u8 b3, .int .u8 b4, .int .u8 b5, .int .u8 b6, .int .u8 b7, .int .u8 b8, .int .u8 b9, .int .u8 b10, .int .u8 b11, .int .u8 b12, .int .u8 b13, .int .u8 b14, .int .u8 b15, .int .u8 b16, .int .u8 b17, .int .u8 b18, .int .u8 b19, .int .i64 9]] K := by
  refine call_fun [] 1 Try.func56 (by rfl) (by rfl) ?_
  conv => whnf
  repeat' first
    | (refine step_go [] ?_; conv => whnf)
    | (refine loop_round [] ?_; conv => whnf)
    | (refine ⟨_, Weak.refl, ?_⟩; conv => whnf)
    | (refine ⟨by decide +kernel, ?_⟩; conv => whnf)
    | (refine ⟨rfl, ?_⟩; conv => whnf)
  unfold by8 at h
  exact h

theorem c_put17 (v : Int) (b0 b1 b2 b3 b4 b5 b6 b7 b8 b9 b10 b11 b12 b13 b14 b15 b16 b17 b18 b19 : Int) (K) (h : K (.ret (.tup [])) [.cells true 82 [.int .u8 b0, .int .u8 b1, .int .u8 b2, .int .u8 b3, .int .u8 b4, .int .u8 b5, .int .u8 b6, .int .u8 b7, .int .u8 b8, .int .u8 b9, .int .u8 b10, .int .u8 b11, .int .u8 b12, .int .u8 b13, .int .u8 b14, .int .u8 b15, .int .u8 b16, .int .u8 (by8 2 v), .int .u8 (by8 1 v), .int .u8 (by8 0 v), .int .i64 20]]) :
    VCall Try.prog 56 [.ptr 0 0, .int .u64 v, .int .i64 3] [.cells true 82 [.int .u8 b0, .int .u8 b1, .int .u8 b2, .int .u8 b3, .int .u8 b4, .int .u8 b5, .int .u8 b6, .int .u8 b7, .int .u8 b8, .int .u8 b9, .int .u8 b10, .int .u8 b11, .int .u8 b12, .int .u8 b13, .int .u8 b14, .int .u8 b15, .int .u8 b16, .int .u8 b17, .int .u8 b18, .int .u8 b19, .int .i64 17]] K := by
  refine call_fun [] 1 Try.func56 (by rfl) (by rfl) ?_
  conv => whnf
  repeat' first
    | (refine step_go [] ?_; conv => whnf)
    | (refine loop_round [] ?_; conv => whnf)
    | (refine ⟨_, Weak.refl, ?_⟩; conv => whnf)
    | (refine ⟨by decide +kernel, ?_⟩; conv => whnf)
    | (refine ⟨rfl, ?_⟩; conv => whnf)
  unfold by8 at h
  exact h

@[irreducible] def packL (e : Ev) : List Int := if checkS e = 0 then [by8 3 (IntKind.u64.wrap e.key), by8 2 (IntKind.u64.wrap e.key), by8 1 (IntKind.u64.wrap e.key), by8 0 (IntKind.u64.wrap e.key), by8 0 (IntKind.u64.wrap e.kind), by8 3 (IntKind.u64.wrap (IntKind.i64.wrap (e.day - (-25567)))), by8 2 (IntKind.u64.wrap (IntKind.i64.wrap (e.day - (-25567)))), by8 1 (IntKind.u64.wrap (IntKind.i64.wrap (e.day - (-25567)))), by8 0 (IntKind.u64.wrap (IntKind.i64.wrap (e.day - (-25567)))), by8 7 (IntKind.u64.wrap e.amount), by8 6 (IntKind.u64.wrap e.amount), by8 5 (IntKind.u64.wrap e.amount), by8 4 (IntKind.u64.wrap e.amount), by8 3 (IntKind.u64.wrap e.amount), by8 2 (IntKind.u64.wrap e.amount), by8 1 (IntKind.u64.wrap e.amount), by8 0 (IntKind.u64.wrap e.amount), by8 2 (IntKind.u64.wrap e.ref), by8 1 (IntKind.u64.wrap e.ref), by8 0 (IntKind.u64.wrap e.ref)] else [0, 0, 0, 0, 0, 0, 0, 0, 0, 0, 0, 0, 0, 0, 0, 0, 0, 0, 0, 0]
@[irreducible] def pk (e : Ev) (i : Nat) : Int := (packL e).getD i 0
def encP (e : Ev) : V := .agg [.int .u8 (pk e 0), .int .u8 (pk e 1), .int .u8 (pk e 2), .int .u8 (pk e 3), .int .u8 (pk e 4), .int .u8 (pk e 5), .int .u8 (pk e 6), .int .u8 (pk e 7), .int .u8 (pk e 8), .int .u8 (pk e 9), .int .u8 (pk e 10), .int .u8 (pk e 11), .int .u8 (pk e 12), .int .u8 (pk e 13), .int .u8 (pk e 14), .int .u8 (pk e 15), .int .u8 (pk e 16), .int .u8 (pk e 17), .int .u8 (pk e 18), .int .u8 (pk e 19)]

theorem c_pack (e : Ev) (K) (h : K (.ret (encP e)) []) : VCall Try.prog 21 [encE e] [] K := by
  refine call_fun [] 0 Try.func21 (by rfl) (by rfl) ?_
  conv => whnf
  repeat' first
    | (refine step_go [] ?_; conv => whnf)
    | (refine two (fun g => ?_) (fun g => ?_) <;> (conv => whnf))
    | (refine c_check _ _ ?_; conv => whnf)
    | (refine c_put0 _ _ _ _ _ _ _ _ _ _ _ _ _ _ _ _ _ _ _ _ _ _ ?_; conv => whnf)
    | (refine c_put4 _ _ _ _ _ _ _ _ _ _ _ _ _ _ _ _ _ _ _ _ _ _ ?_; conv => whnf)
    | (refine c_put5 _ _ _ _ _ _ _ _ _ _ _ _ _ _ _ _ _ _ _ _ _ _ ?_; conv => whnf)
    | (refine c_put9 _ _ _ _ _ _ _ _ _ _ _ _ _ _ _ _ _ _ _ _ _ _ ?_; conv => whnf)
    | (refine c_put17 _ _ _ _ _ _ _ _ _ _ _ _ _ _ _ _ _ _ _ _ _ _ ?_; conv => whnf)
  · have hc : checkS e ≠ 0 := by simpa using g
    simp only [encP, pk, packL, if_neg hc, List.getD_cons_zero, List.getD_cons_succ] at h
    exact h
  · have hc : checkS e = 0 := by simpa using g
    simp only [encP, pk, packL, if_pos hc, List.getD_cons_zero, List.getD_cons_succ] at h
    exact h

end E18
namespace E18
open Go Go.Proofs VL
set_option linter.unusedSimpArgs false
set_option linter.unusedVariables false
set_option maxRecDepth 100000
theorem chk1 : checkS ⟨1, 2, 5, 7, 0⟩ = 0 := by unfold checkS withinS; decide
theorem chk2 : checkS ⟨0, 0, 0, 0, 0⟩ = 12 := by unfold checkS withinS; decide
theorem pk1 : pk ⟨1, 2, 5, 7, 0⟩ 4 = 2 := by unfold pk packL; rw [chk1]; unfold by8; decide
theorem c_awake (K) (h : K (.ret (.bool true)) []) : VCall Try.prog 15 [] [] K := by
  refine call_fun [] 0 Try.func15 (by rfl) (by rfl) ?_
  conv => whnf
  repeat' first
    | (refine step_go [] ?_; conv => whnf)
    | (refine c_check ⟨_, _, _, _, _⟩ _ ?_; simp only [chk1, chk2]; conv => whnf)
    | (refine c_pack ⟨_, _, _, _, _⟩ _ ?_; conv => whnf)
    | (refine two (fun g => ?_) (fun g => ?_) <;> (conv => whnf))
    | (refine ⟨by decide, ?_⟩; conv => whnf)
  rw [pk1]; exact h

end E18

namespace E18
open Go Go.Proofs VL
set_option pp.maxSteps 6000
set_option linter.unusedSimpArgs false
set_option linter.unusedVariables false
set_option maxRecDepth 100000

def nstep (v c : Int) : Int := bitsV .or .u64 (shiftV .shl .u64 v 8) (IntKind.u64.wrap c)
@[irreducible] def numS (p : List Int) : Int := p.foldl nstep 0

theorem numS_nil : numS [] = 0 := by unfold numS; rfl
theorem numS_take (p : List Int) (i : Nat) (hi : i < p.length) : numS (p.take (i + 1)) = nstep (numS (p.take i)) p[i] := by
  unfold numS
  rw [List.take_succ_eq_append_getElem hi, List.foldl_append]; rfl

theorem c_get (p l : List Int) (hp : p.length < 1000) (K) (h : K (.ret (.int .i64 (IntKind.i64.wrap (numS p)))) [.cells true 77 [.sl (bL l) .no]]) :
    VCall Try.prog 53 [.ptr 0 0, .int .i64 p.length] [.cells true 77 [.sl (bL (p ++ l)) .no]] K := by
  have hlen := bL_len p
  have hl : (bL (p ++ l)).length = p.length + l.length := by simp [bL]
  refine call_fun [] 1 Try.func53 (by rfl) (by rfl) ?_
  conv => whnf
  repeat (refine step_go [] ?_; conv => whnf)
  refine ⟨by omega, by omega, by omega, bL_cells, ?_⟩; conv => whnf
  repeat (refine step_go [] ?_; conv => whnf)
  have e1 : (List.drop (Int.toNat 0) (List.take (p.length : Int).toNat (bL (p ++ l)))) = bL p := by
    rw [Int.toNat_natCast, Int.toNat_zero, List.drop_zero, ← bL_app, ← hlen, List.take_left]
  rw [e1]
  let S : Nat → St := fun i => ⟨(.ptr 0 0 :: .int .i64 p.length :: .undef :: .undef :: .int .i64 0 :: .int .u64 (numS (p.take i)) :: .undef :: .undef :: .undef :: .undef :: .undef :: .undef :: .undef :: .sl (bL p) .no :: .int .i64 p.length :: .int .i64 i :: .undef :: .undef :: .undef :: .undef :: .undef :: .undef :: .undef :: .undef :: .undef :: .undef :: .undef :: .undef :: .undef :: .undef :: .undef :: .undef :: .undef :: .undef :: .undef :: .undef :: []), (.cells true 77 (.sl (bL (p ++ l)) .no :: [])) :: [], 0, []⟩
  refine VLoop.enter (s' := S 0) (weak_of ?_ (.cons (.eq rfl) .nil) rfl rfl rfl) (VLoop.ind S p.length ?_ ?_)
  · repeat' first
      | exact VWs.nil
      | refine VWs.cons VW.undef ?_
      | refine VWs.cons (VW.eq rfl) ?_
      | refine VWs.cons (VW.eq (by rw [hlen])) ?_
      | refine VWs.cons (VW.eq (by rw [List.take_zero, numS_nil])) ?_
  · intro i hi ih
    have hget : (bL p)[(i : Int).toNat]? = some (.int .u8 (p[i])) := by rw [Int.toNat_natCast, bL_get, List.getElem?_eq_getElem hi]; rfl
    refine loop_round [] ?_; conv => whnf
    repeat (refine step_go [] ?_; conv => whnf)
    refine yes (by simpa using hi) ?_; conv => whnf
    repeat (refine step_go [] ?_; conv => whnf)
    refine ⟨by omega, _, hget, rfl, ?_⟩; conv => whnf
    repeat (refine step_go [] ?_; conv => whnf)
    refine ⟨by omega, ?_⟩; conv => whnf
    repeat (refine step_go [] ?_; conv => whnf)
    refine ⟨S (i + 1), weak_of ?_ (.cons (.eq rfl) .nil) rfl rfl rfl, ih⟩
    repeat' first
      | exact VWs.nil
      | refine VWs.cons VW.undef ?_
      | refine VWs.cons (VW.eq rfl) ?_
      | refine VWs.cons (VW.eq (congrArg (V.int .i64) (by rw [wrap64 (by omega) (by omega)]; omega))) ?_
      | refine VWs.cons (VW.eq (congrArg (V.int .u64) (by rw [numS_take p i hi]; rfl))) ?_
  · refine loop_round [] ?_; conv => whnf
    repeat (refine step_go [] ?_; conv => whnf)
    refine no (by simp) ?_; conv => whnf
    refine ⟨_, Weak.refl, ?_⟩; conv => whnf
    repeat (refine step_go [] ?_; conv => whnf)
    refine ⟨by omega, by rw [hl]; omega, bL_cells, ?_⟩; conv => whnf
    repeat (refine step_go [] ?_; conv => whnf)
    rw [Int.toNat_natCast, ← bL_app, ← hlen, List.drop_left, hlen, List.take_length]
    exact h

-- the reference's number: of so many bytes, from a place on
theorem c_number (l : List Int) (a n : Nat) (hb : a + n ≤ l.length) (hl : l.length < 1000000) (K) (h : K (.ret (.int .u64 (numS ((l.drop a).take n)))) []) :
    VCall Try.prog 54 [.sl (bL l) .no, .int .i64 a, .int .i64 n] [] K := by
  refine call_fun [] 0 Try.func54 (by rfl) (by rfl) ?_
  conv => whnf
  repeat (refine step_go [] ?_; conv => whnf)
  have hpl : ((l.drop a).take n).length = n := by simp; omega
  let S : Nat → St := fun i => ⟨(.sl (bL l) .no :: .int .i64 a :: .int .i64 n :: .undef :: .undef :: .undef :: .int .u64 0 :: .int .u64 (numS (((l.drop a).take n).take i)) :: .int .i64 ((a + i : Nat) : Int) :: .undef :: .undef :: .undef :: .undef :: .undef :: .undef :: .undef :: .undef :: .undef :: .undef :: .undef :: .undef :: .undef :: .undef :: .undef :: .undef :: .undef :: []), [], 0, []⟩
  refine VLoop.enter (s' := S 0) (weak_of ?_ .nil rfl rfl rfl) (VLoop.ind S n ?_ ?_)
  · repeat' first
      | exact VWs.nil
      | refine VWs.cons VW.undef ?_
      | refine VWs.cons (VW.eq rfl) ?_
      | refine VWs.cons (VW.eq (by rw [List.take_zero, numS_nil])) ?_
  · intro i hi ih
    have hget : (bL l)[((a + i : Nat) : Int).toNat]? = some (.int .u8 (((l.drop a).take n)[i]'(by omega))) := by
      rw [Int.toNat_natCast, bL_get, List.getElem?_eq_getElem (by omega)]
      simp
    refine loop_round [] ?_; conv => whnf
    repeat (refine step_go [] ?_; conv => whnf)
    refine yes (by rw [wrap64 (by omega) (by omega)]; simp; omega) ?_; conv => whnf
    repeat (refine step_go [] ?_; conv => whnf)
    refine ⟨by omega, ?_⟩; conv => whnf
    refine ⟨by omega, _, hget, rfl, ?_⟩; conv => whnf
    repeat (refine step_go [] ?_; conv => whnf)
    refine ⟨S (i + 1), weak_of ?_ .nil rfl rfl rfl, ih⟩
    repeat' first
      | exact VWs.nil
      | refine VWs.cons VW.undef ?_
      | refine VWs.cons (VW.eq rfl) ?_
      | refine VWs.cons (VW.eq (congrArg (V.int .i64) (by rw [wrap64 (by omega) (by omega)]; omega))) ?_
      | refine VWs.cons (VW.eq (congrArg (V.int .u64) (by rw [numS_take _ i (by omega)]; rfl))) ?_
  · refine loop_round [] ?_; conv => whnf
    repeat (refine step_go [] ?_; conv => whnf)
    refine no (by rw [wrap64 (by omega) (by omega)]; simp) ?_; conv => whnf
    refine ⟨_, Weak.refl, ?_⟩; conv => whnf
    repeat (refine step_go [] ?_; conv => whnf)
    rw [List.take_of_length_le (by omega)]
    exact h

theorem c_is (d : Int) (K) (h : K (.ret (.bool (withinS d (-25567) 84370))) []) : VCall Try.prog 55 [.int .i64 d] [] K := by
  refine call_fun [] 0 Try.func55 (by rfl) (by rfl) ?_
  conv => whnf
  repeat' first
    | (refine step_go [] ?_; conv => whnf)
    | (refine two (fun g => ?_) (fun g => ?_) <;> (try rw [g]) <;> (conv => whnf))
  · rw [show withinS d (-25567) 84370 = decide (d ≤ 84370) by simp at g; simp [withinS, g]] at h; exact h
  · have g' : ¬ -25567 ≤ d := by simp at g; omega
    rw [show withinS d (-25567) 84370 = false by simp [withinS, g']] at h; exact h

set_option maxHeartbeats 4000000 in
theorem c_rcheck (e : Ev) (K) (h : K (.ret (.int .i64 (checkS e))) []) : VCall Try.prog 20 [encE e] [] K := by
  refine call_fun [] 0 Try.func20 (by rfl) (by rfl) ?_
  conv => whnf
  repeat' first
    | (refine two (fun g => ?_) (fun g => ?_) <;> (try rw [g]) <;> (conv => whnf))
    | (refine step_go [] ?_; conv => whnf)
    | (refine c_is _ _ ?_; conv => whnf)
  all_goals
    refine Eq.mp ?_ h
    clear h
    refine congrArg (fun x => K (Out.ret (V.int .i64 x)) []) ?_
    unfold checkS withinS
    simp only [beq_iff_eq, decide_eq_true_eq, decide_eq_false_iff_not, bne_iff_ne, ne_eq, Bool.and_eq_false_iff, Bool.not_eq_true, beq_eq_false_iff_ne, bne_eq_false_iff_eq, Bool.and_eq_true, Bool.not_eq_false', Bool.not_eq_true', Bool.not_eq_eq_eq_not, Bool.not_true, Bool.not_false, withinS] at *
    repeat' split
    all_goals first | rfl | (exfalso; simp_all; omega) | (exfalso; omega)
end E18

namespace E18
open Go Go.Proofs VL
set_option pp.maxSteps 6000
set_option linter.unusedSimpArgs false
set_option linter.unusedVariables false
set_option maxRecDepth 100000

theorem list20 {l : List Int} (h : l.length = 20) : ∃ b0 b1 b2 b3 b4 b5 b6 b7 b8 b9 b10 b11 b12 b13 b14 b15 b16 b17 b18 b19, l = [b0, b1, b2, b3, b4, b5, b6, b7, b8, b9, b10, b11, b12, b13, b14, b15, b16, b17, b18, b19] := by
  rcases l with _ | ⟨b0, l⟩
  · simp at h
  rcases l with _ | ⟨b1, l⟩
  · simp at h
  rcases l with _ | ⟨b2, l⟩
  · simp at h
  rcases l with _ | ⟨b3, l⟩
  · simp at h
  rcases l with _ | ⟨b4, l⟩
  · simp at h
  rcases l with _ | ⟨b5, l⟩
  · simp at h
  rcases l with _ | ⟨b6, l⟩
  · simp at h
  rcases l with _ | ⟨b7, l⟩
  · simp at h
  rcases l with _ | ⟨b8, l⟩
  · simp at h
  rcases l with _ | ⟨b9, l⟩
  · simp at h
  rcases l with _ | ⟨b10, l⟩
  · simp at h
  rcases l with _ | ⟨b11, l⟩
  · simp at h
  rcases l with _ | ⟨b12, l⟩
  · simp at h
  rcases l with _ | ⟨b13, l⟩
  · simp at h
  rcases l with _ | ⟨b14, l⟩
  · simp at h
  rcases l with _ | ⟨b15, l⟩
  · simp at h
  rcases l with _ | ⟨b16, l⟩
  · simp at h
  rcases l with _ | ⟨b17, l⟩
  · simp at h
  rcases l with _ | ⟨b18, l⟩
  · simp at h
  rcases l with _ | ⟨b19, l⟩
  · simp at h
  rcases l with _ | ⟨_, l⟩
  · exact ⟨_, _, _, _, _, _, _, _, _, _, _, _, _, _, _, _, _, _, _, _, rfl⟩
  · simp at h

@[irreducible] def evOf (b : List Int) : Ev := ⟨IntKind.i64.wrap (numS (b.take 4)), IntKind.i64.wrap (numS ((b.drop 4).take 1)), IntKind.i64.wrap (IntKind.i64.wrap (numS ((b.drop 5).take 4)) + -25567), IntKind.i64.wrap (numS ((b.drop 9).take 8)), IntKind.i64.wrap (numS ((b.drop 17).take 3))⟩
def zeroE : Ev := ⟨0, 0, 0, 0, 0⟩
@[irreducible] def takeE (b : List Int) : Ev := if b.length = 20 ∧ checkS (evOf b) = 0 then evOf b else zeroE
@[irreducible] def takeC (b : List Int) : Int := if b.length < 20 then 21 else if 20 < b.length then 4 else if checkS (evOf b) = 0 then 0 else 4

theorem take_short {b : List Int} (h : b.length < 20) : takeE b = zeroE ∧ takeC b = 21 := by
  unfold takeE takeC
  rw [if_neg (by omega), if_pos h]; exact ⟨rfl, rfl⟩
theorem take_long {b : List Int} (h : 20 < b.length) : takeE b = zeroE ∧ takeC b = 4 := by
  unfold takeE takeC
  rw [if_neg (by omega), if_neg (by omega), if_pos h]; exact ⟨rfl, rfl⟩
theorem take_good {b : List Int} (h : b.length = 20) (hc : checkS (evOf b) = 0) : takeE b = evOf b ∧ takeC b = 0 := by
  unfold takeE takeC
  rw [if_pos ⟨h, hc⟩, if_neg (by omega), if_neg (by omega), if_pos hc]; exact ⟨rfl, rfl⟩
theorem take_bad {b : List Int} (h : b.length = 20) (hc : checkS (evOf b) ≠ 0) : takeE b = zeroE ∧ takeC b = 4 := by
  unfold takeE takeC
  rw [if_neg (by simp [hc]), if_neg (by omega), if_neg (by omega), if_neg hc]; exact ⟨rfl, rfl⟩

theorem c_check' (e : Ev) (c : Int) (hc : checkS e = c) (K) (h : K (.ret (.int .i64 c)) []) : VCall Try.prog 16 [encE e] [] K := c_check e K (by rw [hc]; exact h)
theorem c_rcheck' (e : Ev) (c : Int) (hc : checkS e = c) (K) (h : K (.ret (.int .i64 c)) []) : VCall Try.prog 20 [encE e] [] K := c_rcheck e K (by rw [hc]; exact h)

theorem c_take (b : List Int) (hb : b.length < 1000000) (K) (h : K (.ret (.tup [encE (takeE b), .int .i64 (takeC b)])) []) : VCall Try.prog 18 [.sl (bL b) .no] [] K := by
  have hlen := bL_len b
  refine call_fun [] 0 Try.func18 (by rfl) (by rfl) ?_
  conv => whnf
  repeat (refine step_go [] ?_; conv => whnf)
  refine two (fun g => ?_) (fun g => ?_)
  · have g : b.length < 20 := by simp at g; omega
    rw [(take_short g).1, (take_short g).2] at h
    conv => whnf
    repeat (refine step_go [] ?_; conv => whnf)
    exact h
  have g1 : ¬ b.length < 20 := by simp at g; omega
  conv => whnf
  repeat (refine step_go [] ?_; conv => whnf)
  refine two (fun g => ?_) (fun g => ?_)
  · have g : 20 < b.length := by simp at g; omega
    rw [(take_long g).1, (take_long g).2] at h
    conv => whnf
    repeat (refine step_go [] ?_; conv => whnf)
    exact h
  have g2 : b.length = 20 := by simp at g; omega
  clear g g1
  obtain ⟨b0, b1, b2, b3, b4, b5, b6, b7, b8, b9, b10, b11, b12, b13, b14, b15, b16, b17, b18, b19, rfl⟩ := list20 g2
  conv => whnf
  repeat (refine step_go [] ?_; conv => whnf)
  refine c_get [b0, b1, b2, b3] [b4, b5, b6, b7, b8, b9, b10, b11, b12, b13, b14, b15, b16, b17, b18, b19] (by simp) _ ?_; conv => whnf
  repeat (refine step_go [] ?_; conv => whnf)
  refine c_get [b4] [b5, b6, b7, b8, b9, b10, b11, b12, b13, b14, b15, b16, b17, b18, b19] (by simp) _ ?_; conv => whnf
  repeat (refine step_go [] ?_; conv => whnf)
  refine c_get [b5, b6, b7, b8] [b9, b10, b11, b12, b13, b14, b15, b16, b17, b18, b19] (by simp) _ ?_; conv => whnf
  repeat (refine step_go [] ?_; conv => whnf)
  refine c_get [b9, b10, b11, b12, b13, b14, b15, b16] [b17, b18, b19] (by simp) _ ?_; conv => whnf
  repeat (refine step_go [] ?_; conv => whnf)
  refine c_get [b17, b18, b19] [] (by simp) _ ?_; conv => whnf
  repeat (refine step_go [] ?_; conv => whnf)
  have he : evOf [b0, b1, b2, b3, b4, b5, b6, b7, b8, b9, b10, b11, b12, b13, b14, b15, b16, b17, b18, b19] = ⟨IntKind.i64.wrap (numS [b0, b1, b2, b3]), IntKind.i64.wrap (numS [b4]), IntKind.i64.wrap (IntKind.i64.wrap (numS [b5, b6, b7, b8]) + -25567), IntKind.i64.wrap (numS [b9, b10, b11, b12, b13, b14, b15, b16]), IntKind.i64.wrap (numS [b17, b18, b19])⟩ := by unfold evOf; rfl
  refine c_check' ⟨_, _, _, _, _⟩ (checkS (evOf [b0, b1, b2, b3, b4, b5, b6, b7, b8, b9, b10, b11, b12, b13, b14, b15, b16, b17, b18, b19])) (by rw [he]; rfl) _ ?_; conv => whnf
  repeat (refine step_go [] ?_; conv => whnf)
  refine two (fun g => ?_) (fun g => ?_)
  · have hc : checkS (evOf [b0, b1, b2, b3, b4, b5, b6, b7, b8, b9, b10, b11, b12, b13, b14, b15, b16, b17, b18, b19]) ≠ 0 := by simpa using g
    rw [(take_bad rfl hc).1, (take_bad rfl hc).2] at h
    conv => whnf
    repeat (refine step_go [] ?_; conv => whnf)
    exact h
  · have hc : checkS (evOf [b0, b1, b2, b3, b4, b5, b6, b7, b8, b9, b10, b11, b12, b13, b14, b15, b16, b17, b18, b19]) = 0 := by simpa using g
    rw [(take_good rfl hc).1, (take_good rfl hc).2, he] at h
    conv => whnf
    repeat (refine step_go [] ?_; conv => whnf)
    exact h

theorem nstep0 {c : Int} (h0 : 0 ≤ c) (h1 : c ≤ 255) : nstep 0 c = c := by
  obtain ⟨n, rfl⟩ := Int.eq_ofNat_of_zero_le h0
  have : ∀ n : Fin 256, nstep 0 (n.val : Int) = (n.val : Int) := by decide +kernel
  exact this ⟨n, by omega⟩

theorem num1 {c : Int} (h0 : 0 ≤ c) (h1 : c ≤ 255) : numS [c] = c := by
  unfold numS
  exact nstep0 h0 h1

end E18

namespace E18
open Go VL
set_option linter.unusedSimpArgs false
set_option linter.unusedVariables false
set_option maxRecDepth 100000

theorem wrapU64 {x : Int} (h1 : 0 ≤ x) (h2 : x < 18446744073709551616) : IntKind.u64.wrap x = x := by
  have : IntKind.u64.wrap x = x % 18446744073709551616 := by unfold IntKind.wrap; simp [IntKind.bits, IntKind.signed]
  omega
theorem wrapU8 (x : Int) : IntKind.u8.wrap x = x % 256 := by unfold IntKind.wrap; simp [IntKind.bits, IntKind.signed]

theorem nstep_eq {v c : Int} (h0 : 0 ≤ v) (h1 : v < 72057594037927936) (h2 : 0 ≤ c) (h3 : c < 256) : nstep v c = v * 256 + c := by
  obtain ⟨n, rfl⟩ := Int.eq_ofNat_of_zero_le h0
  obtain ⟨m, rfl⟩ := Int.eq_ofNat_of_zero_le h2
  have hn : n < 2 ^ 56 := by omega
  have hm : m < 2 ^ 8 := by omega
  unfold nstep bitsV shiftV
  simp only
  rw [wrapU64 (x := (m : Int)) (by omega) (by omega)]
  rw [show (min (Int.toNat 8) IntKind.u64.bits) = 8 by decide]
  rw [wrapU64 (x := (n : Int) * 2 ^ 8) (by omega) (by omega)]
  have e1 : (BitVec.ofInt IntKind.u64.bits ((n : Int) * 2 ^ 8)).toNat = n * 2 ^ 8 := by
    rw [BitVec.toNat_ofInt]; show ((n : Int) * 2 ^ 8 % ((2 ^ 64 : Nat) : Int)).toNat = _; omega
  have e2 : (BitVec.ofInt IntKind.u64.bits (m : Int)).toNat = m := by
    rw [BitVec.toNat_ofInt]; show ((m : Int) % ((2 ^ 64 : Nat) : Int)).toNat = _; omega
  rw [BitVec.toNat_or, e1, e2]
  have e3 : n * 2 ^ 8 ||| m = n * 2 ^ 8 + m := by
    rw [Nat.mul_comm]; exact (Nat.two_pow_add_eq_or_of_lt hm n).symm
  rw [e3, wrapU64 (by omega) (by omega)]
  omega

/-- bytes, as a number -/
def natS : List Int → Int
  | l => l.foldl (fun v c => v * 256 + c) 0

def Byte (x : Int) : Prop := 0 ≤ x ∧ x < 256

theorem num_fold : ∀ (l : List Int) (v : Int) (k : Nat), (∀ x ∈ l, Byte x) → 0 ≤ v → v < 256 ^ k → k + l.length ≤ 8 → l.foldl nstep v = l.foldl (fun v c => v * 256 + c) v
  | [], _, _, _, _, _, _ => rfl
  | c :: r, v, k, hb, h0, h1, hl => by
    have hc := hb c (by simp)
    simp only [List.length_cons] at hl
    have hk : (256 : Int) ^ k ≤ 256 ^ 7 := by
      have : (256 : Nat) ^ k ≤ 256 ^ 7 := Nat.pow_le_pow_right (by omega) (by omega)
      exact_mod_cast this
    rw [List.foldl_cons, List.foldl_cons, nstep_eq h0 (by omega) hc.1 hc.2]
    refine num_fold r _ (k + 1) (fun x hx => hb x (by simp [hx])) (by have := hc.1; omega) ?_ (by omega)
    rw [Int.pow_succ]
    have := hc.2
    omega

theorem num_eq (l : List Int) (hb : ∀ x ∈ l, Byte x) (hl : l.length ≤ 8) : numS l = natS l := by
  unfold numS natS
  exact num_fold l 0 0 hb (by omega) (by simp) (by omega)

theorem pow256 (n : Nat) : (0 : Int) ≤ 256 ^ n := Int.pow_nonneg (by omega)

theorem sh8_eq : ∀ (n : Nat) (v : Int), sh8 n v = v / 256 ^ n
  | 0, v => by simp [sh8]
  | n + 1, v => by
    unfold sh8 shiftV
    rw [sh8_eq n v]
    rw [show (min (Int.toNat 8) IntKind.u64.bits) = 8 by decide]
    show (v / 256 ^ n).fdiv (2 ^ 8) = _
    rw [Int.fdiv_eq_ediv_of_nonneg _ (by omega), Int.ediv_ediv, if_neg (fun h => Int.not_lt.2 (pow256 n) h.1), Int.pow_succ, Int.sub_zero]
    rfl

theorem by8_eq (n : Nat) (v : Int) : by8 n v = v / 256 ^ n % 256 := by
  unfold by8
  rw [wrapU8, sh8_eq]

/-- what may be is packed, and taken -/
theorem check_ok {e : Ev} (h : checkS e = 0) : 1 ≤ e.kind ∧ e.kind ≤ 5 ∧ 1 ≤ e.key ∧ e.key ≤ 1000000 ∧ -25567 ≤ e.day ∧ e.day ≤ 84370 ∧ 0 ≤ e.amount ∧ e.amount ≤ 10000000000000 ∧ 0 ≤ e.ref ∧ e.ref ≤ 1000000 := by
  unfold checkS withinS at h
  simp only [Bool.and_eq_false_iff, decide_eq_false_iff_not, Bool.and_eq_true, decide_eq_true_eq] at h
  split at h
  · omega
  split at h
  · omega
  split at h
  · omega
  split at h
  · omega
  rename_i h1 h2 h3 h4
  have h5 : 0 ≤ e.ref ∧ e.ref ≤ 1000000 := by
    split at h
    · split at h <;> omega
    · split at h <;> omega
  have h6 : 0 ≤ e.amount ∧ e.amount ≤ 10000000000000 := by
    by_cases a : e.kind = 4
    · simp [a] at h4 <;> omega
    · by_cases b : e.kind = 5
      · simp [b] at h4 <;> omega
      · simp [a, b] at h4 <;> omega
  omega

theorem num4 {a b c d : Int} (ha : Byte a) (hb : Byte b) (hc : Byte c) (hd : Byte d) : numS [a, b, c, d] = ((a * 256 + b) * 256 + c) * 256 + d := by
  rw [num_eq _ (by simp [ha, hb, hc, hd]) (by simp)]; simp [natS]
theorem num3 {a b c : Int} (ha : Byte a) (hb : Byte b) (hc : Byte c) : numS [a, b, c] = (a * 256 + b) * 256 + c := by
  rw [num_eq _ (by simp [ha, hb, hc]) (by simp)]; simp [natS]
theorem num8 {a b c d e f g h : Int} (ha : Byte a) (hb : Byte b) (hc : Byte c) (hd : Byte d) (he : Byte e) (hf : Byte f) (hg : Byte g) (hh : Byte h) :
    numS [a, b, c, d, e, f, g, h] = ((((((a * 256 + b) * 256 + c) * 256 + d) * 256 + e) * 256 + f) * 256 + g) * 256 + h := by
  rw [num_eq _ (by simp [ha, hb, hc, hd, he, hf, hg, hh]) (by simp)]; simp [natS]

theorem by8_byte (n : Nat) (v : Int) : Byte (by8 n v) := by
  rw [by8_eq]
  exact ⟨Int.emod_nonneg _ (by omega), Int.emod_lt_of_pos _ (by omega)⟩

theorem b0 (v : Int) : by8 0 v = v % 256 := by rw [by8_eq]; simp
theorem b1 (v : Int) : by8 1 v = v / 256 % 256 := by rw [by8_eq]; simp
theorem b2 (v : Int) : by8 2 v = v / 65536 % 256 := by rw [by8_eq]; rfl
theorem b3 (v : Int) : by8 3 v = v / 16777216 % 256 := by rw [by8_eq]; rfl
theorem b4 (v : Int) : by8 4 v = v / 4294967296 % 256 := by rw [by8_eq]; rfl
theorem b5 (v : Int) : by8 5 v = v / 1099511627776 % 256 := by rw [by8_eq]; rfl
theorem b6 (v : Int) : by8 6 v = v / 281474976710656 % 256 := by rw [by8_eq]; rfl
theorem b7 (v : Int) : by8 7 v = v / 72057594037927936 % 256 := by rw [by8_eq]; rfl

theorem n4 {v : Int} (h0 : 0 ≤ v) (h1 : v < 4294967296) : numS [by8 3 v, by8 2 v, by8 1 v, by8 0 v] = v := by
  rw [num4 (by8_byte _ _) (by8_byte _ _) (by8_byte _ _) (by8_byte _ _), b0, b1, b2, b3]; omega
theorem n3 {v : Int} (h0 : 0 ≤ v) (h1 : v < 16777216) : numS [by8 2 v, by8 1 v, by8 0 v] = v := by
  rw [num3 (by8_byte _ _) (by8_byte _ _) (by8_byte _ _), b0, b1, b2]; omega
theorem n1 {v : Int} (h0 : 0 ≤ v) (h1 : v < 256) : numS [by8 0 v] = v := by
  rw [num1 (by8_byte _ _).1 (by have := (by8_byte 0 v).2; omega), b0]; omega
theorem n8 {v : Int} (h0 : 0 ≤ v) (h1 : v < 9223372036854775808) : numS [by8 7 v, by8 6 v, by8 5 v, by8 4 v, by8 3 v, by8 2 v, by8 1 v, by8 0 v] = v := by
  rw [num8 (by8_byte _ _) (by8_byte _ _) (by8_byte _ _) (by8_byte _ _) (by8_byte _ _) (by8_byte _ _) (by8_byte _ _) (by8_byte _ _), b0, b1, b2, b3, b4, b5, b6, b7]; omega

theorem ev_pack {e : Ev} (h : checkS e = 0) : evOf (packL e) = e := by
  obtain ⟨k1, k2, y1, y2, d1, d2, a1, a2, r1, r2⟩ := check_ok h
  unfold packL evOf
  rw [if_pos h]
  simp only [List.take, List.drop]
  rw [wrapU64 (x := e.key) (by omega) (by omega), wrapU64 (x := e.kind) (by omega) (by omega), wrapU64 (x := e.amount) (by omega) (by omega), wrapU64 (x := e.ref) (by omega) (by omega),
    wrap64 (x := e.day - -25567) (by omega) (by omega), wrapU64 (x := e.day - -25567) (by omega) (by omega)]
  rw [n4 (v := e.key) (by omega) (by omega), n1 (v := e.kind) (by omega) (by omega), n4 (v := e.day - -25567) (by omega) (by omega), n8 (v := e.amount) (by omega) (by omega), n3 (v := e.ref) (by omega) (by omega)]
  rw [wrap64 (x := e.key) (by omega) (by omega), wrap64 (x := e.kind) (by omega) (by omega), wrap64 (x := e.amount) (by omega) (by omega), wrap64 (x := e.ref) (by omega) (by omega), wrap64 (x := e.day - -25567) (by omega) (by omega), wrap64 (by omega) (by omega)]
  cases e
  simp
  omega

theorem packL_len (e : Ev) : (packL e).length = 20 := by unfold packL; split <;> rfl

theorem take_pack {e : Ev} (h : checkS e = 0) : takeE (packL e) = e ∧ takeC (packL e) = 0 := by
  have := ev_pack h
  have h2 := take_good (packL_len e) (by rw [this]; exact h)
  rw [this] at h2
  exact h2

theorem packL_bad {e : Ev} (h : checkS e ≠ 0) : packL e = [0, 0, 0, 0, 0, 0, 0, 0, 0, 0, 0, 0, 0, 0, 0, 0, 0, 0, 0, 0] := by unfold packL; rw [if_neg h]

theorem take_packbad {e : Ev} (h : checkS e ≠ 0) : takeE (packL e) = zeroE ∧ takeC (packL e) = 4 := by
  refine take_bad (packL_len e) ?_
  rw [packL_bad h]
  have : evOf [0, 0, 0, 0, 0, 0, 0, 0, 0, 0, 0, 0, 0, 0, 0, 0, 0, 0, 0, 0] = ⟨0, 0, -25567, 0, 0⟩ := by
    have z1 : numS [0] = 0 := by unfold numS; decide +kernel
    have z3 : numS [0, 0, 0] = 0 := by unfold numS; decide +kernel
    have z4 : numS [0, 0, 0, 0] = 0 := by unfold numS; decide +kernel
    have z8 : numS [0, 0, 0, 0, 0, 0, 0, 0] = 0 := by unfold numS; decide +kernel
    unfold evOf
    simp only [List.take, List.drop, z1, z3, z4, z8]
    rfl
  rw [this]
  unfold checkS withinS; decide

/-- what is taken, packed again, is the same -/
theorem pack_take {b : List Int} (hb : ∀ x ∈ b, Byte x) (h : takeC b = 0) : packL (takeE b) = b ∧ checkS (takeE b) = 0 ∧ b.length = 20 := by
  have hl : b.length = 20 := by
    by_cases h1 : b.length < 20
    · rw [(take_short h1).2] at h; cases h
    · by_cases h2 : 20 < b.length
      · rw [(take_long h2).2] at h; cases h
      · omega
  have hc : checkS (evOf b) = 0 := Classical.byContradiction fun hc => by rw [(take_bad hl hc).2] at h; cases h
  rw [(take_good hl hc).1]
  refine ⟨?_, hc, hl⟩
  obtain ⟨c0, c1, c2, c3, c4, c5, c6, c7, c8, c9, c10, c11, c12, c13, c14, c15, c16, c17, c18, c19, rfl⟩ := list20 hl
  obtain ⟨k1, k2, y1, y2, d1, d2, a1, a2, r1, r2⟩ := check_ok hc
  have hB : ∀ x, x ∈ [c0, c1, c2, c3, c4, c5, c6, c7, c8, c9, c10, c11, c12, c13, c14, c15, c16, c17, c18, c19] → Byte x := hb
  simp only [List.mem_cons, forall_eq_or_imp, List.not_mem_nil, false_implies, implies_true, and_true] at hB
  obtain ⟨h0, h1, h2, h3, h4, h5, h6, h7, h8, h9, h10, h11, h12, h13, h14, h15, h16, h17, h18, h19⟩ := hB
  have e1 := num4 h0 h1 h2 h3
  have e2 := num1 h4.1 (by have := h4.2; omega)
  have e3 := num4 h5 h6 h7 h8
  have e4 := num8 h9 h10 h11 h12 h13 h14 h15 h16
  have e5 := num3 h17 h18 h19
  unfold Byte at *
  have w1 : IntKind.i64.wrap (numS [c0, c1, c2, c3]) = numS [c0, c1, c2, c3] := wrap64 (by omega) (by omega)
  have w2 : IntKind.i64.wrap (numS [c4]) = numS [c4] := wrap64 (by omega) (by omega)
  have w3 : IntKind.i64.wrap (numS [c5, c6, c7, c8]) = numS [c5, c6, c7, c8] := wrap64 (by omega) (by omega)
  have w5 : IntKind.i64.wrap (numS [c17, c18, c19]) = numS [c17, c18, c19] := wrap64 (by omega) (by omega)
  have w6 : IntKind.i64.wrap (numS [c5, c6, c7, c8] + -25567) = numS [c5, c6, c7, c8] + -25567 := wrap64 (by omega) (by omega)
  have he : evOf [c0, c1, c2, c3, c4, c5, c6, c7, c8, c9, c10, c11, c12, c13, c14, c15, c16, c17, c18, c19] = ⟨numS [c0, c1, c2, c3], numS [c4], numS [c5, c6, c7, c8] + -25567, IntKind.i64.wrap (numS [c9, c10, c11, c12, c13, c14, c15, c16]), numS [c17, c18, c19]⟩ := by
    unfold evOf
    simp only [List.take, List.drop, w1, w2, w3, w5, w6]
  have w4 : IntKind.i64.wrap (numS [c9, c10, c11, c12, c13, c14, c15, c16]) = numS [c9, c10, c11, c12, c13, c14, c15, c16] := by
    rw [he] at a1 a2
    simp only at a1 a2
    rw [IntKind.wrap_i64] at a1 a2 ⊢
    omega
  rw [w4] at he
  rw [he] at hc ⊢
  unfold packL
  rw [if_pos hc]
  simp only
  rw [wrapU64 (x := numS [c0, c1, c2, c3]) (by omega) (by omega), wrapU64 (x := numS [c4]) (by omega) (by omega), wrapU64 (x := numS [c9, c10, c11, c12, c13, c14, c15, c16]) (by omega) (by omega), wrapU64 (x := numS [c17, c18, c19]) (by omega) (by omega),
    show numS [c5, c6, c7, c8] + -25567 - -25567 = numS [c5, c6, c7, c8] by omega, w3, wrapU64 (x := numS [c5, c6, c7, c8]) (by omega) (by omega)]
  simp only [b0, b1, b2, b3, b4, b5, b6, b7, e1, e2, e3, e4, e5]
  simp only [List.cons.injEq, and_true]
  repeat' apply And.intro
  all_goals omega
end E18

namespace E18
open Go Go.Proofs VL
set_option pp.maxSteps 6000
set_option linter.unusedSimpArgs false
set_option linter.unusedVariables false
set_option maxRecDepth 100000

theorem rs (k : Nat) (hk : k ≤ 7) {lit : Int} (hlit : lit = ((8 * k : Nat) : Int)) {x : Int} (h0 : 0 ≤ x) (h1 : x < 9223372036854775808) : by8 k (IntKind.u64.wrap x) = IntKind.u8.wrap (shiftV .shr .i64 x lit) := by
  subst hlit
  rw [wrapU64 h0 (by omega), by8_eq, wrapU8]
  unfold shiftV
  simp only
  rw [Int.toNat_natCast, show min (8 * k) IntKind.i64.bits = 8 * k from Nat.min_eq_left (by show 8 * k ≤ 64; omega), Int.fdiv_eq_ediv_of_nonneg _ (Int.pow_nonneg (by omega))]
  have : (2 : Int) ^ (8 * k) = 256 ^ k := by
    rw [Int.pow_mul]; rfl
  rw [this]

set_option maxHeartbeats 8000000 in
theorem c_rpack (e : Ev) (K) (h : K (.ret (encP e)) []) : VCall Try.prog 22 [encE e] [] K := by
  refine call_fun [] 0 Try.func22 (by rfl) (by rfl) ?_
  conv => whnf
  repeat (refine step_go [] ?_; conv => whnf)
  refine c_rcheck e _ ?_; conv => whnf
  repeat (refine step_go [] ?_; conv => whnf)
  refine two (fun g => ?_) (fun g => ?_)
  · have hc : checkS e ≠ 0 := by simpa using g
    conv => whnf
    repeat (refine step_go [] ?_; conv => whnf)
    simp only [encP, pk, packL, if_neg hc, List.getD_cons_zero, List.getD_cons_succ] at h
    try exact h
  · have hc : checkS e = 0 := by simpa using g
    conv => whnf
    repeat (refine step_go [] ?_; conv => whnf)
    repeat' first
      | (refine step_go [] ?_; conv => whnf)
      | (refine loop_round [] ?_; conv => whnf)
      | (refine yes (by decide) ?_; conv => whnf)
      | (refine no (by decide) ?_; conv => whnf)
      | (refine ⟨_, Weak.refl, ?_⟩; conv => whnf)
      | (refine ⟨by decide, _, rfl, rfl, ?_⟩; conv => whnf)
      | (refine ⟨by decide, by decide, ?_⟩; conv => whnf)
      | (refine ⟨by decide, ?_⟩; conv => whnf)
    obtain ⟨k1, k2, y1, y2, d1, d2, a1, a2, r1, r2⟩ := check_ok hc
    have hd : 0 ≤ IntKind.i64.wrap (e.day - -25567) ∧ IntKind.i64.wrap (e.day - -25567) < 9223372036854775808 := by
      rw [wrap64 (by omega) (by omega)]; omega
    simp only [encP, pk, packL, if_pos hc, List.getD_cons_zero, List.getD_cons_succ] at h
    refine Eq.mp (congrArg (fun l => K (Out.ret (V.agg l)) []) ?_) h
    simp only [List.cons.injEq, V.int.injEq, true_and, and_true]
    refine ⟨?_, ?_, ?_, ?_, ?_, ?_, ?_, ?_, ?_, ?_, ?_, ?_, ?_, ?_, ?_, ?_, ?_, ?_, ?_, ?_⟩
    all_goals first
      | exact rs 0 (by omega) (by decide) (by omega) (by omega)
      | exact rs 1 (by omega) (by decide) (by omega) (by omega)
      | exact rs 2 (by omega) (by decide) (by omega) (by omega)
      | exact rs 3 (by omega) (by decide) (by omega) (by omega)
      | exact rs 4 (by omega) (by decide) (by omega) (by omega)
      | exact rs 5 (by omega) (by decide) (by omega) (by omega)
      | exact rs 6 (by omega) (by decide) (by omega) (by omega)
      | exact rs 7 (by omega) (by decide) (by omega) (by omega)
end E18

namespace E18
open Go Go.Proofs VL
set_option pp.maxSteps 6000
set_option linter.unusedSimpArgs false
set_option linter.unusedVariables false
set_option maxRecDepth 100000
theorem c_rtake (b : List Int) (hb : b.length < 1000000) (hr : ∀ x ∈ b, 0 ≤ x ∧ x ≤ 255) (K) (h : K (.ret (.tup [encE (takeE b), .int .i64 (takeC b)])) []) : VCall Try.prog 19 [.sl (bL b) .no] [] K := by
  have hlen := bL_len b
  refine call_fun [] 0 Try.func19 (by rfl) (by rfl) ?_
  conv => whnf
  repeat (refine step_go [] ?_; conv => whnf)
  refine two (fun g => ?_) (fun g => ?_)
  · have g : b.length < 20 := by simp at g; omega
    rw [(take_short g).1, (take_short g).2] at h
    conv => whnf
    repeat (refine step_go [] ?_; conv => whnf)
    exact h
  have g1 : ¬ b.length < 20 := by simp at g; omega
  conv => whnf
  repeat (refine step_go [] ?_; conv => whnf)
  refine two (fun g => ?_) (fun g => ?_)
  · have g : 20 < b.length := by simp at g; omega
    rw [(take_long g).1, (take_long g).2] at h
    conv => whnf
    repeat (refine step_go [] ?_; conv => whnf)
    exact h
  have g2 : b.length = 20 := by simp at g; omega
  clear g g1
  obtain ⟨b0, b1, b2, b3, b4, b5, b6, b7, b8, b9, b10, b11, b12, b13, b14, b15, b16, b17, b18, b19, rfl⟩ := list20 g2
  conv => whnf
  repeat (refine step_go [] ?_; conv => whnf)
  have h4 := num1 (hr b4 (by simp)).1 (hr b4 (by simp)).2
  have he : evOf [b0, b1, b2, b3, b4, b5, b6, b7, b8, b9, b10, b11, b12, b13, b14, b15, b16, b17, b18, b19] = ⟨IntKind.i64.wrap (numS [b0, b1, b2, b3]), IntKind.i64.wrap b4, IntKind.i64.wrap (IntKind.i64.wrap (numS [b5, b6, b7, b8]) + -25567), IntKind.i64.wrap (numS [b9, b10, b11, b12, b13, b14, b15, b16]), IntKind.i64.wrap (numS [b17, b18, b19])⟩ := by unfold evOf; simp only [List.take, List.drop, h4]
  refine ⟨by decide +kernel, ?_⟩; conv => whnf
  repeat' first
    | (refine step_go [] ?_; conv => whnf)
    | (refine ⟨by decide, _, rfl, rfl, ?_⟩; conv => whnf)
    | (refine ⟨rfl, ?_⟩; conv => whnf)
    | (refine c_number [b0, b1, b2, b3, b4, b5, b6, b7, b8, b9, b10, b11, b12, b13, b14, b15, b16, b17, b18, b19] 0 4 (by simp) (by simp) _ ?_; conv => whnf)
    | (refine c_number [b0, b1, b2, b3, b4, b5, b6, b7, b8, b9, b10, b11, b12, b13, b14, b15, b16, b17, b18, b19] 5 4 (by simp) (by simp) _ ?_; conv => whnf)
    | (refine c_number [b0, b1, b2, b3, b4, b5, b6, b7, b8, b9, b10, b11, b12, b13, b14, b15, b16, b17, b18, b19] 9 8 (by simp) (by simp) _ ?_; conv => whnf)
    | (refine c_number [b0, b1, b2, b3, b4, b5, b6, b7, b8, b9, b10, b11, b12, b13, b14, b15, b16, b17, b18, b19] 17 3 (by simp) (by simp) _ ?_; conv => whnf)
    | (refine c_rcheck' ⟨_, _, _, _, _⟩ (checkS (evOf [b0, b1, b2, b3, b4, b5, b6, b7, b8, b9, b10, b11, b12, b13, b14, b15, b16, b17, b18, b19])) (by rw [he]; rfl) _ ?_; conv => whnf)
  refine two (fun g => ?_) (fun g => ?_)
  · have hc : checkS (evOf [b0, b1, b2, b3, b4, b5, b6, b7, b8, b9, b10, b11, b12, b13, b14, b15, b16, b17, b18, b19]) ≠ 0 := by simpa using g
    rw [(take_bad rfl hc).1, (take_bad rfl hc).2] at h
    conv => whnf
    repeat (refine step_go [] ?_; conv => whnf)
    exact h
  · have hc : checkS (evOf [b0, b1, b2, b3, b4, b5, b6, b7, b8, b9, b10, b11, b12, b13, b14, b15, b16, b17, b18, b19]) = 0 := by simpa using g
    rw [(take_good rfl hc).1, (take_good rfl hc).2, he] at h
    conv => whnf
    repeat (refine step_go [] ?_; conv => whnf)
    exact h
end E18
