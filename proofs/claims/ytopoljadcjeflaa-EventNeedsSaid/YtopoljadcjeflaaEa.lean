/- Part Ea of the proof: E18 E18g E18n. -/
import Derived.Test.YtopoljadcjeflaaVc
import Derived.Test.YtopoljadcjeflaaRows
namespace E18
open Go Go.Proofs VL
set_option maxRecDepth 100000
set_option linter.unusedVariables false
@[irreducible] def withinS (a b c : Int) : Bool := decide (b ≤ a) && decide (a ≤ c)

theorem c_w3 (a b c : Int) (K) (h : K (.ret (.bool (withinS a b c))) []) : (sys Try.prog).call 51 [.int .i64 a, .int .i64 b, .int .i64 c] [] K := by
  refine call_fun Try.func51 (by rfl) (by rfl) ?_
  conv => whnf
  repeat' first
    | (refine Step.go ?_; conv => whnf)
    | (refine two (fun g => ?_) (fun g => ?_) <;> (try rw [g]) <;> (conv => whnf))
  · rw [show withinS a b c = decide (a ≤ c) by simp at g; simp [withinS, g]] at h; exact h
  · have g' : ¬ b ≤ a := by simp at g; omega
    rw [show withinS a b c = false by simp [withinS, g']] at h; exact h

theorem c_w2 (a b c : Int) (K) (h : K (.ret (.bool (withinS a b c))) []) : (sys Try.prog).call 52 [.int .i64 a, .int .i64 b, .int .i64 c] [] K := by
  refine call_fun Try.func52 (by rfl) (by rfl) ?_
  conv => whnf
  repeat' first
    | (refine Step.go ?_; conv => whnf)
    | (refine two (fun g => ?_) (fun g => ?_) <;> (try rw [g]) <;> (conv => whnf))
  · rw [show withinS a b c = decide (a ≤ c) by simp at g; simp [withinS, g]] at h; exact h
  · have g' : ¬ b ≤ a := by simp at g; omega
    rw [show withinS a b c = false by simp [withinS, g']] at h; exact h

structure Ev where
  (key kind day amount ref : Int)
def encE (e : Ev) : V := .agg [.int .i64 e.key, .int .i64 e.kind, .int .i64 e.day, .int .i64 e.amount, .int .i64 e.ref]

@[irreducible] def checkS (e : Ev) : Int :=
  if withinS e.kind 1 5 = false then 12 else
  if withinS e.key 1 1000000 = false then 13 else
  if withinS e.day (-25567) 84370 = false then 5 else
  if withinS e.amount (if e.kind = 4 ∨ e.kind = 5 then 0 else 1) (if e.kind = 4 then 1000000000 else if e.kind = 5 then 0 else 10000000000000) = false then 16 else
  if e.kind = 5 then (if withinS e.ref 1 1000000 then 0 else 20) else if e.ref = 0 then 0 else 20

theorem c_check (e : Ev) (K) (h : K (.ret (.int .i64 (checkS e))) []) : (sys Try.prog).call 16 [encE e] [] K := by
  refine call_fun Try.func16 (by rfl) (by rfl) ?_
  conv => whnf
  repeat' first
    | (refine two (fun g => ?_) (fun g => ?_) <;> (try rw [g]) <;> (conv => whnf))
    | (refine Step.go ?_; conv => whnf)
    | (refine c_w3 _ _ _ _ ?_; conv => whnf)
    | (refine c_w2 _ _ _ _ ?_; conv => whnf)
  all_goals (refine Eq.mp ?_ h; clear h; simp_all [checkS])

def sh8 : Nat → Int → Int
  | 0, v => v
  | n + 1, v => shiftV .shr .u64 (sh8 n v) 8
@[irreducible] def by8 (n : Nat) (v : Int) : Int := IntKind.u8.wrap (sh8 n v)

theorem c_put0 (v : Int) (b0 b1 b2 b3 b4 b5 b6 b7 b8 b9 b10 b11 b12 b13 b14 b15 b16 b17 b18 b19 : Int) (K) (h : K (.ret (.tup [])) [.cells true 82 [.int .u8 (by8 3 v), .int .u8 (by8 2 v), .int .u8 (by8 1 v), .int .u8 (by8 0 v), .int .u8 b4, .int .u8 b5, .int .u8 b6, .int .u8 b7, .int .u8 b8, .int .u8 b9, .int .u8 b10, .int .u8 b11, .int .u8 b12, .int .u8 b13, .int .u8 b14, .int .u8 b15, .int .u8 b16, .int .u8 b17, .int .u8 b18, .int .u8 b19, .int .i64 4]]) :
    (sys Try.prog).call 56 [.ptr 0 0, .int .u64 v, .int .i64 4] [.cells true 82 [.int .u8 b0, .int .u8 b1, .int .u8 b2, .int .u8 b3, .int .u8 b4, .int .u8 b5, .int .u8 b6, .int .u8 b7, .int .u8 b8, .int .u8 b9, .int .u8 b10, .int .u8 b11, .int .u8 b12, .int .u8 b13, .int .u8 b14, .int .u8 b15, .int .u8 b16, .int .u8 b17, .int .u8 b18, .int .u8 b19, .int .i64 0]] K := by
  refine call_fun Try.func56 (by rfl) (by rfl) ?_
  conv => whnf
  repeat' first
    | (refine Step.go ?_; conv => whnf)
    | (refine loop_round ?_; conv => whnf)
    | (refine ⟨_, Weak.refl, ?_⟩; conv => whnf)
    | (refine ⟨by decide +kernel, ?_⟩; conv => whnf)
    | (refine ⟨rfl, ?_⟩; conv => whnf)
  unfold by8 at h
  exact h

theorem c_put4 (v : Int) (b0 b1 b2 b3 b4 b5 b6 b7 b8 b9 b10 b11 b12 b13 b14 b15 b16 b17 b18 b19 : Int) (K) (h : K (.ret (.tup [])) [.cells true 82 [.int .u8 b0, .int .u8 b1, .int .u8 b2, .int .u8 b3, .int .u8 (by8 0 v), .int .u8 b5, .int .u8 b6, .int .u8 b7, .int .u8 b8, .int .u8 b9, .int .u8 b10, .int .u8 b11, .int .u8 b12, .int .u8 b13, .int .u8 b14, .int .u8 b15, .int .u8 b16, .int .u8 b17, .int .u8 b18, .int .u8 b19, .int .i64 5]]) :
    (sys Try.prog).call 56 [.ptr 0 0, .int .u64 v, .int .i64 1] [.cells true 82 [.int .u8 b0, .int .u8 b1, .int .u8 b2, .int .u8 b3, .int .u8 b4, .int .u8 b5, .int .u8 b6, .int .u8 b7, .int .u8 b8, .int .u8 b9, .int .u8 b10, .int .u8 b11, .int .u8 b12, .int .u8 b13, .int .u8 b14, .int .u8 b15, .int .u8 b16, .int .u8 b17, .int .u8 b18, .int .u8 b19, .int .i64 4]] K := by
  refine call_fun Try.func56 (by rfl) (by rfl) ?_
  conv => whnf
  repeat' first
    | (refine Step.go ?_; conv => whnf)
    | (refine loop_round ?_; conv => whnf)
    | (refine ⟨_, Weak.refl, ?_⟩; conv => whnf)
    | (refine ⟨by decide +kernel, ?_⟩; conv => whnf)
    | (refine ⟨rfl, ?_⟩; conv => whnf)
  unfold by8 at h
  exact h

theorem c_put5 (v : Int) (b0 b1 b2 b3 b4 b5 b6 b7 b8 b9 b10 b11 b12 b13 b14 b15 b16 b17 b18 b19 : Int) (K) (h : K (.ret (.tup [])) [.cells true 82 [.int .u8 b0, .int .u8 b1, .int .u8 b2, .int .u8 b3, .int .u8 b4, .int .u8 (by8 3 v), .int .u8 (by8 2 v), .int .u8 (by8 1 v), .int .u8 (by8 0 v), .int .u8 b9, .int .u8 b10, .int .u8 b11, .int .u8 b12, .int .u8 b13, .int .u8 b14, .int .u8 b15, .int .u8 b16, .int .u8 b17, .int .u8 b18, .int .u8 b19, .int .i64 9]]) :
    (sys Try.prog).call 56 [.ptr 0 0, .int .u64 v, .int .i64 4] [.cells true 82 [.int .u8 b0, .int .u8 b1, .int .u8 b2, .int .u8 b3, .int .u8 b4, .int .u8 b5, .int .u8 b6, .int .u8 b7, .int .u8 b8, .int .u8 b9, .int .u8 b10, .int .u8 b11, .int .u8 b12, .int .u8 b13, .int .u8 b14, .int .u8 b15, .int .u8 b16, .int .u8 b17, .int .u8 b18, .int .u8 b19, .int .i64 5]] K := by
  refine call_fun Try.func56 (by rfl) (by rfl) ?_
  conv => whnf
  repeat' first
    | (refine Step.go ?_; conv => whnf)
    | (refine loop_round ?_; conv => whnf)
    | (refine ⟨_, Weak.refl, ?_⟩; conv => whnf)
    | (refine ⟨by decide +kernel, ?_⟩; conv => whnf)
    | (refine ⟨rfl, ?_⟩; conv => whnf)
  unfold by8 at h
  exact h

theorem c_put9 (v : Int) (b0 b1 b2 b3 b4 b5 b6 b7 b8 b9 b10 b11 b12 b13 b14 b15 b16 b17 b18 b19 : Int) (K) (h : K (.ret (.tup [])) [.cells true 82 [.int .u8 b0, .int .u8 b1, .int .u8 b2, .int .u8 b3, .int .u8 b4, .int .u8 b5, .int .u8 b6, .int .u8 b7, .int .u8 b8, .int .u8 (by8 7 v), .int .u8 (by8 6 v), .int .u8 (by8 5 v), .int .u8 (by8 4 v), .int .u8 (by8 3 v), .int .u8 (by8 2 v), .int .u8 (by8 1 v), .int .u8 (by8 0 v), .int .u8 b17, .int .u8 b18, .int .u8 b19, .int .i64 17]]) :
    (sys Try.prog).call 56 [.ptr 0 0, .int .u64 v, .int .i64 8] [.cells true 82 [.int .u8 b0, .int .u8 b1, .int .u8 b2, .int .u8 b3, .int .u8 b4, .int .u8 b5, .int .u8 b6, .int .u8 b7, .int .u8 b8, .int .u8 b9, .int .u8 b10, .int .u8 b11, .int .u8 b12, .int .u8 b13, .int .u8 b14, .int .u8 b15, .int .u8 b16, .int .u8 b17, .int .u8 b18, .int .u8 b19, .int .i64 9]] K := by
  refine call_fun Try.func56 (by rfl) (by rfl) ?_
  conv => whnf
  repeat' first
    | (refine Step.go ?_; conv => whnf)
    | (refine loop_round ?_; conv => whnf)
    | (refine ⟨_, Weak.refl, ?_⟩; conv => whnf)
    | (refine ⟨by decide +kernel, ?_⟩; conv => whnf)
    | (refine ⟨rfl, ?_⟩; conv => whnf)
  unfold by8 at h
  exact h

theorem c_put17 (v : Int) (b0 b1 b2 b3 b4 b5 b6 b7 b8 b9 b10 b11 b12 b13 b14 b15 b16 b17 b18 b19 : Int) (K) (h : K (.ret (.tup [])) [.cells true 82 [.int .u8 b0, .int .u8 b1, .int .u8 b2, .int .u8 b3, .int .u8 b4, .int .u8 b5, .int .u8 b6, .int .u8 b7, .int .u8 b8, .int .u8 b9, .int .u8 b10, .int .u8 b11, .int .u8 b12, .int .u8 b13, .int .u8 b14, .int .u8 b15, .int .u8 b16, .int .u8 (by8 2 v), .int .u8 (by8 1 v), .int .u8 (by8 0 v), .int .i64 20]]) :
    (sys Try.prog).call 56 [.ptr 0 0, .int .u64 v, .int .i64 3] [.cells true 82 [.int .u8 b0, .int .u8 b1, .int .u8 b2, .int .u8 b3, .int .u8 b4, .int .u8 b5, .int .u8 b6, .int .u8 b7, .int .u8 b8, .int .u8 b9, .int .u8 b10, .int .u8 b11, .int .u8 b12, .int .u8 b13, .int .u8 b14, .int .u8 b15, .int .u8 b16, .int .u8 b17, .int .u8 b18, .int .u8 b19, .int .i64 17]] K := by
  refine call_fun Try.func56 (by rfl) (by rfl) ?_
  conv => whnf
  repeat' first
    | (refine Step.go ?_; conv => whnf)
    | (refine loop_round ?_; conv => whnf)
    | (refine ⟨_, Weak.refl, ?_⟩; conv => whnf)
    | (refine ⟨by decide +kernel, ?_⟩; conv => whnf)
    | (refine ⟨rfl, ?_⟩; conv => whnf)
  unfold by8 at h
  exact h

@[irreducible] def packL (e : Ev) : List Int := if checkS e = 0 then [by8 3 (IntKind.u64.wrap e.key), by8 2 (IntKind.u64.wrap e.key), by8 1 (IntKind.u64.wrap e.key), by8 0 (IntKind.u64.wrap e.key), by8 0 (IntKind.u64.wrap e.kind), by8 3 (IntKind.u64.wrap (IntKind.i64.wrap (e.day - (-25567)))), by8 2 (IntKind.u64.wrap (IntKind.i64.wrap (e.day - (-25567)))), by8 1 (IntKind.u64.wrap (IntKind.i64.wrap (e.day - (-25567)))), by8 0 (IntKind.u64.wrap (IntKind.i64.wrap (e.day - (-25567)))), by8 7 (IntKind.u64.wrap e.amount), by8 6 (IntKind.u64.wrap e.amount), by8 5 (IntKind.u64.wrap e.amount), by8 4 (IntKind.u64.wrap e.amount), by8 3 (IntKind.u64.wrap e.amount), by8 2 (IntKind.u64.wrap e.amount), by8 1 (IntKind.u64.wrap e.amount), by8 0 (IntKind.u64.wrap e.amount), by8 2 (IntKind.u64.wrap e.ref), by8 1 (IntKind.u64.wrap e.ref), by8 0 (IntKind.u64.wrap e.ref)] else [0, 0, 0, 0, 0, 0, 0, 0, 0, 0, 0, 0, 0, 0, 0, 0, 0, 0, 0, 0]
@[irreducible] def pk (e : Ev) (i : Nat) : Int := (packL e).getD i 0
def encP (e : Ev) : V := .agg [.int .u8 (pk e 0), .int .u8 (pk e 1), .int .u8 (pk e 2), .int .u8 (pk e 3), .int .u8 (pk e 4), .int .u8 (pk e 5), .int .u8 (pk e 6), .int .u8 (pk e 7), .int .u8 (pk e 8), .int .u8 (pk e 9), .int .u8 (pk e 10), .int .u8 (pk e 11), .int .u8 (pk e 12), .int .u8 (pk e 13), .int .u8 (pk e 14), .int .u8 (pk e 15), .int .u8 (pk e 16), .int .u8 (pk e 17), .int .u8 (pk e 18), .int .u8 (pk e 19)]

theorem c_pack (e : Ev) (K) (h : K (.ret (encP e)) []) : (sys Try.prog).call 21 [encE e] [] K := by
  refine call_fun Try.func21 (by rfl) (by rfl) ?_
  conv => whnf
  repeat' first
    | (refine Step.go ?_; conv => whnf)
    | (refine two (fun g => ?_) (fun g => ?_) <;> (conv => whnf))
    | (refine c_check _ _ ?_; conv => whnf)
    | (refine c_put0 _ _ _ _ _ _ _ _ _ _ _ _ _ _ _ _ _ _ _ _ _ _ ?_; conv => whnf)
    | (refine c_put4 _ _ _ _ _ _ _ _ _ _ _ _ _ _ _ _ _ _ _ _ _ _ ?_; conv => whnf)
    | (refine c_put5 _ _ _ _ _ _ _ _ _ _ _ _ _ _ _ _ _ _ _ _ _ _ ?_; conv => whnf)
    | (refine c_put9 _ _ _ _ _ _ _ _ _ _ _ _ _ _ _ _ _ _ _ _ _ _ ?_; conv => whnf)
    | (refine c_put17 _ _ _ _ _ _ _ _ _ _ _ _ _ _ _ _ _ _ _ _ _ _ ?_; conv => whnf)
  · have hc : checkS e ≠ 0 := by simpa using g
    simp only [encP, pk, packL, if_neg hc, List.getD_cons_zero, List.getD_cons_succ] at h
    exact h
  · have hc : checkS e = 0 := by simpa using g
    simp only [encP, pk, packL, if_pos hc, List.getD_cons_zero, List.getD_cons_succ] at h
    exact h

end E18
namespace E18
open Go Go.Proofs VL
set_option linter.unusedSimpArgs false
set_option linter.unusedVariables false
set_option maxRecDepth 100000
theorem chk1 : checkS ⟨1, 2, 5, 7, 0⟩ = 0 := by unfold checkS withinS; decide
theorem chk2 : checkS ⟨0, 0, 0, 0, 0⟩ = 12 := by unfold checkS withinS; decide
theorem pk1 : pk ⟨1, 2, 5, 7, 0⟩ 4 = 2 := by unfold pk packL; rw [chk1]; unfold by8; decide
theorem c_awake (K) (h : K (.ret (.bool true)) []) : (sys Try.prog).call 15 [] [] K := by
  refine call_fun Try.func15 (by rfl) (by rfl) ?_
  conv => whnf
  repeat' first
    | (refine Step.go ?_; conv => whnf)
    | (refine c_check ⟨_, _, _, _, _⟩ _ ?_; simp only [chk1, chk2]; conv => whnf)
    | (refine c_pack ⟨_, _, _, _, _⟩ _ ?_; conv => whnf)
    | (refine two (fun g => ?_) (fun g => ?_) <;> (conv => whnf))
    | (refine ⟨by decide, ?_⟩; conv => whnf)
  rw [pk1]; exact h

end E18

namespace E18
open Go Go.Proofs VL
set_option linter.unusedSimpArgs false
set_option linter.unusedVariables false
set_option maxRecDepth 100000
set_option maxHeartbeats 4000000 in
theorem needs (kind key day amount ref : Int) : (sys Try.prog).call 3 [.int .i64 kind, .int .i64 key, .int .i64 day, .int .i64 amount, .int .i64 ref] [] fun out _ => out = .ret (.bool true) := by
  refine call_fun Try.func3 (by rfl) (by rfl) ?_
  conv => whnf
  repeat' first
    | (refine Step.go ?_; conv => whnf)
    | (refine c_check ⟨_, _, _, _, _⟩ _ ?_; conv => whnf)
    | (refine c_awake _ ?_; conv => whnf)
    | (refine two (fun g => ?_) (fun g => ?_) <;> (try rw [g]) <;> (conv => whnf))
    | (refine ⟨by decide, ?_⟩; conv => whnf)
  all_goals
    refine congrArg (fun b => Out.ret (V.bool b)) ?_
    unfold checkS withinS
    simp only [beq_iff_eq, decide_eq_true_eq, decide_eq_false_iff_not, bne_iff_ne, ne_eq, Bool.and_eq_false_iff, Bool.not_eq_true, beq_eq_false_iff_ne, bne_eq_false_iff_eq, Bool.and_eq_true] at *
    repeat' split
    all_goals first | rfl | (exfalso; omega)

end E18
