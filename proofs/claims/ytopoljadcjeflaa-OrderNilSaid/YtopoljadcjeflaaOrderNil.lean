/- OrderNil: for every input the law returns true, and each argument reads afterwards as it read before. No conditions. -/
import Derived.Test.YtopoljadcjeflaaWh
namespace E19
open Go Go.Proofs VL E18 E26
set_option pp.maxSteps 1200
set_option linter.unusedSimpArgs false
set_option linter.unusedVariables false
set_option maxRecDepth 100000

theorem n_get' (z : Ev) (hz : z = zeroE) (b : Bool) (hb : b = false) (k : Int) (K) (h : K (.ret (.tup [encE z, .bool b])) []) : VCall Try.prog 49 [.nilp, .int .i64 k] [] K := by
  subst hz; subst hb; exact n_get k K h
theorem n_may' (e : Ev) (b : Bool) (hb : b = false) (x : Int) (hx : x = 2) (K) (h : K (.ret (.tup [.bool b, .int .i64 x])) []) : VCall Try.prog 35 [.nilp, encE e] [] K := by
  subst hb; subst hx; exact n_may e K h
theorem n_put' (e : Ev) (b : Bool) (hb : b = false) (x : Int) (hx : x = 2) (K) (h : K (.ret (.tup [.bool b, .int .i64 x])) []) : VCall Try.prog 34 [.nilp, encE e] [] K := by
  subst hb; subst hx; exact n_put e K h

theorem onil (e : Ev) : VCall Try.prog 14 [encE e] [] fun out _ => out = .ret (.bool true) := by
  obtain ⟨z, hz⟩ : ∃ z, z = zeroE := ⟨_, rfl⟩
  obtain ⟨b, hb⟩ : ∃ b, b = false := ⟨_, rfl⟩
  obtain ⟨x, hx⟩ : ∃ x : Int, x = 2 := ⟨_, rfl⟩
  have hzz : ((z.key == 0) && ((z.kind == 0) && ((z.day == 0) && ((z.amount == 0) && ((z.ref == 0) && true))))) = true := by subst hz; rfl
  have hbb : (!b) = true := by subst hb; rfl
  have hxx : (x == 2) = true := by subst hx; rfl
  refine call_fun [] 0 Try.func14 (by rfl) (by rfl) ?_
  conv => whnf
  repeat' first
    | (refine step_go [] ?_; conv => whnf)
    | (refine n_may' e b hb x hx _ ?_; conv => whnf)
    | (refine n_put' e b hb x hx _ ?_; conv => whnf)
    | (refine n_get' z hz b hb 1 _ ?_; conv => whnf)
    | (refine c_awake _ ?_; conv => whnf)
    | (rw [flat_ev]; conv => whnf)
    | (refine yes hzz ?_; conv => whnf)
    | (refine yes hbb ?_; conv => whnf)
    | (refine yes hxx ?_; conv => whnf)
    | (refine n_all _ ?_; conv => whnf)
    | (refine n_counting _ ?_; conv => whnf)
    | (refine n_len _ ?_; conv => whnf)
    | (refine n_fork _ ?_; conv => whnf)
    | exact rfl
end E19

namespace Go.Proofs.Ytopoljadcjeflaa.OrderNil
open Go Go.Proofs VL Go.ChangeShapes
set_option linter.unusedVariables false
set_option linter.unusedSimpArgs false

theorem own : ownKnob Try.prog.godebug = none := by kernel_rfl
theorem laidOut : laidOutB Try.prog = true := by kernel_rfl

theorem law : ∀ xs, ShAs [(.row [.int .i64, .int .i64, .int .i64, .int .i64, .int .i64], true)] xs →
    VCall Try.prog 14 xs [] fun out _ => out = .ret (.bool true) := by
  intro xs h
  simp only [ShAs, ShA, ShT, if_true] at h
  obtain ⟨_, _, rfl, ⟨cs, rfl, he⟩, rfl⟩ := h
  obtain ⟨e, he, _⟩ := E26.ev_of he
  rw [he]
  exact E19.onil e

set_option maxRecDepth 100000 in
theorem lifted (os : Os) (started : os.Started) (H : Type) (enc : TypeId × Value → H) :
    ReturnsInHanded {} Try.checked os 14 .any (Rows.orderNilSpec.pre6 enc Try.prog Try.f14 Rows.orderNilRow.domain false)
      (Rows.orderNilSpec.post enc Try.prog Try.f14 false true false false) := by
  refine returnsInHanded_of_change_sized (C := Try.checked) own started (by kernel_rfl) Try.func14
    (ChangeSpec.witness6 (enc := enc) (C := Try.checked) false ⟨#[], #[.agg #[.int .i64 0, .int .i64 0, .int .i64 0, .int .i64 0, .int .i64 0]], []⟩ 8 (by kernel_rfl) (by kernel_rfl) (by kernel_rfl) (by kernel_rfl)) ?_
  intro W base args ds gs before hval hW _ hsz _
  exact law_lift (n := 9) (ts := Try.f14.params.toList) rfl laidOut (by kernel_rfl) rfl rfl (by kernel_rfl) (by kernel_rfl)
    (fun ds h => match ds, h with | [_], _ => rfl) Try.func14 (by rfl) (by rfl) law W base args ds gs before hval hW hsz

theorem proved : Rows.OrderNilSaid :=
  OpenClaim.holds_of_wide 14 Try.f14 rfl rfl rfl rfl rfl rfl rfl ⟨rfl, rfl, rfl, rfl, rfl⟩ rfl rfl rfl rfl rfl (by kernel_rfl) Try.func14 (by kernel_rfl)
    (of_decide_eq_true (by kernel_rfl)) (by unfold Func.isWrapper; first | (rw [if_pos (by decide +kernel)]; kernel_rfl) | (rw [if_neg (by decide +kernel)]; exact ⟨rfl, rfl⟩))
    (fun os started H enc _ => lifted os started H enc)
#print axioms proved
end Go.Proofs.Ytopoljadcjeflaa.OrderNil

