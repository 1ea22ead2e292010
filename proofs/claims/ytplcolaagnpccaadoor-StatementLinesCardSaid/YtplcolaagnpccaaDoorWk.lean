/- Part Wk of the proof: BB11 BB12 BB13 BB14 BB15 BB16. -/
import Derived.Test.YtplcolaagnpccaaDoorWj
namespace BB11
open Go Go.Proofs VL D1 B2 B4 B5 B7 B8 B10 B11 B12 B13 D2 B14 D3 B20 BB1 BB2 BB3 BB9 BB10
set_option pp.maxSteps 600
set_option maxRecDepth 100000
set_option linter.unusedVariables false
set_option linter.unusedSimpArgs false

theorem k32 : (ByteArray.mk #[32]) = toBA [32] := rfl
theorem kIns : (ByteArray.mk #[105, 110, 115, 116, 97, 108, 109, 101, 110, 116, 32]) = toBA (wInstalment ++ [32]) := rfl
theorem kNext : (ByteArray.mk #[110, 101, 120, 116, 32]) = toBA (wNext ++ [32]) := rfl
theorem k10 : (ByteArray.mk #[10]) = toBA [10] := rfl

theorem kwPrincipal : (ByteArray.mk #[112, 114, 105, 110, 99, 105, 112, 97, 108]) = toBA wPrincipal := rfl
theorem kwAccrued : (ByteArray.mk #[97, 99, 99, 114, 117, 101, 100]) = toBA wAccrued := rfl
theorem kwInterest : (ByteArray.mk #[105, 110, 116, 101, 114, 101, 115, 116]) = toBA wInterest := rfl
theorem kwDue : (ByteArray.mk #[100, 117, 101]) = toBA wDue := rfl
theorem kwPenalty : (ByteArray.mk #[112, 101, 110, 97, 108, 116, 121]) = toBA wPenalty := rfl
theorem kwFees : (ByteArray.mk #[102, 101, 101, 115]) = toBA wFees := rfl
theorem kwUnapplied : (ByteArray.mk #[117, 110, 97, 112, 112, 108, 105, 101, 100]) = toBA wUnapplied := rfl

set_option maxHeartbeats 40000000 in
theorem c_rtext23 (s : Stm) (hs : s.ok) (K) (h : K (.ret (.str (toBA (textS s)))) []) : VCall Tryd.prog 13 [encS s .no] [] K := by
  obtain ⟨D, hD⟩ : ∃ D, dL s.dues = D := ⟨_, rfl⟩
  unfold encS
  rw [hD]
  refine VCall.weak (call_fun [] 0 Tryd.func13 (by rfl) (by rfl) ?_)
  have hdl := dateT_len s.day
  have hhl : (howS s).length ≤ 6 := by unfold howS; cases s.cls <;> cases s.opn <;> decide
  have m1 := money_len s.pri hs.pri
  have m2 := money_len s.acc hs.acc
  have m3 := money_len s.int hs.int
  have m4 := money_len s.due hs.due
  have m5 := money_len s.pen hs.pen
  have m6 := money_len s.fee hs.fee
  have m7 := money_len s.una hs.una
  have hcs : (s.cls = true ∧ s.opn = true ∧ howS s = [99, 108, 111, 115, 101, 100]) ∨ (s.cls = true ∧ s.opn = false ∧ howS s = [99, 108, 111, 115, 101, 100]) ∨ (s.cls = false ∧ s.opn = true ∧ howS s = [111, 112, 101, 110]) ∨ (s.cls = false ∧ s.opn = false ∧ howS s = [110, 111, 110, 101]) := by
    unfold howS
    cases s.cls <;> cases s.opn <;> simp
  rcases hcs with ⟨hc, ho, hw⟩ | ⟨hc, ho, hw⟩ | ⟨hc, ho, hw⟩ | ⟨hc, ho, hw⟩
  · rw [hc, ho]
    (conv => whnf); (repeat (refine step_go [] ?_; conv => whnf))
    have hW : (⟨#[99, 108, 111, 115, 101, 100]⟩ : ByteArray) = toBA (howS s) := by rw [hw]; rfl
    rw [hW]
    clear hW hw
    refine c_rsdate s.day _ ?_; (conv => whnf); (repeat (refine step_go [] ?_; conv => whnf))
    simp only [kIns, kNext, k32, k10, kwPrincipal, kwAccrued, kwInterest, kwDue, kwPenalty, kwFees, kwUnapplied]
    refine ⟨by rw [sz_toBA, sz_toBA]; refine str_le ?_; simp; omega, ?_⟩
    rw [toBA_app]; (conv => whnf); (repeat (refine step_go [] ?_; conv => whnf))
    refine ⟨by rw [sz_toBA, sz_toBA]; refine str_le ?_; simp; omega, ?_⟩
    rw [toBA_app]; (conv => whnf); (repeat (refine step_go [] ?_; conv => whnf))
    refine ⟨by rw [sz_toBA, sz_toBA]; refine str_le ?_; simp; omega, ?_⟩
    rw [toBA_app]; (conv => whnf); (repeat (refine step_go [] ?_; conv => whnf))
    refine loop_round [] ?_; (conv => whnf); (repeat (refine step_go [] ?_; conv => whnf))
    refine ⟨by decide, _, rfl, rfl, ?_⟩; (conv => whnf); (repeat (refine step_go [] ?_; conv => whnf))
    (refine ⟨by decide +kernel, ?_⟩; conv => whnf)
    repeat first
      | (refine And.intro rfl ?_; conv => whnf)
      | (refine And.intro (by rw [sz_toBA, sz_toBA]; refine str_le ?_; simp [wPrincipal, wAccrued, wInterest, wDue, wPenalty, wFees, wUnapplied]; omega) ?_; (try rw [toBA_app]); (conv => whnf); (repeat (refine step_go [] ?_; conv => whnf)))
      | (refine ⟨by decide, _, rfl, rfl, ?_⟩; (conv => whnf); (repeat (refine step_go [] ?_; conv => whnf)))
    refine c_rmoney s.pri hs.pri _ ?_; (conv => whnf); (repeat (refine step_go [] ?_; conv => whnf))
    repeat first
      | (refine And.intro rfl ?_; conv => whnf)
      | (refine And.intro (by rw [sz_toBA, sz_toBA]; refine str_le ?_; simp [wPrincipal, wAccrued, wInterest, wDue, wPenalty, wFees, wUnapplied]; omega) ?_; (try rw [toBA_app]); (conv => whnf); (repeat (refine step_go [] ?_; conv => whnf)))
      | (refine ⟨by decide, _, rfl, rfl, ?_⟩; (conv => whnf); (repeat (refine step_go [] ?_; conv => whnf)))
    refine ⟨_, Weak.refl, ?_⟩
    refine loop_round [] ?_; (conv => whnf); (repeat (refine step_go [] ?_; conv => whnf))
    refine ⟨by decide, _, rfl, rfl, ?_⟩; (conv => whnf); (repeat (refine step_go [] ?_; conv => whnf))
    (refine ⟨by decide +kernel, ?_⟩; conv => whnf)
    repeat first
      | (refine And.intro rfl ?_; conv => whnf)
      | (refine And.intro (by rw [sz_toBA, sz_toBA]; refine str_le ?_; simp [wPrincipal, wAccrued, wInterest, wDue, wPenalty, wFees, wUnapplied]; omega) ?_; (try rw [toBA_app]); (conv => whnf); (repeat (refine step_go [] ?_; conv => whnf)))
      | (refine ⟨by decide, _, rfl, rfl, ?_⟩; (conv => whnf); (repeat (refine step_go [] ?_; conv => whnf)))
    refine c_rmoney s.acc hs.acc _ ?_; (conv => whnf); (repeat (refine step_go [] ?_; conv => whnf))
    repeat first
      | (refine And.intro rfl ?_; conv => whnf)
      | (refine And.intro (by rw [sz_toBA, sz_toBA]; refine str_le ?_; simp [wPrincipal, wAccrued, wInterest, wDue, wPenalty, wFees, wUnapplied]; omega) ?_; (try rw [toBA_app]); (conv => whnf); (repeat (refine step_go [] ?_; conv => whnf)))
      | (refine ⟨by decide, _, rfl, rfl, ?_⟩; (conv => whnf); (repeat (refine step_go [] ?_; conv => whnf)))
    refine ⟨_, Weak.refl, ?_⟩
    refine loop_round [] ?_; (conv => whnf); (repeat (refine step_go [] ?_; conv => whnf))
    refine ⟨by decide, _, rfl, rfl, ?_⟩; (conv => whnf); (repeat (refine step_go [] ?_; conv => whnf))
    (refine ⟨by decide +kernel, ?_⟩; conv => whnf)
    repeat first
      | (refine And.intro rfl ?_; conv => whnf)
      | (refine And.intro (by rw [sz_toBA, sz_toBA]; refine str_le ?_; simp [wPrincipal, wAccrued, wInterest, wDue, wPenalty, wFees, wUnapplied]; omega) ?_; (try rw [toBA_app]); (conv => whnf); (repeat (refine step_go [] ?_; conv => whnf)))
      | (refine ⟨by decide, _, rfl, rfl, ?_⟩; (conv => whnf); (repeat (refine step_go [] ?_; conv => whnf)))
    refine c_rmoney s.int hs.int _ ?_; (conv => whnf); (repeat (refine step_go [] ?_; conv => whnf))
    repeat first
      | (refine And.intro rfl ?_; conv => whnf)
      | (refine And.intro (by rw [sz_toBA, sz_toBA]; refine str_le ?_; simp [wPrincipal, wAccrued, wInterest, wDue, wPenalty, wFees, wUnapplied]; omega) ?_; (try rw [toBA_app]); (conv => whnf); (repeat (refine step_go [] ?_; conv => whnf)))
      | (refine ⟨by decide, _, rfl, rfl, ?_⟩; (conv => whnf); (repeat (refine step_go [] ?_; conv => whnf)))
    refine ⟨_, Weak.refl, ?_⟩
    refine loop_round [] ?_; (conv => whnf); (repeat (refine step_go [] ?_; conv => whnf))
    refine ⟨by decide, _, rfl, rfl, ?_⟩; (conv => whnf); (repeat (refine step_go [] ?_; conv => whnf))
    (refine ⟨by decide +kernel, ?_⟩; conv => whnf)
    repeat first
      | (refine And.intro rfl ?_; conv => whnf)
      | (refine And.intro (by rw [sz_toBA, sz_toBA]; refine str_le ?_; simp [wPrincipal, wAccrued, wInterest, wDue, wPenalty, wFees, wUnapplied]; omega) ?_; (try rw [toBA_app]); (conv => whnf); (repeat (refine step_go [] ?_; conv => whnf)))
      | (refine ⟨by decide, _, rfl, rfl, ?_⟩; (conv => whnf); (repeat (refine step_go [] ?_; conv => whnf)))
    refine c_rmoney s.due hs.due _ ?_; (conv => whnf); (repeat (refine step_go [] ?_; conv => whnf))
    repeat first
      | (refine And.intro rfl ?_; conv => whnf)
      | (refine And.intro (by rw [sz_toBA, sz_toBA]; refine str_le ?_; simp [wPrincipal, wAccrued, wInterest, wDue, wPenalty, wFees, wUnapplied]; omega) ?_; (try rw [toBA_app]); (conv => whnf); (repeat (refine step_go [] ?_; conv => whnf)))
      | (refine ⟨by decide, _, rfl, rfl, ?_⟩; (conv => whnf); (repeat (refine step_go [] ?_; conv => whnf)))
    refine ⟨_, Weak.refl, ?_⟩
    refine loop_round [] ?_; (conv => whnf); (repeat (refine step_go [] ?_; conv => whnf))
    refine ⟨by decide, _, rfl, rfl, ?_⟩; (conv => whnf); (repeat (refine step_go [] ?_; conv => whnf))
    (refine ⟨by decide +kernel, ?_⟩; conv => whnf)
    repeat first
      | (refine And.intro rfl ?_; conv => whnf)
      | (refine And.intro (by rw [sz_toBA, sz_toBA]; refine str_le ?_; simp [wPrincipal, wAccrued, wInterest, wDue, wPenalty, wFees, wUnapplied]; omega) ?_; (try rw [toBA_app]); (conv => whnf); (repeat (refine step_go [] ?_; conv => whnf)))
      | (refine ⟨by decide, _, rfl, rfl, ?_⟩; (conv => whnf); (repeat (refine step_go [] ?_; conv => whnf)))
    refine c_rmoney s.pen hs.pen _ ?_; (conv => whnf); (repeat (refine step_go [] ?_; conv => whnf))
    repeat first
      | (refine And.intro rfl ?_; conv => whnf)
      | (refine And.intro (by rw [sz_toBA, sz_toBA]; refine str_le ?_; simp [wPrincipal, wAccrued, wInterest, wDue, wPenalty, wFees, wUnapplied]; omega) ?_; (try rw [toBA_app]); (conv => whnf); (repeat (refine step_go [] ?_; conv => whnf)))
      | (refine ⟨by decide, _, rfl, rfl, ?_⟩; (conv => whnf); (repeat (refine step_go [] ?_; conv => whnf)))
    refine ⟨_, Weak.refl, ?_⟩
    refine loop_round [] ?_; (conv => whnf); (repeat (refine step_go [] ?_; conv => whnf))
    refine ⟨by decide, _, rfl, rfl, ?_⟩; (conv => whnf); (repeat (refine step_go [] ?_; conv => whnf))
    (refine ⟨by decide +kernel, ?_⟩; conv => whnf)
    repeat first
      | (refine And.intro rfl ?_; conv => whnf)
      | (refine And.intro (by rw [sz_toBA, sz_toBA]; refine str_le ?_; simp [wPrincipal, wAccrued, wInterest, wDue, wPenalty, wFees, wUnapplied]; omega) ?_; (try rw [toBA_app]); (conv => whnf); (repeat (refine step_go [] ?_; conv => whnf)))
      | (refine ⟨by decide, _, rfl, rfl, ?_⟩; (conv => whnf); (repeat (refine step_go [] ?_; conv => whnf)))
    refine c_rmoney s.fee hs.fee _ ?_; (conv => whnf); (repeat (refine step_go [] ?_; conv => whnf))
    repeat first
      | (refine And.intro rfl ?_; conv => whnf)
      | (refine And.intro (by rw [sz_toBA, sz_toBA]; refine str_le ?_; simp [wPrincipal, wAccrued, wInterest, wDue, wPenalty, wFees, wUnapplied]; omega) ?_; (try rw [toBA_app]); (conv => whnf); (repeat (refine step_go [] ?_; conv => whnf)))
      | (refine ⟨by decide, _, rfl, rfl, ?_⟩; (conv => whnf); (repeat (refine step_go [] ?_; conv => whnf)))
    refine ⟨_, Weak.refl, ?_⟩
    refine loop_round [] ?_; (conv => whnf); (repeat (refine step_go [] ?_; conv => whnf))
    refine ⟨by decide, _, rfl, rfl, ?_⟩; (conv => whnf); (repeat (refine step_go [] ?_; conv => whnf))
    (refine ⟨by decide +kernel, ?_⟩; conv => whnf)
    repeat first
      | (refine And.intro rfl ?_; conv => whnf)
      | (refine And.intro (by rw [sz_toBA, sz_toBA]; refine str_le ?_; simp [wPrincipal, wAccrued, wInterest, wDue, wPenalty, wFees, wUnapplied]; omega) ?_; (try rw [toBA_app]); (conv => whnf); (repeat (refine step_go [] ?_; conv => whnf)))
      | (refine ⟨by decide, _, rfl, rfl, ?_⟩; (conv => whnf); (repeat (refine step_go [] ?_; conv => whnf)))
    refine c_rmoney s.una hs.una _ ?_; (conv => whnf); (repeat (refine step_go [] ?_; conv => whnf))
    repeat first
      | (refine And.intro rfl ?_; conv => whnf)
      | (refine And.intro (by rw [sz_toBA, sz_toBA]; refine str_le ?_; simp [wPrincipal, wAccrued, wInterest, wDue, wPenalty, wFees, wUnapplied]; omega) ?_; (try rw [toBA_app]); (conv => whnf); (repeat (refine step_go [] ?_; conv => whnf)))
      | (refine ⟨by decide, _, rfl, rfl, ?_⟩; (conv => whnf); (repeat (refine step_go [] ?_; conv => whnf)))
    refine ⟨_, Weak.refl, ?_⟩
    refine loop_round [] ?_; (conv => whnf); (repeat (refine step_go [] ?_; conv => whnf))
    refine ⟨_, Weak.refl, ?_⟩; (conv => whnf); (repeat (refine step_go [] ?_; conv => whnf))
    have eH : dateT s.day ++ [32] ++ howS s ++ [10] ++ wPrincipal ++ [32] ++ moneyS s.pri ++ [10] ++ wAccrued ++ [32] ++ moneyS s.acc ++ [10] ++ wInterest ++ [32] ++ moneyS s.int ++ [10] ++ wDue ++ [32] ++ moneyS s.due ++ [10] ++ wPenalty ++ [32] ++ moneyS s.pen ++ [10] ++ wFees ++ [32] ++ moneyS s.fee ++ [10] ++ wUnapplied ++ [32] ++ moneyS s.una ++ [10] = headS s := by simp [headS, lineS]
    rw [eH]
    clear eH
    have hhd : (headS s).length ≤ 2000 := by
      simp [headS, lineS, wPrincipal, wAccrued, wInterest, wDue, wPenalty, wFees, wUnapplied]; omega
    let C : Nat → List Int := fun i => headS s ++ (s.dues.take i).flatMap dueS
    let OB : List VObj := [.cells true 24 [.int .i64 s.day, .bool s.opn, .bool s.cls, .int .i64 s.pri, .int .i64 s.acc, .int .i64 s.int, .int .i64 s.due, .int .i64 s.pen, .int .i64 s.fee, .int .i64 s.una, .sl D .no, .int .i64 s.next, .int .i64 s.nday]]
    let S : Nat → St := fun x => ⟨(.undef :: .ptr 0 0 :: .str ⟨#[]⟩ :: .undef :: .str (toBA (C x)) :: .undef :: .undef :: .int .i64 (x : Nat) :: .undef :: .undef :: .undef :: .undef :: .undef :: .undef :: .undef :: .undef :: .undef :: .undef :: .undef :: .undef :: .undef :: .undef :: .undef :: .undef :: .undef :: .undef :: .undef :: .undef :: .undef :: .undef :: .undef :: .undef :: .undef :: .undef :: .undef :: .undef :: .undef :: .undef :: .undef :: .undef :: .undef :: .undef :: .undef :: .undef :: .undef :: .undef :: .undef :: .undef :: .undef :: .undef :: .undef :: .undef :: .undef :: .undef :: .undef :: .undef :: .undef :: .undef :: .undef :: .undef :: .undef :: .undef :: .undef :: .undef :: .undef :: .undef :: .undef :: .undef :: .undef :: .undef :: .undef :: .undef :: .undef :: .undef :: .undef :: .undef :: .undef :: .undef :: .undef :: .undef :: .undef :: .undef :: .undef :: .undef :: .undef :: .undef :: .undef :: .undef :: .undef :: .undef :: .undef :: .undef :: .undef :: .undef :: .undef :: .undef :: .undef :: .undef :: .undef :: .undef :: .undef :: .undef :: .undef :: []), OB, 0, []⟩
    have hlD : D.length = s.dues.length := by rw [← hD]; simp [dL]
    have hC0 : ∀ l, l = headS s → l = C 0 := fun l e => by simp [C, e]
    refine VLoop.enter (s' := S 0) (weak_of ?_ (.cons (.eq ?_) .nil) rfl rfl rfl)
      (VLoop.indW S (fun x => s.dues.length - x) (fun x => x ≤ s.dues.length ∧ (C x).length ≤ 2000 + 300 * x) ?_ 0 ⟨by omega, by simp [C]; omega⟩)
    · repeat' first
        | exact VWs.nil
        | refine VWs.cons VW.undef ?_
        | refine VWs.cons (VW.eq rfl) ?_
        | refine VWs.cons (VW.eq (congrArg (fun x => V.str (toBA x)) (List.append_nil (headS s)).symm)) ?_
    · rw [hc, ho]; rfl
    rintro i ⟨hi, hcl⟩ ih
    have h60 := hs.len
    refine loop_round [] ?_; (conv => whnf); (repeat (refine step_go [] ?_; conv => whnf))
    refine two (fun g => ?_) (fun g => ?_)
    · have hil : i < s.dues.length := by have := of_decide_eq_true g; omega
      have hx : s.dues[i]? = some s.dues[i] := List.getElem?_eq_getElem hil
      have htk : s.dues.take (i + 1) = s.dues.take i ++ [s.dues[i]] := List.take_succ_eq_append_getElem hil
      obtain ⟨x, hxx⟩ : ∃ x, s.dues[i] = x := ⟨_, rfl⟩
      rw [hxx] at hx htk
      have hxo : x.ok := hs.dues x (List.mem_of_getElem? hx)
      have hget : D[((i : Nat) : Int).toNat]? = some (encD x) := by rw [Int.toNat_natCast, ← hD]; simp [dL, hx]
      have hC : C (i + 1) = C i ++ dueS x := by simp only [C]; rw [htk]; simp
      have n1 := money_len x.int hxo.2.2.1
      have n2 := money_len x.pri hxo.2.2.2
      have n3 := dateT_len x.day
      have n4 : (dgi x.n).length ≤ 21 := dgi_len hxo.1
      have n5 : (dueS x).length ≤ 150 := by simp [dueS, lineS, wInstalment]; omega
      obtain ⟨c, hcc⟩ : ∃ c, C i = c := ⟨_, rfl⟩
      rw [hcc] at hcl hC
      (conv => whnf); (repeat (refine step_go [] ?_; conv => whnf))
      refine ⟨by omega, _, hget, rfl, ?_⟩; (conv => whnf); (repeat (refine step_go [] ?_; conv => whnf))
      rw [hcc]
      (refine ⟨by decide +kernel, ?_⟩; conv => whnf)
      repeat first
        | (refine And.intro rfl ?_; conv => whnf)
        | (refine And.intro (by rw [sz_toBA, sz_toBA]; refine str_le ?_; simp [wInstalment]; omega) ?_; (try rw [toBA_app]); (conv => whnf); (repeat (refine step_go [] ?_; conv => whnf)))
      refine c_rnumber x.n hxo.1 _ ?_; (conv => whnf); (repeat (refine step_go [] ?_; conv => whnf))
      repeat first
        | (refine And.intro rfl ?_; conv => whnf)
        | (refine And.intro (by rw [sz_toBA, sz_toBA]; refine str_le ?_; simp [wInstalment]; omega) ?_; (try rw [toBA_app]); (conv => whnf); (repeat (refine step_go [] ?_; conv => whnf)))
      refine c_rsdate x.day _ ?_; (conv => whnf); (repeat (refine step_go [] ?_; conv => whnf))
      repeat first
        | (refine And.intro rfl ?_; conv => whnf)
        | (refine And.intro (by rw [sz_toBA, sz_toBA]; refine str_le ?_; simp [wInstalment]; omega) ?_; (try rw [toBA_app]); (conv => whnf); (repeat (refine step_go [] ?_; conv => whnf)))
      refine c_rmoney x.int hxo.2.2.1 _ ?_; (conv => whnf); (repeat (refine step_go [] ?_; conv => whnf))
      repeat first
        | (refine And.intro rfl ?_; conv => whnf)
        | (refine And.intro (by rw [sz_toBA, sz_toBA]; refine str_le ?_; simp [wInstalment]; omega) ?_; (try rw [toBA_app]); (conv => whnf); (repeat (refine step_go [] ?_; conv => whnf)))
      refine c_rmoney x.pri hxo.2.2.2 _ ?_; (conv => whnf); (repeat (refine step_go [] ?_; conv => whnf))
      repeat first
        | (refine And.intro rfl ?_; conv => whnf)
        | (refine And.intro (by rw [sz_toBA, sz_toBA]; refine str_le ?_; simp [wInstalment]; omega) ?_; (try rw [toBA_app]); (conv => whnf); (repeat (refine step_go [] ?_; conv => whnf)))
      have eD : c ++ (wInstalment ++ [32]) ++ dgi x.n ++ [32] ++ dateT x.day ++ [32] ++ moneyS x.int ++ [32] ++ moneyS x.pri ++ [10] = C (i + 1) := by rw [hC]; simp [dueS, lineS]
      rw [eD]
      refine ⟨S (i + 1), weak_of ?_ (.cons (.eq rfl) .nil) rfl rfl rfl, ih (i + 1) ⟨by omega, by rw [hC, List.length_append]; omega⟩ (by omega)⟩
      repeat' first
        | exact VWs.nil
        | refine VWs.cons VW.undef ?_
        | refine VWs.cons (VW.eq rfl) ?_
        | refine VWs.cons (VW.eq (congrArg (V.int .i64) (by rw [wrap64 (by omega) (by omega)]; omega))) ?_
    · have hil : i = s.dues.length := by have := of_decide_eq_false g; omega
      subst hil
      have hCe : C s.dues.length = headS s ++ s.dues.flatMap dueS := by simp only [C, List.take_length]
      have k1 := dateT_len s.nday
      have k2 : (dgi s.next).length ≤ 21 := dgi_len hs.next
      refine ⟨_, Weak.refl, ?_⟩; (conv => whnf); (repeat (refine step_go [] ?_; conv => whnf))
      refine two (fun g2 => ?_) (fun g2 => ?_)
      · have g2 : s.next ≠ 0 := by simpa using g2
        obtain ⟨c, hcc⟩ : ∃ c, C s.dues.length = c := ⟨_, rfl⟩
        have hT : c ++ (wNext ++ [32]) ++ dgi s.next ++ [32] ++ dateT s.nday ++ [10] = textS s := by rw [← hcc, hCe, textS, nextS, if_neg g2]; simp [lineS]
        rw [hcc] at hcl
        (conv => whnf); (repeat (refine step_go [] ?_; conv => whnf))
        rw [hcc]
        (refine ⟨by decide +kernel, ?_⟩; conv => whnf)
        repeat first
          | (refine And.intro rfl ?_; conv => whnf)
          | (refine And.intro (by rw [sz_toBA, sz_toBA]; refine str_le ?_; simp [wNext]; omega) ?_; (try rw [toBA_app]); (conv => whnf); (repeat (refine step_go [] ?_; conv => whnf)))
        refine c_rnumber s.next hs.next _ ?_; (conv => whnf); (repeat (refine step_go [] ?_; conv => whnf))
        repeat first
          | (refine And.intro rfl ?_; conv => whnf)
          | (refine And.intro (by rw [sz_toBA, sz_toBA]; refine str_le ?_; simp [wNext]; omega) ?_; (try rw [toBA_app]); (conv => whnf); (repeat (refine step_go [] ?_; conv => whnf)))
        refine c_rsdate s.nday _ ?_; (conv => whnf); (repeat (refine step_go [] ?_; conv => whnf))
        repeat first
          | (refine And.intro rfl ?_; conv => whnf)
          | (refine And.intro (by rw [sz_toBA, sz_toBA]; refine str_le ?_; simp [wNext]; omega) ?_; (try rw [toBA_app]); (conv => whnf); (repeat (refine step_go [] ?_; conv => whnf)))
        rw [hT]
        exact ⟨_, _, weak_of (.cons (.eq rfl) .nil) .nil rfl rfl rfl, h⟩
      · have g2 : s.next = 0 := by simpa using g2
        have hT : C s.dues.length = textS s := by rw [hCe, textS, nextS, if_pos g2, List.append_nil]
        (conv => whnf); (repeat (refine step_go [] ?_; conv => whnf))
        rw [hT]
        exact ⟨_, _, weak_of (.cons (.eq rfl) .nil) .nil rfl rfl rfl, h⟩
  · rw [hc, ho]
    (conv => whnf); (repeat (refine step_go [] ?_; conv => whnf))
    have hW : (⟨#[99, 108, 111, 115, 101, 100]⟩ : ByteArray) = toBA (howS s) := by rw [hw]; rfl
    rw [hW]
    clear hW hw
    refine c_rsdate s.day _ ?_; (conv => whnf); (repeat (refine step_go [] ?_; conv => whnf))
    simp only [kIns, kNext, k32, k10, kwPrincipal, kwAccrued, kwInterest, kwDue, kwPenalty, kwFees, kwUnapplied]
    refine ⟨by rw [sz_toBA, sz_toBA]; refine str_le ?_; simp; omega, ?_⟩
    rw [toBA_app]; (conv => whnf); (repeat (refine step_go [] ?_; conv => whnf))
    refine ⟨by rw [sz_toBA, sz_toBA]; refine str_le ?_; simp; omega, ?_⟩
    rw [toBA_app]; (conv => whnf); (repeat (refine step_go [] ?_; conv => whnf))
    refine ⟨by rw [sz_toBA, sz_toBA]; refine str_le ?_; simp; omega, ?_⟩
    rw [toBA_app]; (conv => whnf); (repeat (refine step_go [] ?_; conv => whnf))
    refine loop_round [] ?_; (conv => whnf); (repeat (refine step_go [] ?_; conv => whnf))
    refine ⟨by decide, _, rfl, rfl, ?_⟩; (conv => whnf); (repeat (refine step_go [] ?_; conv => whnf))
    (refine ⟨by decide +kernel, ?_⟩; conv => whnf)
    repeat first
      | (refine And.intro rfl ?_; conv => whnf)
      | (refine And.intro (by rw [sz_toBA, sz_toBA]; refine str_le ?_; simp [wPrincipal, wAccrued, wInterest, wDue, wPenalty, wFees, wUnapplied]; omega) ?_; (try rw [toBA_app]); (conv => whnf); (repeat (refine step_go [] ?_; conv => whnf)))
      | (refine ⟨by decide, _, rfl, rfl, ?_⟩; (conv => whnf); (repeat (refine step_go [] ?_; conv => whnf)))
    refine c_rmoney s.pri hs.pri _ ?_; (conv => whnf); (repeat (refine step_go [] ?_; conv => whnf))
    repeat first
      | (refine And.intro rfl ?_; conv => whnf)
      | (refine And.intro (by rw [sz_toBA, sz_toBA]; refine str_le ?_; simp [wPrincipal, wAccrued, wInterest, wDue, wPenalty, wFees, wUnapplied]; omega) ?_; (try rw [toBA_app]); (conv => whnf); (repeat (refine step_go [] ?_; conv => whnf)))
      | (refine ⟨by decide, _, rfl, rfl, ?_⟩; (conv => whnf); (repeat (refine step_go [] ?_; conv => whnf)))
    refine ⟨_, Weak.refl, ?_⟩
    refine loop_round [] ?_; (conv => whnf); (repeat (refine step_go [] ?_; conv => whnf))
    refine ⟨by decide, _, rfl, rfl, ?_⟩; (conv => whnf); (repeat (refine step_go [] ?_; conv => whnf))
    (refine ⟨by decide +kernel, ?_⟩; conv => whnf)
    repeat first
      | (refine And.intro rfl ?_; conv => whnf)
      | (refine And.intro (by rw [sz_toBA, sz_toBA]; refine str_le ?_; simp [wPrincipal, wAccrued, wInterest, wDue, wPenalty, wFees, wUnapplied]; omega) ?_; (try rw [toBA_app]); (conv => whnf); (repeat (refine step_go [] ?_; conv => whnf)))
      | (refine ⟨by decide, _, rfl, rfl, ?_⟩; (conv => whnf); (repeat (refine step_go [] ?_; conv => whnf)))
    refine c_rmoney s.acc hs.acc _ ?_; (conv => whnf); (repeat (refine step_go [] ?_; conv => whnf))
    repeat first
      | (refine And.intro rfl ?_; conv => whnf)
      | (refine And.intro (by rw [sz_toBA, sz_toBA]; refine str_le ?_; simp [wPrincipal, wAccrued, wInterest, wDue, wPenalty, wFees, wUnapplied]; omega) ?_; (try rw [toBA_app]); (conv => whnf); (repeat (refine step_go [] ?_; conv => whnf)))
      | (refine ⟨by decide, _, rfl, rfl, ?_⟩; (conv => whnf); (repeat (refine step_go [] ?_; conv => whnf)))
    refine ⟨_, Weak.refl, ?_⟩
    refine loop_round [] ?_; (conv => whnf); (repeat (refine step_go [] ?_; conv => whnf))
    refine ⟨by decide, _, rfl, rfl, ?_⟩; (conv => whnf); (repeat (refine step_go [] ?_; conv => whnf))
    (refine ⟨by decide +kernel, ?_⟩; conv => whnf)
    repeat first
      | (refine And.intro rfl ?_; conv => whnf)
      | (refine And.intro (by rw [sz_toBA, sz_toBA]; refine str_le ?_; simp [wPrincipal, wAccrued, wInterest, wDue, wPenalty, wFees, wUnapplied]; omega) ?_; (try rw [toBA_app]); (conv => whnf); (repeat (refine step_go [] ?_; conv => whnf)))
      | (refine ⟨by decide, _, rfl, rfl, ?_⟩; (conv => whnf); (repeat (refine step_go [] ?_; conv => whnf)))
    refine c_rmoney s.int hs.int _ ?_; (conv => whnf); (repeat (refine step_go [] ?_; conv => whnf))
    repeat first
      | (refine And.intro rfl ?_; conv => whnf)
      | (refine And.intro (by rw [sz_toBA, sz_toBA]; refine str_le ?_; simp [wPrincipal, wAccrued, wInterest, wDue, wPenalty, wFees, wUnapplied]; omega) ?_; (try rw [toBA_app]); (conv => whnf); (repeat (refine step_go [] ?_; conv => whnf)))
      | (refine ⟨by decide, _, rfl, rfl, ?_⟩; (conv => whnf); (repeat (refine step_go [] ?_; conv => whnf)))
    refine ⟨_, Weak.refl, ?_⟩
    refine loop_round [] ?_; (conv => whnf); (repeat (refine step_go [] ?_; conv => whnf))
    refine ⟨by decide, _, rfl, rfl, ?_⟩; (conv => whnf); (repeat (refine step_go [] ?_; conv => whnf))
    (refine ⟨by decide +kernel, ?_⟩; conv => whnf)
    repeat first
      | (refine And.intro rfl ?_; conv => whnf)
      | (refine And.intro (by rw [sz_toBA, sz_toBA]; refine str_le ?_; simp [wPrincipal, wAccrued, wInterest, wDue, wPenalty, wFees, wUnapplied]; omega) ?_; (try rw [toBA_app]); (conv => whnf); (repeat (refine step_go [] ?_; conv => whnf)))
      | (refine ⟨by decide, _, rfl, rfl, ?_⟩; (conv => whnf); (repeat (refine step_go [] ?_; conv => whnf)))
    refine c_rmoney s.due hs.due _ ?_; (conv => whnf); (repeat (refine step_go [] ?_; conv => whnf))
    repeat first
      | (refine And.intro rfl ?_; conv => whnf)
      | (refine And.intro (by rw [sz_toBA, sz_toBA]; refine str_le ?_; simp [wPrincipal, wAccrued, wInterest, wDue, wPenalty, wFees, wUnapplied]; omega) ?_; (try rw [toBA_app]); (conv => whnf); (repeat (refine step_go [] ?_; conv => whnf)))
      | (refine ⟨by decide, _, rfl, rfl, ?_⟩; (conv => whnf); (repeat (refine step_go [] ?_; conv => whnf)))
    refine ⟨_, Weak.refl, ?_⟩
    refine loop_round [] ?_; (conv => whnf); (repeat (refine step_go [] ?_; conv => whnf))
    refine ⟨by decide, _, rfl, rfl, ?_⟩; (conv => whnf); (repeat (refine step_go [] ?_; conv => whnf))
    (refine ⟨by decide +kernel, ?_⟩; conv => whnf)
    repeat first
      | (refine And.intro rfl ?_; conv => whnf)
      | (refine And.intro (by rw [sz_toBA, sz_toBA]; refine str_le ?_; simp [wPrincipal, wAccrued, wInterest, wDue, wPenalty, wFees, wUnapplied]; omega) ?_; (try rw [toBA_app]); (conv => whnf); (repeat (refine step_go [] ?_; conv => whnf)))
      | (refine ⟨by decide, _, rfl, rfl, ?_⟩; (conv => whnf); (repeat (refine step_go [] ?_; conv => whnf)))
    refine c_rmoney s.pen hs.pen _ ?_; (conv => whnf); (repeat (refine step_go [] ?_; conv => whnf))
    repeat first
      | (refine And.intro rfl ?_; conv => whnf)
      | (refine And.intro (by rw [sz_toBA, sz_toBA]; refine str_le ?_; simp [wPrincipal, wAccrued, wInterest, wDue, wPenalty, wFees, wUnapplied]; omega) ?_; (try rw [toBA_app]); (conv => whnf); (repeat (refine step_go [] ?_; conv => whnf)))
      | (refine ⟨by decide, _, rfl, rfl, ?_⟩; (conv => whnf); (repeat (refine step_go [] ?_; conv => whnf)))
    refine ⟨_, Weak.refl, ?_⟩
    refine loop_round [] ?_; (conv => whnf); (repeat (refine step_go [] ?_; conv => whnf))
    refine ⟨by decide, _, rfl, rfl, ?_⟩; (conv => whnf); (repeat (refine step_go [] ?_; conv => whnf))
    (refine ⟨by decide +kernel, ?_⟩; conv => whnf)
    repeat first
      | (refine And.intro rfl ?_; conv => whnf)
      | (refine And.intro (by rw [sz_toBA, sz_toBA]; refine str_le ?_; simp [wPrincipal, wAccrued, wInterest, wDue, wPenalty, wFees, wUnapplied]; omega) ?_; (try rw [toBA_app]); (conv => whnf); (repeat (refine step_go [] ?_; conv => whnf)))
      | (refine ⟨by decide, _, rfl, rfl, ?_⟩; (conv => whnf); (repeat (refine step_go [] ?_; conv => whnf)))
    refine c_rmoney s.fee hs.fee _ ?_; (conv => whnf); (repeat (refine step_go [] ?_; conv => whnf))
    repeat first
      | (refine And.intro rfl ?_; conv => whnf)
      | (refine And.intro (by rw [sz_toBA, sz_toBA]; refine str_le ?_; simp [wPrincipal, wAccrued, wInterest, wDue, wPenalty, wFees, wUnapplied]; omega) ?_; (try rw [toBA_app]); (conv => whnf); (repeat (refine step_go [] ?_; conv => whnf)))
      | (refine ⟨by decide, _, rfl, rfl, ?_⟩; (conv => whnf); (repeat (refine step_go [] ?_; conv => whnf)))
    refine ⟨_, Weak.refl, ?_⟩
    refine loop_round [] ?_; (conv => whnf); (repeat (refine step_go [] ?_; conv => whnf))
    refine ⟨by decide, _, rfl, rfl, ?_⟩; (conv => whnf); (repeat (refine step_go [] ?_; conv => whnf))
    (refine ⟨by decide +kernel, ?_⟩; conv => whnf)
    repeat first
      | (refine And.intro rfl ?_; conv => whnf)
      | (refine And.intro (by rw [sz_toBA, sz_toBA]; refine str_le ?_; simp [wPrincipal, wAccrued, wInterest, wDue, wPenalty, wFees, wUnapplied]; omega) ?_; (try rw [toBA_app]); (conv => whnf); (repeat (refine step_go [] ?_; conv => whnf)))
      | (refine ⟨by decide, _, rfl, rfl, ?_⟩; (conv => whnf); (repeat (refine step_go [] ?_; conv => whnf)))
    refine c_rmoney s.una hs.una _ ?_; (conv => whnf); (repeat (refine step_go [] ?_; conv => whnf))
    repeat first
      | (refine And.intro rfl ?_; conv => whnf)
      | (refine And.intro (by rw [sz_toBA, sz_toBA]; refine str_le ?_; simp [wPrincipal, wAccrued, wInterest, wDue, wPenalty, wFees, wUnapplied]; omega) ?_; (try rw [toBA_app]); (conv => whnf); (repeat (refine step_go [] ?_; conv => whnf)))
      | (refine ⟨by decide, _, rfl, rfl, ?_⟩; (conv => whnf); (repeat (refine step_go [] ?_; conv => whnf)))
    refine ⟨_, Weak.refl, ?_⟩
    refine loop_round [] ?_; (conv => whnf); (repeat (refine step_go [] ?_; conv => whnf))
    refine ⟨_, Weak.refl, ?_⟩; (conv => whnf); (repeat (refine step_go [] ?_; conv => whnf))
    have eH : dateT s.day ++ [32] ++ howS s ++ [10] ++ wPrincipal ++ [32] ++ moneyS s.pri ++ [10] ++ wAccrued ++ [32] ++ moneyS s.acc ++ [10] ++ wInterest ++ [32] ++ moneyS s.int ++ [10] ++ wDue ++ [32] ++ moneyS s.due ++ [10] ++ wPenalty ++ [32] ++ moneyS s.pen ++ [10] ++ wFees ++ [32] ++ moneyS s.fee ++ [10] ++ wUnapplied ++ [32] ++ moneyS s.una ++ [10] = headS s := by simp [headS, lineS]
    rw [eH]
    clear eH
    have hhd : (headS s).length ≤ 2000 := by
      simp [headS, lineS, wPrincipal, wAccrued, wInterest, wDue, wPenalty, wFees, wUnapplied]; omega
    let C : Nat → List Int := fun i => headS s ++ (s.dues.take i).flatMap dueS
    let OB : List VObj := [.cells true 24 [.int .i64 s.day, .bool s.opn, .bool s.cls, .int .i64 s.pri, .int .i64 s.acc, .int .i64 s.int, .int .i64 s.due, .int .i64 s.pen, .int .i64 s.fee, .int .i64 s.una, .sl D .no, .int .i64 s.next, .int .i64 s.nday]]
    let S : Nat → St := fun x => ⟨(.undef :: .ptr 0 0 :: .str ⟨#[]⟩ :: .undef :: .str (toBA (C x)) :: .undef :: .undef :: .int .i64 (x : Nat) :: .undef :: .undef :: .undef :: .undef :: .undef :: .undef :: .undef :: .undef :: .undef :: .undef :: .undef :: .undef :: .undef :: .undef :: .undef :: .undef :: .undef :: .undef :: .undef :: .undef :: .undef :: .undef :: .undef :: .undef :: .undef :: .undef :: .undef :: .undef :: .undef :: .undef :: .undef :: .undef :: .undef :: .undef :: .undef :: .undef :: .undef :: .undef :: .undef :: .undef :: .undef :: .undef :: .undef :: .undef :: .undef :: .undef :: .undef :: .undef :: .undef :: .undef :: .undef :: .undef :: .undef :: .undef :: .undef :: .undef :: .undef :: .undef :: .undef :: .undef :: .undef :: .undef :: .undef :: .undef :: .undef :: .undef :: .undef :: .undef :: .undef :: .undef :: .undef :: .undef :: .undef :: .undef :: .undef :: .undef :: .undef :: .undef :: .undef :: .undef :: .undef :: .undef :: .undef :: .undef :: .undef :: .undef :: .undef :: .undef :: .undef :: .undef :: .undef :: .undef :: .undef :: .undef :: .undef :: []), OB, 0, []⟩
    have hlD : D.length = s.dues.length := by rw [← hD]; simp [dL]
    have hC0 : ∀ l, l = headS s → l = C 0 := fun l e => by simp [C, e]
    refine VLoop.enter (s' := S 0) (weak_of ?_ (.cons (.eq ?_) .nil) rfl rfl rfl)
      (VLoop.indW S (fun x => s.dues.length - x) (fun x => x ≤ s.dues.length ∧ (C x).length ≤ 2000 + 300 * x) ?_ 0 ⟨by omega, by simp [C]; omega⟩)
    · repeat' first
        | exact VWs.nil
        | refine VWs.cons VW.undef ?_
        | refine VWs.cons (VW.eq rfl) ?_
        | refine VWs.cons (VW.eq (congrArg (fun x => V.str (toBA x)) (List.append_nil (headS s)).symm)) ?_
    · rw [hc, ho]; rfl
    rintro i ⟨hi, hcl⟩ ih
    have h60 := hs.len
    refine loop_round [] ?_; (conv => whnf); (repeat (refine step_go [] ?_; conv => whnf))
    refine two (fun g => ?_) (fun g => ?_)
    · have hil : i < s.dues.length := by have := of_decide_eq_true g; omega
      have hx : s.dues[i]? = some s.dues[i] := List.getElem?_eq_getElem hil
      have htk : s.dues.take (i + 1) = s.dues.take i ++ [s.dues[i]] := List.take_succ_eq_append_getElem hil
      obtain ⟨x, hxx⟩ : ∃ x, s.dues[i] = x := ⟨_, rfl⟩
      rw [hxx] at hx htk
      have hxo : x.ok := hs.dues x (List.mem_of_getElem? hx)
      have hget : D[((i : Nat) : Int).toNat]? = some (encD x) := by rw [Int.toNat_natCast, ← hD]; simp [dL, hx]
      have hC : C (i + 1) = C i ++ dueS x := by simp only [C]; rw [htk]; simp
      have n1 := money_len x.int hxo.2.2.1
      have n2 := money_len x.pri hxo.2.2.2
      have n3 := dateT_len x.day
      have n4 : (dgi x.n).length ≤ 21 := dgi_len hxo.1
      have n5 : (dueS x).length ≤ 150 := by simp [dueS, lineS, wInstalment]; omega
      obtain ⟨c, hcc⟩ : ∃ c, C i = c := ⟨_, rfl⟩
      rw [hcc] at hcl hC
      (conv => whnf); (repeat (refine step_go [] ?_; conv => whnf))
      refine ⟨by omega, _, hget, rfl, ?_⟩; (conv => whnf); (repeat (refine step_go [] ?_; conv => whnf))
      rw [hcc]
      (refine ⟨by decide +kernel, ?_⟩; conv => whnf)
      repeat first
        | (refine And.intro rfl ?_; conv => whnf)
        | (refine And.intro (by rw [sz_toBA, sz_toBA]; refine str_le ?_; simp [wInstalment]; omega) ?_; (try rw [toBA_app]); (conv => whnf); (repeat (refine step_go [] ?_; conv => whnf)))
      refine c_rnumber x.n hxo.1 _ ?_; (conv => whnf); (repeat (refine step_go [] ?_; conv => whnf))
      repeat first
        | (refine And.intro rfl ?_; conv => whnf)
        | (refine And.intro (by rw [sz_toBA, sz_toBA]; refine str_le ?_; simp [wInstalment]; omega) ?_; (try rw [toBA_app]); (conv => whnf); (repeat (refine step_go [] ?_; conv => whnf)))
      refine c_rsdate x.day _ ?_; (conv => whnf); (repeat (refine step_go [] ?_; conv => whnf))
      repeat first
        | (refine And.intro rfl ?_; conv => whnf)
        | (refine And.intro (by rw [sz_toBA, sz_toBA]; refine str_le ?_; simp [wInstalment]; omega) ?_; (try rw [toBA_app]); (conv => whnf); (repeat (refine step_go [] ?_; conv => whnf)))
      refine c_rmoney x.int hxo.2.2.1 _ ?_; (conv => whnf); (repeat (refine step_go [] ?_; conv => whnf))
      repeat first
        | (refine And.intro rfl ?_; conv => whnf)
        | (refine And.intro (by rw [sz_toBA, sz_toBA]; refine str_le ?_; simp [wInstalment]; omega) ?_; (try rw [toBA_app]); (conv => whnf); (repeat (refine step_go [] ?_; conv => whnf)))
      refine c_rmoney x.pri hxo.2.2.2 _ ?_; (conv => whnf); (repeat (refine step_go [] ?_; conv => whnf))
      repeat first
        | (refine And.intro rfl ?_; conv => whnf)
        | (refine And.intro (by rw [sz_toBA, sz_toBA]; refine str_le ?_; simp [wInstalment]; omega) ?_; (try rw [toBA_app]); (conv => whnf); (repeat (refine step_go [] ?_; conv => whnf)))
      have eD : c ++ (wInstalment ++ [32]) ++ dgi x.n ++ [32] ++ dateT x.day ++ [32] ++ moneyS x.int ++ [32] ++ moneyS x.pri ++ [10] = C (i + 1) := by rw [hC]; simp [dueS, lineS]
      rw [eD]
      refine ⟨S (i + 1), weak_of ?_ (.cons (.eq rfl) .nil) rfl rfl rfl, ih (i + 1) ⟨by omega, by rw [hC, List.length_append]; omega⟩ (by omega)⟩
      repeat' first
        | exact VWs.nil
        | refine VWs.cons VW.undef ?_
        | refine VWs.cons (VW.eq rfl) ?_
        | refine VWs.cons (VW.eq (congrArg (V.int .i64) (by rw [wrap64 (by omega) (by omega)]; omega))) ?_
    · have hil : i = s.dues.length := by have := of_decide_eq_false g; omega
      subst hil
      have hCe : C s.dues.length = headS s ++ s.dues.flatMap dueS := by simp only [C, List.take_length]
      have k1 := dateT_len s.nday
      have k2 : (dgi s.next).length ≤ 21 := dgi_len hs.next
      refine ⟨_, Weak.refl, ?_⟩; (conv => whnf); (repeat (refine step_go [] ?_; conv => whnf))
      refine two (fun g2 => ?_) (fun g2 => ?_)
      · have g2 : s.next ≠ 0 := by simpa using g2
        obtain ⟨c, hcc⟩ : ∃ c, C s.dues.length = c := ⟨_, rfl⟩
        have hT : c ++ (wNext ++ [32]) ++ dgi s.next ++ [32] ++ dateT s.nday ++ [10] = textS s := by rw [← hcc, hCe, textS, nextS, if_neg g2]; simp [lineS]
        rw [hcc] at hcl
        (conv => whnf); (repeat (refine step_go [] ?_; conv => whnf))
        rw [hcc]
        (refine ⟨by decide +kernel, ?_⟩; conv => whnf)
        repeat first
          | (refine And.intro rfl ?_; conv => whnf)
          | (refine And.intro (by rw [sz_toBA, sz_toBA]; refine str_le ?_; simp [wNext]; omega) ?_; (try rw [toBA_app]); (conv => whnf); (repeat (refine step_go [] ?_; conv => whnf)))
        refine c_rnumber s.next hs.next _ ?_; (conv => whnf); (repeat (refine step_go [] ?_; conv => whnf))
        repeat first
          | (refine And.intro rfl ?_; conv => whnf)
          | (refine And.intro (by rw [sz_toBA, sz_toBA]; refine str_le ?_; simp [wNext]; omega) ?_; (try rw [toBA_app]); (conv => whnf); (repeat (refine step_go [] ?_; conv => whnf)))
        refine c_rsdate s.nday _ ?_; (conv => whnf); (repeat (refine step_go [] ?_; conv => whnf))
        repeat first
          | (refine And.intro rfl ?_; conv => whnf)
          | (refine And.intro (by rw [sz_toBA, sz_toBA]; refine str_le ?_; simp [wNext]; omega) ?_; (try rw [toBA_app]); (conv => whnf); (repeat (refine step_go [] ?_; conv => whnf)))
        rw [hT]
        exact ⟨_, _, weak_of (.cons (.eq rfl) .nil) .nil rfl rfl rfl, h⟩
      · have g2 : s.next = 0 := by simpa using g2
        have hT : C s.dues.length = textS s := by rw [hCe, textS, nextS, if_pos g2, List.append_nil]
        (conv => whnf); (repeat (refine step_go [] ?_; conv => whnf))
        rw [hT]
        exact ⟨_, _, weak_of (.cons (.eq rfl) .nil) .nil rfl rfl rfl, h⟩
  · rw [hc, ho]
    (conv => whnf); (repeat (refine step_go [] ?_; conv => whnf))
    have hW : (⟨#[111, 112, 101, 110]⟩ : ByteArray) = toBA (howS s) := by rw [hw]; rfl
    rw [hW]
    clear hW hw
    refine c_rsdate s.day _ ?_; (conv => whnf); (repeat (refine step_go [] ?_; conv => whnf))
    simp only [kIns, kNext, k32, k10, kwPrincipal, kwAccrued, kwInterest, kwDue, kwPenalty, kwFees, kwUnapplied]
    refine ⟨by rw [sz_toBA, sz_toBA]; refine str_le ?_; simp; omega, ?_⟩
    rw [toBA_app]; (conv => whnf); (repeat (refine step_go [] ?_; conv => whnf))
    refine ⟨by rw [sz_toBA, sz_toBA]; refine str_le ?_; simp; omega, ?_⟩
    rw [toBA_app]; (conv => whnf); (repeat (refine step_go [] ?_; conv => whnf))
    refine ⟨by rw [sz_toBA, sz_toBA]; refine str_le ?_; simp; omega, ?_⟩
    rw [toBA_app]; (conv => whnf); (repeat (refine step_go [] ?_; conv => whnf))
    refine loop_round [] ?_; (conv => whnf); (repeat (refine step_go [] ?_; conv => whnf))
    refine ⟨by decide, _, rfl, rfl, ?_⟩; (conv => whnf); (repeat (refine step_go [] ?_; conv => whnf))
    (refine ⟨by decide +kernel, ?_⟩; conv => whnf)
    repeat first
      | (refine And.intro rfl ?_; conv => whnf)
      | (refine And.intro (by rw [sz_toBA, sz_toBA]; refine str_le ?_; simp [wPrincipal, wAccrued, wInterest, wDue, wPenalty, wFees, wUnapplied]; omega) ?_; (try rw [toBA_app]); (conv => whnf); (repeat (refine step_go [] ?_; conv => whnf)))
      | (refine ⟨by decide, _, rfl, rfl, ?_⟩; (conv => whnf); (repeat (refine step_go [] ?_; conv => whnf)))
    refine c_rmoney s.pri hs.pri _ ?_; (conv => whnf); (repeat (refine step_go [] ?_; conv => whnf))
    repeat first
      | (refine And.intro rfl ?_; conv => whnf)
      | (refine And.intro (by rw [sz_toBA, sz_toBA]; refine str_le ?_; simp [wPrincipal, wAccrued, wInterest, wDue, wPenalty, wFees, wUnapplied]; omega) ?_; (try rw [toBA_app]); (conv => whnf); (repeat (refine step_go [] ?_; conv => whnf)))
      | (refine ⟨by decide, _, rfl, rfl, ?_⟩; (conv => whnf); (repeat (refine step_go [] ?_; conv => whnf)))
    refine ⟨_, Weak.refl, ?_⟩
    refine loop_round [] ?_; (conv => whnf); (repeat (refine step_go [] ?_; conv => whnf))
    refine ⟨by decide, _, rfl, rfl, ?_⟩; (conv => whnf); (repeat (refine step_go [] ?_; conv => whnf))
    (refine ⟨by decide +kernel, ?_⟩; conv => whnf)
    repeat first
      | (refine And.intro rfl ?_; conv => whnf)
      | (refine And.intro (by rw [sz_toBA, sz_toBA]; refine str_le ?_; simp [wPrincipal, wAccrued, wInterest, wDue, wPenalty, wFees, wUnapplied]; omega) ?_; (try rw [toBA_app]); (conv => whnf); (repeat (refine step_go [] ?_; conv => whnf)))
      | (refine ⟨by decide, _, rfl, rfl, ?_⟩; (conv => whnf); (repeat (refine step_go [] ?_; conv => whnf)))
    refine c_rmoney s.acc hs.acc _ ?_; (conv => whnf); (repeat (refine step_go [] ?_; conv => whnf))
    repeat first
      | (refine And.intro rfl ?_; conv => whnf)
      | (refine And.intro (by rw [sz_toBA, sz_toBA]; refine str_le ?_; simp [wPrincipal, wAccrued, wInterest, wDue, wPenalty, wFees, wUnapplied]; omega) ?_; (try rw [toBA_app]); (conv => whnf); (repeat (refine step_go [] ?_; conv => whnf)))
      | (refine ⟨by decide, _, rfl, rfl, ?_⟩; (conv => whnf); (repeat (refine step_go [] ?_; conv => whnf)))
    refine ⟨_, Weak.refl, ?_⟩
    refine loop_round [] ?_; (conv => whnf); (repeat (refine step_go [] ?_; conv => whnf))
    refine ⟨by decide, _, rfl, rfl, ?_⟩; (conv => whnf); (repeat (refine step_go [] ?_; conv => whnf))
    (refine ⟨by decide +kernel, ?_⟩; conv => whnf)
    repeat first
      | (refine And.intro rfl ?_; conv => whnf)
      | (refine And.intro (by rw [sz_toBA, sz_toBA]; refine str_le ?_; simp [wPrincipal, wAccrued, wInterest, wDue, wPenalty, wFees, wUnapplied]; omega) ?_; (try rw [toBA_app]); (conv => whnf); (repeat (refine step_go [] ?_; conv => whnf)))
      | (refine ⟨by decide, _, rfl, rfl, ?_⟩; (conv => whnf); (repeat (refine step_go [] ?_; conv => whnf)))
    refine c_rmoney s.int hs.int _ ?_; (conv => whnf); (repeat (refine step_go [] ?_; conv => whnf))
    repeat first
      | (refine And.intro rfl ?_; conv => whnf)
      | (refine And.intro (by rw [sz_toBA, sz_toBA]; refine str_le ?_; simp [wPrincipal, wAccrued, wInterest, wDue, wPenalty, wFees, wUnapplied]; omega) ?_; (try rw [toBA_app]); (conv => whnf); (repeat (refine step_go [] ?_; conv => whnf)))
      | (refine ⟨by decide, _, rfl, rfl, ?_⟩; (conv => whnf); (repeat (refine step_go [] ?_; conv => whnf)))
    refine ⟨_, Weak.refl, ?_⟩
    refine loop_round [] ?_; (conv => whnf); (repeat (refine step_go [] ?_; conv => whnf))
    refine ⟨by decide, _, rfl, rfl, ?_⟩; (conv => whnf); (repeat (refine step_go [] ?_; conv => whnf))
    (refine ⟨by decide +kernel, ?_⟩; conv => whnf)
    repeat first
      | (refine And.intro rfl ?_; conv => whnf)
      | (refine And.intro (by rw [sz_toBA, sz_toBA]; refine str_le ?_; simp [wPrincipal, wAccrued, wInterest, wDue, wPenalty, wFees, wUnapplied]; omega) ?_; (try rw [toBA_app]); (conv => whnf); (repeat (refine step_go [] ?_; conv => whnf)))
      | (refine ⟨by decide, _, rfl, rfl, ?_⟩; (conv => whnf); (repeat (refine step_go [] ?_; conv => whnf)))
    refine c_rmoney s.due hs.due _ ?_; (conv => whnf); (repeat (refine step_go [] ?_; conv => whnf))
    repeat first
      | (refine And.intro rfl ?_; conv => whnf)
      | (refine And.intro (by rw [sz_toBA, sz_toBA]; refine str_le ?_; simp [wPrincipal, wAccrued, wInterest, wDue, wPenalty, wFees, wUnapplied]; omega) ?_; (try rw [toBA_app]); (conv => whnf); (repeat (refine step_go [] ?_; conv => whnf)))
      | (refine ⟨by decide, _, rfl, rfl, ?_⟩; (conv => whnf); (repeat (refine step_go [] ?_; conv => whnf)))
    refine ⟨_, Weak.refl, ?_⟩
    refine loop_round [] ?_; (conv => whnf); (repeat (refine step_go [] ?_; conv => whnf))
    refine ⟨by decide, _, rfl, rfl, ?_⟩; (conv => whnf); (repeat (refine step_go [] ?_; conv => whnf))
    (refine ⟨by decide +kernel, ?_⟩; conv => whnf)
    repeat first
      | (refine And.intro rfl ?_; conv => whnf)
      | (refine And.intro (by rw [sz_toBA, sz_toBA]; refine str_le ?_; simp [wPrincipal, wAccrued, wInterest, wDue, wPenalty, wFees, wUnapplied]; omega) ?_; (try rw [toBA_app]); (conv => whnf); (repeat (refine step_go [] ?_; conv => whnf)))
      | (refine ⟨by decide, _, rfl, rfl, ?_⟩; (conv => whnf); (repeat (refine step_go [] ?_; conv => whnf)))
    refine c_rmoney s.pen hs.pen _ ?_; (conv => whnf); (repeat (refine step_go [] ?_; conv => whnf))
    repeat first
      | (refine And.intro rfl ?_; conv => whnf)
      | (refine And.intro (by rw [sz_toBA, sz_toBA]; refine str_le ?_; simp [wPrincipal, wAccrued, wInterest, wDue, wPenalty, wFees, wUnapplied]; omega) ?_; (try rw [toBA_app]); (conv => whnf); (repeat (refine step_go [] ?_; conv => whnf)))
      | (refine ⟨by decide, _, rfl, rfl, ?_⟩; (conv => whnf); (repeat (refine step_go [] ?_; conv => whnf)))
    refine ⟨_, Weak.refl, ?_⟩
    refine loop_round [] ?_; (conv => whnf); (repeat (refine step_go [] ?_; conv => whnf))
    refine ⟨by decide, _, rfl, rfl, ?_⟩; (conv => whnf); (repeat (refine step_go [] ?_; conv => whnf))
    (refine ⟨by decide +kernel, ?_⟩; conv => whnf)
    repeat first
      | (refine And.intro rfl ?_; conv => whnf)
      | (refine And.intro (by rw [sz_toBA, sz_toBA]; refine str_le ?_; simp [wPrincipal, wAccrued, wInterest, wDue, wPenalty, wFees, wUnapplied]; omega) ?_; (try rw [toBA_app]); (conv => whnf); (repeat (refine step_go [] ?_; conv => whnf)))
      | (refine ⟨by decide, _, rfl, rfl, ?_⟩; (conv => whnf); (repeat (refine step_go [] ?_; conv => whnf)))
    refine c_rmoney s.fee hs.fee _ ?_; (conv => whnf); (repeat (refine step_go [] ?_; conv => whnf))
    repeat first
      | (refine And.intro rfl ?_; conv => whnf)
      | (refine And.intro (by rw [sz_toBA, sz_toBA]; refine str_le ?_; simp [wPrincipal, wAccrued, wInterest, wDue, wPenalty, wFees, wUnapplied]; omega) ?_; (try rw [toBA_app]); (conv => whnf); (repeat (refine step_go [] ?_; conv => whnf)))
      | (refine ⟨by decide, _, rfl, rfl, ?_⟩; (conv => whnf); (repeat (refine step_go [] ?_; conv => whnf)))
    refine ⟨_, Weak.refl, ?_⟩
    refine loop_round [] ?_; (conv => whnf); (repeat (refine step_go [] ?_; conv => whnf))
    refine ⟨by decide, _, rfl, rfl, ?_⟩; (conv => whnf); (repeat (refine step_go [] ?_; conv => whnf))
    (refine ⟨by decide +kernel, ?_⟩; conv => whnf)
    repeat first
      | (refine And.intro rfl ?_; conv => whnf)
      | (refine And.intro (by rw [sz_toBA, sz_toBA]; refine str_le ?_; simp [wPrincipal, wAccrued, wInterest, wDue, wPenalty, wFees, wUnapplied]; omega) ?_; (try rw [toBA_app]); (conv => whnf); (repeat (refine step_go [] ?_; conv => whnf)))
      | (refine ⟨by decide, _, rfl, rfl, ?_⟩; (conv => whnf); (repeat (refine step_go [] ?_; conv => whnf)))
    refine c_rmoney s.una hs.una _ ?_; (conv => whnf); (repeat (refine step_go [] ?_; conv => whnf))
    repeat first
      | (refine And.intro rfl ?_; conv => whnf)
      | (refine And.intro (by rw [sz_toBA, sz_toBA]; refine str_le ?_; simp [wPrincipal, wAccrued, wInterest, wDue, wPenalty, wFees, wUnapplied]; omega) ?_; (try rw [toBA_app]); (conv => whnf); (repeat (refine step_go [] ?_; conv => whnf)))
      | (refine ⟨by decide, _, rfl, rfl, ?_⟩; (conv => whnf); (repeat (refine step_go [] ?_; conv => whnf)))
    refine ⟨_, Weak.refl, ?_⟩
    refine loop_round [] ?_; (conv => whnf); (repeat (refine step_go [] ?_; conv => whnf))
    refine ⟨_, Weak.refl, ?_⟩; (conv => whnf); (repeat (refine step_go [] ?_; conv => whnf))
    have eH : dateT s.day ++ [32] ++ howS s ++ [10] ++ wPrincipal ++ [32] ++ moneyS s.pri ++ [10] ++ wAccrued ++ [32] ++ moneyS s.acc ++ [10] ++ wInterest ++ [32] ++ moneyS s.int ++ [10] ++ wDue ++ [32] ++ moneyS s.due ++ [10] ++ wPenalty ++ [32] ++ moneyS s.pen ++ [10] ++ wFees ++ [32] ++ moneyS s.fee ++ [10] ++ wUnapplied ++ [32] ++ moneyS s.una ++ [10] = headS s := by simp [headS, lineS]
    rw [eH]
    clear eH
    have hhd : (headS s).length ≤ 2000 := by
      simp [headS, lineS, wPrincipal, wAccrued, wInterest, wDue, wPenalty, wFees, wUnapplied]; omega
    let C : Nat → List Int := fun i => headS s ++ (s.dues.take i).flatMap dueS
    let OB : List VObj := [.cells true 24 [.int .i64 s.day, .bool s.opn, .bool s.cls, .int .i64 s.pri, .int .i64 s.acc, .int .i64 s.int, .int .i64 s.due, .int .i64 s.pen, .int .i64 s.fee, .int .i64 s.una, .sl D .no, .int .i64 s.next, .int .i64 s.nday]]
    let S : Nat → St := fun x => ⟨(.undef :: .ptr 0 0 :: .str ⟨#[]⟩ :: .undef :: .str (toBA (C x)) :: .undef :: .undef :: .int .i64 (x : Nat) :: .undef :: .undef :: .undef :: .undef :: .undef :: .undef :: .undef :: .undef :: .undef :: .undef :: .undef :: .undef :: .undef :: .undef :: .undef :: .undef :: .undef :: .undef :: .undef :: .undef :: .undef :: .undef :: .undef :: .undef :: .undef :: .undef :: .undef :: .undef :: .undef :: .undef :: .undef :: .undef :: .undef :: .undef :: .undef :: .undef :: .undef :: .undef :: .undef :: .undef :: .undef :: .undef :: .undef :: .undef :: .undef :: .undef :: .undef :: .undef :: .undef :: .undef :: .undef :: .undef :: .undef :: .undef :: .undef :: .undef :: .undef :: .undef :: .undef :: .undef :: .undef :: .undef :: .undef :: .undef :: .undef :: .undef :: .undef :: .undef :: .undef :: .undef :: .undef :: .undef :: .undef :: .undef :: .undef :: .undef :: .undef :: .undef :: .undef :: .undef :: .undef :: .undef :: .undef :: .undef :: .undef :: .undef :: .undef :: .undef :: .undef :: .undef :: .undef :: .undef :: .undef :: .undef :: .undef :: []), OB, 0, []⟩
    have hlD : D.length = s.dues.length := by rw [← hD]; simp [dL]
    have hC0 : ∀ l, l = headS s → l = C 0 := fun l e => by simp [C, e]
    refine VLoop.enter (s' := S 0) (weak_of ?_ (.cons (.eq ?_) .nil) rfl rfl rfl)
      (VLoop.indW S (fun x => s.dues.length - x) (fun x => x ≤ s.dues.length ∧ (C x).length ≤ 2000 + 300 * x) ?_ 0 ⟨by omega, by simp [C]; omega⟩)
    · repeat' first
        | exact VWs.nil
        | refine VWs.cons VW.undef ?_
        | refine VWs.cons (VW.eq rfl) ?_
        | refine VWs.cons (VW.eq (congrArg (fun x => V.str (toBA x)) (List.append_nil (headS s)).symm)) ?_
    · rw [hc, ho]; rfl
    rintro i ⟨hi, hcl⟩ ih
    have h60 := hs.len
    refine loop_round [] ?_; (conv => whnf); (repeat (refine step_go [] ?_; conv => whnf))
    refine two (fun g => ?_) (fun g => ?_)
    · have hil : i < s.dues.length := by have := of_decide_eq_true g; omega
      have hx : s.dues[i]? = some s.dues[i] := List.getElem?_eq_getElem hil
      have htk : s.dues.take (i + 1) = s.dues.take i ++ [s.dues[i]] := List.take_succ_eq_append_getElem hil
      obtain ⟨x, hxx⟩ : ∃ x, s.dues[i] = x := ⟨_, rfl⟩
      rw [hxx] at hx htk
      have hxo : x.ok := hs.dues x (List.mem_of_getElem? hx)
      have hget : D[((i : Nat) : Int).toNat]? = some (encD x) := by rw [Int.toNat_natCast, ← hD]; simp [dL, hx]
      have hC : C (i + 1) = C i ++ dueS x := by simp only [C]; rw [htk]; simp
      have n1 := money_len x.int hxo.2.2.1
      have n2 := money_len x.pri hxo.2.2.2
      have n3 := dateT_len x.day
      have n4 : (dgi x.n).length ≤ 21 := dgi_len hxo.1
      have n5 : (dueS x).length ≤ 150 := by simp [dueS, lineS, wInstalment]; omega
      obtain ⟨c, hcc⟩ : ∃ c, C i = c := ⟨_, rfl⟩
      rw [hcc] at hcl hC
      (conv => whnf); (repeat (refine step_go [] ?_; conv => whnf))
      refine ⟨by omega, _, hget, rfl, ?_⟩; (conv => whnf); (repeat (refine step_go [] ?_; conv => whnf))
      rw [hcc]
      (refine ⟨by decide +kernel, ?_⟩; conv => whnf)
      repeat first
        | (refine And.intro rfl ?_; conv => whnf)
        | (refine And.intro (by rw [sz_toBA, sz_toBA]; refine str_le ?_; simp [wInstalment]; omega) ?_; (try rw [toBA_app]); (conv => whnf); (repeat (refine step_go [] ?_; conv => whnf)))
      refine c_rnumber x.n hxo.1 _ ?_; (conv => whnf); (repeat (refine step_go [] ?_; conv => whnf))
      repeat first
        | (refine And.intro rfl ?_; conv => whnf)
        | (refine And.intro (by rw [sz_toBA, sz_toBA]; refine str_le ?_; simp [wInstalment]; omega) ?_; (try rw [toBA_app]); (conv => whnf); (repeat (refine step_go [] ?_; conv => whnf)))
      refine c_rsdate x.day _ ?_; (conv => whnf); (repeat (refine step_go [] ?_; conv => whnf))
      repeat first
        | (refine And.intro rfl ?_; conv => whnf)
        | (refine And.intro (by rw [sz_toBA, sz_toBA]; refine str_le ?_; simp [wInstalment]; omega) ?_; (try rw [toBA_app]); (conv => whnf); (repeat (refine step_go [] ?_; conv => whnf)))
      refine c_rmoney x.int hxo.2.2.1 _ ?_; (conv => whnf); (repeat (refine step_go [] ?_; conv => whnf))
      repeat first
        | (refine And.intro rfl ?_; conv => whnf)
        | (refine And.intro (by rw [sz_toBA, sz_toBA]; refine str_le ?_; simp [wInstalment]; omega) ?_; (try rw [toBA_app]); (conv => whnf); (repeat (refine step_go [] ?_; conv => whnf)))
      refine c_rmoney x.pri hxo.2.2.2 _ ?_; (conv => whnf); (repeat (refine step_go [] ?_; conv => whnf))
      repeat first
        | (refine And.intro rfl ?_; conv => whnf)
        | (refine And.intro (by rw [sz_toBA, sz_toBA]; refine str_le ?_; simp [wInstalment]; omega) ?_; (try rw [toBA_app]); (conv => whnf); (repeat (refine step_go [] ?_; conv => whnf)))
      have eD : c ++ (wInstalment ++ [32]) ++ dgi x.n ++ [32] ++ dateT x.day ++ [32] ++ moneyS x.int ++ [32] ++ moneyS x.pri ++ [10] = C (i + 1) := by rw [hC]; simp [dueS, lineS]
      rw [eD]
      refine ⟨S (i + 1), weak_of ?_ (.cons (.eq rfl) .nil) rfl rfl rfl, ih (i + 1) ⟨by omega, by rw [hC, List.length_append]; omega⟩ (by omega)⟩
      repeat' first
        | exact VWs.nil
        | refine VWs.cons VW.undef ?_
        | refine VWs.cons (VW.eq rfl) ?_
        | refine VWs.cons (VW.eq (congrArg (V.int .i64) (by rw [wrap64 (by omega) (by omega)]; omega))) ?_
    · have hil : i = s.dues.length := by have := of_decide_eq_false g; omega
      subst hil
      have hCe : C s.dues.length = headS s ++ s.dues.flatMap dueS := by simp only [C, List.take_length]
      have k1 := dateT_len s.nday
      have k2 : (dgi s.next).length ≤ 21 := dgi_len hs.next
      refine ⟨_, Weak.refl, ?_⟩; (conv => whnf); (repeat (refine step_go [] ?_; conv => whnf))
      refine two (fun g2 => ?_) (fun g2 => ?_)
      · have g2 : s.next ≠ 0 := by simpa using g2
        obtain ⟨c, hcc⟩ : ∃ c, C s.dues.length = c := ⟨_, rfl⟩
        have hT : c ++ (wNext ++ [32]) ++ dgi s.next ++ [32] ++ dateT s.nday ++ [10] = textS s := by rw [← hcc, hCe, textS, nextS, if_neg g2]; simp [lineS]
        rw [hcc] at hcl
        (conv => whnf); (repeat (refine step_go [] ?_; conv => whnf))
        rw [hcc]
        (refine ⟨by decide +kernel, ?_⟩; conv => whnf)
        repeat first
          | (refine And.intro rfl ?_; conv => whnf)
          | (refine And.intro (by rw [sz_toBA, sz_toBA]; refine str_le ?_; simp [wNext]; omega) ?_; (try rw [toBA_app]); (conv => whnf); (repeat (refine step_go [] ?_; conv => whnf)))
        refine c_rnumber s.next hs.next _ ?_; (conv => whnf); (repeat (refine step_go [] ?_; conv => whnf))
        repeat first
          | (refine And.intro rfl ?_; conv => whnf)
          | (refine And.intro (by rw [sz_toBA, sz_toBA]; refine str_le ?_; simp [wNext]; omega) ?_; (try rw [toBA_app]); (conv => whnf); (repeat (refine step_go [] ?_; conv => whnf)))
        refine c_rsdate s.nday _ ?_; (conv => whnf); (repeat (refine step_go [] ?_; conv => whnf))
        repeat first
          | (refine And.intro rfl ?_; conv => whnf)
          | (refine And.intro (by rw [sz_toBA, sz_toBA]; refine str_le ?_; simp [wNext]; omega) ?_; (try rw [toBA_app]); (conv => whnf); (repeat (refine step_go [] ?_; conv => whnf)))
        rw [hT]
        exact ⟨_, _, weak_of (.cons (.eq rfl) .nil) .nil rfl rfl rfl, h⟩
      · have g2 : s.next = 0 := by simpa using g2
        have hT : C s.dues.length = textS s := by rw [hCe, textS, nextS, if_pos g2, List.append_nil]
        (conv => whnf); (repeat (refine step_go [] ?_; conv => whnf))
        rw [hT]
        exact ⟨_, _, weak_of (.cons (.eq rfl) .nil) .nil rfl rfl rfl, h⟩
  · rw [hc, ho]
    (conv => whnf); (repeat (refine step_go [] ?_; conv => whnf))
    have hW : (⟨#[110, 111, 110, 101]⟩ : ByteArray) = toBA (howS s) := by rw [hw]; rfl
    rw [hW]
    clear hW hw
    refine c_rsdate s.day _ ?_; (conv => whnf); (repeat (refine step_go [] ?_; conv => whnf))
    simp only [kIns, kNext, k32, k10, kwPrincipal, kwAccrued, kwInterest, kwDue, kwPenalty, kwFees, kwUnapplied]
    refine ⟨by rw [sz_toBA, sz_toBA]; refine str_le ?_; simp; omega, ?_⟩
    rw [toBA_app]; (conv => whnf); (repeat (refine step_go [] ?_; conv => whnf))
    refine ⟨by rw [sz_toBA, sz_toBA]; refine str_le ?_; simp; omega, ?_⟩
    rw [toBA_app]; (conv => whnf); (repeat (refine step_go [] ?_; conv => whnf))
    refine ⟨by rw [sz_toBA, sz_toBA]; refine str_le ?_; simp; omega, ?_⟩
    rw [toBA_app]; (conv => whnf); (repeat (refine step_go [] ?_; conv => whnf))
    refine loop_round [] ?_; (conv => whnf); (repeat (refine step_go [] ?_; conv => whnf))
    refine ⟨by decide, _, rfl, rfl, ?_⟩; (conv => whnf); (repeat (refine step_go [] ?_; conv => whnf))
    (refine ⟨by decide +kernel, ?_⟩; conv => whnf)
    repeat first
      | (refine And.intro rfl ?_; conv => whnf)
      | (refine And.intro (by rw [sz_toBA, sz_toBA]; refine str_le ?_; simp [wPrincipal, wAccrued, wInterest, wDue, wPenalty, wFees, wUnapplied]; omega) ?_; (try rw [toBA_app]); (conv => whnf); (repeat (refine step_go [] ?_; conv => whnf)))
      | (refine ⟨by decide, _, rfl, rfl, ?_⟩; (conv => whnf); (repeat (refine step_go [] ?_; conv => whnf)))
    refine c_rmoney s.pri hs.pri _ ?_; (conv => whnf); (repeat (refine step_go [] ?_; conv => whnf))
    repeat first
      | (refine And.intro rfl ?_; conv => whnf)
      | (refine And.intro (by rw [sz_toBA, sz_toBA]; refine str_le ?_; simp [wPrincipal, wAccrued, wInterest, wDue, wPenalty, wFees, wUnapplied]; omega) ?_; (try rw [toBA_app]); (conv => whnf); (repeat (refine step_go [] ?_; conv => whnf)))
      | (refine ⟨by decide, _, rfl, rfl, ?_⟩; (conv => whnf); (repeat (refine step_go [] ?_; conv => whnf)))
    refine ⟨_, Weak.refl, ?_⟩
    refine loop_round [] ?_; (conv => whnf); (repeat (refine step_go [] ?_; conv => whnf))
    refine ⟨by decide, _, rfl, rfl, ?_⟩; (conv => whnf); (repeat (refine step_go [] ?_; conv => whnf))
    (refine ⟨by decide +kernel, ?_⟩; conv => whnf)
    repeat first
      | (refine And.intro rfl ?_; conv => whnf)
      | (refine And.intro (by rw [sz_toBA, sz_toBA]; refine str_le ?_; simp [wPrincipal, wAccrued, wInterest, wDue, wPenalty, wFees, wUnapplied]; omega) ?_; (try rw [toBA_app]); (conv => whnf); (repeat (refine step_go [] ?_; conv => whnf)))
      | (refine ⟨by decide, _, rfl, rfl, ?_⟩; (conv => whnf); (repeat (refine step_go [] ?_; conv => whnf)))
    refine c_rmoney s.acc hs.acc _ ?_; (conv => whnf); (repeat (refine step_go [] ?_; conv => whnf))
    repeat first
      | (refine And.intro rfl ?_; conv => whnf)
      | (refine And.intro (by rw [sz_toBA, sz_toBA]; refine str_le ?_; simp [wPrincipal, wAccrued, wInterest, wDue, wPenalty, wFees, wUnapplied]; omega) ?_; (try rw [toBA_app]); (conv => whnf); (repeat (refine step_go [] ?_; conv => whnf)))
      | (refine ⟨by decide, _, rfl, rfl, ?_⟩; (conv => whnf); (repeat (refine step_go [] ?_; conv => whnf)))
    refine ⟨_, Weak.refl, ?_⟩
    refine loop_round [] ?_; (conv => whnf); (repeat (refine step_go [] ?_; conv => whnf))
    refine ⟨by decide, _, rfl, rfl, ?_⟩; (conv => whnf); (repeat (refine step_go [] ?_; conv => whnf))
    (refine ⟨by decide +kernel, ?_⟩; conv => whnf)
    repeat first
      | (refine And.intro rfl ?_; conv => whnf)
      | (refine And.intro (by rw [sz_toBA, sz_toBA]; refine str_le ?_; simp [wPrincipal, wAccrued, wInterest, wDue, wPenalty, wFees, wUnapplied]; omega) ?_; (try rw [toBA_app]); (conv => whnf); (repeat (refine step_go [] ?_; conv => whnf)))
      | (refine ⟨by decide, _, rfl, rfl, ?_⟩; (conv => whnf); (repeat (refine step_go [] ?_; conv => whnf)))
    refine c_rmoney s.int hs.int _ ?_; (conv => whnf); (repeat (refine step_go [] ?_; conv => whnf))
    repeat first
      | (refine And.intro rfl ?_; conv => whnf)
      | (refine And.intro (by rw [sz_toBA, sz_toBA]; refine str_le ?_; simp [wPrincipal, wAccrued, wInterest, wDue, wPenalty, wFees, wUnapplied]; omega) ?_; (try rw [toBA_app]); (conv => whnf); (repeat (refine step_go [] ?_; conv => whnf)))
      | (refine ⟨by decide, _, rfl, rfl, ?_⟩; (conv => whnf); (repeat (refine step_go [] ?_; conv => whnf)))
    refine ⟨_, Weak.refl, ?_⟩
    refine loop_round [] ?_; (conv => whnf); (repeat (refine step_go [] ?_; conv => whnf))
    refine ⟨by decide, _, rfl, rfl, ?_⟩; (conv => whnf); (repeat (refine step_go [] ?_; conv => whnf))
    (refine ⟨by decide +kernel, ?_⟩; conv => whnf)
    repeat first
      | (refine And.intro rfl ?_; conv => whnf)
      | (refine And.intro (by rw [sz_toBA, sz_toBA]; refine str_le ?_; simp [wPrincipal, wAccrued, wInterest, wDue, wPenalty, wFees, wUnapplied]; omega) ?_; (try rw [toBA_app]); (conv => whnf); (repeat (refine step_go [] ?_; conv => whnf)))
      | (refine ⟨by decide, _, rfl, rfl, ?_⟩; (conv => whnf); (repeat (refine step_go [] ?_; conv => whnf)))
    refine c_rmoney s.due hs.due _ ?_; (conv => whnf); (repeat (refine step_go [] ?_; conv => whnf))
    repeat first
      | (refine And.intro rfl ?_; conv => whnf)
      | (refine And.intro (by rw [sz_toBA, sz_toBA]; refine str_le ?_; simp [wPrincipal, wAccrued, wInterest, wDue, wPenalty, wFees, wUnapplied]; omega) ?_; (try rw [toBA_app]); (conv => whnf); (repeat (refine step_go [] ?_; conv => whnf)))
      | (refine ⟨by decide, _, rfl, rfl, ?_⟩; (conv => whnf); (repeat (refine step_go [] ?_; conv => whnf)))
    refine ⟨_, Weak.refl, ?_⟩
    refine loop_round [] ?_; (conv => whnf); (repeat (refine step_go [] ?_; conv => whnf))
    refine ⟨by decide, _, rfl, rfl, ?_⟩; (conv => whnf); (repeat (refine step_go [] ?_; conv => whnf))
    (refine ⟨by decide +kernel, ?_⟩; conv => whnf)
    repeat first
      | (refine And.intro rfl ?_; conv => whnf)
      | (refine And.intro (by rw [sz_toBA, sz_toBA]; refine str_le ?_; simp [wPrincipal, wAccrued, wInterest, wDue, wPenalty, wFees, wUnapplied]; omega) ?_; (try rw [toBA_app]); (conv => whnf); (repeat (refine step_go [] ?_; conv => whnf)))
      | (refine ⟨by decide, _, rfl, rfl, ?_⟩; (conv => whnf); (repeat (refine step_go [] ?_; conv => whnf)))
    refine c_rmoney s.pen hs.pen _ ?_; (conv => whnf); (repeat (refine step_go [] ?_; conv => whnf))
    repeat first
      | (refine And.intro rfl ?_; conv => whnf)
      | (refine And.intro (by rw [sz_toBA, sz_toBA]; refine str_le ?_; simp [wPrincipal, wAccrued, wInterest, wDue, wPenalty, wFees, wUnapplied]; omega) ?_; (try rw [toBA_app]); (conv => whnf); (repeat (refine step_go [] ?_; conv => whnf)))
      | (refine ⟨by decide, _, rfl, rfl, ?_⟩; (conv => whnf); (repeat (refine step_go [] ?_; conv => whnf)))
    refine ⟨_, Weak.refl, ?_⟩
    refine loop_round [] ?_; (conv => whnf); (repeat (refine step_go [] ?_; conv => whnf))
    refine ⟨by decide, _, rfl, rfl, ?_⟩; (conv => whnf); (repeat (refine step_go [] ?_; conv => whnf))
    (refine ⟨by decide +kernel, ?_⟩; conv => whnf)
    repeat first
      | (refine And.intro rfl ?_; conv => whnf)
      | (refine And.intro (by rw [sz_toBA, sz_toBA]; refine str_le ?_; simp [wPrincipal, wAccrued, wInterest, wDue, wPenalty, wFees, wUnapplied]; omega) ?_; (try rw [toBA_app]); (conv => whnf); (repeat (refine step_go [] ?_; conv => whnf)))
      | (refine ⟨by decide, _, rfl, rfl, ?_⟩; (conv => whnf); (repeat (refine step_go [] ?_; conv => whnf)))
    refine c_rmoney s.fee hs.fee _ ?_; (conv => whnf); (repeat (refine step_go [] ?_; conv => whnf))
    repeat first
      | (refine And.intro rfl ?_; conv => whnf)
      | (refine And.intro (by rw [sz_toBA, sz_toBA]; refine str_le ?_; simp [wPrincipal, wAccrued, wInterest, wDue, wPenalty, wFees, wUnapplied]; omega) ?_; (try rw [toBA_app]); (conv => whnf); (repeat (refine step_go [] ?_; conv => whnf)))
      | (refine ⟨by decide, _, rfl, rfl, ?_⟩; (conv => whnf); (repeat (refine step_go [] ?_; conv => whnf)))
    refine ⟨_, Weak.refl, ?_⟩
    refine loop_round [] ?_; (conv => whnf); (repeat (refine step_go [] ?_; conv => whnf))
    refine ⟨by decide, _, rfl, rfl, ?_⟩; (conv => whnf); (repeat (refine step_go [] ?_; conv => whnf))
    (refine ⟨by decide +kernel, ?_⟩; conv => whnf)
    repeat first
      | (refine And.intro rfl ?_; conv => whnf)
      | (refine And.intro (by rw [sz_toBA, sz_toBA]; refine str_le ?_; simp [wPrincipal, wAccrued, wInterest, wDue, wPenalty, wFees, wUnapplied]; omega) ?_; (try rw [toBA_app]); (conv => whnf); (repeat (refine step_go [] ?_; conv => whnf)))
      | (refine ⟨by decide, _, rfl, rfl, ?_⟩; (conv => whnf); (repeat (refine step_go [] ?_; conv => whnf)))
    refine c_rmoney s.una hs.una _ ?_; (conv => whnf); (repeat (refine step_go [] ?_; conv => whnf))
    repeat first
      | (refine And.intro rfl ?_; conv => whnf)
      | (refine And.intro (by rw [sz_toBA, sz_toBA]; refine str_le ?_; simp [wPrincipal, wAccrued, wInterest, wDue, wPenalty, wFees, wUnapplied]; omega) ?_; (try rw [toBA_app]); (conv => whnf); (repeat (refine step_go [] ?_; conv => whnf)))
      | (refine ⟨by decide, _, rfl, rfl, ?_⟩; (conv => whnf); (repeat (refine step_go [] ?_; conv => whnf)))
    refine ⟨_, Weak.refl, ?_⟩
    refine loop_round [] ?_; (conv => whnf); (repeat (refine step_go [] ?_; conv => whnf))
    refine ⟨_, Weak.refl, ?_⟩; (conv => whnf); (repeat (refine step_go [] ?_; conv => whnf))
    have eH : dateT s.day ++ [32] ++ howS s ++ [10] ++ wPrincipal ++ [32] ++ moneyS s.pri ++ [10] ++ wAccrued ++ [32] ++ moneyS s.acc ++ [10] ++ wInterest ++ [32] ++ moneyS s.int ++ [10] ++ wDue ++ [32] ++ moneyS s.due ++ [10] ++ wPenalty ++ [32] ++ moneyS s.pen ++ [10] ++ wFees ++ [32] ++ moneyS s.fee ++ [10] ++ wUnapplied ++ [32] ++ moneyS s.una ++ [10] = headS s := by simp [headS, lineS]
    rw [eH]
    clear eH
    have hhd : (headS s).length ≤ 2000 := by
      simp [headS, lineS, wPrincipal, wAccrued, wInterest, wDue, wPenalty, wFees, wUnapplied]; omega
    let C : Nat → List Int := fun i => headS s ++ (s.dues.take i).flatMap dueS
    let OB : List VObj := [.cells true 24 [.int .i64 s.day, .bool s.opn, .bool s.cls, .int .i64 s.pri, .int .i64 s.acc, .int .i64 s.int, .int .i64 s.due, .int .i64 s.pen, .int .i64 s.fee, .int .i64 s.una, .sl D .no, .int .i64 s.next, .int .i64 s.nday]]
    let S : Nat → St := fun x => ⟨(.undef :: .ptr 0 0 :: .str ⟨#[]⟩ :: .undef :: .str (toBA (C x)) :: .undef :: .undef :: .int .i64 (x : Nat) :: .undef :: .undef :: .undef :: .undef :: .undef :: .undef :: .undef :: .undef :: .undef :: .undef :: .undef :: .undef :: .undef :: .undef :: .undef :: .undef :: .undef :: .undef :: .undef :: .undef :: .undef :: .undef :: .undef :: .undef :: .undef :: .undef :: .undef :: .undef :: .undef :: .undef :: .undef :: .undef :: .undef :: .undef :: .undef :: .undef :: .undef :: .undef :: .undef :: .undef :: .undef :: .undef :: .undef :: .undef :: .undef :: .undef :: .undef :: .undef :: .undef :: .undef :: .undef :: .undef :: .undef :: .undef :: .undef :: .undef :: .undef :: .undef :: .undef :: .undef :: .undef :: .undef :: .undef :: .undef :: .undef :: .undef :: .undef :: .undef :: .undef :: .undef :: .undef :: .undef :: .undef :: .undef :: .undef :: .undef :: .undef :: .undef :: .undef :: .undef :: .undef :: .undef :: .undef :: .undef :: .undef :: .undef :: .undef :: .undef :: .undef :: .undef :: .undef :: .undef :: .undef :: .undef :: .undef :: []), OB, 0, []⟩
    have hlD : D.length = s.dues.length := by rw [← hD]; simp [dL]
    have hC0 : ∀ l, l = headS s → l = C 0 := fun l e => by simp [C, e]
    refine VLoop.enter (s' := S 0) (weak_of ?_ (.cons (.eq ?_) .nil) rfl rfl rfl)
      (VLoop.indW S (fun x => s.dues.length - x) (fun x => x ≤ s.dues.length ∧ (C x).length ≤ 2000 + 300 * x) ?_ 0 ⟨by omega, by simp [C]; omega⟩)
    · repeat' first
        | exact VWs.nil
        | refine VWs.cons VW.undef ?_
        | refine VWs.cons (VW.eq rfl) ?_
        | refine VWs.cons (VW.eq (congrArg (fun x => V.str (toBA x)) (List.append_nil (headS s)).symm)) ?_
    · rw [hc, ho]; rfl
    rintro i ⟨hi, hcl⟩ ih
    have h60 := hs.len
    refine loop_round [] ?_; (conv => whnf); (repeat (refine step_go [] ?_; conv => whnf))
    refine two (fun g => ?_) (fun g => ?_)
    · have hil : i < s.dues.length := by have := of_decide_eq_true g; omega
      have hx : s.dues[i]? = some s.dues[i] := List.getElem?_eq_getElem hil
      have htk : s.dues.take (i + 1) = s.dues.take i ++ [s.dues[i]] := List.take_succ_eq_append_getElem hil
      obtain ⟨x, hxx⟩ : ∃ x, s.dues[i] = x := ⟨_, rfl⟩
      rw [hxx] at hx htk
      have hxo : x.ok := hs.dues x (List.mem_of_getElem? hx)
      have hget : D[((i : Nat) : Int).toNat]? = some (encD x) := by rw [Int.toNat_natCast, ← hD]; simp [dL, hx]
      have hC : C (i + 1) = C i ++ dueS x := by simp only [C]; rw [htk]; simp
      have n1 := money_len x.int hxo.2.2.1
      have n2 := money_len x.pri hxo.2.2.2
      have n3 := dateT_len x.day
      have n4 : (dgi x.n).length ≤ 21 := dgi_len hxo.1
      have n5 : (dueS x).length ≤ 150 := by simp [dueS, lineS, wInstalment]; omega
      obtain ⟨c, hcc⟩ : ∃ c, C i = c := ⟨_, rfl⟩
      rw [hcc] at hcl hC
      (conv => whnf); (repeat (refine step_go [] ?_; conv => whnf))
      refine ⟨by omega, _, hget, rfl, ?_⟩; (conv => whnf); (repeat (refine step_go [] ?_; conv => whnf))
      rw [hcc]
      (refine ⟨by decide +kernel, ?_⟩; conv => whnf)
      repeat first
        | (refine And.intro rfl ?_; conv => whnf)
        | (refine And.intro (by rw [sz_toBA, sz_toBA]; refine str_le ?_; simp [wInstalment]; omega) ?_; (try rw [toBA_app]); (conv => whnf); (repeat (refine step_go [] ?_; conv => whnf)))
      refine c_rnumber x.n hxo.1 _ ?_; (conv => whnf); (repeat (refine step_go [] ?_; conv => whnf))
      repeat first
        | (refine And.intro rfl ?_; conv => whnf)
        | (refine And.intro (by rw [sz_toBA, sz_toBA]; refine str_le ?_; simp [wInstalment]; omega) ?_; (try rw [toBA_app]); (conv => whnf); (repeat (refine step_go [] ?_; conv => whnf)))
      refine c_rsdate x.day _ ?_; (conv => whnf); (repeat (refine step_go [] ?_; conv => whnf))
      repeat first
        | (refine And.intro rfl ?_; conv => whnf)
        | (refine And.intro (by rw [sz_toBA, sz_toBA]; refine str_le ?_; simp [wInstalment]; omega) ?_; (try rw [toBA_app]); (conv => whnf); (repeat (refine step_go [] ?_; conv => whnf)))
      refine c_rmoney x.int hxo.2.2.1 _ ?_; (conv => whnf); (repeat (refine step_go [] ?_; conv => whnf))
      repeat first
        | (refine And.intro rfl ?_; conv => whnf)
        | (refine And.intro (by rw [sz_toBA, sz_toBA]; refine str_le ?_; simp [wInstalment]; omega) ?_; (try rw [toBA_app]); (conv => whnf); (repeat (refine step_go [] ?_; conv => whnf)))
      refine c_rmoney x.pri hxo.2.2.2 _ ?_; (conv => whnf); (repeat (refine step_go [] ?_; conv => whnf))
      repeat first
        | (refine And.intro rfl ?_; conv => whnf)
        | (refine And.intro (by rw [sz_toBA, sz_toBA]; refine str_le ?_; simp [wInstalment]; omega) ?_; (try rw [toBA_app]); (conv => whnf); (repeat (refine step_go [] ?_; conv => whnf)))
      have eD : c ++ (wInstalment ++ [32]) ++ dgi x.n ++ [32] ++ dateT x.day ++ [32] ++ moneyS x.int ++ [32] ++ moneyS x.pri ++ [10] = C (i + 1) := by rw [hC]; simp [dueS, lineS]
      rw [eD]
      refine ⟨S (i + 1), weak_of ?_ (.cons (.eq rfl) .nil) rfl rfl rfl, ih (i + 1) ⟨by omega, by rw [hC, List.length_append]; omega⟩ (by omega)⟩
      repeat' first
        | exact VWs.nil
        | refine VWs.cons VW.undef ?_
        | refine VWs.cons (VW.eq rfl) ?_
        | refine VWs.cons (VW.eq (congrArg (V.int .i64) (by rw [wrap64 (by omega) (by omega)]; omega))) ?_
    · have hil : i = s.dues.length := by have := of_decide_eq_false g; omega
      subst hil
      have hCe : C s.dues.length = headS s ++ s.dues.flatMap dueS := by simp only [C, List.take_length]
      have k1 := dateT_len s.nday
      have k2 : (dgi s.next).length ≤ 21 := dgi_len hs.next
      refine ⟨_, Weak.refl, ?_⟩; (conv => whnf); (repeat (refine step_go [] ?_; conv => whnf))
      refine two (fun g2 => ?_) (fun g2 => ?_)
      · have g2 : s.next ≠ 0 := by simpa using g2
        obtain ⟨c, hcc⟩ : ∃ c, C s.dues.length = c := ⟨_, rfl⟩
        have hT : c ++ (wNext ++ [32]) ++ dgi s.next ++ [32] ++ dateT s.nday ++ [10] = textS s := by rw [← hcc, hCe, textS, nextS, if_neg g2]; simp [lineS]
        rw [hcc] at hcl
        (conv => whnf); (repeat (refine step_go [] ?_; conv => whnf))
        rw [hcc]
        (refine ⟨by decide +kernel, ?_⟩; conv => whnf)
        repeat first
          | (refine And.intro rfl ?_; conv => whnf)
          | (refine And.intro (by rw [sz_toBA, sz_toBA]; refine str_le ?_; simp [wNext]; omega) ?_; (try rw [toBA_app]); (conv => whnf); (repeat (refine step_go [] ?_; conv => whnf)))
        refine c_rnumber s.next hs.next _ ?_; (conv => whnf); (repeat (refine step_go [] ?_; conv => whnf))
        repeat first
          | (refine And.intro rfl ?_; conv => whnf)
          | (refine And.intro (by rw [sz_toBA, sz_toBA]; refine str_le ?_; simp [wNext]; omega) ?_; (try rw [toBA_app]); (conv => whnf); (repeat (refine step_go [] ?_; conv => whnf)))
        refine c_rsdate s.nday _ ?_; (conv => whnf); (repeat (refine step_go [] ?_; conv => whnf))
        repeat first
          | (refine And.intro rfl ?_; conv => whnf)
          | (refine And.intro (by rw [sz_toBA, sz_toBA]; refine str_le ?_; simp [wNext]; omega) ?_; (try rw [toBA_app]); (conv => whnf); (repeat (refine step_go [] ?_; conv => whnf)))
        rw [hT]
        exact ⟨_, _, weak_of (.cons (.eq rfl) .nil) .nil rfl rfl rfl, h⟩
      · have g2 : s.next = 0 := by simpa using g2
        have hT : C s.dues.length = textS s := by rw [hCe, textS, nextS, if_pos g2, List.append_nil]
        (conv => whnf); (repeat (refine step_go [] ?_; conv => whnf))
        rw [hT]
        exact ⟨_, _, weak_of (.cons (.eq rfl) .nil) .nil rfl rfl rfl, h⟩
end BB11

namespace BB12
open Go Go.Proofs VL BB10 BB11
set_option pp.maxSteps 1500
set_option linter.unusedSimpArgs false
set_option linter.unusedVariables false
set_option maxRecDepth 100000

theorem d_len (l : List Due) : (dL l).length = l.length := by simp [dL]
theorem d_app (l m : List Due) : dL l ++ dL m = dL (l ++ m) := by simp [dL]
theorem d_get (l : List Due) (i : Nat) : (dL l)[i]? = (l[i]?).map encD := by simp [dL]
theorem d_cells {l : List Due} : ∀ x ∈ dL l, x.cells.length = 4 := by
  intro x hx
  obtain ⟨n, _, rfl⟩ := List.mem_map.1 hx
  rfl
theorem d_eq (a b : Due) : a = b ↔ a.n = b.n ∧ a.day = b.day ∧ a.int = b.int ∧ a.pri = b.pri := by
  constructor
  · rintro rfl; simp
  · cases a; cases b; simp
instance : DecidableEq Due := fun a b => decidable_of_iff _ (d_eq a b).symm

theorem d_own (l : List Due) (f : Due) (hl : l.length < 1000000) (K) (h : K (.ret (.spare (dL l) (dL [f, f, f]))) []) : VCall Tryd.prog 11 [.sl (dL l) .no, encD f] [] K := by
  have hlen := d_len l
  refine call_fun [] 0 Tryd.func11 (by rfl) (by rfl) ?_
  conv => whnf
  refine step_go [] ?_; conv => whnf
  rw [show IntKind.i64.wrap (↑(dL l).length + 3) = (((dL l).length + 3 : Nat) : Int) by rw [wrap64 (by omega) (by omega)]; omega, Int.toNat_natCast]
  refine ⟨by omega, by omega, ?_, by omega, ?_⟩
  · show _ * ((32 : Nat) : Int) ≤ _; omega
  conv => whnf
  refine step_go [] ?_; conv => whnf
  refine ⟨by simp; omega, d_cells, yes (Nat.ble_eq_true_of_le (by omega)) ⟨by simp, ?_⟩⟩
  conv => whnf
  refine step_go [] ?_; conv => whnf
  rw [show IntKind.i64.wrap (↑(dL l).length + 3) = (((dL l).length + 3 : Nat) : Int) by rw [wrap64 (by omega) (by omega)]; omega, Int.toNat_natCast]
  refine ⟨by omega, by omega, by omega, ?_⟩
  conv => whnf
  refine step_go [] ?_; conv => whnf
  refine step_go [] ?_; conv => whnf
  let S : Nat → St := fun i => ⟨(.sl (dL l) .no :: encD f :: .undef :: .ptr 0 0 :: .sl [] .ex :: .slo 1 4 0 l.length (l.length + 3) :: .slo 1 4 0 (l.length + 3) (l.length + 3) :: .int .i64 ((l.length + i : Nat) : Int) :: .undef :: .undef :: .undef :: .undef :: .undef :: .undef :: .undef :: .undef :: .undef :: .undef :: .undef :: .undef :: .undef :: .undef :: .undef :: .undef :: .undef :: .undef :: .undef :: .undef :: .undef :: .undef :: .undef :: .undef :: .undef :: []), [.cells true 28 [.int .i64 f.n, .int .i64 f.day, .int .i64 f.int, .int .i64 f.pri], .buf false 4 (dL l ++ dL (List.replicate i f ++ List.replicate (3 - i) ⟨0, 0, 0, 0⟩))], 0, []⟩
  refine VLoop.enter (s' := S 0) (weak_of ?_ ?_ rfl rfl rfl) (VLoop.ind S 3 ?_ ?_)
  · repeat' first
      | exact VWs.nil
      | refine VWs.cons VW.undef ?_
      | refine VWs.cons (VW.eq rfl) ?_
      | refine VWs.cons (VW.eq (by simp [hlen])) ?_
  · refine .cons (.eq rfl) (.cons (.eq ?_) .nil)
    rw [hlen]
    simp only [Int.toNat_zero, Nat.zero_add, List.take_zero, List.nil_append, List.drop_replicate, Nat.add_sub_cancel_left, hlen]
    rfl
  have hlt : ∀ (a b : Int), a < b → decide (a < b) = true := fun a b h => by simpa using h
  · intro i hi ih
    refine loop_round [] ?_; conv => whnf
    refine step_go [] ?_; conv => whnf
    refine yes (hlt _ _ (by omega)) ?_; conv => whnf
    refine step_go [] ?_; conv => whnf
    rw [Int.toNat_natCast]
    refine ⟨by omega, by omega, ?_⟩; conv => whnf
    refine ⟨encD ⟨0, 0, 0, 0⟩, ?_, ?_⟩
    · rw [Nat.zero_add, List.getElem?_append_right (by rw [hlen]; omega), hlen, Nat.add_sub_cancel_left, d_get, List.getElem?_append_right (by simp), List.length_replicate, Nat.sub_self, List.getElem?_replicate, if_pos (by omega)]
      rfl
    conv => whnf
    refine step_go [] ?_; conv => whnf
    refine ⟨S (i + 1), weak_of ?_ ?_ rfl rfl rfl, ih⟩
    · repeat' first
        | exact VWs.nil
        | refine VWs.cons VW.undef ?_
        | refine VWs.cons (VW.eq rfl) ?_
        | refine VWs.cons (VW.eq (congrArg (V.int .i64) (by rw [wrap64 (by omega) (by omega)]; omega))) ?_
    · refine .cons (.eq rfl) (.cons (.eq (congrArg (VObj.buf false 4 · none) ?_)) .nil)
      obtain rfl | rfl | rfl : i = 0 ∨ i = 1 ∨ i = 2 := by omega
      all_goals simp [dL, List.set_append, List.replicate, V.remake, encD]
  · refine loop_round [] ?_; conv => whnf
    refine step_go [] ?_; conv => whnf
    refine no (by simp) ?_; conv => whnf
    refine weak_frz 1 true ?_; conv => whnf
    have hl3 : (dL l ++ dL (List.replicate 3 f ++ List.replicate (3 - 3) ⟨0, 0, 0, 0⟩)).length = l.length + 3 := by simp [dL]
    repeat' first
      | (refine ⟨by rw [hl3]; omega, by omega, ?_⟩; conv => whnf)
      | (refine step_go [] ?_; conv => whnf)
    have e1 : ((dL l ++ dL (List.replicate 3 f ++ List.replicate (3 - 3) ⟨0, 0, 0, 0⟩)).drop 0).take l.length = dL l := by
      rw [List.drop_zero, ← hlen, List.take_left]
    have e2 : ((dL l ++ dL (List.replicate 3 f ++ List.replicate (3 - 3) ⟨0, 0, 0, 0⟩)).drop (0 + l.length)).take (l.length + 3 - l.length) = dL [f, f, f] := by
      rw [Nat.zero_add, ← hlen, List.drop_left, Nat.add_sub_cancel_left]; rfl
    rw [e1, e2]
    exact h

theorem d_flat (m : Nat) (a0 a1 a2 a3 : Int) : flatT (VL.sys Tryd.prog m []).P 28 [.int .i64 a0, .int .i64 a1, .int .i64 a2, .int .i64 a3] = true := by kernel_rfl

theorem d_eqE (a b : Due) (K) (h : K (.ret (.bool (decide (a = b)))) []) : VCall Tryd.prog 54 [encD a, encD b] [] K := by
  refine call_fun [] 0 Tryd.func54 (by rfl) (by rfl) ?_
  conv => whnf
  repeat' first
    | (refine step_go [] ?_; conv => whnf)
    | (rw [d_flat]; conv => whnf)
  refine Eq.mp (congrArg (fun b => K (.ret (.bool b)) []) ?_) h
  rw [Bool.eq_iff_iff]
  simp [d_eq]

theorem d_same (l m : List Due) (hl : l.length < 1000000) (K) (h : K (.ret (.bool (decide (l = m)))) []) : VCall Tryd.prog 53 [.sl (dL l) .no, .sl (dL m) .no, .fn (.func 54) [] []] [] K := by
  have hlen := d_len l
  have hlen2 := d_len m
  refine call_fun [] 0 Tryd.func53 (by rfl) (by rfl) ?_
  conv => whnf
  repeat (refine step_go [] ?_; conv => whnf)
  refine two (fun g => ?_) (fun g => ?_)
  · have hne : l ≠ m := by rintro rfl; simp at g
    rw [decide_eq_false hne] at h
    (conv => whnf); (repeat (refine step_go [] ?_; conv => whnf))
    exact h
  have hlm : l.length = m.length := by simp [hlen, hlen2] at g; omega
  (conv => whnf); (repeat (refine step_go [] ?_; conv => whnf))
  let S : Nat → St := fun i => ⟨(.sl (dL l) .no :: .sl (dL m) .no :: .fn (.func 54) [] [] :: .undef :: .undef :: .undef :: .bool false :: .int .i64 i :: .undef :: .undef :: .undef :: .undef :: .undef :: .undef :: .undef :: .undef :: .undef :: .undef :: .undef :: .undef :: .undef :: .undef :: .undef :: .undef :: .undef :: .undef :: .undef :: .undef :: .undef :: .undef :: []), [], 0, []⟩
  refine VLoop.enter (s' := S 0) (weak_of ?_ .nil rfl rfl rfl) (VLoop.indW S (fun i => l.length - i) (fun i => i ≤ l.length ∧ l.take i = m.take i) ?_ 0 ⟨by omega, by simp⟩)
  · (repeat' first | exact VWs.nil | refine VWs.cons VW.undef ?_ | refine VWs.cons (VW.eq rfl) ?_)
  · intro i hil ih
    obtain ⟨hi, ht⟩ := hil
    refine loop_round [] ?_; (conv => whnf); (repeat (refine step_go [] ?_; conv => whnf))
    refine two (fun g => ?_) (fun g => ?_)
    · have hi : i < l.length := by simp [hlen] at g; omega
      have hget : (dL l)[(i : Int).toNat]? = some (encD (l[i])) := by rw [Int.toNat_natCast, d_get, List.getElem?_eq_getElem hi]; rfl
      have hget2 : (dL m)[(i : Int).toNat]? = some (encD (m[i]'(by omega))) := by rw [Int.toNat_natCast, d_get, List.getElem?_eq_getElem (by omega)]; rfl
      (conv => whnf); (repeat (refine step_go [] ?_; conv => whnf))
      refine ⟨by decide +kernel, ?_⟩; conv => whnf
      refine ⟨by omega, _, hget, rfl, ?_⟩; conv => whnf
      refine ⟨by omega, _, hget2, rfl, ?_⟩; conv => whnf
      refine d_eqE _ _ _ ?_; (conv => whnf); (repeat (refine step_go [] ?_; conv => whnf))
      refine two (fun g => ?_) (fun g => ?_)
      · have hne : l[i] ≠ m[i]'(by omega) := by simpa using g
        have hne : l ≠ m := by rintro rfl; exact hne rfl
        rw [decide_eq_false hne] at h
        (conv => whnf); (repeat (refine step_go [] ?_; conv => whnf))
        refine ⟨_, Weak.refl, ?_⟩; (conv => whnf); (repeat (refine step_go [] ?_; conv => whnf))
        exact h
      · have he : l[i] = m[i]'(by omega) := by simpa using g
        (conv => whnf); (repeat (refine step_go [] ?_; conv => whnf))
        refine ⟨S (i + 1), weak_of ?_ .nil rfl rfl rfl, ih (i + 1) ⟨by omega, by rw [List.take_succ_eq_append_getElem hi, List.take_succ_eq_append_getElem (by omega : i < m.length), ht, he]⟩ (by omega)⟩
        repeat' first
          | exact VWs.nil
          | refine VWs.cons VW.undef ?_
          | refine VWs.cons (VW.eq rfl) ?_
          | refine VWs.cons (VW.eq (congrArg (V.int .i64) (by rw [wrap64 (by omega) (by omega)]; omega))) ?_
    · have hi : i = l.length := by simp [hlen] at g; omega
      subst hi
      have he : l = m := by rw [List.take_length, hlm, List.take_length] at ht; exact ht
      rw [decide_eq_true he] at h
      (conv => whnf); (repeat (refine step_go [] ?_; conv => whnf))
      refine ⟨_, Weak.refl, ?_⟩; (conv => whnf); (repeat (refine step_go [] ?_; conv => whnf))
      exact h

theorem d_plain (l m : List Due) (hl : l.length < 1000000) (K) (h : K (.ret (.bool (decide (l = m)))) []) : VCall Tryd.prog 31 [.sl (dL l) .no, .sl (dL m) .no] [] K := by
  refine call_fun [] 0 Tryd.func31 (by rfl) (by rfl) ?_
  (conv => whnf); (repeat (refine step_go [] ?_; conv => whnf))
  refine d_same l m hl _ ?_; (conv => whnf); (repeat (refine step_go [] ?_; conv => whnf))
  exact h

theorem d_kept (l : List Due) (f : Due) (hl : l.length < 1000000) (K) (h : K (.ret (.bool true)) []) : VCall Tryd.prog 14 [.spare (dL l) (dL [f, f, f]), .sl (dL l) .no, encD f] [] K := by
  have hlen := d_len l
  have h3 : (dL [f, f, f]).length = 3 := rfl
  refine call_fun [] 0 Tryd.func14 (by rfl) (by rfl) ?_
  (conv => whnf); (repeat (refine step_go [] ?_; conv => whnf))
  refine VCall.args (args' := [.sl (dL l) .no, .sl (dL l) .no]) (.cons .spare (.cons (.eq rfl) .nil)) rfl ?_
  refine d_plain l l hl _ ?_
  rw [decide_eq_true rfl]; (conv => whnf); (repeat (refine step_go [] ?_; conv => whnf))
  refine no (by rw [h3, wrap64 (by omega) (by omega)]; simp) ?_; (conv => whnf); (repeat (refine step_go [] ?_; conv => whnf))
  rw [show IntKind.i64.wrap (↑(dL l).length + 3) = (((dL l).length + 3 : Nat) : Int) by rw [wrap64 (by omega) (by omega)]; omega, Int.toNat_natCast]
  refine ⟨by omega, by omega, by rw [h3]; omega, ?_, ?_⟩
  · rw [d_app]; exact d_cells
  (conv => whnf); (repeat (refine step_go [] ?_; conv => whnf))
  let S : Nat → St := fun i => ⟨(.spare (dL l) (dL [f, f, f]) :: .sl (dL l) .no :: encD f :: .undef :: .undef :: .ptr 0 0 :: .bool false :: .sl (dL (l ++ [f, f, f])) .no :: .int .i64 ((l.length + i : Nat) : Int) :: .undef :: .undef :: .undef :: .undef :: .undef :: .undef :: .undef :: .undef :: .undef :: .undef :: .undef :: .undef :: .undef :: .undef :: .undef :: .undef :: .undef :: .undef :: .undef :: .undef :: .undef :: .undef :: .undef :: .undef :: .undef :: .undef :: .undef :: .undef :: .undef :: .undef :: .undef :: []), [.cells true 28 [.int .i64 f.n, .int .i64 f.day, .int .i64 f.int, .int .i64 f.pri]], 0, []⟩
  refine VLoop.enter (s' := S 0) (weak_of ?_ (.cons (.eq rfl) .nil) rfl rfl rfl) (VLoop.ind S 3 ?_ ?_)
  · have e : ((dL l ++ dL [f, f, f]).take ((dL l).length + 3)).drop (Int.toNat 0) = dL (l ++ [f, f, f]) := by
      rw [Int.toNat_zero, List.drop_zero, d_app, List.take_of_length_le (by simp [dL])]
    repeat' first
      | exact VWs.nil
      | refine VWs.cons VW.undef ?_
      | refine VWs.cons (VW.eq rfl) ?_
      | refine VWs.cons (VW.eq (by rw [e])) ?_
      | refine VWs.cons (VW.eq (by rw [hlen]; rfl)) ?_
  · intro i hi ih
    have hget : (dL (l ++ [f, f, f]))[((l.length + i : Nat) : Int).toNat]? = some (encD f) := by
      rw [Int.toNat_natCast, d_get, List.getElem?_append_right (by omega), Nat.add_sub_cancel_left]
      obtain rfl | rfl | rfl : i = 0 ∨ i = 1 ∨ i = 2 := by omega
      all_goals rfl
    have hll : (dL (l ++ [f, f, f])).length = l.length + 3 := by simp [dL]
    refine loop_round [] ?_; (conv => whnf); (repeat (refine step_go [] ?_; conv => whnf))
    refine yes (by simp [hll]; omega) ?_; (conv => whnf); (repeat (refine step_go [] ?_; conv => whnf))
    refine ⟨by decide +kernel, ?_⟩; conv => whnf
    repeat' first
      | (refine step_go [] ?_; conv => whnf)
      | (refine ⟨by omega, _, hget, rfl, ?_⟩; conv => whnf)
      | (rw [d_flat]; conv => whnf)
      | (refine And.intro rfl ?_; conv => whnf)
    refine no (by simp) ?_; (conv => whnf); (repeat (refine step_go [] ?_; conv => whnf))
    refine ⟨S (i + 1), weak_of ?_ (.cons (.eq rfl) .nil) rfl rfl rfl, ih⟩
    repeat' first
      | exact VWs.nil
      | refine VWs.cons VW.undef ?_
      | refine VWs.cons (VW.eq rfl) ?_
      | refine VWs.cons (VW.eq (congrArg (V.int .i64) (by rw [wrap64 (by omega) (by omega)]; omega))) ?_
  · have hll : (dL (l ++ [f, f, f])).length = l.length + 3 := by simp [dL]
    refine loop_round [] ?_; (conv => whnf); (repeat (refine step_go [] ?_; conv => whnf))
    refine no (by simp [hll]) ?_; (conv => whnf); (repeat (refine step_go [] ?_; conv => whnf))
    refine ⟨_, Weak.refl, ?_⟩; (conv => whnf); (repeat (refine step_go [] ?_; conv => whnf))
    exact h
end BB12

namespace BB13
open Go Go.Proofs VL B10 BB10 BB12
set_option pp.maxSteps 1500
set_option linter.unusedSimpArgs false
set_option linter.unusedVariables false
set_option maxRecDepth 100000

structure Mon where
  pri : Int
  acc : Int
  dues : List Due
  pen : Int
  fee : Int
  una : Int
  cash : Int
  ear : Int
  fin : Int
  cha : Int
def cellsM (m : Mon) (r : Room) : List V := [.int .i64 m.pri, .int .i64 m.acc, .sl (dL m.dues) r, .int .i64 m.pen, .int .i64 m.fee, .int .i64 m.una, .int .i64 m.cash, .int .i64 m.ear, .int .i64 m.fin, .int .i64 m.cha]
def encM (m : Mon) (r : Room) : V := .agg (cellsM m r)
def mayB (v : Int) : Bool := decide (0 ≤ v) && decide (v ≤ 1000000000000000)
theorem mayB_iff (v : Int) : mayB v = true ↔ 0 ≤ v ∧ v ≤ 1000000000000000 := by simp [mayB]
theorem mayB_no (v : Int) : mayB v = false ↔ ¬ (0 ≤ v ∧ v ≤ 1000000000000000) := by rw [← mayB_iff]; simp
/-- an instalment that may not stand behind another one -/
def dueBad (p : Option Due) (d : Due) : Prop := ¬ (mayB d.int = true) ∨ ¬ (mayB d.pri = true) ∨ d.int + d.pri = 0 ∨ d.n < 1 ∨ ∃ q, p = some q ∧ (d.n ≤ q.n ∨ d.day ≤ q.day)
noncomputable instance (p : Option Due) (d : Due) : Decidable (dueBad p d) := Classical.propDecidable _
/-- all of interest, and of principal; none: they may not be -/
noncomputable def ofS : Option Due → Int → Int → List Due → Option (Int × Int)
  | _, a, b, [] => some (a, b)
  | p, a, b, d :: r => if dueBad p d then none else if mayB (a + d.int) && mayB (b + d.pri) then ofS (some d) (a + d.int) (b + d.pri) r else none

theorem c_may (v : Int) (K) (h : K (.ret (.bool (mayB v))) []) : VCall Tryd.prog 105 [.int .i64 v] [] K := by
  have hfin : ∀ b, mayB v = b → K (.ret (.bool b)) [] := fun b e => by rw [e] at h; exact h
  clear h
  refine call_fun [] 0 Tryd.func105 (by rfl) (by rfl) ?_; (conv => whnf); (repeat (refine step_go [] ?_; conv => whnf))
  repeat' first
    | (refine step_go [] ?_; conv => whnf)
    | (refine two (fun g => ?_) (fun g => ?_) <;> (conv => whnf))
  all_goals (refine hfin _ ?_; unfold mayB; simp_all <;> omega)

theorem ofS_range : ∀ {l : List Due} {p : Option Due} {a b x y : Int}, ofS p a b l = some (x, y) → mayB a = true → mayB b = true → mayB x = true ∧ mayB y = true
  | [], p, a, b, x, y, h, ha, hb => by simp [ofS] at h; obtain ⟨rfl, rfl⟩ := h; exact ⟨ha, hb⟩
  | d :: r, p, a, b, x, y, h, ha, hb => by
    unfold ofS at h
    split at h
    · cases h
    split at h
    · rename_i h2; rw [Bool.and_eq_true] at h2; exact ofS_range h h2.1 h2.2
    · cases h

set_option maxHeartbeats 2000000 in
theorem c_of (l : List Due) (hl : l.length < 1000000) (K)
    (h0 : ofS none 0 0 l = none → K (.ret (.tup [.agg [.int .i64 0, .int .i64 0], .bool false])) [])
    (h1 : ∀ x y, ofS none 0 0 l = some (x, y) → K (.ret (.tup [.agg [.int .i64 x, .int .i64 y], .bool true])) []) : VCall Tryd.prog 106 [.sl (dL l) .no] [] K := by
  have hlen := d_len l
  refine call_fun [] 0 Tryd.func106 (by rfl) (by rfl) ?_; (conv => whnf); (repeat (refine step_go [] ?_; conv => whnf))
  let OB : Int × Int → List VObj := fun x => [.cells true 120 [.int .i64 0, .int .i64 0], .cells true 120 [.int .i64 x.1, .int .i64 x.2]]
  let S : Nat × Int × Int → St := fun x => ⟨(.sl (dL l) .no :: .undef :: .ptr 0 0 :: .bool false :: .ptr 1 0 :: .undef :: .undef :: .sl (dL l) .no :: .int .i64 (l.length : Nat) :: .int .i64 (x.1 : Nat) :: .undef :: .undef :: .undef :: .undef :: .undef :: .undef :: .undef :: .undef :: .undef :: .undef :: .undef :: .undef :: .undef :: .undef :: .undef :: .undef :: .undef :: .undef :: .undef :: .undef :: .undef :: .undef :: .undef :: .undef :: .undef :: .undef :: .undef :: .undef :: .undef :: .undef :: .undef :: .undef :: .undef :: .undef :: .undef :: .undef :: .undef :: .undef :: .undef :: .undef :: .undef :: .undef :: .undef :: .undef :: .undef :: .undef :: .undef :: .undef :: .undef :: .undef :: .undef :: .undef :: .undef :: .undef :: .undef :: .undef :: .undef :: .undef :: .undef :: .undef :: .undef :: .undef :: .undef :: .undef :: .undef :: .undef :: .undef :: .undef :: .undef :: .undef :: .undef :: .undef :: .undef :: .undef :: .undef :: .undef :: .undef :: .undef :: .undef :: []), OB x.2, 0, []⟩
  let pv : Nat → Option Due := fun i => if i = 0 then none else l[i - 1]?
  refine VLoop.enter (s' := S (0, 0, 0)) (weak_of ?_ (.cons (.eq rfl) (.cons (.eq rfl) .nil)) rfl rfl rfl)
    (VLoop.indW S (fun x => l.length - x.1) (fun x => x.1 ≤ l.length ∧ mayB x.2.1 = true ∧ mayB x.2.2 = true ∧ ofS none 0 0 l = ofS (pv x.1) x.2.1 x.2.2 (l.drop x.1)) ?_ (0, 0, 0) ⟨by omega, rfl, rfl, rfl⟩)
  · repeat' first
      | exact VWs.nil
      | refine VWs.cons VW.undef ?_
      | refine VWs.cons (VW.eq rfl) ?_
      | refine VWs.cons (VW.eq (by rw [hlen])) ?_
  rintro ⟨i, a, b⟩ ⟨hi, ha, hb, hS⟩ ih
  simp only at hi ha hb hS
  refine loop_round [] ?_; (conv => whnf); (repeat (refine step_go [] ?_; conv => whnf))
  refine two (fun g => ?_) (fun g => ?_)
  · have hil : i < l.length := by have := of_decide_eq_true g; simp only at this; omega
    have hget : (dL l)[((i : Nat) : Int).toNat]? = some (encD l[i]) := by rw [Int.toNat_natCast, d_get, List.getElem?_eq_getElem hil]; rfl
    have hdrop : l.drop i = l[i] :: l.drop (i + 1) := List.drop_eq_getElem_cons hil
    have hpv : pv (i + 1) = some l[i] := by simp only [pv]; rw [if_neg (by omega), Nat.add_sub_cancel, List.getElem?_eq_getElem hil]
    obtain ⟨d, hd⟩ : ∃ d, l[i] = d := ⟨_, rfl⟩
    rw [hd] at hget hdrop hpv
    rw [hdrop] at hS
    have hq : ∃ q, 0 < i → (dL l)[(IntKind.i64.wrap ((i : Int) - 1)).toNat]? = some (encD q) ∧ pv i = some q := by
      by_cases h0 : 0 < i
      · refine ⟨l[i - 1], fun _ => ⟨?_, ?_⟩⟩
        · rw [wrap64 (by omega) (by omega), show ((i : Int) - 1).toNat = i - 1 by omega, d_get, List.getElem?_eq_getElem (by omega)]; rfl
        · simp only [pv]; rw [if_neg (by omega), List.getElem?_eq_getElem (by omega)]
      · exact ⟨d, fun h => absurd h h0⟩
    obtain ⟨q, hq⟩ := hq
    have hp0 : i = 0 → pv i = none := fun h => by simp only [pv]; rw [if_pos h]
    have hpq : ∀ x, pv i = some x → 0 < i ∧ x = q := fun x hx => by
      by_cases h0 : 0 < i
      · have := (hq h0).2; rw [hx] at this; exact ⟨h0, Option.some.inj this⟩
      · rw [hp0 (by omega)] at hx; cases hx
    have hbad : dueBad (pv i) d → K (.ret (.tup [.agg [.int .i64 0, .int .i64 0], .bool false])) [] := fun hb => h0 (by rw [hS]; unfold ofS; rw [if_pos hb])
    have hbad2 : ¬ (mayB (a + d.int) = true ∧ mayB (b + d.pri) = true) → K (.ret (.tup [.agg [.int .i64 0, .int .i64 0], .bool false])) [] := fun hb => by
      by_cases hd : dueBad (pv i) d
      · exact hbad hd
      · exact h0 (by rw [hS]; unfold ofS; rw [if_neg hd, if_neg (by simpa using hb)])
    have hgo : ¬ dueBad (pv i) d → mayB (a + d.int) = true → mayB (b + d.pri) = true → ofS none 0 0 l = ofS (pv (i + 1)) (a + d.int) (b + d.pri) (l.drop (i + 1)) := fun hd h1 h2 => by
      rw [hS, hpv]; conv => lhs; unfold ofS
      rw [if_neg hd, if_pos (by simp [h1, h2])]
    rw [mayB_iff] at ha hb
    (conv => whnf); (repeat (refine step_go [] ?_; conv => whnf))
    refine ⟨by omega, _, hget, rfl, ?_⟩; (conv => whnf); (repeat (refine step_go [] ?_; conv => whnf))
    (refine ⟨by decide +kernel, ?_⟩; conv => whnf)
    (repeat' first | (refine step_go [] ?_; conv => whnf) | (refine two (fun g => ?_) (fun g => ?_) <;> (try simp only [decide_eq_true_eq, decide_eq_false_iff_not, Bool.not_eq_true', Bool.not_eq_false', beq_iff_eq, beq_eq_false_iff_ne, bne_iff_ne, bne_eq_false_iff_eq, ne_eq, gt_iff_lt, ge_iff_le, Int.not_lt, Int.not_le, Nat.not_lt, Nat.not_le, Bool.not_eq_true, Bool.not_eq_false, Decidable.not_not, mayB_iff,mayB_no] at g) <;> (conv => whnf)) | (refine And.intro rfl ?_; conv => whnf) | (refine c_may _ _ ?_; conv => whnf) | (refine ⟨by rw [wrap64 (by omega) (by omega)]; omega, _, (hq (by omega)).1, rfl, ?_⟩; conv => whnf))
    all_goals first
      | (refine ⟨_, Weak.refl, ?_⟩; (conv => whnf); (repeat (refine step_go [] ?_; conv => whnf))
         first
           | (refine hbad ?_; unfold dueBad; simp only [mayB_iff]
              first
                | exact .inl g
                | exact .inr (.inl g)
                | (refine .inr (.inr (.inl ?_)); rw [wrap64 (by omega) (by omega)] at g; exact g)
                | exact .inr (.inr (.inr (.inl g)))
                | exact .inr (.inr (.inr (.inr ⟨q, (hq (by omega)).2, .inl g⟩)))
                | exact .inr (.inr (.inr (.inr ⟨q, (hq (by omega)).2, .inr g⟩))))
           | (refine hbad2 ?_; simp only [mayB_iff]
              first
                | (rw [wrap64 (x := a + d.int) (by omega) (by omega)] at *; omega)
                | (rw [wrap64 (x := b + d.pri) (by omega) (by omega)] at *; omega)))
      | (refine weak_sel (src := [0, 1]) ?_; conv => whnf
         refine VLoop.enter (s' := S (i + 1, a + d.int, b + d.pri)) (weak_of ?_ ?_ rfl rfl rfl) (ih (i + 1, a + d.int, b + d.pri) ⟨?_, ?_, ?_, ?_⟩ ?_)
         · repeat' first
             | exact VWs.nil
             | refine VWs.cons VW.undef ?_
             | refine VWs.cons (VW.eq rfl) ?_
             | refine VWs.cons (VW.eq (congrArg (V.int .i64) (by simp only; rw [wrap64 (by omega) (by omega)]; omega))) ?_
         · exact .cons (.eq rfl) (.cons (.eq (by simp only; rw [wrap64 (x := a + d.int) (by omega) (by omega), wrap64 (x := b + d.pri) (by omega) (by omega)])) .nil)
         · simp only; omega
         · simp only; rw [mayB_iff]; rw [wrap64 (x := a + d.int) (by omega) (by omega)] at *; omega
         · simp only; rw [mayB_iff]; rw [wrap64 (x := b + d.pri) (by omega) (by omega)] at *; omega
         · simp only
           refine hgo ?_ ((mayB_iff _).2 ?_) ((mayB_iff _).2 ?_)
           · simp only [dueBad, mayB_iff]
             rintro (h | h | h | h | ⟨x, hx, h⟩)
             · omega
             · omega
             · rw [wrap64 (x := d.int + d.pri) (by omega) (by omega)] at *; omega
             · omega
             · obtain ⟨h1, rfl⟩ := hpq x hx
               omega
           · rw [wrap64 (x := a + d.int) (by omega) (by omega)] at *; omega
           · rw [wrap64 (x := b + d.pri) (by omega) (by omega)] at *; omega
         · simp only; omega)
  · have hil : i = l.length := by have := of_decide_eq_false g; simp only at this; omega
    subst hil
    rw [List.drop_length] at hS
    conv at hS => rhs; unfold ofS
    refine ⟨_, Weak.refl, ?_⟩; (conv => whnf); (repeat (refine step_go [] ?_; conv => whnf))
    exact h1 a b hS

/-- money's sums, if it is right -/
noncomputable def readS (m : Mon) : Option (Int × Int) :=
  if mayB m.pri && mayB m.acc && mayB m.pen && mayB m.fee && mayB m.una && mayB m.ear && mayB m.fin && mayB m.cha then
    match ofS none 0 0 m.dues with
    | some (a, b) => if -1000000000000000 ≤ m.cash ∧ m.cash ≤ 1000000000000000 ∧ m.cash + m.pri + m.acc + a + b + m.pen + m.fee = m.una + m.ear + m.fin + m.cha then some (a, b) else none
    | none => none
  else none
structure Mon.ok (m : Mon) : Prop where
  pri : I64 m.pri
  acc : I64 m.acc
  pen : I64 m.pen
  fee : I64 m.fee
  una : I64 m.una
  cash : I64 m.cash
  ear : I64 m.ear
  fin : I64 m.fin
  cha : I64 m.cha
  dues : ∀ d ∈ m.dues, d.ok
  len : m.dues.length < 1000000
noncomputable def mrightB (m : Mon) : Bool := (readS m).isSome

theorem readS_may {m : Mon} (h : ¬ (mayB m.pri = true ∧ mayB m.acc = true ∧ mayB m.pen = true ∧ mayB m.fee = true ∧ mayB m.una = true ∧ mayB m.ear = true ∧ mayB m.fin = true ∧ mayB m.cha = true)) : readS m = none := by
  unfold readS
  rw [if_neg]
  simp only [Bool.and_eq_true]
  intro hh; exact h ⟨hh.1.1.1.1.1.1.1, hh.1.1.1.1.1.1.2, hh.1.1.1.1.1.2, hh.1.1.1.1.2, hh.1.1.1.2, hh.1.1.2, hh.1.2, hh.2⟩

set_option maxHeartbeats 2000000 in
theorem c_read (m : Mon) (hm : m.ok) (K)
    (h0 : readS m = none → ∀ x y, K (.ret (.tup [.agg [.int .i64 x, .int .i64 y], .bool false])) [])
    (h1 : ∀ x y, readS m = some (x, y) → K (.ret (.tup [.agg [.int .i64 x, .int .i64 y], .bool true])) []) : VCall Tryd.prog 85 [encM m .no] [] K := by
  unfold encM cellsM
  obtain ⟨D, hD⟩ : ∃ D, dL m.dues = D := ⟨_, rfl⟩
  rw [hD]
  refine call_fun [] 0 Tryd.func85 (by rfl) (by rfl) ?_
  conv => whnf
  (repeat' first | (refine step_go [] ?_; conv => whnf) | (refine two (fun g => ?_) (fun g => ?_) <;> (try simp only [decide_eq_true_eq, decide_eq_false_iff_not, Bool.not_eq_true', Bool.not_eq_false', beq_iff_eq, beq_eq_false_iff_ne, bne_iff_ne, bne_eq_false_iff_eq, ne_eq, gt_iff_lt, ge_iff_le, Int.not_lt, Int.not_le, Nat.not_lt, Nat.not_le, Bool.not_eq_true, Bool.not_eq_false, Decidable.not_not, mayB_iff,mayB_no] at g) <;> (conv => whnf)) | (refine And.intro rfl ?_; conv => whnf) | (refine c_may _ _ ?_; conv => whnf) | (refine loop_round [] ?_; conv => whnf) | (refine ⟨_, Weak.refl, ?_⟩; conv => whnf) | (refine ⟨by decide, _, rfl, rfl, ?_⟩; conv => whnf))
  all_goals first
    | (refine h0 (readS_may ?_) 0 0; simp only [mayB_iff]; omega)
    | skip
  subst hD
  refine c_of m.dues hm.len _ (fun e => ?_) (fun x y e => ?_)
  · conv => whnf
    (repeat' first | (refine step_go [] ?_; conv => whnf) | (refine two (fun g => ?_) (fun g => ?_) <;> (try simp only [decide_eq_true_eq, decide_eq_false_iff_not, Bool.not_eq_true', Bool.not_eq_false', beq_iff_eq, beq_eq_false_iff_ne, bne_iff_ne, bne_eq_false_iff_eq, ne_eq, gt_iff_lt, ge_iff_le, Int.not_lt, Int.not_le, Nat.not_lt, Nat.not_le, Bool.not_eq_true, Bool.not_eq_false, Decidable.not_not] at g) <;> (conv => whnf)) | (refine And.intro rfl ?_; conv => whnf))
    exact h0 (by unfold readS; rw [e]; simp) 0 0
  · have hr := ofS_range e rfl rfl
    rw [mayB_iff, mayB_iff] at hr
    have hread : readS m = if -1000000000000000 ≤ m.cash ∧ m.cash ≤ 1000000000000000 ∧ m.cash + m.pri + m.acc + x + y + m.pen + m.fee = m.una + m.ear + m.fin + m.cha then some (x, y) else none := by
      unfold readS; rw [e, if_pos]
      simp only [Bool.and_eq_true, mayB_iff]; omega
    conv => whnf
    (repeat' first | (refine step_go [] ?_; conv => whnf) | (refine two (fun g => ?_) (fun g => ?_) <;> (try simp only [decide_eq_true_eq, decide_eq_false_iff_not, Bool.not_eq_true', Bool.not_eq_false', beq_iff_eq, beq_eq_false_iff_ne, bne_iff_ne, bne_eq_false_iff_eq, ne_eq, gt_iff_lt, ge_iff_le, Int.not_lt, Int.not_le, Nat.not_lt, Nat.not_le, Bool.not_eq_true, Bool.not_eq_false, Decidable.not_not] at g) <;> (conv => whnf)) | (refine And.intro rfl ?_; conv => whnf) | (refine ⟨by decide +kernel, ?_⟩; conv => whnf))
    · exact h0 (by rw [hread, if_neg]; omega) 0 0
    · exact h0 (by rw [hread, if_neg]; omega) 0 0
    · rw [wrap64 (x := m.cash + m.pri) (by omega) (by omega), wrap64 (x := m.cash + m.pri + m.acc) (by omega) (by omega), wrap64 (x := m.cash + m.pri + m.acc + x) (by omega) (by omega), wrap64 (x := m.cash + m.pri + m.acc + x + y) (by omega) (by omega), wrap64 (x := m.cash + m.pri + m.acc + x + y + m.pen) (by omega) (by omega), wrap64 (x := m.cash + m.pri + m.acc + x + y + m.pen + m.fee) (by omega) (by omega),
        wrap64 (x := m.una + m.ear) (by omega) (by omega), wrap64 (x := m.una + m.ear + m.fin) (by omega) (by omega), wrap64 (x := m.una + m.ear + m.fin + m.cha) (by omega) (by omega)]
      by_cases hs : m.cash + m.pri + m.acc + x + y + m.pen + m.fee = m.una + m.ear + m.fin + m.cha
      · rw [show (m.cash + m.pri + m.acc + x + y + m.pen + m.fee == m.una + m.ear + m.fin + m.cha) = true by simpa using hs]
        exact h1 x y (by rw [hread, if_pos]; omega)
      · rw [show (m.cash + m.pri + m.acc + x + y + m.pen + m.fee == m.una + m.ear + m.fin + m.cha) = false by simpa using hs]
        exact h0 (by rw [hread, if_neg]; omega) x y

theorem c_Right (m : Mon) (hm : m.ok) (K) (h : K (.ret (.bool (mrightB m))) []) : VCall Tryd.prog 67 [encM m .no] [] K := by
  refine call_fun [] 0 Tryd.func67 (by rfl) (by rfl) ?_
  conv => whnf
  (repeat' first | (refine step_go [] ?_; conv => whnf) | (refine two (fun g => ?_) (fun g => ?_) <;> (try simp only [decide_eq_true_eq, decide_eq_false_iff_not, Bool.not_eq_true', Bool.not_eq_false', beq_iff_eq, beq_eq_false_iff_ne, bne_iff_ne, bne_eq_false_iff_eq, ne_eq, gt_iff_lt, ge_iff_le, Int.not_lt, Int.not_le, Nat.not_lt, Nat.not_le, Bool.not_eq_true, Bool.not_eq_false, Decidable.not_not] at g) <;> (conv => whnf)) | (refine And.intro rfl ?_; conv => whnf))
  refine c_read m hm _ (fun e x y => ?_) (fun x y e => ?_)
  · rw [show mrightB m = false by unfold mrightB; rw [e]; rfl] at h
    conv => whnf
    (repeat' first | (refine step_go [] ?_; conv => whnf) | (refine two (fun g => ?_) (fun g => ?_) <;> (try simp only [decide_eq_true_eq, decide_eq_false_iff_not, Bool.not_eq_true', Bool.not_eq_false', beq_iff_eq, beq_eq_false_iff_ne, bne_iff_ne, bne_eq_false_iff_eq, ne_eq, gt_iff_lt, ge_iff_le, Int.not_lt, Int.not_le, Nat.not_lt, Nat.not_le, Bool.not_eq_true, Bool.not_eq_false, Decidable.not_not] at g) <;> (conv => whnf)) | (refine And.intro rfl ?_; conv => whnf))
    exact h
  · rw [show mrightB m = true by unfold mrightB; rw [e]; rfl] at h
    conv => whnf
    (repeat' first | (refine step_go [] ?_; conv => whnf) | (refine two (fun g => ?_) (fun g => ?_) <;> (try simp only [decide_eq_true_eq, decide_eq_false_iff_not, Bool.not_eq_true', Bool.not_eq_false', beq_iff_eq, beq_eq_false_iff_ne, bne_iff_ne, bne_eq_false_iff_eq, ne_eq, gt_iff_lt, ge_iff_le, Int.not_lt, Int.not_le, Nat.not_lt, Nat.not_le, Bool.not_eq_true, Bool.not_eq_false, Decidable.not_not] at g) <;> (conv => whnf)) | (refine And.intro rfl ?_; conv => whnf))
    exact h

/-- how much is owed of a kind -/
def kindS (m : Mon) (x y k : Int) : Int := if k = 1 then m.fee else if k = 2 then m.pen else if k = 3 then x else if k = 4 then y else 0

theorem c_kind (m : Mon) (x y k : Int) (K) (h : K (.ret (.int .i64 (kindS m x y k))) []) : VCall Tryd.prog 86 [.agg (cellsM m .no ++ [.int .i64 x, .int .i64 y]), .int .i64 k] [] K := by
  have hfin : ∀ v, kindS m x y k = v → K (.ret (.int .i64 v)) [] := fun v e => by rw [e] at h; exact h
  clear h
  unfold cellsM
  obtain ⟨D, hD⟩ : ∃ D, dL m.dues = D := ⟨_, rfl⟩
  rw [hD]
  refine call_fun [] 0 Tryd.func86 (by rfl) (by rfl) ?_
  conv => whnf
  (repeat' first | (refine step_go [] ?_; conv => whnf) | (refine two (fun g => ?_) (fun g => ?_) <;> (try simp only [decide_eq_true_eq, decide_eq_false_iff_not, Bool.not_eq_true', Bool.not_eq_false', beq_iff_eq, beq_eq_false_iff_ne, bne_iff_ne, bne_eq_false_iff_eq, ne_eq, gt_iff_lt, ge_iff_le, Int.not_lt, Int.not_le, Nat.not_lt, Nat.not_le, Bool.not_eq_true, Bool.not_eq_false, Decidable.not_not] at g) <;> (conv => whnf)) | (refine And.intro rfl ?_; conv => whnf) | (refine ⟨_, Weak.refl, ?_⟩; conv => whnf))
  all_goals (refine hfin _ ?_; unfold kindS; simp_all)

/-- how much is owed -/
noncomputable def allS (m : Mon) : Int := match readS m with | none => 0 | some (x, y) => m.fee + m.pen + x + y

theorem readS_range {m : Mon} {x y : Int} (h : readS m = some (x, y)) : (0 ≤ m.pri ∧ m.pri ≤ 1000000000000000) ∧ (0 ≤ m.acc ∧ m.acc ≤ 1000000000000000) ∧ (0 ≤ m.pen ∧ m.pen ≤ 1000000000000000) ∧ (0 ≤ m.fee ∧ m.fee ≤ 1000000000000000) ∧ (0 ≤ m.una ∧ m.una ≤ 1000000000000000) ∧ (0 ≤ m.ear ∧ m.ear ≤ 1000000000000000) ∧ (0 ≤ m.fin ∧ m.fin ≤ 1000000000000000) ∧ (0 ≤ m.cha ∧ m.cha ≤ 1000000000000000) ∧ (0 ≤ x ∧ x ≤ 1000000000000000) ∧ (0 ≤ y ∧ y ≤ 1000000000000000) ∧
    (-1000000000000000 ≤ m.cash ∧ m.cash ≤ 1000000000000000) ∧ m.cash + m.pri + m.acc + x + y + m.pen + m.fee = m.una + m.ear + m.fin + m.cha ∧ ofS none 0 0 m.dues = some (x, y) := by
  unfold readS at h
  split at h
  · rename_i hb
    simp only [Bool.and_eq_true, mayB_iff] at hb
    split at h
    · rename_i a b e
      split at h
      · rename_i hc
        simp only [Option.some.injEq, Prod.mk.injEq] at h
        obtain ⟨rfl, rfl⟩ := h
        have hr := ofS_range e rfl rfl
        rw [mayB_iff, mayB_iff] at hr
        refine ⟨?_, ?_, ?_, ?_, ?_, ?_, ?_, ?_, ?_, ?_, ?_, ?_, e⟩ <;> omega
      · cases h
    · cases h
  · cases h

theorem c_All (m : Mon) (hm : m.ok) (K) (h : K (.ret (.int .i64 (allS m))) []) : VCall Tryd.prog 68 [encM m .no] [] K := by
  refine call_fun [] 0 Tryd.func68 (by rfl) (by rfl) ?_
  conv => whnf
  (repeat' first | (refine step_go [] ?_; conv => whnf) | (refine two (fun g => ?_) (fun g => ?_) <;> (try simp only [decide_eq_true_eq, decide_eq_false_iff_not, Bool.not_eq_true', Bool.not_eq_false', beq_iff_eq, beq_eq_false_iff_ne, bne_iff_ne, bne_eq_false_iff_eq, ne_eq, gt_iff_lt, ge_iff_le, Int.not_lt, Int.not_le, Nat.not_lt, Nat.not_le, Bool.not_eq_true, Bool.not_eq_false, Decidable.not_not] at g) <;> (conv => whnf)) | (refine And.intro rfl ?_; conv => whnf))
  refine c_read m hm _ (fun e x y => ?_) (fun x y e => ?_)
  · rw [show allS m = 0 by unfold allS; rw [e]] at h
    conv => whnf
    (repeat' first | (refine step_go [] ?_; conv => whnf) | (refine two (fun g => ?_) (fun g => ?_) <;> (try simp only [decide_eq_true_eq, decide_eq_false_iff_not, Bool.not_eq_true', Bool.not_eq_false', beq_iff_eq, beq_eq_false_iff_ne, bne_iff_ne, bne_eq_false_iff_eq, ne_eq, gt_iff_lt, ge_iff_le, Int.not_lt, Int.not_le, Nat.not_lt, Nat.not_le, Bool.not_eq_true, Bool.not_eq_false, Decidable.not_not] at g) <;> (conv => whnf)) | (refine And.intro rfl ?_; conv => whnf))
    exact h
  · have hr := readS_range e
    rw [show allS m = m.fee + m.pen + x + y by unfold allS; rw [e]] at h
    conv => whnf
    (repeat' first | (refine step_go [] ?_; conv => whnf) | (refine two (fun g => ?_) (fun g => ?_) <;> (try simp only [decide_eq_true_eq, decide_eq_false_iff_not, Bool.not_eq_true', Bool.not_eq_false', beq_iff_eq, beq_eq_false_iff_ne, bne_iff_ne, bne_eq_false_iff_eq, ne_eq, gt_iff_lt, ge_iff_le, Int.not_lt, Int.not_le, Nat.not_lt, Nat.not_le, Bool.not_eq_true, Bool.not_eq_false, Decidable.not_not] at g) <;> (conv => whnf)) | (refine And.intro rfl ?_; conv => whnf) | (refine loop_round [] ?_; conv => whnf) | (refine c_kind m x y _ _ ?_; conv => whnf) | (refine ⟨_, Weak.refl, ?_⟩; conv => whnf))
    refine Eq.mp (congrArg (fun v => K (.ret (.int .i64 v)) []) ?_) h
    have k1 : kindS m x y 1 = m.fee := rfl
    have k2 : kindS m x y (IntKind.i64.wrap (1 + 1)) = m.pen := rfl
    have k3 : kindS m x y (IntKind.i64.wrap (IntKind.i64.wrap (1 + 1) + 1)) = x := rfl
    have k4 : kindS m x y (IntKind.i64.wrap (IntKind.i64.wrap (IntKind.i64.wrap (1 + 1) + 1) + 1)) = y := rfl
    rw [k1, k2, k3, k4, wrap64 (x := 0 + m.fee) (by omega) (by omega), wrap64 (x := 0 + m.fee + m.pen) (by omega) (by omega), wrap64 (x := 0 + m.fee + m.pen + x) (by omega) (by omega), wrap64 (x := 0 + m.fee + m.pen + x + y) (by omega) (by omega)]
    omega

noncomputable def emptyB (m : Mon) : Bool := mrightB m && (allS m == 0) && (m.pri == 0) && (m.acc == 0)

theorem c_Empty (m : Mon) (hm : m.ok) (K) (h : K (.ret (.bool (emptyB m))) []) : VCall Tryd.prog 47 [encM m .no] [] K := by
  have hfin : ∀ v, emptyB m = v → K (.ret (.bool v)) [] := fun v e => by rw [e] at h; exact h
  clear h
  refine call_fun [] 0 Tryd.func47 (by rfl) (by rfl) ?_
  conv => whnf
  (repeat' first | (refine step_go [] ?_; conv => whnf) | (refine two (fun g => ?_) (fun g => ?_) <;> (try simp only [decide_eq_true_eq, decide_eq_false_iff_not, Bool.not_eq_true', Bool.not_eq_false', beq_iff_eq, beq_eq_false_iff_ne, bne_iff_ne, bne_eq_false_iff_eq, ne_eq, gt_iff_lt, ge_iff_le, Int.not_lt, Int.not_le, Nat.not_lt, Nat.not_le, Bool.not_eq_true, Bool.not_eq_false, Decidable.not_not] at g) <;> (conv => whnf)) | (refine And.intro rfl ?_; conv => whnf) | (refine c_Right m hm _ ?_; conv => whnf) | (refine c_All m hm _ ?_; conv => whnf))
  all_goals (refine hfin _ ?_; unfold emptyB; simp_all)
end BB13

namespace BB14
open Go Go.Proofs VL B10 BB10 BB11 BB12 BB13
set_option pp.maxSteps 1500
set_option linter.unusedSimpArgs false
set_option linter.unusedVariables false
set_option maxRecDepth 100000

structure Sta where
  day : Int
  opn : Bool
  start : Int
  plan : List Int
  next : Int
  rate : Int
  mon : Mon
  lfee : Int
  res : Int
  fine : Int
def iL (l : List Int) : List V := l.map (V.int .i64)
def cellsSt (s : Sta) : List V := [.int .i64 s.day, .bool s.opn, .int .i64 s.start, .sl (iL s.plan) .no, .int .i64 s.next, .int .i64 s.rate, .int .i64 s.mon.pri, .int .i64 s.mon.acc, .sl (dL s.mon.dues) .no, .int .i64 s.mon.pen, .int .i64 s.mon.fee, .int .i64 s.mon.una, .int .i64 s.mon.cash, .int .i64 s.mon.ear, .int .i64 s.mon.fin, .int .i64 s.mon.cha, .int .i64 s.lfee, .int .i64 s.res, .int .i64 s.fine]
noncomputable def closedB (s : Sta) : Bool := s.opn && emptyB s.mon

theorem c_Closed (s : Sta) (hm : s.mon.ok) (K) (h : K (.ret (.bool (closedB s))) []) : VCall Tryd.prog 24 [.agg (cellsSt s)] [] K := by
  have hfin : ∀ v, closedB s = v → K (.ret (.bool v)) [] := fun v e => by rw [e] at h; exact h
  clear h
  refine call_fun [] 0 Tryd.func24 (by rfl) (by rfl) ?_
  conv => whnf
  (repeat' first | (refine step_go [] ?_; conv => whnf) | (refine two (fun g => ?_) (fun g => ?_) <;> (try simp only [decide_eq_true_eq, decide_eq_false_iff_not, Bool.not_eq_true', Bool.not_eq_false', beq_iff_eq, beq_eq_false_iff_ne, bne_iff_ne, bne_eq_false_iff_eq, ne_eq, gt_iff_lt, ge_iff_le, Int.not_lt, Int.not_le, Nat.not_lt, Nat.not_le, Bool.not_eq_true, Bool.not_eq_false, Decidable.not_not] at g) <;> (conv => whnf)) | (refine And.intro rfl ?_; conv => whnf) | (refine c_Empty s.mon hm _ ?_; conv => whnf))
  all_goals (refine hfin _ ?_; unfold closedB; simp_all)

def mon0 : Mon := ⟨0, 0, [], 0, 0, 0, 0, 0, 0, 0⟩
theorem i0 : I64 0 := ⟨by decide, by decide⟩
theorem mon0_ok : mon0.ok := ⟨i0, i0, i0, i0, i0, i0, i0, i0, i0, by simp [mon0], by simp [mon0]⟩
theorem read0 : readS mon0 = some (0, 0) := by
  unfold readS
  rw [show ofS none 0 0 mon0.dues = some (0, 0) by unfold ofS; rfl]
  simp [mon0, mayB]
theorem empty0 : emptyB mon0 = true := by
  unfold emptyB mrightB allS
  rw [read0]; rfl
def sta0 (o : Bool) : Sta := ⟨0, o, 0, [], 0, 0, mon0, 0, 0, 0⟩
def stm0 : Stm := ⟨0, false, false, 0, 0, 0, 0, 0, 0, 0, [], 0, 0⟩
theorem stm0_ok : stm0.ok := ⟨i0, i0, i0, i0, i0, i0, i0, i0, i0, i0, by simp [stm0], by simp [stm0]⟩
theorem text_long (s : Stm) : 50 < (textS s).length := by
  simp [textS, headS, lineS, wPrincipal, wAccrued, wInterest, wDue, wPenalty, wFees, wUnapplied]; omega

theorem c_awake (K) (h : K (.ret (.bool true)) []) : VCall Tryd.prog 10 [] [] K := by
  refine call_fun [] 0 Tryd.func10 (by rfl) (by rfl) ?_
  conv => whnf
  (repeat' first | (refine step_go [] ?_; conv => whnf) | (refine two (fun g => ?_) (fun g => ?_) <;> (try simp only [decide_eq_true_eq, decide_eq_false_iff_not, Bool.not_eq_true', Bool.not_eq_false', beq_iff_eq, beq_eq_false_iff_ne, bne_iff_ne, bne_eq_false_iff_eq, ne_eq, gt_iff_lt, ge_iff_le, Int.not_lt, Int.not_le, Nat.not_lt, Nat.not_le, Bool.not_eq_true, Bool.not_eq_false, Decidable.not_not] at g) <;> (conv => whnf)) | (refine And.intro rfl ?_; conv => whnf))
  refine VCall.args (args' := [.agg (cellsSt (sta0 true))]) (.cons (.agg ?_) .nil) rfl ?_
  · (repeat' first | exact VQs.nil | refine VQs.cons VQ.no ?_ | refine VQs.cons VQ.spare ?_ | refine VQs.cons (VQ.eq rfl) ?_)
  refine c_Closed (sta0 true) mon0_ok _ ?_
  rw [show closedB (sta0 true) = true by unfold closedB; rw [show (sta0 true).mon = mon0 from rfl, empty0]; rfl]
  conv => whnf
  (repeat' first | (refine step_go [] ?_; conv => whnf) | (refine two (fun g => ?_) (fun g => ?_) <;> (try simp only [decide_eq_true_eq, decide_eq_false_iff_not, Bool.not_eq_true', Bool.not_eq_false', beq_iff_eq, beq_eq_false_iff_ne, bne_iff_ne, bne_eq_false_iff_eq, ne_eq, gt_iff_lt, ge_iff_le, Int.not_lt, Int.not_le, Nat.not_lt, Nat.not_le, Bool.not_eq_true, Bool.not_eq_false, Decidable.not_not] at g) <;> (conv => whnf)) | (refine And.intro rfl ?_; conv => whnf))
  refine VCall.args (args' := [.agg (cellsSt (sta0 false))]) (.cons (.agg ?_) .nil) rfl ?_
  · (repeat' first | exact VQs.nil | refine VQs.cons VQ.no ?_ | refine VQs.cons VQ.spare ?_ | refine VQs.cons (VQ.eq rfl) ?_)
  refine c_Closed (sta0 false) mon0_ok _ ?_
  rw [show closedB (sta0 false) = false from rfl]
  conv => whnf
  (repeat' first | (refine step_go [] ?_; conv => whnf) | (refine two (fun g => ?_) (fun g => ?_) <;> (try simp only [decide_eq_true_eq, decide_eq_false_iff_not, Bool.not_eq_true', Bool.not_eq_false', beq_iff_eq, beq_eq_false_iff_ne, bne_iff_ne, bne_eq_false_iff_eq, ne_eq, gt_iff_lt, ge_iff_le, Int.not_lt, Int.not_le, Nat.not_lt, Nat.not_le, Bool.not_eq_true, Bool.not_eq_false, Decidable.not_not] at g) <;> (conv => whnf)) | (refine And.intro rfl ?_; conv => whnf))
  refine VCall.args (args' := [encS stm0 .no]) (.cons (.agg ?_) .nil) rfl ?_
  · (repeat' first | exact VQs.nil | refine VQs.cons VQ.no ?_ | refine VQs.cons VQ.spare ?_ | refine VQs.cons (VQ.eq rfl) ?_)
  refine c_stext stm0 stm0_ok .no rfl _ ?_
  conv => whnf
  (repeat' first | (refine step_go [] ?_; conv => whnf) | (refine two (fun g => ?_) (fun g => ?_) <;> (try simp only [decide_eq_true_eq, decide_eq_false_iff_not, Bool.not_eq_true', Bool.not_eq_false', beq_iff_eq, beq_eq_false_iff_ne, bne_iff_ne, bne_eq_false_iff_eq, ne_eq, gt_iff_lt, ge_iff_le, Int.not_lt, Int.not_le, Nat.not_lt, Nat.not_le, Bool.not_eq_true, Bool.not_eq_false, Decidable.not_not] at g) <;> (conv => whnf)) | (refine And.intro rfl ?_; conv => whnf))
  refine Eq.mp (congrArg (fun v => K (.ret (.bool v)) []) ?_) h
  have := text_long stm0
  rw [toBA_size]
  simp; omega

theorem texts (s : Stm) (hs : ∀ x ∈ s.dues, x.ok) (h1 : I64 s.day) (h2 : I64 s.pri) (h3 : I64 s.acc) (h4 : I64 s.int) (h5 : I64 s.due) (h6 : I64 s.pen) (h7 : I64 s.fee) (h8 : I64 s.una) (h9 : I64 s.next) (h10 : I64 s.nday) :
    VCall Tryd.prog 3 [encS s .no] [] fun out _ => out = .ret (.bool true) := by
  have hlen := d_len s.dues
  unfold encS
  obtain ⟨D, hD⟩ : ∃ D, dL s.dues = D := ⟨_, rfl⟩
  rw [hD] at hlen ⊢
  refine call_fun [] 0 Tryd.func3 (by rfl) (by rfl) ?_
  conv => whnf
  (repeat' first | (refine step_go [] ?_; conv => whnf) | (refine two (fun g => ?_) (fun g => ?_) <;> (try simp only [decide_eq_true_eq, decide_eq_false_iff_not, Bool.not_eq_true', Bool.not_eq_false', beq_iff_eq, beq_eq_false_iff_ne, bne_iff_ne, bne_eq_false_iff_eq, ne_eq, gt_iff_lt, ge_iff_le, Int.not_lt, Int.not_le, Nat.not_lt, Nat.not_le, Bool.not_eq_true, Bool.not_eq_false, Decidable.not_not] at g) <;> (conv => whnf)) | (refine And.intro rfl ?_; conv => whnf) | (refine c_awake _ ?_; conv => whnf))
  have hok : s.ok := ⟨h1, h2, h3, h4, h5, h6, h7, h8, h9, h10, hs, by omega⟩
  subst hD
  refine d_own s.dues ⟨71, 0, 0, 0⟩ (by omega) _ ?_
  conv => whnf
  (repeat' first | (refine step_go [] ?_; conv => whnf) | (refine two (fun g => ?_) (fun g => ?_) <;> (try simp only [decide_eq_true_eq, decide_eq_false_iff_not, Bool.not_eq_true', Bool.not_eq_false', beq_iff_eq, beq_eq_false_iff_ne, bne_iff_ne, bne_eq_false_iff_eq, ne_eq, gt_iff_lt, ge_iff_le, Int.not_lt, Int.not_le, Nat.not_lt, Nat.not_le, Bool.not_eq_true, Bool.not_eq_false, Decidable.not_not] at g) <;> (conv => whnf)) | (refine And.intro rfl ?_; conv => whnf) | (refine ⟨by decide +kernel, ?_⟩; conv => whnf) | (refine c_awake _ ?_; conv => whnf))
  refine VCall.args (args' := [encS s .no]) (.cons (.agg ?_) .nil) rfl ?_
  · (repeat' first | exact VQs.nil | refine VQs.cons VQ.no ?_ | refine VQs.cons VQ.spare ?_ | refine VQs.cons (VQ.eq rfl) ?_)
  refine c_stext s hok .no rfl _ ?_
  conv => whnf
  (repeat' first | (refine step_go [] ?_; conv => whnf) | (refine two (fun g => ?_) (fun g => ?_) <;> (try simp only [decide_eq_true_eq, decide_eq_false_iff_not, Bool.not_eq_true', Bool.not_eq_false', beq_iff_eq, beq_eq_false_iff_ne, bne_iff_ne, bne_eq_false_iff_eq, ne_eq, gt_iff_lt, ge_iff_le, Int.not_lt, Int.not_le, Nat.not_lt, Nat.not_le, Bool.not_eq_true, Bool.not_eq_false, Decidable.not_not] at g) <;> (conv => whnf)) | (refine And.intro rfl ?_; conv => whnf))
  refine c_rtext23 s hok _ ?_
  conv => whnf
  (repeat' first | (refine step_go [] ?_; conv => whnf) | (refine two (fun g => ?_) (fun g => ?_) <;> (try simp only [decide_eq_true_eq, decide_eq_false_iff_not, Bool.not_eq_true', Bool.not_eq_false', beq_iff_eq, beq_eq_false_iff_ne, bne_iff_ne, bne_eq_false_iff_eq, ne_eq, gt_iff_lt, ge_iff_le, Int.not_lt, Int.not_le, Nat.not_lt, Nat.not_le, Bool.not_eq_true, Bool.not_eq_false, Decidable.not_not] at g) <;> (conv => whnf)) | (refine And.intro rfl ?_; conv => whnf))
  · refine d_kept s.dues ⟨71, 0, 0, 0⟩ (by omega) _ ?_
    conv => whnf
    (repeat' first | (refine step_go [] ?_; conv => whnf) | (refine two (fun g => ?_) (fun g => ?_) <;> (try simp only [decide_eq_true_eq, decide_eq_false_iff_not, Bool.not_eq_true', Bool.not_eq_false', beq_iff_eq, beq_eq_false_iff_ne, bne_iff_ne, bne_eq_false_iff_eq, ne_eq, gt_iff_lt, ge_iff_le, Int.not_lt, Int.not_le, Nat.not_lt, Nat.not_le, Bool.not_eq_true, Bool.not_eq_false, Decidable.not_not] at g) <;> (conv => whnf)) | (refine And.intro rfl ?_; conv => whnf))
  · simp at g
end BB14

namespace BB15
open Go Go.Proofs VL B10 BB10 BB11 BB12 BB13 BB14
set_option linter.unusedSimpArgs false
set_option linter.unusedVariables false

theorem sh_bool {r : List Ty} {vs : List V} (h : ShTs (.bool :: r) vs) : ∃ n b, vs = .bool n :: b ∧ ShTs r b := by
  simp only [ShTs, ShT] at h
  obtain ⟨a, b, rfl, ⟨n, rfl⟩, hb⟩ := h
  exact ⟨n, b, rfl, hb⟩
theorem sh_str {r : List Ty} {vs : List V} (h : ShTs (.str :: r) vs) : ∃ s b, vs = .str s :: b ∧ s.size ≤ 140737488351232 ∧ ShTs r b := by
  simp only [ShTs, ShT] at h
  obtain ⟨a, b, rfl, ⟨n, rfl, hn⟩, hb⟩ := h
  exact ⟨n, b, rfl, hn, hb⟩
theorem sh_sl {e : Ty} {z by_ : Nat} {agg : Bool} {r : List Ty} {vs : List V} (h : ShTs (.sl e z by_ agg :: r) vs) : ∃ l b, vs = .sl l .no :: b ∧ l.length * by_ ≤ 140737488351232 ∧ (∀ x ∈ l, (if agg then ∃ cs, x = .agg cs ∧ ShT e cs else ShT e [x])) ∧ ShTs r b := by
  simp only [ShTs, ShT] at h
  obtain ⟨a, b, rfl, ⟨n, rfl, hn, hm⟩, hb⟩ := h
  exact ⟨n, b, rfl, hn, hm, hb⟩
theorem sh_nil {vs : List V} (h : ShTs [] vs) : vs = [] := by simpa [ShTs] using h
theorem list_of {α : Type} {enc : α → V} {ok : α → Prop} : ∀ {l : List V}, (∀ x ∈ l, ∃ a, x = enc a ∧ ok a) → ∃ as' : List α, l = as'.map enc ∧ ∀ a ∈ as', ok a
  | [], _ => ⟨[], rfl, by simp⟩
  | x :: r, h => by
    obtain ⟨a, rfl, ha⟩ := h x (by simp)
    obtain ⟨q, rfl, hq⟩ := list_of (l := r) fun y hy => h y (by simp [hy])
    exact ⟨a :: q, rfl, by simpa [ha] using hq⟩
theorem i64_wf {n : Int} (h : (Lit.int .i64 n).wf = true) : I64 n := by
  simp only [Lit.wf, Bool.and_eq_true, decide_eq_true_eq] at h
  have h1 : IntKind.min .i64 = -9223372036854775808 := by decide
  have h2 : IntKind.max .i64 = 9223372036854775807 := by decide
  unfold I64
  omega
theorem due_of {cs : List V} (h : ShTs [.int .i64, .int .i64, .int .i64, .int .i64] cs) : ∃ d : Due, V.agg cs = encD d ∧ d.ok := by
  obtain ⟨a, _, rfl, wa, h1⟩ := ShTs.int h
  obtain ⟨b, _, rfl, wb, h2⟩ := ShTs.int h1
  obtain ⟨c, _, rfl, wc, h3⟩ := ShTs.int h2
  obtain ⟨d, _, rfl, wd, h4⟩ := ShTs.int h3
  obtain rfl := sh_nil h4
  exact ⟨⟨a, b, c, d⟩, rfl, i64_wf wa, i64_wf wb, i64_wf wc, i64_wf wd⟩
def tyDue : Ty := .row [.int .i64, .int .i64, .int .i64, .int .i64]
def tyStm : Ty := .row [.int .i64, .bool, .bool, .int .i64, .int .i64, .int .i64, .int .i64, .int .i64, .int .i64, .int .i64, .sl tyDue 4 32 true, .int .i64, .int .i64]
theorem stm_of {x : V} (h : ShA tyStm true x) : ∃ s : Stm, x = encS s .no ∧ (∀ d ∈ s.dues, d.ok) ∧ I64 s.day ∧ I64 s.pri ∧ I64 s.acc ∧ I64 s.int ∧ I64 s.due ∧ I64 s.pen ∧ I64 s.fee ∧ I64 s.una ∧ I64 s.next ∧ I64 s.nday := by
  unfold ShA tyStm at h
  rw [if_pos rfl] at h
  obtain ⟨cs, rfl, h⟩ := h
  simp only [ShT] at h
  obtain ⟨a1, _, rfl, w1, h1⟩ := ShTs.int h
  obtain ⟨a2, _, rfl, h2⟩ := sh_bool h1
  obtain ⟨a3, _, rfl, h3⟩ := sh_bool h2
  obtain ⟨a4, _, rfl, w4, h4⟩ := ShTs.int h3
  obtain ⟨a5, _, rfl, w5, h5⟩ := ShTs.int h4
  obtain ⟨a6, _, rfl, w6, h6⟩ := ShTs.int h5
  obtain ⟨a7, _, rfl, w7, h7⟩ := ShTs.int h6
  obtain ⟨a8, _, rfl, w8, h8⟩ := ShTs.int h7
  obtain ⟨a9, _, rfl, w9, h9⟩ := ShTs.int h8
  obtain ⟨a10, _, rfl, w10, h10⟩ := ShTs.int h9
  obtain ⟨l, _, rfl, _, hl, h11⟩ := sh_sl h10
  obtain ⟨a12, _, rfl, w12, h12⟩ := ShTs.int h11
  obtain ⟨a13, _, rfl, w13, h13⟩ := ShTs.int h12
  obtain rfl := sh_nil h13
  obtain ⟨ds, rfl, hds⟩ := list_of (enc := encD) (ok := Due.ok) (l := l) (fun x hx => by
    have := hl x hx
    rw [if_pos rfl] at this
    obtain ⟨cs, rfl, h⟩ := this
    simp only [tyDue, ShT] at h
    exact due_of h)
  exact ⟨⟨a1, a2, a3, a4, a5, a6, a7, a8, a9, a10, ds, a12, a13⟩, rfl, hds, i64_wf w1, i64_wf w4, i64_wf w5, i64_wf w6, i64_wf w7, i64_wf w8, i64_wf w9, i64_wf w10, i64_wf w12, i64_wf w13⟩
end BB15

namespace BB16
open Go Go.Proofs VL D1 B5 B10 BB8 BB9 BB10 BB11 BB12 BB13 BB14 BB15
set_option pp.maxSteps 1500
set_option linter.unusedSimpArgs false
set_option linter.unusedVariables false
set_option maxRecDepth 100000

/-- bytes that are no blanks and end no line -/
def Pl (l : List Int) : Prop := ∀ x ∈ l, 33 ≤ x ∧ x < 256
theorem Pl.app {a b : List Int} (h : Pl a) (k : Pl b) : Pl (a ++ b) := fun x hx => by
  rcases List.mem_append.1 hx with hx | hx
  · exact h x hx
  · exact k x hx
theorem Pl.nil : Pl [] := by simp [Pl]
theorem Pl.cons {x : Int} {l : List Int} (h : 33 ≤ x ∧ x < 256) (k : Pl l) : Pl (x :: l) := fun y hy => by
  rcases List.mem_cons.1 hy with rfl | hy
  · exact h
  · exact k y hy
theorem pl_dg (n : Nat) : Pl (dg n) := fun x hx => by have := dg_dig n x hx; unfold Dig at this; omega
theorem pl_dgw (w n : Nat) : Pl (dgw w n) := fun x hx => by have := dgw_dig w n x hx; unfold Dig at this; omega
theorem pl_sgn (v : Int) : Pl (sgn v) := by unfold sgn; split <;> simp [Pl]
theorem pl_money (v : Int) : Pl (moneyS v) := by unfold moneyS; exact (((pl_sgn v).app (pl_dg _)).app (Pl.cons (by omega) Pl.nil)).app (pl_dgw _ _)
theorem pl_dgi (v : Int) : Pl (dgi v) := by
  unfold dgi
  split
  · exact Pl.cons (by omega) (pl_dg _)
  · exact pl_dg _
theorem pl_date (n : Int) : Pl (dateT n) := by
  unfold dateT
  split
  · rename_i h
    obtain ⟨y, m, d, _, e⟩ := h.choose_spec
    rw [e]; unfold dtS
    exact ((((pl_dgw _ _).app (Pl.cons (by omega) Pl.nil)).app (pl_dgw _ _)).app (Pl.cons (by omega) Pl.nil)).app (pl_dgw _ _)
  · simp [Pl]
theorem pl_how (s : Stm) : Pl (howS s) := by unfold howS; cases s.cls <;> cases s.opn <;> simp [Pl]
theorem pl_count {l : List Int} (h : Pl l) : l.count 10 = 0 := by
  rw [List.count_eq_zero]; intro hx; have := h 10 hx; omega
theorem line_count : ∀ (a : List Int) (ws : List (List Int)), (∀ w ∈ a :: ws, Pl w) → (lineS (a :: ws)).count 10 = 1 ∧ (∃ r, lineS (a :: ws) = r ++ [10]) ∧ ∀ x ∈ lineS (a :: ws), 0 ≤ x ∧ x < 256
  | a, [], h => by
    have ha := h a (by simp)
    refine ⟨by simp [lineS, pl_count ha], ⟨a, rfl⟩, fun x hx => ?_⟩
    simp only [lineS, List.mem_append, List.mem_singleton] at hx
    rcases hx with hx | rfl
    · have := ha x hx; omega
    · omega
  | a, b :: r, h => by
    have ha := h a (by simp)
    obtain ⟨h1, ⟨q, h2⟩, h3⟩ := line_count b r fun w hw => h w (by simp [hw])
    have e : lineS (a :: b :: r) = a ++ [32] ++ lineS (b :: r) := rfl
    refine ⟨?_, ⟨a ++ [32] ++ q, by rw [e, h2]; simp⟩, fun x hx => ?_⟩
    · rw [e, List.count_append, List.count_append, h1, pl_count ha]; rfl
    · rw [e] at hx
      simp only [List.mem_append, List.mem_singleton] at hx
      rcases hx with (hx | rfl) | hx
      · have := ha x hx; omega
      · omega
      · exact h3 x hx
/-- lines, one behind the other: how many, and that they end -/
def Ls (l : List Int) (n : Nat) : Prop := l.count 10 = n ∧ (l = [] ∨ ∃ r, l = r ++ [10]) ∧ ∀ x ∈ l, 0 ≤ x ∧ x < 256
theorem Ls.app {a b : List Int} {m n : Nat} (h : Ls a m) (k : Ls b n) : Ls (a ++ b) (m + n) := by
  refine ⟨by rw [List.count_append, h.1, k.1], ?_, fun x hx => ?_⟩
  · rcases k.2.1 with rfl | ⟨r, rfl⟩
    · rw [List.append_nil]; exact h.2.1
    · exact .inr ⟨a ++ r, by simp⟩
  · rcases List.mem_append.1 hx with hx | hx
    · exact h.2.2 x hx
    · exact k.2.2 x hx
theorem Ls.line {a : List Int} {ws : List (List Int)} (h : ∀ w ∈ a :: ws, Pl w) : Ls (lineS (a :: ws)) 1 := ⟨(line_count a ws h).1, .inr (line_count a ws h).2.1, (line_count a ws h).2.2⟩
theorem Ls.nil : Ls [] 0 := ⟨rfl, .inl rfl, by simp⟩
theorem ls_dues : ∀ (l : List Due), Ls (l.flatMap dueS) l.length
  | [] => Ls.nil
  | d :: r => by
    rw [List.flatMap_cons, List.length_cons, Nat.add_comm]
    refine Ls.app (Ls.line ?_) (ls_dues r)
    intro w hw
    simp only [List.mem_cons, List.not_mem_nil, or_false] at hw
    rcases hw with rfl | rfl | rfl | rfl | rfl
    · simp [Pl, wInstalment]
    · exact pl_dgi _
    · exact pl_date _
    · exact pl_money _
    · exact pl_money _
theorem ls_text (s : Stm) : Ls (textS s) (8 + s.dues.length + if s.next = 0 then 0 else 1) := by
  unfold textS
  refine Ls.app (Ls.app ?_ (ls_dues _)) ?_
  · unfold headS
    refine Ls.app (Ls.app (Ls.app (Ls.app (Ls.app (Ls.app (Ls.app (Ls.line ?_) (Ls.line ?_)) (Ls.line ?_)) (Ls.line ?_)) (Ls.line ?_)) (Ls.line ?_)) (Ls.line ?_)) (Ls.line ?_)
    all_goals
      intro w hw
      simp only [List.mem_cons, List.not_mem_nil, or_false] at hw
      rcases hw with rfl | rfl
    all_goals first
      | exact pl_date _
      | exact pl_how _
      | exact pl_money _
      | simp [Pl, wPrincipal, wAccrued, wInterest, wDue, wPenalty, wFees, wUnapplied]
  · unfold nextS
    split
    · exact Ls.nil
    · refine Ls.line ?_
      intro w hw
      simp only [List.mem_cons, List.not_mem_nil, or_false] at hw
      rcases hw with rfl | rfl | rfl
      · simp [Pl, wNext]
      · exact pl_dgi _
      · exact pl_date _
theorem head_len (s : Stm) (hs : s.ok) : (headS s).length ≤ 2000 := by
  have hdl := dateT_len s.day
  have hhl : (howS s).length ≤ 6 := by unfold howS; cases s.cls <;> cases s.opn <;> decide
  have m1 := money_len s.pri hs.pri
  have m2 := money_len s.acc hs.acc
  have m3 := money_len s.int hs.int
  have m4 := money_len s.due hs.due
  have m5 := money_len s.pen hs.pen
  have m6 := money_len s.fee hs.fee
  have m7 := money_len s.una hs.una
  simp [headS, lineS, wPrincipal, wAccrued, wInterest, wDue, wPenalty, wFees, wUnapplied]; omega
theorem dues_len : ∀ (l : List Due), (∀ d ∈ l, d.ok) → (l.flatMap dueS).length ≤ 300 * l.length
  | [], _ => by simp
  | d :: r, h => by
    have ih := dues_len r fun d hd => h d (by simp [hd])
    have hd := h d (by simp)
    have n1 := money_len d.int hd.2.2.1
    have n2 := money_len d.pri hd.2.2.2
    have n3 := dateT_len d.day
    have n4 : (dgi d.n).length ≤ 21 := dgi_len hd.1
    rw [List.flatMap_cons, List.length_append, List.length_cons]
    have : (dueS d).length ≤ 300 := by simp [dueS, lineS, wInstalment]; omega
    omega
theorem text_len (s : Stm) (hs : s.ok) : (textS s).length ≤ 100000 := by
  have h1 := head_len s hs
  have h2 := dues_len s.dues hs.dues
  have h3 := hs.len
  have k1 := dateT_len s.nday
  have k2 : (dgi s.next).length ≤ 21 := dgi_len hs.next
  have h4 : (nextS s).length ≤ 300 := by
    unfold nextS; split
    · simp
    · simp [lineS, wNext]; omega
  unfold textS
  simp only [List.length_append]; omega

theorem lines (s : Stm) (hs : ∀ x ∈ s.dues, x.ok) (h1 : I64 s.day) (h2 : I64 s.pri) (h3 : I64 s.acc) (h4 : I64 s.int) (h5 : I64 s.due) (h6 : I64 s.pen) (h7 : I64 s.fee) (h8 : I64 s.una) (h9 : I64 s.next) (h10 : I64 s.nday) :
    VCall Tryd.prog 4 [encS s .no] [] fun out _ => out = .ret (.bool true) := by
  have hlen := d_len s.dues
  unfold encS
  obtain ⟨D, hD⟩ : ∃ D, dL s.dues = D := ⟨_, rfl⟩
  rw [hD] at hlen ⊢
  refine call_fun [] 0 Tryd.func4 (by rfl) (by rfl) ?_
  conv => whnf
  (repeat' first | (refine step_go [] ?_; conv => whnf) | (refine two (fun g => ?_) (fun g => ?_) <;> (try simp only [decide_eq_true_eq, decide_eq_false_iff_not, Bool.not_eq_true', Bool.not_eq_false', beq_iff_eq, beq_eq_false_iff_ne, bne_iff_ne, bne_eq_false_iff_eq, ne_eq, gt_iff_lt, ge_iff_le, Int.not_lt, Int.not_le, Nat.not_lt, Nat.not_le, Bool.not_eq_true, Bool.not_eq_false, Decidable.not_not] at g) <;> (conv => whnf)) | (refine And.intro rfl ?_; conv => whnf) | (refine c_awake _ ?_; conv => whnf))
  have hok : s.ok := ⟨h1, h2, h3, h4, h5, h6, h7, h8, h9, h10, hs, by omega⟩
  have ht := ls_text s
  have htl := text_len s hok
  have htg := text_long s
  subst hD
  refine VCall.args (args' := [encS s .no]) (.cons (.agg ?_) .nil) rfl ?_
  · (repeat' first | exact VQs.nil | refine VQs.cons VQ.no ?_ | refine VQs.cons VQ.spare ?_ | refine VQs.cons (VQ.eq rfl) ?_)
  refine c_stext s hok .no rfl _ ?_
  conv => whnf
  (repeat (refine step_go [] ?_; conv => whnf))
  obtain ⟨L, hL⟩ : ∃ L, textS s = L := ⟨_, rfl⟩
  rw [hL] at ht htl htg ⊢
  have hsb : sB (toBA L) = L := sB_toBA ht.2.2
  have hsz : (toBA L).size = L.length := toBA_size L
  let OB : List VObj := [.cells true 24 [.int .i64 s.day, .bool s.opn, .bool s.cls, .int .i64 s.pri, .int .i64 s.acc, .int .i64 s.int, .int .i64 s.due, .int .i64 s.pen, .int .i64 s.fee, .int .i64 s.una, .sl (dL s.dues) .no, .int .i64 s.next, .int .i64 s.nday]]
  let S : Nat → St := fun i => ⟨(.undef :: .ptr 0 0 :: .bool false :: .str (toBA L) :: .int .i64 ((L.take i).count 10 : Nat) :: .int .i64 (i : Nat) :: .undef :: .undef :: .undef :: .undef :: .undef :: .undef :: .undef :: .undef :: .undef :: .undef :: .undef :: .undef :: .undef :: .undef :: .undef :: .undef :: .undef :: .undef :: .undef :: .undef :: .undef :: .undef :: .undef :: .undef :: .undef :: .undef :: .undef :: .undef :: .undef :: .undef :: .undef :: .undef :: .undef :: .undef :: .undef :: .undef :: .undef :: .undef :: .undef :: .undef :: .undef :: .undef :: .undef :: .undef :: .undef :: .undef :: .undef :: .undef :: []), OB, 0, []⟩
  refine VLoop.enter (s' := S 0) (weak_of ?_ (.cons (.eq rfl) .nil) rfl rfl rfl) (VLoop.ind S L.length ?_ ?_)
  · (repeat' first | exact VWs.nil | refine VWs.cons VW.undef ?_ | refine VWs.cons (VW.eq rfl) ?_)
  · intro i hi ih
    have hx : L[i]? = some L[i] := List.getElem?_eq_getElem hi
    have htk : (L.take (i + 1)).count 10 = (L.take i).count 10 + if L[i] = 10 then 1 else 0 := by
      rw [List.take_succ_eq_append_getElem hi, List.count_append, List.count_singleton]; simp
    have hct : (L.take i).count 10 ≤ i := Nat.le_trans List.count_le_length (List.length_take_le _ _)
    obtain ⟨x, hxx⟩ : ∃ x, L[i] = x := ⟨_, rfl⟩
    rw [hxx] at hx htk
    refine loop_round [] ?_; (conv => whnf); (repeat (refine step_go [] ?_; conv => whnf))
    refine yes (by rw [hsz]; exact decide_eq_true (by omega)) ?_; (conv => whnf); (repeat (refine step_go [] ?_; conv => whnf))
    refine idx_str (x := x) (by omega) (by rw [hsb]; simpa using hx) fun c hc => ?_
    conv => whnf
    (repeat (refine step_go [] ?_; conv => whnf))
    rw [hc]
    (repeat' first | (refine step_go [] ?_; conv => whnf) | (refine two (fun g => ?_) (fun g => ?_) <;> (try simp only [decide_eq_true_eq, decide_eq_false_iff_not, Bool.not_eq_true', Bool.not_eq_false', beq_iff_eq, beq_eq_false_iff_ne, bne_iff_ne, bne_eq_false_iff_eq, ne_eq, gt_iff_lt, ge_iff_le, Int.not_lt, Int.not_le, Nat.not_lt, Nat.not_le, Bool.not_eq_true, Bool.not_eq_false, Decidable.not_not] at g) <;> (conv => whnf)) | (refine And.intro rfl ?_; conv => whnf))
    · refine ⟨S (i + 1), weak_of ?_ (.cons (.eq rfl) .nil) rfl rfl rfl, ih⟩
      rw [if_pos g] at htk
      (repeat' first | exact VWs.nil | refine VWs.cons VW.undef ?_ | refine VWs.cons (VW.eq rfl) ?_ | refine VWs.cons (VW.eq (congrArg (V.int .i64) (by (try simp only); rw [wrap64 (by omega) (by omega)]; (try omega)))) ?_)
    · refine ⟨S (i + 1), weak_of ?_ (.cons (.eq rfl) .nil) rfl rfl rfl, ih⟩
      rw [if_neg g] at htk
      repeat' first | exact VWs.nil | refine VWs.cons VW.undef ?_ | refine VWs.cons (VW.eq rfl) ?_ | refine VWs.cons (VW.eq (congrArg (V.int .i64) (by rw [htk]; rfl))) ?_ | refine VWs.cons (VW.eq (congrArg (V.int .i64) (by rw [wrap64 (by omega) (by omega)]; omega))) ?_
  · refine loop_round [] ?_; (conv => whnf); (repeat (refine step_go [] ?_; conv => whnf))
    refine no (by rw [hsz]; simp) ?_; (conv => whnf); (repeat (refine step_go [] ?_; conv => whnf))
    refine ⟨_, Weak.refl, ?_⟩; conv => whnf
    rw [List.take_length, ht.1]
    (repeat' first | (refine step_go [] ?_; conv => whnf) | (refine two (fun g => ?_) (fun g => ?_) <;> (try simp only [decide_eq_true_eq, decide_eq_false_iff_not, Bool.not_eq_true', Bool.not_eq_false', beq_iff_eq, beq_eq_false_iff_ne, bne_iff_ne, bne_eq_false_iff_eq, ne_eq, gt_iff_lt, ge_iff_le, Int.not_lt, Int.not_le, Nat.not_lt, Nat.not_le, Bool.not_eq_true, Bool.not_eq_false, Decidable.not_not] at g) <;> (conv => whnf)) | (refine And.intro rfl ?_; conv => whnf) | (refine c_awake _ ?_; conv => whnf))
    all_goals first
      | (exfalso; omega)
      | (exfalso; rw [hlen, wrap64 (x := 8 + (s.dues.length : Int)) (by omega) (by omega)] at g; split at g <;> omega)
      | (exfalso; rw [hlen, wrap64 (x := 8 + (s.dues.length : Int)) (by omega) (by omega), wrap64 (by omega) (by omega)] at g; split at g <;> omega)
      | (refine idx_str (x := 10) (by rw [hsz, wrap64 (by omega) (by omega)]; omega) ?_ fun c hc => ?_
         · rw [hsz, wrap64 (by omega) (by omega), hsb]
           obtain ⟨r, rfl⟩ := ht.2.1.resolve_left (by rintro rfl; simp at htg)
           simp
         · conv => whnf
           (repeat (refine step_go [] ?_; conv => whnf))
           rw [hc]; rfl)
end BB16
