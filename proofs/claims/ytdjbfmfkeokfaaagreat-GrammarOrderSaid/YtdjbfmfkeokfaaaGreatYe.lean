/- Part Ye of the proof: C16 C17 C18 C19 C20 C21 C4 C22 C23 C24 C25 C26 C27 C28 C28b C28c C28d C29 C30 C31 C32 C33 CR1 CR2 CR3 CR4. -/
import Derived.Test.YtdjbfmfkeokfaaaGreatYd
import Derived.Test.YtdjbfmfkeokfaaaGreatYc
set_option linter.unusedVariables false
set_option linter.unusedSimpArgs false
set_option maxRecDepth 100000
namespace C16
open Go Go.Proofs VL D1 B10 BB6 BB10 BB14 C1 C2 C6 C10 C11 C12 C13 C14 C15
set_option maxHeartbeats 2000000 in
theorem c_rresets (p : Prod) (hp : p.ok) (hs : 1 <= p.times /\ p.times <= 600) (K : Out -> List VObj -> Prop) (h : K (.ret (.bool (pB (p.resets.length <= 20 /\ resetsP p.times none p.resets)))) []) : VCall Tryz.prog 59 [encP p] [] K := by
 have hlen := hp.lr
 have h := pB_of h
 unfold encP cellsP
 obtain ⟨T, hT⟩ : ∃ T, tL p.late = T := ⟨_, rfl⟩
 obtain ⟨H, hH⟩ : ∃ H, iL p.hol = H := ⟨_, rfl⟩
 have hrl : (rL p.resets).length = p.resets.length := by simp [rL]
 rw [hT, hH]
 refine call_fun [] 0 Tryz.func59 (by rfl) (by rfl) ?_
 conv=>whnf
 (repeat' first | (refine step_go [] ?_;conv=>whnf) | (refine two ?_ ?_<;>intro g<;>(try simp only[bsx]at g)<;>(conv=>whnf)) | (refine And.intro rfl ?_;conv=>whnf) | fail)
 let CC : List V := [.str p.name, .int .i64 p.count, .int .i64 p.rnd, .int .i64 p.kind, .int .i64 p.every, .int .i64 p.times, .int .i64 p.grace, .int .i64 p.rate, .sl (rL p.resets) .no, .int .i64 p.pen, .int .i64 p.o1, .int .i64 p.o2, .int .i64 p.o3, .int .i64 p.o4, .int .i64 p.over, .sl T .no, .int .i64 p.cap, .int .i64 p.roll, .sl H .no]
 let S : Nat -> St := fun i => ⟨(.undef :: .ptr 0 0 :: .bool false :: .int .i64 (i : Nat) :: .undef :: .undef :: .undef :: .undef :: .undef :: .undef :: .undef :: .undef :: .undef :: .undef :: .undef :: .undef :: .undef :: .undef :: .undef :: .undef :: .undef :: .undef :: .undef :: .undef :: .undef :: .undef :: .undef :: .undef :: .undef :: .undef :: .undef :: .undef :: .undef :: .undef :: .undef :: .undef :: .undef :: .undef :: .undef :: .undef :: .undef :: .undef :: .undef :: .undef :: .undef :: .undef :: .undef :: .undef :: .undef :: .undef :: []), [.cells true 28 CC], 0, []⟩
 refine VLoop.enter (s' := S 0) (weak_of (by (repeat' first | exact VWs.nil | refine VWs.cons VW.undef ?_ | refine VWs.cons (VW.eq rfl) ?_)) (.cons (.eq rfl) .nil) rfl rfl rfl)
  (VLoop.indW S (fun i => p.resets.length - i) (fun i => i <= p.resets.length /\ (resetsP p.times none p.resets ↔ resetsP p.times (pvO p.resets i) (p.resets.drop i))) ?_ 0 ⟨by omega, Iff.rfl⟩)
 rintro i ⟨hi, hinv⟩ ih
 refine loop_round [] ?_; conv=>whnf
 (repeat' first | (refine step_go [] ?_;conv=>whnf) | (refine two ?_ ?_<;>intro g<;>(try simp only[bsx, hrl]at g)<;>(conv=>whnf)) | (refine And.intro rfl ?_;conv=>whnf) | fail)
 · have hil : i < p.resets.length := by omega
   have hget : (rL p.resets)[((i : Nat) : Int).toNat]? = some (encR p.resets[i]) := by rw [Int.toNat_natCast]; simp [rL, List.getElem?_eq_getElem hil]
   have hdrop : p.resets.drop i = p.resets[i] :: p.resets.drop (i + 1) := List.drop_eq_getElem_cons hil
   obtain ⟨q, hq1, hq2⟩ := prev_ex encR p.resets i hil (by omega)
   have hpv := pvO_succ hil
   obtain ⟨d, hd⟩ : ∃ d, p.resets[i] = d := ⟨_, rfl⟩
   rw [hd] at hget hdrop hpv
   rw [hdrop] at hinv
   conv at hinv => rhs; unfold resetsP
   rw [← hpv] at hinv
   refine ⟨by omega, _, hget, rfl, ?_⟩
   have wt : IntKind.i64.wrap (p.times - 1) = p.times - 1 := wrap64 (by omega) (by omega)
   have wi : IntKind.i64.wrap ((i : Int) + 1) = ((i + 1 : Nat) : Int) := by rw [wrap64 (by omega) (by omega)]; omega
   have hst : ¬ ((1 <= d.aft /\ d.aft <= p.times - 1) /\ (0 <= d.rate /\ d.rate <= 1000000000) /\ (0 < i -> q.aft < d.aft)) -> K (.ret (.bool false)) [] := fun hh => h false ⟨fun e => (by cases e), fun h => absurd (by
    obtain ⟨a, b, c, _⟩ := hinv.1 h.2
    exact ⟨a, b, fun h0 => c q ((hq2 q).2 ⟨h0, rfl⟩)⟩) hh⟩
   have hnext : (1 <= d.aft /\ d.aft <= p.times - 1) /\ (0 <= d.rate /\ d.rate <= 1000000000) /\ (0 < i -> q.aft < d.aft) -> VLoop _ _ _ (S (i + 1)) _ := fun hh => ih (i + 1) ⟨by omega, hinv.trans ⟨fun h => h.2.2.2, fun h => ⟨hh.1, hh.2.1, fun x hx => by obtain ⟨h0, rfl⟩ := (hq2 x).1 hx; exact hh.2.2 h0, h⟩⟩⟩ (by omega)
   conv=>whnf
   (repeat' first | (refine step_go [] ?_;conv=>whnf) | (refine two ?_ ?_<;>intro g<;>(try simp only[bsx, wt]at g)<;>(conv=>whnf)) | (refine And.intro rfl ?_;conv=>whnf) | (refine dr_go (by decide +kernel) ?_;conv=>whnf) | (refine c_rwithin _ _ _ _ ?_;conv=>whnf) | (refine ⟨by rw [wrap64 (by omega) (by omega)]; omega, _, hq1 (by omega), rfl, ?_⟩;conv=>whnf) | fail)
   all_goals first
    | (refine ⟨_, Weak.refl, ?_⟩; conv=>whnf
       (repeat' first | (refine step_go [] ?_;conv=>whnf) | (refine two ?_ ?_<;>intro g<;>(try simp only[bsx]at g)<;>(conv=>whnf)) | (refine And.intro rfl ?_;conv=>whnf) | fail)
       exact hst (by omega))
    | (refine weak_sel (src := [0]) ?_; conv=>whnf
       refine VLoop.enter (s' := S (i + 1)) (weak_of (by rw [wi]; (repeat' first | exact VWs.nil | refine VWs.cons VW.undef ?_ | refine VWs.cons (VW.eq rfl) ?_)) (.cons (.eq rfl) .nil) rfl rfl rfl) (hnext (by omega)))
 · have hil : i = p.resets.length := by omega
   subst hil
   rw [List.drop_length] at hinv
   refine ⟨_, Weak.refl, ?_⟩
   conv=>whnf
   (repeat' first | (refine step_go [] ?_;conv=>whnf) | (refine two ?_ ?_<;>intro g<;>(try simp only[bsx, hrl]at g)<;>(conv=>whnf)) | (refine And.intro rfl ?_;conv=>whnf) | fail)
   refine h _ ?_
   rw [decide_eq_true_iff, hrl]
   constructor
   · exact fun hh => ⟨by omega, hinv.2 trivial⟩
   · exact fun hh => by omega
set_option maxHeartbeats 2000000 in
theorem c_rtiers (p : Prod) (hp : p.ok) (K : Out -> List VObj -> Prop) (h : K (.ret (.bool (pB (lateP p)))) []) : VCall Tryz.prog 61 [encP p] [] K := by
 have hlen := hp.ll
 have h := pB_of h
 unfold encP cellsP
 obtain ⟨T, hT⟩ : ∃ T, rL p.resets = T := ⟨_, rfl⟩
 obtain ⟨H, hH⟩ : ∃ H, iL p.hol = H := ⟨_, rfl⟩
 have hrl : (tL p.late).length = p.late.length := by simp [tL]
 rw [hT, hH]
 refine call_fun [] 0 Tryz.func61 (by rfl) (by rfl) ?_
 conv=>whnf
 (repeat' first | (refine step_go [] ?_;conv=>whnf) | (refine two ?_ ?_<;>intro g<;>(try simp only[bsx]at g)<;>(conv=>whnf)) | (refine And.intro rfl ?_;conv=>whnf) | fail)
 let CC : List V := [.str p.name, .int .i64 p.count, .int .i64 p.rnd, .int .i64 p.kind, .int .i64 p.every, .int .i64 p.times, .int .i64 p.grace, .int .i64 p.rate, .sl T .no, .int .i64 p.pen, .int .i64 p.o1, .int .i64 p.o2, .int .i64 p.o3, .int .i64 p.o4, .int .i64 p.over, .sl (tL p.late) .no, .int .i64 p.cap, .int .i64 p.roll, .sl H .no]
 let S : Nat -> St := fun i => ⟨(.undef :: .ptr 0 0 :: .bool false :: .int .i64 (i : Nat) :: .undef :: .undef :: .undef :: .undef :: .undef :: .undef :: .undef :: .undef :: .undef :: .undef :: .undef :: .undef :: .undef :: .undef :: .undef :: .undef :: .undef :: .undef :: .undef :: .undef :: .undef :: .undef :: .undef :: .undef :: .undef :: .undef :: .undef :: .undef :: .undef :: .undef :: .undef :: .undef :: .undef :: .undef :: .undef :: .undef :: .undef :: .undef :: .undef :: .undef :: .undef :: .undef :: .undef :: .undef :: .undef :: .undef :: .undef :: .undef :: .undef :: .undef :: .undef :: .undef :: .undef :: .undef :: .undef :: .undef :: .undef :: .undef :: .undef :: .undef :: .undef :: .undef :: .undef :: .undef :: .undef :: .undef :: .undef :: .undef :: .undef :: .undef :: .undef :: []), [.cells true 28 CC], 0, []⟩
 refine VLoop.enter (s' := S 0) (weak_of (by (repeat' first | exact VWs.nil | refine VWs.cons VW.undef ?_ | refine VWs.cons (VW.eq rfl) ?_)) (.cons (.eq rfl) .nil) rfl rfl rfl)
  (VLoop.indW S (fun i => p.late.length - i) (fun i => i <= p.late.length /\ (tiersP none p.late ↔ tiersP (pvO p.late i) (p.late.drop i))) ?_ 0 ⟨by omega, Iff.rfl⟩)
 rintro i ⟨hi, hinv⟩ ih
 refine loop_round [] ?_; conv=>whnf
 (repeat' first | (refine step_go [] ?_;conv=>whnf) | (refine two ?_ ?_<;>intro g<;>(try simp only[bsx, hrl]at g)<;>(conv=>whnf)) | (refine And.intro rfl ?_;conv=>whnf) | fail)
 · have hil : i < p.late.length := by omega
   have hget : (tL p.late)[((i : Nat) : Int).toNat]? = some (encT p.late[i]) := by rw [Int.toNat_natCast]; simp [tL, List.getElem?_eq_getElem hil]
   have hdrop : p.late.drop i = p.late[i] :: p.late.drop (i + 1) := List.drop_eq_getElem_cons hil
   obtain ⟨q, hq1, hq2⟩ := prev_ex encT p.late i hil (by omega)
   have hpv := pvO_succ hil
   obtain ⟨d, hd⟩ : ∃ d, p.late[i] = d := ⟨_, rfl⟩
   rw [hd] at hget hdrop hpv
   rw [hdrop] at hinv
   conv at hinv => rhs; unfold tiersP
   rw [← hpv] at hinv
   refine ⟨by omega, _, hget, rfl, ?_⟩
   have wi : IntKind.i64.wrap ((i : Int) + 1) = ((i + 1 : Nat) : Int) := by rw [wrap64 (by omega) (by omega)]; omega
   have hst : ¬ ((1 <= d.days /\ d.days <= 365) /\ (0 <= d.fee /\ d.fee <= 10000000000000) /\ (0 < i -> q.days < d.days /\ q.fee <= d.fee)) -> K (.ret (.bool false)) [] := fun hh => h false ⟨fun e => (by cases e), fun h => absurd (by
    obtain ⟨a, b, c, _⟩ := hinv.1 h.2.2.2
    exact ⟨a, b, fun h0 => c q ((hq2 q).2 ⟨h0, rfl⟩)⟩) hh⟩
   have hnext : (1 <= d.days /\ d.days <= 365) /\ (0 <= d.fee /\ d.fee <= 10000000000000) /\ (0 < i -> q.days < d.days /\ q.fee <= d.fee) -> VLoop _ _ _ (S (i + 1)) _ := fun hh => ih (i + 1) ⟨by omega, hinv.trans ⟨fun h => h.2.2.2, fun h => ⟨hh.1, hh.2.1, fun x hx => by obtain ⟨h0, rfl⟩ := (hq2 x).1 hx; exact hh.2.2 h0, h⟩⟩⟩ (by omega)
   conv=>whnf
   (repeat' first | (refine step_go [] ?_;conv=>whnf) | (refine two ?_ ?_<;>intro g<;>(try simp only[bsx]at g)<;>(conv=>whnf)) | (refine And.intro rfl ?_;conv=>whnf) | (refine dr_go (by decide +kernel) ?_;conv=>whnf) | (refine c_rwithin _ _ _ _ ?_;conv=>whnf) | (refine ⟨by rw [wrap64 (by omega) (by omega)]; omega, _, hq1 (by omega), rfl, ?_⟩;conv=>whnf) | fail)
   all_goals first
    | (refine ⟨_, Weak.refl, ?_⟩; conv=>whnf
       (repeat' first | (refine step_go [] ?_;conv=>whnf) | (refine two ?_ ?_<;>intro g<;>(try simp only[bsx]at g)<;>(conv=>whnf)) | (refine And.intro rfl ?_;conv=>whnf) | fail)
       exact hst (by omega))
    | (refine weak_sel (src := [0]) ?_; conv=>whnf
       refine VLoop.enter (s' := S (i + 1)) (weak_of (by rw [wi]; (repeat' first | exact VWs.nil | refine VWs.cons VW.undef ?_ | refine VWs.cons (VW.eq rfl) ?_)) (.cons (.eq rfl) .nil) rfl rfl rfl) (hnext (by omega)))
 · have hil : i = p.late.length := by omega
   subst hil
   rw [List.drop_length] at hinv
   refine ⟨_, Weak.refl, ?_⟩
   conv=>whnf
   have hne : p.late ≠ [] ↔ 0 < p.late.length := List.length_pos_iff.symm
   (repeat' first | (refine step_go [] ?_;conv=>whnf) | (refine two ?_ ?_<;>intro g<;>(try simp only[bsx, hrl]at g)<;>(conv=>whnf)) | (refine And.intro rfl ?_;conv=>whnf) | (refine c_rwithin _ _ _ _ ?_;conv=>whnf) | fail)
   all_goals
    refine h _ ?_
    unfold lateP
    rw [hne]
    (try rw [hrl])
    (try rw [decide_eq_true_iff])
    constructor
    · intro hh
      first
       | (cases hh; done)
       | exact ⟨by omega, by omega, by omega, hinv.2 trivial⟩
    · intro hh
      first
       | rfl
       | (exfalso; omega)
       | omega
end C16

namespace C17
open Go Go.Proofs VL D1 B10 BB6 BB10 BB14 C1 C2 C6 C10 C11 C12 C13 C14 C15 C16
theorem dIn_iff (n : Int) : dIn n = true ↔ -25567 <= n /\ n <= 84370 := by unfold dIn; simp
theorem dIn_no (n : Int) : dIn n = false ↔ ¬ (-25567 <= n /\ n <= 84370) := by rw [← dIn_iff]; simp
set_option maxHeartbeats 2000000 in
theorem c_Order (a b c d : Int) (K : Out -> List VObj -> Prop) (h : K (.ret (.bool (pB (orderP a b c d)))) []) : VCall Tryz.prog 60 [.agg [.int .i64 a, .int .i64 b, .int .i64 c, .int .i64 d]] [] K := by
 have h := pB_of h
 refine call_fun [] 0 Tryz.func60 (by rfl) (by rfl) ?_
 conv=>whnf
 (repeat' first | (refine step_go [] ?_;conv=>whnf) | (refine two ?_ ?_<;>intro g<;>(try simp only[bsx, pB_iff, pB_no, List.mem_cons, List.not_mem_nil, or_false]at g)<;>(conv=>whnf)) | (refine And.intro rfl ?_;conv=>whnf) | (refine loop_round [] ?_;conv=>whnf) | (refine ⟨_, Weak.refl, ?_⟩;conv=>whnf) | (refine VCall.args (args' := [.sl (iL [a, b, c, d]) .no, .int .i64 1]) (.cons .no (.cons (.eq rfl) .nil)) rfl (c_InI [a, b, c, d] 1 (by simp) _ ?_);conv=>whnf) | (refine VCall.args (args' := [.sl (iL [a, b, c, d]) .no, .int .i64 2]) (.cons .no (.cons (.eq rfl) .nil)) rfl (c_InI [a, b, c, d] 2 (by simp) _ ?_);conv=>whnf) | (refine VCall.args (args' := [.sl (iL [a, b, c, d]) .no, .int .i64 3]) (.cons .no (.cons (.eq rfl) .nil)) rfl (c_InI [a, b, c, d] 3 (by simp) _ ?_);conv=>whnf) | (refine VCall.args (args' := [.sl (iL [a, b, c, d]) .no, .int .i64 4]) (.cons .no (.cons (.eq rfl) .nil)) rfl (c_InI [a, b, c, d] 4 (by simp) _ ?_);conv=>whnf) | fail)
 all_goals
  refine h _ ?_
  unfold orderP
  constructor
  · intro hh
    first
     | (cases hh; done)
     | omega
  · intro hh
    first
     | rfl
     | (exfalso; omega)
set_option maxHeartbeats 2000000 in
theorem c_HRight (l : List Int) (hl : l.length < 1000000) (K : Out -> List VObj -> Prop) (h : K (.ret (.bool (pB (l.length <= 200 /\ holP none l)))) []) : VCall Tryz.prog 62 [.sl (iL l) .no] [] K := by
 have hrl := iL_len l
 have h := pB_of h
 refine call_fun [] 0 Tryz.func62 (by rfl) (by rfl) ?_
 conv=>whnf
 (repeat' first | (refine step_go [] ?_;conv=>whnf) | (refine two ?_ ?_<;>intro g<;>(try simp only[bsx]at g)<;>(conv=>whnf)) | (refine And.intro rfl ?_;conv=>whnf) | fail)
 let S : Nat -> St := fun i => ⟨(.sl (iL l) .no :: .undef :: .bool false :: .int .i64 (i : Nat) :: .undef :: .undef :: .undef :: .undef :: .undef :: .undef :: .undef :: .undef :: .undef :: .undef :: .undef :: .undef :: .undef :: .undef :: .undef :: .undef :: .undef :: .undef :: .undef :: .undef :: .undef :: .undef :: .undef :: .undef :: .undef :: .undef :: .undef :: .undef :: .undef :: .undef :: .undef :: []), [], 0, []⟩
 refine VLoop.enter (s' := S 0) (weak_of (by (repeat' first | exact VWs.nil | refine VWs.cons VW.undef ?_ | refine VWs.cons (VW.eq rfl) ?_)) .nil rfl rfl rfl)
  (VLoop.indW S (fun i => l.length - i) (fun i => i <= l.length /\ (holP none l ↔ holP (pvO l i) (l.drop i))) ?_ 0 ⟨by omega, Iff.rfl⟩)
 rintro i ⟨hi, hinv⟩ ih
 refine loop_round [] ?_; conv=>whnf
 (repeat' first | (refine step_go [] ?_;conv=>whnf) | (refine two ?_ ?_<;>intro g<;>(try simp only[bsx, hrl]at g)<;>(conv=>whnf)) | (refine And.intro rfl ?_;conv=>whnf) | fail)
 · have hil : i < l.length := by omega
   have hget := hol_get hil
   have hdrop : l.drop i = l[i] :: l.drop (i + 1) := List.drop_eq_getElem_cons hil
   obtain ⟨q, hq1, hq2⟩ := prev_ex (V.int .i64) l i hil (by omega)
   have hpv := pvO_succ hil
   obtain ⟨d, hd⟩ : ∃ d, l[i] = d := ⟨_, rfl⟩
   rw [hd] at hget hdrop hpv
   rw [hdrop] at hinv
   conv at hinv => rhs; unfold holP
   rw [← hpv] at hinv
   have wi : IntKind.i64.wrap ((i : Int) + 1) = ((i + 1 : Nat) : Int) := by rw [wrap64 (by omega) (by omega)]; omega
   have hst : ¬ ((-25567 <= d /\ d <= 84370) /\ (0 < i -> q < d)) -> K (.ret (.bool false)) [] := fun hh => h false ⟨fun e => (by cases e), fun h => absurd (by
    obtain ⟨a, c, _⟩ := hinv.1 h.2
    exact ⟨a, fun h0 => c q ((hq2 q).2 ⟨h0, rfl⟩)⟩) hh⟩
   have hnext : (-25567 <= d /\ d <= 84370) /\ (0 < i -> q < d) -> VLoop _ _ _ (S (i + 1)) _ := fun hh => ih (i + 1) ⟨by omega, hinv.trans ⟨fun h => h.2.2, fun h => ⟨hh.1, fun x hx => by obtain ⟨h0, rfl⟩ := (hq2 x).1 hx; exact hh.2 h0, h⟩⟩⟩ (by omega)
   (repeat' first | (refine step_go [] ?_;conv=>whnf) | (refine two ?_ ?_<;>intro g<;>(try simp only[bsx, dIn_iff, dIn_no]at g)<;>(conv=>whnf)) | (refine And.intro rfl ?_;conv=>whnf) | (refine dr_go (by decide +kernel) ?_;conv=>whnf) | (refine c_is _ _ ?_;conv=>whnf) | (refine ⟨by omega, _, hget, rfl, ?_⟩;conv=>whnf) | (refine ⟨by rw [wrap64 (by omega) (by omega)]; omega, _, hq1 (by omega), rfl, ?_⟩;conv=>whnf) | fail)
   all_goals first
    | (refine ⟨_, Weak.refl, ?_⟩; conv=>whnf
       (repeat' first | (refine step_go [] ?_;conv=>whnf) | (refine two ?_ ?_<;>intro g<;>(try simp only[bsx]at g)<;>(conv=>whnf)) | (refine And.intro rfl ?_;conv=>whnf) | fail)
       exact hst (by omega))
    | exact ⟨S (i + 1), weak_of (by rw [wi]; (repeat' first | exact VWs.nil | refine VWs.cons VW.undef ?_ | refine VWs.cons (VW.eq rfl) ?_)) .nil rfl rfl rfl, hnext (by omega)⟩
 · have hil : i = l.length := by omega
   subst hil
   rw [List.drop_length] at hinv
   refine ⟨_, Weak.refl, ?_⟩
   conv=>whnf
   (repeat' first | (refine step_go [] ?_;conv=>whnf) | (refine two ?_ ?_<;>intro g<;>(try simp only[bsx, hrl]at g)<;>(conv=>whnf)) | (refine And.intro rfl ?_;conv=>whnf) | fail)
   refine h _ ?_
   rw [decide_eq_true_iff, hrl]
   constructor
   · exact fun hh => ⟨by omega, hinv.2 trivial⟩
   · exact fun hh => by omega
end C17

namespace C18
open Go Go.Proofs VL D1 B10 BB6 BB10 BB14 C1 C2 C6 C10 C11 C12 C13 C14 C15 C16 C17
set_option maxHeartbeats 4000000 in
theorem c_rCheck (p : Prod) (hp : p.ok) (K : Out -> List VObj -> Prop) (h : K (.ret (.int .i64 (checkC p))) []) : VCall Tryz.prog 29 [encP p] [] K := by
 have h9 : ¬ checkP p -> K (.ret (.int .i64 9)) [] := fun hh => by unfold checkC at h; rw [if_neg hh] at h; exact h
 have h0 : checkP p -> K (.ret (.int .i64 0)) [] := fun hh => by unfold checkC at h; rw [if_pos hh] at h; exact h
 clear h
 have ht := hp.times
 unfold I64 at ht
 have hil := iL_len p.hol
 unfold encP cellsP
 refine call_fun [] 0 Tryz.func29 (by rfl) (by rfl) ?_
 conv=>whnf
 (repeat' first | (refine step_go [] ?_;conv=>whnf) | (refine two ?_ ?_<;>intro g<;>(try simp only[bsx, nameB_iff, nameB_no, pB_iff, pB_no, hil, List.mem_cons, List.not_mem_nil, or_false]at g)<;>(conv=>whnf)) | (refine And.intro rfl ?_;conv=>whnf) | (refine c_rName p.name hp.name _ ?_;conv=>whnf) | (refine c_rwithin _ _ _ _ ?_;conv=>whnf) | (refine VCall.args (args' := [.sl (iL [1, 2, 3, 4, 6, 12]) .no, .int .i64 p.every]) (.cons .no (.cons (.eq rfl) .nil)) rfl (c_InI [1, 2, 3, 4, 6, 12] p.every (by simp) _ ?_);conv=>whnf) | (refine c_rresets p hp (by omega) _ ?_;conv=>whnf) | (refine c_Order p.o1 p.o2 p.o3 p.o4 _ ?_;conv=>whnf) | (refine c_rtiers p hp _ ?_;conv=>whnf) | (refine c_HRight p.hol hp.lh _ ?_;conv=>whnf) | fail)
 all_goals first
  | (refine h0 ⟨⟨⟨by assumption, by omega, by omega, by omega⟩, by unfold shape2; assumption, by omega, ?_, by omega⟩, ⟨by omega, by omega, by assumption⟩, ⟨by assumption, by omega⟩, by assumption, ⟨by assumption, by omega, ?_⟩⟩
     · rw [wrap64 (x := p.times - 1) (by omega) (by omega)] at *; omega
     · first
        | exact .inl g
        | exact .inr (List.length_eq_zero_iff.1 (by omega)))
  | (refine h9 fun hh => ?_
     obtain ⟨⟨⟨a1, a2, a3, a4⟩, a5, a6, a7, a8⟩, ⟨b1, b2, b3⟩, ⟨c1, c2⟩, d1, e1, e2, e3⟩ := hh
     unfold shape2 at a5
     first
      | contradiction
      | omega
      | (rcases e3 with e3 | e3
         · contradiction
         · rw [e3] at g; simp at g)
      | (rw [wrap64 (x := p.times - 1) (by omega) (by omega)] at *; omega))
  | trace_state
end C18

namespace C19
open Go Go.Proofs VL D1 B10 BB4 BB5 BB6 BB10 BB14 C1 C2 C6
def DateP (y m d : Nat) : Prop := (1900 <= y /\ y <= 2200) /\ (1 <= m /\ m <= 12) /\ (1 <= d /\ d <= mlen y m)
instance (y m d : Nat) : Decidable (DateP y m d) := inferInstanceAs (Decidable (_ /\ _))
def numberD (y m d : Nat) : Int × Int := if DateP y m d then (opens y + cum y m + d - 1, 0) else (0, 5)
theorem c_month0 (y m : Nat) (h1 : m = 0 \/ 12 < m) (hm : m <= 99) (K) (h : K (.ret (.int .i64 0)) []) : VCall Tryz.prog 157 [.int .i64 (y : Int), .int .i64 (m : Int)] [] K := by
 refine call_fun [] 0 Tryz.func157 (by rfl) (by rfl) ?_
 conv=>whnf
 (repeat' first | (refine step_go [] ?_;conv=>whnf) | (refine two ?_ ?_<;>intro g<;>(try simp only[bsx]at g)<;>(conv=>whnf)) | (refine And.intro rfl ?_;conv=>whnf) | (refine ⟨_, Weak.refl, ?_⟩;conv=>whnf) | fail)
 all_goals first
  | exact h
  | (exfalso; omega)
  | trace_state
theorem c_rmonth0 (y m : Nat) (h1 : m = 0 \/ 12 < m) (hm : m <= 99) (K) (h : K (.ret (.int .i64 0)) []) : VCall Tryz.prog 96 [.int .i64 (y : Int), .int .i64 (m : Int)] [] K := by
 refine call_fun [] 0 Tryz.func96 (by rfl) (by rfl) ?_
 conv=>whnf
 (repeat' first | (refine step_go [] ?_;conv=>whnf) | (refine two ?_ ?_<;>intro g<;>(try simp only[bsx]at g)<;>(conv=>whnf)) | (refine And.intro rfl ?_;conv=>whnf) | (refine ⟨_, Weak.refl, ?_⟩;conv=>whnf) | fail)
 all_goals first
  | exact h
  | (exfalso; omega)
  | trace_state
set_option maxHeartbeats 2000000 in
theorem c_cnum (y m d : Nat) (hy : y <= 9999) (hm : m <= 99) (hd : d <= 99) (K : Out -> List VObj -> Prop) (h : K (.ret (.tup [.int .i64 (numberD y m d).1, .int .i64 (numberD y m d).2])) []) :
 VCall Tryz.prog 145 [.agg [.int .i64 (y : Int), .int .i64 (m : Int), .int .i64 (d : Int)]] [] K := by
 have hno : ¬ DateP y m d -> K (.ret (.tup [.int .i64 0, .int .i64 5])) [] := fun hh => by unfold numberD at h; rw [if_neg hh] at h; exact h
 have hyes : DateP y m d -> K (.ret (.tup [.int .i64 (opens y + cum y m + d - 1), .int .i64 0])) [] := fun hh => by unfold numberD at h; rw [if_pos hh] at h; exact h
 clear h
 have hml := mlen_le y m
 refine call_fun [] 0 Tryz.func145 (by rfl) (by rfl) ?_
 conv=>whnf
 by_cases hmr : 1 <= m /\ m <= 12
 · (repeat' first | (refine step_go [] ?_;conv=>whnf) | (refine two ?_ ?_<;>intro g<;>(try simp only[bsx]at g)<;>(conv=>whnf)) | (refine And.intro rfl ?_;conv=>whnf) | (refine dr_go (by decide +kernel) ?_;conv=>whnf) | (refine c_month y m hmr.1 hmr.2 _ ?_;conv=>whnf) | fail)
   all_goals first
    | (refine hno fun hh => ?_; unfold DateP at hh; omega)
    | skip
   have ho : -25567 <= opens y /\ opens y <= 90000 := by unfold opens; omega
   have hcm : ∀ j, j <= m -> cum y j <= 400 := fun j hj => by
    rcases Nat.eq_zero_or_pos j with rfl | h0
    · simp [cum]
    · have := cum_mono (y := y) h0 (Nat.le_trans hj hmr.2); have h12 := cum12 y; split at h12 <;> omega
   refine c_opens y (by omega) (by omega) _ ?_
   conv=>whnf
   (repeat' first | (refine step_go [] ?_;conv=>whnf) | (refine two ?_ ?_<;>intro g<;>(try simp only[bsx]at g)<;>(conv=>whnf)) | (refine And.intro rfl ?_;conv=>whnf) | (refine dr_go (by decide +kernel) ?_;conv=>whnf) | fail)
   let S : Nat -> St := fun j => ⟨(.undef :: .ptr 0 0 :: .int .i64 0 :: .int .i64 0 :: .int .i64 (opens y + (d : Nat) - 1 + (cum y j : Nat)) :: .int .i64 (j : Nat) :: .undef :: .undef :: .undef :: .undef :: .undef :: .undef :: .undef :: .undef :: .undef :: .undef :: .undef :: .undef :: .undef :: .undef :: .undef :: .undef :: .undef :: .undef :: .undef :: .undef :: .undef :: .undef :: .undef :: .undef :: .undef :: .undef :: .undef :: .undef :: .undef :: .undef :: .undef :: .undef :: .undef :: .undef :: .undef :: .undef :: .undef :: .undef :: .undef :: .undef :: .undef :: .undef :: .undef :: []), [.cells true 112 [.int .i64 (y : Int), .int .i64 (m : Int), .int .i64 (d : Int)]], 0, []⟩
   refine VLoop.enter (s' := S 1) (weak_of ?_ (.cons (.eq rfl) .nil) rfl rfl rfl)
    (VLoop.indW S (fun j => m - j) (fun j => 1 <= j /\ j <= m) ?_ 1 ⟨by omega, by omega⟩)
   · repeat' first
      | exact VWs.nil
      | refine VWs.cons VW.undef ?_
      | refine VWs.cons (VW.eq rfl) ?_
      | refine VWs.cons (VW.eq (congrArg (V.int .i64) (by rw [wrap64 (x := opens y + (d : Int)) (by omega) (by omega), wrap64 (by omega) (by omega)]; simp [cum]))) ?_
   rintro j ⟨hj1, hj⟩ ih
   have hcj := hcm j hj
   refine loop_round [] ?_; conv=>whnf
   (repeat' first | (refine step_go [] ?_;conv=>whnf) | (refine two ?_ ?_<;>intro g<;>(try simp only[bsx]at g)<;>(conv=>whnf)) | (refine And.intro rfl ?_;conv=>whnf) | (refine dr_go (by decide +kernel) ?_;conv=>whnf) | (refine c_month y j hj1 (by omega) _ ?_;conv=>whnf) | fail)
   · have hcs := cum_step (y := y) hj1
     have hmj := mlen_le y j
     have wj : IntKind.i64.wrap ((j : Int) + 1) = ((j + 1 : Nat) : Int) := by rw [wrap64 (by omega) (by omega)]; omega
     have wn : IntKind.i64.wrap (opens y + (d : Nat) - 1 + (cum y j : Nat) + (mlen y j : Nat)) = opens y + (d : Nat) - 1 + (cum y (j + 1) : Nat) := by rw [wrap64 (by omega) (by omega), hcs]; omega
     exact ⟨S (j + 1), weak_of (by rw [wj, wn]; (repeat' first | exact VWs.nil | refine VWs.cons VW.undef ?_ | refine VWs.cons (VW.eq rfl) ?_)) (.cons (.eq rfl) .nil) rfl rfl rfl, ih (j + 1) ⟨by omega, by omega⟩ (by omega)⟩
   · have hjm : j = m := by omega
     subst hjm
     refine ⟨_, Weak.refl, ?_⟩; conv=>whnf
     (repeat' first | (refine step_go [] ?_;conv=>whnf) | (refine two ?_ ?_<;>intro g<;>(try simp only[bsx]at g)<;>(conv=>whnf)) | (refine And.intro rfl ?_;conv=>whnf) | (refine dr_go (by decide +kernel) ?_;conv=>whnf) | fail)
     refine Eq.mp (congrArg (fun v => K (.ret (.tup [.int .i64 v, .int .i64 0])) []) ?_) (hyes ⟨by omega, by omega, by omega⟩)
     omega
 · (repeat' first | (refine step_go [] ?_;conv=>whnf) | (refine two ?_ ?_<;>intro g<;>(try simp only[bsx]at g)<;>(conv=>whnf)) | (refine And.intro rfl ?_;conv=>whnf) | (refine dr_go (by decide +kernel) ?_;conv=>whnf) | (refine c_month0 y m (by omega) hm _ ?_;conv=>whnf) | fail)
   all_goals first
    | (refine hno fun hh => ?_; unfold DateP at hh; omega)
    | (exfalso; omega)
    | trace_state
set_option maxHeartbeats 2000000 in
theorem c_rnum (y m d : Nat) (hy : y <= 9999) (hm : m <= 99) (hd : d <= 99) (K : Out -> List VObj -> Prop) (h : K (.ret (.tup [.int .i64 (numberD y m d).1, .int .i64 (numberD y m d).2])) []) :
 VCall Tryz.prog 130 [.agg [.int .i64 (y : Int), .int .i64 (m : Int), .int .i64 (d : Int)]] [] K := by
 have hno : ¬ DateP y m d -> K (.ret (.tup [.int .i64 0, .int .i64 5])) [] := fun hh => by unfold numberD at h; rw [if_neg hh] at h; exact h
 have hyes : DateP y m d -> K (.ret (.tup [.int .i64 (opens y + cum y m + d - 1), .int .i64 0])) [] := fun hh => by unfold numberD at h; rw [if_pos hh] at h; exact h
 clear h
 have hml := mlen_le y m
 refine call_fun [] 0 Tryz.func130 (by rfl) (by rfl) ?_
 conv=>whnf
 by_cases hmr : 1 <= m /\ m <= 12
 · (repeat' first | (refine step_go [] ?_;conv=>whnf) | (refine two ?_ ?_<;>intro g<;>(try simp only[bsx]at g)<;>(conv=>whnf)) | (refine And.intro rfl ?_;conv=>whnf) | (refine dr_go (by decide +kernel) ?_;conv=>whnf) | (refine c_rmonth y m hmr.1 hmr.2 _ ?_;conv=>whnf) | fail)
   all_goals first
    | (refine hno fun hh => ?_; unfold DateP at hh; omega)
    | skip
   have ho : -25567 <= opens y /\ opens y <= 90000 := by unfold opens; omega
   have hcm : ∀ j, j <= m -> cum y j <= 400 := fun j hj => by
    rcases Nat.eq_zero_or_pos j with rfl | h0
    · simp [cum]
    · have := cum_mono (y := y) h0 (Nat.le_trans hj hmr.2); have h12 := cum12 y; split at h12 <;> omega
   refine c_before y (by omega) (by omega) _ ?_
   conv=>whnf
   (repeat' first | (refine step_go [] ?_;conv=>whnf) | (refine two ?_ ?_<;>intro g<;>(try simp only[bsx]at g)<;>(conv=>whnf)) | (refine And.intro rfl ?_;conv=>whnf) | (refine dr_go (by decide +kernel) ?_;conv=>whnf) | fail)
   let S : Nat -> St := fun j => ⟨(.undef :: .ptr 0 0 :: .int .i64 0 :: .int .i64 0 :: .int .i64 (opens y + (d : Nat) - 1 + (cum y j : Nat)) :: .int .i64 (j : Nat) :: .undef :: .undef :: .undef :: .undef :: .undef :: .undef :: .undef :: .undef :: .undef :: .undef :: .undef :: .undef :: .undef :: .undef :: .undef :: .undef :: .undef :: .undef :: .undef :: .undef :: .undef :: .undef :: .undef :: .undef :: .undef :: .undef :: .undef :: .undef :: .undef :: .undef :: .undef :: .undef :: .undef :: .undef :: .undef :: .undef :: .undef :: .undef :: .undef :: .undef :: .undef :: .undef :: .undef :: .undef :: []), [.cells true 112 [.int .i64 (y : Int), .int .i64 (m : Int), .int .i64 (d : Int)]], 0, []⟩
   refine VLoop.enter (s' := S 1) (weak_of ?_ (.cons (.eq rfl) .nil) rfl rfl rfl)
    (VLoop.indW S (fun j => m - j) (fun j => 1 <= j /\ j <= m) ?_ 1 ⟨by omega, by omega⟩)
   · repeat' first
      | exact VWs.nil
      | refine VWs.cons VW.undef ?_
      | refine VWs.cons (VW.eq rfl) ?_
      | refine VWs.cons (VW.eq (congrArg (V.int .i64) (by rw [wrap64 (x := -25567 + (opens y + 25567)) (by omega) (by omega), wrap64 (x := -25567 + (opens y + 25567) + (d : Int)) (by omega) (by omega), wrap64 (by omega) (by omega)]; simp [cum]; omega))) ?_
   rintro j ⟨hj1, hj⟩ ih
   have hcj := hcm j hj
   refine loop_round [] ?_; conv=>whnf
   (repeat' first | (refine step_go [] ?_;conv=>whnf) | (refine two ?_ ?_<;>intro g<;>(try simp only[bsx]at g)<;>(conv=>whnf)) | (refine And.intro rfl ?_;conv=>whnf) | (refine dr_go (by decide +kernel) ?_;conv=>whnf) | (refine c_rmonth y j hj1 (by omega) _ ?_;conv=>whnf) | fail)
   · have hcs := cum_step (y := y) hj1
     have hmj := mlen_le y j
     have wj : IntKind.i64.wrap ((j : Int) + 1) = ((j + 1 : Nat) : Int) := by rw [wrap64 (by omega) (by omega)]; omega
     have wn : IntKind.i64.wrap (opens y + (d : Nat) - 1 + (cum y j : Nat) + (mlen y j : Nat)) = opens y + (d : Nat) - 1 + (cum y (j + 1) : Nat) := by rw [wrap64 (by omega) (by omega), hcs]; omega
     exact ⟨S (j + 1), weak_of (by rw [wj, wn]; (repeat' first | exact VWs.nil | refine VWs.cons VW.undef ?_ | refine VWs.cons (VW.eq rfl) ?_)) (.cons (.eq rfl) .nil) rfl rfl rfl, ih (j + 1) ⟨by omega, by omega⟩ (by omega)⟩
   · have hjm : j = m := by omega
     subst hjm
     refine ⟨_, Weak.refl, ?_⟩; conv=>whnf
     (repeat' first | (refine step_go [] ?_;conv=>whnf) | (refine two ?_ ?_<;>intro g<;>(try simp only[bsx]at g)<;>(conv=>whnf)) | (refine And.intro rfl ?_;conv=>whnf) | (refine dr_go (by decide +kernel) ?_;conv=>whnf) | fail)
     refine Eq.mp (congrArg (fun v => K (.ret (.tup [.int .i64 v, .int .i64 0])) []) ?_) (hyes ⟨by omega, by omega, by omega⟩)
     omega
 · (repeat' first | (refine step_go [] ?_;conv=>whnf) | (refine two ?_ ?_<;>intro g<;>(try simp only[bsx]at g)<;>(conv=>whnf)) | (refine And.intro rfl ?_;conv=>whnf) | (refine dr_go (by decide +kernel) ?_;conv=>whnf) | (refine c_rmonth0 y m (by omega) hm _ ?_;conv=>whnf) | fail)
   all_goals first
    | (refine hno fun hh => ?_; unfold DateP at hh; omega)
    | (exfalso; omega)
    | trace_state
end C19

namespace C20
open Go Go.Proofs VL D1 B10 BB4 BB5 BB6 BB10 BB14 C1 C2 C6 C19
set_option maxHeartbeats 2000000 in
theorem c_digs (s : ByteArray) (hs : s.size < 1000000) (a b : Nat) (hab : a <= b) (hb : b <= s.size) (h4 : b <= a + 4) (K : Out -> List VObj -> Prop)
 (h0 : (∀ x ∈ ((sB s).take b).drop a, Dig x) -> K (.ret (.tup [.int .i64 (vl (((sB s).take b).drop a) : Nat), .bool true])) [])
 (h1 : ¬ (∀ x ∈ ((sB s).take b).drop a, Dig x) -> K (.ret (.tup [.int .i64 0, .bool false])) []) :
 VCall Tryz.prog 144 [.agg [.str s], .int .i64 (a : Int), .int .i64 (b : Int)] [] K := by
 have hsl := sB_len s
 refine call_fun [] 0 Tryz.func144 (by rfl) (by rfl) ?_
 conv=>whnf
 (repeat' first | (refine step_go [] ?_;conv=>whnf) | (refine two ?_ ?_<;>intro g<;>(try simp only[bsx]at g)<;>(conv=>whnf)) | (refine And.intro rfl ?_;conv=>whnf) | (refine dr_go (by decide +kernel) ?_;conv=>whnf) | fail)
 refine ⟨by omega, by omega, by omega, ?_⟩
 conv=>whnf
 (repeat' first | (refine step_go [] ?_;conv=>whnf) | (refine two ?_ ?_<;>intro g<;>(try simp only[bsx]at g)<;>(conv=>whnf)) | (refine And.intro rfl ?_;conv=>whnf) | (refine dr_go (by decide +kernel) ?_;conv=>whnf) | fail)
 obtain ⟨l, hl⟩ : ∃ l, ((sB s).take b).drop a = l := ⟨_, rfl⟩
 rw [hl] at h0 h1
 have hll : l.length = b - a := by rw [← hl]; simp; omega
 rw [bytesV_eq, Int.toNat_natCast, Int.toNat_natCast, sB_ext, hl]
 let S : Nat -> St := fun i => ⟨(.undef :: .undef :: .undef :: .ptr 0 0 :: .undef :: .undef :: .int .i64 0 :: .bool false :: .int .i64 (vl (l.take i) : Nat) :: .undef :: .undef :: .undef :: .undef :: .undef :: .undef :: .undef :: .sl (bL l) .no :: .int .i64 (l.length : Nat) :: .int .i64 (i : Nat) :: .undef :: .undef :: .undef :: .undef :: .undef :: .undef :: .undef :: .undef :: .undef :: .undef :: .undef :: .undef :: .undef :: .undef :: .undef :: .undef :: .undef :: []), [.cells true 160 [.str s]], 0, []⟩
 refine VLoop.enter (s' := S 0) (weak_of ?_ (.cons (.eq rfl) .nil) rfl rfl rfl)
  (VLoop.indW S (fun i => l.length - i) (fun i => i <= l.length /\ ∀ x ∈ l.take i, Dig x) ?_ 0 ⟨by omega, by simp⟩)
 · repeat' first
    | exact VWs.nil
    | refine VWs.cons VW.undef ?_
    | refine VWs.cons (VW.eq rfl) ?_
    | refine VWs.cons VW.no ?_
    | refine VWs.cons (VW.eq (by rw [bL_len])) ?_
 rintro i ⟨hi, hinv⟩ ih
 refine loop_round [] ?_; conv=>whnf
 (repeat' first | (refine step_go [] ?_;conv=>whnf) | (refine two ?_ ?_<;>intro g<;>(try simp only[bsx]at g)<;>(conv=>whnf)) | (refine And.intro rfl ?_;conv=>whnf) | fail)
 · have hil : i < l.length := by omega
   have hx : l[i]? = some l[i] := List.getElem?_eq_getElem hil
   have hmem : l[i] ∈ l := List.getElem_mem _
   obtain ⟨x, hxx⟩ : ∃ x, l[i] = x := ⟨_, rfl⟩
   have htk : l.take (i + 1) = l.take i ++ [x] := by rw [List.take_succ_eq_append_getElem hil, hxx]
   rw [hxx] at hx hmem
   have hget : (bL l)[((i : Nat) : Int).toNat]? = some (.int .u8 x) := by rw [Int.toNat_natCast, bL_get, hx]; rfl
   have wi : IntKind.i64.wrap ((i : Int) + 1) = ((i + 1 : Nat) : Int) := by rw [wrap64 (by omega) (by omega)]; omega
   have hbd := vl_lt (l.take i) hinv
   have hp : 10 ^ (l.take i).length <= 10 ^ 4 := Nat.pow_le_pow_right (by omega) (by simp; omega)
   have hst : ¬ Dig x -> K (.ret (.tup [.int .i64 0, .bool false])) [] := fun hx2 => h1 fun hh => hx2 (hh x hmem)
   unfold Dig at hst
   refine ⟨by omega, _, hget, rfl, ?_⟩
   conv=>whnf
   (repeat' first | (refine step_go [] ?_;conv=>whnf) | (refine two ?_ ?_<;>intro g<;>(try simp only[bsx]at g)<;>(conv=>whnf)) | (refine And.intro rfl ?_;conv=>whnf) | fail)
   all_goals first
    | (refine ⟨_, Weak.refl, ?_⟩; conv=>whnf
       (repeat' first | (refine step_go [] ?_;conv=>whnf) | (refine two ?_ ?_<;>intro g<;>(try simp only[bsx]at g)<;>(conv=>whnf)) | (refine And.intro rfl ?_;conv=>whnf) | fail)
       exact hst (by omega))
    | skip
   have wn : IntKind.i64.wrap (IntKind.i64.wrap (10 * ((vl (l.take i) : Nat) : Int)) + IntKind.i64.wrap (IntKind.u8.wrap (x - 48))) = (vl (l.take (i + 1)) : Nat) := by
    rw [show IntKind.u8.wrap (x - 48) = x - 48 by rw [IntKind.wrap_u8]; omega, wrap64 (x := x - 48) (by omega) (by omega), wrap64 (x := 10 * ((vl (l.take i) : Nat) : Int)) (by omega) (by omega), wrap64 (by omega) (by omega), htk, vl_snoc]; omega
   exact ⟨S (i + 1), weak_of (by rw [wi, wn]; (repeat' first | exact VWs.nil | refine VWs.cons VW.undef ?_ | refine VWs.cons (VW.eq rfl) ?_)) (.cons (.eq rfl) .nil) rfl rfl rfl, ih (i + 1) ⟨by omega, fun y hy => by
    rw [htk] at hy
    rcases List.mem_append.1 hy with hy | hy
    · exact hinv y hy
    · rw [List.mem_singleton.1 hy]; unfold Dig; omega⟩ (by omega)⟩
 · have hil : i = l.length := by omega
   subst hil
   rw [List.take_length] at hinv
   have h0 := h0 hinv
   refine ⟨_, Weak.refl, ?_⟩; conv=>whnf
   rw [List.take_length]
   (repeat' first | (refine step_go [] ?_;conv=>whnf) | (refine two ?_ ?_<;>intro g<;>(try simp only[bsx]at g)<;>(conv=>whnf)) | (refine And.intro rfl ?_;conv=>whnf) | fail)
   exact h0
def dateF (l : List Int) : Prop := (l.length = 10 /\ l[4]? = some 45 /\ l[7]? = some 45) /\ (∀ x ∈ (l.take 4).drop 0, Dig x) /\ (∀ x ∈ (l.take 7).drop 5, Dig x) /\ ∀ x ∈ (l.take 10).drop 8, Dig x
noncomputable instance (l : List Int) : Decidable (dateF l) := Classical.propDecidable _
noncomputable def takeD (l : List Int) : Int × Int := if dateF l then numberD (vl ((l.take 4).drop 0)) (vl ((l.take 7).drop 5)) (vl ((l.take 10).drop 8)) else (0, 4)
set_option maxHeartbeats 2000000 in
theorem c_Take (s : ByteArray) (hs : s.size < 1000000) (K : Out -> List VObj -> Prop) (h : K (.ret (.tup [.int .i64 (takeD (sB s)).1, .int .i64 (takeD (sB s)).2])) []) : VCall Tryz.prog 128 [.str s] [] K := by
 have hsl := sB_len s
 have hno : ¬ dateF (sB s) -> K (.ret (.tup [.int .i64 0, .int .i64 4])) [] := fun hh => by unfold takeD at h; rw [if_neg hh] at h; exact h
 have hyes : dateF (sB s) -> K (.ret (.tup [.int .i64 (numberD (vl (((sB s).take 4).drop 0)) (vl (((sB s).take 7).drop 5)) (vl (((sB s).take 10).drop 8))).1, .int .i64 (numberD (vl (((sB s).take 4).drop 0)) (vl (((sB s).take 7).drop 5)) (vl (((sB s).take 10).drop 8))).2])) [] := fun hh => by unfold takeD at h; rw [if_pos hh] at h; exact h
 clear h
 refine call_fun [] 0 Tryz.func128 (by rfl) (by rfl) ?_
 conv=>whnf
 (repeat' first | (refine step_go [] ?_;conv=>whnf) | (refine two ?_ ?_<;>intro g<;>(try simp only[bsx]at g)<;>(conv=>whnf)) | (refine And.intro rfl ?_;conv=>whnf) | fail)
 · exact hno fun hh => by have := hh.1.1; omega
 have hsz : s.size = 10 := by omega
 have hg : ∀ i, i < 10 -> (sB s)[i]? = some ((sB s).getD i 0) := fun i hi => by rw [List.getD_eq_getElem?_getD, List.getElem?_eq_getElem (by omega)]; rfl
 have h4 := hg 4 (by omega)
 have h7 := hg 7 (by omega)
 obtain ⟨c, hc⟩ : ∃ c, (sB s).getD 4 0 = c := ⟨_, rfl⟩
 obtain ⟨e, he⟩ : ∃ e, (sB s).getD 7 0 = e := ⟨_, rfl⟩
 rw [hc] at h4
 rw [he] at h7
 refine idx_str (x := c) (by decide) h4 fun b hb => ?_
 conv=>whnf
 (repeat (refine step_go [] ?_;conv=>whnf))
 rw [hb]
 clear hb b
 (repeat' first | (refine step_go [] ?_;conv=>whnf) | (refine two ?_ ?_<;>intro g<;>(try simp only[bsx]at g)<;>(conv=>whnf)) | (refine And.intro rfl ?_;conv=>whnf) | fail)
 · exact hno fun hh => by have := hh.1.2.1; rw [h4] at this; exact g (Option.some.inj this)
 refine idx_str (x := e) (by decide) h7 fun b hb => ?_
 conv=>whnf
 (repeat (refine step_go [] ?_;conv=>whnf))
 rw [hb]
 clear hb b
 (repeat' first | (refine step_go [] ?_;conv=>whnf) | (refine two ?_ ?_<;>intro g<;>(try simp only[bsx]at g)<;>(conv=>whnf)) | (refine And.intro rfl ?_;conv=>whnf) | fail)
 · exact hno fun hh => by have := hh.1.2.2; rw [h7] at this; exact g (Option.some.inj this)
 have l1 : (((sB s).take 4).drop 0).length = 4 := by simp; omega
 have l2 : (((sB s).take 7).drop 5).length = 2 := by simp; omega
 have l3 : (((sB s).take 10).drop 8).length = 2 := by simp; omega
 refine c_digs s hs 0 4 (by omega) (by omega) (by omega) _ (fun a1 => ?_) (fun a1 => ?_)
 all_goals
  conv=>whnf
  (repeat' first | (refine step_go [] ?_;conv=>whnf) | (refine two ?_ ?_<;>intro g<;>(try simp only[bsx]at g)<;>(conv=>whnf)) | (refine And.intro rfl ?_;conv=>whnf) | fail)
  refine c_digs s hs 5 7 (by omega) (by omega) (by omega) _ (fun a2 => ?_) (fun a2 => ?_)
  all_goals
   conv=>whnf
   (repeat' first | (refine step_go [] ?_;conv=>whnf) | (refine two ?_ ?_<;>intro g<;>(try simp only[bsx]at g)<;>(conv=>whnf)) | (refine And.intro rfl ?_;conv=>whnf) | fail)
   refine c_digs s hs 8 10 (by omega) (by omega) (by omega) _ (fun a3 => ?_) (fun a3 => ?_)
   all_goals
    conv=>whnf
    (repeat' first | (refine step_go [] ?_;conv=>whnf) | (refine two ?_ ?_<;>intro g<;>(try simp only[bsx]at g)<;>(conv=>whnf)) | (refine And.intro rfl ?_;conv=>whnf) | fail)
    first
     | exact hno fun hh => a1 hh.2.1
     | exact hno fun hh => a2 hh.2.2.1
     | exact hno fun hh => a3 hh.2.2.2
     | (have b1 := vl_lt _ a1
        have b2 := vl_lt _ a2
        have b3 := vl_lt _ a3
        rw [l1] at b1
        rw [l2] at b2
        rw [l3] at b3
        refine c_cnum _ _ _ (by omega) (by omega) (by omega) _ ?_
        conv=>whnf
        (repeat' first | (refine step_go [] ?_;conv=>whnf) | (refine two ?_ ?_<;>intro g<;>(try simp only[bsx]at g)<;>(conv=>whnf)) | (refine And.intro rfl ?_;conv=>whnf) | fail)
        exact hyes ⟨⟨by omega, by rw [h4]; congr 1, by rw [h7]; congr 1⟩, a1, a2, a3⟩)
end C20

namespace C21
open Go Go.Proofs VL D1 B10 BB4 BB5 BB6 BB10 BB14 C1 C2 C6 C19 C20
theorem list10 {l : List Int} (h : l.length = 10) : ∃ a b c d e f g h i j, l = [a, b, c, d, e, f, g, h, i, j] := by
 match l, h with
 | [a, b, c, d, e, f, g, h, i, j], _ => exact ⟨a, b, c, d, e, f, g, h, i, j, rfl⟩
theorem dstep {v x : Int} (h0 : 0 <= v) (h1 : v <= 100000) (hx : 48 <= x /\ x <= 57) : IntKind.i64.wrap (IntKind.i64.wrap (10 * v) + IntKind.i64.wrap (IntKind.u8.wrap (x - 48))) = 10 * v + (x - 48) := by
 rw [show IntKind.u8.wrap (x - 48) = x - 48 by rw [IntKind.wrap_u8]; omega, wrap64 (x := x - 48) (by omega) (by omega), wrap64 (x := 10 * v) (by omega) (by omega), wrap64 (by omega) (by omega)]
set_option maxHeartbeats 4000000 in
theorem c_rTake (s : ByteArray) (hs : s.size < 1000000) (K : Out -> List VObj -> Prop) (h : K (.ret (.tup [.int .i64 (takeD (sB s)).1, .int .i64 (takeD (sB s)).2])) []) : VCall Tryz.prog 119 [.str s] [] K := by
 have hsl := sB_len s
 have hno : ¬ dateF (sB s) -> K (.ret (.tup [.int .i64 0, .int .i64 4])) [] := fun hh => by unfold takeD at h; rw [if_neg hh] at h; exact h
 have hyes : dateF (sB s) -> K (.ret (.tup [.int .i64 (numberD (vl (((sB s).take 4).drop 0)) (vl (((sB s).take 7).drop 5)) (vl (((sB s).take 10).drop 8))).1, .int .i64 (numberD (vl (((sB s).take 4).drop 0)) (vl (((sB s).take 7).drop 5)) (vl (((sB s).take 10).drop 8))).2])) [] := fun hh => by unfold takeD at h; rw [if_pos hh] at h; exact h
 clear h
 refine call_fun [] 0 Tryz.func119 (by rfl) (by rfl) ?_
 conv=>whnf
 (repeat' first | (refine step_go [] ?_;conv=>whnf) | (refine two ?_ ?_<;>intro g<;>(try simp only[bsx]at g)<;>(conv=>whnf)) | (refine And.intro rfl ?_;conv=>whnf) | fail)
 · exact hno fun hh => by have := hh.1.1; omega
 have hsz : s.size = 10 := by omega
 obtain ⟨x0, x1, x2, x3, x4, x5, x6, x7, x8, x9, hl⟩ := list10 (l := sB s) (by omega)
 have hF : dateF (sB s) ↔ (x4 = 45 /\ x7 = 45) /\ (Dig x0 /\ Dig x1 /\ Dig x2 /\ Dig x3) /\ (Dig x5 /\ Dig x6) /\ Dig x8 /\ Dig x9 := by
  rw [hl]; unfold dateF; simp
 rw [hF] at hno hyes
 rw [hl] at hyes
 unfold Dig at hno hyes
 (repeat' first | (refine step_go [] ?_;conv=>whnf) | (refine two ?_ ?_<;>intro g<;>(try simp only[bsx]at g)<;>(conv=>whnf)) | (refine And.intro rfl ?_;conv=>whnf) | (refine loop_round [] ?_;conv=>whnf) | (refine ⟨_, Weak.refl, ?_⟩;conv=>whnf) | (refine ⟨by decide, by decide, ?_⟩;conv=>whnf) | (refine idx_str (x := _) (by decide) (by rw [hl]; rfl) fun b hb => ?_; (conv=>whnf); (repeat (refine step_go [] ?_;conv=>whnf)); rw [hb]; clear hb b) | fail)
 all_goals first
  | (refine hno fun hh => ?_; omega)
  | skip
 rw [dstep (v := 0) (x := x0) (by omega) (by omega) (by omega), dstep (v := 10 * 0 + (x0 - 48)) (x := x1) (by omega) (by omega) (by omega), dstep (v := 10 * (10 * 0 + (x0 - 48)) + (x1 - 48)) (x := x2) (by omega) (by omega) (by omega), dstep (v := 10 * (10 * (10 * 0 + (x0 - 48)) + (x1 - 48)) + (x2 - 48)) (x := x3) (by omega) (by omega) (by omega),
  dstep (v := 0) (x := x5) (by omega) (by omega) (by omega), dstep (v := 10 * 0 + (x5 - 48)) (x := x6) (by omega) (by omega) (by omega), dstep (v := 0) (x := x8) (by omega) (by omega) (by omega), dstep (v := 10 * 0 + (x8 - 48)) (x := x9) (by omega) (by omega) (by omega)]
 have hyes := hyes (by omega)
 have e1 : 10 * (10 * (10 * (10 * 0 + (x0 - 48)) + (x1 - 48)) + (x2 - 48)) + (x3 - 48) = ((vl (([x0, x1, x2, x3, x4, x5, x6, x7, x8, x9].take 4).drop 0) : Nat) : Int) := by simp [vl]; omega
 have e2 : 10 * (10 * 0 + (x5 - 48)) + (x6 - 48) = ((vl (([x0, x1, x2, x3, x4, x5, x6, x7, x8, x9].take 7).drop 5) : Nat) : Int) := by simp [vl]; omega
 have e3 : 10 * (10 * 0 + (x8 - 48)) + (x9 - 48) = ((vl (([x0, x1, x2, x3, x4, x5, x6, x7, x8, x9].take 10).drop 8) : Nat) : Int) := by simp [vl]; omega
 rw [e1, e2, e3]
 refine c_rnum _ _ _ (by omega) (by omega) (by omega) _ ?_
 conv=>whnf
 (repeat' first | (refine step_go [] ?_;conv=>whnf) | (refine two ?_ ?_<;>intro g<;>(try simp only[bsx]at g)<;>(conv=>whnf)) | (refine And.intro rfl ?_;conv=>whnf) | fail)
 exact hyes
end C21

namespace C4
open Go Go.Proofs VL D1 B10 B12 B13 BB4 BB5 BB6 BB9 BB10 BB14 C1 C2 C3 C6 C19 C20
inductive Res (α : Type) where
 | ok (a : α) (r : List C3.Tok)
 | err (p : Nat) (e : Int)
def Res.bind {α β : Type} (x : Res α) (f : α -> List C3.Tok -> Res β) : Res β := match x with
 | .ok a r => f a r
 | .err p e => .err p e
def nextT : List C3.Tok -> C3.Tok × List C3.Tok
 | [] => (⟨0, 0, []⟩, [])
 | t :: r => if t.kind = 0 then (t, t :: r) else (t, r)
def wantS (k : Int) (w : List Int) (l : List C3.Tok) : Res C3.Tok := if (nextT l).1.kind = k /\ (w = [] \/ (nextT l).1.text = w) then .ok (nextT l).1 (nextT l).2 else .err (nextT l).1.at_ 7
def numS (l : List Int) : Option Int := if (∀ x ∈ l, Dig x) /\ l.length <= 9 /\ (2 <= l.length -> l.head? ≠ some 48) then some (vl l) else none
def numberS (l : List C3.Tok) : Res Int := (wantS 2 [] l).bind fun t r => match numS t.text with
 | some n => .ok n r
 | none => .err t.at_ 7
def takenS (f : List Int -> Int × Int) (l : List C3.Tok) : Res Int := (wantS 2 [] l).bind fun t r => if (f t.text).2 = 0 then .ok (f t.text).1 r else .err t.at_ 7
def pickS (ws : List (List Int)) (l : List C3.Tok) : Res Int := (wantS 1 [] l).bind fun t r => if t.text ∈ ws then .ok (ws.idxOf t.text + 1 : Nat) r else .err t.at_ 7
def w_count : List Int := [99, 111, 117, 110, 116]
def w_round : List Int := [114, 111, 117, 110, 100]
def w_kind : List Int := [107, 105, 110, 100]
def w_every : List Int := [101, 118, 101, 114, 121]
def w_times : List Int := [116, 105, 109, 101, 115]
def w_grace : List Int := [103, 114, 97, 99, 101]
def w_rate : List Int := [114, 97, 116, 101]
def w_penalty : List Int := [112, 101, 110, 97, 108, 116, 121]
def w_reset : List Int := [114, 101, 115, 101, 116]
def w_late : List Int := [108, 97, 116, 101]
def w_cap : List Int := [99, 97, 112]
def w_holiday : List Int := [104, 111, 108, 105, 100, 97, 121]
def w_order : List Int := [111, 114, 100, 101, 114]
def w_over : List Int := [111, 118, 101, 114]
def w_roll : List Int := [114, 111, 108, 108]
def w_thirty : List Int := [116, 104, 105, 114, 116, 121]
def w_fixed : List Int := [102, 105, 120, 101, 100]
def w_actual : List Int := [97, 99, 116, 117, 97, 108]
def w_half_up : List Int := [104, 97, 108, 102, 45, 117, 112]
def w_down : List Int := [100, 111, 119, 110]
def w_annuity : List Int := [97, 110, 110, 117, 105, 116, 121]
def w_equal : List Int := [101, 113, 117, 97, 108]
def w_bullet : List Int := [98, 117, 108, 108, 101, 116]
def w_fees : List Int := [102, 101, 101, 115]
def w_interest : List Int := [105, 110, 116, 101, 114, 101, 115, 116]
def w_principal : List Int := [112, 114, 105, 110, 99, 105, 112, 97, 108]
def w_hold : List Int := [104, 111, 108, 100]
def w_prepay : List Int := [112, 114, 101, 112, 97, 121]
def w_refund : List Int := [114, 101, 102, 117, 110, 100]
def w_stay : List Int := [115, 116, 97, 121]
def w_next : List Int := [110, 101, 120, 116]
def w_within : List Int := [119, 105, 116, 104, 105, 110]
def w_previous : List Int := [112, 114, 101, 118, 105, 111, 117, 115]
def w_product : List Int := [112, 114, 111, 100, 117, 99, 116]
def owords : List (List Int) := [w_fees, w_penalty, w_interest, w_principal]
def orderN : Nat -> List Int -> List C3.Tok -> Res (List Int)
 | 0, acc, l => .ok acc l
 | n + 1, acc, l => (pickS owords l).bind fun k r => if k ∈ acc then .err (nextT l).1.at_ 7 else orderN n (acc ++ [k]) r
def manyW (w : List Int) : Bool := w == w_reset || w == w_late || w == w_holiday
noncomputable def clauseS (w : List Int) (p : Prod) (l : List C3.Tok) : Option (Res Prod) :=
 if w = w_count then some ((pickS [w_thirty, w_fixed, w_actual] l).bind fun k r => .ok { p with count := k } r)
 else if w = w_round then some ((pickS [w_half_up, w_down] l).bind fun k r => .ok { p with rnd := if k = 1 then 1 else 3 } r)
 else if w = w_kind then some ((pickS [w_annuity, w_equal, w_bullet] l).bind fun k r => .ok { p with kind := k } r)
 else if w = w_every then some ((numberS l).bind fun k r => .ok { p with every := k } r)
 else if w = w_times then some ((numberS l).bind fun k r => .ok { p with times := k } r)
 else if w = w_grace then some ((numberS l).bind fun k r => .ok { p with grace := k } r)
 else if w = w_rate then some ((takenS takeR l).bind fun k r => .ok { p with rate := k } r)
 else if w = w_penalty then some ((takenS takeR l).bind fun k r => .ok { p with pen := k } r)
 else if w = w_reset then some ((numberS l).bind fun k r => (takenS takeR r).bind fun v r => .ok { p with resets := p.resets ++ [⟨k, v⟩] } r)
 else if w = w_late then some ((numberS l).bind fun k r => (takenS takeM r).bind fun v r => .ok { p with late := p.late ++ [⟨k, v⟩] } r)
 else if w = w_cap then some ((takenS takeM l).bind fun k r => .ok { p with cap := k } r)
 else if w = w_holiday then some ((takenS takeD l).bind fun k r => .ok { p with hol := p.hol ++ [k] } r)
 else if w = w_order then some ((orderN 4 [] l).bind fun o r => .ok { p with o1 := o.getD 0 0, o2 := o.getD 1 0, o3 := o.getD 2 0, o4 := o.getD 3 0 } r)
 else if w = w_over then some ((pickS [w_hold, w_prepay, w_refund] l).bind fun k r => .ok { p with over := k } r)
 else if w = w_roll then some ((pickS [w_stay, w_next, w_within, w_previous] l).bind fun k r => .ok { p with roll := k } r)
 else none
noncomputable def groupS : Nat -> Nat -> List C3.Tok -> Prod -> List (List Int) -> Res (Prod × List (List Int))
 | 0, _, l, _, _ => .err (nextT l).1.at_ 0
 | f + 1, d, l, p, sn =>
   if (nextT l).1.kind = 3 /\ (nextT l).1.text = [125] then .ok (p, sn) (nextT l).2
   else if (nextT l).1.kind = 3 /\ (nextT l).1.text = [123] then
    if 32 <= d then .err (nextT l).1.at_ 8 else (groupS f (d + 1) (nextT l).2 p sn).bind fun q r => groupS f d r q.1 q.2
   else if (nextT l).1.kind ≠ 1 then .err (nextT l).1.at_ 7
   else match clauseS (nextT l).1.text p (nextT l).2 with
    | none => .err (nextT l).1.at_ 7
    | some x => if (nextT l).1.text ∈ sn /\ manyW (nextT l).1.text = false then .err (nextT l).1.at_ 7
      else x.bind fun q r => (wantS 3 [59] r).bind fun _ r => groupS f d r q ((nextT l).1.text :: sn)
def prod0 : Prod := ⟨⟨#[]⟩, 0, 0, 0, 0, 0, 0, 0, [], 0, 0, 0, 0, 0, 0, [], 0, 0, []⟩
noncomputable def textP (l : List C3.Tok) : Res (Prod × List (List Int)) :=
 (wantS 1 w_product l).bind fun _ l => (wantS 1 [] l).bind fun t l =>
   open Classical in if nameP t.text then (wantS 3 [123] l).bind fun _ l => (groupS (l.length + 1) 1 l { prod0 with name := toBA t.text, over := 1, roll := 1 } []).bind fun q l => (wantS 0 [] l).bind fun _ l => .ok q l
   else .err t.at_ 7
def wholeP (sn : List (List Int)) : Prop := w_count ∈ sn /\ w_round ∈ sn /\ w_kind ∈ sn /\ w_every ∈ sn /\ w_times ∈ sn /\ w_rate ∈ sn /\ w_order ∈ sn
noncomputable def parseS (s : List Int) : Prod × Int × Int := match lexS s with
 | .error (p, e) => (prod0, p, e)
 | .ok l => match textP l with
   | .err p e => (prod0, p, e)
   | .ok q _ => open Classical in if wholeP q.2 /\ checkP q.1 then (q.1, 0, 0) else (prod0, (nextT l).1.at_, 9)
end C4

namespace C22
open Go Go.Proofs VL D1 B10 BB6 BB10 BB14 C1 C2 C3 C4 C6 C15
structure PS where
 p : Prod
 s1 : List V
 s2 : List V
 s3 : List V
 sn : List (V × V)
def xO (a b c : Bool) (k : List C3.Tok) (i : Nat) (x : PS) : List VObj :=
 [.cells true 54 [.sl (kL k) .no, .int .i64 i, .str x.p.name, .int .i64 x.p.count, .int .i64 x.p.rnd, .int .i64 x.p.kind, .int .i64 x.p.every, .int .i64 x.p.times, .int .i64 x.p.grace, .int .i64 x.p.rate, .slo 1 2 0 x.p.resets.length (x.p.resets.length + x.s1.length), .int .i64 x.p.pen, .int .i64 x.p.o1, .int .i64 x.p.o2, .int .i64 x.p.o3, .int .i64 x.p.o4, .int .i64 x.p.over, .slo 2 2 0 x.p.late.length (x.p.late.length + x.s2.length), .int .i64 x.p.cap, .int .i64 x.p.roll, .slo 3 1 0 x.p.hol.length (x.p.hol.length + x.s3.length), .mp 4],
  .buf a 2 (rL x.p.resets ++ x.s1), .buf b 2 (tL x.p.late ++ x.s2), .buf c 1 (iL x.p.hol ++ x.s3), .map x.sn]
def endT : List C3.Tok -> Prop
 | [] => False
 | [t] => t.kind = 0
 | t :: r => t.kind ≠ 0 /\ endT r
def fltP (p e : Int) : V := .ifc 47 (.agg [.int .i64 p, .int .i64 e])
theorem c_wrong (t : C3.Tok) (K : Out -> List VObj -> Prop) (h : K (.pan (fltP t.at_ 7)) []) : VCall Tryz.prog 43 [encK t] [] K := by
 unfold encK
 refine call_fun [] 0 Tryz.func43 (by rfl) (by rfl) ?_
 conv=>whnf
 (repeat' first | (refine step_go [] ?_;conv=>whnf) | (refine two ?_ ?_<;>intro g<;>(try simp only[bsx]at g)<;>(conv=>whnf)) | (refine And.intro rfl ?_;conv=>whnf) | fail)
 exact h
theorem nextT0 {t : C3.Tok} {r : List C3.Tok} (h : t.kind = 0) : nextT (t :: r) = (t, t :: r) := by show (if t.kind = 0 then _ else _) = _; rw [if_pos h]
theorem nextT1 {t : C3.Tok} {r : List C3.Tok} (h : ¬ t.kind = 0) : nextT (t :: r) = (t, r) := by show (if t.kind = 0 then _ else _) = _; rw [if_neg h]
theorem endT_next {l : List C3.Tok} (h : endT l) : endT (nextT l).2 /\ ∃ t r, l = t :: r /\ (nextT l).1 = t /\ ((t.kind = 0 /\ (nextT l).2 = t :: r) \/ (t.kind ≠ 0 /\ (nextT l).2 = r)) := by
 cases l with
 | nil => exact h.elim
 | cons t r =>
   by_cases h0 : t.kind = 0
   · rw [nextT0 h0]
     exact ⟨h, t, r, rfl, rfl, .inl ⟨h0, rfl⟩⟩
   · rw [nextT1 h0]
     cases r with
     | nil => exact absurd h h0
     | cons u r => exact ⟨h.2, t, _, rfl, rfl, .inr ⟨h0, rfl⟩⟩
theorem toBA_eq {a b : List Int} (ha : ∀ x ∈ a, 0 <= x /\ x < 256) (hb : ∀ x ∈ b, 0 <= x /\ x < 256) : (toBA a).toList = (toBA b).toList ↔ a = b := by
 have h := str_beq (toBA a) (toBA b)
 rw [sB_toBA ha, sB_toBA hb, Bool.eq_iff_iff, beq_iff_eq, beq_iff_eq] at h
 exact h
set_option maxHeartbeats 2000000 in
theorem c_next (k : List C3.Tok) (i : Nat) (hk : endT (k.drop i)) (hl : k.length < 1000000) (x : PS) (K : Out -> List VObj -> Prop)
 (h : ∀ i', k.drop i' = (nextT (k.drop i)).2 -> K (.ret (encK (nextT (k.drop i)).1)) (xO false false false k i' x)) : VCall Tryz.prog 79 [.ptr 0 0] (xO false false false k i x) K := by
 obtain ⟨_, t, r, hd, e1, e2⟩ := endT_next hk
 rw [e1] at h
 have hil : i < k.length := by
  have := congrArg List.length hd
  rw [List.length_drop, List.length_cons] at this; omega
 have hget : (kL k)[((i : Nat) : Int).toNat]? = some (encK t) := by
  have : k[i]? = some t := by
   have := congrArg (fun l => l[0]?) hd
   simpa using this
  rw [Int.toNat_natCast]; simp [kL, this]
 have wi : IntKind.i64.wrap ((i : Int) + 1) = ((i + 1 : Nat) : Int) := by rw [wrap64 (by omega) (by omega)]; omega
 unfold xO at h ⊢
 refine call_fun [] 5 Tryz.func79 (by rfl) (by rfl) ?_
 conv=>whnf
 (repeat' first | (refine step_go [] ?_;conv=>whnf) | (refine two ?_ ?_<;>intro g<;>(try simp only[bsx]at g)<;>(conv=>whnf)) | (refine And.intro rfl ?_;conv=>whnf) | (refine dr_go (by decide +kernel) ?_;conv=>whnf) | (refine ⟨by omega, _, hget, rfl, ?_⟩;conv=>whnf) | fail)
 · rcases e2 with ⟨e2, e3⟩ | ⟨e2, e3⟩
   · exact absurd e2 g
   · rw [wi]
     exact h (i + 1) (by rw [e3, ← List.drop_drop, hd]; rfl)
 · rcases e2 with ⟨e2, e3⟩ | ⟨e2, e3⟩
   · exact h i (by rw [e3, hd])
   · exact absurd g e2
def okT (k : List C3.Tok) : Prop := k.length < 1000000 /\ ∀ t ∈ k, (∀ x ∈ t.text, 0 <= x /\ x < 256) /\ t.text.length < 1000000
theorem next_mem {k : List C3.Tok} {i : Nat} (hk : endT (k.drop i)) : (nextT (k.drop i)).1 ∈ k := by
 obtain ⟨_, t, r, hd, e1, _⟩ := endT_next hk
 rw [e1]
 exact List.mem_of_mem_drop (by rw [hd]; simp)
set_option maxHeartbeats 2000000 in
theorem c_want (k : List C3.Tok) (i : Nat) (hk : endT (k.drop i)) (hl : okT k) (x : PS) (kd : Int) (w : List Int) (hw : ∀ x ∈ w, 0 <= x /\ x < 256) (K : Out -> List VObj -> Prop)
 (h0 : ∀ t r i', wantS kd w (k.drop i) = .ok t r -> k.drop i' = r -> endT r -> t ∈ k -> K (.ret (encK t)) (xO false false false k i' x)) (h1 : ∀ p e i', wantS kd w (k.drop i) = .err p e -> K (.pan (fltP p e)) (xO false false false k i' x)) :
 VCall Tryz.prog 41 [.ptr 0 0, .int .i64 kd, .str (toBA w)] (xO false false false k i x) K := by
 have hn := endT_next hk
 have hm := next_mem hk
 obtain ⟨t, ht⟩ : ∃ t, (nextT (k.drop i)).1 = t := ⟨_, rfl⟩
 have hb := hl.2 t (by rw [← ht]; exact hm)
 have hyes : t.kind = kd /\ (w = [] \/ t.text = w) -> ∀ i', k.drop i' = (nextT (k.drop i)).2 -> K (.ret (encK t)) (xO false false false k i' x) := fun hh i' hi => h0 t _ i' (by unfold wantS; rw [ht, if_pos hh]) hi hn.1 (by rw [← ht]; exact hm)
 have hno : ¬ (t.kind = kd /\ (w = [] \/ t.text = w)) -> ∀ i', K (.pan (fltP t.at_ 7)) (xO false false false k i' x) := fun hh i' => h1 _ _ i' (by unfold wantS; rw [ht, if_neg hh])
 clear h0 h1
 have hn2 := @c_next k i hk hl.1 x
 rw [ht] at hn2
 unfold xO at hyes hno hn2 ⊢
 refine call_fun [] 5 Tryz.func41 (by rfl) (by rfl) ?_
 conv=>whnf
 have eqw : (toBA t.text).toList = (toBA w).toList ↔ t.text = w := toBA_eq hb.1 hw
 have eq0 : (toBA w).toList = (⟨#[]⟩ : ByteArray).toList ↔ w = [] := toBA_eq (b := []) hw (by simp)
 (repeat' first | (refine step_go [] ?_;conv=>whnf) | (refine two ?_ ?_<;>intro g<;>(try simp only[bsx]at g)<;>(conv=>whnf)) | (refine And.intro rfl ?_;conv=>whnf) | fail)
 refine hn2 _ fun i' hi => ?_
 conv=>whnf
 (repeat' first | (refine step_go [] ?_;conv=>whnf) | (refine two ?_ ?_<;>intro g<;>(try simp only[bsx, eqw, eq0]at g)<;>(conv=>whnf)) | (refine And.intro rfl ?_;conv=>whnf) | (refine c_wrong t _ ?_;conv=>whnf) | fail)
 · exact hno (fun hh => g hh.1) i'
 · exact hno (fun hh => by rcases hh.2 with e | e <;> contradiction) i'
 · exact hyes ⟨by assumption, .inr g⟩ i' hi
 · exact hyes ⟨by assumption, .inl g⟩ i' hi
def bytesOk (l : List (List Int)) : Prop := ∀ w ∈ l, ∀ x ∈ w, 0 <= x /\ x < 256
set_option maxHeartbeats 2000000 in
theorem c_pick (k : List C3.Tok) (i : Nat) (hk : endT (k.drop i)) (hl : okT k) (x : PS) (ws : List (List Int)) (hws : bytesOk ws) (hn : ws.length < 1000) (K : Out -> List VObj -> Prop)
 (h0 : ∀ n r i', pickS ws (k.drop i) = .ok n r -> k.drop i' = r -> endT r -> K (.ret (.int .i64 n)) (xO false false false k i' x)) (h1 : ∀ p e i', pickS ws (k.drop i) = .err p e -> K (.pan (fltP p e)) (xO false false false k i' x)) :
 VCall Tryz.prog 122 [.ptr 0 0, .sl (sL ws) .no] (xO false false false k i x) K := by
 have hw := @c_want k i hk hl x 1 [] (by simp)
 have hsl : (sL ws).length = ws.length := by simp [sL]
 unfold xO at h0 h1 hw ⊢
 refine call_fun [] 5 Tryz.func122 (by rfl) (by rfl) ?_
 conv=>whnf
 (repeat' first | (refine step_go [] ?_;conv=>whnf) | (refine two ?_ ?_<;>intro g<;>(try simp only[bsx]at g)<;>(conv=>whnf)) | (refine And.intro rfl ?_;conv=>whnf) | fail)
 refine hw _ (fun t r i' e hd he hm => ?_) (fun p e i' he => ?_)
 rotate_left
 · conv=>whnf
   (repeat' first | (refine step_go [] ?_;conv=>whnf) | (refine two ?_ ?_<;>intro g<;>(try simp only[bsx]at g)<;>(conv=>whnf)) | (refine And.intro rfl ?_;conv=>whnf) | fail)
   exact h1 p e i' (by unfold pickS; rw [he]; rfl)
 have hb := hl.2 t hm
 have hyes : t.text ∈ ws -> pickS ws (k.drop i) = .ok (ws.idxOf t.text + 1 : Nat) r := fun hh => by unfold pickS; rw [e]; show (if _ then _ else _) = _; rw [if_pos hh]
 have hno : t.text ∉ ws -> pickS ws (k.drop i) = .err t.at_ 7 := fun hh => by unfold pickS; rw [e]; show (if _ then _ else _) = _; rw [if_neg hh]
 conv=>whnf
 (repeat' first | (refine step_go [] ?_;conv=>whnf) | (refine two ?_ ?_<;>intro g<;>(try simp only[bsx]at g)<;>(conv=>whnf)) | (refine And.intro rfl ?_;conv=>whnf) | fail)
 let S : Nat -> St := fun j => ⟨(.ptr 0 0 :: .sl (sL ws) .no :: .undef :: .undef :: .int .i64 0 :: .ptr 5 0 :: .undef :: .undef :: .undef :: .undef :: .sl (sL ws) .no :: .int .i64 (ws.length : Nat) :: .int .i64 (j : Nat) :: .undef :: .undef :: .undef :: .undef :: .undef :: .undef :: .undef :: .undef :: .undef :: .undef :: .undef :: .undef :: .undef :: []), xO false false false k i' x ++ [.cells true 57 [.int .i64 t.kind, .int .i64 t.at_, .str (toBA t.text)]], 0, []⟩
 refine VLoop.enter (s' := S 0) (weak_of ?_ (.cons (.eq rfl) (.cons (.eq rfl) (.cons (.eq rfl) (.cons (.eq rfl) (.cons (.eq rfl) (.cons (.eq rfl) .nil)))))) rfl rfl rfl)
  (VLoop.indW S (fun j => ws.length - j) (fun j => j <= ws.length /\ t.text ∉ ws.take j) ?_ 0 ⟨by omega, by simp⟩)
 · repeat' first
    | exact VWs.nil
    | refine VWs.cons VW.undef ?_
    | refine VWs.cons (VW.eq rfl) ?_
    | refine VWs.cons (VW.eq (by rw [hsl])) ?_
 rintro j ⟨hj, hinv⟩ ih
 refine loop_round [] ?_; conv=>whnf
 (repeat' first | (refine step_go [] ?_;conv=>whnf) | (refine two ?_ ?_<;>intro g<;>(try simp only[bsx]at g)<;>(conv=>whnf)) | (refine And.intro rfl ?_;conv=>whnf) | fail)
 · have hjl : j < ws.length := by omega
   have hget : (sL ws)[((j : Nat) : Int).toNat]? = some (.str (toBA ws[j])) := by rw [Int.toNat_natCast]; simp [sL, List.getElem?_eq_getElem hjl]
   have hmem : ws[j] ∈ ws := List.getElem_mem _
   have hdr : ws.drop j = ws[j] :: ws.drop (j + 1) := List.drop_eq_getElem_cons hjl
   obtain ⟨w, hw2⟩ : ∃ w, ws[j] = w := ⟨_, rfl⟩
   have htk : ws.take (j + 1) = ws.take j ++ [w] := by rw [List.take_succ_eq_append_getElem hjl, hw2]
   rw [hw2] at hget hmem hdr
   have wj : IntKind.i64.wrap ((j : Int) + 1) = ((j + 1 : Nat) : Int) := by rw [wrap64 (by omega) (by omega)]; omega
   have eqw : (toBA w).toList = (toBA t.text).toList ↔ w = t.text := toBA_eq (hws w hmem) hb.1
   refine ⟨by omega, _, hget, rfl, ?_⟩
   conv=>whnf
   (repeat' first | (refine step_go [] ?_;conv=>whnf) | (refine two ?_ ?_<;>intro g<;>(try simp only[bsx, eqw]at g)<;>(conv=>whnf)) | (refine And.intro rfl ?_;conv=>whnf) | fail)
   · refine ⟨_, Weak.refl, ?_⟩; conv=>whnf
     (repeat' first | (refine step_go [] ?_;conv=>whnf) | (refine two ?_ ?_<;>intro g<;>(try simp only[bsx]at g)<;>(conv=>whnf)) | (refine And.intro rfl ?_;conv=>whnf) | fail)
     rw [wj]
     have hidx : ws.idxOf t.text = j := by
      conv => lhs; rw [← List.take_append_drop j ws, hdr, g]
      rw [List.idxOf_append, if_neg hinv, List.idxOf_cons_self, List.length_take]; omega
     have hin : t.text ∈ ws := by rw [← g]; exact hmem
     have hh := hyes hin
     rw [hidx] at hh
     exact h0 _ r i' hh hd he
   · exact ⟨S (j + 1), weak_of (by rw [wj]; (repeat' first | exact VWs.nil | refine VWs.cons VW.undef ?_ | refine VWs.cons (VW.eq rfl) ?_)) (.cons (.eq rfl) (.cons (.eq rfl) (.cons (.eq rfl) (.cons (.eq rfl) (.cons (.eq rfl) (.cons (.eq rfl) .nil)))))) rfl rfl rfl, ih (j + 1) ⟨by omega, by rw [htk]; simp only [List.mem_append, List.mem_singleton, not_or]; exact ⟨hinv, fun e => g e.symm⟩⟩ (by omega)⟩
 · have hjl : j = ws.length := by omega
   subst hjl
   rw [List.take_length] at hinv
   refine ⟨_, Weak.refl, ?_⟩; conv=>whnf
   (repeat' first | (refine step_go [] ?_;conv=>whnf) | (refine two ?_ ?_<;>intro g<;>(try simp only[bsx]at g)<;>(conv=>whnf)) | (refine And.intro rfl ?_;conv=>whnf) | (refine c_wrong t _ ?_;conv=>whnf) | fail)
   exact h1 _ _ i' (hno hinv)
end C22

namespace C23
open Go Go.Proofs VL D1 B10 B12 B13 BB6 BB10 BB14 C1 C2 C3 C4 C6 C15 C20 C22
set_option maxHeartbeats 2000000 in
theorem c_tk64 (k : List C3.Tok) (i : Nat) (hk : endT (k.drop i)) (hl : okT k) (x : PS) (f : FuncId) (sp : List Int -> Int × Int)
 (hf : ∀ (s : ByteArray) (K : Out -> List VObj -> Prop), s.size < 1000000 -> K (.ret (.tup [.int .i64 (sp (sB s)).1, .int .i64 (sp (sB s)).2])) [] -> VCall Tryz.prog f [.str s] [] K) (K : Out -> List VObj -> Prop)
 (h0 : ∀ n r i', takenS sp (k.drop i) = .ok n r -> k.drop i' = r -> endT r -> K (.ret (.int .i64 n)) (xO false false false k i' x)) (h1 : ∀ p e i', takenS sp (k.drop i) = .err p e -> K (.pan (fltP p e)) (xO false false false k i' x)) :
 VCall Tryz.prog 124 [.ptr 0 0, .fn (.func f) [] []] (xO false false false k i x) K := by
 have hw := @c_want k i hk hl x 2 [] (by simp)
 unfold xO at h0 h1 hw ⊢
 refine call_fun [] 5 Tryz.func124 (by rfl) (by rfl) ?_
 conv=>whnf
 (repeat' first | (refine step_go [] ?_;conv=>whnf) | (refine two ?_ ?_<;>intro g<;>(try simp only[bsx]at g)<;>(conv=>whnf)) | (refine And.intro rfl ?_;conv=>whnf) | fail)
 refine hw _ (fun t r i' e hd he hm => ?_) (fun p e i' he => ?_)
 rotate_left
 · conv=>whnf
   (repeat' first | (refine step_go [] ?_;conv=>whnf) | (refine two ?_ ?_<;>intro g<;>(try simp only[bsx]at g)<;>(conv=>whnf)) | (refine And.intro rfl ?_;conv=>whnf) | fail)
   exact h1 p e i' (by unfold takenS; rw [he]; rfl)
 have hb := hl.2 t hm
 have hyes : (sp t.text).2 = 0 -> takenS sp (k.drop i) = .ok (sp t.text).1 r := fun hh => by unfold takenS; rw [e]; show (if _ then _ else _) = _; rw [if_pos hh]
 have hno : ¬ (sp t.text).2 = 0 -> takenS sp (k.drop i) = .err t.at_ 7 := fun hh => by unfold takenS; rw [e]; show (if _ then _ else _) = _; rw [if_neg hh]
 conv=>whnf
 (repeat' first | (refine step_go [] ?_;conv=>whnf) | (refine two ?_ ?_<;>intro g<;>(try simp only[bsx]at g)<;>(conv=>whnf)) | (refine And.intro rfl ?_;conv=>whnf) | fail)
 refine hf (toBA t.text) _ (by rw [toBA_size]; exact hb.2) ?_
 rw [sB_toBA hb.1]
 conv=>whnf
 (repeat' first | (refine step_go [] ?_;conv=>whnf) | (refine two ?_ ?_<;>intro g<;>(try simp only[bsx]at g)<;>(conv=>whnf)) | (refine And.intro rfl ?_;conv=>whnf) | (refine c_wrong t _ ?_;conv=>whnf) | fail)
 · exact h1 _ _ i' (hno g)
 · exact h0 _ r i' (hyes g) hd he
set_option maxHeartbeats 2000000 in
theorem c_tkI (k : List C3.Tok) (i : Nat) (hk : endT (k.drop i)) (hl : okT k) (x : PS) (f : FuncId) (sp : List Int -> Int × Int)
 (hf : ∀ (s : ByteArray) (K : Out -> List VObj -> Prop), s.size < 1000000 -> K (.ret (.tup [.int .i64 (sp (sB s)).1, .int .i64 (sp (sB s)).2])) [] -> VCall Tryz.prog f [.str s] [] K) (K : Out -> List VObj -> Prop)
 (h0 : ∀ n r i', takenS sp (k.drop i) = .ok n r -> k.drop i' = r -> endT r -> K (.ret (.int .i64 n)) (xO false false false k i' x)) (h1 : ∀ p e i', takenS sp (k.drop i) = .err p e -> K (.pan (fltP p e)) (xO false false false k i' x)) :
 VCall Tryz.prog 127 [.ptr 0 0, .fn (.func f) [] []] (xO false false false k i x) K := by
 have hw := @c_want k i hk hl x 2 [] (by simp)
 unfold xO at h0 h1 hw ⊢
 refine call_fun [] 5 Tryz.func127 (by rfl) (by rfl) ?_
 conv=>whnf
 (repeat' first | (refine step_go [] ?_;conv=>whnf) | (refine two ?_ ?_<;>intro g<;>(try simp only[bsx]at g)<;>(conv=>whnf)) | (refine And.intro rfl ?_;conv=>whnf) | fail)
 refine hw _ (fun t r i' e hd he hm => ?_) (fun p e i' he => ?_)
 rotate_left
 · conv=>whnf
   (repeat' first | (refine step_go [] ?_;conv=>whnf) | (refine two ?_ ?_<;>intro g<;>(try simp only[bsx]at g)<;>(conv=>whnf)) | (refine And.intro rfl ?_;conv=>whnf) | fail)
   exact h1 p e i' (by unfold takenS; rw [he]; rfl)
 have hb := hl.2 t hm
 have hyes : (sp t.text).2 = 0 -> takenS sp (k.drop i) = .ok (sp t.text).1 r := fun hh => by unfold takenS; rw [e]; show (if _ then _ else _) = _; rw [if_pos hh]
 have hno : ¬ (sp t.text).2 = 0 -> takenS sp (k.drop i) = .err t.at_ 7 := fun hh => by unfold takenS; rw [e]; show (if _ then _ else _) = _; rw [if_neg hh]
 conv=>whnf
 (repeat' first | (refine step_go [] ?_;conv=>whnf) | (refine two ?_ ?_<;>intro g<;>(try simp only[bsx]at g)<;>(conv=>whnf)) | (refine And.intro rfl ?_;conv=>whnf) | fail)
 refine hf (toBA t.text) _ (by rw [toBA_size]; exact hb.2) ?_
 rw [sB_toBA hb.1]
 conv=>whnf
 (repeat' first | (refine step_go [] ?_;conv=>whnf) | (refine two ?_ ?_<;>intro g<;>(try simp only[bsx]at g)<;>(conv=>whnf)) | (refine And.intro rfl ?_;conv=>whnf) | (refine c_wrong t _ ?_;conv=>whnf) | fail)
 · exact h1 _ _ i' (hno g)
 · exact h0 _ r i' (hyes g) hd he
set_option maxHeartbeats 4000000 in
theorem c_number (k : List C3.Tok) (i : Nat) (hk : endT (k.drop i)) (hl : okT k) (x : PS) (K : Out -> List VObj -> Prop)
 (h0 : ∀ n r i', numberS (k.drop i) = .ok n r -> k.drop i' = r -> endT r -> K (.ret (.int .i64 n)) (xO false false false k i' x)) (h1 : ∀ p e i', numberS (k.drop i) = .err p e -> K (.pan (fltP p e)) (xO false false false k i' x)) :
 VCall Tryz.prog 123 [.ptr 0 0] (xO false false false k i x) K := by
 have hw := @c_want k i hk hl x 2 [] (by simp)
 unfold xO at h0 h1 hw ⊢
 refine call_fun [] 5 Tryz.func123 (by rfl) (by rfl) ?_
 conv=>whnf
 (repeat' first | (refine step_go [] ?_;conv=>whnf) | (refine two ?_ ?_<;>intro g<;>(try simp only[bsx]at g)<;>(conv=>whnf)) | (refine And.intro rfl ?_;conv=>whnf) | fail)
 refine hw _ (fun t r i' e hd he hm => ?_) (fun p e i' he => ?_)
 rotate_left
 · conv=>whnf
   (repeat' first | (refine step_go [] ?_;conv=>whnf) | (refine two ?_ ?_<;>intro g<;>(try simp only[bsx]at g)<;>(conv=>whnf)) | (refine And.intro rfl ?_;conv=>whnf) | fail)
   exact h1 p e i' (by unfold numberS; rw [he]; rfl)
 obtain ⟨tk, ta, l⟩ := t
 have hb : (∀ x ∈ l, 0 <= x /\ x < 256) /\ l.length < 1000000 := hl.2 _ hm
 have hsb := sB_toBA hb.1
 have hsz := toBA_size l
 have hyes : ((∀ x ∈ l, Dig x) /\ l.length <= 9 /\ (2 <= l.length -> l.head? ≠ some 48)) -> numberS (k.drop i) = .ok (vl l) r := fun hh => by unfold numberS; rw [e]; show (match numS l with | some n => _ | none => _) = _; unfold numS; rw [if_pos hh]
 have hno : ¬ ((∀ x ∈ l, Dig x) /\ l.length <= 9 /\ (2 <= l.length -> l.head? ≠ some 48)) -> numberS (k.drop i) = .err ta 7 := fun hh => by unfold numberS; rw [e]; show (match numS l with | some n => _ | none => _) = _; unfold numS; rw [if_neg hh]
 conv=>whnf
 (repeat' first | (refine step_go [] ?_;conv=>whnf) | (refine two ?_ ?_<;>intro g<;>(try simp only[bsx]at g)<;>(conv=>whnf)) | (refine And.intro rfl ?_;conv=>whnf) | fail)
 rw [bytesV_eq, hsb]
 let S : Nat -> St := fun j => ⟨(.ptr 0 0 :: .undef :: .int .i64 0 :: .ptr 5 0 :: .int .i64 (vl (l.take j) : Nat) :: .undef :: .undef :: .undef :: .undef :: .undef :: .undef :: .sl (bL l) .no :: .int .i64 (l.length : Nat) :: .int .i64 (j : Nat) :: .undef :: .undef :: .undef :: .undef :: .undef :: .undef :: .undef :: .undef :: .undef :: .undef :: .undef :: .undef :: .undef :: .undef :: .undef :: .undef :: .undef :: .undef :: .undef :: .undef :: .undef :: .undef :: .undef :: .undef :: .undef :: .undef :: .undef :: .undef :: .undef :: .undef :: .undef :: .undef :: .undef :: .undef :: .undef :: .undef :: .undef :: []), xO false false false k i' x ++ [.cells true 57 [.int .i64 tk, .int .i64 ta, .str (toBA l)]], 0, []⟩
 refine VLoop.enter (s' := S 0) (weak_of ?_ (.cons (.eq rfl) (.cons (.eq rfl) (.cons (.eq rfl) (.cons (.eq rfl) (.cons (.eq rfl) (.cons (.eq rfl) .nil)))))) rfl rfl rfl)
  (VLoop.indW S (fun j => l.length - j) (fun j => j <= l.length /\ (∀ x ∈ l.take j, Dig x) /\ (0 < j -> l.length <= 9 /\ (2 <= l.length -> l.head? ≠ some 48))) ?_ 0 ⟨by omega, by simp, fun h => absurd h (by omega)⟩)
 · repeat' first
    | exact VWs.nil
    | refine VWs.cons VW.undef ?_
    | refine VWs.cons (VW.eq rfl) ?_
    | refine VWs.cons VW.no ?_
    | refine VWs.cons (VW.eq (by rw [bL_len])) ?_
 rintro j ⟨hj, hinv, hinv2⟩ ih
 refine loop_round [] ?_; conv=>whnf
 (repeat' first | (refine step_go [] ?_;conv=>whnf) | (refine two ?_ ?_<;>intro g<;>(try simp only[bsx]at g)<;>(conv=>whnf)) | (refine And.intro rfl ?_;conv=>whnf) | fail)
 · have hjl : j < l.length := by omega
   have hx : l[j]? = some l[j] := List.getElem?_eq_getElem hjl
   have hmem : l[j] ∈ l := List.getElem_mem _
   obtain ⟨y, hxx⟩ : ∃ y, l[j] = y := ⟨_, rfl⟩
   have htk : l.take (j + 1) = l.take j ++ [y] := by rw [List.take_succ_eq_append_getElem hjl, hxx]
   rw [hxx] at hx hmem
   have hget : (bL l)[((j : Nat) : Int).toNat]? = some (.int .u8 y) := by rw [Int.toNat_natCast, bL_get, hx]; rfl
   have wj : IntKind.i64.wrap ((j : Int) + 1) = ((j + 1 : Nat) : Int) := by rw [wrap64 (by omega) (by omega)]; omega
   obtain ⟨z, hz⟩ : ∃ z, l.head? = some z := by cases l with
    | nil => simp at hjl
    | cons z _ => exact ⟨z, rfl⟩
   have hz0 : l[0]? = some z := by rw [← List.head?_eq_getElem?]; exact hz
   have hbd := vl_lt (l.take j) hinv
   have hst : ¬ (Dig y /\ l.length <= 9 /\ (2 <= l.length -> z ≠ 48)) -> numberS (k.drop i) = .err ta 7 := fun hh => hno fun ⟨a, b, c⟩ => hh ⟨a y hmem, b, fun h2 e => c h2 (by rw [hz, e])⟩
   unfold Dig at hst
   refine ⟨by omega, _, hget, rfl, ?_⟩
   conv=>whnf
   (repeat' first | (refine step_go [] ?_;conv=>whnf) | (refine two ?_ ?_<;>intro g<;>(try simp only[bsx, hsz]at g)<;>(conv=>whnf)) | (refine And.intro rfl ?_;conv=>whnf) | (refine c_wrong ⟨tk, ta, l⟩ _ ?_;conv=>whnf) | (refine idx_str (x := z) (by decide) (by rw [hsb]; exact hz0) fun b hb => ?_; (conv=>whnf); (repeat (refine step_go [] ?_;conv=>whnf)); rw [hb]; clear hb b) | fail)
   all_goals first
    | exact h1 _ _ i' (hst (by omega))
    | (have hp : 10 ^ (l.take j).length <= 10 ^ 9 := Nat.pow_le_pow_right (by omega) (by simp; omega)
       have wn : IntKind.i64.wrap (IntKind.i64.wrap (10 * ((vl (l.take j) : Nat) : Int)) + IntKind.i64.wrap (IntKind.u8.wrap (y - 48))) = (vl (l.take (j + 1)) : Nat) := by
        rw [show IntKind.u8.wrap (y - 48) = y - 48 by rw [IntKind.wrap_u8]; omega, wrap64 (x := y - 48) (by omega) (by omega), wrap64 (x := 10 * ((vl (l.take j) : Nat) : Int)) (by omega) (by omega), wrap64 (by omega) (by omega), htk, vl_snoc]; omega
       exact ⟨S (j + 1), weak_of (by rw [wj, wn]; (repeat' first | exact VWs.nil | refine VWs.cons VW.undef ?_ | refine VWs.cons (VW.eq rfl) ?_)) (.cons (.eq rfl) (.cons (.eq rfl) (.cons (.eq rfl) (.cons (.eq rfl) (.cons (.eq rfl) (.cons (.eq rfl) .nil)))))) rfl rfl rfl, ih (j + 1) ⟨by omega, fun v hv => by
        rw [htk] at hv
        rcases List.mem_append.1 hv with hv | hv
        · exact hinv v hv
        · rw [List.mem_singleton.1 hv]; unfold Dig; omega, fun _ => ⟨by omega, fun h2 => by rw [hz]; intro e; cases e; omega⟩⟩ (by omega)⟩)
 · have hjl : j = l.length := by omega
   subst hjl
   rw [List.take_length] at hinv
   refine ⟨_, Weak.refl, ?_⟩; conv=>whnf
   rw [List.take_length]
   (repeat' first | (refine step_go [] ?_;conv=>whnf) | (refine two ?_ ?_<;>intro g<;>(try simp only[bsx]at g)<;>(conv=>whnf)) | (refine And.intro rfl ?_;conv=>whnf) | fail)
   refine h0 _ r i' (hyes ⟨hinv, ?_, ?_⟩) hd he
   · rcases Nat.eq_zero_or_pos l.length with h | h
     · omega
     · exact (hinv2 h).1
   · intro h2; exact (hinv2 (by omega)).2 h2
end C23

namespace C24
open Go Go.Proofs VL D1 B10 B12 B13 BB6 BB10 BB14 C1 C2 C3 C4 C6 C15 C20 C22 C23
set_option maxHeartbeats 2000000 in
theorem c_cl_count (k : List C3.Tok) (i : Nat) (hk : endT (k.drop i)) (hl : okT k) (x : PS) (K : Out -> List VObj -> Prop)
 (h0 : ∀ n r i', pickS [w_thirty, w_fixed, w_actual] (k.drop i) = .ok n r -> k.drop i' = r -> endT r -> K (.ret (.tup [])) (xO false false false k i' { x with p := { x.p with count := n } })) (h1 : ∀ p e i', pickS [w_thirty, w_fixed, w_actual] (k.drop i) = .err p e -> K (.pan (fltP p e)) (xO false false false k i' x)) :
 VCall Tryz.prog 98 [.ptr 0 0] (xO false false false k i x) K := by
 have hw := @c_pick k i hk hl x [w_thirty, w_fixed, w_actual] (by unfold bytesOk; decide) (by decide)
 unfold xO at h0 h1 hw ⊢
 refine call_fun [] 5 Tryz.func98 (by rfl) (by rfl) ?_
 conv=>whnf
 (repeat' first | (refine step_go [] ?_;conv=>whnf) | (refine two ?_ ?_<;>intro g<;>(try simp only[bsx]at g)<;>(conv=>whnf)) | (refine And.intro rfl ?_;conv=>whnf) | fail)
 refine VCall.args (args' := [.ptr 0 0, .sl (sL [w_thirty, w_fixed, w_actual]) .no]) (.cons (.eq rfl) (.cons .no .nil)) rfl (hw _ (fun n r i' e hd he => ?_) (fun p e i' he => ?_))
 · conv=>whnf
   (repeat' first | (refine step_go [] ?_;conv=>whnf) | (refine two ?_ ?_<;>intro g<;>(try simp only[bsx]at g)<;>(conv=>whnf)) | (refine And.intro rfl ?_;conv=>whnf) | fail)
   exact h0 n r i' e hd he
 · conv=>whnf
   (repeat' first | (refine step_go [] ?_;conv=>whnf) | (refine two ?_ ?_<;>intro g<;>(try simp only[bsx]at g)<;>(conv=>whnf)) | (refine And.intro rfl ?_;conv=>whnf) | fail)
   exact h1 p e i' he
set_option maxHeartbeats 2000000 in
theorem c_cl_kind (k : List C3.Tok) (i : Nat) (hk : endT (k.drop i)) (hl : okT k) (x : PS) (K : Out -> List VObj -> Prop)
 (h0 : ∀ n r i', pickS [w_annuity, w_equal, w_bullet] (k.drop i) = .ok n r -> k.drop i' = r -> endT r -> K (.ret (.tup [])) (xO false false false k i' { x with p := { x.p with kind := n } })) (h1 : ∀ p e i', pickS [w_annuity, w_equal, w_bullet] (k.drop i) = .err p e -> K (.pan (fltP p e)) (xO false false false k i' x)) :
 VCall Tryz.prog 100 [.ptr 0 0] (xO false false false k i x) K := by
 have hw := @c_pick k i hk hl x [w_annuity, w_equal, w_bullet] (by unfold bytesOk; decide) (by decide)
 unfold xO at h0 h1 hw ⊢
 refine call_fun [] 5 Tryz.func100 (by rfl) (by rfl) ?_
 conv=>whnf
 (repeat' first | (refine step_go [] ?_;conv=>whnf) | (refine two ?_ ?_<;>intro g<;>(try simp only[bsx]at g)<;>(conv=>whnf)) | (refine And.intro rfl ?_;conv=>whnf) | fail)
 refine VCall.args (args' := [.ptr 0 0, .sl (sL [w_annuity, w_equal, w_bullet]) .no]) (.cons (.eq rfl) (.cons .no .nil)) rfl (hw _ (fun n r i' e hd he => ?_) (fun p e i' he => ?_))
 · conv=>whnf
   (repeat' first | (refine step_go [] ?_;conv=>whnf) | (refine two ?_ ?_<;>intro g<;>(try simp only[bsx]at g)<;>(conv=>whnf)) | (refine And.intro rfl ?_;conv=>whnf) | fail)
   exact h0 n r i' e hd he
 · conv=>whnf
   (repeat' first | (refine step_go [] ?_;conv=>whnf) | (refine two ?_ ?_<;>intro g<;>(try simp only[bsx]at g)<;>(conv=>whnf)) | (refine And.intro rfl ?_;conv=>whnf) | fail)
   exact h1 p e i' he
set_option maxHeartbeats 2000000 in
theorem c_cl_over (k : List C3.Tok) (i : Nat) (hk : endT (k.drop i)) (hl : okT k) (x : PS) (K : Out -> List VObj -> Prop)
 (h0 : ∀ n r i', pickS [w_hold, w_prepay, w_refund] (k.drop i) = .ok n r -> k.drop i' = r -> endT r -> K (.ret (.tup [])) (xO false false false k i' { x with p := { x.p with over := n } })) (h1 : ∀ p e i', pickS [w_hold, w_prepay, w_refund] (k.drop i) = .err p e -> K (.pan (fltP p e)) (xO false false false k i' x)) :
 VCall Tryz.prog 111 [.ptr 0 0] (xO false false false k i x) K := by
 have hw := @c_pick k i hk hl x [w_hold, w_prepay, w_refund] (by unfold bytesOk; decide) (by decide)
 unfold xO at h0 h1 hw ⊢
 refine call_fun [] 5 Tryz.func111 (by rfl) (by rfl) ?_
 conv=>whnf
 (repeat' first | (refine step_go [] ?_;conv=>whnf) | (refine two ?_ ?_<;>intro g<;>(try simp only[bsx]at g)<;>(conv=>whnf)) | (refine And.intro rfl ?_;conv=>whnf) | fail)
 refine VCall.args (args' := [.ptr 0 0, .sl (sL [w_hold, w_prepay, w_refund]) .no]) (.cons (.eq rfl) (.cons .no .nil)) rfl (hw _ (fun n r i' e hd he => ?_) (fun p e i' he => ?_))
 · conv=>whnf
   (repeat' first | (refine step_go [] ?_;conv=>whnf) | (refine two ?_ ?_<;>intro g<;>(try simp only[bsx]at g)<;>(conv=>whnf)) | (refine And.intro rfl ?_;conv=>whnf) | fail)
   exact h0 n r i' e hd he
 · conv=>whnf
   (repeat' first | (refine step_go [] ?_;conv=>whnf) | (refine two ?_ ?_<;>intro g<;>(try simp only[bsx]at g)<;>(conv=>whnf)) | (refine And.intro rfl ?_;conv=>whnf) | fail)
   exact h1 p e i' he
set_option maxHeartbeats 2000000 in
theorem c_cl_roll (k : List C3.Tok) (i : Nat) (hk : endT (k.drop i)) (hl : okT k) (x : PS) (K : Out -> List VObj -> Prop)
 (h0 : ∀ n r i', pickS [w_stay, w_next, w_within, w_previous] (k.drop i) = .ok n r -> k.drop i' = r -> endT r -> K (.ret (.tup [])) (xO false false false k i' { x with p := { x.p with roll := n } })) (h1 : ∀ p e i', pickS [w_stay, w_next, w_within, w_previous] (k.drop i) = .err p e -> K (.pan (fltP p e)) (xO false false false k i' x)) :
 VCall Tryz.prog 112 [.ptr 0 0] (xO false false false k i x) K := by
 have hw := @c_pick k i hk hl x [w_stay, w_next, w_within, w_previous] (by unfold bytesOk; decide) (by decide)
 unfold xO at h0 h1 hw ⊢
 refine call_fun [] 5 Tryz.func112 (by rfl) (by rfl) ?_
 conv=>whnf
 (repeat' first | (refine step_go [] ?_;conv=>whnf) | (refine two ?_ ?_<;>intro g<;>(try simp only[bsx]at g)<;>(conv=>whnf)) | (refine And.intro rfl ?_;conv=>whnf) | fail)
 refine VCall.args (args' := [.ptr 0 0, .sl (sL [w_stay, w_next, w_within, w_previous]) .no]) (.cons (.eq rfl) (.cons .no .nil)) rfl (hw _ (fun n r i' e hd he => ?_) (fun p e i' he => ?_))
 · conv=>whnf
   (repeat' first | (refine step_go [] ?_;conv=>whnf) | (refine two ?_ ?_<;>intro g<;>(try simp only[bsx]at g)<;>(conv=>whnf)) | (refine And.intro rfl ?_;conv=>whnf) | fail)
   exact h0 n r i' e hd he
 · conv=>whnf
   (repeat' first | (refine step_go [] ?_;conv=>whnf) | (refine two ?_ ?_<;>intro g<;>(try simp only[bsx]at g)<;>(conv=>whnf)) | (refine And.intro rfl ?_;conv=>whnf) | fail)
   exact h1 p e i' he
set_option maxHeartbeats 2000000 in
theorem c_cl_every (k : List C3.Tok) (i : Nat) (hk : endT (k.drop i)) (hl : okT k) (x : PS) (K : Out -> List VObj -> Prop)
 (h0 : ∀ n r i', numberS (k.drop i) = .ok n r -> k.drop i' = r -> endT r -> K (.ret (.tup [])) (xO false false false k i' { x with p := { x.p with every := n } })) (h1 : ∀ p e i', numberS (k.drop i) = .err p e -> K (.pan (fltP p e)) (xO false false false k i' x)) :
 VCall Tryz.prog 101 [.ptr 0 0] (xO false false false k i x) K := by
 have hw := @c_number k i hk hl x
 unfold xO at h0 h1 hw ⊢
 refine call_fun [] 5 Tryz.func101 (by rfl) (by rfl) ?_
 conv=>whnf
 (repeat' first | (refine step_go [] ?_;conv=>whnf) | (refine two ?_ ?_<;>intro g<;>(try simp only[bsx]at g)<;>(conv=>whnf)) | (refine And.intro rfl ?_;conv=>whnf) | fail)
 refine (hw _ (fun n r i' e hd he => ?_) (fun p e i' he => ?_))
 · conv=>whnf
   (repeat' first | (refine step_go [] ?_;conv=>whnf) | (refine two ?_ ?_<;>intro g<;>(try simp only[bsx]at g)<;>(conv=>whnf)) | (refine And.intro rfl ?_;conv=>whnf) | fail)
   exact h0 n r i' e hd he
 · conv=>whnf
   (repeat' first | (refine step_go [] ?_;conv=>whnf) | (refine two ?_ ?_<;>intro g<;>(try simp only[bsx]at g)<;>(conv=>whnf)) | (refine And.intro rfl ?_;conv=>whnf) | fail)
   exact h1 p e i' he
set_option maxHeartbeats 2000000 in
theorem c_cl_times (k : List C3.Tok) (i : Nat) (hk : endT (k.drop i)) (hl : okT k) (x : PS) (K : Out -> List VObj -> Prop)
 (h0 : ∀ n r i', numberS (k.drop i) = .ok n r -> k.drop i' = r -> endT r -> K (.ret (.tup [])) (xO false false false k i' { x with p := { x.p with times := n } })) (h1 : ∀ p e i', numberS (k.drop i) = .err p e -> K (.pan (fltP p e)) (xO false false false k i' x)) :
 VCall Tryz.prog 102 [.ptr 0 0] (xO false false false k i x) K := by
 have hw := @c_number k i hk hl x
 unfold xO at h0 h1 hw ⊢
 refine call_fun [] 5 Tryz.func102 (by rfl) (by rfl) ?_
 conv=>whnf
 (repeat' first | (refine step_go [] ?_;conv=>whnf) | (refine two ?_ ?_<;>intro g<;>(try simp only[bsx]at g)<;>(conv=>whnf)) | (refine And.intro rfl ?_;conv=>whnf) | fail)
 refine (hw _ (fun n r i' e hd he => ?_) (fun p e i' he => ?_))
 · conv=>whnf
   (repeat' first | (refine step_go [] ?_;conv=>whnf) | (refine two ?_ ?_<;>intro g<;>(try simp only[bsx]at g)<;>(conv=>whnf)) | (refine And.intro rfl ?_;conv=>whnf) | fail)
   exact h0 n r i' e hd he
 · conv=>whnf
   (repeat' first | (refine step_go [] ?_;conv=>whnf) | (refine two ?_ ?_<;>intro g<;>(try simp only[bsx]at g)<;>(conv=>whnf)) | (refine And.intro rfl ?_;conv=>whnf) | fail)
   exact h1 p e i' he
set_option maxHeartbeats 2000000 in
theorem c_cl_grace (k : List C3.Tok) (i : Nat) (hk : endT (k.drop i)) (hl : okT k) (x : PS) (K : Out -> List VObj -> Prop)
 (h0 : ∀ n r i', numberS (k.drop i) = .ok n r -> k.drop i' = r -> endT r -> K (.ret (.tup [])) (xO false false false k i' { x with p := { x.p with grace := n } })) (h1 : ∀ p e i', numberS (k.drop i) = .err p e -> K (.pan (fltP p e)) (xO false false false k i' x)) :
 VCall Tryz.prog 103 [.ptr 0 0] (xO false false false k i x) K := by
 have hw := @c_number k i hk hl x
 unfold xO at h0 h1 hw ⊢
 refine call_fun [] 5 Tryz.func103 (by rfl) (by rfl) ?_
 conv=>whnf
 (repeat' first | (refine step_go [] ?_;conv=>whnf) | (refine two ?_ ?_<;>intro g<;>(try simp only[bsx]at g)<;>(conv=>whnf)) | (refine And.intro rfl ?_;conv=>whnf) | fail)
 refine (hw _ (fun n r i' e hd he => ?_) (fun p e i' he => ?_))
 · conv=>whnf
   (repeat' first | (refine step_go [] ?_;conv=>whnf) | (refine two ?_ ?_<;>intro g<;>(try simp only[bsx]at g)<;>(conv=>whnf)) | (refine And.intro rfl ?_;conv=>whnf) | fail)
   exact h0 n r i' e hd he
 · conv=>whnf
   (repeat' first | (refine step_go [] ?_;conv=>whnf) | (refine two ?_ ?_<;>intro g<;>(try simp only[bsx]at g)<;>(conv=>whnf)) | (refine And.intro rfl ?_;conv=>whnf) | fail)
   exact h1 p e i' he
set_option maxHeartbeats 2000000 in
theorem c_cl_rate (k : List C3.Tok) (i : Nat) (hk : endT (k.drop i)) (hl : okT k) (x : PS) (K : Out -> List VObj -> Prop)
 (h0 : ∀ n r i', takenS takeR (k.drop i) = .ok n r -> k.drop i' = r -> endT r -> K (.ret (.tup [])) (xO false false false k i' { x with p := { x.p with rate := n } })) (h1 : ∀ p e i', takenS takeR (k.drop i) = .err p e -> K (.pan (fltP p e)) (xO false false false k i' x)) :
 VCall Tryz.prog 104 [.ptr 0 0] (xO false false false k i x) K := by
 have hw := @c_tk64 k i hk hl x 125 takeR (fun s K hs h => c_takeR s hs K h)
 unfold xO at h0 h1 hw ⊢
 refine call_fun [] 5 Tryz.func104 (by rfl) (by rfl) ?_
 conv=>whnf
 (repeat' first | (refine step_go [] ?_;conv=>whnf) | (refine two ?_ ?_<;>intro g<;>(try simp only[bsx]at g)<;>(conv=>whnf)) | (refine And.intro rfl ?_;conv=>whnf) | fail)
 refine (hw _ (fun n r i' e hd he => ?_) (fun p e i' he => ?_))
 · conv=>whnf
   (repeat' first | (refine step_go [] ?_;conv=>whnf) | (refine two ?_ ?_<;>intro g<;>(try simp only[bsx]at g)<;>(conv=>whnf)) | (refine And.intro rfl ?_;conv=>whnf) | fail)
   exact h0 n r i' e hd he
 · conv=>whnf
   (repeat' first | (refine step_go [] ?_;conv=>whnf) | (refine two ?_ ?_<;>intro g<;>(try simp only[bsx]at g)<;>(conv=>whnf)) | (refine And.intro rfl ?_;conv=>whnf) | fail)
   exact h1 p e i' he
set_option maxHeartbeats 2000000 in
theorem c_cl_pen (k : List C3.Tok) (i : Nat) (hk : endT (k.drop i)) (hl : okT k) (x : PS) (K : Out -> List VObj -> Prop)
 (h0 : ∀ n r i', takenS takeR (k.drop i) = .ok n r -> k.drop i' = r -> endT r -> K (.ret (.tup [])) (xO false false false k i' { x with p := { x.p with pen := n } })) (h1 : ∀ p e i', takenS takeR (k.drop i) = .err p e -> K (.pan (fltP p e)) (xO false false false k i' x)) :
 VCall Tryz.prog 105 [.ptr 0 0] (xO false false false k i x) K := by
 have hw := @c_tk64 k i hk hl x 125 takeR (fun s K hs h => c_takeR s hs K h)
 unfold xO at h0 h1 hw ⊢
 refine call_fun [] 5 Tryz.func105 (by rfl) (by rfl) ?_
 conv=>whnf
 (repeat' first | (refine step_go [] ?_;conv=>whnf) | (refine two ?_ ?_<;>intro g<;>(try simp only[bsx]at g)<;>(conv=>whnf)) | (refine And.intro rfl ?_;conv=>whnf) | fail)
 refine (hw _ (fun n r i' e hd he => ?_) (fun p e i' he => ?_))
 · conv=>whnf
   (repeat' first | (refine step_go [] ?_;conv=>whnf) | (refine two ?_ ?_<;>intro g<;>(try simp only[bsx]at g)<;>(conv=>whnf)) | (refine And.intro rfl ?_;conv=>whnf) | fail)
   exact h0 n r i' e hd he
 · conv=>whnf
   (repeat' first | (refine step_go [] ?_;conv=>whnf) | (refine two ?_ ?_<;>intro g<;>(try simp only[bsx]at g)<;>(conv=>whnf)) | (refine And.intro rfl ?_;conv=>whnf) | fail)
   exact h1 p e i' he
set_option maxHeartbeats 2000000 in
theorem c_cl_cap (k : List C3.Tok) (i : Nat) (hk : endT (k.drop i)) (hl : okT k) (x : PS) (K : Out -> List VObj -> Prop)
 (h0 : ∀ n r i', takenS takeM (k.drop i) = .ok n r -> k.drop i' = r -> endT r -> K (.ret (.tup [])) (xO false false false k i' { x with p := { x.p with cap := n } })) (h1 : ∀ p e i', takenS takeM (k.drop i) = .err p e -> K (.pan (fltP p e)) (xO false false false k i' x)) :
 VCall Tryz.prog 108 [.ptr 0 0] (xO false false false k i x) K := by
 have hw := @c_tk64 k i hk hl x 126 takeM (fun s K hs h => c_takeM s hs K h)
 unfold xO at h0 h1 hw ⊢
 refine call_fun [] 5 Tryz.func108 (by rfl) (by rfl) ?_
 conv=>whnf
 (repeat' first | (refine step_go [] ?_;conv=>whnf) | (refine two ?_ ?_<;>intro g<;>(try simp only[bsx]at g)<;>(conv=>whnf)) | (refine And.intro rfl ?_;conv=>whnf) | fail)
 refine (hw _ (fun n r i' e hd he => ?_) (fun p e i' he => ?_))
 · conv=>whnf
   (repeat' first | (refine step_go [] ?_;conv=>whnf) | (refine two ?_ ?_<;>intro g<;>(try simp only[bsx]at g)<;>(conv=>whnf)) | (refine And.intro rfl ?_;conv=>whnf) | fail)
   exact h0 n r i' e hd he
 · conv=>whnf
   (repeat' first | (refine step_go [] ?_;conv=>whnf) | (refine two ?_ ?_<;>intro g<;>(try simp only[bsx]at g)<;>(conv=>whnf)) | (refine And.intro rfl ?_;conv=>whnf) | fail)
   exact h1 p e i' he
end C24

namespace C25
open Go Go.Proofs VL D1 B10 B12 B13 C8 BB6 BB10 BB14 C1 C2 C3 C4 C6 C15 C20 C22 C23
theorem end_sel {m : Nat} {v : V} {ob : List VObj} (src : List Nat) {K : V -> List VObj -> Prop} (h : St.selK m src ⟨[v], ob, 0, []⟩ fun s' => ∃ v' sub', Weak m s' ⟨[v'], sub', 0, []⟩ /\ K v' sub') : ∃ v' sub', Weak m ⟨[v], ob, 0, []⟩ ⟨[v'], sub', 0, []⟩ /\ K v' sub' := by
 obtain ⟨s', hw, v', sub', hw2, hk⟩ := weak_sel h
 exact ⟨_, _, hw.trans hw2, hk⟩
theorem buf_mv {z : Nat} {l l' : List V} {ty : Option TypeId} (h : l = l') : OW (.buf false z l ty) (.buf true z l' ty) := by subst h; exact .moved
theorem pick_range {ws : List (List Int)} {l : List C3.Tok} {n : Int} {r : List C3.Tok} (h : pickS ws l = .ok n r) : 1 <= n /\ n <= ws.length := by
 unfold pickS Res.bind at h
 split at h
 · simp only at h
   split at h
   · rename_i hm
     injection h with h1 h2
     have := List.idxOf_lt_length_iff.2 hm
     omega
   · cases h
 · cases h
set_option maxHeartbeats 2000000 in
theorem c_cl_round (k : List C3.Tok) (i : Nat) (hk : endT (k.drop i)) (hl : okT k) (x : PS) (K : Out -> List VObj -> Prop)
 (h0 : ∀ n r i', pickS [w_half_up, w_down] (k.drop i) = .ok n r -> k.drop i' = r -> endT r -> K (.ret (.tup [])) (xO false false false k i' { x with p := { x.p with rnd := if n = 1 then 1 else 3 } })) (h1 : ∀ p e i', pickS [w_half_up, w_down] (k.drop i) = .err p e -> K (.pan (fltP p e)) (xO false false false k i' x)) :
 VCall Tryz.prog 99 [.ptr 0 0] (xO false false false k i x) K := by
 have hw := @c_pick k i hk hl x [w_half_up, w_down] (by unfold bytesOk; decide) (by decide)
 unfold xO at h0 h1 hw ⊢
 refine call_fun [] 5 Tryz.func99 (by rfl) (by rfl) ?_
 conv=>whnf
 (repeat' first | (refine step_go [] ?_;conv=>whnf) | (refine two ?_ ?_<;>intro g<;>(try simp only[bsx]at g)<;>(conv=>whnf)) | (refine And.intro rfl ?_;conv=>whnf) | fail)
 refine VCall.args (args' := [.ptr 0 0, .sl (sL [w_half_up, w_down]) .no]) (.cons (.eq rfl) (.cons .no .nil)) rfl (hw _ (fun n r i' e hd he => ?_) (fun p e i' he => ?_))
 · have hr := pick_range e
   have hn : n = 1 \/ n = 2 := by simp at hr; omega
   have h0 := h0 n r i' e hd he
   rcases hn with rfl | rfl
   · conv=>whnf
     (repeat' first | (refine step_go [] ?_;conv=>whnf) | (refine two ?_ ?_<;>intro g<;>(try simp only[bsx]at g)<;>(conv=>whnf)) | (refine And.intro rfl ?_;conv=>whnf) | (refine ⟨by decide, _, rfl, rfl, ?_⟩;conv=>whnf) | fail)
     exact h0
   · conv=>whnf
     (repeat' first | (refine step_go [] ?_;conv=>whnf) | (refine two ?_ ?_<;>intro g<;>(try simp only[bsx]at g)<;>(conv=>whnf)) | (refine And.intro rfl ?_;conv=>whnf) | (refine ⟨by decide, _, rfl, rfl, ?_⟩;conv=>whnf) | fail)
     exact h0
 · conv=>whnf
   (repeat' first | (refine step_go [] ?_;conv=>whnf) | (refine two ?_ ?_<;>intro g<;>(try simp only[bsx]at g)<;>(conv=>whnf)) | (refine And.intro rfl ?_;conv=>whnf) | fail)
   exact h1 p e i' he
set_option maxHeartbeats 2000000 in
theorem c_cl_reset (k : List C3.Tok) (i : Nat) (hk : endT (k.drop i)) (hl : okT k) (x : PS) (hx : x.p.resets.length < 1000000) (K : Out -> List VObj -> Prop)
 (h0 : ∀ n v r r' i' s1, numberS (k.drop i) = .ok n r -> takenS takeR r = .ok v r' -> k.drop i' = r' -> endT r' -> K (.ret (.tup [])) (xO true true true k i' { x with p := { x.p with resets := x.p.resets ++ [⟨n, v⟩] }, s1 := s1 }))
 (h1 : ∀ p e i', numberS (k.drop i) = .err p e -> K (.pan (fltP p e)) (xO false false false k i' x))
 (h2 : ∀ n r p e i', numberS (k.drop i) = .ok n r -> takenS takeR r = .err p e -> K (.pan (fltP p e)) (xO false false false k i' x)) :
 VCall Tryz.prog 106 [.ptr 0 0] (xO false false false k i x) K := by
 have hrl : (rL x.p.resets).length = x.p.resets.length := by simp [rL]
 refine VCall.weak (call_fun [] 5 Tryz.func106 (by rfl) (by rfl) ?_)
 conv=>whnf
 (repeat' first | (refine step_go [] ?_;conv=>whnf) | (refine two ?_ ?_<;>intro g<;>(try simp only[bsx]at g)<;>(conv=>whnf)) | (refine And.intro rfl ?_;conv=>whnf) | fail)
 refine c_number k i hk hl x _ (fun n r i' e hd he => ?_) (fun p e i' he => ?_)
 rotate_left
 · conv=>whnf
   (repeat' first | (refine step_go [] ?_;conv=>whnf) | (refine two ?_ ?_<;>intro g<;>(try simp only[bsx]at g)<;>(conv=>whnf)) | (refine And.intro rfl ?_;conv=>whnf) | fail)
   exact h1 p e i' he
 conv=>whnf
 (repeat' first | (refine step_go [] ?_;conv=>whnf) | (refine two ?_ ?_<;>intro g<;>(try simp only[bsx]at g)<;>(conv=>whnf)) | (refine And.intro rfl ?_;conv=>whnf) | fail)
 refine c_tk64 k i' (by rw [hd]; exact he) hl x 125 takeR (fun s K hs h => c_takeR s hs K h) _ (fun v r' i2 e2 hd2 he2 => ?_) (fun p e2 i2 he2 => ?_)
 rotate_left
 · rw [hd] at he2
   conv=>whnf
   (repeat' first | (refine step_go [] ?_;conv=>whnf) | (refine two ?_ ?_<;>intro g<;>(try simp only[bsx]at g)<;>(conv=>whnf)) | (refine And.intro rfl ?_;conv=>whnf) | fail)
   exact h2 n r p e2 i2 e he2
 rw [hd] at e2
 conv=>whnf
 (repeat' first | (refine step_go [] ?_;conv=>whnf) | (refine two ?_ ?_<;>intro g<;>(try simp only[bsx]at g)<;>(conv=>whnf)) | (refine And.intro rfl ?_;conv=>whnf) | (refine dr_go (by decide +kernel) ?_;conv=>whnf) | fail)
 refine ⟨by simp; omega, by simp [V.cells], ?_⟩
 conv=>whnf
 (repeat' first | (refine step_go [] ?_;conv=>whnf) | (refine two ?_ ?_<;>intro g<;>(try simp only[bsx]at g)<;>(conv=>whnf)) | (refine And.intro rfl ?_;conv=>whnf) | (refine dr_go (by decide +kernel) ?_;conv=>whnf) | fail)
 · have hs1 : 1 <= x.s1.length := by have := Nat.le_of_ble_eq_true g; simp at this; omega
   refine ⟨by simp [rL], ?_⟩
   conv=>whnf
   (repeat' first | (refine step_go [] ?_;conv=>whnf) | (refine two ?_ ?_<;>intro g<;>(try simp only[bsx]at g)<;>(conv=>whnf)) | (refine And.intro rfl ?_;conv=>whnf) | (refine dr_go (by decide +kernel) ?_;conv=>whnf) | fail)
   have hap := app_in encR x.p.resets ⟨n, v⟩ x.s1
   refine ⟨_, _, weak_of (.cons (.eq rfl) .nil) (.cons (.cells ?_) (.cons (buf_mv hap) (.cons .moved (.cons .moved (.cons (.eq rfl) .nil))))) rfl rfl rfl, h0 n v r r' i2 (x.s1.drop 1) e e2 hd2 he2⟩
   repeat' first
    | exact VWs.nil
    | refine VWs.cons (VW.eq rfl) ?_
    | refine VWs.cons (VW.eq (V_slo (by simp) (by simp; omega))) ?_
 · refine ⟨by simp [rL], fun sp hsp => ?_⟩
   conv=>whnf
   (repeat' first | (refine step_go [] ?_;conv=>whnf) | (refine two ?_ ?_<;>intro g<;>(try simp only[bsx]at g)<;>(conv=>whnf)) | (refine And.intro rfl ?_;conv=>whnf) | (refine dr_go (by decide +kernel) ?_;conv=>whnf) | fail)
   have hap := app_gr encR x.p.resets ⟨n, v⟩ x.s1 sp
   refine end_sel [0, 5, 2, 3, 4] ?_
   conv=>whnf
   refine ⟨_, _, weak_of (.cons (.eq rfl) .nil) (.cons (.cells ?_) (.cons (.eq (congrArg (fun l => VObj.buf true 2 l none) hap)) (.cons .moved (.cons .moved (.cons (.eq rfl) .nil))))) rfl rfl rfl, h0 n v r r' i2 sp e e2 hd2 he2⟩
   repeat' first
    | exact VWs.nil
    | refine VWs.cons (VW.eq rfl) ?_
    | refine VWs.cons (VW.eq (V_slo (by simp) (by simp))) ?_
set_option maxHeartbeats 2000000 in
theorem c_cl_late (k : List C3.Tok) (i : Nat) (hk : endT (k.drop i)) (hl : okT k) (x : PS) (hx : x.p.late.length < 1000000) (K : Out -> List VObj -> Prop)
 (h0 : ∀ n v r r' i' s2, numberS (k.drop i) = .ok n r -> takenS takeM r = .ok v r' -> k.drop i' = r' -> endT r' -> K (.ret (.tup [])) (xO true true true k i' { x with p := { x.p with late := x.p.late ++ [⟨n, v⟩] }, s2 := s2 }))
 (h1 : ∀ p e i', numberS (k.drop i) = .err p e -> K (.pan (fltP p e)) (xO false false false k i' x))
 (h2 : ∀ n r p e i', numberS (k.drop i) = .ok n r -> takenS takeM r = .err p e -> K (.pan (fltP p e)) (xO false false false k i' x)) :
 VCall Tryz.prog 107 [.ptr 0 0] (xO false false false k i x) K := by
 have hrl : (tL x.p.late).length = x.p.late.length := by simp [tL]
 refine VCall.weak (call_fun [] 5 Tryz.func107 (by rfl) (by rfl) ?_)
 conv=>whnf
 (repeat' first | (refine step_go [] ?_;conv=>whnf) | (refine two ?_ ?_<;>intro g<;>(try simp only[bsx]at g)<;>(conv=>whnf)) | (refine And.intro rfl ?_;conv=>whnf) | fail)
 refine c_number k i hk hl x _ (fun n r i' e hd he => ?_) (fun p e i' he => ?_)
 rotate_left
 · conv=>whnf
   (repeat' first | (refine step_go [] ?_;conv=>whnf) | (refine two ?_ ?_<;>intro g<;>(try simp only[bsx]at g)<;>(conv=>whnf)) | (refine And.intro rfl ?_;conv=>whnf) | fail)
   exact h1 p e i' he
 conv=>whnf
 (repeat' first | (refine step_go [] ?_;conv=>whnf) | (refine two ?_ ?_<;>intro g<;>(try simp only[bsx]at g)<;>(conv=>whnf)) | (refine And.intro rfl ?_;conv=>whnf) | fail)
 refine c_tk64 k i' (by rw [hd]; exact he) hl x 126 takeM (fun s K hs h => c_takeM s hs K h) _ (fun v r' i2 e2 hd2 he2 => ?_) (fun p e2 i2 he2 => ?_)
 rotate_left
 · rw [hd] at he2
   conv=>whnf
   (repeat' first | (refine step_go [] ?_;conv=>whnf) | (refine two ?_ ?_<;>intro g<;>(try simp only[bsx]at g)<;>(conv=>whnf)) | (refine And.intro rfl ?_;conv=>whnf) | fail)
   exact h2 n r p e2 i2 e he2
 rw [hd] at e2
 conv=>whnf
 (repeat' first | (refine step_go [] ?_;conv=>whnf) | (refine two ?_ ?_<;>intro g<;>(try simp only[bsx]at g)<;>(conv=>whnf)) | (refine And.intro rfl ?_;conv=>whnf) | (refine dr_go (by decide +kernel) ?_;conv=>whnf) | fail)
 refine ⟨by simp; omega, by simp [V.cells], ?_⟩
 conv=>whnf
 (repeat' first | (refine step_go [] ?_;conv=>whnf) | (refine two ?_ ?_<;>intro g<;>(try simp only[bsx]at g)<;>(conv=>whnf)) | (refine And.intro rfl ?_;conv=>whnf) | (refine dr_go (by decide +kernel) ?_;conv=>whnf) | fail)
 · have hs1 : 1 <= x.s2.length := by have := Nat.le_of_ble_eq_true g; simp at this; omega
   refine ⟨by simp [tL], ?_⟩
   conv=>whnf
   (repeat' first | (refine step_go [] ?_;conv=>whnf) | (refine two ?_ ?_<;>intro g<;>(try simp only[bsx]at g)<;>(conv=>whnf)) | (refine And.intro rfl ?_;conv=>whnf) | (refine dr_go (by decide +kernel) ?_;conv=>whnf) | fail)
   have hap := app_in encT x.p.late ⟨n, v⟩ x.s2
   refine ⟨_, _, weak_of (.cons (.eq rfl) .nil) (.cons (.cells ?_) (.cons .moved (.cons (buf_mv hap) (.cons .moved (.cons (.eq rfl) .nil))))) rfl rfl rfl, h0 n v r r' i2 (x.s2.drop 1) e e2 hd2 he2⟩
   repeat' first
    | exact VWs.nil
    | refine VWs.cons (VW.eq rfl) ?_
    | refine VWs.cons (VW.eq (V_slo (by simp) (by simp; omega))) ?_
 · refine ⟨by simp [tL], fun sp hsp => ?_⟩
   conv=>whnf
   (repeat' first | (refine step_go [] ?_;conv=>whnf) | (refine two ?_ ?_<;>intro g<;>(try simp only[bsx]at g)<;>(conv=>whnf)) | (refine And.intro rfl ?_;conv=>whnf) | (refine dr_go (by decide +kernel) ?_;conv=>whnf) | fail)
   have hap := app_gr encT x.p.late ⟨n, v⟩ x.s2 sp
   refine end_sel [0, 1, 5, 3, 4] ?_
   conv=>whnf
   refine ⟨_, _, weak_of (.cons (.eq rfl) .nil) (.cons (.cells ?_) (.cons .moved (.cons (.eq (congrArg (fun l => VObj.buf true 2 l none) hap)) (.cons .moved (.cons (.eq rfl) .nil))))) rfl rfl rfl, h0 n v r r' i2 sp e e2 hd2 he2⟩
   repeat' first
    | exact VWs.nil
    | refine VWs.cons (VW.eq rfl) ?_
    | refine VWs.cons (VW.eq (V_slo (by simp) (by simp))) ?_
set_option maxHeartbeats 2000000 in
theorem c_cl_hol (k : List C3.Tok) (i : Nat) (hk : endT (k.drop i)) (hl : okT k) (x : PS) (hx : x.p.hol.length < 1000000) (K : Out -> List VObj -> Prop)
 (h0 : ∀ v r' i' s3, takenS takeD (k.drop i) = .ok v r' -> k.drop i' = r' -> endT r' -> K (.ret (.tup [])) (xO true true true k i' { x with p := { x.p with hol := x.p.hol ++ [v] }, s3 := s3 }))
 (h1 : ∀ p e i', takenS takeD (k.drop i) = .err p e -> K (.pan (fltP p e)) (xO false false false k i' x)) :
 VCall Tryz.prog 109 [.ptr 0 0] (xO false false false k i x) K := by
 have hrl : (iL x.p.hol).length = x.p.hol.length := by simp [iL]
 refine VCall.weak (call_fun [] 5 Tryz.func109 (by rfl) (by rfl) ?_)
 conv=>whnf
 (repeat' first | (refine step_go [] ?_;conv=>whnf) | (refine two ?_ ?_<;>intro g<;>(try simp only[bsx]at g)<;>(conv=>whnf)) | (refine And.intro rfl ?_;conv=>whnf) | (refine dr_go (by decide +kernel) ?_;conv=>whnf) | fail)
 refine c_tkI k i hk hl x 128 takeD (fun s K hs h => c_Take s hs K h) _ (fun v r' i2 e2 hd2 he2 => ?_) (fun p e2 i2 he2 => ?_)
 rotate_left
 · conv=>whnf
   (repeat' first | (refine step_go [] ?_;conv=>whnf) | (refine two ?_ ?_<;>intro g<;>(try simp only[bsx]at g)<;>(conv=>whnf)) | (refine And.intro rfl ?_;conv=>whnf) | fail)
   exact h1 p e2 i2 he2
 conv=>whnf
 (repeat' first | (refine step_go [] ?_;conv=>whnf) | (refine two ?_ ?_<;>intro g<;>(try simp only[bsx]at g)<;>(conv=>whnf)) | (refine And.intro rfl ?_;conv=>whnf) | (refine dr_go (by decide +kernel) ?_;conv=>whnf) | fail)
 refine ⟨by simp; omega, by simp [V.cells], ?_⟩
 conv=>whnf
 (repeat' first | (refine step_go [] ?_;conv=>whnf) | (refine two ?_ ?_<;>intro g<;>(try simp only[bsx]at g)<;>(conv=>whnf)) | (refine And.intro rfl ?_;conv=>whnf) | (refine dr_go (by decide +kernel) ?_;conv=>whnf) | fail)
 · have hs1 : 1 <= x.s3.length := by have := Nat.le_of_ble_eq_true g; simp at this; omega
   refine ⟨by simp [iL], ?_⟩
   conv=>whnf
   (repeat' first | (refine step_go [] ?_;conv=>whnf) | (refine two ?_ ?_<;>intro g<;>(try simp only[bsx]at g)<;>(conv=>whnf)) | (refine And.intro rfl ?_;conv=>whnf) | (refine dr_go (by decide +kernel) ?_;conv=>whnf) | fail)
   have hap := app_in (V.int .i64) x.p.hol v x.s3
   refine ⟨_, _, weak_of (.cons (.eq rfl) .nil) (.cons (.cells ?_) (.cons .moved (.cons .moved (.cons (buf_mv hap) (.cons (.eq rfl) .nil))))) rfl rfl rfl, h0 v r' i2 (x.s3.drop 1) e2 hd2 he2⟩
   repeat' first
    | exact VWs.nil
    | refine VWs.cons (VW.eq rfl) ?_
    | refine VWs.cons (VW.eq (V_slo (by simp) (by simp; omega))) ?_
 · refine ⟨by simp [iL], fun sp hsp => ?_⟩
   conv=>whnf
   (repeat' first | (refine step_go [] ?_;conv=>whnf) | (refine two ?_ ?_<;>intro g<;>(try simp only[bsx]at g)<;>(conv=>whnf)) | (refine And.intro rfl ?_;conv=>whnf) | (refine dr_go (by decide +kernel) ?_;conv=>whnf) | fail)
   have hap := app_gr (V.int .i64) x.p.hol v x.s3 sp
   refine end_sel [0, 1, 2, 5, 4] ?_
   conv=>whnf
   refine ⟨_, _, weak_of (.cons (.eq rfl) .nil) (.cons (.cells ?_) (.cons .moved (.cons .moved (.cons (.eq (congrArg (fun l => VObj.buf true 1 l none) hap)) (.cons (.eq rfl) .nil))))) rfl rfl rfl, h0 v r' i2 sp e2 hd2 he2⟩
   repeat' first
    | exact VWs.nil
    | refine VWs.cons (VW.eq rfl) ?_
    | refine VWs.cons (VW.eq (V_slo (by simp) (by simp))) ?_
end C25

namespace C26
open Go Go.Proofs VL D1 B10 B12 B13 C8 BB6 BB10 BB14 C1 C2 C3 C4 C6 C15 C20 C22 C23 C25
def ordP (p : Prod) (a : List Int) : Prod := { p with o1 := a.getD 0 p.o1, o2 := a.getD 1 p.o2, o3 := a.getD 2 p.o3, o4 := a.getD 3 p.o4 }
theorem orderN_len : ∀ (n : Nat) (a : List Int) (l : List C3.Tok) (o : List Int) (r : List C3.Tok), orderN n a l = .ok o r -> o.length = a.length + n
 | 0, a, l, o, r, h => by
   unfold orderN at h
   injection h with h1 h2
   rw [← h1]; rfl
 | n + 1, a, l, o, r, h => by
   unfold orderN Res.bind at h
   split at h
   · simp only at h
     split at h
     · cases h
     · have := orderN_len n _ _ _ _ h
       rw [List.length_append] at this
       simp at this
       omega
   · cases h
theorem orderN_step {n : Nat} {a : List Int} {l : List C3.Tok} : orderN (n + 1) a l = (pickS owords l).bind fun k r => if k ∈ a then .err (nextT l).1.at_ 7 else orderN n (a ++ [k]) r := rfl
set_option maxHeartbeats 4000000 in
theorem c_cl_order (k : List C3.Tok) (i : Nat) (hk : endT (k.drop i)) (hl : okT k) (x : PS) (K : Out -> List VObj -> Prop)
 (h0 : ∀ o r i', orderN 4 [] (k.drop i) = .ok o r -> k.drop i' = r -> endT r -> K (.ret (.tup [])) (xO false false false k i' { x with p := ordP x.p o })) (h1 : ∀ p e i' x', orderN 4 [] (k.drop i) = .err p e -> K (.pan (fltP p e)) (xO false false false k i' { x with p := x' })) :
 VCall Tryz.prog 110 [.ptr 0 0] (xO false false false k i x) K := by
 have hp := fun i hk x => @c_pick k i hk hl x owords (by unfold bytesOk; decide) (by decide)
 let S : Nat × List Int × Nat -> St := fun q => ⟨(.ptr 0 0 :: .undef :: .ptr 5 0 :: .undef :: .undef :: .undef :: .int .i64 (q.1 : Nat) :: .undef :: .undef :: .undef :: .undef :: .undef :: .undef :: .undef :: .undef :: .undef :: .undef :: .undef :: .undef :: .undef :: .undef :: .undef :: .undef :: .undef :: .undef :: .undef :: .undef :: .undef :: .undef :: .undef :: .undef :: .undef :: .undef :: .undef :: .undef :: .undef :: .undef :: []), xO false false false k q.2.2 { x with p := ordP x.p q.2.1 } ++ [.cells true 121 [.bool false, .bool (decide (1 ∈ q.2.1)), .bool (decide (2 ∈ q.2.1)), .bool (decide (3 ∈ q.2.1)), .bool (decide (4 ∈ q.2.1))]], 0, []⟩
 unfold xO
 refine call_fun [] 5 Tryz.func110 (by rfl) (by rfl) ?_
 conv=>whnf
 (repeat' first | (refine step_go [] ?_;conv=>whnf) | (refine two ?_ ?_<;>intro g<;>(try simp only[bsx]at g)<;>(conv=>whnf)) | (refine And.intro rfl ?_;conv=>whnf) | fail)
 refine VLoop.enter (s' := S (0, [], i)) (weak_of ?_ (.cons (.eq rfl) (.cons (.eq rfl) (.cons (.eq rfl) (.cons (.eq rfl) (.cons (.eq rfl) (.cons (.eq rfl) .nil)))))) rfl rfl rfl)
  (VLoop.indW S (fun q => 4 - q.1) (fun q => q.1 <= 4 /\ q.2.1.length = q.1 /\ endT (k.drop q.2.2) /\ orderN 4 [] (k.drop i) = orderN (4 - q.1) q.2.1 (k.drop q.2.2)) ?_ (0, [], i) ⟨by omega, rfl, hk, rfl⟩)
 · (repeat' first | exact VWs.nil | refine VWs.cons VW.undef ?_ | refine VWs.cons (VW.eq rfl) ?_ | refine VWs.cons (VW.eq (congrArg (V.int .i64) (by (try simp only); rw [wrap64 (by omega) (by omega)]; (try omega)))) ?_)
 rintro ⟨j, acc, i1⟩ ⟨hj, ha, hk1, he⟩ ih
 simp only at hj ha hk1 he
 have hn := endT_next hk1
 obtain ⟨_, t, r, hd, e1, e2⟩ := hn
 have hil : i1 < k.length := by
  have := congrArg List.length hd
  rw [List.length_drop, List.length_cons] at this; omega
 have hget : (kL k)[((i1 : Nat) : Int).toNat]? = some (encK t) := by
  have : k[i1]? = some t := by
   have := congrArg (fun l => l[0]?) hd
   simpa using this
  rw [Int.toNat_natCast]; simp [kL, this]
 have hbig := hl.1
 have hkl : (kL k).length = k.length := by simp [kL]
 have hj : j = 4 \/ j = 0 \/ j = 1 \/ j = 2 \/ j = 3 := by omega
 have hout : ∀ n r2, pickS owords (k.drop i1) = .ok n r2 -> n = 1 \/ n = 2 \/ n = 3 \/ n = 4 := fun n r2 e => by
  have := pick_range e
  simp [owords] at this
  omega
 have hs : j < 4 -> orderN 4 [] (k.drop i) = orderN (4 - (j + 1) + 1) acc (k.drop i1) := fun h => by rw [he]; congr 1; omega
 have hb : j < 4 -> ∀ n r2, pickS owords (k.drop i1) = .ok n r2 -> orderN 4 [] (k.drop i) = if n ∈ acc then .err t.at_ 7 else orderN (4 - (j + 1)) (acc ++ [n]) r2 := fun h n r2 e => by rw [hs h, orderN_step, e, e1]; rfl
 have hbe : j < 4 -> ∀ p e2, pickS owords (k.drop i1) = .err p e2 -> orderN 4 [] (k.drop i) = .err p e2 := fun h p e2 e => by rw [hs h, orderN_step, e]; rfl
 clear hs
 obtain ⟨j1, hj1⟩ : ∃ j1, j1 = j + 1 := ⟨_, rfl⟩
 rcases hj with rfl | rfl | rfl | rfl | rfl
 · refine loop_round [] ?_; conv=>whnf
   (repeat' first | (refine step_go [] ?_;conv=>whnf) | (refine two ?_ ?_<;>intro g<;>(try simp only[bsx]at g)<;>(conv=>whnf)) | (refine And.intro rfl ?_;conv=>whnf) | fail)
   refine ⟨_, Weak.refl, ?_⟩; conv=>whnf
   (repeat' first | (refine step_go [] ?_;conv=>whnf) | (refine two ?_ ?_<;>intro g<;>(try simp only[bsx]at g)<;>(conv=>whnf)) | (refine And.intro rfl ?_;conv=>whnf) | fail)
   exact h0 acc _ i1 he rfl hk1
 all_goals
  dsimp only [S]
  refine loop_round [] ?_; conv=>whnf
  (repeat' first | (refine step_go [] ?_;conv=>whnf) | (refine two ?_ ?_<;>intro g<;>(try simp only[bsx]at g)<;>(conv=>whnf)) | (refine And.intro rfl ?_;conv=>whnf) | fail)
  refine VCall.args (args' := [.ptr 0 0, .sl (sL owords) .no]) (.cons (.eq rfl) (.cons .no .nil)) rfl (hp i1 hk1 _ _ (fun n r2 i2 e hd2 he2 => ?_) (fun p e i2 hee => ?_))
  rotate_left
  · conv=>whnf
    (repeat' first | (refine step_go [] ?_;conv=>whnf) | (refine two ?_ ?_<;>intro g<;>(try simp only[bsx]at g)<;>(conv=>whnf)) | (refine And.intro rfl ?_;conv=>whnf) | fail)
    exact h1 _ _ _ _ (hbe (by decide) _ _ hee)
  have hb := hb (by decide) n r2 e
  clear hbe
  obtain ⟨n1, hn1⟩ : ∃ n1, n1 = n := ⟨_, rfl⟩
  rcases hout n r2 e with rfl | rfl | rfl | rfl
  all_goals
   conv=>whnf
   (repeat' first | (refine step_go [] ?_;conv=>whnf) | (refine two ?_ ?_<;>intro g<;>(try simp only[bsx]at g)<;>(conv=>whnf)) | (refine And.intro rfl ?_;conv=>whnf) | (refine ⟨by decide, _, rfl, rfl, ?_⟩;conv=>whnf) | (refine ⟨by omega, _, hget, rfl, ?_⟩;conv=>whnf) | (refine c_wrong t _ ?_;conv=>whnf) | (refine ⟨by decide, by decide, ?_⟩;conv=>whnf) | fail)
   · rename_i g
     exact h1 _ _ i2 (ordP x.p acc) (by rw [hb, if_pos g])
   · rename_i g
     rw [if_neg g] at hb
     have hinv : j1 <= 4 /\ (acc ++ [n1]).length = j1 /\ endT (k.drop i2) /\ orderN 4 [] (k.drop i) = orderN (4 - j1) (acc ++ [n1]) (k.drop i2) := ⟨by omega, by rw [List.length_append, ha, hj1]; rfl, by rw [hd2]; exact he2, by rw [hd2, hj1, hn1]; exact hb⟩
     refine ⟨S (j1, acc ++ [n1], i2), weak_of ?_ (.cons (.cells ?_) (.cons (.eq rfl) (.cons (.eq rfl) (.cons (.eq rfl) (.cons (.eq rfl) (.cons (.cells ?_) .nil)))))) rfl rfl rfl, ih (j1, acc ++ [n1], i2) hinv (by show 4 - j1 < _; omega)⟩
     all_goals
      subst hj1 hn1
      rcases acc with _ | ⟨a1, _ | ⟨a2, _ | ⟨a3, _ | ⟨a4, acc⟩⟩⟩⟩
      all_goals first
       | (exfalso; revert ha; simp; done)
       | skip
      (repeat' first | exact VWs.nil | refine VWs.cons VW.undef ?_ | refine VWs.cons (VW.eq rfl) ?_ | (refine VWs.cons (VW.eq (congrArg V.bool ?_)) ?_; exact (by simp)) | refine VWs.cons (VW.eq (congrArg (V.int .i64) (wrap64 (by omega) (by omega)))) ?_)
end C26

namespace C27
open Go Go.Proofs VL D1 B10 B12 B13 C8 BB6 BB10 BB14 C1 C2 C3 C4 C6 C15 C20 C22 C23 C25
set_option maxHeartbeats 4000000 in
theorem c_clause (w : List Int) (hw : ∀ x ∈ w, 0 <= x /\ x < 256) (k : List C3.Tok) (i : Nat) (x : PS) (K : Out -> List VObj -> Prop)
 (h_count : w = w_count -> K (.ret (.tup [.fn (.func 98) [.ptr 0 0] [], .bool false]))  (xO false false false k i x))
 (h_round : w = w_round -> K (.ret (.tup [.fn (.func 99) [.ptr 0 0] [], .bool false]))  (xO false false false k i x))
 (h_kind : w = w_kind -> K (.ret (.tup [.fn (.func 100) [.ptr 0 0] [], .bool false]))  (xO false false false k i x))
 (h_every : w = w_every -> K (.ret (.tup [.fn (.func 101) [.ptr 0 0] [], .bool false]))  (xO false false false k i x))
 (h_times : w = w_times -> K (.ret (.tup [.fn (.func 102) [.ptr 0 0] [], .bool false]))  (xO false false false k i x))
 (h_grace : w = w_grace -> K (.ret (.tup [.fn (.func 103) [.ptr 0 0] [], .bool false]))  (xO false false false k i x))
 (h_rate : w = w_rate -> K (.ret (.tup [.fn (.func 104) [.ptr 0 0] [], .bool false]))  (xO false false false k i x))
 (h_penalty : w = w_penalty -> K (.ret (.tup [.fn (.func 105) [.ptr 0 0] [], .bool false]))  (xO false false false k i x))
 (h_reset : w = w_reset -> K (.ret (.tup [.fn (.func 106) [.ptr 0 0] [], .bool true]))  (xO false false false k i x))
 (h_late : w = w_late -> K (.ret (.tup [.fn (.func 107) [.ptr 0 0] [], .bool true]))  (xO false false false k i x))
 (h_cap : w = w_cap -> K (.ret (.tup [.fn (.func 108) [.ptr 0 0] [], .bool false]))  (xO false false false k i x))
 (h_holiday : w = w_holiday -> K (.ret (.tup [.fn (.func 109) [.ptr 0 0] [], .bool true]))  (xO false false false k i x))
 (h_order : w = w_order -> K (.ret (.tup [.fn (.func 110) [.ptr 0 0] [], .bool false]))  (xO false false false k i x))
 (h_over : w = w_over -> K (.ret (.tup [.fn (.func 111) [.ptr 0 0] [], .bool false]))  (xO false false false k i x))
 (h_roll : w = w_roll -> K (.ret (.tup [.fn (.func 112) [.ptr 0 0] [], .bool false]))  (xO false false false k i x))
 (h_none : w ≠ w_count -> w ≠ w_round -> w ≠ w_kind -> w ≠ w_every -> w ≠ w_times -> w ≠ w_grace -> w ≠ w_rate -> w ≠ w_penalty -> w ≠ w_reset -> w ≠ w_late -> w ≠ w_cap -> w ≠ w_holiday -> w ≠ w_order -> w ≠ w_over -> w ≠ w_roll -> K (.ret (.tup [.niln, .bool false]))  (xO false false false k i x)) :
 VCall Tryz.prog 81 [.ptr 0 0, .str (toBA w)] (xO false false false k i x) K := by
 have e_count : (toBA w).toList = (⟨#[99, 111, 117, 110, 116]⟩ : ByteArray).toList ↔ w = w_count := toBA_eq hw (b := w_count) (by decide)
 have e_round : (toBA w).toList = (⟨#[114, 111, 117, 110, 100]⟩ : ByteArray).toList ↔ w = w_round := toBA_eq hw (b := w_round) (by decide)
 have e_kind : (toBA w).toList = (⟨#[107, 105, 110, 100]⟩ : ByteArray).toList ↔ w = w_kind := toBA_eq hw (b := w_kind) (by decide)
 have e_every : (toBA w).toList = (⟨#[101, 118, 101, 114, 121]⟩ : ByteArray).toList ↔ w = w_every := toBA_eq hw (b := w_every) (by decide)
 have e_times : (toBA w).toList = (⟨#[116, 105, 109, 101, 115]⟩ : ByteArray).toList ↔ w = w_times := toBA_eq hw (b := w_times) (by decide)
 have e_grace : (toBA w).toList = (⟨#[103, 114, 97, 99, 101]⟩ : ByteArray).toList ↔ w = w_grace := toBA_eq hw (b := w_grace) (by decide)
 have e_rate : (toBA w).toList = (⟨#[114, 97, 116, 101]⟩ : ByteArray).toList ↔ w = w_rate := toBA_eq hw (b := w_rate) (by decide)
 have e_penalty : (toBA w).toList = (⟨#[112, 101, 110, 97, 108, 116, 121]⟩ : ByteArray).toList ↔ w = w_penalty := toBA_eq hw (b := w_penalty) (by decide)
 have e_reset : (toBA w).toList = (⟨#[114, 101, 115, 101, 116]⟩ : ByteArray).toList ↔ w = w_reset := toBA_eq hw (b := w_reset) (by decide)
 have e_late : (toBA w).toList = (⟨#[108, 97, 116, 101]⟩ : ByteArray).toList ↔ w = w_late := toBA_eq hw (b := w_late) (by decide)
 have e_cap : (toBA w).toList = (⟨#[99, 97, 112]⟩ : ByteArray).toList ↔ w = w_cap := toBA_eq hw (b := w_cap) (by decide)
 have e_holiday : (toBA w).toList = (⟨#[104, 111, 108, 105, 100, 97, 121]⟩ : ByteArray).toList ↔ w = w_holiday := toBA_eq hw (b := w_holiday) (by decide)
 have e_order : (toBA w).toList = (⟨#[111, 114, 100, 101, 114]⟩ : ByteArray).toList ↔ w = w_order := toBA_eq hw (b := w_order) (by decide)
 have e_over : (toBA w).toList = (⟨#[111, 118, 101, 114]⟩ : ByteArray).toList ↔ w = w_over := toBA_eq hw (b := w_over) (by decide)
 have e_roll : (toBA w).toList = (⟨#[114, 111, 108, 108]⟩ : ByteArray).toList ↔ w = w_roll := toBA_eq hw (b := w_roll) (by decide)
 unfold xO at *
 refine call_fun [] 5 Tryz.func81 (by rfl) (by rfl) ?_
 conv=>whnf
 (repeat' first | (refine step_go [] ?_;conv=>whnf) | (refine two ?_ ?_<;>intro g<;>(try simp only[bsx, e_count, e_round, e_kind, e_every, e_times, e_grace, e_rate, e_penalty, e_reset, e_late, e_cap, e_holiday, e_order, e_over, e_roll]at g)<;>(conv=>whnf)) | (refine And.intro rfl ?_;conv=>whnf) | fail)
 · exact h_count (by assumption)
 · exact h_round (by assumption)
 · exact h_kind (by assumption)
 · exact h_every (by assumption)
 · exact h_times (by assumption)
 · exact h_grace (by assumption)
 · exact h_rate (by assumption)
 · exact h_penalty (by assumption)
 · exact h_reset (by assumption)
 · exact h_late (by assumption)
 · exact h_cap (by assumption)
 · exact h_holiday (by assumption)
 · exact h_order (by assumption)
 · exact h_over (by assumption)
 · exact h_roll (by assumption)
 · apply h_none <;> assumption
end C27

namespace C28
open Go Go.Proofs VL D1 B10 C1 C2 C3 C4 C6 C22
def mapW (l : List (List Int)) : List (V × V) := l.map fun w => (.str (toBA w), .bool true)
def Byt (w : List Int) : Prop := ∀ x ∈ w, 0 <= x /\ x < 256
def SnR (e : List (V × V)) (sn : List (List Int)) : Prop := ∃ l, e = mapW l /\ (∀ w, w ∈ l ↔ w ∈ sn) /\ ∀ w ∈ l, Byt w
theorem SnR_nil : SnR [] [] := ⟨[], rfl, fun _ => Iff.rfl, by simp⟩
theorem keyW {a b : List Int} (ha : Byt a) (hb : Byt b) : keyB (.str (toBA a)) (.str (toBA b)) = decide (a = b) := by
 show ((toBA a) == (toBA b)) = _
 have h := toBA_eq ha hb
 have e1 : (toBA a == toBA b) = ((toBA a).data == (toBA b).data) := rfl
 rw [e1, Bool.eq_iff_iff, decide_eq_true_iff, beq_iff_eq, ← h]
 exact ⟨fun h2 => by rw [ByteArray.ext h2], fun h2 => by rw [h.1 h2]⟩
theorem mapW_find {l : List (List Int)} {w : List Int} (hl : ∀ w ∈ l, Byt w) (hw : Byt w) : (mapW l).find? (fun e => keyB (.str (toBA w)) e.1) = if w ∈ l then some (.str (toBA w), .bool true) else none := by
 induction l with
 | nil => rfl
 | cons a l ih =>
   have iha := ih fun w h => hl w (.tail _ h)
   simp only [mapW, List.map_cons, List.find?_cons]
   rw [keyW hw (hl a (.head _))]
   by_cases e : w = a
   · subst e; simp
   · simp only [e, decide_false, List.mem_cons, false_or]
     exact iha
theorem mapW_upd {l : List (List Int)} {w : List Int} (hl : ∀ w ∈ l, Byt w) (hw : Byt w) : updV (.str (toBA w)) (.bool true) (mapW l) = mapW (if w ∈ l then l else l ++ [w]) := by
 induction l with
 | nil => rfl
 | cons a l ih =>
   have iha := ih fun w h => hl w (.tail _ h)
   simp only [mapW, List.map_cons] at iha ⊢
   unfold updV
   simp only
   rw [keyW hw (hl a (.head _))]
   by_cases e : w = a
   · subst e; simp
   · simp only [e, decide_false, Bool.false_eq_true, if_false, List.mem_cons, false_or]
     rw [iha]
     split <;> simp
theorem SnR_upd {e : List (V × V)} {sn : List (List Int)} {w : List Int} (h : SnR e sn) (hw : Byt w) : SnR (updV (.str (toBA w)) (.bool true) e) (w :: sn) := by
 obtain ⟨l, rfl, h1, h2⟩ := h
 refine ⟨_, mapW_upd h2 hw, fun u => ?_, fun u hu => ?_⟩
 · split
   · rw [h1, List.mem_cons]
     constructor
     · exact .inr
     · rintro (rfl | h)
       · exact (h1 _).1 (by assumption)
       · exact h
   · simp [h1, or_comm]
 · split at hu
   · exact h2 u hu
   · rcases List.mem_append.1 hu with h | h
     · exact h2 u h
     · simp at h; subst h; exact hw
theorem SnR_find {e : List (V × V)} {sn : List (List Int)} {w : List Int} (h : SnR e sn) (hw : Byt w) : e.find? (fun e => keyB (.str (toBA w)) e.1) = if w ∈ sn then some (.str (toBA w), .bool true) else none := by
 obtain ⟨l, rfl, h1, h2⟩ := h
 rw [mapW_find h2 hw]
 simp only [h1]
end C28

namespace C28b
open Go Go.Proofs VL D1 B10 C1 C2 C3 C4 C6 C22
theorem bind_ok {α β : Type} {x : Res α} {f : α -> List C3.Tok -> Res β} {b : β} {r : List C3.Tok} (h : x.bind f = .ok b r) : ∃ a s, x = .ok a s /\ f a s = .ok b r := by
 cases x with
 | ok a s => exact ⟨a, s, rfl, h⟩
 | err p e => cases h
theorem nextT_le (l : List C3.Tok) : (nextT l).2.length <= l.length := by
 cases l with
 | nil => exact Nat.le_refl _
 | cons t r =>
   show (if t.kind = 0 then (t, t :: r) else (t, r)).2.length <= _
   split
   · exact Nat.le_refl _
   · exact Nat.le_succ _
theorem wantS_le {k : Int} {w : List Int} {l r : List C3.Tok} {t : C3.Tok} (h : wantS k w l = .ok t r) : r.length <= l.length := by
 unfold wantS at h
 split at h
 · injection h with h1 h2
   rw [← h2]; exact nextT_le l
 · cases h
theorem numberS_le {l r : List C3.Tok} {n : Int} (h : numberS l = .ok n r) : r.length <= l.length := by
 obtain ⟨t, s, h1, h2⟩ := bind_ok h
 have := wantS_le h1
 split at h2
 · injection h2 with a b
   rw [← b]; exact this
 · cases h2
theorem takenS_le {f : List Int -> Int × Int} {l r : List C3.Tok} {n : Int} (h : takenS f l = .ok n r) : r.length <= l.length := by
 obtain ⟨t, s, h1, h2⟩ := bind_ok h
 have := wantS_le h1
 split at h2
 · injection h2 with a b
   rw [← b]; exact this
 · cases h2
theorem pickS_le {ws : List (List Int)} {l r : List C3.Tok} {n : Int} (h : pickS ws l = .ok n r) : r.length <= l.length := by
 obtain ⟨t, s, h1, h2⟩ := bind_ok h
 have := wantS_le h1
 split at h2
 · injection h2 with a b
   rw [← b]; exact this
 · cases h2
theorem orderN_le : ∀ (n : Nat) {a : List Int} {l r : List C3.Tok} {o : List Int}, orderN n a l = .ok o r -> r.length <= l.length
 | 0, a, l, r, o, h => by
   unfold orderN at h
   injection h with h1 h2
   rw [h2]
   exact Nat.le_refl _
 | n + 1, a, l, r, o, h => by
   unfold orderN at h
   obtain ⟨t, s, h1, h2⟩ := bind_ok h
   have := pickS_le h1
   split at h2
   · cases h2
   · exact Nat.le_trans (orderN_le n h2) this
theorem ite_or {α : Type} {c : Prop} [Decidable c] {a b : Option α} {x : α} (h : (if c then a else b) = some x) : a = some x \/ b = some x := by
 by_cases hc : c
 · rw [if_pos hc] at h; exact .inl h
 · rw [if_neg hc] at h; exact .inr h
theorem clauseS_le {w : List Int} {p q : Prod} {l r : List C3.Tok} {x : Res Prod} (hx : clauseS w p l = some x) (h : x = .ok q r) : r.length <= l.length /\ q.resets.length + q.late.length + q.hol.length <= p.resets.length + p.late.length + p.hol.length + 1 := by
 subst h
 unfold clauseS at hx
 rcases ite_or hx with hx | hx
 · injection hx with hx
   obtain ⟨a, s, h1, h2⟩ := bind_ok hx
   injection h2 with ha hb; subst ha hb
   exact ⟨pickS_le h1, Nat.le_succ _⟩
 rcases ite_or hx with hx | hx
 · injection hx with hx
   obtain ⟨a, s, h1, h2⟩ := bind_ok hx
   injection h2 with ha hb; subst ha hb
   exact ⟨pickS_le h1, Nat.le_succ _⟩
 rcases ite_or hx with hx | hx
 · injection hx with hx
   obtain ⟨a, s, h1, h2⟩ := bind_ok hx
   injection h2 with ha hb; subst ha hb
   exact ⟨pickS_le h1, Nat.le_succ _⟩
 rcases ite_or hx with hx | hx
 · injection hx with hx
   obtain ⟨a, s, h1, h2⟩ := bind_ok hx
   injection h2 with ha hb; subst ha hb
   exact ⟨numberS_le h1, Nat.le_succ _⟩
 rcases ite_or hx with hx | hx
 · injection hx with hx
   obtain ⟨a, s, h1, h2⟩ := bind_ok hx
   injection h2 with ha hb; subst ha hb
   exact ⟨numberS_le h1, Nat.le_succ _⟩
 rcases ite_or hx with hx | hx
 · injection hx with hx
   obtain ⟨a, s, h1, h2⟩ := bind_ok hx
   injection h2 with ha hb; subst ha hb
   exact ⟨numberS_le h1, Nat.le_succ _⟩
 rcases ite_or hx with hx | hx
 · injection hx with hx
   obtain ⟨a, s, h1, h2⟩ := bind_ok hx
   injection h2 with ha hb; subst ha hb
   exact ⟨takenS_le h1, Nat.le_succ _⟩
 rcases ite_or hx with hx | hx
 · injection hx with hx
   obtain ⟨a, s, h1, h2⟩ := bind_ok hx
   injection h2 with ha hb; subst ha hb
   exact ⟨takenS_le h1, Nat.le_succ _⟩
 rcases ite_or hx with hx | hx
 · injection hx with hx
   obtain ⟨a, s, h1, h2⟩ := bind_ok hx
   obtain ⟨a2, s2, h3, h4⟩ := bind_ok h2
   injection h4 with ha hb; subst ha hb
   refine ⟨Nat.le_trans (takenS_le h3) (numberS_le h1), ?_⟩
   simp; try omega
 rcases ite_or hx with hx | hx
 · injection hx with hx
   obtain ⟨a, s, h1, h2⟩ := bind_ok hx
   obtain ⟨a2, s2, h3, h4⟩ := bind_ok h2
   injection h4 with ha hb; subst ha hb
   refine ⟨Nat.le_trans (takenS_le h3) (numberS_le h1), ?_⟩
   simp; try omega
 rcases ite_or hx with hx | hx
 · injection hx with hx
   obtain ⟨a, s, h1, h2⟩ := bind_ok hx
   injection h2 with ha hb; subst ha hb
   exact ⟨takenS_le h1, Nat.le_succ _⟩
 rcases ite_or hx with hx | hx
 · injection hx with hx
   obtain ⟨a, s, h1, h2⟩ := bind_ok hx
   injection h2 with ha hb; subst ha hb
   refine ⟨takenS_le h1, ?_⟩
   simp; try omega
 rcases ite_or hx with hx | hx
 · injection hx with hx
   obtain ⟨a, s, h1, h2⟩ := bind_ok hx
   injection h2 with ha hb; subst ha hb
   exact ⟨orderN_le _ h1, Nat.le_succ _⟩
 rcases ite_or hx with hx | hx
 · injection hx with hx
   obtain ⟨a, s, h1, h2⟩ := bind_ok hx
   injection h2 with ha hb; subst ha hb
   exact ⟨pickS_le h1, Nat.le_succ _⟩
 rcases ite_or hx with hx | hx
 · injection hx with hx
   obtain ⟨a, s, h1, h2⟩ := bind_ok hx
   injection h2 with ha hb; subst ha hb
   exact ⟨pickS_le h1, Nat.le_succ _⟩
 cases hx
theorem groupS_le : ∀ (f : Nat) {d : Nat} {l : List C3.Tok} {p : Prod} {sn : List (List Int)} {q : Prod × List (List Int)} {r : List C3.Tok}, groupS f d l p sn = .ok q r -> r.length <= l.length
 | 0, d, l, p, sn, q, r, h => by cases h
 | f + 1, d, l, p, sn, q, r, h => by
   have hn := nextT_le l
   unfold groupS at h
   split at h
   · injection h with a b
     rw [← b]; exact hn
   · split at h
     · split at h
       · cases h
       · obtain ⟨a, s, h1, h2⟩ := bind_ok h
         exact Nat.le_trans (groupS_le f h2) (Nat.le_trans (groupS_le f h1) hn)
     · split at h
       · cases h
       · split at h
         · cases h
         · rename_i x hx
           split at h
           · cases h
           · obtain ⟨a, s, h1, h2⟩ := bind_ok h
             obtain ⟨a2, s2, h3, h4⟩ := bind_ok h2
             exact Nat.le_trans (groupS_le f h4) (Nat.le_trans (wantS_le h3) (Nat.le_trans (clauseS_le hx h1).1 hn))
end C28b

namespace C28c
open Go Go.Proofs VL D1 B10 B12 B13 C8 BB6 BB10 BB14 C1 C2 C3 C4 C6 C15 C20 C22 C23 C24 C25 C26 C27 C28
def CL (w : List Int) (f : FuncId) : Prop := ∀ (k : List C3.Tok) (i : Nat) (hk : endT (k.drop i)) (hl : okT k) (x : PS) (hx : x.p.resets.length + x.p.late.length + x.p.hol.length < 1000000) (K : Out -> List VObj -> Prop)
 (h0 : ∀ q r i' x', clauseS w x.p (k.drop i) = some (.ok q r) -> k.drop i' = r -> endT r -> x'.p = q -> x'.sn = x.sn -> K (.ret (.tup [])) (xO true true true k i' x'))
 (h1 : ∀ p e i' x', clauseS w x.p (k.drop i) = some (.err p e) -> K (.pan (fltP p e)) (xO false false false k i' x')),
 VCall Tryz.prog f [.ptr 0 0] (xO false false false k i x) K
theorem wkO {k : List C3.Tok} {i : Nat} {x : PS} : Weak 5 ⟨[.tup []], xO false false false k i x, 0, []⟩ ⟨[.tup []], xO true true true k i x, 0, []⟩ := by
 unfold xO
 exact weak_of (.cons (.eq rfl) .nil) (.cons (.eq rfl) (.cons .moved (.cons .moved (.cons .moved (.cons (.eq rfl) .nil))))) rfl rfl rfl
theorem cs_count {p l} : clauseS w_count p l = some ((pickS [w_thirty, w_fixed, w_actual] l).bind fun k r => .ok { p with count := k } r) := rfl
theorem cs_round {p l} : clauseS w_round p l = some ((pickS [w_half_up, w_down] l).bind fun k r => .ok { p with rnd := if k = 1 then 1 else 3 } r) := rfl
theorem cs_kind {p l} : clauseS w_kind p l = some ((pickS [w_annuity, w_equal, w_bullet] l).bind fun k r => .ok { p with kind := k } r) := rfl
theorem cs_every {p l} : clauseS w_every p l = some ((numberS l).bind fun k r => .ok { p with every := k } r) := rfl
theorem cs_times {p l} : clauseS w_times p l = some ((numberS l).bind fun k r => .ok { p with times := k } r) := rfl
theorem cs_grace {p l} : clauseS w_grace p l = some ((numberS l).bind fun k r => .ok { p with grace := k } r) := rfl
theorem cs_rate {p l} : clauseS w_rate p l = some ((takenS takeR l).bind fun k r => .ok { p with rate := k } r) := rfl
theorem cs_penalty {p l} : clauseS w_penalty p l = some ((takenS takeR l).bind fun k r => .ok { p with pen := k } r) := rfl
theorem cs_reset {p l} : clauseS w_reset p l = some ((numberS l).bind fun k r => (takenS takeR r).bind fun v r => .ok { p with resets := p.resets ++ [⟨k, v⟩] } r) := rfl
theorem cs_late {p l} : clauseS w_late p l = some ((numberS l).bind fun k r => (takenS takeM r).bind fun v r => .ok { p with late := p.late ++ [⟨k, v⟩] } r) := rfl
theorem cs_cap {p l} : clauseS w_cap p l = some ((takenS takeM l).bind fun k r => .ok { p with cap := k } r) := rfl
theorem cs_holiday {p l} : clauseS w_holiday p l = some ((takenS takeD l).bind fun k r => .ok { p with hol := p.hol ++ [k] } r) := rfl
theorem cs_order {p l} : clauseS w_order p l = some ((orderN 4 [] l).bind fun o r => .ok { p with o1 := o.getD 0 0, o2 := o.getD 1 0, o3 := o.getD 2 0, o4 := o.getD 3 0 } r) := rfl
theorem cs_over {p l} : clauseS w_over p l = some ((pickS [w_hold, w_prepay, w_refund] l).bind fun k r => .ok { p with over := k } r) := rfl
theorem cs_roll {p l} : clauseS w_roll p l = some ((pickS [w_stay, w_next, w_within, w_previous] l).bind fun k r => .ok { p with roll := k } r) := rfl
theorem CL_count : CL w_count 98 := by
 intro k i hk hl x hx K h0 h1
 exact VCall.weak (c_cl_count k i hk hl x _ (fun n r i' e hd he => ⟨_, _, wkO, h0 _ r i' _ (by rw [cs_count, e]; rfl) hd he rfl rfl⟩) (fun p e i' he => h1 p e i' _ (by rw [cs_count, he]; rfl)))
theorem CL_round : CL w_round 99 := by
 intro k i hk hl x hx K h0 h1
 exact VCall.weak (c_cl_round k i hk hl x _ (fun n r i' e hd he => ⟨_, _, wkO, h0 _ r i' _ (by rw [cs_round, e]; rfl) hd he rfl rfl⟩) (fun p e i' he => h1 p e i' _ (by rw [cs_round, he]; rfl)))
theorem CL_kind : CL w_kind 100 := by
 intro k i hk hl x hx K h0 h1
 exact VCall.weak (c_cl_kind k i hk hl x _ (fun n r i' e hd he => ⟨_, _, wkO, h0 _ r i' _ (by rw [cs_kind, e]; rfl) hd he rfl rfl⟩) (fun p e i' he => h1 p e i' _ (by rw [cs_kind, he]; rfl)))
theorem CL_every : CL w_every 101 := by
 intro k i hk hl x hx K h0 h1
 exact VCall.weak (c_cl_every k i hk hl x _ (fun n r i' e hd he => ⟨_, _, wkO, h0 _ r i' _ (by rw [cs_every, e]; rfl) hd he rfl rfl⟩) (fun p e i' he => h1 p e i' _ (by rw [cs_every, he]; rfl)))
theorem CL_times : CL w_times 102 := by
 intro k i hk hl x hx K h0 h1
 exact VCall.weak (c_cl_times k i hk hl x _ (fun n r i' e hd he => ⟨_, _, wkO, h0 _ r i' _ (by rw [cs_times, e]; rfl) hd he rfl rfl⟩) (fun p e i' he => h1 p e i' _ (by rw [cs_times, he]; rfl)))
theorem CL_grace : CL w_grace 103 := by
 intro k i hk hl x hx K h0 h1
 exact VCall.weak (c_cl_grace k i hk hl x _ (fun n r i' e hd he => ⟨_, _, wkO, h0 _ r i' _ (by rw [cs_grace, e]; rfl) hd he rfl rfl⟩) (fun p e i' he => h1 p e i' _ (by rw [cs_grace, he]; rfl)))
theorem CL_rate : CL w_rate 104 := by
 intro k i hk hl x hx K h0 h1
 exact VCall.weak (c_cl_rate k i hk hl x _ (fun n r i' e hd he => ⟨_, _, wkO, h0 _ r i' _ (by rw [cs_rate, e]; rfl) hd he rfl rfl⟩) (fun p e i' he => h1 p e i' _ (by rw [cs_rate, he]; rfl)))
theorem CL_penalty : CL w_penalty 105 := by
 intro k i hk hl x hx K h0 h1
 exact VCall.weak (c_cl_pen k i hk hl x _ (fun n r i' e hd he => ⟨_, _, wkO, h0 _ r i' _ (by rw [cs_penalty, e]; rfl) hd he rfl rfl⟩) (fun p e i' he => h1 p e i' _ (by rw [cs_penalty, he]; rfl)))
theorem CL_cap : CL w_cap 108 := by
 intro k i hk hl x hx K h0 h1
 exact VCall.weak (c_cl_cap k i hk hl x _ (fun n r i' e hd he => ⟨_, _, wkO, h0 _ r i' _ (by rw [cs_cap, e]; rfl) hd he rfl rfl⟩) (fun p e i' he => h1 p e i' _ (by rw [cs_cap, he]; rfl)))
theorem CL_over : CL w_over 111 := by
 intro k i hk hl x hx K h0 h1
 exact VCall.weak (c_cl_over k i hk hl x _ (fun n r i' e hd he => ⟨_, _, wkO, h0 _ r i' _ (by rw [cs_over, e]; rfl) hd he rfl rfl⟩) (fun p e i' he => h1 p e i' _ (by rw [cs_over, he]; rfl)))
theorem CL_roll : CL w_roll 112 := by
 intro k i hk hl x hx K h0 h1
 exact VCall.weak (c_cl_roll k i hk hl x _ (fun n r i' e hd he => ⟨_, _, wkO, h0 _ r i' _ (by rw [cs_roll, e]; rfl) hd he rfl rfl⟩) (fun p e i' he => h1 p e i' _ (by rw [cs_roll, he]; rfl)))
theorem CL_order : CL w_order 110 := by
 intro k i hk hl x hx K h0 h1
 refine VCall.weak (c_cl_order k i hk hl x _ (fun o r i' e hd he => ⟨_, _, wkO, h0 _ r i' _ (by rw [cs_order, e]; rfl) hd he ?_ rfl⟩) (fun p e i' x' he => h1 p e i' _ (by rw [cs_order, he]; rfl)))
 have hlen := orderN_len _ _ _ _ _ e
 rcases o with _ | ⟨a1, _ | ⟨a2, _ | ⟨a3, _ | ⟨a4, o⟩⟩⟩⟩
 all_goals first | (exfalso; revert hlen; simp; done) | rfl
theorem CL_reset : CL w_reset 106 := by
 intro k i hk hl x hx K h0 h1
 exact c_cl_reset k i hk hl x (by omega) _ (fun n v r r' i' s1 e e2 hd he => h0 _ r' i' _ (by rw [cs_reset, e]; show some ((takenS takeR r).bind _) = _; rw [e2]; rfl) hd he rfl rfl) (fun p e i' he => h1 p e i' _ (by rw [cs_reset, he]; rfl)) (fun n r p e i' he he2 => h1 p e i' _ (by rw [cs_reset, he]; show some ((takenS takeR r).bind _) = _; rw [he2]; rfl))
theorem CL_late : CL w_late 107 := by
 intro k i hk hl x hx K h0 h1
 exact c_cl_late k i hk hl x (by omega) _ (fun n v r r' i' s1 e e2 hd he => h0 _ r' i' _ (by rw [cs_late, e]; show some ((takenS takeM r).bind _) = _; rw [e2]; rfl) hd he rfl rfl) (fun p e i' he => h1 p e i' _ (by rw [cs_late, he]; rfl)) (fun n r p e i' he he2 => h1 p e i' _ (by rw [cs_late, he]; show some ((takenS takeM r).bind _) = _; rw [he2]; rfl))
theorem CL_holiday : CL w_holiday 109 := by
 intro k i hk hl x hx K h0 h1
 exact c_cl_hol k i hk hl x (by omega) _ (fun v r' i' s1 e hd he => h0 _ r' i' _ (by rw [cs_holiday, e]; rfl) hd he rfl rfl) (fun p e i' he => h1 p e i' _ (by rw [cs_holiday, he]; rfl))
theorem c_clauseA (w : List Int) (hw : ∀ x ∈ w, 0 <= x /\ x < 256) (k : List C3.Tok) (i : Nat) (x : PS) (K : Out -> List VObj -> Prop)
 (h : ∀ f, CL w f -> (∀ p l, ∃ y, clauseS w p l = some y) -> K (.ret (.tup [.fn (.func f) [.ptr 0 0] [], .bool (manyW w)])) (xO false false false k i x))
 (h_none : (∀ p l, clauseS w p l = none) -> K (.ret (.tup [.niln, .bool false])) (xO false false false k i x)) :
 VCall Tryz.prog 81 [.ptr 0 0, .str (toBA w)] (xO false false false k i x) K := by
 refine c_clause w hw k i x K ?_ ?_ ?_ ?_ ?_ ?_ ?_ ?_ ?_ ?_ ?_ ?_ ?_ ?_ ?_ ?_
 · rintro rfl
   exact h _ CL_count (fun p l => ⟨_, cs_count⟩)
 · rintro rfl
   exact h _ CL_round (fun p l => ⟨_, cs_round⟩)
 · rintro rfl
   exact h _ CL_kind (fun p l => ⟨_, cs_kind⟩)
 · rintro rfl
   exact h _ CL_every (fun p l => ⟨_, cs_every⟩)
 · rintro rfl
   exact h _ CL_times (fun p l => ⟨_, cs_times⟩)
 · rintro rfl
   exact h _ CL_grace (fun p l => ⟨_, cs_grace⟩)
 · rintro rfl
   exact h _ CL_rate (fun p l => ⟨_, cs_rate⟩)
 · rintro rfl
   exact h _ CL_penalty (fun p l => ⟨_, cs_penalty⟩)
 · rintro rfl
   exact h _ CL_reset (fun p l => ⟨_, cs_reset⟩)
 · rintro rfl
   exact h _ CL_late (fun p l => ⟨_, cs_late⟩)
 · rintro rfl
   exact h _ CL_cap (fun p l => ⟨_, cs_cap⟩)
 · rintro rfl
   exact h _ CL_holiday (fun p l => ⟨_, cs_holiday⟩)
 · rintro rfl
   exact h _ CL_order (fun p l => ⟨_, cs_order⟩)
 · rintro rfl
   exact h _ CL_over (fun p l => ⟨_, cs_over⟩)
 · rintro rfl
   exact h _ CL_roll (fun p l => ⟨_, cs_roll⟩)
 · intro n1 n2 n3 n4 n5 n6 n7 n8 n9 n10 n11 n12 n13 n14 n15
   exact h_none (fun p l => by unfold clauseS; simp only [n1, n2, n3, n4, n5, n6, n7, n8, n9, n10, n11, n12, n13, n14, n15, if_false])
end C28c

namespace C28d
open Go Go.Proofs VL D1 B10 B12 B13 BB4 BB5 BB6 BB10 BB14 C1 C2 C3 C4 C6 C19 C20 C22 C26 C28 C28b C28c
structure POk (p : Prod) : Prop where
 name : p.name.size < 1000000
 count : I64 p.count
 rnd : I64 p.rnd
 kind : I64 p.kind
 every : I64 p.every
 times : I64 p.times
 grace : I64 p.grace
 rate : I64 p.rate
 pen : I64 p.pen
 o1 : I64 p.o1
 o2 : I64 p.o2
 o3 : I64 p.o3
 o4 : I64 p.o4
 over : I64 p.over
 cap : I64 p.cap
 roll : I64 p.roll
 resets : ∀ x ∈ p.resets, I64 x.aft /\ I64 x.rate
 late : ∀ x ∈ p.late, I64 x.days /\ I64 x.fee
 hol : ∀ x ∈ p.hol, I64 x
theorem POk.full {p : Prod} (h : POk p) (h1 : p.resets.length < 1000000) (h2 : p.late.length < 1000000) (h3 : p.hol.length < 1000000) : p.ok :=
 ⟨h.name, h.count, h.rnd, h.kind, h.every, h.times, h.grace, h.rate, h.pen, h.o1, h.o2, h.o3, h.o4, h.over, h.cap, h.roll, h.resets, h.late, h.hol, h1, h2, h3⟩
theorem numS_I {l : List Int} {n : Int} (h : numS l = some n) : I64 n := by
 unfold numS at h
 split at h
 · rename_i hc
   injection h with h; subst h
   have h1 := vl_lt l hc.1
   have h2 : 10 ^ l.length <= 10 ^ 9 := Nat.pow_le_pow_right (by omega) hc.2.1
   unfold I64; omega
 · cases h
theorem numberS_I {l r : List C3.Tok} {n : Int} (h : numberS l = .ok n r) : I64 n := by
 obtain ⟨t, s, h1, h2⟩ := bind_ok h
 split at h2
 · rename_i n' hn
   injection h2 with a b
   subst a
   exact numS_I hn
 · cases h2
theorem takenS_I {f : List Int -> Int × Int} (hf : ∀ l, (f l).2 = 0 -> I64 (f l).1) {l r : List C3.Tok} {n : Int} (h : takenS f l = .ok n r) : I64 n := by
 obtain ⟨t, s, h1, h2⟩ := bind_ok h
 split at h2
 · rename_i hn
   injection h2 with a b
   subst a
   exact hf _ hn
 · cases h2
theorem takeR_I (l : List Int) : (takeR l).2 = 0 -> I64 (takeR l).1 := by
 intro h
 unfold takeR at h ⊢
 split
 · rename_i hc
   have h1 := hc.2.2.1
   unfold I64
   simp only
   split <;> omega
 · simp only; unfold I64; omega
theorem takeM_I (l : List Int) : (takeM l).2 = 0 -> I64 (takeM l).1 := by
 intro h
 unfold takeM at h ⊢
 split
 · simp only; unfold I64; omega
 · split
   · simp only; unfold I64; omega
   · split
     · simp only; unfold I64; omega
     · simp only; unfold I64; split <;> omega
theorem takeD_I (l : List Int) : (takeD l).2 = 0 -> I64 (takeD l).1 := by
 intro h
 unfold takeD at h ⊢
 split
 · generalize vl ((l.take 4).drop 0) = y
   generalize vl ((l.take 7).drop 5) = m
   generalize vl ((l.take 10).drop 8) = d
   unfold numberD
   split
   · rename_i hd
     unfold DateP at hd
     have hml := mlen_le y m
     have hcm : cum y m <= 400 := by
      have := cum_mono (y := y) hd.2.1.1 hd.2.1.2
      have h12 := cum12 y
      split at h12 <;> omega
     simp only
     unfold I64 opens; omega
   · simp only; unfold I64; omega
 · simp only; unfold I64; omega
theorem pickS_I {ws : List (List Int)} (hw : ws.length < 1000) {l r : List C3.Tok} {n : Int} (h : pickS ws l = .ok n r) : I64 n := by
 have := C25.pick_range h
 unfold I64; omega
theorem orderN_I : ∀ (n : Nat) {a : List Int} {l r : List C3.Tok} {o : List Int}, (∀ x ∈ a, I64 x) -> orderN n a l = .ok o r -> ∀ x ∈ o, I64 x
 | 0, a, l, r, o, ha, h => by
   unfold orderN at h
   injection h with h1 h2
   subst h1; exact ha
 | n + 1, a, l, r, o, ha, h => by
   unfold orderN at h
   obtain ⟨t, s, h1, h2⟩ := bind_ok h
   have := pickS_I (by decide) h1
   split at h2
   · cases h2
   · exact orderN_I n (fun x hx => by
      rcases List.mem_append.1 hx with hx | hx
      · exact ha x hx
      · simp at hx; subst hx; exact this) h2
theorem getD_I {o : List Int} (h : ∀ x ∈ o, I64 x) (n : Nat) : I64 (o.getD n 0) := by
 rw [List.getD_eq_getElem?_getD]
 cases e : o[n]? with
 | none => simp; unfold I64; omega
 | some x => exact h x (List.mem_of_getElem? e)
theorem clauseS_I {w : List Int} {p q : Prod} {l r : List C3.Tok} {x : Res Prod} (hp : POk p) (hx : clauseS w p l = some x) (h : x = .ok q r) : POk q := by
 subst h
 unfold clauseS at hx
 rcases ite_or hx with hx | hx
 · injection hx with hx
   obtain ⟨a, s, h1, h2⟩ := bind_ok hx
   injection h2 with ha hb; subst ha hb
   exact { hp with count := pickS_I (by decide) h1 }
 rcases ite_or hx with hx | hx
 · injection hx with hx
   obtain ⟨a, s, h1, h2⟩ := bind_ok hx
   injection h2 with ha hb; subst ha hb
   exact { hp with rnd := (by simp only; split <;> (unfold I64; omega)) }
 rcases ite_or hx with hx | hx
 · injection hx with hx
   obtain ⟨a, s, h1, h2⟩ := bind_ok hx
   injection h2 with ha hb; subst ha hb
   exact { hp with kind := pickS_I (by decide) h1 }
 rcases ite_or hx with hx | hx
 · injection hx with hx
   obtain ⟨a, s, h1, h2⟩ := bind_ok hx
   injection h2 with ha hb; subst ha hb
   exact { hp with every := numberS_I h1 }
 rcases ite_or hx with hx | hx
 · injection hx with hx
   obtain ⟨a, s, h1, h2⟩ := bind_ok hx
   injection h2 with ha hb; subst ha hb
   exact { hp with times := numberS_I h1 }
 rcases ite_or hx with hx | hx
 · injection hx with hx
   obtain ⟨a, s, h1, h2⟩ := bind_ok hx
   injection h2 with ha hb; subst ha hb
   exact { hp with grace := numberS_I h1 }
 rcases ite_or hx with hx | hx
 · injection hx with hx
   obtain ⟨a, s, h1, h2⟩ := bind_ok hx
   injection h2 with ha hb; subst ha hb
   exact { hp with rate := takenS_I takeR_I h1 }
 rcases ite_or hx with hx | hx
 · injection hx with hx
   obtain ⟨a, s, h1, h2⟩ := bind_ok hx
   injection h2 with ha hb; subst ha hb
   exact { hp with pen := takenS_I takeR_I h1 }
 rcases ite_or hx with hx | hx
 · injection hx with hx
   obtain ⟨a, s, h1, h2⟩ := bind_ok hx
   obtain ⟨a2, s2, h3, h4⟩ := bind_ok h2
   injection h4 with ha hb; subst ha hb
   have hq : ∀ x ∈ p.resets ++ [⟨a, a2⟩], I64 x.aft /\ I64 x.rate := by
    intro x hx
    rcases List.mem_append.1 hx with hx | hx
    · exact hp.resets x hx
    · simp at hx; subst hx; exact ⟨numberS_I h1, takenS_I takeR_I h3⟩
   exact { hp with resets := hq }
 rcases ite_or hx with hx | hx
 · injection hx with hx
   obtain ⟨a, s, h1, h2⟩ := bind_ok hx
   obtain ⟨a2, s2, h3, h4⟩ := bind_ok h2
   injection h4 with ha hb; subst ha hb
   have hq : ∀ x ∈ p.late ++ [⟨a, a2⟩], I64 x.days /\ I64 x.fee := by
    intro x hx
    rcases List.mem_append.1 hx with hx | hx
    · exact hp.late x hx
    · simp at hx; subst hx; exact ⟨numberS_I h1, takenS_I takeM_I h3⟩
   exact { hp with late := hq }
 rcases ite_or hx with hx | hx
 · injection hx with hx
   obtain ⟨a, s, h1, h2⟩ := bind_ok hx
   injection h2 with ha hb; subst ha hb
   exact { hp with cap := takenS_I takeM_I h1 }
 rcases ite_or hx with hx | hx
 · injection hx with hx
   obtain ⟨a, s, h1, h2⟩ := bind_ok hx
   injection h2 with ha hb; subst ha hb
   have hq : ∀ x ∈ p.hol ++ [a], I64 x := by
    intro x hx
    rcases List.mem_append.1 hx with hx | hx
    · exact hp.hol x hx
    · simp at hx; subst hx; exact takenS_I takeD_I h1
   exact { hp with hol := hq }
 rcases ite_or hx with hx | hx
 · injection hx with hx
   obtain ⟨a, s, h1, h2⟩ := bind_ok hx
   injection h2 with ha hb; subst ha hb
   have hI := orderN_I 4 (by simp) h1
   exact { hp with o1 := getD_I hI 0, o2 := getD_I hI 1, o3 := getD_I hI 2, o4 := getD_I hI 3 }
 rcases ite_or hx with hx | hx
 · injection hx with hx
   obtain ⟨a, s, h1, h2⟩ := bind_ok hx
   injection h2 with ha hb; subst ha hb
   exact { hp with over := pickS_I (by decide) h1 }
 rcases ite_or hx with hx | hx
 · injection hx with hx
   obtain ⟨a, s, h1, h2⟩ := bind_ok hx
   injection h2 with ha hb; subst ha hb
   exact { hp with roll := pickS_I (by decide) h1 }
 cases hx
theorem groupS_I : ∀ (f : Nat) {d : Nat} {l : List C3.Tok} {p : Prod} {sn : List (List Int)} {q : Prod × List (List Int)} {r : List C3.Tok}, POk p -> groupS f d l p sn = .ok q r -> POk q.1
 | 0, d, l, p, sn, q, r, hp, h => by cases h
 | f + 1, d, l, p, sn, q, r, hp, h => by
   unfold groupS at h
   split at h
   · injection h with a b
     subst a; exact hp
   · split at h
     · split at h
       · cases h
       · obtain ⟨a, s, h1, h2⟩ := bind_ok h
         exact groupS_I f (groupS_I f hp h1) h2
     · split at h
       · cases h
       · split at h
         · cases h
         · rename_i x hx
           split at h
           · cases h
           · obtain ⟨a, s, h1, h2⟩ := bind_ok h
             obtain ⟨a2, s2, h3, h4⟩ := bind_ok h2
             exact groupS_I f (clauseS_I hp hx h1) h4
end C28d

namespace C29
open Go Go.Proofs VL D1 B10 B12 B13 C8 BB6 BB10 BB14 C1 C2 C3 C4 C6 C15 C20 C22 C23 C24 C25 C26 C27 C28 C28b C28c
theorem group_step {f d : Nat} {l : List C3.Tok} {p : Prod} {sn : List (List Int)} : groupS (f + 1) d l p sn =
 if (nextT l).1.kind = 3 /\ (nextT l).1.text = [125] then .ok (p, sn) (nextT l).2
 else if (nextT l).1.kind = 3 /\ (nextT l).1.text = [123] then
  if 32 <= d then .err (nextT l).1.at_ 8 else (groupS f (d + 1) (nextT l).2 p sn).bind fun q r => groupS f d r q.1 q.2
 else if (nextT l).1.kind ≠ 1 then .err (nextT l).1.at_ 7
 else match clauseS (nextT l).1.text p (nextT l).2 with
  | none => .err (nextT l).1.at_ 7
  | some x => if (nextT l).1.text ∈ sn /\ manyW (nextT l).1.text = false then .err (nextT l).1.at_ 7
    else x.bind fun q r => (wantS 3 [59] r).bind fun _ r => groupS f d r q ((nextT l).1.text :: sn) := rfl
theorem next_lt {l : List C3.Tok} (h : endT l) (hk : (nextT l).1.kind ≠ 0) : (nextT l).2.length < l.length := by
 obtain ⟨_, t, r, hd, e1, e2⟩ := endT_next h
 rw [e1] at hk
 rcases e2 with ⟨e2, _⟩ | ⟨_, e2⟩
 · exact absurd e2 hk
 · rw [e2, hd]; simp
theorem SnR_plain (m : Nat) {e : List (V × V)} {sn : List (List Int)} (h : SnR e sn) : ∀ x ∈ e, plainKey (VL.sys Tryz.prog m []).P 9 x.1 = true := by
 obtain ⟨l, rfl, _⟩ := h
 intro x hx
 obtain ⟨p, _, rfl⟩ := List.mem_map.1 hx
 rfl
set_option maxHeartbeats 8000000 in
theorem c_group : ∀ (f : Nat) (d : Nat) (hd : d <= 32) (k : List C3.Tok) (i : Nat) (hk : endT (k.drop i)) (hl : okT k) (hf : (k.drop i).length < f) (x : PS) (sn : List (List Int)) (hsn : SnR x.sn sn) (hx : x.p.resets.length + x.p.late.length + x.p.hol.length + (k.drop i).length < 1000000) (K : Out -> List VObj -> Prop)
 (h0 : ∀ q r i' x', groupS f d (k.drop i) x.p sn = .ok q r -> k.drop i' = r -> endT r -> x'.p = q.1 -> SnR x'.sn q.2 -> q.1.resets.length + q.1.late.length + q.1.hol.length + r.length < 1000000 -> K (.ret (.tup [])) (xO true true true k i' x'))
 (h1 : ∀ p e i' x', groupS f d (k.drop i) x.p sn = .err p e -> K (.pan (fltP p e)) (xO true true true k i' x')),
 VCall Tryz.prog 44 [.ptr 0 0, .int .i64 d] (xO false false false k i x) K := by
 intro f
 induction f using Nat.strongRecOn with
 | ind f ihf =>
 intro d hd k i hk hl hf x sn hsn hx K h0 h1
 let S : Nat × Nat × PS × List (List Int) -> St := fun q => ⟨(.ptr 0 0 :: .int .i64 d :: .undef :: .undef :: .undef :: .undef :: .undef :: .undef :: .undef :: .undef :: .undef :: .undef :: .undef :: .undef :: .undef :: .undef :: .undef :: .undef :: .undef :: .undef :: .undef :: .undef :: .undef :: .undef :: .undef :: .undef :: .undef :: .undef :: .undef :: .undef :: .undef :: .undef :: .undef :: .undef :: .undef :: .undef :: .undef :: .undef :: .undef :: .undef :: .undef :: .undef :: .undef :: .undef :: .undef :: .undef :: .undef :: .undef :: .undef :: .undef :: .undef :: .undef :: .undef :: .undef :: .undef :: .undef :: .undef :: .undef :: .undef :: .undef :: .undef :: .undef :: .undef :: .undef :: .undef :: .undef :: .undef :: .undef :: .undef :: .undef :: .undef :: .undef :: .undef :: .undef :: .undef :: .undef :: .undef :: []), xO true true true k q.2.1 q.2.2.1, 0, []⟩
 have hnx := fun i hk x => @c_next k i hk hl.1 x
 have hwn := fun i hk x => @c_want k i hk hl x 3 [59] (by decide)
 unfold xO
 refine call_fun [] 5 Tryz.func44 (by rfl) (by rfl) ?_
 conv=>whnf
 (repeat' first | (refine step_go [] ?_;conv=>whnf) | (refine two ?_ ?_<;>intro g<;>(try simp only[bsx]at g)<;>(conv=>whnf)) | (refine And.intro rfl ?_;conv=>whnf) | fail)
 refine VLoop.enter (s' := S (f, i, x, sn)) (weak_of ?_ (.cons (.eq rfl) (.cons .moved (.cons .moved (.cons .moved (.cons (.eq rfl) .nil))))) rfl rfl rfl)
  (VLoop.indW S (fun q => q.1) (fun q => q.1 <= f /\ endT (k.drop q.2.1) /\ (k.drop q.2.1).length < q.1 /\ SnR q.2.2.1.sn q.2.2.2 /\ q.2.2.1.p.resets.length + q.2.2.1.p.late.length + q.2.2.1.p.hol.length + (k.drop q.2.1).length < 1000000 /\ groupS f d (k.drop i) x.p sn = groupS q.1 d (k.drop q.2.1) q.2.2.1.p q.2.2.2) ?_ (f, i, x, sn) ⟨Nat.le_refl _, hk, hf, hsn, hx, rfl⟩)
 · (repeat' first | exact VWs.nil | refine VWs.cons VW.undef ?_ | refine VWs.cons (VW.eq rfl) ?_ | refine VWs.cons (VW.eq (congrArg (V.int .i64) (by (try simp only); rw [wrap64 (by omega) (by omega)]; (try omega)))) ?_)
 rintro ⟨q, i1, x1, sn1⟩ ⟨hq, hk1, hf1, hsn1, hx1, he⟩ ih
 simp only at hq hk1 hf1 hsn1 hx1 he
 obtain ⟨q, rfl⟩ : ∃ q', q = q' + 1 := ⟨q - 1, by omega⟩
 obtain ⟨hen, _⟩ := endT_next hk1
 have hm := next_mem hk1
 have hlt := next_lt hk1
 rw [group_step] at he
 have hn1 := hnx i1 hk1 x1
 obtain ⟨t, ht⟩ : ∃ t, (nextT (k.drop i1)).1 = t := ⟨_, rfl⟩
 obtain ⟨l2, hl2⟩ : ∃ l, (nextT (k.drop i1)).2 = l := ⟨_, rfl⟩
 rw [ht, hl2] at he hn1
 rw [ht, hl2] at hlt
 rw [hl2] at hen
 rw [ht] at hm
 have hb := hl.2 t hm
 have e1 : (toBA t.text).toList = (⟨#[125]⟩ : ByteArray).toList ↔ t.text = [125] := toBA_eq hb.1 (b := [125]) (by decide)
 have e2 : (toBA t.text).toList = (⟨#[123]⟩ : ByteArray).toList ↔ t.text = [123] := toBA_eq hb.1 (b := [123]) (by decide)
 have hA : t.kind = 3 -> t.text = [125] -> groupS f d (k.drop i) x.p sn = .ok (x1.p, sn1) l2 := fun a b => by rw [he, if_pos ⟨a, b⟩]
 have hB : t.kind = 3 -> t.text = [123] -> 32 <= d -> groupS f d (k.drop i) x.p sn = .err t.at_ 8 := fun a b c => by rw [he, if_neg (fun h => by rw [b] at h; exact absurd h.2 (by decide)), if_pos ⟨a, b⟩, if_pos c]
 have hC : t.kind = 3 -> t.text = [123] -> ¬ 32 <= d -> groupS f d (k.drop i) x.p sn = (groupS q (d + 1) l2 x1.p sn1).bind fun q' r => groupS q d r q'.1 q'.2 := fun a b c => by rw [he, if_neg (fun h => by rw [b] at h; exact absurd h.2 (by decide)), if_pos ⟨a, b⟩, if_neg c]
 have hD : ¬ (t.kind = 3 /\ t.text = [125]) -> ¬ (t.kind = 3 /\ t.text = [123]) -> ¬ t.kind = 1 -> groupS f d (k.drop i) x.p sn = .err t.at_ 7 := fun a b c => by rw [he, if_neg a, if_neg b, if_pos c]
 have hn3 : t.kind = 1 -> ∀ w, ¬ (t.kind = 3 /\ t.text = w) := fun a w h => by omega
 have hE : t.kind = 1 -> clauseS t.text x1.p l2 = none -> groupS f d (k.drop i) x.p sn = .err t.at_ 7 := fun a c => by rw [he, if_neg (hn3 a _), if_neg (hn3 a _), if_neg (fun h => h a), c]
 have hF : t.kind = 1 -> ∀ y, clauseS t.text x1.p l2 = some y -> (t.text ∈ sn1 /\ manyW t.text = false) -> groupS f d (k.drop i) x.p sn = .err t.at_ 7 := fun a y c e => by rw [he, if_neg (hn3 a _), if_neg (hn3 a _), if_neg (fun h => h a), c]; exact if_pos e
 have hG : t.kind = 1 -> ∀ y, clauseS t.text x1.p l2 = some y -> ¬ (t.text ∈ sn1 /\ manyW t.text = false) -> groupS f d (k.drop i) x.p sn = y.bind fun q' r => (wantS 3 [59] r).bind fun _ r => groupS q d r q' (t.text :: sn1) := fun a y c e => by rw [he, if_neg (hn3 a _), if_neg (hn3 a _), if_neg (fun h => h a), c]; exact if_neg e
 clear he
 have hfind := SnR_find hsn1 hb.1
 have hupd := SnR_upd hsn1 hb.1
 dsimp only [S]
 refine loop_round [] ?_; conv=>whnf
 (repeat' first | (refine step_go [] ?_;conv=>whnf) | (refine two ?_ ?_<;>intro g<;>(try simp only[bsx]at g)<;>(conv=>whnf)) | (refine And.intro rfl ?_;conv=>whnf) | fail)
 refine hn1 _ (fun i2 hi2 => ?_)
 conv=>whnf
 (repeat' first | (refine step_go [] ?_;conv=>whnf) | (refine two ?_ ?_<;>intro g<;>(try simp only[bsx, e1, e2]at g)<;>(conv=>whnf)) | (refine And.intro rfl ?_;conv=>whnf) | (refine c_wrong t _ ?_;conv=>whnf) | fail)
 all_goals first
  | (exfalso; omega)
  | exact h1 _ 8 i2 x1 (hB (by assumption) (by assumption) (by omega))
  | exact h1 _ 7 i2 x1 (hD (by rintro ⟨a, b⟩; contradiction) (by rintro ⟨a, b⟩; contradiction) (by assumption))
  | skip
 · refine ⟨_, Weak.refl, ?_⟩
   conv=>whnf
   (repeat' first | (refine step_go [] ?_;conv=>whnf) | (refine two ?_ ?_<;>intro g<;>(try simp only[bsx]at g)<;>(conv=>whnf)) | (refine And.intro rfl ?_;conv=>whnf) | fail)
   have hz := hlt (by omega)
   refine h0 _ _ i2 x1 (hA (by assumption) (by assumption)) hi2 hen rfl hsn1 ?_
   simp only; omega
 all_goals have hll := hlt (by omega)
 · rename_i g1 g2 g3
   have hd31 : ¬ 32 <= d := by omega
   rw [show IntKind.i64.wrap ((d : Int) + 1) = ((d + 1 : Nat) : Int) by rw [wrap64 (by omega) (by omega)]; omega]
   refine ihf q (by omega) (d + 1) (by omega) k i2 (by rw [hi2]; exact hen) hl (by rw [hi2]; omega) x1 sn1 hsn1 (by rw [hi2]; omega) _ (fun q' r i3 x3 e hd3 he3 hp3 hs3 hz3 => ?_) (fun p e i3 x3 he3 => ?_)
   · rw [hi2] at e
     have hle := groupS_le _ e
     have hinv : q <= f /\ endT (k.drop i3) /\ (k.drop i3).length < q /\ SnR x3.sn q'.2 /\ x3.p.resets.length + x3.p.late.length + x3.p.hol.length + (k.drop i3).length < 1000000 /\ groupS f d (k.drop i) x.p sn = groupS q d (k.drop i3) x3.p q'.2 := by
      rw [hd3, hp3]
      refine ⟨by omega, he3, by omega, hs3, hz3, ?_⟩
      rw [hC (by assumption) (by assumption) hd31, e]; rfl
     conv=>whnf
     (repeat' first | (refine step_go [] ?_;conv=>whnf) | (refine two ?_ ?_<;>intro g<;>(try simp only[bsx]at g)<;>(conv=>whnf)) | (refine And.intro rfl ?_;conv=>whnf) | fail)
     refine weak_sel (src := [0, 1, 2, 3, 4]) ?_; conv=>whnf
     refine VLoop.enter (s' := S (q, i3, x3, q'.2)) (weak_of ?_ (.cons (.eq rfl) (.cons (.eq rfl) (.cons (.eq rfl) (.cons (.eq rfl) (.cons (.eq rfl) .nil))))) rfl rfl rfl) (ih (q, i3, x3, q'.2) hinv (by simp only; omega))
     (repeat' first | exact VWs.nil | refine VWs.cons VW.undef ?_ | refine VWs.cons (VW.eq rfl) ?_ | refine VWs.cons (VW.eq (congrArg (V.int .i64) (by (try simp only); rw [wrap64 (by omega) (by omega)]; (try omega)))) ?_)
   · rw [hi2] at he3
     have hp := h1 p e i3 x3 (by rw [hC (by assumption) (by assumption) hd31, he3]; rfl)
     conv=>whnf
     (repeat' first | (refine step_go [] ?_;conv=>whnf) | (refine two ?_ ?_<;>intro g<;>(try simp only[bsx]at g)<;>(conv=>whnf)) | (refine And.intro rfl ?_;conv=>whnf) | fail)
     exact hp
 all_goals
  have hk1 : t.kind = 1 := by assumption
  refine c_clauseA t.text hb.1 k i2 x1 _ (fun fn hcl hex => ?_) (fun hnone => ?_)
  rotate_left
  · have hp := h1 t.at_ 7 i2 x1 (hE hk1 (hnone _ _))
    conv=>whnf
    (repeat' first | (refine step_go [] ?_;conv=>whnf) | (refine two ?_ ?_<;>intro g<;>(try simp only[bsx]at g)<;>(conv=>whnf)) | (refine And.intro rfl ?_;conv=>whnf) | (refine dr_go (by decide +kernel) ?_;conv=>whnf) | (refine c_wrong t _ ?_;conv=>whnf) | fail)
    first
     | exact hp
     | done
  obtain ⟨y, hy⟩ := hex x1.p l2
  have hpl := SnR_plain 5 hsn1
  by_cases hs : t.text ∈ sn1
  all_goals first | rw [if_pos hs] at hfind | rw [if_neg hs] at hfind
  all_goals
   conv=>whnf
   (repeat' first | (refine step_go [] ?_;conv=>whnf) | (refine two ?_ ?_<;>intro g<;>(try simp only[bsx]at g)<;>(conv=>whnf)) | (refine And.intro rfl ?_;conv=>whnf) | (refine dr_go (by decide +kernel) ?_;conv=>whnf) | (refine c_wrong t _ ?_;conv=>whnf) | (refine ⟨hpl, _, hfind, ?_⟩;conv=>whnf) | fail)
   all_goals first
    | exact h1 _ 7 i2 x1 (hF hk1 y hy ⟨hs, by assumption⟩)
    | skip
  all_goals
   have hnot : ¬ (t.text ∈ sn1 /\ manyW t.text = false) := by
    rintro ⟨a, b⟩
    first | exact hs a | exact Bool.noConfusion (b.symm.trans (show manyW t.text = true by assumption))
   refine ⟨hpl, ?_⟩
   conv=>whnf
   (repeat' first | (refine step_go [] ?_;conv=>whnf) | (refine two ?_ ?_<;>intro g<;>(try simp only[bsx]at g)<;>(conv=>whnf)) | (refine And.intro rfl ?_;conv=>whnf) | (refine dr_go (by decide +kernel) ?_;conv=>whnf) | fail)
   refine hcl k i2 (by rw [hi2]; exact hen) hl { x1 with sn := updV (.str (toBA t.text)) (.bool true) x1.sn } (by simp only; omega) _ (fun q' r i3 x3 e hd3 he3 hp3 hs3 => ?_) (fun p e i3 x3 he3 => ?_)
   rotate_left
   · rw [hi2] at he3
     have hp := h1 p e i3 x3 (by rw [hG hk1 _ he3 hnot]; rfl)
     conv=>whnf
     (repeat' first | (refine step_go [] ?_;conv=>whnf) | (refine two ?_ ?_<;>intro g<;>(try simp only[bsx]at g)<;>(conv=>whnf)) | (refine And.intro rfl ?_;conv=>whnf) | fail)
     exact hp
   rw [hi2] at e
   have hle := clauseS_le e rfl
   simp only at hle
   have hq := hG hk1 _ e hnot
   have hq : groupS f d (k.drop i) x.p sn = (wantS 3 [59] r).bind fun _ r => groupS q d r q' (t.text :: sn1) := hq
   conv=>whnf
   (repeat' first | (refine step_go [] ?_;conv=>whnf) | (refine two ?_ ?_<;>intro g<;>(try simp only[bsx]at g)<;>(conv=>whnf)) | (refine And.intro rfl ?_;conv=>whnf) | fail)
   refine hwn i3 (by rw [hd3]; exact he3) x3 _ (fun t4 r4 i4 e4 hd4 he4 hm4 => ?_) (fun p e i4 he4 => ?_)
   rotate_left
   · rw [hd3] at he4
     have hp := h1 p e i4 x3 (by rw [hq, he4]; rfl)
     conv=>whnf
     (repeat' first | (refine step_go [] ?_;conv=>whnf) | (refine two ?_ ?_<;>intro g<;>(try simp only[bsx]at g)<;>(conv=>whnf)) | (refine And.intro rfl ?_;conv=>whnf) | fail)
     exact hp
   rw [hd3] at e4
   have hle4 := wantS_le e4
   have hinv : q <= f /\ endT (k.drop i4) /\ (k.drop i4).length < q /\ SnR x3.sn (t.text :: sn1) /\ x3.p.resets.length + x3.p.late.length + x3.p.hol.length + (k.drop i4).length < 1000000 /\ groupS f d (k.drop i) x.p sn = groupS q d (k.drop i4) x3.p (t.text :: sn1) := by
    rw [hd4, hp3, hs3]
    refine ⟨by omega, he4, by omega, hupd, by omega, ?_⟩
    rw [hq, e4]; rfl
   conv=>whnf
   (repeat' first | (refine step_go [] ?_;conv=>whnf) | (refine two ?_ ?_<;>intro g<;>(try simp only[bsx]at g)<;>(conv=>whnf)) | (refine And.intro rfl ?_;conv=>whnf) | fail)
   refine weak_sel (src := [0, 1, 2, 3, 4]) ?_; conv=>whnf
   refine VLoop.enter (s' := S (q, i4, x3, t.text :: sn1)) (weak_of ?_ (.cons (.eq rfl) (.cons (.eq rfl) (.cons (.eq rfl) (.cons (.eq rfl) (.cons (.eq rfl) .nil))))) rfl rfl rfl) (ih (q, i4, x3, t.text :: sn1) hinv (by simp only; omega))
   (repeat' first | exact VWs.nil | refine VWs.cons VW.undef ?_ | refine VWs.cons (VW.eq rfl) ?_ | refine VWs.cons (VW.eq (congrArg (V.int .i64) (by (try simp only); rw [wrap64 (by omega) (by omega)]; (try omega)))) ?_)
end C29

namespace C30
open Go Go.Proofs VL D1 B10 C1 C2 C3 C4 C6 C22
theorem lexF_props : ∀ (f : Nat) (l : List Int) (i : Nat) (k : List C3.Tok), lexF f l i = .ok k -> endT k /\ (∀ t ∈ k, (∀ x ∈ t.text, x ∈ l) /\ t.text.length <= l.length /\ (t.kind ≠ 0 -> t.text ≠ []) /\ t.at_ <= i + l.length) /\ k.length <= l.length + 1
 | 0, l, i, k, h => by cases h
 | f + 1, l, i, k, h => by
   have hs := skipN_le false l
   unfold lexF at h
   split at h
   · injection h with h; subst h
     refine ⟨rfl, ?_, by simp⟩
     intro t ht
     rw [List.mem_singleton] at ht; subst ht
     refine ⟨by simp, by simp, fun h => absurd rfl h, ?_⟩
     show i + skipN false l <= _
     omega
   · rename_i c r hd
     split at h
     · cases h
     · rename_i kd hk
       have hlen := congrArg List.length hd
       rw [List.length_drop, List.length_cons] at hlen
       have htw := congrArg List.length (List.takeWhile_append_dropWhile (p := goesB kd) (l := r)); rw [List.length_append] at htw
       have hk0 : kd ≠ 0 := by
        unfold kindS at hk
        repeat' split at hk
        all_goals first | (injection hk with hk; omega) | cases hk
       have hsub : ∀ x, x ∈ c :: r -> x ∈ l := fun x hx => List.mem_of_mem_drop (by rw [hd]; exact hx)
       cases h2 : lexF f (r.dropWhile (goesB kd)) (i + skipN false l + 1 + (r.takeWhile (goesB kd)).length) with
       | bad p => rw [h2] at h; cases h
       | ok k2 =>
         rw [h2] at h
         injection h with h; subst h
         obtain ⟨a1, a2, a3⟩ := lexF_props f _ _ k2 h2
         refine ⟨?_, ?_, by rw [List.length_cons]; omega⟩
         · cases k2 with
           | nil => exact a1.elim
           | cons t r => exact ⟨hk0, a1⟩
         · intro t ht
           rcases List.mem_cons.1 ht with rfl | ht
           · refine ⟨fun x hx => hsub x ?_, ?_, fun _ => by simp, ?_⟩
             · rcases List.mem_cons.1 hx with rfl | hx
               · exact .head _
               · exact .tail _ ((List.takeWhile_sublist _).subset hx)
             · show (c :: r.takeWhile (goesB kd)).length <= _
               rw [List.length_cons]; omega
             · show i + skipN false l <= _
               omega
           · obtain ⟨b1, b2, b3, b4⟩ := a2 t ht
             exact ⟨fun x hx => hsub x (.tail _ ((List.dropWhile_sublist _).subset (b1 x hx))), by omega, b3, by omega⟩
theorem lexS_props {l : List Int} {k : List C3.Tok} (h : lexS l = .ok k) (hb : ∀ x ∈ l, 0 <= x /\ x < 256) : endT k /\ okT k /\ (∀ t ∈ k, t.kind ≠ 0 -> t.text ≠ []) /\ (∀ t ∈ k, t.at_ <= l.length) /\ l.length <= 20000 /\ k.length <= l.length + 1 := by
 unfold lexS at h
 split at h
 · cases h
 · rename_i hn
   split at h
   · rename_i t ht
     injection h with h; subst h
     obtain ⟨a1, a2, a3⟩ := lexF_props _ _ _ _ ht
     refine ⟨a1, ⟨by omega, fun t ht => ⟨fun x hx => hb x ((a2 t ht).1 x hx), ?_⟩⟩, fun t ht => (a2 t ht).2.2.1, fun t ht => ?_, by omega, a3⟩
     · have := (a2 t ht).2.1; omega
     · have := (a2 t ht).2.2.2; omega
   · cases h
theorem lexS_err {l : List Int} {p : Nat} {e : Int} (h : lexS l = .error (p, e)) : (e = 3 /\ p = 0) \/ e = 6 := by
 unfold lexS at h
 split at h
 · injection h with h; injection h with h1 h2; exact .inl ⟨h2.symm, h1.symm⟩
 · split at h
   · cases h
   · injection h with h; injection h with h1 h2; exact .inr h2.symm
end C30

namespace C31
open Go Go.Proofs VL D1 B10 B12 B13 C8 BB6 BB10 BB14 C1 C2 C3 C4 C6 C11 C15 C20 C22 C23 C24 C25 C26 C27 C28 C28b C28c C28d C29 C30
set_option maxHeartbeats 8000000 in
theorem c_text (k : List C3.Tok) (i : Nat) (hk : endT (k.drop i)) (hl : okT k) (x : PS) (hsn : x.sn = []) (hp : x.p = { prod0 with over := 1, roll := 1 }) (K : Out -> List VObj -> Prop)
 (h0 : ∀ q r i' x', textP (k.drop i) = .ok q r -> x'.p = q.1 -> SnR x'.sn q.2 -> q.1.resets.length + q.1.late.length + q.1.hol.length < 1000000 -> K (.ret (.tup [])) (xO true true true k i' x'))
 (h1 : ∀ p e i' x', textP (k.drop i) = .err p e -> K (.pan (fltP p e)) (xO true true true k i' x') /\ K (.pan (fltP p e)) (xO false false false k i' x')) :
 VCall Tryz.prog 19 [.ptr 0 0] (xO false false false k i x) K := by
 have hw1 := @c_want k i hk hl x 1 w_product (by decide)
 unfold xO at hw1 ⊢
 refine call_fun [] 5 Tryz.func19 (by rfl) (by rfl) ?_
 conv=>whnf
 (repeat' first | (refine step_go [] ?_;conv=>whnf) | (refine two ?_ ?_<;>intro g<;>(try simp only[bsx]at g)<;>(conv=>whnf)) | (refine And.intro rfl ?_;conv=>whnf) | fail)
 refine hw1 _ (fun t1 r1 i1 e1 hd1 he1 hm1 => ?_) (fun p e i1 he => ?_)
 rotate_left
 · have hp := (h1 p e i1 x (by unfold textP; rw [he]; rfl)).2
   conv=>whnf
   (repeat' first | (refine step_go [] ?_;conv=>whnf) | (refine two ?_ ?_<;>intro g<;>(try simp only[bsx]at g)<;>(conv=>whnf)) | (refine And.intro rfl ?_;conv=>whnf) | fail)
   exact hp
 have hw2 := @c_want k i1 (by rw [hd1]; exact he1) hl x 1 [] (by decide)
 rw [hd1] at hw2
 unfold xO at hw2
 have ht1 : textP (k.drop i) = (wantS 1 [] r1).bind fun t l =>
  open Classical in if nameP t.text then (wantS 3 [123] l).bind fun _ l => (groupS (l.length + 1) 1 l { prod0 with name := toBA t.text, over := 1, roll := 1 } []).bind fun q l => (wantS 0 [] l).bind fun _ l => .ok q l
  else .err t.at_ 7 := by unfold textP; rw [e1]; rfl
 conv=>whnf
 (repeat' first | (refine step_go [] ?_;conv=>whnf) | (refine two ?_ ?_<;>intro g<;>(try simp only[bsx]at g)<;>(conv=>whnf)) | (refine And.intro rfl ?_;conv=>whnf) | fail)
 refine hw2 _ (fun t2 r2 i2 e2 hd2 he2 hm2 => ?_) (fun p e i2 he => ?_)
 rotate_left
 · have hp := (h1 p e i2 x (by rw [ht1, he]; rfl)).2
   conv=>whnf
   (repeat' first | (refine step_go [] ?_;conv=>whnf) | (refine two ?_ ?_<;>intro g<;>(try simp only[bsx]at g)<;>(conv=>whnf)) | (refine And.intro rfl ?_;conv=>whnf) | fail)
   exact hp
 have hb := hl.2 t2 hm2
 have ht2 : textP (k.drop i) = open Classical in if nameP t2.text then (wantS 3 [123] r2).bind fun _ l => (groupS (l.length + 1) 1 l { prod0 with name := toBA t2.text, over := 1, roll := 1 } []).bind fun q l => (wantS 0 [] l).bind fun _ l => .ok q l
  else .err t2.at_ 7 := by rw [ht1, e2]; rfl
 conv=>whnf
 (repeat' first | (refine step_go [] ?_;conv=>whnf) | (refine two ?_ ?_<;>intro g<;>(try simp only[bsx]at g)<;>(conv=>whnf)) | (refine And.intro rfl ?_;conv=>whnf) | fail)
 refine c_Name (toBA t2.text) (by rw [toBA_size]; exact hb.2) _ ?_
 rw [sB_toBA hb.1]
 obtain ⟨b, hbn⟩ : ∃ b, nameB t2.text = b := ⟨_, rfl⟩
 rw [hbn]
 cases b with
 | false =>
   have hno : ¬ nameP t2.text := fun h => by rw [(nameB_iff _).2 h] at hbn; cases hbn
   rw [if_neg hno] at ht2
   have hp := (h1 _ _ i2 x ht2).2
   conv=>whnf
   (repeat' first | (refine step_go [] ?_;conv=>whnf) | (refine two ?_ ?_<;>intro g<;>(try simp only[bsx]at g)<;>(conv=>whnf)) | (refine And.intro rfl ?_;conv=>whnf) | (refine c_wrong t2 _ ?_;conv=>whnf) | fail)
   exact hp
 | true =>
 have hyes : nameP t2.text := (nameB_iff _).1 hbn
 rw [if_pos hyes] at ht2
 obtain ⟨x2, hx2⟩ : ∃ x2, x2 = { x with p := { x.p with name := toBA t2.text } } := ⟨_, rfl⟩
 have hp2 : x2.p = { prod0 with name := toBA t2.text, over := 1, roll := 1 } := by rw [hx2]; simp only; rw [hp]
 have hs2 : SnR x2.sn [] := by rw [hx2]; simp only; rw [hsn]; exact SnR_nil
 have hw3 := @c_want k i2 (by rw [hd2]; exact he2) hl x2 3 [123] (by decide)
 rw [hd2] at hw3
 rw [hx2] at hw3
 unfold xO at hw3
 conv=>whnf
 (repeat' first | (refine step_go [] ?_;conv=>whnf) | (refine two ?_ ?_<;>intro g<;>(try simp only[bsx]at g)<;>(conv=>whnf)) | (refine And.intro rfl ?_;conv=>whnf) | fail)
 refine hw3 _ (fun t3 r3 i3 e3 hd3 he3 hm3 => ?_) (fun p e i3 he => ?_)
 rotate_left
 · have hp := (h1 p e i3 x2 (by rw [ht2, he]; rfl)).2
   rw [hx2] at hp
   conv=>whnf
   (repeat' first | (refine step_go [] ?_;conv=>whnf) | (refine two ?_ ?_<;>intro g<;>(try simp only[bsx]at g)<;>(conv=>whnf)) | (refine And.intro rfl ?_;conv=>whnf) | fail)
   exact hp
 have ht3 : textP (k.drop i) = (groupS (r3.length + 1) 1 r3 { prod0 with name := toBA t2.text, over := 1, roll := 1 } []).bind fun q l => (wantS 0 [] l).bind fun _ l => .ok q l := by rw [ht2, e3]; rfl
 have hk3 : (k.drop i3).length <= k.length := by rw [List.length_drop]; omega
 have hkl := hl.1
 have hgr := @c_group (r3.length + 1) 1 (by decide) k i3 (by rw [hd3]; exact he3) hl (by rw [hd3]; omega) x2 [] hs2 (by rw [hp2]; show 0 + 0 + 0 + _ < _; omega)
 rw [hd3] at hgr
 rw [hp2] at hgr
 have hgr2 := hgr
 rw [hx2] at hgr
 unfold xO at hgr
 conv=>whnf
 (repeat' first | (refine step_go [] ?_;conv=>whnf) | (refine two ?_ ?_<;>intro g<;>(try simp only[bsx]at g)<;>(conv=>whnf)) | (refine And.intro rfl ?_;conv=>whnf) | fail)
 refine hgr _ (fun q r i4 x4 e4 hd4 he4 hp4 hs4 hz4 => ?_) (fun p e i4 x4 he => ?_)
 rotate_left
 · have hp := (h1 p e i4 x4 (by rw [ht3, he]; rfl)).1
   conv=>whnf
   (repeat' first | (refine step_go [] ?_;conv=>whnf) | (refine two ?_ ?_<;>intro g<;>(try simp only[bsx]at g)<;>(conv=>whnf)) | (refine And.intro rfl ?_;conv=>whnf) | fail)
   exact hp
 have ht4 : textP (k.drop i) = (wantS 0 [] r).bind fun _ l => .ok q l := by rw [ht3, e4]; rfl
 have hw5 := @c_want k i4 (by rw [hd4]; exact he4) hl x4 0 [] (by decide)
 rw [hd4] at hw5
 unfold xO at hw5
 conv=>whnf
 (repeat' first | (refine step_go [] ?_;conv=>whnf) | (refine two ?_ ?_<;>intro g<;>(try simp only[bsx]at g)<;>(conv=>whnf)) | (refine And.intro rfl ?_;conv=>whnf) | fail)
 refine hw5 _ (fun t5 r5 i5 e5 hd5 he5 hm5 => ?_) (fun p e i5 he => ?_)
 rotate_left
 · have hp := (h1 p e i5 x4 (by rw [ht4, he]; rfl)).1
   conv=>whnf
   (repeat' first | (refine step_go [] ?_;conv=>whnf) | (refine two ?_ ?_<;>intro g<;>(try simp only[bsx]at g)<;>(conv=>whnf)) | (refine And.intro rfl ?_;conv=>whnf) | fail)
   exact hp
 have hf := h0 q r5 i5 x4 (by rw [ht4, e5]; rfl) hp4 hs4 (by omega)
 conv=>whnf
 (repeat' first | (refine step_go [] ?_;conv=>whnf) | (refine two ?_ ?_<;>intro g<;>(try simp only[bsx]at g)<;>(conv=>whnf)) | (refine And.intro rfl ?_;conv=>whnf) | fail)
 exact hf
end C31

namespace C32
open Go Go.Proofs VL D1 B10 B12 B13 C8 BB6 BB10 BB14 C1 C2 C3 C4 C6 C11 C15 C20 C22 C23 C24 C25 C26 C27 C28 C28b C28c C28d C29 C30 C31
set_option maxHeartbeats 8000000 in
theorem c_whole (k : List C3.Tok) (i : Nat) (x : PS) (sn : List (List Int)) (hsn : SnR x.sn sn) (K : Out -> List VObj -> Prop)
 (h1 : wholeP sn -> K (.ret (.bool true)) (xO false false false k i x)) (h0 : ¬ wholeP sn -> K (.ret (.bool false)) (xO false false false k i x)) :
 VCall Tryz.prog 20 [.ptr 0 0] (xO false false false k i x) K := by
 have hpl := SnR_plain 5 hsn
 have f_count := SnR_find hsn (w := w_count) (by unfold Byt; decide)
 have f_round := SnR_find hsn (w := w_round) (by unfold Byt; decide)
 have f_kind := SnR_find hsn (w := w_kind) (by unfold Byt; decide)
 have f_every := SnR_find hsn (w := w_every) (by unfold Byt; decide)
 have f_times := SnR_find hsn (w := w_times) (by unfold Byt; decide)
 have f_rate := SnR_find hsn (w := w_rate) (by unfold Byt; decide)
 have f_order := SnR_find hsn (w := w_order) (by unfold Byt; decide)
 unfold xO at h0 h1 ⊢
 refine call_fun [] 5 Tryz.func20 (by rfl) (by rfl) ?_
 conv=>whnf
 (repeat' first | (refine step_go [] ?_;conv=>whnf) | (refine two ?_ ?_<;>intro g<;>(try simp only[bsx]at g)<;>(conv=>whnf)) | (refine And.intro rfl ?_;conv=>whnf) | (refine loop_round [] ?_;conv=>whnf) | (refine ⟨by decide, _, rfl, rfl, ?_⟩;conv=>whnf) | (refine ⟨_, Weak.refl, ?_⟩;conv=>whnf) | fail)
 by_cases c_count : w_count ∈ sn
 rotate_left
 · rw [if_neg c_count] at f_count
   refine ⟨hpl, _, f_count, ?_⟩
   conv=>whnf
   (repeat' first | (refine step_go [] ?_;conv=>whnf) | (refine two ?_ ?_<;>intro g<;>(try simp only[bsx]at g)<;>(conv=>whnf)) | (refine And.intro rfl ?_;conv=>whnf) | (refine ⟨_, Weak.refl, ?_⟩;conv=>whnf) | fail)
   exact h0 fun h => c_count h.1
 rw [if_pos c_count] at f_count
 refine ⟨hpl, _, f_count, ?_⟩
 conv=>whnf
 (repeat' first | (refine step_go [] ?_;conv=>whnf) | (refine two ?_ ?_<;>intro g<;>(try simp only[bsx]at g)<;>(conv=>whnf)) | (refine And.intro rfl ?_;conv=>whnf) | (refine loop_round [] ?_;conv=>whnf) | (refine ⟨by decide, _, rfl, rfl, ?_⟩;conv=>whnf) | (refine ⟨_, Weak.refl, ?_⟩;conv=>whnf) | fail)
 by_cases c_round : w_round ∈ sn
 rotate_left
 · rw [if_neg c_round] at f_round
   refine ⟨hpl, _, f_round, ?_⟩
   conv=>whnf
   (repeat' first | (refine step_go [] ?_;conv=>whnf) | (refine two ?_ ?_<;>intro g<;>(try simp only[bsx]at g)<;>(conv=>whnf)) | (refine And.intro rfl ?_;conv=>whnf) | (refine ⟨_, Weak.refl, ?_⟩;conv=>whnf) | fail)
   exact h0 fun h => c_round h.2.1
 rw [if_pos c_round] at f_round
 refine ⟨hpl, _, f_round, ?_⟩
 conv=>whnf
 (repeat' first | (refine step_go [] ?_;conv=>whnf) | (refine two ?_ ?_<;>intro g<;>(try simp only[bsx]at g)<;>(conv=>whnf)) | (refine And.intro rfl ?_;conv=>whnf) | (refine loop_round [] ?_;conv=>whnf) | (refine ⟨by decide, _, rfl, rfl, ?_⟩;conv=>whnf) | (refine ⟨_, Weak.refl, ?_⟩;conv=>whnf) | fail)
 by_cases c_kind : w_kind ∈ sn
 rotate_left
 · rw [if_neg c_kind] at f_kind
   refine ⟨hpl, _, f_kind, ?_⟩
   conv=>whnf
   (repeat' first | (refine step_go [] ?_;conv=>whnf) | (refine two ?_ ?_<;>intro g<;>(try simp only[bsx]at g)<;>(conv=>whnf)) | (refine And.intro rfl ?_;conv=>whnf) | (refine ⟨_, Weak.refl, ?_⟩;conv=>whnf) | fail)
   exact h0 fun h => c_kind h.2.2.1
 rw [if_pos c_kind] at f_kind
 refine ⟨hpl, _, f_kind, ?_⟩
 conv=>whnf
 (repeat' first | (refine step_go [] ?_;conv=>whnf) | (refine two ?_ ?_<;>intro g<;>(try simp only[bsx]at g)<;>(conv=>whnf)) | (refine And.intro rfl ?_;conv=>whnf) | (refine loop_round [] ?_;conv=>whnf) | (refine ⟨by decide, _, rfl, rfl, ?_⟩;conv=>whnf) | (refine ⟨_, Weak.refl, ?_⟩;conv=>whnf) | fail)
 by_cases c_every : w_every ∈ sn
 rotate_left
 · rw [if_neg c_every] at f_every
   refine ⟨hpl, _, f_every, ?_⟩
   conv=>whnf
   (repeat' first | (refine step_go [] ?_;conv=>whnf) | (refine two ?_ ?_<;>intro g<;>(try simp only[bsx]at g)<;>(conv=>whnf)) | (refine And.intro rfl ?_;conv=>whnf) | (refine ⟨_, Weak.refl, ?_⟩;conv=>whnf) | fail)
   exact h0 fun h => c_every h.2.2.2.1
 rw [if_pos c_every] at f_every
 refine ⟨hpl, _, f_every, ?_⟩
 conv=>whnf
 (repeat' first | (refine step_go [] ?_;conv=>whnf) | (refine two ?_ ?_<;>intro g<;>(try simp only[bsx]at g)<;>(conv=>whnf)) | (refine And.intro rfl ?_;conv=>whnf) | (refine loop_round [] ?_;conv=>whnf) | (refine ⟨by decide, _, rfl, rfl, ?_⟩;conv=>whnf) | (refine ⟨_, Weak.refl, ?_⟩;conv=>whnf) | fail)
 by_cases c_times : w_times ∈ sn
 rotate_left
 · rw [if_neg c_times] at f_times
   refine ⟨hpl, _, f_times, ?_⟩
   conv=>whnf
   (repeat' first | (refine step_go [] ?_;conv=>whnf) | (refine two ?_ ?_<;>intro g<;>(try simp only[bsx]at g)<;>(conv=>whnf)) | (refine And.intro rfl ?_;conv=>whnf) | (refine ⟨_, Weak.refl, ?_⟩;conv=>whnf) | fail)
   exact h0 fun h => c_times h.2.2.2.2.1
 rw [if_pos c_times] at f_times
 refine ⟨hpl, _, f_times, ?_⟩
 conv=>whnf
 (repeat' first | (refine step_go [] ?_;conv=>whnf) | (refine two ?_ ?_<;>intro g<;>(try simp only[bsx]at g)<;>(conv=>whnf)) | (refine And.intro rfl ?_;conv=>whnf) | (refine loop_round [] ?_;conv=>whnf) | (refine ⟨by decide, _, rfl, rfl, ?_⟩;conv=>whnf) | (refine ⟨_, Weak.refl, ?_⟩;conv=>whnf) | fail)
 by_cases c_rate : w_rate ∈ sn
 rotate_left
 · rw [if_neg c_rate] at f_rate
   refine ⟨hpl, _, f_rate, ?_⟩
   conv=>whnf
   (repeat' first | (refine step_go [] ?_;conv=>whnf) | (refine two ?_ ?_<;>intro g<;>(try simp only[bsx]at g)<;>(conv=>whnf)) | (refine And.intro rfl ?_;conv=>whnf) | (refine ⟨_, Weak.refl, ?_⟩;conv=>whnf) | fail)
   exact h0 fun h => c_rate h.2.2.2.2.2.1
 rw [if_pos c_rate] at f_rate
 refine ⟨hpl, _, f_rate, ?_⟩
 conv=>whnf
 (repeat' first | (refine step_go [] ?_;conv=>whnf) | (refine two ?_ ?_<;>intro g<;>(try simp only[bsx]at g)<;>(conv=>whnf)) | (refine And.intro rfl ?_;conv=>whnf) | (refine loop_round [] ?_;conv=>whnf) | (refine ⟨by decide, _, rfl, rfl, ?_⟩;conv=>whnf) | (refine ⟨_, Weak.refl, ?_⟩;conv=>whnf) | fail)
 by_cases c_order : w_order ∈ sn
 rotate_left
 · rw [if_neg c_order] at f_order
   refine ⟨hpl, _, f_order, ?_⟩
   conv=>whnf
   (repeat' first | (refine step_go [] ?_;conv=>whnf) | (refine two ?_ ?_<;>intro g<;>(try simp only[bsx]at g)<;>(conv=>whnf)) | (refine And.intro rfl ?_;conv=>whnf) | (refine ⟨_, Weak.refl, ?_⟩;conv=>whnf) | fail)
   exact h0 fun h => c_order h.2.2.2.2.2.2
 rw [if_pos c_order] at f_order
 refine ⟨hpl, _, f_order, ?_⟩
 conv=>whnf
 (repeat' first | (refine step_go [] ?_;conv=>whnf) | (refine two ?_ ?_<;>intro g<;>(try simp only[bsx]at g)<;>(conv=>whnf)) | (refine And.intro rfl ?_;conv=>whnf) | (refine loop_round [] ?_;conv=>whnf) | (refine ⟨by decide, _, rfl, rfl, ?_⟩;conv=>whnf) | (refine ⟨_, Weak.refl, ?_⟩;conv=>whnf) | fail)
 exact h1 ⟨c_count, c_round, c_kind, c_every, c_times, c_rate, c_order⟩
end C32

namespace C33
open Go Go.Proofs VL D1 B10 B12 B13 C8 BB6 BB10 BB14 C1 C2 C3 C4 C6 C11 C14 C15 C20 C22 C23 C24 C25 C26 C27 C28 C28b C28c C28d C29 C30 C31 C32
def zP : List V := [.str ⟨#[]⟩, .int .i64 0, .int .i64 0, .int .i64 0, .int .i64 0, .int .i64 0, .int .i64 0, .int .i64 0, .sl [] .ex, .int .i64 0, .int .i64 0, .int .i64 0, .int .i64 0, .int .i64 0, .int .i64 0, .sl [] .ex, .int .i64 0, .int .i64 0, .sl [] .ex]
def pO (l : List V) (a e : Int) : List VObj := [.cells true 28 l, .cells true 3 [.int .i64 a], .cells true 29 [.int .i64 e]]
theorem d_parse1 (a e p f : Int) (K) (h : K true (pO zP p f)) : VCallD Tryz.prog 17 [.ptr 0 0, .ptr 1 0, .ptr 2 0] (pO zP a e) (some (fltP p f)) K := by
 unfold fltP
 unfold pO zP at h ⊢
 refine calld_fun [] 3 Tryz.func17 (by rfl) (by rfl) ?_
 conv=>whnf
 refine ⟨rfl, ?_⟩
 conv=>whnf
 (repeat' first | (refine step_go [] ?_;conv=>whnf) | (refine two ?_ ?_<;>intro g<;>(try simp only[bsx]at g)<;>(conv=>whnf)) | (refine And.intro rfl ?_;conv=>whnf) | (refine dr_go (by decide +kernel) ?_;conv=>whnf) | fail)
 exact h
theorem d_parse0 (l : List V) (hl : l = zP) (a e : Int) (K) (h : K false (pO l a e)) : VCallD Tryz.prog 17 [.ptr 0 0, .ptr 1 0, .ptr 2 0] (pO l a e) none K := by
 subst hl
 unfold pO zP at h ⊢
 refine calld_fun [] 3 Tryz.func17 (by rfl) (by rfl) ?_
 conv=>whnf
 refine ⟨rfl, ?_⟩
 conv=>whnf
 (repeat' first | (refine step_go [] ?_;conv=>whnf) | (refine two ?_ ?_<;>intro g<;>(try simp only[bsx]at g)<;>(conv=>whnf)) | (refine And.intro rfl ?_;conv=>whnf) | (refine dr_go (by decide +kernel) ?_;conv=>whnf) | fail)
 exact h
def pCr (k : Nat) (p : Prod) (s1 s2 s3 : List V) : List V := [.str p.name, .int .i64 p.count, .int .i64 p.rnd, .int .i64 p.kind, .int .i64 p.every, .int .i64 p.times, .int .i64 p.grace, .int .i64 p.rate, .slo k 2 0 p.resets.length (p.resets.length + s1.length), .int .i64 p.pen, .int .i64 p.o1, .int .i64 p.o2, .int .i64 p.o3, .int .i64 p.o4, .int .i64 p.over, .slo (k + 1) 2 0 p.late.length (p.late.length + s2.length), .int .i64 p.cap, .int .i64 p.roll, .slo (k + 2) 1 0 p.hol.length (p.hol.length + s3.length)]
theorem d_parse2 (p : Prod) (s1 s2 s3 : List V) (K) (h : K false (pO (pCr 3 p s1 s2 s3) 0 0 ++ [.buf false 2 (rL p.resets ++ s1), .buf false 2 (tL p.late ++ s2), .buf false 1 (iL p.hol ++ s3)])) :
 VCallD Tryz.prog 17 [.ptr 0 0, .ptr 1 0, .ptr 2 0] (pO (pCr 3 p s1 s2 s3) 0 0 ++ [.buf false 2 (rL p.resets ++ s1), .buf false 2 (tL p.late ++ s2), .buf false 1 (iL p.hol ++ s3)]) none K := by
 unfold pO pCr at h ⊢
 refine calld_fun [] 6 Tryz.func17 (by rfl) (by rfl) ?_
 conv=>whnf
 refine ⟨rfl, ?_⟩
 conv=>whnf
 (repeat' first | (refine step_go [] ?_;conv=>whnf) | (refine two ?_ ?_<;>intro g<;>(try simp only[bsx]at g)<;>(conv=>whnf)) | (refine And.intro rfl ?_;conv=>whnf) | (refine dr_go (by decide +kernel) ?_;conv=>whnf) | fail)
 exact h
theorem tk_r {l : List Rs} {s : List V} : List.take l.length (List.drop 0 (rL l ++ s)) = rL l := by rw [List.drop_zero, show l.length = (rL l).length by simp [rL], List.take_left]
theorem tk_t {l : List Ti} {s : List V} : List.take l.length (List.drop 0 (tL l ++ s)) = tL l := by rw [List.drop_zero, show l.length = (tL l).length by simp [tL], List.take_left]
theorem tk_i {l : List Int} {s : List V} : List.take l.length (List.drop 0 (iL l ++ s)) = iL l := by rw [List.drop_zero, show l.length = (iL l).length by simp [iL], List.take_left]
theorem frz_then (i : Nat) (sp : Bool) {m : Nat} {s F : St} (h : St.frzK i sp s fun s' => Weak m s' F) : Weak m s F := by
 obtain ⟨s', h1, h2⟩ := weak_frz (m := m) i sp h
 exact h1.trans h2
theorem end_frz3 {p : Prod} {a b c : Bool} {s1 s2 s3 : List V} {K : Out -> List VObj -> Prop} (h : K (.ret (.tup [encP p, .int .i64 0, .int .i64 0])) []) :
 ∃ v' sub', Weak 0 ⟨[.tup [.agg (pCr 0 p s1 s2 s3), .int .i64 0, .int .i64 0]], [.buf a 2 (rL p.resets ++ s1), .buf b 2 (tL p.late ++ s2), .buf c 1 (iL p.hol ++ s3)], 0, []⟩ ⟨[v'], sub', 0, []⟩ /\ K (.ret v') sub' := by
 refine ⟨.tup [encP p, .int .i64 0, .int .i64 0], [], ?_, h⟩
 unfold pCr
 refine frz_then 0 false ?_
 conv=>whnf
 refine ⟨by simp [rL], ?_⟩
 rw [tk_r]
 conv=>whnf
 refine frz_then 1 false ?_
 conv=>whnf
 refine ⟨by simp [tL], ?_⟩
 rw [tk_t]
 conv=>whnf
 refine frz_then 2 false ?_
 conv=>whnf
 refine ⟨by simp [iL], ?_⟩
 rw [tk_i]
 conv=>whnf
 exact weak_of (.cons (.eq rfl) .nil) .nil rfl rfl rfl
theorem parse_err {s : List Int} {l : List C3.Tok} {p : Nat} {e : Int} (hl : lexS s = .ok l) (h : textP l = .err p e) : parseS s = (prod0, (p : Int), e) := by unfold parseS; rw [hl]; simp only; rw [h]
theorem parse_yes {s : List Int} {l : List C3.Tok} {q r} (hl : lexS s = .ok l) (h : textP l = .ok q r) (hw : wholeP q.2) (hc : checkP q.1) : parseS s = (q.1, 0, 0) := by unfold parseS; rw [hl]; simp only; rw [h]; simp only; rw [if_pos ⟨hw, hc⟩]
theorem parse_no {s : List Int} {l : List C3.Tok} {q r} (hl : lexS s = .ok l) (h : textP l = .ok q r) (hw : ¬ (wholeP q.2 /\ checkP q.1)) : parseS s = (prod0, (((nextT l).1.at_ : Nat) : Int), 9) := by unfold parseS; rw [hl]; simp only; rw [h]; simp only; rw [if_neg hw]
theorem parse_lex {s : List Int} {p : Nat} {e : Int} (hl : lexS s = .error (p, e)) : parseS s = (prod0, (p : Int), e) := by unfold parseS; rw [hl]
theorem POk0 : POk { prod0 with over := 1, roll := 1 } := by
 refine ⟨by decide, ?_, ?_, ?_, ?_, ?_, ?_, ?_, ?_, ?_, ?_, ?_, ?_, ?_, ?_, ?_, fun x hx => ?_, fun x hx => ?_, fun x hx => ?_⟩
 all_goals first
  | (unfold I64; decide)
  | (exact absurd hx (by simp [prod0]))
theorem textP_I {l : List C3.Tok} {q r} (ht : ∀ t ∈ l, t.text.length < 1000000) (hl : endT l) (h : textP l = .ok q r) : POk q.1 := by
 unfold textP at h
 obtain ⟨a1, s1, h1, h2⟩ := bind_ok h
 obtain ⟨a2, s2, h3, h4⟩ := bind_ok h2
 split at h4
 · obtain ⟨a3, s3, h5, h6⟩ := bind_ok h4
   obtain ⟨a4, s4, h7, h8⟩ := bind_ok h6
   obtain ⟨a5, s5, h9, h10⟩ := bind_ok h8
   injection h10 with e1 e2
   subst e1
   refine groupS_I _ ?_ h7
   rename_i hn
   have hn20 : a2.text.length <= 20 := hn.1.2.1
   exact { POk0 with name := by rw [toBA_size]; omega }
 · cases h4
set_option maxHeartbeats 8000000 in
theorem c_Parse (s : ByteArray) (hs : s.size < 1000000) (K : Out -> List VObj -> Prop)
 (h : K (.ret (.tup [encP (parseS (sB s)).1, .int .i64 (parseS (sB s)).2.1, .int .i64 (parseS (sB s)).2.2])) []) : VCall Tryz.prog 10 [.str s] [] K := by
 refine VCall.weak (call_fun [] 0 Tryz.func10 (by rfl) (by rfl) ?_)
 conv=>whnf
 (repeat' first | (refine step_go [] ?_;conv=>whnf) | (refine two ?_ ?_<;>intro g<;>(try simp only[bsx]at g)<;>(conv=>whnf)) | (refine And.intro rfl ?_;conv=>whnf) | (refine dr_go (by decide +kernel) ?_;conv=>whnf) | fail)
 refine C8.c_All s hs _ (fun l hl => ?_) (fun p e hl => ?_)
 rotate_left
 · rw [parse_lex hl] at h
   have he := lexS_err hl
   conv=>whnf
   (repeat' first | (refine step_go [] ?_;conv=>whnf) | (refine two ?_ ?_<;>intro g<;>(try simp only[bsx]at g)<;>(conv=>whnf)) | (refine And.intro rfl ?_;conv=>whnf) | (refine dr_go (by decide +kernel) ?_;conv=>whnf) | fail)
   rotate_left
   · exfalso; omega
   · refine d_parse0 zP rfl p e _ ?_
     conv=>whnf
     (repeat' first | (refine step_go [] ?_;conv=>whnf) | (refine two ?_ ?_<;>intro g<;>(try simp only[bsx]at g)<;>(conv=>whnf)) | (refine And.intro rfl ?_;conv=>whnf) | fail)
     refine ⟨_, _, weak_of (.cons (.tup (.cons (.agg ?_) (.cons (.eq rfl) (.cons (.eq rfl) .nil)))) .nil) .nil rfl rfl rfl, h⟩
     (repeat' first | exact VQs.nil | refine VQs.cons VQ.no ?_ | refine VQs.cons VQ.spare ?_ | refine VQs.cons (VQ.eq rfl) ?_)
 obtain ⟨hend, hok, hne, hat, hsz, hkl⟩ := lexS_props hl (sB_byte s)
 conv=>whnf
 (refine step_go [] ?_;conv=>whnf)
 (refine step_go [] ?_;conv=>whnf)
 (refine step_go [] ?_;conv=>whnf)
 let S1 : St := ⟨(.str s :: .undef :: .ptr 0 0 :: .ptr 1 0 :: .ptr 2 0 :: .sl (kL l) .no :: .ptr 4 0 :: .undef :: .undef :: .undef :: .undef :: .undef :: .undef :: .undef :: .undef :: .undef :: .undef :: .undef :: .undef :: .undef :: .undef :: .undef :: .undef :: .undef :: .undef :: .undef :: .undef :: .undef :: .undef :: .undef :: .undef :: .undef :: .undef :: .undef :: .undef :: .undef :: .undef :: .undef :: .undef :: .undef :: .undef :: .undef :: .undef :: .undef :: .undef :: .undef :: .undef :: []), pO zP 0 0 ++ [.map [], .cells true 54 [.sl (kL l) .no, .int .i64 0, .str ⟨#[]⟩, .int .i64 0, .int .i64 0, .int .i64 0, .int .i64 0, .int .i64 0, .int .i64 0, .int .i64 0, .slo 5 2 0 0 0, .int .i64 0, .int .i64 0, .int .i64 0, .int .i64 0, .int .i64 0, .int .i64 1, .slo 6 2 0 0 0, .int .i64 0, .int .i64 1, .slo 7 1 0 0 0, .mp 3], .buf false 2 [], .buf false 2 [], .buf false 1 []], 0, [(.func 17, [], [.ptr 0 0, .ptr 1 0, .ptr 2 0])]⟩
 refine VStep.weak (s' := S1) (Weak.trans (weak_nil 4 10 2 none rfl rfl (Nat.zero_le _)) (Weak.trans (weak_nil 4 17 2 none rfl rfl (Nat.zero_le _)) (Weak.trans (weak_nil 4 20 1 none rfl rfl (Nat.zero_le _)) (weak_of ?_ (.cons (.eq rfl) (.cons (.eq rfl) (.cons (.eq rfl) (.cons (.eq rfl) (.cons (.eq rfl) (.cons (.eq rfl) (.cons (.eq rfl) (.cons (.eq rfl) .nil)))))))) rfl rfl rfl)))) ?_
 · (repeat' first | exact VWs.nil | refine VWs.cons VW.undef ?_ | refine VWs.cons (VW.eq rfl) ?_)
 dsimp only [S1, pO, zP, List.cons_append, List.nil_append]
 conv=>whnf
 (repeat' first | (refine step_go [] ?_;conv=>whnf) | (refine two ?_ ?_<;>intro g<;>(try simp only[bsx]at g)<;>(conv=>whnf)) | (refine And.intro rfl ?_;conv=>whnf) | fail)
 refine c_text l 0 (by rw [List.drop_zero]; exact hend) hok ⟨{ prod0 with over := 1, roll := 1 }, [], [], [], []⟩ rfl rfl _ (fun q r i' x' e hq hsn hz => ?_) (fun p e i' x' he => ?_)
 rotate_left
 · rw [List.drop_zero] at he
   rw [parse_err hl he] at h
   refine ⟨?_, ?_⟩
   all_goals
    conv=>whnf
    (repeat' first | (refine step_go [] ?_;conv=>whnf) | (refine two ?_ ?_<;>intro g<;>(try simp only[bsx]at g)<;>(conv=>whnf)) | (refine And.intro rfl ?_;conv=>whnf) | fail)
    refine d_parse1 0 0 p e _ ?_
    conv=>whnf
    (repeat' first | (refine step_go [] ?_;conv=>whnf) | (refine two ?_ ?_<;>intro g<;>(try simp only[bsx]at g)<;>(conv=>whnf)) | (refine And.intro rfl ?_;conv=>whnf) | fail)
    refine ⟨_, _, weak_of (.cons (.tup (.cons (.agg ?_) (.cons (.eq rfl) (.cons (.eq rfl) .nil)))) .nil) .nil rfl rfl rfl, h⟩
    (repeat' first | exact VQs.nil | refine VQs.cons VQ.no ?_ | refine VQs.cons VQ.spare ?_ | refine VQs.cons (VQ.eq rfl) ?_)
 rw [List.drop_zero] at e
 obtain ⟨_, t, r0, hlt, hnt, _⟩ := endT_next hend
 have hget : (kL l)[Int.toNat 0]? = some (encK t) := by rw [hlt]; rfl
 have hno : ¬ (wholeP q.2 /\ checkP q.1) -> K (.ret (.tup [encP prod0, .int .i64 (t.at_ : Nat), .int .i64 9])) [] := fun hh => by rw [parse_no hl e hh, hnt] at h; exact h
 have hyes : wholeP q.2 -> checkP q.1 -> K (.ret (.tup [encP q.1, .int .i64 0, .int .i64 0])) [] := fun a b => by rw [parse_yes hl e a b] at h; exact h
 have hI := textP_I (fun t ht => (hok.2 t ht).2) hend e
 rw [← hq] at hI hz hno hyes
 have hPok : x'.p.ok := hI.full (by omega) (by omega) (by omega)
 clear h
 conv=>whnf
 (repeat' first | (refine step_go [] ?_;conv=>whnf) | (refine two ?_ ?_<;>intro g<;>(try simp only[bsx]at g)<;>(conv=>whnf)) | (refine And.intro rfl ?_;conv=>whnf) | fail)
 refine c_whole l i' x' q.2 hsn _ (fun hw => ?_) (fun hw => ?_)
 rotate_left
 · have hf := hno fun hh => hw hh.1
   conv=>whnf
   (repeat' first | (refine step_go [] ?_;conv=>whnf) | (refine two ?_ ?_<;>intro g<;>(try simp only[bsx]at g)<;>(conv=>whnf)) | (refine And.intro rfl ?_;conv=>whnf) | (refine ⟨by decide, _, hget, rfl, ?_⟩;conv=>whnf) | fail)
   refine d_parse1 0 0 t.at_ 9 _ ?_
   conv=>whnf
   (repeat' first | (refine step_go [] ?_;conv=>whnf) | (refine two ?_ ?_<;>intro g<;>(try simp only[bsx]at g)<;>(conv=>whnf)) | (refine And.intro rfl ?_;conv=>whnf) | fail)
   refine ⟨_, _, weak_of (.cons (.tup (.cons (.agg ?_) (.cons (.eq rfl) (.cons (.eq rfl) .nil)))) .nil) .nil rfl rfl rfl, hf⟩
   (repeat' first | exact VQs.nil | refine VQs.cons VQ.no ?_ | refine VQs.cons VQ.spare ?_ | refine VQs.cons (VQ.eq rfl) ?_)
 conv=>whnf
 (repeat' first | (refine step_go [] ?_;conv=>whnf) | (refine two ?_ ?_<;>intro g<;>(try simp only[bsx]at g)<;>(conv=>whnf)) | (refine And.intro rfl ?_;conv=>whnf) | fail)
 refine VCall.lendC ?_
 conv=>whnf
 refine ⟨by simp [rL], ?_⟩
 conv=>whnf
 refine ⟨by simp [tL], ?_⟩
 conv=>whnf
 refine ⟨by simp [iL], ?_⟩
 conv=>whnf
 rw [tk_r, tk_t, tk_i]
 refine c_Check x'.p hPok _ ?_
 conv=>whnf
 refine ⟨rfl, ?_⟩
 conv=>whnf
 have hcc : checkP x'.p -> checkC x'.p = 0 := fun hh => by unfold checkC; rw [if_pos hh]
 have hcn : ¬ checkP x'.p -> checkC x'.p = 9 := fun hh => by unfold checkC; rw [if_neg hh]
 obtain ⟨cc, hcd⟩ : ∃ cc, checkC x'.p = cc := ⟨_, rfl⟩
 rw [hcd] at hcc hcn ⊢
 (repeat' first | (refine step_go [] ?_;conv=>whnf) | (refine two ?_ ?_<;>intro g<;>(try simp only[bsx]at g)<;>(conv=>whnf)) | (refine And.intro rfl ?_;conv=>whnf) | (refine ⟨by decide, _, hget, rfl, ?_⟩;conv=>whnf) | fail)
 · have hf := hno fun hh => g (hcc hh.2)
   refine d_parse1 0 0 t.at_ 9 _ ?_
   conv=>whnf
   (repeat' first | (refine step_go [] ?_;conv=>whnf) | (refine two ?_ ?_<;>intro g<;>(try simp only[bsx]at g)<;>(conv=>whnf)) | (refine And.intro rfl ?_;conv=>whnf) | fail)
   refine ⟨_, _, weak_of (.cons (.tup (.cons (.agg ?_) (.cons (.eq rfl) (.cons (.eq rfl) .nil)))) .nil) .nil rfl rfl rfl, hf⟩
   (repeat' first | exact VQs.nil | refine VQs.cons VQ.no ?_ | refine VQs.cons VQ.spare ?_ | refine VQs.cons (VQ.eq rfl) ?_)
 · have hck : checkP x'.p := by
    by_cases hh : checkP x'.p
    · exact hh
    · have := hcn hh; omega
   have hf := hyes hw hck
   refine d_parse2 x'.p x'.s1 x'.s2 x'.s3 _ ?_
   conv=>whnf
   (repeat' first | (refine step_go [] ?_;conv=>whnf) | (refine two ?_ ?_<;>intro g<;>(try simp only[bsx]at g)<;>(conv=>whnf)) | (refine And.intro rfl ?_;conv=>whnf) | fail)
   exact end_frz3 (s1 := x'.s1) (s2 := x'.s2) (s3 := x'.s3) hf
end C33

namespace CR1
open Go Go.Proofs VL D1 B10 B12 B13 C8 BB6 BB10 BB14 C1 C2 C3 C4 C6 C15 C20 C22 C28 C28b
structure RS where
 p : Prod
 s1 : List V
 s2 : List V
 s3 : List V
 h : List (List Int)
 s4 : List V
 err : Int
 at_ : Int
def rO (a b c d : Bool) (k : List C3.Tok) (i : Nat) (x : RS) : List VObj :=
 [.cells true 60 [.sl (kL k) .no, .int .i64 i, .str x.p.name, .int .i64 x.p.count, .int .i64 x.p.rnd, .int .i64 x.p.kind, .int .i64 x.p.every, .int .i64 x.p.times, .int .i64 x.p.grace, .int .i64 x.p.rate, .slo 1 2 0 x.p.resets.length (x.p.resets.length + x.s1.length), .int .i64 x.p.pen, .int .i64 x.p.o1, .int .i64 x.p.o2, .int .i64 x.p.o3, .int .i64 x.p.o4, .int .i64 x.p.over, .slo 2 2 0 x.p.late.length (x.p.late.length + x.s2.length), .int .i64 x.p.cap, .int .i64 x.p.roll, .slo 3 1 0 x.p.hol.length (x.p.hol.length + x.s3.length), .slo 4 1 0 x.h.length (x.h.length + x.s4.length), .int .i64 x.err, .int .i64 x.at_],
  .buf a 2 (rL x.p.resets ++ x.s1), .buf b 2 (tL x.p.late ++ x.s2), .buf c 1 (iL x.p.hol ++ x.s3), .buf d 1 (sL x.h ++ x.s4)]
abbrev nx (k : List C3.Tok) (i : Nat) : C3.Tok := (nextT (k.drop i)).1
theorem rget {k : List C3.Tok} {i : Nat} (hk : endT (k.drop i)) : (kL k)[((i : Nat) : Int).toNat]? = some (encK (nx k i)) /\ i < k.length := by
 obtain ⟨_, t, r, hd, e1, e2⟩ := endT_next hk
 have hil : i < k.length := by
  have := congrArg List.length hd
  rw [List.length_drop, List.length_cons] at this; omega
 refine ⟨?_, hil⟩
 have : k[i]? = some t := by
  have := congrArg (fun l => l[0]?) hd
  simpa using this
 rw [Int.toNat_natCast, nx, e1]; simp [kL, this]
theorem rdrop {k : List C3.Tok} {i : Nat} (hk : endT (k.drop i)) (h : (nx k i).kind ≠ 0) : k.drop (i + 1) = (nextT (k.drop i)).2 := by
 obtain ⟨_, t, r, hd, e1, e2⟩ := endT_next hk
 rw [nx, e1] at h
 rcases e2 with ⟨e2, _⟩ | ⟨_, e3⟩
 · exact absurd e2 h
 · rw [e3, ← List.drop_drop, hd]; rfl
set_option maxHeartbeats 2000000 in
theorem c_rfail (k : List C3.Tok) (i : Nat) (x : RS) (hk : x.err = 0 -> endT (k.drop i)) (e : Int) (K : Out -> List VObj -> Prop)
 (h0 : x.err = 0 -> K (.ret (.tup [])) (rO false false false false k i { x with err := e, at_ := (nx k i).at_ }))
 (h1 : x.err ≠ 0 -> K (.ret (.tup [])) (rO false false false false k i x)) :
 VCall Tryz.prog 27 [.ptr 0 0, .int .i64 e] (rO false false false false k i x) K := by
 unfold rO at h0 h1 ⊢
 refine call_fun [] 5 Tryz.func27 (by rfl) (by rfl) ?_
 conv=>whnf
 (repeat' first | (refine step_go [] ?_;conv=>whnf) | (refine two ?_ ?_<;>intro g<;>(try simp only[bsx]at g)<;>(conv=>whnf)) | (refine And.intro rfl ?_;conv=>whnf) | fail)
 · obtain ⟨hget, _⟩ := rget (hk g)
   refine ⟨by omega, _, hget, rfl, ?_⟩
   conv=>whnf
   (repeat' first | (refine step_go [] ?_;conv=>whnf) | (refine two ?_ ?_<;>intro g<;>(try simp only[bsx]at g)<;>(conv=>whnf)) | (refine And.intro rfl ?_;conv=>whnf) | fail)
   exact h0 g
 · exact h1 g
set_option maxHeartbeats 2000000 in
theorem c_ris (k : List C3.Tok) (i : Nat) (x : RS) (hk : x.err = 0 -> endT (k.drop i)) (hl : okT k) (kd : Int) (w : List Int) (hw : ∀ x ∈ w, 0 <= x /\ x < 256) (K : Out -> List VObj -> Prop)
 (h1 : x.err = 0 -> (nx k i).kind = kd -> (nx k i).text = w -> K (.ret (.bool true)) (rO false false false false k i x))
 (h0 : ¬ (x.err = 0 /\ (nx k i).kind = kd /\ (nx k i).text = w) -> K (.ret (.bool false)) (rO false false false false k i x)) :
 VCall Tryz.prog 53 [.ptr 0 0, .int .i64 kd, .str (toBA w)] (rO false false false false k i x) K := by
 unfold rO at h0 h1 ⊢
 refine call_fun [] 5 Tryz.func53 (by rfl) (by rfl) ?_
 conv=>whnf
 by_cases he : x.err = 0
 · obtain ⟨hget, _⟩ := rget (hk he)
   have hm := next_mem (hk he)
   have hb := hl.2 _ hm
   have e1 : (toBA (nx k i).text).toList = (toBA w).toList ↔ (nx k i).text = w := toBA_eq hb.1 hw
   obtain ⟨b, hbb⟩ : ∃ b, ((toBA (nx k i).text).toList == (toBA w).toList) = b := ⟨_, rfl⟩
   have hbt : b = true ↔ (nx k i).text = w := by rw [← hbb, beq_iff_eq]; exact e1
   (repeat' first | (refine step_go [] ?_;conv=>whnf) | (refine two ?_ ?_<;>intro g<;>(try simp only[bsx]at g)<;>(conv=>whnf)) | (refine And.intro rfl ?_;conv=>whnf) | (refine ⟨by omega, _, hget, rfl, ?_⟩;conv=>whnf) | fail)
   · rw [hbb]
     cases b with
     | true => exact h1 (by assumption) (by assumption) (hbt.1 rfl)
     | false => exact h0 (fun hh => by have := hbt.2 hh.2.2; cases this)
   all_goals exact h0 (fun hh => by first | exact absurd hh.1 (by assumption) | exact absurd hh.2.1 (by assumption))
 · (repeat' first | (refine step_go [] ?_;conv=>whnf) | (refine two ?_ ?_<;>intro g<;>(try simp only[bsx]at g)<;>(conv=>whnf)) | (refine And.intro rfl ?_;conv=>whnf) | fail)
   all_goals first
    | exact h0 (fun hh => he hh.1)
    | exact absurd (by assumption) he
set_option maxHeartbeats 2000000 in
theorem c_rsign (k : List C3.Tok) (i : Nat) (x : RS) (hk : x.err = 0 -> endT (k.drop i)) (hl : okT k) (kd : Int) (hkd : kd ≠ 0) (w : List Int) (hw : ∀ x ∈ w, 0 <= x /\ x < 256) (hw0 : w ≠ []) (K : Out -> List VObj -> Prop)
 (h0 : x.err = 0 -> ∀ t r i', wantS kd w (k.drop i) = .ok t r -> k.drop i' = r -> endT r -> K (.ret (.tup [])) (rO false false false false k i' x))
 (h1 : x.err = 0 -> ∀ p : Nat, wantS kd w (k.drop i) = .err p 7 -> K (.ret (.tup [])) (rO false false false false k i { x with err := 7, at_ := p }))
 (h2 : x.err ≠ 0 -> K (.ret (.tup [])) (rO false false false false k i x)) :
 VCall Tryz.prog 23 [.ptr 0 0, .int .i64 kd, .str (toBA w)] (rO false false false false k i x) K := by
 have his := @c_ris k i x hk hl kd w hw
 have hfa := @c_rfail k i x hk 7
 unfold rO at *
 refine call_fun [] 5 Tryz.func23 (by rfl) (by rfl) ?_
 conv=>whnf
 (repeat' first | (refine step_go [] ?_;conv=>whnf) | (refine two ?_ ?_<;>intro g<;>(try simp only[bsx]at g)<;>(conv=>whnf)) | (refine And.intro rfl ?_;conv=>whnf) | fail)
 refine his _ (fun he e1 e2 => ?_) (fun hn => ?_)
 · obtain ⟨hget, hil⟩ := rget (hk he)
   have hbig := hl.1
   conv=>whnf
   (repeat' first | (refine step_go [] ?_;conv=>whnf) | (refine two ?_ ?_<;>intro g<;>(try simp only[bsx]at g)<;>(conv=>whnf)) | (refine And.intro rfl ?_;conv=>whnf) | fail)
   rw [wrap64 (by omega) (by omega)]
   exact h0 he _ _ (i + 1) (by unfold wantS; rw [if_pos ⟨e1, .inr e2⟩]) (rdrop (hk he) (by rw [e1]; exact hkd)) (endT_next (hk he)).1
 · conv=>whnf
   (repeat' first | (refine step_go [] ?_;conv=>whnf) | (refine two ?_ ?_<;>intro g<;>(try simp only[bsx]at g)<;>(conv=>whnf)) | (refine And.intro rfl ?_;conv=>whnf) | fail)
   refine hfa _ (fun he => ?_) (fun he => ?_)
   · conv=>whnf
     (repeat' first | (refine step_go [] ?_;conv=>whnf) | (refine two ?_ ?_<;>intro g<;>(try simp only[bsx]at g)<;>(conv=>whnf)) | (refine And.intro rfl ?_;conv=>whnf) | fail)
     exact h1 he _ (by unfold wantS; rw [if_neg (fun hh => hn ⟨he, hh.1, hh.2.resolve_left hw0⟩)])
   · conv=>whnf
     (repeat' first | (refine step_go [] ?_;conv=>whnf) | (refine two ?_ ?_<;>intro g<;>(try simp only[bsx]at g)<;>(conv=>whnf)) | (refine And.intro rfl ?_;conv=>whnf) | fail)
     exact h2 he
set_option maxHeartbeats 2000000 in
theorem c_rdone1 (k : List C3.Tok) (i : Nat) (x : RS) (hi : i < 1000000) (K : Out -> List VObj -> Prop)
 (h : K (.ret (.tup [])) (rO false false false false k (i + 1) x)) :
 VCall Tryz.prog 24 [.ptr 0 0, .bool true] (rO false false false false k i x) K := by
 unfold rO at *
 refine call_fun [] 5 Tryz.func24 (by rfl) (by rfl) ?_
 conv=>whnf
 (repeat' first | (refine step_go [] ?_;conv=>whnf) | (refine two ?_ ?_<;>intro g<;>(try simp only[bsx]at g)<;>(conv=>whnf)) | (refine And.intro rfl ?_;conv=>whnf) | fail)
 rw [wrap64 (by omega) (by omega)]
 exact h
set_option maxHeartbeats 2000000 in
theorem c_rdone0 (k : List C3.Tok) (i : Nat) (x : RS) (hk : x.err = 0 -> endT (k.drop i)) (K : Out -> List VObj -> Prop)
 (h0 : x.err = 0 -> K (.ret (.tup [])) (rO false false false false k i { x with err := 7, at_ := (nx k i).at_ }))
 (h1 : x.err ≠ 0 -> K (.ret (.tup [])) (rO false false false false k i x)) :
 VCall Tryz.prog 24 [.ptr 0 0, .bool false] (rO false false false false k i x) K := by
 have hfa := @c_rfail k i x hk 7
 unfold rO at *
 refine call_fun [] 5 Tryz.func24 (by rfl) (by rfl) ?_
 conv=>whnf
 (repeat' first | (refine step_go [] ?_;conv=>whnf) | (refine two ?_ ?_<;>intro g<;>(try simp only[bsx]at g)<;>(conv=>whnf)) | (refine And.intro rfl ?_;conv=>whnf) | fail)
 refine hfa _ (fun he => ?_) (fun he => ?_)
 · conv=>whnf
   (repeat' first | (refine step_go [] ?_;conv=>whnf) | (refine two ?_ ?_<;>intro g<;>(try simp only[bsx]at g)<;>(conv=>whnf)) | (refine And.intro rfl ?_;conv=>whnf) | fail)
   exact h0 he
 · conv=>whnf
   (repeat' first | (refine step_go [] ?_;conv=>whnf) | (refine two ?_ ?_<;>intro g<;>(try simp only[bsx]at g)<;>(conv=>whnf)) | (refine And.intro rfl ?_;conv=>whnf) | fail)
   exact h1 he
set_option maxHeartbeats 2000000 in
theorem c_rtext (k : List C3.Tok) (i : Nat) (x : RS) (hk : x.err = 0 -> endT (k.drop i)) (K : Out -> List VObj -> Prop)
 (h1 : x.err = 0 -> (nx k i).kind = 2 -> K (.ret (.str (toBA (nx k i).text))) (rO false false false false k i x))
 (h0 : ¬ (x.err = 0 /\ (nx k i).kind = 2) -> K (.ret (.str ⟨#[]⟩)) (rO false false false false k i x)) :
 VCall Tryz.prog 116 [.ptr 0 0] (rO false false false false k i x) K := by
 unfold rO at *
 refine call_fun [] 5 Tryz.func116 (by rfl) (by rfl) ?_
 conv=>whnf
 by_cases he : x.err = 0
 · obtain ⟨hget, _⟩ := rget (hk he)
   (repeat' first | (refine step_go [] ?_;conv=>whnf) | (refine two ?_ ?_<;>intro g<;>(try simp only[bsx]at g)<;>(conv=>whnf)) | (refine And.intro rfl ?_;conv=>whnf) | (refine ⟨by omega, _, hget, rfl, ?_⟩;conv=>whnf) | fail)
   all_goals first
    | exact h1 (by assumption) (by assumption)
    | exact h0 (fun hh => by first | exact absurd hh.1 (by assumption) | exact absurd hh.2 (by assumption))
 · (repeat' first | (refine step_go [] ?_;conv=>whnf) | (refine two ?_ ?_<;>intro g<;>(try simp only[bsx]at g)<;>(conv=>whnf)) | (refine And.intro rfl ?_;conv=>whnf) | fail)
   all_goals first
    | exact h0 (fun hh => he hh.1)
    | exact absurd (by assumption) he
theorem word_idx {ws : List (List Int)} {j : Nat} {w : List Int} (hj : ws[j]? = some w) (hn : w ∉ ws.take j) : ws.idxOf w = j := by
 have hjl : j < ws.length := by
  rcases Nat.lt_or_ge j ws.length with h | h
  · exact h
  · rw [List.getElem?_eq_none h] at hj; cases hj
 have hd : ws.drop j = w :: ws.drop (j + 1) := by
  rw [List.drop_eq_getElem_cons hjl]
  rw [List.getElem?_eq_getElem hjl] at hj
  injection hj with hj; rw [hj]
 conv => lhs; rw [← List.take_append_drop j ws, hd]
 rw [List.idxOf_append, if_neg hn, List.idxOf_cons_self, List.length_take]; omega
set_option maxHeartbeats 2000000 in
theorem c_rword (k : List C3.Tok) (i : Nat) (x : RS) (hk : x.err = 0 -> endT (k.drop i)) (hl : okT k) (ws : List (List Int)) (hws : bytesOk ws) (hn : ws.length < 1000) (K : Out -> List VObj -> Prop)
 (h0 : x.err = 0 -> ∀ n r i', pickS ws (k.drop i) = .ok n r -> k.drop i' = r -> endT r -> K (.ret (.int .i64 (n - 1))) (rO false false false false k i' x))
 (h1 : x.err = 0 -> ∀ p : Nat, pickS ws (k.drop i) = .err p 7 -> K (.ret (.int .i64 0)) (rO false false false false k i { x with err := 7, at_ := p }))
 (h2 : x.err ≠ 0 -> K (.ret (.int .i64 0)) (rO false false false false k i x)) :
 VCall Tryz.prog 88 [.ptr 0 0, .sl (sL ws) .no] (rO false false false false k i x) K := by
 have hsl : (sL ws).length = ws.length := by simp [sL]
 have his := fun w hw => @c_ris k i x hk hl 1 w hw
 have hfa := @c_rfail k i x hk 7
 let S : Nat -> St := fun j => ⟨(.ptr 0 0 :: .sl (sL ws) .no :: .undef :: .undef :: .int .i64 0 :: .int .i64 (j : Nat) :: .undef :: .undef :: .undef :: .undef :: .undef :: .undef :: .undef :: .undef :: .undef :: .undef :: .undef :: .undef :: .undef :: .undef :: .undef :: .undef :: .undef :: .undef :: .undef :: .undef :: .undef :: .undef :: []), rO false false false false k i x, 0, []⟩
 unfold rO at his hfa h0 h1 h2 ⊢
 refine call_fun [] 5 Tryz.func88 (by rfl) (by rfl) ?_
 conv=>whnf
 (repeat' first | (refine step_go [] ?_;conv=>whnf) | (refine two ?_ ?_<;>intro g<;>(try simp only[bsx]at g)<;>(conv=>whnf)) | (refine And.intro rfl ?_;conv=>whnf) | fail)
 refine VLoop.enter (s' := S 0) (weak_of ?_ (.cons (.eq rfl) (.cons (.eq rfl) (.cons (.eq rfl) (.cons (.eq rfl) (.cons (.eq rfl) .nil))))) rfl rfl rfl)
  (VLoop.indW S (fun j => ws.length - j) (fun j => j <= ws.length /\ (x.err = 0 -> (nx k i).kind = 1 -> (nx k i).text ∉ ws.take j)) ?_ 0 ⟨by omega, by simp⟩)
 · (repeat' first | exact VWs.nil | refine VWs.cons VW.undef ?_ | refine VWs.cons (VW.eq rfl) ?_)
 rintro j ⟨hj, hinv⟩ ih
 refine loop_round [] ?_; conv=>whnf
 (repeat' first | (refine step_go [] ?_;conv=>whnf) | (refine two ?_ ?_<;>intro g<;>(try simp only[bsx]at g)<;>(conv=>whnf)) | (refine And.intro rfl ?_;conv=>whnf) | fail)
 · have hjl : j < ws.length := by omega
   have hget : (sL ws)[((j : Nat) : Int).toNat]? = some (.str (toBA ws[j])) := by rw [Int.toNat_natCast]; simp [sL, List.getElem?_eq_getElem hjl]
   have hmem : ws[j] ∈ ws := List.getElem_mem _
   have hj2 : ws[j]? = some ws[j] := List.getElem?_eq_getElem hjl
   obtain ⟨w, hw2⟩ : ∃ w, ws[j] = w := ⟨_, rfl⟩
   have htk : ws.take (j + 1) = ws.take j ++ [w] := by rw [List.take_succ_eq_append_getElem hjl, hw2]
   rw [hw2] at hget hmem hj2
   have wj : IntKind.i64.wrap ((j : Int) + 1) = ((j + 1 : Nat) : Int) := by rw [wrap64 (by omega) (by omega)]; omega
   refine ⟨by omega, _, hget, rfl, ?_⟩
   conv=>whnf
   (repeat' first | (refine step_go [] ?_;conv=>whnf) | (refine two ?_ ?_<;>intro g<;>(try simp only[bsx]at g)<;>(conv=>whnf)) | (refine And.intro rfl ?_;conv=>whnf) | fail)
   refine his w (hws w hmem) _ (fun he e1 e2 => ?_) (fun hn => ?_)
   · obtain ⟨_, hil⟩ := rget (hk he)
     have hbig := hl.1
     have hn1 := hinv he e1
     rw [e2] at hn1
     have hidx := word_idx hj2 hn1
     have hf := h0 he (j + 1 : Nat) _ (i + 1) (by
      unfold pickS
      have hwn : wantS 1 [] (k.drop i) = .ok (nx k i) (nextT (k.drop i)).2 := by unfold wantS; rw [if_pos ⟨e1, .inl rfl⟩]
      rw [hwn]
      show (if _ then _ else _) = _
      rw [if_pos (by rw [e2]; exact hmem), e2, hidx]) (rdrop (hk he) (by rw [e1]; decide)) (endT_next (hk he)).1
     rw [show (((j + 1 : Nat) : Int) - 1) = (j : Int) by omega] at hf
     conv=>whnf
     (repeat' first | (refine step_go [] ?_;conv=>whnf) | (refine two ?_ ?_<;>intro g<;>(try simp only[bsx]at g)<;>(conv=>whnf)) | (refine And.intro rfl ?_;conv=>whnf) | fail)
     rw [wrap64 (by omega) (by omega)]
     refine ⟨_, Weak.refl, ?_⟩; conv=>whnf
     (repeat' first | (refine step_go [] ?_;conv=>whnf) | (refine two ?_ ?_<;>intro g<;>(try simp only[bsx]at g)<;>(conv=>whnf)) | (refine And.intro rfl ?_;conv=>whnf) | fail)
     exact hf
   · conv=>whnf
     (repeat' first | (refine step_go [] ?_;conv=>whnf) | (refine two ?_ ?_<;>intro g<;>(try simp only[bsx]at g)<;>(conv=>whnf)) | (refine And.intro rfl ?_;conv=>whnf) | fail)
     exact ⟨S (j + 1), weak_of (by rw [wj]; (repeat' first | exact VWs.nil | refine VWs.cons VW.undef ?_ | refine VWs.cons (VW.eq rfl) ?_)) (.cons (.eq rfl) (.cons (.eq rfl) (.cons (.eq rfl) (.cons (.eq rfl) (.cons (.eq rfl) .nil))))) rfl rfl rfl, ih (j + 1) ⟨by omega, fun a b => by
      rw [htk]; simp only [List.mem_append, List.mem_singleton, not_or]
      exact ⟨hinv a b, fun e => hn ⟨a, b, e⟩⟩⟩ (by omega)⟩
 · have hjl : j = ws.length := by omega
   subst hjl
   rw [List.take_length] at hinv
   refine ⟨_, Weak.refl, ?_⟩; conv=>whnf
   (repeat' first | (refine step_go [] ?_;conv=>whnf) | (refine two ?_ ?_<;>intro g<;>(try simp only[bsx]at g)<;>(conv=>whnf)) | (refine And.intro rfl ?_;conv=>whnf) | fail)
   refine hfa _ (fun he => ?_) (fun he => ?_)
   · have hf := h1 he (nx k i).at_ (by
      unfold pickS
      by_cases e1 : (nx k i).kind = 1
      · have hwn : wantS 1 [] (k.drop i) = .ok (nx k i) (nextT (k.drop i)).2 := by unfold wantS; rw [if_pos ⟨e1, .inl rfl⟩]
        rw [hwn]
        show (if _ then _ else _) = _
        rw [if_neg (hinv he e1)]
      · have hwn : wantS 1 [] (k.drop i) = .err (nx k i).at_ 7 := by unfold wantS; rw [if_neg (fun hh => e1 hh.1)]
        rw [hwn]; rfl)
     conv=>whnf
     (repeat' first | (refine step_go [] ?_;conv=>whnf) | (refine two ?_ ?_<;>intro g<;>(try simp only[bsx]at g)<;>(conv=>whnf)) | (refine And.intro rfl ?_;conv=>whnf) | fail)
     exact hf
   · have hf := h2 he
     conv=>whnf
     (repeat' first | (refine step_go [] ?_;conv=>whnf) | (refine two ?_ ?_<;>intro g<;>(try simp only[bsx]at g)<;>(conv=>whnf)) | (refine And.intro rfl ?_;conv=>whnf) | fail)
     exact hf
end CR1

namespace CR2
open Go Go.Proofs VL D1 B10 B12 B13 B20 B21 B22 C8 BB6 BB10 BB14 C1 C2 C3 C4 C6 C15 C20 C21 C22 C25 C26 C28 C28b CR1
def numR (l : List Int) : Int := if l = [] then -1 else match numS l with
 | some n => n
 | none => -1
theorem numR_no {l : List Int} (h : l = [] \/ ¬ ((∀ x ∈ l, Dig x) /\ l.length <= 9 /\ (2 <= l.length -> l.head? ≠ some 48))) : numR l = -1 := by
 unfold numR
 rcases h with h | h
 · rw [if_pos h]
 · split
   · rfl
   · unfold numS; rw [if_neg h]
theorem numR_yes {l : List Int} (h0 : l ≠ []) (h : (∀ x ∈ l, Dig x) /\ l.length <= 9 /\ (2 <= l.length -> l.head? ≠ some 48)) : numR l = vl l := by
 unfold numR
 rw [if_neg h0]
 unfold numS; rw [if_pos h]
set_option maxHeartbeats 2000000 in
theorem c_rNum (s : ByteArray) (hs : s.size < 1000000) (K : Out -> List VObj -> Prop) (h : K (.ret (.int .i64 (numR (sB s)))) []) : VCall Tryz.prog 115 [.str s] [] K := by
 have hsl := sB_len s
 obtain ⟨l, hl⟩ : ∃ l, sB s = l := ⟨_, rfl⟩
 have hno : (l = [] \/ ¬ ((∀ x ∈ l, Dig x) /\ l.length <= 9 /\ (2 <= l.length -> l.head? ≠ some 48))) -> K (.ret (.int .i64 (-1))) [] := fun hh => by rw [hl, numR_no hh] at h; exact h
 have hyes : l ≠ [] -> ((∀ x ∈ l, Dig x) /\ l.length <= 9 /\ (2 <= l.length -> l.head? ≠ some 48)) -> K (.ret (.int .i64 (vl l : Nat))) [] := fun h0 hh => by rw [hl, numR_yes h0 hh] at h; exact h
 clear h
 rw [hl] at hsl
 let S : Nat -> St := fun i => ⟨(.str s :: .undef :: .int .i64 0 :: .int .i64 (vl (l.take i) : Nat) :: .int .i64 (i : Nat) :: .undef :: .undef :: .undef :: .undef :: .undef :: .undef :: .undef :: .undef :: .undef :: .undef :: .undef :: .undef :: .undef :: .undef :: .undef :: .undef :: .undef :: .undef :: .undef :: .undef :: .undef :: .undef :: .undef :: .undef :: .undef :: .undef :: .undef :: .undef :: .undef :: .undef :: .undef :: .undef :: .undef :: .undef :: .undef :: .undef :: .undef :: .undef :: []), [], 0, []⟩
 refine call_fun [] 0 Tryz.func115 (by rfl) (by rfl) ?_
 conv=>whnf
 have hidx : ∀ (i : Nat), i < l.length -> ∃ x, l[i]? = some x := fun i hi => ⟨_, List.getElem?_eq_getElem hi⟩
 have hhd : ∀ x, l[0]? = some x -> l.head? = some x := fun x hx => by rw [List.head?_eq_getElem?]; exact hx
 (repeat' first | (refine step_go [] ?_;conv=>whnf) | (refine two ?_ ?_<;>intro g<;>(try simp only[bsx]at g)<;>(conv=>whnf)) | (refine And.intro rfl ?_;conv=>whnf) | fail)
 · exact hno (.inl (List.length_eq_zero_iff.1 (by omega)))
 · exact hno (.inr fun hh => by omega)
 · obtain ⟨x, hx⟩ := hidx 0 (by omega)
   have hx0 := hhd x hx
   refine idx_str (x := x) (by omega) (by rw [hl]; exact hx) fun c hc => ?_
   conv=>whnf
   (repeat' first | (refine step_go [] ?_;conv=>whnf) | (refine two ?_ ?_<;>intro g<;>(try simp only[bsx]at g)<;>(conv=>whnf)) | (refine And.intro rfl ?_;conv=>whnf) | fail)
   · rename_i g
     exact hno (.inr fun hh => hh.2.2 (by omega) (by rw [hx0, ← hc]; simp only [Option.some.injEq]; omega))
   · rename_i g
     have hcond : l ≠ [] /\ l.length <= 9 /\ (2 <= l.length -> l.head? ≠ some 48) := ⟨fun e => by rw [e] at hsl; simp at hsl; omega, by omega, fun _ e => by rw [hx0] at e; injection e with e; omega⟩
     refine VLoop.enter (s' := S 0) (weak_of ?_ .nil rfl rfl rfl) (VLoop.indW S (fun j => l.length - j) (fun j => j <= l.length /\ ∀ x ∈ l.take j, Dig x) ?_ 0 ⟨by omega, by simp⟩)
     · (repeat' first | exact VWs.nil | refine VWs.cons VW.undef ?_ | refine VWs.cons (VW.eq rfl) ?_)
     rintro j ⟨hj, hinv⟩ ih
     refine loop_round [] ?_; conv=>whnf
     (repeat' first | (refine step_go [] ?_;conv=>whnf) | (refine two ?_ ?_<;>intro g<;>(try simp only[bsx]at g)<;>(conv=>whnf)) | (refine And.intro rfl ?_;conv=>whnf) | fail)
     · have hjl : j < l.length := by omega
       obtain ⟨x, hx⟩ := hidx j hjl
       have hlt : l.take (j + 1) = l.take j ++ [x] := by
        rw [List.take_add_one, hx]; rfl
       have hmem : x ∈ l := List.mem_of_getElem? hx
       have hbx := sB_byte s x (by rw [hl]; exact hmem)
       refine idx_str (x := x) (by omega) (by rw [hl, Int.toNat_natCast]; exact hx) fun c hc => ?_
       conv=>whnf
       (repeat' first | (refine step_go [] ?_;conv=>whnf) | (refine two ?_ ?_<;>intro g<;>(try simp only[bsx]at g)<;>(conv=>whnf)) | (refine And.intro rfl ?_;conv=>whnf) | fail)
       refine c_digit _ _ ?_
       obtain ⟨b, hbd⟩ : ∃ b, decide (Dig ((c.toNat : Nat) : Int)) = b := ⟨_, rfl⟩
       rw [hbd]
       cases b with
       | false =>
         have hnd : ¬ Dig x := by rw [← hc]; exact of_decide_eq_false hbd
         conv=>whnf
         (repeat' first | (refine step_go [] ?_;conv=>whnf) | (refine two ?_ ?_<;>intro g<;>(try simp only[bsx]at g)<;>(conv=>whnf)) | (refine And.intro rfl ?_;conv=>whnf) | fail)
         refine ⟨_, Weak.refl, ?_⟩; conv=>whnf
         (repeat' first | (refine step_go [] ?_;conv=>whnf) | (refine two ?_ ?_<;>intro g<;>(try simp only[bsx]at g)<;>(conv=>whnf)) | (refine And.intro rfl ?_;conv=>whnf) | fail)
         exact hno (.inr fun hh => hnd (hh.1 x hmem))
       | true =>
         have hdx : Dig x := by rw [← hc]; exact of_decide_eq_true hbd
         conv=>whnf
         (repeat' first | (refine step_go [] ?_;conv=>whnf) | (refine two ?_ ?_<;>intro g<;>(try simp only[bsx]at g)<;>(conv=>whnf)) | (refine And.intro rfl ?_;conv=>whnf) | fail)
         refine idx_str (x := x) (by omega) (by rw [hl, Int.toNat_natCast]; exact hx) fun c2 hc2 => ?_
         conv=>whnf
         (repeat' first | (refine step_go [] ?_;conv=>whnf) | (refine two ?_ ?_<;>intro g<;>(try simp only[bsx]at g)<;>(conv=>whnf)) | (refine And.intro rfl ?_;conv=>whnf) | fail)
         have hbd2 := vl_lt (l.take j) hinv
         have hp : 10 ^ (l.take j).length <= 10 ^ 9 := Nat.pow_le_pow_right (by omega) (by simp; omega)
         have hdx2 := hdx
         unfold Dig at hdx2
         have wn : IntKind.i64.wrap (IntKind.i64.wrap (10 * ((vl (l.take j) : Nat) : Int)) + IntKind.i64.wrap (IntKind.u8.wrap (((c2.toNat : Nat) : Int) - 48))) = (vl (l.take (j + 1)) : Nat) := by
          rw [show IntKind.u8.wrap (((c2.toNat : Nat) : Int) - 48) = x - 48 by rw [IntKind.wrap_u8]; omega, wrap64 (x := x - 48) (by omega) (by omega), wrap64 (x := 10 * ((vl (l.take j) : Nat) : Int)) (by omega) (by omega), wrap64 (by omega) (by omega), hlt, vl_snoc]; omega
         have wj : IntKind.i64.wrap ((j : Int) + 1) = ((j + 1 : Nat) : Int) := by rw [wrap64 (by omega) (by omega)]; omega
         exact ⟨S (j + 1), weak_of (by rw [wj, wn]; (repeat' first | exact VWs.nil | refine VWs.cons VW.undef ?_ | refine VWs.cons (VW.eq rfl) ?_)) .nil rfl rfl rfl, ih (j + 1) ⟨by omega, fun y hy => by
          rw [hlt] at hy
          rcases List.mem_append.1 hy with hy | hy
          · exact hinv y hy
          · simp at hy; subst hy; exact hdx⟩ (by omega)⟩
     · have hjl : j = l.length := by omega
       subst hjl
       have hf := hyes hcond.1 ⟨fun x hx => hinv x (by rw [List.take_length]; exact hx), hcond.2⟩
       rw [List.take_length]
       refine ⟨_, Weak.refl, ?_⟩; conv=>whnf
       (repeat' first | (refine step_go [] ?_;conv=>whnf) | (refine two ?_ ?_<;>intro g<;>(try simp only[bsx]at g)<;>(conv=>whnf)) | (refine And.intro rfl ?_;conv=>whnf) | fail)
       exact hf
 · have hcond : l ≠ [] /\ l.length <= 9 /\ (2 <= l.length -> l.head? ≠ some 48) := ⟨fun e => by rw [e] at hsl; simp at hsl; omega, by omega, fun _ e => by omega⟩
   refine VLoop.enter (s' := S 0) (weak_of ?_ .nil rfl rfl rfl) (VLoop.indW S (fun j => l.length - j) (fun j => j <= l.length /\ ∀ x ∈ l.take j, Dig x) ?_ 0 ⟨by omega, by simp⟩)
   · (repeat' first | exact VWs.nil | refine VWs.cons VW.undef ?_ | refine VWs.cons (VW.eq rfl) ?_)
   rintro j ⟨hj, hinv⟩ ih
   refine loop_round [] ?_; conv=>whnf
   (repeat' first | (refine step_go [] ?_;conv=>whnf) | (refine two ?_ ?_<;>intro g<;>(try simp only[bsx]at g)<;>(conv=>whnf)) | (refine And.intro rfl ?_;conv=>whnf) | fail)
   · have hjl : j < l.length := by omega
     obtain ⟨x, hx⟩ := hidx j hjl
     have hlt : l.take (j + 1) = l.take j ++ [x] := by
      rw [List.take_add_one, hx]; rfl
     have hmem : x ∈ l := List.mem_of_getElem? hx
     have hbx := sB_byte s x (by rw [hl]; exact hmem)
     refine idx_str (x := x) (by omega) (by rw [hl, Int.toNat_natCast]; exact hx) fun c hc => ?_
     conv=>whnf
     (repeat' first | (refine step_go [] ?_;conv=>whnf) | (refine two ?_ ?_<;>intro g<;>(try simp only[bsx]at g)<;>(conv=>whnf)) | (refine And.intro rfl ?_;conv=>whnf) | fail)
     refine c_digit _ _ ?_
     obtain ⟨b, hbd⟩ : ∃ b, decide (Dig ((c.toNat : Nat) : Int)) = b := ⟨_, rfl⟩
     rw [hbd]
     cases b with
     | false =>
       have hnd : ¬ Dig x := by rw [← hc]; exact of_decide_eq_false hbd
       conv=>whnf
       (repeat' first | (refine step_go [] ?_;conv=>whnf) | (refine two ?_ ?_<;>intro g<;>(try simp only[bsx]at g)<;>(conv=>whnf)) | (refine And.intro rfl ?_;conv=>whnf) | fail)
       refine ⟨_, Weak.refl, ?_⟩; conv=>whnf
       (repeat' first | (refine step_go [] ?_;conv=>whnf) | (refine two ?_ ?_<;>intro g<;>(try simp only[bsx]at g)<;>(conv=>whnf)) | (refine And.intro rfl ?_;conv=>whnf) | fail)
       exact hno (.inr fun hh => hnd (hh.1 x hmem))
     | true =>
       have hdx : Dig x := by rw [← hc]; exact of_decide_eq_true hbd
       conv=>whnf
       (repeat' first | (refine step_go [] ?_;conv=>whnf) | (refine two ?_ ?_<;>intro g<;>(try simp only[bsx]at g)<;>(conv=>whnf)) | (refine And.intro rfl ?_;conv=>whnf) | fail)
       refine idx_str (x := x) (by omega) (by rw [hl, Int.toNat_natCast]; exact hx) fun c2 hc2 => ?_
       conv=>whnf
       (repeat' first | (refine step_go [] ?_;conv=>whnf) | (refine two ?_ ?_<;>intro g<;>(try simp only[bsx]at g)<;>(conv=>whnf)) | (refine And.intro rfl ?_;conv=>whnf) | fail)
       have hbd2 := vl_lt (l.take j) hinv
       have hp : 10 ^ (l.take j).length <= 10 ^ 9 := Nat.pow_le_pow_right (by omega) (by simp; omega)
       have hdx2 := hdx
       unfold Dig at hdx2
       have wn : IntKind.i64.wrap (IntKind.i64.wrap (10 * ((vl (l.take j) : Nat) : Int)) + IntKind.i64.wrap (IntKind.u8.wrap (((c2.toNat : Nat) : Int) - 48))) = (vl (l.take (j + 1)) : Nat) := by
        rw [show IntKind.u8.wrap (((c2.toNat : Nat) : Int) - 48) = x - 48 by rw [IntKind.wrap_u8]; omega, wrap64 (x := x - 48) (by omega) (by omega), wrap64 (x := 10 * ((vl (l.take j) : Nat) : Int)) (by omega) (by omega), wrap64 (by omega) (by omega), hlt, vl_snoc]; omega
       have wj : IntKind.i64.wrap ((j : Int) + 1) = ((j + 1 : Nat) : Int) := by rw [wrap64 (by omega) (by omega)]; omega
       exact ⟨S (j + 1), weak_of (by rw [wj, wn]; (repeat' first | exact VWs.nil | refine VWs.cons VW.undef ?_ | refine VWs.cons (VW.eq rfl) ?_)) .nil rfl rfl rfl, ih (j + 1) ⟨by omega, fun y hy => by
        rw [hlt] at hy
        rcases List.mem_append.1 hy with hy | hy
        · exact hinv y hy
        · simp at hy; subst hy; exact hdx⟩ (by omega)⟩
   · have hjl : j = l.length := by omega
     subst hjl
     have hf := hyes hcond.1 ⟨fun x hx => hinv x (by rw [List.take_length]; exact hx), hcond.2⟩
     rw [List.take_length]
     refine ⟨_, Weak.refl, ?_⟩; conv=>whnf
     (repeat' first | (refine step_go [] ?_;conv=>whnf) | (refine two ?_ ?_<;>intro g<;>(try simp only[bsx]at g)<;>(conv=>whnf)) | (refine And.intro rfl ?_;conv=>whnf) | fail)
     exact hf
end CR2

namespace CR3
open Go Go.Proofs VL D1 B10 B12 B13 B20 B21 B22 C8 BB6 BB10 BB14 C1 C2 C3 C4 C6 C15 C20 C21 C22 C25 C26 C28 C28b CR1 CR2
theorem c_rdone (b : Bool) (k : List C3.Tok) (i : Nat) (x : RS) (hk : x.err = 0 -> endT (k.drop i)) (hi : b = true -> i < 1000000) (K : Out -> List VObj -> Prop)
 (ht : b = true -> K (.ret (.tup [])) (rO false false false false k (i + 1) x)) (hf : b = false -> x.err = 0 -> K (.ret (.tup [])) (rO false false false false k i { x with err := 7, at_ := (nx k i).at_ })) (hg : b = false -> x.err ≠ 0 -> K (.ret (.tup [])) (rO false false false false k i x)) :
 VCall Tryz.prog 24 [.ptr 0 0, .bool b] (rO false false false false k i x) K := by
 cases b with
 | true => exact c_rdone1 k i x (hi rfl) K (ht rfl)
 | false => exact c_rdone0 k i x hk K (hf rfl) (hg rfl)
theorem want2_yes {k : List C3.Tok} {i : Nat} (h : (nx k i).kind = 2) : wantS 2 [] (k.drop i) = .ok (nx k i) (nextT (k.drop i)).2 := by unfold wantS; rw [if_pos ⟨h, .inl rfl⟩]
theorem want2_no {k : List C3.Tok} {i : Nat} (h : ¬ (nx k i).kind = 2) : wantS 2 [] (k.drop i) = .err (nx k i).at_ 7 := by unfold wantS; rw [if_neg (fun hh => h hh.1)]
theorem numS_nonneg {l : List Int} {n : Int} (h : numS l = some n) : 0 <= n := by
 unfold numS at h
 split at h
 · injection h with h; omega
 · cases h
theorem takeR_nil : takeR [] = (0, 4) := by decide
theorem takeM_nil : takeM [] = (0, 4) := by decide
theorem takeD_nil : takeD [] = (0, 4) := by unfold takeD; rw [if_neg]; intro h; have := h.1.1; simp at this
theorem sB_nil : sB ⟨#[]⟩ = [] := by rfl
set_option maxHeartbeats 2000000 in
theorem c_rnumber (k : List C3.Tok) (i : Nat) (x : RS) (hk : x.err = 0 -> endT (k.drop i)) (hl : okT k) (hq : ∀ t ∈ k, t.kind ≠ 0 -> t.text ≠ []) (K : Out -> List VObj -> Prop)
 (h0 : x.err = 0 -> ∀ n r i', numberS (k.drop i) = .ok n r -> k.drop i' = r -> endT r -> K (.ret (.int .i64 n)) (rO false false false false k i' x))
 (h1 : x.err = 0 -> ∀ (p : Nat) n, numberS (k.drop i) = .err p 7 -> K (.ret (.int .i64 n)) (rO false false false false k i { x with err := 7, at_ := p }))
 (h2 : x.err ≠ 0 -> ∀ n, K (.ret (.int .i64 n)) (rO false false false false k i x)) :
 VCall Tryz.prog 89 [.ptr 0 0] (rO false false false false k i x) K := by
 have htx := @c_rtext k i x hk
 have hdo := fun b => @c_rdone b k i x hk
 unfold rO at *
 refine call_fun [] 5 Tryz.func89 (by rfl) (by rfl) ?_
 conv=>whnf
 (repeat' first | (refine step_go [] ?_;conv=>whnf) | (refine two ?_ ?_<;>intro g<;>(try simp only[bsx]at g)<;>(conv=>whnf)) | (refine And.intro rfl ?_;conv=>whnf) | fail)
 refine htx _ (fun he e2 => ?_) (fun hn => ?_)
 · have hm := next_mem (hk he)
   have hb := hl.2 _ hm
   have hne := hq _ hm (by show (nx k i).kind ≠ 0; omega)
   have hil := (rget (hk he)).2
   have hbig := hl.1
   conv=>whnf
   (repeat' first | (refine step_go [] ?_;conv=>whnf) | (refine two ?_ ?_<;>intro g<;>(try simp only[bsx]at g)<;>(conv=>whnf)) | (refine And.intro rfl ?_;conv=>whnf) | fail)
   refine c_rNum (toBA (nx k i).text) (by rw [toBA_size]; exact hb.2) _ ?_
   rw [sB_toBA hb.1]
   obtain ⟨n, hn⟩ : ∃ n, numR (nx k i).text = n := ⟨_, rfl⟩
   rw [hn]
   conv=>whnf
   (repeat' first | (refine step_go [] ?_;conv=>whnf) | (refine two ?_ ?_<;>intro g<;>(try simp only[bsx]at g)<;>(conv=>whnf)) | (refine And.intro rfl ?_;conv=>whnf) | fail)
   refine hdo _ (fun _ => by omega) _ (fun hb => ?_) (fun hb _ => ?_) (fun hb h => absurd he h)
   · have hf := h0 he n _ (i + 1) (by
      unfold numberS
      rw [want2_yes e2]
      show (match numS (nx k i).text with | some n => _ | none => _) = _
      unfold numR at hn
      rw [if_neg hne] at hn
      have hb : 0 <= n := by simpa using hb
      split at hn
      · rename_i n' h'
        first | rw [h', hn] | rw [hn]
      · omega) (rdrop (hk he) (by rw [e2]; decide)) (endT_next (hk he)).1
     conv=>whnf
     (repeat' first | (refine step_go [] ?_;conv=>whnf) | (refine two ?_ ?_<;>intro g<;>(try simp only[bsx]at g)<;>(conv=>whnf)) | (refine And.intro rfl ?_;conv=>whnf) | fail)
     exact hf
   · have hf := h1 he (nx k i).at_ n (by
      unfold numberS
      rw [want2_yes e2]
      show (match numS (nx k i).text with | some n => _ | none => _) = _
      unfold numR at hn
      rw [if_neg hne] at hn
      have hb : ¬ 0 <= n := by simpa using hb
      split at hn
      · rename_i n' h'
        have := numS_nonneg h'
        omega
      · rename_i h'
        first | rw [h'] | rfl)
     conv=>whnf
     (repeat' first | (refine step_go [] ?_;conv=>whnf) | (refine two ?_ ?_<;>intro g<;>(try simp only[bsx]at g)<;>(conv=>whnf)) | (refine And.intro rfl ?_;conv=>whnf) | fail)
     exact hf
 · conv=>whnf
   (repeat' first | (refine step_go [] ?_;conv=>whnf) | (refine two ?_ ?_<;>intro g<;>(try simp only[bsx]at g)<;>(conv=>whnf)) | (refine And.intro rfl ?_;conv=>whnf) | fail)
   refine c_rNum ⟨#[]⟩ (by decide) _ ?_
   rw [sB_nil]
   rw [show numR [] = -1 from rfl]
   conv=>whnf
   (repeat' first | (refine step_go [] ?_;conv=>whnf) | (refine two ?_ ?_<;>intro g<;>(try simp only[bsx]at g)<;>(conv=>whnf)) | (refine And.intro rfl ?_;conv=>whnf) | fail)
   refine hdo _ (fun h => absurd h (by decide)) _ (fun h => absurd h (by decide)) (fun _ he => ?_) (fun _ he => ?_)
   · have hf := h1 he (nx k i).at_ (-1) (by unfold numberS; rw [want2_no (fun e => hn ⟨he, e⟩)]; rfl)
     conv=>whnf
     (repeat' first | (refine step_go [] ?_;conv=>whnf) | (refine two ?_ ?_<;>intro g<;>(try simp only[bsx]at g)<;>(conv=>whnf)) | (refine And.intro rfl ?_;conv=>whnf) | fail)
     exact hf
   · have hf := h2 he (-1)
     conv=>whnf
     (repeat' first | (refine step_go [] ?_;conv=>whnf) | (refine two ?_ ?_<;>intro g<;>(try simp only[bsx]at g)<;>(conv=>whnf)) | (refine And.intro rfl ?_;conv=>whnf) | fail)
     exact hf
set_option maxHeartbeats 2000000 in
theorem c_rrate (k : List C3.Tok) (i : Nat) (x : RS) (hk : x.err = 0 -> endT (k.drop i)) (hl : okT k) (K : Out -> List VObj -> Prop)
 (h0 : x.err = 0 -> ∀ n r i', takenS takeR (k.drop i) = .ok n r -> k.drop i' = r -> endT r -> K (.ret (.int .i64 n)) (rO false false false false k i' x))
 (h1 : x.err = 0 -> ∀ (p : Nat) n, takenS takeR (k.drop i) = .err p 7 -> K (.ret (.int .i64 n)) (rO false false false false k i { x with err := 7, at_ := p }))
 (h2 : x.err ≠ 0 -> ∀ n, K (.ret (.int .i64 n)) (rO false false false false k i x)) :
 VCall Tryz.prog 90 [.ptr 0 0] (rO false false false false k i x) K := by
 have htx := @c_rtext k i x hk
 have hdo := fun b => @c_rdone b k i x hk
 unfold rO at *
 refine call_fun [] 5 Tryz.func90 (by rfl) (by rfl) ?_
 conv=>whnf
 (repeat' first | (refine step_go [] ?_;conv=>whnf) | (refine two ?_ ?_<;>intro g<;>(try simp only[bsx]at g)<;>(conv=>whnf)) | (refine And.intro rfl ?_;conv=>whnf) | fail)
 refine htx _ (fun he e2 => ?_) (fun hn => ?_)
 · have hm := next_mem (hk he)
   have hb := hl.2 _ hm
   have hil := (rget (hk he)).2
   have hbig := hl.1
   conv=>whnf
   (repeat' first | (refine step_go [] ?_;conv=>whnf) | (refine two ?_ ?_<;>intro g<;>(try simp only[bsx]at g)<;>(conv=>whnf)) | (refine And.intro rfl ?_;conv=>whnf) | fail)
   refine c_rtakeR (toBA (nx k i).text) (by rw [toBA_size]; exact hb.2) _ ?_
   rw [sB_toBA hb.1]
   have hts : takenS takeR (k.drop i) = if (takeR (nx k i).text).2 = 0 then .ok (takeR (nx k i).text).1 (nextT (k.drop i)).2 else .err (nx k i).at_ 7 := by
    unfold takenS; rw [want2_yes e2]; rfl
   obtain ⟨v, hv⟩ : ∃ v, (takeR (nx k i).text).1 = v := ⟨_, rfl⟩
   obtain ⟨e, hve⟩ : ∃ e, (takeR (nx k i).text).2 = e := ⟨_, rfl⟩
   rw [hv, hve] at hts ⊢
   conv=>whnf
   (repeat' first | (refine step_go [] ?_;conv=>whnf) | (refine two ?_ ?_<;>intro g<;>(try simp only[bsx]at g)<;>(conv=>whnf)) | (refine And.intro rfl ?_;conv=>whnf) | fail)
   refine hdo _ (fun _ => by omega) _ (fun hb => ?_) (fun hb _ => ?_) (fun hb h => absurd he h)
   · have hb : e = 0 := by simpa using hb
     rw [if_pos hb] at hts
     have hf := h0 he v _ (i + 1) hts (rdrop (hk he) (by rw [e2]; decide)) (endT_next (hk he)).1
     conv=>whnf
     (repeat' first | (refine step_go [] ?_;conv=>whnf) | (refine two ?_ ?_<;>intro g<;>(try simp only[bsx]at g)<;>(conv=>whnf)) | (refine And.intro rfl ?_;conv=>whnf) | fail)
     exact hf
   · have hb : ¬ e = 0 := by simpa using hb
     rw [if_neg hb] at hts
     have hf := h1 he (nx k i).at_ v hts
     conv=>whnf
     (repeat' first | (refine step_go [] ?_;conv=>whnf) | (refine two ?_ ?_<;>intro g<;>(try simp only[bsx]at g)<;>(conv=>whnf)) | (refine And.intro rfl ?_;conv=>whnf) | fail)
     exact hf
 · conv=>whnf
   (repeat' first | (refine step_go [] ?_;conv=>whnf) | (refine two ?_ ?_<;>intro g<;>(try simp only[bsx]at g)<;>(conv=>whnf)) | (refine And.intro rfl ?_;conv=>whnf) | fail)
   refine c_rtakeR ⟨#[]⟩ (by decide) _ ?_
   rw [sB_nil, takeR_nil]
   conv=>whnf
   (repeat' first | (refine step_go [] ?_;conv=>whnf) | (refine two ?_ ?_<;>intro g<;>(try simp only[bsx]at g)<;>(conv=>whnf)) | (refine And.intro rfl ?_;conv=>whnf) | fail)
   refine hdo _ (fun h => absurd h (by decide)) _ (fun h => absurd h (by decide)) (fun _ he => ?_) (fun _ he => ?_)
   · have hf := h1 he (nx k i).at_ 0 (by unfold takenS; rw [want2_no (fun e => hn ⟨he, e⟩)]; rfl)
     conv=>whnf
     (repeat' first | (refine step_go [] ?_;conv=>whnf) | (refine two ?_ ?_<;>intro g<;>(try simp only[bsx]at g)<;>(conv=>whnf)) | (refine And.intro rfl ?_;conv=>whnf) | fail)
     exact hf
   · have hf := h2 he 0
     conv=>whnf
     (repeat' first | (refine step_go [] ?_;conv=>whnf) | (refine two ?_ ?_<;>intro g<;>(try simp only[bsx]at g)<;>(conv=>whnf)) | (refine And.intro rfl ?_;conv=>whnf) | fail)
     exact hf
set_option maxHeartbeats 2000000 in
theorem c_rmoney (k : List C3.Tok) (i : Nat) (x : RS) (hk : x.err = 0 -> endT (k.drop i)) (hl : okT k) (K : Out -> List VObj -> Prop)
 (h0 : x.err = 0 -> ∀ n r i', takenS takeM (k.drop i) = .ok n r -> k.drop i' = r -> endT r -> K (.ret (.int .i64 n)) (rO false false false false k i' x))
 (h1 : x.err = 0 -> ∀ (p : Nat) n, takenS takeM (k.drop i) = .err p 7 -> K (.ret (.int .i64 n)) (rO false false false false k i { x with err := 7, at_ := p }))
 (h2 : x.err ≠ 0 -> ∀ n, K (.ret (.int .i64 n)) (rO false false false false k i x)) :
 VCall Tryz.prog 91 [.ptr 0 0] (rO false false false false k i x) K := by
 have htx := @c_rtext k i x hk
 have hdo := fun b => @c_rdone b k i x hk
 unfold rO at *
 refine call_fun [] 5 Tryz.func91 (by rfl) (by rfl) ?_
 conv=>whnf
 (repeat' first | (refine step_go [] ?_;conv=>whnf) | (refine two ?_ ?_<;>intro g<;>(try simp only[bsx]at g)<;>(conv=>whnf)) | (refine And.intro rfl ?_;conv=>whnf) | fail)
 refine htx _ (fun he e2 => ?_) (fun hn => ?_)
 · have hm := next_mem (hk he)
   have hb := hl.2 _ hm
   have hil := (rget (hk he)).2
   have hbig := hl.1
   conv=>whnf
   (repeat' first | (refine step_go [] ?_;conv=>whnf) | (refine two ?_ ?_<;>intro g<;>(try simp only[bsx]at g)<;>(conv=>whnf)) | (refine And.intro rfl ?_;conv=>whnf) | fail)
   refine c_rtakeM (toBA (nx k i).text) (by rw [toBA_size]; exact hb.2) _ ?_
   rw [sB_toBA hb.1]
   have hts : takenS takeM (k.drop i) = if (takeM (nx k i).text).2 = 0 then .ok (takeM (nx k i).text).1 (nextT (k.drop i)).2 else .err (nx k i).at_ 7 := by
    unfold takenS; rw [want2_yes e2]; rfl
   obtain ⟨v, hv⟩ : ∃ v, (takeM (nx k i).text).1 = v := ⟨_, rfl⟩
   obtain ⟨e, hve⟩ : ∃ e, (takeM (nx k i).text).2 = e := ⟨_, rfl⟩
   rw [hv, hve] at hts ⊢
   conv=>whnf
   (repeat' first | (refine step_go [] ?_;conv=>whnf) | (refine two ?_ ?_<;>intro g<;>(try simp only[bsx]at g)<;>(conv=>whnf)) | (refine And.intro rfl ?_;conv=>whnf) | fail)
   refine hdo _ (fun _ => by omega) _ (fun hb => ?_) (fun hb _ => ?_) (fun hb h => absurd he h)
   · have hb : e = 0 := by simpa using hb
     rw [if_pos hb] at hts
     have hf := h0 he v _ (i + 1) hts (rdrop (hk he) (by rw [e2]; decide)) (endT_next (hk he)).1
     conv=>whnf
     (repeat' first | (refine step_go [] ?_;conv=>whnf) | (refine two ?_ ?_<;>intro g<;>(try simp only[bsx]at g)<;>(conv=>whnf)) | (refine And.intro rfl ?_;conv=>whnf) | fail)
     exact hf
   · have hb : ¬ e = 0 := by simpa using hb
     rw [if_neg hb] at hts
     have hf := h1 he (nx k i).at_ v hts
     conv=>whnf
     (repeat' first | (refine step_go [] ?_;conv=>whnf) | (refine two ?_ ?_<;>intro g<;>(try simp only[bsx]at g)<;>(conv=>whnf)) | (refine And.intro rfl ?_;conv=>whnf) | fail)
     exact hf
 · conv=>whnf
   (repeat' first | (refine step_go [] ?_;conv=>whnf) | (refine two ?_ ?_<;>intro g<;>(try simp only[bsx]at g)<;>(conv=>whnf)) | (refine And.intro rfl ?_;conv=>whnf) | fail)
   refine c_rtakeM ⟨#[]⟩ (by decide) _ ?_
   rw [sB_nil, takeM_nil]
   conv=>whnf
   (repeat' first | (refine step_go [] ?_;conv=>whnf) | (refine two ?_ ?_<;>intro g<;>(try simp only[bsx]at g)<;>(conv=>whnf)) | (refine And.intro rfl ?_;conv=>whnf) | fail)
   refine hdo _ (fun h => absurd h (by decide)) _ (fun h => absurd h (by decide)) (fun _ he => ?_) (fun _ he => ?_)
   · have hf := h1 he (nx k i).at_ 0 (by unfold takenS; rw [want2_no (fun e => hn ⟨he, e⟩)]; rfl)
     conv=>whnf
     (repeat' first | (refine step_go [] ?_;conv=>whnf) | (refine two ?_ ?_<;>intro g<;>(try simp only[bsx]at g)<;>(conv=>whnf)) | (refine And.intro rfl ?_;conv=>whnf) | fail)
     exact hf
   · have hf := h2 he 0
     conv=>whnf
     (repeat' first | (refine step_go [] ?_;conv=>whnf) | (refine two ?_ ?_<;>intro g<;>(try simp only[bsx]at g)<;>(conv=>whnf)) | (refine And.intro rfl ?_;conv=>whnf) | fail)
     exact hf
set_option maxHeartbeats 2000000 in
theorem c_rdate (k : List C3.Tok) (i : Nat) (x : RS) (hk : x.err = 0 -> endT (k.drop i)) (hl : okT k) (K : Out -> List VObj -> Prop)
 (h0 : x.err = 0 -> ∀ n r i', takenS takeD (k.drop i) = .ok n r -> k.drop i' = r -> endT r -> K (.ret (.int .i64 n)) (rO false false false false k i' x))
 (h1 : x.err = 0 -> ∀ (p : Nat) n, takenS takeD (k.drop i) = .err p 7 -> K (.ret (.int .i64 n)) (rO false false false false k i { x with err := 7, at_ := p }))
 (h2 : x.err ≠ 0 -> ∀ n, K (.ret (.int .i64 n)) (rO false false false false k i x)) :
 VCall Tryz.prog 92 [.ptr 0 0] (rO false false false false k i x) K := by
 have htx := @c_rtext k i x hk
 have hdo := fun b => @c_rdone b k i x hk
 unfold rO at *
 refine call_fun [] 5 Tryz.func92 (by rfl) (by rfl) ?_
 conv=>whnf
 (repeat' first | (refine step_go [] ?_;conv=>whnf) | (refine two ?_ ?_<;>intro g<;>(try simp only[bsx]at g)<;>(conv=>whnf)) | (refine And.intro rfl ?_;conv=>whnf) | fail)
 refine htx _ (fun he e2 => ?_) (fun hn => ?_)
 · have hm := next_mem (hk he)
   have hb := hl.2 _ hm
   have hil := (rget (hk he)).2
   have hbig := hl.1
   conv=>whnf
   (repeat' first | (refine step_go [] ?_;conv=>whnf) | (refine two ?_ ?_<;>intro g<;>(try simp only[bsx]at g)<;>(conv=>whnf)) | (refine And.intro rfl ?_;conv=>whnf) | fail)
   refine C21.c_rTake (toBA (nx k i).text) (by rw [toBA_size]; exact hb.2) _ ?_
   rw [sB_toBA hb.1]
   have hts : takenS takeD (k.drop i) = if (takeD (nx k i).text).2 = 0 then .ok (takeD (nx k i).text).1 (nextT (k.drop i)).2 else .err (nx k i).at_ 7 := by
    unfold takenS; rw [want2_yes e2]; rfl
   obtain ⟨v, hv⟩ : ∃ v, (takeD (nx k i).text).1 = v := ⟨_, rfl⟩
   obtain ⟨e, hve⟩ : ∃ e, (takeD (nx k i).text).2 = e := ⟨_, rfl⟩
   rw [hv, hve] at hts ⊢
   conv=>whnf
   (repeat' first | (refine step_go [] ?_;conv=>whnf) | (refine two ?_ ?_<;>intro g<;>(try simp only[bsx]at g)<;>(conv=>whnf)) | (refine And.intro rfl ?_;conv=>whnf) | fail)
   refine hdo _ (fun _ => by omega) _ (fun hb => ?_) (fun hb _ => ?_) (fun hb h => absurd he h)
   · have hb : e = 0 := by simpa using hb
     rw [if_pos hb] at hts
     have hf := h0 he v _ (i + 1) hts (rdrop (hk he) (by rw [e2]; decide)) (endT_next (hk he)).1
     conv=>whnf
     (repeat' first | (refine step_go [] ?_;conv=>whnf) | (refine two ?_ ?_<;>intro g<;>(try simp only[bsx]at g)<;>(conv=>whnf)) | (refine And.intro rfl ?_;conv=>whnf) | fail)
     exact hf
   · have hb : ¬ e = 0 := by simpa using hb
     rw [if_neg hb] at hts
     have hf := h1 he (nx k i).at_ v hts
     conv=>whnf
     (repeat' first | (refine step_go [] ?_;conv=>whnf) | (refine two ?_ ?_<;>intro g<;>(try simp only[bsx]at g)<;>(conv=>whnf)) | (refine And.intro rfl ?_;conv=>whnf) | fail)
     exact hf
 · conv=>whnf
   (repeat' first | (refine step_go [] ?_;conv=>whnf) | (refine two ?_ ?_<;>intro g<;>(try simp only[bsx]at g)<;>(conv=>whnf)) | (refine And.intro rfl ?_;conv=>whnf) | fail)
   refine C21.c_rTake ⟨#[]⟩ (by decide) _ ?_
   rw [sB_nil, takeD_nil]
   conv=>whnf
   (repeat' first | (refine step_go [] ?_;conv=>whnf) | (refine two ?_ ?_<;>intro g<;>(try simp only[bsx]at g)<;>(conv=>whnf)) | (refine And.intro rfl ?_;conv=>whnf) | fail)
   refine hdo _ (fun h => absurd h (by decide)) _ (fun h => absurd h (by decide)) (fun _ he => ?_) (fun _ he => ?_)
   · have hf := h1 he (nx k i).at_ 0 (by unfold takenS; rw [want2_no (fun e => hn ⟨he, e⟩)]; rfl)
     conv=>whnf
     (repeat' first | (refine step_go [] ?_;conv=>whnf) | (refine two ?_ ?_<;>intro g<;>(try simp only[bsx]at g)<;>(conv=>whnf)) | (refine And.intro rfl ?_;conv=>whnf) | fail)
     exact hf
   · have hf := h2 he 0
     conv=>whnf
     (repeat' first | (refine step_go [] ?_;conv=>whnf) | (refine two ?_ ?_<;>intro g<;>(try simp only[bsx]at g)<;>(conv=>whnf)) | (refine And.intro rfl ?_;conv=>whnf) | fail)
     exact hf
end CR3

namespace CR4
open Go Go.Proofs VL D1 B10 B12 B13 B20 B21 B22 C8 BB6 BB10 BB14 C1 C2 C3 C4 C6 C15 C20 C21 C22 C25 C26 C28 C28b CR1 CR2 CR3
set_option maxHeartbeats 8000000 in
theorem c_rorder (k : List C3.Tok) (i : Nat) (x : RS) (hk : endT (k.drop i)) (hl : okT k) (hx : x.err = 0) (K : Out -> List VObj -> Prop)
 (h0 : ∀ o r i', orderN 4 [] (k.drop i) = .ok o r -> k.drop i' = r -> endT r -> K (.ret (.tup [])) (rO false false false false k i' { x with p := ordP x.p o }))
 (h1 : ∀ (p : Nat) i' a, orderN 4 [] (k.drop i) = .err p 7 -> K (.ret (.tup [])) (rO false false false false k i' { x with p := ordP x.p a, err := 7, at_ := p })) :
 VCall Tryz.prog 93 [.ptr 0 0] (rO false false false false k i x) K := by
 have hw := fun i x hk => @c_rword k i x hk hl owords (by unfold bytesOk; decide) (by decide)
 have hfa := fun i x hk => @c_rfail k i x hk 7
 let S : Nat × List Int × Nat × Int × Int -> St := fun q => ⟨(.ptr 0 0 :: .undef :: .sl (sL owords) .no :: .int .i64 (q.1 : Nat) :: .undef :: .undef :: .undef :: .undef :: .undef :: .undef :: .undef :: .undef :: .undef :: .undef :: .undef :: .undef :: .undef :: .undef :: .undef :: .undef :: .undef :: .undef :: .undef :: .undef :: .undef :: .undef :: .undef :: .undef :: .undef :: .undef :: .undef :: .undef :: .undef :: .undef :: .undef :: .undef :: .undef :: .undef :: .undef :: .undef :: .undef :: .undef :: .undef :: .undef :: .undef :: .undef :: .undef :: []), rO false false false false k q.2.2.1 { x with p := ordP x.p q.2.1, err := q.2.2.2.1, at_ := q.2.2.2.2 }, 0, []⟩
 unfold rO
 refine call_fun [] 5 Tryz.func93 (by rfl) (by rfl) ?_
 conv=>whnf
 (repeat' first | (refine step_go [] ?_;conv=>whnf) | (refine two ?_ ?_<;>intro g<;>(try simp only[bsx]at g)<;>(conv=>whnf)) | (refine And.intro rfl ?_;conv=>whnf) | fail)
 refine VLoop.enter (s' := S (0, [], i, x.err, x.at_)) (weak_of ?_ (.cons (.eq rfl) (.cons (.eq rfl) (.cons (.eq rfl) (.cons (.eq rfl) (.cons (.eq rfl) .nil))))) rfl rfl rfl)
  (VLoop.indW S (fun q => 4 - q.1) (fun q => q.1 <= 4 /\ q.2.1.length = q.1 /\ (q.2.2.2.1 = 0 -> endT (k.drop q.2.2.1) /\ q.2.2.2.2 = x.at_ /\ orderN 4 [] (k.drop i) = orderN (4 - q.1) q.2.1 (k.drop q.2.2.1)) /\ (q.2.2.2.1 ≠ 0 -> q.2.2.2.1 = 7 /\ ∃ p : Nat, q.2.2.2.2 = p /\ orderN 4 [] (k.drop i) = .err p 7)) ?_ (0, [], i, x.err, x.at_) ⟨by omega, rfl, fun _ => ⟨hk, rfl, rfl⟩, fun h => absurd hx h⟩)
 · repeat' first
    | exact VWs.nil
    | refine VWs.cons VW.undef ?_
    | refine VWs.cons (VW.eq rfl) ?_
    | refine VWs.cons VW.no ?_
 rintro ⟨j, acc, i1, er, at1⟩ ⟨hj, ha, he0, he1⟩ ih
 simp only at hj ha he0 he1
 have hj : j = 4 \/ j = 0 \/ j = 1 \/ j = 2 \/ j = 3 := by omega
 have hbig := hl.1
 obtain ⟨j1, hj1⟩ : ∃ j1, j1 = j + 1 := ⟨_, rfl⟩
 rcases hj with rfl | rfl | rfl | rfl | rfl
 · refine loop_round [] ?_; conv=>whnf
   (repeat' first | (refine step_go [] ?_;conv=>whnf) | (refine two ?_ ?_<;>intro g<;>(try simp only[bsx]at g)<;>(conv=>whnf)) | (refine And.intro rfl ?_;conv=>whnf) | fail)
   refine ⟨_, Weak.refl, ?_⟩; conv=>whnf
   (repeat' first | (refine step_go [] ?_;conv=>whnf) | (refine two ?_ ?_<;>intro g<;>(try simp only[bsx]at g)<;>(conv=>whnf)) | (refine And.intro rfl ?_;conv=>whnf) | fail)
   by_cases her : er = 0
   · obtain ⟨a1, a2, a3⟩ := he0 her
     have hf := h0 acc _ i1 a3 rfl a1
     subst a2 her
     have hxe : x = { x with err := 0, at_ := x.at_ } := by cases x; simp at hx; subst hx; rfl
     rw [hxe] at hf
     exact hf
   · obtain ⟨rfl, p, rfl, a3⟩ := he1 her
     exact h1 p i1 acc a3
 all_goals
  obtain ⟨ac, hac⟩ : ∃ ac, ac = acc := ⟨_, rfl⟩
  rw [← hac] at he0
  rcases acc with _ | ⟨a1, _ | ⟨a2, _ | ⟨a3, _ | ⟨a4, acc⟩⟩⟩⟩
  all_goals first
   | (exfalso; revert ha; simp; done)
   | skip
 all_goals
  dsimp only [S]
  refine loop_round [] ?_; conv=>whnf
  (repeat' first | (refine step_go [] ?_;conv=>whnf) | (refine two ?_ ?_<;>intro g<;>(try simp only[bsx]at g)<;>(conv=>whnf)) | (refine And.intro rfl ?_;conv=>whnf) | fail)
  by_cases her : er = 0
  · obtain ⟨b1, b2, b3⟩ := he0 her
    subst her
    refine hw i1 _ (fun _ => b1) _ (fun _ n r i2 e hd2 he2 => ?_) (fun _ p e => ?_) (fun h => absurd rfl h)
    · have hnr := pick_range e
      have wn : IntKind.i64.wrap (1 + (n - 1)) = n := by rw [wrap64 (by simp [owords] at hnr; omega) (by simp [owords] at hnr; omega)]; omega
      conv=>whnf
      (repeat' first | (refine step_go [] ?_;conv=>whnf) | (refine two ?_ ?_<;>intro g<;>(try simp only[bsx]at g)<;>(conv=>whnf)) | (refine And.intro rfl ?_;conv=>whnf) | (refine ⟨by decide, by decide, ?_⟩;conv=>whnf) | fail)
      rw [wn]
      refine VCall.lendC ?_
      conv=>whnf
      refine ⟨Nat.le_of_ble_eq_true rfl, ?_⟩
      conv=>whnf
      first
       | refine c_InI [] n (by decide) _ ?_
       | refine c_InI [a1] n (by simp) _ ?_
       | refine c_InI [a1, a2] n (by simp) _ ?_
       | refine c_InI [a1, a2, a3] n (by simp) _ ?_
      conv=>whnf
      refine ⟨rfl, ?_⟩
      conv=>whnf
      (repeat' first | (refine step_go [] ?_;conv=>whnf) | (refine two ?_ ?_<;>intro g<;>(try simp only[bsx, pB_iff, pB_no]at g)<;>(conv=>whnf)) | (refine And.intro rfl ?_;conv=>whnf) | (refine ⟨by decide, by decide, ?_⟩;conv=>whnf) | fail)
      · have hb : orderN 4 [] (k.drop i) = .err (nx k i1).at_ 7 := by
         rw [b3]
         show ((pickS owords (k.drop i1)).bind fun k2 r => if k2 ∈ ac then .err _ 7 else orderN _ (ac ++ [k2]) r) = _
         rw [e]
         exact if_pos (by rw [hac]; assumption)
        refine hfa i1 _ (fun _ => b1) _ (fun _ => ?_) (fun h => absurd rfl h)
        conv=>whnf
        (repeat' first | (refine step_go [] ?_;conv=>whnf) | (refine two ?_ ?_<;>intro g<;>(try simp only[bsx]at g)<;>(conv=>whnf)) | (refine And.intro rfl ?_;conv=>whnf) | (refine ⟨by decide, by decide, ?_⟩;conv=>whnf) | fail)
        have hinv : j1 <= 4 /\ (ac ++ [n]).length = j1 /\ ((7 : Int) = 0 -> endT (k.drop i1) /\ ((nx k i1).at_ : Int) = x.at_ /\ orderN 4 [] (k.drop i) = orderN (4 - j1) (ac ++ [n]) (k.drop i1)) /\ ((7 : Int) ≠ 0 -> (7 : Int) = 7 /\ ∃ p9 : Nat, ((nx k i1).at_ : Int) = p9 /\ orderN 4 [] (k.drop i) = .err p9 7) :=
         ⟨by omega, by rw [hac, hj1]; rfl, fun h => absurd h (by decide), fun _ => ⟨rfl, _, rfl, hb⟩⟩
        refine ⟨S (j1, ac ++ [n], i1, (7 : Int), ((nx k i1).at_ : Int)), weak_of ?_ (.cons (.cells ?_) (.cons (.eq rfl) (.cons (.eq rfl) (.cons (.eq rfl) (.cons (.eq rfl) .nil))))) rfl rfl rfl, ih (j1, ac ++ [n], i1, (7 : Int), ((nx k i1).at_ : Int)) hinv (by show 4 - j1 < _; omega)⟩
        all_goals
         subst hj1 hac
         (repeat' first | exact VWs.nil | refine VWs.cons VW.undef ?_ | refine VWs.cons (VW.eq rfl) ?_ | refine VWs.cons (VW.eq (congrArg (V.int .i64) (wrap64 (by omega) (by omega)))) ?_ | refine VWs.cons (VW.eq (congrArg (V.int .i64) (by rw [wn]))) ?_)
      · have hb : orderN 4 [] (k.drop i) = orderN (4 - j1) (ac ++ [n]) (k.drop i2) := by
         rw [b3, hd2, hj1]
         show ((pickS owords (k.drop i1)).bind fun k2 r => if k2 ∈ ac then .err _ 7 else orderN _ (ac ++ [k2]) r) = _
         rw [e]
         exact if_neg (by rw [hac]; assumption)
        have hinv : j1 <= 4 /\ (ac ++ [n]).length = j1 /\ ((0 : Int) = 0 -> endT (k.drop i2) /\ at1 = x.at_ /\ orderN 4 [] (k.drop i) = orderN (4 - j1) (ac ++ [n]) (k.drop i2)) /\ ((0 : Int) ≠ 0 -> (0 : Int) = 7 /\ ∃ p9 : Nat, at1 = p9 /\ orderN 4 [] (k.drop i) = .err p9 7) :=
         ⟨by omega, by rw [hac, hj1]; rfl, fun _ => ⟨by rw [hd2]; exact he2, b2, hb⟩, fun h => absurd rfl h⟩
        refine ⟨S (j1, ac ++ [n], i2, (0 : Int), at1), weak_of ?_ (.cons (.cells ?_) (.cons (.eq rfl) (.cons (.eq rfl) (.cons (.eq rfl) (.cons (.eq rfl) .nil))))) rfl rfl rfl, ih (j1, ac ++ [n], i2, (0 : Int), at1) hinv (by show 4 - j1 < _; omega)⟩
        all_goals
         subst hj1 hac
         (repeat' first | exact VWs.nil | refine VWs.cons VW.undef ?_ | refine VWs.cons (VW.eq rfl) ?_ | refine VWs.cons (VW.eq (congrArg (V.int .i64) (wrap64 (by omega) (by omega)))) ?_ | refine VWs.cons (VW.eq (congrArg (V.int .i64) (by rw [wn]))) ?_)
    · have hb : orderN 4 [] (k.drop i) = .err p 7 := by
       rw [b3]
       show ((pickS owords (k.drop i1)).bind fun k2 r => if k2 ∈ ac then .err _ 7 else orderN _ (ac ++ [k2]) r) = _
       rw [e]; rfl
      have wn : True := trivial
      conv=>whnf
      (repeat' first | (refine step_go [] ?_;conv=>whnf) | (refine two ?_ ?_<;>intro g<;>(try simp only[bsx]at g)<;>(conv=>whnf)) | (refine And.intro rfl ?_;conv=>whnf) | (refine ⟨by decide, by decide, ?_⟩;conv=>whnf) | fail)
      have hinv : j1 <= 4 /\ (ac ++ [(1 : Int)]).length = j1 /\ ((7 : Int) = 0 -> endT (k.drop i1) /\ (p : Int) = x.at_ /\ orderN 4 [] (k.drop i) = orderN (4 - j1) (ac ++ [(1 : Int)]) (k.drop i1)) /\ ((7 : Int) ≠ 0 -> (7 : Int) = 7 /\ ∃ p9 : Nat, (p : Int) = p9 /\ orderN 4 [] (k.drop i) = .err p9 7) :=
       ⟨by omega, by rw [hac, hj1]; rfl, fun h => absurd h (by decide), fun _ => ⟨rfl, _, rfl, hb⟩⟩
      refine ⟨S (j1, ac ++ [(1 : Int)], i1, (7 : Int), (p : Int)), weak_of ?_ (.cons (.cells ?_) (.cons (.eq rfl) (.cons (.eq rfl) (.cons (.eq rfl) (.cons (.eq rfl) .nil))))) rfl rfl rfl, ih (j1, ac ++ [(1 : Int)], i1, (7 : Int), (p : Int)) hinv (by show 4 - j1 < _; omega)⟩
      all_goals
       subst hj1 hac
       (repeat' first | exact VWs.nil | refine VWs.cons VW.undef ?_ | refine VWs.cons (VW.eq rfl) ?_ | refine VWs.cons (VW.eq (congrArg (V.int .i64) (wrap64 (by omega) (by omega)))) ?_ | refine VWs.cons (VW.eq (congrArg (V.int .i64) (by rw [wn]))) ?_)
  · obtain ⟨b1, p, b2, b3⟩ := he1 her
    have wn : True := trivial
    refine hw i1 _ (fun h => absurd h her) _ (fun h => absurd h her) (fun h => absurd h her) (fun _ => ?_)
    conv=>whnf
    (repeat' first | (refine step_go [] ?_;conv=>whnf) | (refine two ?_ ?_<;>intro g<;>(try simp only[bsx]at g)<;>(conv=>whnf)) | (refine And.intro rfl ?_;conv=>whnf) | (refine ⟨by decide, by decide, ?_⟩;conv=>whnf) | fail)
    · exact absurd (by assumption) her
    have hinv : j1 <= 4 /\ (ac ++ [(1 : Int)]).length = j1 /\ (er = 0 -> endT (k.drop i1) /\ at1 = x.at_ /\ orderN 4 [] (k.drop i) = orderN (4 - j1) (ac ++ [(1 : Int)]) (k.drop i1)) /\ (er ≠ 0 -> er = 7 /\ ∃ p9 : Nat, at1 = p9 /\ orderN 4 [] (k.drop i) = .err p9 7) :=
     ⟨by omega, by rw [hac, hj1]; rfl, fun h => absurd h her, fun _ => ⟨b1, p, b2, b3⟩⟩
    refine ⟨S (j1, ac ++ [(1 : Int)], i1, er, at1), weak_of ?_ (.cons (.cells ?_) (.cons (.eq rfl) (.cons (.eq rfl) (.cons (.eq rfl) (.cons (.eq rfl) .nil))))) rfl rfl rfl, ih (j1, ac ++ [(1 : Int)], i1, er, at1) hinv (by show 4 - j1 < _; omega)⟩
    all_goals
     subst hj1 hac
     (repeat' first | exact VWs.nil | refine VWs.cons VW.undef ?_ | refine VWs.cons (VW.eq rfl) ?_ | refine VWs.cons (VW.eq (congrArg (V.int .i64) (wrap64 (by omega) (by omega)))) ?_ | refine VWs.cons (VW.eq (congrArg (V.int .i64) (by rw [wn]))) ?_)
end CR4

