/- Part Re of the proof: C15 C16 C17 C18 C19 C20 C21 C4 C22 C23 C24 C25 C26 C27 C28 C28b C28c C28d C29 C30 C31 C32 C33 CRA0 P1 P2 CO1 PS1 PS2 PS3 PS4 BP1. -/
import Derived.Test.YtdjbfmfkeokfaaaGreatDoorRd
import Derived.Test.YtdjbfmfkeokfaaaGreatDoorRc
set_option linter.unusedVariables false
set_option linter.unusedSimpArgs false
set_option maxRecDepth 100000
namespace C15
open Go Go.Proofs VL D1 B10 BB6 BB10 BB14 C1 C2 C6 C10 C11 C12 C13 C14
noncomputable def pB (P : Prop) : Bool := open Classical in decide P
theorem pB_iff (P : Prop) : pB P = true ↔ P := by unfold pB; simp
theorem pB_no (P : Prop) : pB P = false ↔ ¬ P := by unfold pB; simp
theorem pB_of {P : Prop} {K : Out -> List VObj -> Prop} (h : K (.ret (.bool (pB P))) []) (b : Bool) (hb : b = true ↔ P) : K (.ret (.bool b)) [] := by
 cases b with
 | true => rw [(pB_iff P).2 (hb.1 rfl)] at h; exact h
 | false => rw [(pB_no P).2 fun hp => by have := hb.2 hp; cases this] at h; exact h
theorem c_rwithin (v a b : Int) (K) (h : K (.ret (.bool (decide (a <= v /\ v <= b)))) []) : VCall Tryz.prog 39 [.int .i64 v, .int .i64 a, .int .i64 b] [] K := by
 have hfin : ∀ x, decide (a <= v /\ v <= b) = x -> K (.ret (.bool x)) [] := fun x e => by rw [e] at h; exact h
 clear h
 refine call_fun [] 0 Tryz.func39 (by rfl) (by rfl) ?_
 conv=>whnf
 (repeat' first | (refine step_go [] ?_;conv=>whnf) | (refine two ?_ ?_<;>intro g<;>(try simp only[bsx]at g)<;>(conv=>whnf)) | (refine And.intro rfl ?_;conv=>whnf) | fail)
 all_goals (refine hfin _ ?_; simp; omega)
theorem c_InI (l : List Int) (x : Int) (hl : l.length < 1000000) (K : Out -> List VObj -> Prop) (h : K (.ret (.bool (pB (x ∈ l)))) []) : VCall Tryz.prog 40 [.sl (iL l) .no, .int .i64 x] [] K := by
 have hil := iL_len l
 have h := pB_of h
 refine call_fun [] 0 Tryz.func40 (by rfl) (by rfl) ?_
 conv=>whnf
 (repeat' first | (refine step_go [] ?_;conv=>whnf) | (refine two ?_ ?_<;>intro g<;>(try simp only[bsx]at g)<;>(conv=>whnf)) | (refine And.intro rfl ?_;conv=>whnf) | fail)
 let S : Nat -> St := fun i => ⟨(.sl (iL l) .no :: .int .i64 x :: .undef :: .undef :: .bool false :: .int .i64 (i : Nat) :: .undef :: .undef :: .undef :: .undef :: .undef :: .undef :: .undef :: .undef :: .undef :: .undef :: .undef :: .undef :: []), [], 0, []⟩
 refine VLoop.enter (s' := S 0) (weak_of (by (repeat' first | exact VWs.nil | refine VWs.cons VW.undef ?_ | refine VWs.cons (VW.eq rfl) ?_)) .nil rfl rfl rfl) (VLoop.indW S (fun i => l.length - i) (fun i => i <= l.length /\ x ∉ l.take i) ?_ 0 ⟨by omega, by simp⟩)
 rintro i ⟨hi, hinv⟩ ih
 refine loop_round [] ?_; conv=>whnf
 (repeat' first | (refine step_go [] ?_;conv=>whnf) | (refine two ?_ ?_<;>intro g<;>(try simp only[bsx, hil]at g)<;>(conv=>whnf)) | (refine And.intro rfl ?_;conv=>whnf) | fail)
 · have hi2 : i < l.length := by omega
   have wi : IntKind.i64.wrap ((i : Int) + 1) = ((i + 1 : Nat) : Int) := by rw [wrap64 (by omega) (by omega)]; omega
   refine ⟨by omega, _, hol_get hi2, rfl, ?_⟩
   conv=>whnf
   (repeat' first | (refine step_go [] ?_;conv=>whnf) | (refine two ?_ ?_<;>intro g<;>(try simp only[bsx]at g)<;>(conv=>whnf)) | (refine And.intro rfl ?_;conv=>whnf) | fail)
   · refine ⟨_, Weak.refl, ?_⟩; conv=>whnf
     (repeat' first | (refine step_go [] ?_;conv=>whnf) | (refine two ?_ ?_<;>intro g<;>(try simp only[bsx]at g)<;>(conv=>whnf)) | (refine And.intro rfl ?_;conv=>whnf) | fail)
     exact h _ ⟨fun _ => by rw [← g]; exact List.getElem_mem _, fun _ => rfl⟩
   · exact ⟨S (i + 1), weak_of (by rw [wi]; (repeat' first | exact VWs.nil | refine VWs.cons VW.undef ?_ | refine VWs.cons (VW.eq rfl) ?_)) .nil rfl rfl rfl, ih (i + 1) ⟨by omega, by rw [List.take_succ_eq_append_getElem hi2]; simp only [List.mem_append, List.mem_singleton, not_or]; exact ⟨hinv, fun e => g e.symm⟩⟩ (by omega)⟩
 · have hi2 : i = l.length := by omega
   subst hi2
   rw [List.take_length] at hinv
   refine ⟨_, Weak.refl, ?_⟩; conv=>whnf
   (repeat' first | (refine step_go [] ?_;conv=>whnf) | (refine two ?_ ?_<;>intro g<;>(try simp only[bsx]at g)<;>(conv=>whnf)) | (refine And.intro rfl ?_;conv=>whnf) | fail)
   exact h _ ⟨fun e => (by cases e), fun e => absurd e hinv⟩
def sL (l : List (List Int)) : List V := l.map fun w => .str (toBA w)
theorem c_InS (l : List (List Int)) (s : ByteArray) (hl : l.length < 1000000) (hb : ∀ w ∈ l, ∀ x ∈ w, 0 <= x /\ x < 256) (K : Out -> List VObj -> Prop) (h : K (.ret (.bool (pB (sB s ∈ l)))) []) : VCall Tryz.prog 71 [.sl (sL l) .no, .str s] [] K := by
 have hil : (sL l).length = l.length := by simp [sL]
 have h := pB_of h
 refine call_fun [] 0 Tryz.func71 (by rfl) (by rfl) ?_
 conv=>whnf
 (repeat' first | (refine step_go [] ?_;conv=>whnf) | (refine two ?_ ?_<;>intro g<;>(try simp only[bsx]at g)<;>(conv=>whnf)) | (refine And.intro rfl ?_;conv=>whnf) | fail)
 let S : Nat -> St := fun i => ⟨(.sl (sL l) .no :: .str s :: .undef :: .undef :: .bool false :: .int .i64 (i : Nat) :: .undef :: .undef :: .undef :: .undef :: .undef :: .undef :: .undef :: .undef :: .undef :: .undef :: .undef :: .undef :: []), [], 0, []⟩
 refine VLoop.enter (s' := S 0) (weak_of (by (repeat' first | exact VWs.nil | refine VWs.cons VW.undef ?_ | refine VWs.cons (VW.eq rfl) ?_)) .nil rfl rfl rfl) (VLoop.indW S (fun i => l.length - i) (fun i => i <= l.length /\ sB s ∉ l.take i) ?_ 0 ⟨by omega, by simp⟩)
 rintro i ⟨hi, hinv⟩ ih
 refine loop_round [] ?_; conv=>whnf
 (repeat' first | (refine step_go [] ?_;conv=>whnf) | (refine two ?_ ?_<;>intro g<;>(try simp only[bsx, hil]at g)<;>(conv=>whnf)) | (refine And.intro rfl ?_;conv=>whnf) | fail)
 · have hi2 : i < l.length := by omega
   have wi : IntKind.i64.wrap ((i : Int) + 1) = ((i + 1 : Nat) : Int) := by rw [wrap64 (by omega) (by omega)]; omega
   have hget : (sL l)[((i : Nat) : Int).toNat]? = some (.str (toBA l[i])) := by rw [Int.toNat_natCast]; simp [sL, List.getElem?_eq_getElem hi2]
   have hmem : l[i] ∈ l := List.getElem_mem _
   obtain ⟨w, hw⟩ : ∃ w, l[i] = w := ⟨_, rfl⟩
   have htk : l.take (i + 1) = l.take i ++ [w] := by rw [List.take_succ_eq_append_getElem hi2, hw]
   rw [hw] at hget hmem
   refine ⟨by omega, _, hget, rfl, ?_⟩
   conv=>whnf
   (repeat (refine step_go [] ?_;conv=>whnf))
   rw [str_beq, sB_toBA (hb w hmem)]
   (repeat' first | (refine step_go [] ?_;conv=>whnf) | (refine two ?_ ?_<;>intro g<;>(try simp only[bsx]at g)<;>(conv=>whnf)) | (refine And.intro rfl ?_;conv=>whnf) | fail)
   · refine ⟨_, Weak.refl, ?_⟩; conv=>whnf
     (repeat' first | (refine step_go [] ?_;conv=>whnf) | (refine two ?_ ?_<;>intro g<;>(try simp only[bsx]at g)<;>(conv=>whnf)) | (refine And.intro rfl ?_;conv=>whnf) | fail)
     exact h _ ⟨fun _ => by rw [← g]; exact hmem, fun _ => rfl⟩
   · exact ⟨S (i + 1), weak_of (by rw [wi]; (repeat' first | exact VWs.nil | refine VWs.cons VW.undef ?_ | refine VWs.cons (VW.eq rfl) ?_)) .nil rfl rfl rfl, ih (i + 1) ⟨by omega, by rw [htk]; simp only [List.mem_append, List.mem_singleton, not_or]; exact ⟨hinv, fun e => g e.symm⟩⟩ (by omega)⟩
 · have hi2 : i = l.length := by omega
   subst hi2
   rw [List.take_length] at hinv
   refine ⟨_, Weak.refl, ?_⟩; conv=>whnf
   (repeat' first | (refine step_go [] ?_;conv=>whnf) | (refine two ?_ ?_<;>intro g<;>(try simp only[bsx]at g)<;>(conv=>whnf)) | (refine And.intro rfl ?_;conv=>whnf) | fail)
   exact h _ ⟨fun e => (by cases e), fun e => absurd e hinv⟩
theorem c_Words (K : Out -> List VObj -> Prop) (h : K (.ret (.sl (sL wordsL) .no)) []) : VCall Tryz.prog 72 [] [] K := by
 refine VCall.weak (call_fun [] 0 Tryz.func72 (by rfl) (by rfl) ?_)
 conv=>whnf
 (repeat' first | (refine step_go [] ?_;conv=>whnf) | (refine two ?_ ?_<;>intro g<;>(try simp only[bsx]at g)<;>(conv=>whnf)) | (refine And.intro rfl ?_;conv=>whnf) | fail)
 exact ⟨_, _, weak_of (.cons .no .nil) .nil rfl rfl rfl, h⟩
set_option maxHeartbeats 2000000 in
theorem c_rName (s : ByteArray) (hs : s.size < 200000000000000) (K : Out -> List VObj -> Prop) (h : K (.ret (.bool (nameB (sB s)))) []) : VCall Tryz.prog 38 [.str s] [] K := by
 have hsl := sB_len s
 have h := pB_of (P := nameP (sB s)) h
 refine call_fun [] 0 Tryz.func38 (by rfl) (by rfl) ?_
 conv=>whnf
 (repeat' first | (refine step_go [] ?_;conv=>whnf) | (refine two ?_ ?_<;>intro g<;>(try simp only[bsx]at g)<;>(conv=>whnf)) | (refine And.intro rfl ?_;conv=>whnf) | fail)
 let S : Nat -> St := fun i => ⟨(.str s :: .undef :: .bool false :: .int .i64 (i : Nat) :: .undef :: .undef :: .undef :: .undef :: .undef :: .undef :: .undef :: .undef :: .undef :: .undef :: .undef :: .undef :: .undef :: .undef :: .undef :: .undef :: .undef :: .undef :: .undef :: .undef :: .undef :: .undef :: .undef :: .undef :: .undef :: .undef :: .undef :: .undef :: .undef :: .undef :: .undef :: .undef :: .undef :: .undef :: .undef :: .undef :: .undef :: .undef :: .undef :: .undef :: .undef :: .undef :: .undef :: .undef :: .undef :: .undef :: .undef :: .undef :: .undef :: .undef :: .undef :: .undef :: .undef :: .undef :: .undef :: .undef :: .undef :: .undef :: []), [], 0, []⟩
 refine VLoop.enter (s' := S 0) (weak_of (by (repeat' first | exact VWs.nil | refine VWs.cons VW.undef ?_ | refine VWs.cons (VW.eq rfl) ?_)) .nil rfl rfl rfl)
  (VLoop.indW S (fun i => s.size - i) (fun i => i <= s.size /\ (∀ x, (sB s).head? = some x -> 0 < i -> Small x) /\ ∀ x ∈ (sB s).take i, Inner x) ?_ 0 ⟨by omega, fun x hx h0 => by omega, by simp⟩)
 rintro i ⟨hi, hinv0, hinv⟩ ih
 refine loop_round [] ?_; conv=>whnf
 (repeat' first | (refine step_go [] ?_;conv=>whnf) | (refine two ?_ ?_<;>intro g<;>(try simp only[bsx]at g)<;>(conv=>whnf)) | (refine And.intro rfl ?_;conv=>whnf) | fail)
 · have hil : i < (sB s).length := by omega
   have hx : (sB s)[i]? = some (sB s)[i] := List.getElem?_eq_getElem hil
   have hmem : (sB s)[i] ∈ sB s := List.getElem_mem _
   obtain ⟨x, hxx⟩ : ∃ x, (sB s)[i] = x := ⟨_, rfl⟩
   have htk : (sB s).take (i + 1) = (sB s).take i ++ [x] := by rw [List.take_succ_eq_append_getElem hil, hxx]
   rw [hxx] at hx hmem
   have wi : IntKind.i64.wrap ((i : Int) + 1) = ((i + 1 : Nat) : Int) := by rw [wrap64 (by omega) (by omega)]; omega
   have hhd : i = 0 -> (sB s).head? = some x := fun e => by rw [e] at hx; rw [List.head?_eq_getElem?]; exact hx
   have hgo : Inner x /\ (i = 0 -> Small x) -> VLoop _ _ _ (S (i + 1)) _ := fun hx2 => ih (i + 1) ⟨by omega, fun y hy _ => by
    by_cases e : i = 0
    · rw [hhd e] at hy; cases hy; exact hx2.2 e
    · exact hinv0 y hy (by omega), fun y hy => by
    rw [htk] at hy
    rcases List.mem_append.1 hy with hy | hy
    · exact hinv y hy
    · rw [List.mem_singleton.1 hy]; exact hx2.1⟩ (by omega)
   have hst : ¬ (Inner x /\ (i = 0 -> Small x)) -> K (.ret (.bool false)) [] := fun hx2 => h false ⟨fun e => (by cases e), fun hh => absurd ⟨hh.1.2.2.2 x hmem, fun e => hh.1.2.2.1 x (hhd e)⟩ hx2⟩
   unfold Inner Small Dig at hgo hst
   (repeat' first | (refine step_go [] ?_;conv=>whnf) | (refine two ?_ ?_<;>intro g<;>(try simp only[bsx]at g)<;>(conv=>whnf)) | (refine And.intro rfl ?_;conv=>whnf) | (refine idx_str (x := x) (by omega) (by rw [Int.toNat_natCast]; exact hx) fun b hb => ?_; (conv=>whnf); (repeat (refine step_go [] ?_;conv=>whnf)); rw [hb]; clear hb b) | fail)
   all_goals first
    | (refine ⟨_, Weak.refl, ?_⟩; conv=>whnf
       (repeat' first | (refine step_go [] ?_;conv=>whnf) | (refine two ?_ ?_<;>intro g<;>(try simp only[bsx]at g)<;>(conv=>whnf)) | (refine And.intro rfl ?_;conv=>whnf) | fail)
       exact hst (by omega))
    | exact ⟨S (i + 1), weak_of (by rw [wi]; (repeat' first | exact VWs.nil | refine VWs.cons VW.undef ?_ | refine VWs.cons (VW.eq rfl) ?_)) .nil rfl rfl rfl, hgo (by omega)⟩
 · have hil : i = (sB s).length := by omega
   subst hil
   rw [List.take_length] at hinv
   refine ⟨_, Weak.refl, ?_⟩
   conv=>whnf
   (repeat' first | (refine step_go [] ?_;conv=>whnf) | (refine two ?_ ?_<;>intro g<;>(try simp only[bsx, pB_iff, pB_no]at g)<;>(conv=>whnf)) | (refine And.intro rfl ?_;conv=>whnf) | (refine c_Words _ ?_;conv=>whnf) | (refine c_InS wordsL s (by decide) (by decide +kernel) _ ?_;conv=>whnf) | fail)
   · refine h _ ?_
     rw [Bool.not_eq_true', pB_no]
     constructor
     · exact fun hh => ⟨⟨by omega, by omega, fun x hx => hinv0 x hx (by omega), hinv⟩, hh⟩
     · exact fun hh => hh.2
   · exact h _ ⟨fun e => (by cases e), fun hh => by have := hh.1.2.1; omega⟩
   · exact h _ ⟨fun e => (by cases e), fun hh => by have := hh.1.1; omega⟩
end C15

namespace C16
open Go Go.Proofs VL D1 B10 BB6 BB10 BB14 C1 C2 C6 C10 C11 C12 C13 C14 C15
set_option maxHeartbeats 2000000 in
theorem c_rresets (p : Prod) (hp : p.okW) (hs : 1 <= p.times /\ p.times <= 600) (K : Out -> List VObj -> Prop) (h : K (.ret (.bool (pB (p.resets.length <= 20 /\ resetsP p.times none p.resets)))) []) : VCall Tryz.prog 41 [encP p] [] K := by
 have hlen := hp.lr
 have h := pB_of h
 unfold encP cellsP
 obtain ⟨T, hT⟩ : ∃ T, tL p.late = T := ⟨_, rfl⟩
 obtain ⟨H, hH⟩ : ∃ H, iL p.hol = H := ⟨_, rfl⟩
 have hrl : (rL p.resets).length = p.resets.length := by simp [rL]
 rw [hT, hH]
 refine call_fun [] 0 Tryz.func41 (by rfl) (by rfl) ?_
 conv=>whnf
 (repeat' first | (refine step_go [] ?_;conv=>whnf) | (refine two ?_ ?_<;>intro g<;>(try simp only[bsx]at g)<;>(conv=>whnf)) | (refine And.intro rfl ?_;conv=>whnf) | fail)
 let CC : List V := [.str p.name, .int .i64 p.count, .int .i64 p.rnd, .int .i64 p.kind, .int .i64 p.every, .int .i64 p.times, .int .i64 p.grace, .int .i64 p.rate, .sl (rL p.resets) .no, .int .i64 p.pen, .int .i64 p.o1, .int .i64 p.o2, .int .i64 p.o3, .int .i64 p.o4, .int .i64 p.over, .sl T .no, .int .i64 p.cap, .int .i64 p.roll, .sl H .no]
 let S : Nat -> St := fun i => ⟨(.undef :: .ptr 0 0 :: .bool false :: .int .i64 (i : Nat) :: .undef :: .undef :: .undef :: .undef :: .undef :: .undef :: .undef :: .undef :: .undef :: .undef :: .undef :: .undef :: .undef :: .undef :: .undef :: .undef :: .undef :: .undef :: .undef :: .undef :: .undef :: .undef :: .undef :: .undef :: .undef :: .undef :: .undef :: .undef :: .undef :: .undef :: .undef :: .undef :: .undef :: .undef :: .undef :: .undef :: .undef :: .undef :: .undef :: .undef :: .undef :: .undef :: .undef :: .undef :: .undef :: .undef :: []), [.cells true 27 CC], 0, []⟩
 refine VLoop.enter (s' := S 0) (weak_of (by (repeat' first | exact VWs.nil | refine VWs.cons VW.undef ?_ | refine VWs.cons (VW.eq rfl) ?_)) (.cons (.eq rfl) .nil) rfl rfl rfl)
  (VLoop.indW S (fun i => p.resets.length - i) (fun i => i <= p.resets.length /\ (resetsP p.times none p.resets ↔ resetsP p.times (pvO p.resets i) (p.resets.drop i))) ?_ 0 ⟨by omega, Iff.rfl⟩)
 rintro i ⟨hi, hinv⟩ ih
 refine loop_round [] ?_; conv=>whnf
 (repeat' first | (refine step_go [] ?_;conv=>whnf) | (refine two ?_ ?_<;>intro g<;>(try simp only[bsx, hrl]at g)<;>(conv=>whnf)) | (refine And.intro rfl ?_;conv=>whnf) | fail)
 · have hil : i < p.resets.length := by omega
   have hget : (rL p.resets)[((i : Nat) : Int).toNat]? = some (encR p.resets[i]) := by rw [Int.toNat_natCast]; simp [rL, List.getElem?_eq_getElem hil]
   have hdrop : p.resets.drop i = p.resets[i] :: p.resets.drop (i + 1) := List.drop_eq_getElem_cons hil
   obtain ⟨q, hq1, hq2⟩ := prev_ex encR p.resets i hil (by omega)
   have hpv := pvO_succ hil
   obtain ⟨d, hd⟩ : ∃ d, p.resets[i] = d := ⟨_, rfl⟩
   rw [hd] at hget hdrop hpv
   rw [hdrop] at hinv
   conv at hinv => rhs; unfold resetsP
   rw [← hpv] at hinv
   refine ⟨by omega, _, hget, rfl, ?_⟩
   have wt : IntKind.i64.wrap (p.times - 1) = p.times - 1 := wrap64 (by omega) (by omega)
   have wi : IntKind.i64.wrap ((i : Int) + 1) = ((i + 1 : Nat) : Int) := by rw [wrap64 (by omega) (by omega)]; omega
   have hst : ¬ ((1 <= d.aft /\ d.aft <= p.times - 1) /\ (0 <= d.rate /\ d.rate <= 1000000000) /\ (0 < i -> q.aft < d.aft)) -> K (.ret (.bool false)) [] := fun hh => h false ⟨fun e => (by cases e), fun h => absurd (by
    obtain ⟨a, b, c, _⟩ := hinv.1 h.2
    exact ⟨a, b, fun h0 => c q ((hq2 q).2 ⟨h0, rfl⟩)⟩) hh⟩
   have hnext : (1 <= d.aft /\ d.aft <= p.times - 1) /\ (0 <= d.rate /\ d.rate <= 1000000000) /\ (0 < i -> q.aft < d.aft) -> VLoop _ _ _ (S (i + 1)) _ := fun hh => ih (i + 1) ⟨by omega, hinv.trans ⟨fun h => h.2.2.2, fun h => ⟨hh.1, hh.2.1, fun x hx => by obtain ⟨h0, rfl⟩ := (hq2 x).1 hx; exact hh.2.2 h0, h⟩⟩⟩ (by omega)
   conv=>whnf
   (repeat' first | (refine step_go [] ?_;conv=>whnf) | (refine two ?_ ?_<;>intro g<;>(try simp only[bsx, wt]at g)<;>(conv=>whnf)) | (refine And.intro rfl ?_;conv=>whnf) | (refine dr_go (by decide +kernel) ?_;conv=>whnf) | (refine c_rwithin _ _ _ _ ?_;conv=>whnf) | (refine ⟨by rw [wrap64 (by omega) (by omega)]; omega, _, hq1 (by omega), rfl, ?_⟩;conv=>whnf) | fail)
   all_goals first
    | (refine ⟨_, Weak.refl, ?_⟩; conv=>whnf
       (repeat' first | (refine step_go [] ?_;conv=>whnf) | (refine two ?_ ?_<;>intro g<;>(try simp only[bsx]at g)<;>(conv=>whnf)) | (refine And.intro rfl ?_;conv=>whnf) | fail)
       exact hst (by omega))
    | (refine weak_sel (src := [0]) ?_; conv=>whnf
       refine VLoop.enter (s' := S (i + 1)) (weak_of (by rw [wi]; (repeat' first | exact VWs.nil | refine VWs.cons VW.undef ?_ | refine VWs.cons (VW.eq rfl) ?_)) (.cons (.eq rfl) .nil) rfl rfl rfl) (hnext (by omega)))
 · have hil : i = p.resets.length := by omega
   subst hil
   rw [List.drop_length] at hinv
   refine ⟨_, Weak.refl, ?_⟩
   conv=>whnf
   (repeat' first | (refine step_go [] ?_;conv=>whnf) | (refine two ?_ ?_<;>intro g<;>(try simp only[bsx, hrl]at g)<;>(conv=>whnf)) | (refine And.intro rfl ?_;conv=>whnf) | fail)
   refine h _ ?_
   rw [decide_eq_true_iff, hrl]
   constructor
   · exact fun hh => ⟨by omega, hinv.2 trivial⟩
   · exact fun hh => by omega
set_option maxHeartbeats 2000000 in
theorem c_rtiers (p : Prod) (hp : p.okW) (K : Out -> List VObj -> Prop) (h : K (.ret (.bool (pB (lateP p)))) []) : VCall Tryz.prog 43 [encP p] [] K := by
 have hlen := hp.ll
 have h := pB_of h
 unfold encP cellsP
 obtain ⟨T, hT⟩ : ∃ T, rL p.resets = T := ⟨_, rfl⟩
 obtain ⟨H, hH⟩ : ∃ H, iL p.hol = H := ⟨_, rfl⟩
 have hrl : (tL p.late).length = p.late.length := by simp [tL]
 rw [hT, hH]
 refine call_fun [] 0 Tryz.func43 (by rfl) (by rfl) ?_
 conv=>whnf
 (repeat' first | (refine step_go [] ?_;conv=>whnf) | (refine two ?_ ?_<;>intro g<;>(try simp only[bsx]at g)<;>(conv=>whnf)) | (refine And.intro rfl ?_;conv=>whnf) | fail)
 let CC : List V := [.str p.name, .int .i64 p.count, .int .i64 p.rnd, .int .i64 p.kind, .int .i64 p.every, .int .i64 p.times, .int .i64 p.grace, .int .i64 p.rate, .sl T .no, .int .i64 p.pen, .int .i64 p.o1, .int .i64 p.o2, .int .i64 p.o3, .int .i64 p.o4, .int .i64 p.over, .sl (tL p.late) .no, .int .i64 p.cap, .int .i64 p.roll, .sl H .no]
 let S : Nat -> St := fun i => ⟨(.undef :: .ptr 0 0 :: .bool false :: .int .i64 (i : Nat) :: .undef :: .undef :: .undef :: .undef :: .undef :: .undef :: .undef :: .undef :: .undef :: .undef :: .undef :: .undef :: .undef :: .undef :: .undef :: .undef :: .undef :: .undef :: .undef :: .undef :: .undef :: .undef :: .undef :: .undef :: .undef :: .undef :: .undef :: .undef :: .undef :: .undef :: .undef :: .undef :: .undef :: .undef :: .undef :: .undef :: .undef :: .undef :: .undef :: .undef :: .undef :: .undef :: .undef :: .undef :: .undef :: .undef :: .undef :: .undef :: .undef :: .undef :: .undef :: .undef :: .undef :: .undef :: .undef :: .undef :: .undef :: .undef :: .undef :: .undef :: .undef :: .undef :: .undef :: .undef :: .undef :: .undef :: .undef :: .undef :: .undef :: .undef :: .undef :: []), [.cells true 27 CC], 0, []⟩
 refine VLoop.enter (s' := S 0) (weak_of (by (repeat' first | exact VWs.nil | refine VWs.cons VW.undef ?_ | refine VWs.cons (VW.eq rfl) ?_)) (.cons (.eq rfl) .nil) rfl rfl rfl)
  (VLoop.indW S (fun i => p.late.length - i) (fun i => i <= p.late.length /\ (tiersP none p.late ↔ tiersP (pvO p.late i) (p.late.drop i))) ?_ 0 ⟨by omega, Iff.rfl⟩)
 rintro i ⟨hi, hinv⟩ ih
 refine loop_round [] ?_; conv=>whnf
 (repeat' first | (refine step_go [] ?_;conv=>whnf) | (refine two ?_ ?_<;>intro g<;>(try simp only[bsx, hrl]at g)<;>(conv=>whnf)) | (refine And.intro rfl ?_;conv=>whnf) | fail)
 · have hil : i < p.late.length := by omega
   have hget : (tL p.late)[((i : Nat) : Int).toNat]? = some (encT p.late[i]) := by rw [Int.toNat_natCast]; simp [tL, List.getElem?_eq_getElem hil]
   have hdrop : p.late.drop i = p.late[i] :: p.late.drop (i + 1) := List.drop_eq_getElem_cons hil
   obtain ⟨q, hq1, hq2⟩ := prev_ex encT p.late i hil (by omega)
   have hpv := pvO_succ hil
   obtain ⟨d, hd⟩ : ∃ d, p.late[i] = d := ⟨_, rfl⟩
   rw [hd] at hget hdrop hpv
   rw [hdrop] at hinv
   conv at hinv => rhs; unfold tiersP
   rw [← hpv] at hinv
   refine ⟨by omega, _, hget, rfl, ?_⟩
   have wi : IntKind.i64.wrap ((i : Int) + 1) = ((i + 1 : Nat) : Int) := by rw [wrap64 (by omega) (by omega)]; omega
   have hst : ¬ ((1 <= d.days /\ d.days <= 365) /\ (0 <= d.fee /\ d.fee <= 10000000000000) /\ (0 < i -> q.days < d.days /\ q.fee <= d.fee)) -> K (.ret (.bool false)) [] := fun hh => h false ⟨fun e => (by cases e), fun h => absurd (by
    obtain ⟨a, b, c, _⟩ := hinv.1 h.2.2.2
    exact ⟨a, b, fun h0 => c q ((hq2 q).2 ⟨h0, rfl⟩)⟩) hh⟩
   have hnext : (1 <= d.days /\ d.days <= 365) /\ (0 <= d.fee /\ d.fee <= 10000000000000) /\ (0 < i -> q.days < d.days /\ q.fee <= d.fee) -> VLoop _ _ _ (S (i + 1)) _ := fun hh => ih (i + 1) ⟨by omega, hinv.trans ⟨fun h => h.2.2.2, fun h => ⟨hh.1, hh.2.1, fun x hx => by obtain ⟨h0, rfl⟩ := (hq2 x).1 hx; exact hh.2.2 h0, h⟩⟩⟩ (by omega)
   conv=>whnf
   (repeat' first | (refine step_go [] ?_;conv=>whnf) | (refine two ?_ ?_<;>intro g<;>(try simp only[bsx]at g)<;>(conv=>whnf)) | (refine And.intro rfl ?_;conv=>whnf) | (refine dr_go (by decide +kernel) ?_;conv=>whnf) | (refine c_rwithin _ _ _ _ ?_;conv=>whnf) | (refine ⟨by rw [wrap64 (by omega) (by omega)]; omega, _, hq1 (by omega), rfl, ?_⟩;conv=>whnf) | fail)
   all_goals first
    | (refine ⟨_, Weak.refl, ?_⟩; conv=>whnf
       (repeat' first | (refine step_go [] ?_;conv=>whnf) | (refine two ?_ ?_<;>intro g<;>(try simp only[bsx]at g)<;>(conv=>whnf)) | (refine And.intro rfl ?_;conv=>whnf) | fail)
       exact hst (by omega))
    | (refine weak_sel (src := [0]) ?_; conv=>whnf
       refine VLoop.enter (s' := S (i + 1)) (weak_of (by rw [wi]; (repeat' first | exact VWs.nil | refine VWs.cons VW.undef ?_ | refine VWs.cons (VW.eq rfl) ?_)) (.cons (.eq rfl) .nil) rfl rfl rfl) (hnext (by omega)))
 · have hil : i = p.late.length := by omega
   subst hil
   rw [List.drop_length] at hinv
   refine ⟨_, Weak.refl, ?_⟩
   conv=>whnf
   have hne : p.late ≠ [] ↔ 0 < p.late.length := List.length_pos_iff.symm
   (repeat' first | (refine step_go [] ?_;conv=>whnf) | (refine two ?_ ?_<;>intro g<;>(try simp only[bsx, hrl]at g)<;>(conv=>whnf)) | (refine And.intro rfl ?_;conv=>whnf) | (refine c_rwithin _ _ _ _ ?_;conv=>whnf) | fail)
   all_goals
    refine h _ ?_
    unfold lateP
    rw [hne]
    (try rw [hrl])
    (try rw [decide_eq_true_iff])
    constructor
    · intro hh
      first
       | (cases hh; done)
       | exact ⟨by omega, by omega, by omega, hinv.2 trivial⟩
    · intro hh
      first
       | rfl
       | (exfalso; omega)
       | omega
end C16

namespace C17
open Go Go.Proofs VL D1 B10 BB6 BB10 BB14 C1 C2 C6 C10 C11 C12 C13 C14 C15 C16
theorem dIn_iff (n : Int) : dIn n = true ↔ -25567 <= n /\ n <= 84370 := by unfold dIn; simp
theorem dIn_no (n : Int) : dIn n = false ↔ ¬ (-25567 <= n /\ n <= 84370) := by rw [← dIn_iff]; simp
set_option maxHeartbeats 2000000 in
theorem c_Order (a b c d : Int) (K : Out -> List VObj -> Prop) (h : K (.ret (.bool (pB (orderP a b c d)))) []) : VCall Tryz.prog 42 [.agg [.int .i64 a, .int .i64 b, .int .i64 c, .int .i64 d]] [] K := by
 have h := pB_of h
 refine call_fun [] 0 Tryz.func42 (by rfl) (by rfl) ?_
 conv=>whnf
 (repeat' first | (refine step_go [] ?_;conv=>whnf) | (refine two ?_ ?_<;>intro g<;>(try simp only[bsx, pB_iff, pB_no, List.mem_cons, List.not_mem_nil, or_false]at g)<;>(conv=>whnf)) | (refine And.intro rfl ?_;conv=>whnf) | (refine loop_round [] ?_;conv=>whnf) | (refine ⟨_, Weak.refl, ?_⟩;conv=>whnf) | (refine VCall.args (args' := [.sl (iL [a, b, c, d]) .no, .int .i64 1]) (.cons .no (.cons (.eq rfl) .nil)) rfl (c_InI [a, b, c, d] 1 (by simp) _ ?_);conv=>whnf) | (refine VCall.args (args' := [.sl (iL [a, b, c, d]) .no, .int .i64 2]) (.cons .no (.cons (.eq rfl) .nil)) rfl (c_InI [a, b, c, d] 2 (by simp) _ ?_);conv=>whnf) | (refine VCall.args (args' := [.sl (iL [a, b, c, d]) .no, .int .i64 3]) (.cons .no (.cons (.eq rfl) .nil)) rfl (c_InI [a, b, c, d] 3 (by simp) _ ?_);conv=>whnf) | (refine VCall.args (args' := [.sl (iL [a, b, c, d]) .no, .int .i64 4]) (.cons .no (.cons (.eq rfl) .nil)) rfl (c_InI [a, b, c, d] 4 (by simp) _ ?_);conv=>whnf) | fail)
 all_goals
  refine h _ ?_
  unfold orderP
  constructor
  · intro hh
    first
     | (cases hh; done)
     | omega
  · intro hh
    first
     | rfl
     | (exfalso; omega)
set_option maxHeartbeats 2000000 in
theorem c_HRight (l : List Int) (hl : l.length < 200000000000000) (K : Out -> List VObj -> Prop) (h : K (.ret (.bool (pB (l.length <= 200 /\ holP none l)))) []) : VCall Tryz.prog 44 [.sl (iL l) .no] [] K := by
 have hrl := iL_len l
 have h := pB_of h
 refine call_fun [] 0 Tryz.func44 (by rfl) (by rfl) ?_
 conv=>whnf
 (repeat' first | (refine step_go [] ?_;conv=>whnf) | (refine two ?_ ?_<;>intro g<;>(try simp only[bsx]at g)<;>(conv=>whnf)) | (refine And.intro rfl ?_;conv=>whnf) | fail)
 let S : Nat -> St := fun i => ⟨(.sl (iL l) .no :: .undef :: .bool false :: .int .i64 (i : Nat) :: .undef :: .undef :: .undef :: .undef :: .undef :: .undef :: .undef :: .undef :: .undef :: .undef :: .undef :: .undef :: .undef :: .undef :: .undef :: .undef :: .undef :: .undef :: .undef :: .undef :: .undef :: .undef :: .undef :: .undef :: .undef :: .undef :: .undef :: .undef :: .undef :: .undef :: .undef :: []), [], 0, []⟩
 refine VLoop.enter (s' := S 0) (weak_of (by (repeat' first | exact VWs.nil | refine VWs.cons VW.undef ?_ | refine VWs.cons (VW.eq rfl) ?_)) .nil rfl rfl rfl)
  (VLoop.indW S (fun i => l.length - i) (fun i => i <= l.length /\ (holP none l ↔ holP (pvO l i) (l.drop i))) ?_ 0 ⟨by omega, Iff.rfl⟩)
 rintro i ⟨hi, hinv⟩ ih
 refine loop_round [] ?_; conv=>whnf
 (repeat' first | (refine step_go [] ?_;conv=>whnf) | (refine two ?_ ?_<;>intro g<;>(try simp only[bsx, hrl]at g)<;>(conv=>whnf)) | (refine And.intro rfl ?_;conv=>whnf) | fail)
 · have hil : i < l.length := by omega
   have hget := hol_get hil
   have hdrop : l.drop i = l[i] :: l.drop (i + 1) := List.drop_eq_getElem_cons hil
   obtain ⟨q, hq1, hq2⟩ := prev_ex (V.int .i64) l i hil (by omega)
   have hpv := pvO_succ hil
   obtain ⟨d, hd⟩ : ∃ d, l[i] = d := ⟨_, rfl⟩
   rw [hd] at hget hdrop hpv
   rw [hdrop] at hinv
   conv at hinv => rhs; unfold holP
   rw [← hpv] at hinv
   have wi : IntKind.i64.wrap ((i : Int) + 1) = ((i + 1 : Nat) : Int) := by rw [wrap64 (by omega) (by omega)]; omega
   have hst : ¬ ((-25567 <= d /\ d <= 84370) /\ (0 < i -> q < d)) -> K (.ret (.bool false)) [] := fun hh => h false ⟨fun e => (by cases e), fun h => absurd (by
    obtain ⟨a, c, _⟩ := hinv.1 h.2
    exact ⟨a, fun h0 => c q ((hq2 q).2 ⟨h0, rfl⟩)⟩) hh⟩
   have hnext : (-25567 <= d /\ d <= 84370) /\ (0 < i -> q < d) -> VLoop _ _ _ (S (i + 1)) _ := fun hh => ih (i + 1) ⟨by omega, hinv.trans ⟨fun h => h.2.2, fun h => ⟨hh.1, fun x hx => by obtain ⟨h0, rfl⟩ := (hq2 x).1 hx; exact hh.2 h0, h⟩⟩⟩ (by omega)
   (repeat' first | (refine step_go [] ?_;conv=>whnf) | (refine two ?_ ?_<;>intro g<;>(try simp only[bsx, dIn_iff, dIn_no]at g)<;>(conv=>whnf)) | (refine And.intro rfl ?_;conv=>whnf) | (refine dr_go (by decide +kernel) ?_;conv=>whnf) | (refine c_is _ _ ?_;conv=>whnf) | (refine ⟨by omega, _, hget, rfl, ?_⟩;conv=>whnf) | (refine ⟨by rw [wrap64 (by omega) (by omega)]; omega, _, hq1 (by omega), rfl, ?_⟩;conv=>whnf) | fail)
   all_goals first
    | (refine ⟨_, Weak.refl, ?_⟩; conv=>whnf
       (repeat' first | (refine step_go [] ?_;conv=>whnf) | (refine two ?_ ?_<;>intro g<;>(try simp only[bsx]at g)<;>(conv=>whnf)) | (refine And.intro rfl ?_;conv=>whnf) | fail)
       exact hst (by omega))
    | exact ⟨S (i + 1), weak_of (by rw [wi]; (repeat' first | exact VWs.nil | refine VWs.cons VW.undef ?_ | refine VWs.cons (VW.eq rfl) ?_)) .nil rfl rfl rfl, hnext (by omega)⟩
 · have hil : i = l.length := by omega
   subst hil
   rw [List.drop_length] at hinv
   refine ⟨_, Weak.refl, ?_⟩
   conv=>whnf
   (repeat' first | (refine step_go [] ?_;conv=>whnf) | (refine two ?_ ?_<;>intro g<;>(try simp only[bsx, hrl]at g)<;>(conv=>whnf)) | (refine And.intro rfl ?_;conv=>whnf) | fail)
   refine h _ ?_
   rw [decide_eq_true_iff, hrl]
   constructor
   · exact fun hh => ⟨by omega, hinv.2 trivial⟩
   · exact fun hh => by omega
end C17

namespace C18
open Go Go.Proofs VL D1 B10 BB6 BB10 BB14 C1 C2 C6 C10 C11 C12 C13 C14 C15 C16 C17
set_option maxHeartbeats 4000000 in
theorem c_rCheck (p : Prod) (hp : p.okW) (K : Out -> List VObj -> Prop) (h : K (.ret (.int .i64 (checkC p))) []) : VCall Tryz.prog 18 [encP p] [] K := by
 have h9 : ¬ checkP p -> K (.ret (.int .i64 9)) [] := fun hh => by unfold checkC at h; rw [if_neg hh] at h; exact h
 have h0 : checkP p -> K (.ret (.int .i64 0)) [] := fun hh => by unfold checkC at h; rw [if_pos hh] at h; exact h
 clear h
 have ht := hp.times
 unfold I64 at ht
 have hil := iL_len p.hol
 unfold encP cellsP
 refine call_fun [] 0 Tryz.func18 (by rfl) (by rfl) ?_
 conv=>whnf
 (repeat' first | (refine step_go [] ?_;conv=>whnf) | (refine two ?_ ?_<;>intro g<;>(try simp only[bsx, nameB_iff, nameB_no, pB_iff, pB_no, hil, List.mem_cons, List.not_mem_nil, or_false]at g)<;>(conv=>whnf)) | (refine And.intro rfl ?_;conv=>whnf) | (refine c_rName p.name hp.name _ ?_;conv=>whnf) | (refine c_rwithin _ _ _ _ ?_;conv=>whnf) | (refine VCall.args (args' := [.sl (iL [1, 2, 3, 4, 6, 12]) .no, .int .i64 p.every]) (.cons .no (.cons (.eq rfl) .nil)) rfl (c_InI [1, 2, 3, 4, 6, 12] p.every (by simp) _ ?_);conv=>whnf) | (refine c_rresets p hp (by omega) _ ?_;conv=>whnf) | (refine c_Order p.o1 p.o2 p.o3 p.o4 _ ?_;conv=>whnf) | (refine c_rtiers p hp _ ?_;conv=>whnf) | (refine c_HRight p.hol hp.lh _ ?_;conv=>whnf) | fail)
 all_goals first
  | (refine h0 ⟨⟨⟨by assumption, by omega, by omega, by omega⟩, by unfold shape2; assumption, by omega, ?_, by omega⟩, ⟨by omega, by omega, by assumption⟩, ⟨by assumption, by omega⟩, by assumption, ⟨by assumption, by omega, ?_⟩⟩
     · rw [wrap64 (x := p.times - 1) (by omega) (by omega)] at *; omega
     · first
        | exact .inl g
        | exact .inr (List.length_eq_zero_iff.1 (by omega)))
  | (refine h9 fun hh => ?_
     obtain ⟨⟨⟨a1, a2, a3, a4⟩, a5, a6, a7, a8⟩, ⟨b1, b2, b3⟩, ⟨c1, c2⟩, d1, e1, e2, e3⟩ := hh
     unfold shape2 at a5
     first
      | contradiction
      | omega
      | (rcases e3 with e3 | e3
         · contradiction
         · rw [e3] at g; simp at g)
      | (rw [wrap64 (x := p.times - 1) (by omega) (by omega)] at *; omega))
  | trace_state
end C18

namespace C19
open Go Go.Proofs VL D1 B10 BB4 BB5 BB6 BB10 BB14 C1 C2 C6
def DateP (y m d : Nat) : Prop := (1900 <= y /\ y <= 2200) /\ (1 <= m /\ m <= 12) /\ (1 <= d /\ d <= mlen y m)
instance (y m d : Nat) : Decidable (DateP y m d) := inferInstanceAs (Decidable (_ /\ _))
def numberD (y m d : Nat) : Int × Int := if DateP y m d then (opens y + cum y m + d - 1, 0) else (0, 5)
theorem c_month0 (y m : Nat) (h1 : m = 0 \/ 12 < m) (hm : m <= 99) (K) (h : K (.ret (.int .i64 0)) []) : VCall Tryz.prog 115 [.int .i64 (y : Int), .int .i64 (m : Int)] [] K := by
 refine call_fun [] 0 Tryz.func115 (by rfl) (by rfl) ?_
 conv=>whnf
 (repeat' first | (refine step_go [] ?_;conv=>whnf) | (refine two ?_ ?_<;>intro g<;>(try simp only[bsx]at g)<;>(conv=>whnf)) | (refine And.intro rfl ?_;conv=>whnf) | (refine ⟨_, Weak.refl, ?_⟩;conv=>whnf) | fail)
 all_goals first
  | exact h
  | (exfalso; omega)
  | trace_state
set_option maxHeartbeats 2000000 in
theorem c_cnum (y m d : Nat) (hy : y <= 9999) (hm : m <= 99) (hd : d <= 99) (K : Out -> List VObj -> Prop) (h : K (.ret (.tup [.int .i64 (numberD y m d).1, .int .i64 (numberD y m d).2])) []) :
 VCall Tryz.prog 178 [.agg [.int .i64 (y : Int), .int .i64 (m : Int), .int .i64 (d : Int)]] [] K := by
 have hno : ¬ DateP y m d -> K (.ret (.tup [.int .i64 0, .int .i64 5])) [] := fun hh => by unfold numberD at h; rw [if_neg hh] at h; exact h
 have hyes : DateP y m d -> K (.ret (.tup [.int .i64 (opens y + cum y m + d - 1), .int .i64 0])) [] := fun hh => by unfold numberD at h; rw [if_pos hh] at h; exact h
 clear h
 have hml := mlen_le y m
 refine call_fun [] 0 Tryz.func178 (by rfl) (by rfl) ?_
 conv=>whnf
 by_cases hmr : 1 <= m /\ m <= 12
 · (repeat' first | (refine step_go [] ?_;conv=>whnf) | (refine two ?_ ?_<;>intro g<;>(try simp only[bsx]at g)<;>(conv=>whnf)) | (refine And.intro rfl ?_;conv=>whnf) | (refine dr_go (by decide +kernel) ?_;conv=>whnf) | (refine c_month y m hmr.1 hmr.2 _ ?_;conv=>whnf) | fail)
   all_goals first
    | (refine hno fun hh => ?_; unfold DateP at hh; omega)
    | skip
   have ho : -25567 <= opens y /\ opens y <= 90000 := by unfold opens; omega
   have hcm : ∀ j, j <= m -> cum y j <= 400 := fun j hj => by
    rcases Nat.eq_zero_or_pos j with rfl | h0
    · simp [cum]
    · have := cum_mono (y := y) h0 (Nat.le_trans hj hmr.2); have h12 := cum12 y; split at h12 <;> omega
   refine c_opens y (by omega) (by omega) _ ?_
   conv=>whnf
   (repeat' first | (refine step_go [] ?_;conv=>whnf) | (refine two ?_ ?_<;>intro g<;>(try simp only[bsx]at g)<;>(conv=>whnf)) | (refine And.intro rfl ?_;conv=>whnf) | (refine dr_go (by decide +kernel) ?_;conv=>whnf) | fail)
   let S : Nat -> St := fun j => ⟨(.undef :: .ptr 0 0 :: .int .i64 0 :: .int .i64 0 :: .int .i64 (opens y + (d : Nat) - 1 + (cum y j : Nat)) :: .int .i64 (j : Nat) :: .undef :: .undef :: .undef :: .undef :: .undef :: .undef :: .undef :: .undef :: .undef :: .undef :: .undef :: .undef :: .undef :: .undef :: .undef :: .undef :: .undef :: .undef :: .undef :: .undef :: .undef :: .undef :: .undef :: .undef :: .undef :: .undef :: .undef :: .undef :: .undef :: .undef :: .undef :: .undef :: .undef :: .undef :: .undef :: .undef :: .undef :: .undef :: .undef :: .undef :: .undef :: .undef :: .undef :: []), [.cells true 104 [.int .i64 (y : Int), .int .i64 (m : Int), .int .i64 (d : Int)]], 0, []⟩
   refine VLoop.enter (s' := S 1) (weak_of ?_ (.cons (.eq rfl) .nil) rfl rfl rfl)
    (VLoop.indW S (fun j => m - j) (fun j => 1 <= j /\ j <= m) ?_ 1 ⟨by omega, by omega⟩)
   · repeat' first
      | exact VWs.nil
      | refine VWs.cons VW.undef ?_
      | refine VWs.cons (VW.eq rfl) ?_
      | refine VWs.cons (VW.eq (congrArg (V.int .i64) (by rw [wrap64 (x := opens y + (d : Int)) (by omega) (by omega), wrap64 (by omega) (by omega)]; simp [cum]))) ?_
   rintro j ⟨hj1, hj⟩ ih
   have hcj := hcm j hj
   refine loop_round [] ?_; conv=>whnf
   (repeat' first | (refine step_go [] ?_;conv=>whnf) | (refine two ?_ ?_<;>intro g<;>(try simp only[bsx]at g)<;>(conv=>whnf)) | (refine And.intro rfl ?_;conv=>whnf) | (refine dr_go (by decide +kernel) ?_;conv=>whnf) | (refine c_month y j hj1 (by omega) _ ?_;conv=>whnf) | fail)
   · have hcs := cum_step (y := y) hj1
     have hmj := mlen_le y j
     have wj : IntKind.i64.wrap ((j : Int) + 1) = ((j + 1 : Nat) : Int) := by rw [wrap64 (by omega) (by omega)]; omega
     have wn : IntKind.i64.wrap (opens y + (d : Nat) - 1 + (cum y j : Nat) + (mlen y j : Nat)) = opens y + (d : Nat) - 1 + (cum y (j + 1) : Nat) := by rw [wrap64 (by omega) (by omega), hcs]; omega
     exact ⟨S (j + 1), weak_of (by rw [wj, wn]; (repeat' first | exact VWs.nil | refine VWs.cons VW.undef ?_ | refine VWs.cons (VW.eq rfl) ?_)) (.cons (.eq rfl) .nil) rfl rfl rfl, ih (j + 1) ⟨by omega, by omega⟩ (by omega)⟩
   · have hjm : j = m := by omega
     subst hjm
     refine ⟨_, Weak.refl, ?_⟩; conv=>whnf
     (repeat' first | (refine step_go [] ?_;conv=>whnf) | (refine two ?_ ?_<;>intro g<;>(try simp only[bsx]at g)<;>(conv=>whnf)) | (refine And.intro rfl ?_;conv=>whnf) | (refine dr_go (by decide +kernel) ?_;conv=>whnf) | fail)
     refine Eq.mp (congrArg (fun v => K (.ret (.tup [.int .i64 v, .int .i64 0])) []) ?_) (hyes ⟨by omega, by omega, by omega⟩)
     omega
 · (repeat' first | (refine step_go [] ?_;conv=>whnf) | (refine two ?_ ?_<;>intro g<;>(try simp only[bsx]at g)<;>(conv=>whnf)) | (refine And.intro rfl ?_;conv=>whnf) | (refine dr_go (by decide +kernel) ?_;conv=>whnf) | (refine c_month0 y m (by omega) hm _ ?_;conv=>whnf) | fail)
   all_goals first
    | (refine hno fun hh => ?_; unfold DateP at hh; omega)
    | (exfalso; omega)
    | trace_state
end C19

namespace C20
open Go Go.Proofs VL D1 B10 BB4 BB5 BB6 BB10 BB14 C1 C2 C6 C19
set_option maxHeartbeats 2000000 in
theorem c_digs (s : ByteArray) (hs : s.size < 1000000) (a b : Nat) (hab : a <= b) (hb : b <= s.size) (h4 : b <= a + 4) (K : Out -> List VObj -> Prop)
 (h0 : (∀ x ∈ ((sB s).take b).drop a, Dig x) -> K (.ret (.tup [.int .i64 (vl (((sB s).take b).drop a) : Nat), .bool true])) [])
 (h1 : ¬ (∀ x ∈ ((sB s).take b).drop a, Dig x) -> K (.ret (.tup [.int .i64 0, .bool false])) []) :
 VCall Tryz.prog 177 [.agg [.str s], .int .i64 (a : Int), .int .i64 (b : Int)] [] K := by
 have hsl := sB_len s
 refine call_fun [] 0 Tryz.func177 (by rfl) (by rfl) ?_
 conv=>whnf
 (repeat' first | (refine step_go [] ?_;conv=>whnf) | (refine two ?_ ?_<;>intro g<;>(try simp only[bsx]at g)<;>(conv=>whnf)) | (refine And.intro rfl ?_;conv=>whnf) | (refine dr_go (by decide +kernel) ?_;conv=>whnf) | fail)
 refine ⟨by omega, by omega, by omega, ?_⟩
 conv=>whnf
 (repeat' first | (refine step_go [] ?_;conv=>whnf) | (refine two ?_ ?_<;>intro g<;>(try simp only[bsx]at g)<;>(conv=>whnf)) | (refine And.intro rfl ?_;conv=>whnf) | (refine dr_go (by decide +kernel) ?_;conv=>whnf) | fail)
 obtain ⟨l, hl⟩ : ∃ l, ((sB s).take b).drop a = l := ⟨_, rfl⟩
 rw [hl] at h0 h1
 have hll : l.length = b - a := by rw [← hl]; simp; omega
 rw [bytesV_eq, Int.toNat_natCast, Int.toNat_natCast, sB_ext, hl]
 let S : Nat -> St := fun i => ⟨(.undef :: .undef :: .undef :: .ptr 0 0 :: .undef :: .undef :: .int .i64 0 :: .bool false :: .int .i64 (vl (l.take i) : Nat) :: .undef :: .undef :: .undef :: .undef :: .undef :: .undef :: .undef :: .sl (bL l) .no :: .int .i64 (l.length : Nat) :: .int .i64 (i : Nat) :: .undef :: .undef :: .undef :: .undef :: .undef :: .undef :: .undef :: .undef :: .undef :: .undef :: .undef :: .undef :: .undef :: .undef :: .undef :: .undef :: .undef :: []), [.cells true 199 [.str s]], 0, []⟩
 refine VLoop.enter (s' := S 0) (weak_of ?_ (.cons (.eq rfl) .nil) rfl rfl rfl)
  (VLoop.indW S (fun i => l.length - i) (fun i => i <= l.length /\ ∀ x ∈ l.take i, Dig x) ?_ 0 ⟨by omega, by simp⟩)
 · repeat' first
    | exact VWs.nil
    | refine VWs.cons VW.undef ?_
    | refine VWs.cons (VW.eq rfl) ?_
    | refine VWs.cons VW.no ?_
    | refine VWs.cons (VW.eq (by rw [bL_len])) ?_
 rintro i ⟨hi, hinv⟩ ih
 refine loop_round [] ?_; conv=>whnf
 (repeat' first | (refine step_go [] ?_;conv=>whnf) | (refine two ?_ ?_<;>intro g<;>(try simp only[bsx]at g)<;>(conv=>whnf)) | (refine And.intro rfl ?_;conv=>whnf) | fail)
 · have hil : i < l.length := by omega
   have hx : l[i]? = some l[i] := List.getElem?_eq_getElem hil
   have hmem : l[i] ∈ l := List.getElem_mem _
   obtain ⟨x, hxx⟩ : ∃ x, l[i] = x := ⟨_, rfl⟩
   have htk : l.take (i + 1) = l.take i ++ [x] := by rw [List.take_succ_eq_append_getElem hil, hxx]
   rw [hxx] at hx hmem
   have hget : (bL l)[((i : Nat) : Int).toNat]? = some (.int .u8 x) := by rw [Int.toNat_natCast, bL_get, hx]; rfl
   have wi : IntKind.i64.wrap ((i : Int) + 1) = ((i + 1 : Nat) : Int) := by rw [wrap64 (by omega) (by omega)]; omega
   have hbd := vl_lt (l.take i) hinv
   have hp : 10 ^ (l.take i).length <= 10 ^ 4 := Nat.pow_le_pow_right (by omega) (by simp; omega)
   have hst : ¬ Dig x -> K (.ret (.tup [.int .i64 0, .bool false])) [] := fun hx2 => h1 fun hh => hx2 (hh x hmem)
   unfold Dig at hst
   refine ⟨by omega, _, hget, rfl, ?_⟩
   conv=>whnf
   (repeat' first | (refine step_go [] ?_;conv=>whnf) | (refine two ?_ ?_<;>intro g<;>(try simp only[bsx]at g)<;>(conv=>whnf)) | (refine And.intro rfl ?_;conv=>whnf) | fail)
   all_goals first
    | (refine ⟨_, Weak.refl, ?_⟩; conv=>whnf
       (repeat' first | (refine step_go [] ?_;conv=>whnf) | (refine two ?_ ?_<;>intro g<;>(try simp only[bsx]at g)<;>(conv=>whnf)) | (refine And.intro rfl ?_;conv=>whnf) | fail)
       exact hst (by omega))
    | skip
   have wn : IntKind.i64.wrap (IntKind.i64.wrap (10 * ((vl (l.take i) : Nat) : Int)) + IntKind.i64.wrap (IntKind.u8.wrap (x - 48))) = (vl (l.take (i + 1)) : Nat) := by
    rw [show IntKind.u8.wrap (x - 48) = x - 48 by rw [IntKind.wrap_u8]; omega, wrap64 (x := x - 48) (by omega) (by omega), wrap64 (x := 10 * ((vl (l.take i) : Nat) : Int)) (by omega) (by omega), wrap64 (by omega) (by omega), htk, vl_snoc]; omega
   exact ⟨S (i + 1), weak_of (by rw [wi, wn]; (repeat' first | exact VWs.nil | refine VWs.cons VW.undef ?_ | refine VWs.cons (VW.eq rfl) ?_)) (.cons (.eq rfl) .nil) rfl rfl rfl, ih (i + 1) ⟨by omega, fun y hy => by
    rw [htk] at hy
    rcases List.mem_append.1 hy with hy | hy
    · exact hinv y hy
    · rw [List.mem_singleton.1 hy]; unfold Dig; omega⟩ (by omega)⟩
 · have hil : i = l.length := by omega
   subst hil
   rw [List.take_length] at hinv
   have h0 := h0 hinv
   refine ⟨_, Weak.refl, ?_⟩; conv=>whnf
   rw [List.take_length]
   (repeat' first | (refine step_go [] ?_;conv=>whnf) | (refine two ?_ ?_<;>intro g<;>(try simp only[bsx]at g)<;>(conv=>whnf)) | (refine And.intro rfl ?_;conv=>whnf) | fail)
   exact h0
def dateF (l : List Int) : Prop := (l.length = 10 /\ l[4]? = some 45 /\ l[7]? = some 45) /\ (∀ x ∈ (l.take 4).drop 0, Dig x) /\ (∀ x ∈ (l.take 7).drop 5, Dig x) /\ ∀ x ∈ (l.take 10).drop 8, Dig x
noncomputable instance (l : List Int) : Decidable (dateF l) := Classical.propDecidable _
noncomputable def takeD (l : List Int) : Int × Int := if dateF l then numberD (vl ((l.take 4).drop 0)) (vl ((l.take 7).drop 5)) (vl ((l.take 10).drop 8)) else (0, 4)
set_option maxHeartbeats 2000000 in
theorem c_Take (s : ByteArray) (hs : s.size < 1000000) (K : Out -> List VObj -> Prop) (h : K (.ret (.tup [.int .i64 (takeD (sB s)).1, .int .i64 (takeD (sB s)).2])) []) : VCall Tryz.prog 152 [.str s] [] K := by
 have hsl := sB_len s
 have hno : ¬ dateF (sB s) -> K (.ret (.tup [.int .i64 0, .int .i64 4])) [] := fun hh => by unfold takeD at h; rw [if_neg hh] at h; exact h
 have hyes : dateF (sB s) -> K (.ret (.tup [.int .i64 (numberD (vl (((sB s).take 4).drop 0)) (vl (((sB s).take 7).drop 5)) (vl (((sB s).take 10).drop 8))).1, .int .i64 (numberD (vl (((sB s).take 4).drop 0)) (vl (((sB s).take 7).drop 5)) (vl (((sB s).take 10).drop 8))).2])) [] := fun hh => by unfold takeD at h; rw [if_pos hh] at h; exact h
 clear h
 refine call_fun [] 0 Tryz.func152 (by rfl) (by rfl) ?_
 conv=>whnf
 (repeat' first | (refine step_go [] ?_;conv=>whnf) | (refine two ?_ ?_<;>intro g<;>(try simp only[bsx]at g)<;>(conv=>whnf)) | (refine And.intro rfl ?_;conv=>whnf) | fail)
 · exact hno fun hh => by have := hh.1.1; omega
 have hsz : s.size = 10 := by omega
 have hg : ∀ i, i < 10 -> (sB s)[i]? = some ((sB s).getD i 0) := fun i hi => by rw [List.getD_eq_getElem?_getD, List.getElem?_eq_getElem (by omega)]; rfl
 have h4 := hg 4 (by omega)
 have h7 := hg 7 (by omega)
 obtain ⟨c, hc⟩ : ∃ c, (sB s).getD 4 0 = c := ⟨_, rfl⟩
 obtain ⟨e, he⟩ : ∃ e, (sB s).getD 7 0 = e := ⟨_, rfl⟩
 rw [hc] at h4
 rw [he] at h7
 refine idx_str (x := c) (by decide) h4 fun b hb => ?_
 conv=>whnf
 (repeat (refine step_go [] ?_;conv=>whnf))
 rw [hb]
 clear hb b
 (repeat' first | (refine step_go [] ?_;conv=>whnf) | (refine two ?_ ?_<;>intro g<;>(try simp only[bsx]at g)<;>(conv=>whnf)) | (refine And.intro rfl ?_;conv=>whnf) | fail)
 · exact hno fun hh => by have := hh.1.2.1; rw [h4] at this; exact g (Option.some.inj this)
 refine idx_str (x := e) (by decide) h7 fun b hb => ?_
 conv=>whnf
 (repeat (refine step_go [] ?_;conv=>whnf))
 rw [hb]
 clear hb b
 (repeat' first | (refine step_go [] ?_;conv=>whnf) | (refine two ?_ ?_<;>intro g<;>(try simp only[bsx]at g)<;>(conv=>whnf)) | (refine And.intro rfl ?_;conv=>whnf) | fail)
 · exact hno fun hh => by have := hh.1.2.2; rw [h7] at this; exact g (Option.some.inj this)
 have l1 : (((sB s).take 4).drop 0).length = 4 := by simp; omega
 have l2 : (((sB s).take 7).drop 5).length = 2 := by simp; omega
 have l3 : (((sB s).take 10).drop 8).length = 2 := by simp; omega
 refine c_digs s hs 0 4 (by omega) (by omega) (by omega) _ (fun a1 => ?_) (fun a1 => ?_)
 all_goals
  conv=>whnf
  (repeat' first | (refine step_go [] ?_;conv=>whnf) | (refine two ?_ ?_<;>intro g<;>(try simp only[bsx]at g)<;>(conv=>whnf)) | (refine And.intro rfl ?_;conv=>whnf) | fail)
  refine c_digs s hs 5 7 (by omega) (by omega) (by omega) _ (fun a2 => ?_) (fun a2 => ?_)
  all_goals
   conv=>whnf
   (repeat' first | (refine step_go [] ?_;conv=>whnf) | (refine two ?_ ?_<;>intro g<;>(try simp only[bsx]at g)<;>(conv=>whnf)) | (refine And.intro rfl ?_;conv=>whnf) | fail)
   refine c_digs s hs 8 10 (by omega) (by omega) (by omega) _ (fun a3 => ?_) (fun a3 => ?_)
   all_goals
    conv=>whnf
    (repeat' first | (refine step_go [] ?_;conv=>whnf) | (refine two ?_ ?_<;>intro g<;>(try simp only[bsx]at g)<;>(conv=>whnf)) | (refine And.intro rfl ?_;conv=>whnf) | fail)
    first
     | exact hno fun hh => a1 hh.2.1
     | exact hno fun hh => a2 hh.2.2.1
     | exact hno fun hh => a3 hh.2.2.2
     | (have b1 := vl_lt _ a1
        have b2 := vl_lt _ a2
        have b3 := vl_lt _ a3
        rw [l1] at b1
        rw [l2] at b2
        rw [l3] at b3
        refine c_cnum _ _ _ (by omega) (by omega) (by omega) _ ?_
        conv=>whnf
        (repeat' first | (refine step_go [] ?_;conv=>whnf) | (refine two ?_ ?_<;>intro g<;>(try simp only[bsx]at g)<;>(conv=>whnf)) | (refine And.intro rfl ?_;conv=>whnf) | fail)
        exact hyes ⟨⟨by omega, by rw [h4]; congr 1, by rw [h7]; congr 1⟩, a1, a2, a3⟩)
end C20

namespace C21
open Go Go.Proofs VL D1 B10 BB4 BB5 BB6 BB10 BB14 C1 C2 C6 C19 C20
end C21

namespace C4
open Go Go.Proofs VL D1 B10 B12 B13 BB4 BB5 BB6 BB9 BB10 BB14 C1 C2 C3 C6 C19 C20
inductive Res (α : Type) where
 | ok (a : α) (r : List C3.Tok)
 | err (p : Nat) (e : Int)
def Res.bind {α β : Type} (x : Res α) (f : α -> List C3.Tok -> Res β) : Res β := match x with
 | .ok a r => f a r
 | .err p e => .err p e
def nextT : List C3.Tok -> C3.Tok × List C3.Tok
 | [] => (⟨0, 0, []⟩, [])
 | t :: r => if t.kind = 0 then (t, t :: r) else (t, r)
def wantS (k : Int) (w : List Int) (l : List C3.Tok) : Res C3.Tok := if (nextT l).1.kind = k /\ (w = [] \/ (nextT l).1.text = w) then .ok (nextT l).1 (nextT l).2 else .err (nextT l).1.at_ 7
def numS (l : List Int) : Option Int := if (∀ x ∈ l, Dig x) /\ l.length <= 9 /\ (2 <= l.length -> l.head? ≠ some 48) then some (vl l) else none
def numberS (l : List C3.Tok) : Res Int := (wantS 2 [] l).bind fun t r => match numS t.text with
 | some n => .ok n r
 | none => .err t.at_ 7
def takenS (f : List Int -> Int × Int) (l : List C3.Tok) : Res Int := (wantS 2 [] l).bind fun t r => if (f t.text).2 = 0 then .ok (f t.text).1 r else .err t.at_ 7
def pickS (ws : List (List Int)) (l : List C3.Tok) : Res Int := (wantS 1 [] l).bind fun t r => if t.text ∈ ws then .ok (ws.idxOf t.text + 1 : Nat) r else .err t.at_ 7
def w_count : List Int := [99, 111, 117, 110, 116]
def w_round : List Int := [114, 111, 117, 110, 100]
def w_kind : List Int := [107, 105, 110, 100]
def w_every : List Int := [101, 118, 101, 114, 121]
def w_times : List Int := [116, 105, 109, 101, 115]
def w_grace : List Int := [103, 114, 97, 99, 101]
def w_rate : List Int := [114, 97, 116, 101]
def w_penalty : List Int := [112, 101, 110, 97, 108, 116, 121]
def w_reset : List Int := [114, 101, 115, 101, 116]
def w_late : List Int := [108, 97, 116, 101]
def w_cap : List Int := [99, 97, 112]
def w_holiday : List Int := [104, 111, 108, 105, 100, 97, 121]
def w_order : List Int := [111, 114, 100, 101, 114]
def w_over : List Int := [111, 118, 101, 114]
def w_roll : List Int := [114, 111, 108, 108]
def w_thirty : List Int := [116, 104, 105, 114, 116, 121]
def w_fixed : List Int := [102, 105, 120, 101, 100]
def w_actual : List Int := [97, 99, 116, 117, 97, 108]
def w_half_up : List Int := [104, 97, 108, 102, 45, 117, 112]
def w_down : List Int := [100, 111, 119, 110]
def w_annuity : List Int := [97, 110, 110, 117, 105, 116, 121]
def w_equal : List Int := [101, 113, 117, 97, 108]
def w_bullet : List Int := [98, 117, 108, 108, 101, 116]
def w_fees : List Int := [102, 101, 101, 115]
def w_interest : List Int := [105, 110, 116, 101, 114, 101, 115, 116]
def w_principal : List Int := [112, 114, 105, 110, 99, 105, 112, 97, 108]
def w_hold : List Int := [104, 111, 108, 100]
def w_prepay : List Int := [112, 114, 101, 112, 97, 121]
def w_refund : List Int := [114, 101, 102, 117, 110, 100]
def w_stay : List Int := [115, 116, 97, 121]
def w_next : List Int := [110, 101, 120, 116]
def w_within : List Int := [119, 105, 116, 104, 105, 110]
def w_previous : List Int := [112, 114, 101, 118, 105, 111, 117, 115]
def w_product : List Int := [112, 114, 111, 100, 117, 99, 116]
def owords : List (List Int) := [w_fees, w_penalty, w_interest, w_principal]
def orderN : Nat -> List Int -> List C3.Tok -> Res (List Int)
 | 0, acc, l => .ok acc l
 | n + 1, acc, l => (pickS owords l).bind fun k r => if k ∈ acc then .err (nextT l).1.at_ 7 else orderN n (acc ++ [k]) r
def manyW (w : List Int) : Bool := w == w_reset || w == w_late || w == w_holiday
noncomputable def clauseS (w : List Int) (p : Prod) (l : List C3.Tok) : Option (Res Prod) :=
 if w = w_count then some ((pickS [w_thirty, w_fixed, w_actual] l).bind fun k r => .ok { p with count := k } r)
 else if w = w_round then some ((pickS [w_half_up, w_down] l).bind fun k r => .ok { p with rnd := if k = 1 then 1 else 3 } r)
 else if w = w_kind then some ((pickS [w_annuity, w_equal, w_bullet] l).bind fun k r => .ok { p with kind := k } r)
 else if w = w_every then some ((numberS l).bind fun k r => .ok { p with every := k } r)
 else if w = w_times then some ((numberS l).bind fun k r => .ok { p with times := k } r)
 else if w = w_grace then some ((numberS l).bind fun k r => .ok { p with grace := k } r)
 else if w = w_rate then some ((takenS takeR l).bind fun k r => .ok { p with rate := k } r)
 else if w = w_penalty then some ((takenS takeR l).bind fun k r => .ok { p with pen := k } r)
 else if w = w_reset then some ((numberS l).bind fun k r => (takenS takeR r).bind fun v r => .ok { p with resets := p.resets ++ [⟨k, v⟩] } r)
 else if w = w_late then some ((numberS l).bind fun k r => (takenS takeM r).bind fun v r => .ok { p with late := p.late ++ [⟨k, v⟩] } r)
 else if w = w_cap then some ((takenS takeM l).bind fun k r => .ok { p with cap := k } r)
 else if w = w_holiday then some ((takenS takeD l).bind fun k r => .ok { p with hol := p.hol ++ [k] } r)
 else if w = w_order then some ((orderN 4 [] l).bind fun o r => .ok { p with o1 := o.getD 0 0, o2 := o.getD 1 0, o3 := o.getD 2 0, o4 := o.getD 3 0 } r)
 else if w = w_over then some ((pickS [w_hold, w_prepay, w_refund] l).bind fun k r => .ok { p with over := k } r)
 else if w = w_roll then some ((pickS [w_stay, w_next, w_within, w_previous] l).bind fun k r => .ok { p with roll := k } r)
 else none
noncomputable def groupS : Nat -> Nat -> List C3.Tok -> Prod -> List (List Int) -> Res (Prod × List (List Int))
 | 0, _, l, _, _ => .err (nextT l).1.at_ 0
 | f + 1, d, l, p, sn =>
   if (nextT l).1.kind = 3 /\ (nextT l).1.text = [125] then .ok (p, sn) (nextT l).2
   else if (nextT l).1.kind = 3 /\ (nextT l).1.text = [123] then
    if 32 <= d then .err (nextT l).1.at_ 8 else (groupS f (d + 1) (nextT l).2 p sn).bind fun q r => groupS f d r q.1 q.2
   else if (nextT l).1.kind ≠ 1 then .err (nextT l).1.at_ 7
   else match clauseS (nextT l).1.text p (nextT l).2 with
    | none => .err (nextT l).1.at_ 7
    | some x => if (nextT l).1.text ∈ sn /\ manyW (nextT l).1.text = false then .err (nextT l).1.at_ 7
      else x.bind fun q r => (wantS 3 [59] r).bind fun _ r => groupS f d r q ((nextT l).1.text :: sn)
def prod0 : Prod := ⟨⟨#[]⟩, 0, 0, 0, 0, 0, 0, 0, [], 0, 0, 0, 0, 0, 0, [], 0, 0, []⟩
noncomputable def textP (l : List C3.Tok) : Res (Prod × List (List Int)) :=
 (wantS 1 w_product l).bind fun _ l => (wantS 1 [] l).bind fun t l =>
   open Classical in if nameP t.text then (wantS 3 [123] l).bind fun _ l => (groupS (l.length + 1) 1 l { prod0 with name := toBA t.text, over := 1, roll := 1 } []).bind fun q l => (wantS 0 [] l).bind fun _ l => .ok q l
   else .err t.at_ 7
def wholeP (sn : List (List Int)) : Prop := w_count ∈ sn /\ w_round ∈ sn /\ w_kind ∈ sn /\ w_every ∈ sn /\ w_times ∈ sn /\ w_rate ∈ sn /\ w_order ∈ sn
noncomputable def parseS (s : List Int) : Prod × Int × Int := match lexS s with
 | .error (p, e) => (prod0, p, e)
 | .ok l => match textP l with
   | .err p e => (prod0, p, e)
   | .ok q _ => open Classical in if wholeP q.2 /\ checkP q.1 then (q.1, 0, 0) else (prod0, (nextT l).1.at_, 9)
end C4

namespace C22
open Go Go.Proofs VL D1 B10 BB6 BB10 BB14 C1 C2 C3 C4 C6 C15
structure PS where
 p : Prod
 s1 : List V
 s2 : List V
 s3 : List V
 sn : List (V × V)
def xO (a b c : Bool) (k : List C3.Tok) (i : Nat) (x : PS) : List VObj :=
 [.cells true 88 [.sl (kL k) .no, .int .i64 i, .str x.p.name, .int .i64 x.p.count, .int .i64 x.p.rnd, .int .i64 x.p.kind, .int .i64 x.p.every, .int .i64 x.p.times, .int .i64 x.p.grace, .int .i64 x.p.rate, .slo 1 2 0 x.p.resets.length (x.p.resets.length + x.s1.length), .int .i64 x.p.pen, .int .i64 x.p.o1, .int .i64 x.p.o2, .int .i64 x.p.o3, .int .i64 x.p.o4, .int .i64 x.p.over, .slo 2 2 0 x.p.late.length (x.p.late.length + x.s2.length), .int .i64 x.p.cap, .int .i64 x.p.roll, .slo 3 1 0 x.p.hol.length (x.p.hol.length + x.s3.length), .mp 4],
  .buf a 2 (rL x.p.resets ++ x.s1), .buf b 2 (tL x.p.late ++ x.s2), .buf c 1 (iL x.p.hol ++ x.s3), .map x.sn]
def endT : List C3.Tok -> Prop
 | [] => False
 | [t] => t.kind = 0
 | t :: r => t.kind ≠ 0 /\ endT r
def fltP (p e : Int) : V := .ifc 81 (.agg [.int .i64 p, .int .i64 e])
theorem c_wrong (t : C3.Tok) (K : Out -> List VObj -> Prop) (h : K (.pan (fltP t.at_ 7)) []) : VCall Tryz.prog 78 [encK t] [] K := by
 unfold encK
 refine call_fun [] 0 Tryz.func78 (by rfl) (by rfl) ?_
 conv=>whnf
 (repeat' first | (refine step_go [] ?_;conv=>whnf) | (refine two ?_ ?_<;>intro g<;>(try simp only[bsx]at g)<;>(conv=>whnf)) | (refine And.intro rfl ?_;conv=>whnf) | fail)
 exact h
theorem nextT0 {t : C3.Tok} {r : List C3.Tok} (h : t.kind = 0) : nextT (t :: r) = (t, t :: r) := by show (if t.kind = 0 then _ else _) = _; rw [if_pos h]
theorem nextT1 {t : C3.Tok} {r : List C3.Tok} (h : ¬ t.kind = 0) : nextT (t :: r) = (t, r) := by show (if t.kind = 0 then _ else _) = _; rw [if_neg h]
theorem endT_next {l : List C3.Tok} (h : endT l) : endT (nextT l).2 /\ ∃ t r, l = t :: r /\ (nextT l).1 = t /\ ((t.kind = 0 /\ (nextT l).2 = t :: r) \/ (t.kind ≠ 0 /\ (nextT l).2 = r)) := by
 cases l with
 | nil => exact h.elim
 | cons t r =>
   by_cases h0 : t.kind = 0
   · rw [nextT0 h0]
     exact ⟨h, t, r, rfl, rfl, .inl ⟨h0, rfl⟩⟩
   · rw [nextT1 h0]
     cases r with
     | nil => exact absurd h h0
     | cons u r => exact ⟨h.2, t, _, rfl, rfl, .inr ⟨h0, rfl⟩⟩
theorem toBA_eq {a b : List Int} (ha : ∀ x ∈ a, 0 <= x /\ x < 256) (hb : ∀ x ∈ b, 0 <= x /\ x < 256) : (toBA a).toList = (toBA b).toList ↔ a = b := by
 have h := str_beq (toBA a) (toBA b)
 rw [sB_toBA ha, sB_toBA hb, Bool.eq_iff_iff, beq_iff_eq, beq_iff_eq] at h
 exact h
set_option maxHeartbeats 2000000 in
theorem c_next (k : List C3.Tok) (i : Nat) (hk : endT (k.drop i)) (hl : k.length < 1000000) (x : PS) (K : Out -> List VObj -> Prop)
 (h : ∀ i', k.drop i' = (nextT (k.drop i)).2 -> K (.ret (encK (nextT (k.drop i)).1)) (xO false false false k i' x)) : VCall Tryz.prog 101 [.ptr 0 0] (xO false false false k i x) K := by
 obtain ⟨_, t, r, hd, e1, e2⟩ := endT_next hk
 rw [e1] at h
 have hil : i < k.length := by
  have := congrArg List.length hd
  rw [List.length_drop, List.length_cons] at this; omega
 have hget : (kL k)[((i : Nat) : Int).toNat]? = some (encK t) := by
  have : k[i]? = some t := by
   have := congrArg (fun l => l[0]?) hd
   simpa using this
  rw [Int.toNat_natCast]; simp [kL, this]
 have wi : IntKind.i64.wrap ((i : Int) + 1) = ((i + 1 : Nat) : Int) := by rw [wrap64 (by omega) (by omega)]; omega
 unfold xO at h ⊢
 refine call_fun [] 5 Tryz.func101 (by rfl) (by rfl) ?_
 conv=>whnf
 (repeat' first | (refine step_go [] ?_;conv=>whnf) | (refine two ?_ ?_<;>intro g<;>(try simp only[bsx]at g)<;>(conv=>whnf)) | (refine And.intro rfl ?_;conv=>whnf) | (refine dr_go (by decide +kernel) ?_;conv=>whnf) | (refine ⟨by omega, _, hget, rfl, ?_⟩;conv=>whnf) | fail)
 · rcases e2 with ⟨e2, e3⟩ | ⟨e2, e3⟩
   · exact absurd e2 g
   · rw [wi]
     exact h (i + 1) (by rw [e3, ← List.drop_drop, hd]; rfl)
 · rcases e2 with ⟨e2, e3⟩ | ⟨e2, e3⟩
   · exact h i (by rw [e3, hd])
   · exact absurd g e2
def okT (k : List C3.Tok) : Prop := k.length < 1000000 /\ ∀ t ∈ k, (∀ x ∈ t.text, 0 <= x /\ x < 256) /\ t.text.length < 1000000
theorem next_mem {k : List C3.Tok} {i : Nat} (hk : endT (k.drop i)) : (nextT (k.drop i)).1 ∈ k := by
 obtain ⟨_, t, r, hd, e1, _⟩ := endT_next hk
 rw [e1]
 exact List.mem_of_mem_drop (by rw [hd]; simp)
set_option maxHeartbeats 2000000 in
theorem c_want (k : List C3.Tok) (i : Nat) (hk : endT (k.drop i)) (hl : okT k) (x : PS) (kd : Int) (w : List Int) (hw : ∀ x ∈ w, 0 <= x /\ x < 256) (K : Out -> List VObj -> Prop)
 (h0 : ∀ t r i', wantS kd w (k.drop i) = .ok t r -> k.drop i' = r -> endT r -> t ∈ k -> K (.ret (encK t)) (xO false false false k i' x)) (h1 : ∀ p e i', wantS kd w (k.drop i) = .err p e -> K (.pan (fltP p e)) (xO false false false k i' x)) :
 VCall Tryz.prog 76 [.ptr 0 0, .int .i64 kd, .str (toBA w)] (xO false false false k i x) K := by
 have hn := endT_next hk
 have hm := next_mem hk
 obtain ⟨t, ht⟩ : ∃ t, (nextT (k.drop i)).1 = t := ⟨_, rfl⟩
 have hb := hl.2 t (by rw [← ht]; exact hm)
 have hyes : t.kind = kd /\ (w = [] \/ t.text = w) -> ∀ i', k.drop i' = (nextT (k.drop i)).2 -> K (.ret (encK t)) (xO false false false k i' x) := fun hh i' hi => h0 t _ i' (by unfold wantS; rw [ht, if_pos hh]) hi hn.1 (by rw [← ht]; exact hm)
 have hno : ¬ (t.kind = kd /\ (w = [] \/ t.text = w)) -> ∀ i', K (.pan (fltP t.at_ 7)) (xO false false false k i' x) := fun hh i' => h1 _ _ i' (by unfold wantS; rw [ht, if_neg hh])
 clear h0 h1
 have hn2 := @c_next k i hk hl.1 x
 rw [ht] at hn2
 unfold xO at hyes hno hn2 ⊢
 refine call_fun [] 5 Tryz.func76 (by rfl) (by rfl) ?_
 conv=>whnf
 have eqw : (toBA t.text).toList = (toBA w).toList ↔ t.text = w := toBA_eq hb.1 hw
 have eq0 : (toBA w).toList = (⟨#[]⟩ : ByteArray).toList ↔ w = [] := toBA_eq (b := []) hw (by simp)
 (repeat' first | (refine step_go [] ?_;conv=>whnf) | (refine two ?_ ?_<;>intro g<;>(try simp only[bsx]at g)<;>(conv=>whnf)) | (refine And.intro rfl ?_;conv=>whnf) | fail)
 refine hn2 _ fun i' hi => ?_
 conv=>whnf
 (repeat' first | (refine step_go [] ?_;conv=>whnf) | (refine two ?_ ?_<;>intro g<;>(try simp only[bsx, eqw, eq0]at g)<;>(conv=>whnf)) | (refine And.intro rfl ?_;conv=>whnf) | (refine c_wrong t _ ?_;conv=>whnf) | fail)
 · exact hno (fun hh => g hh.1) i'
 · exact hno (fun hh => by rcases hh.2 with e | e <;> contradiction) i'
 · exact hyes ⟨by assumption, .inr g⟩ i' hi
 · exact hyes ⟨by assumption, .inl g⟩ i' hi
def bytesOk (l : List (List Int)) : Prop := ∀ w ∈ l, ∀ x ∈ w, 0 <= x /\ x < 256
set_option maxHeartbeats 2000000 in
theorem c_pick (k : List C3.Tok) (i : Nat) (hk : endT (k.drop i)) (hl : okT k) (x : PS) (ws : List (List Int)) (hws : bytesOk ws) (hn : ws.length < 1000) (K : Out -> List VObj -> Prop)
 (h0 : ∀ n r i', pickS ws (k.drop i) = .ok n r -> k.drop i' = r -> endT r -> K (.ret (.int .i64 n)) (xO false false false k i' x)) (h1 : ∀ p e i', pickS ws (k.drop i) = .err p e -> K (.pan (fltP p e)) (xO false false false k i' x)) :
 VCall Tryz.prog 146 [.ptr 0 0, .sl (sL ws) .no] (xO false false false k i x) K := by
 have hw := @c_want k i hk hl x 1 [] (by simp)
 have hsl : (sL ws).length = ws.length := by simp [sL]
 unfold xO at h0 h1 hw ⊢
 refine call_fun [] 5 Tryz.func146 (by rfl) (by rfl) ?_
 conv=>whnf
 (repeat' first | (refine step_go [] ?_;conv=>whnf) | (refine two ?_ ?_<;>intro g<;>(try simp only[bsx]at g)<;>(conv=>whnf)) | (refine And.intro rfl ?_;conv=>whnf) | fail)
 refine hw _ (fun t r i' e hd he hm => ?_) (fun p e i' he => ?_)
 rotate_left
 · conv=>whnf
   (repeat' first | (refine step_go [] ?_;conv=>whnf) | (refine two ?_ ?_<;>intro g<;>(try simp only[bsx]at g)<;>(conv=>whnf)) | (refine And.intro rfl ?_;conv=>whnf) | fail)
   exact h1 p e i' (by unfold pickS; rw [he]; rfl)
 have hb := hl.2 t hm
 have hyes : t.text ∈ ws -> pickS ws (k.drop i) = .ok (ws.idxOf t.text + 1 : Nat) r := fun hh => by unfold pickS; rw [e]; show (if _ then _ else _) = _; rw [if_pos hh]
 have hno : t.text ∉ ws -> pickS ws (k.drop i) = .err t.at_ 7 := fun hh => by unfold pickS; rw [e]; show (if _ then _ else _) = _; rw [if_neg hh]
 conv=>whnf
 (repeat' first | (refine step_go [] ?_;conv=>whnf) | (refine two ?_ ?_<;>intro g<;>(try simp only[bsx]at g)<;>(conv=>whnf)) | (refine And.intro rfl ?_;conv=>whnf) | fail)
 let S : Nat -> St := fun j => ⟨(.ptr 0 0 :: .sl (sL ws) .no :: .undef :: .undef :: .int .i64 0 :: .ptr 5 0 :: .undef :: .undef :: .undef :: .undef :: .sl (sL ws) .no :: .int .i64 (ws.length : Nat) :: .int .i64 (j : Nat) :: .undef :: .undef :: .undef :: .undef :: .undef :: .undef :: .undef :: .undef :: .undef :: .undef :: .undef :: .undef :: .undef :: []), xO false false false k i' x ++ [.cells true 90 [.int .i64 t.kind, .int .i64 t.at_, .str (toBA t.text)]], 0, []⟩
 refine VLoop.enter (s' := S 0) (weak_of ?_ (.cons (.eq rfl) (.cons (.eq rfl) (.cons (.eq rfl) (.cons (.eq rfl) (.cons (.eq rfl) (.cons (.eq rfl) .nil)))))) rfl rfl rfl)
  (VLoop.indW S (fun j => ws.length - j) (fun j => j <= ws.length /\ t.text ∉ ws.take j) ?_ 0 ⟨by omega, by simp⟩)
 · repeat' first
    | exact VWs.nil
    | refine VWs.cons VW.undef ?_
    | refine VWs.cons (VW.eq rfl) ?_
    | refine VWs.cons (VW.eq (by rw [hsl])) ?_
 rintro j ⟨hj, hinv⟩ ih
 refine loop_round [] ?_; conv=>whnf
 (repeat' first | (refine step_go [] ?_;conv=>whnf) | (refine two ?_ ?_<;>intro g<;>(try simp only[bsx]at g)<;>(conv=>whnf)) | (refine And.intro rfl ?_;conv=>whnf) | fail)
 · have hjl : j < ws.length := by omega
   have hget : (sL ws)[((j : Nat) : Int).toNat]? = some (.str (toBA ws[j])) := by rw [Int.toNat_natCast]; simp [sL, List.getElem?_eq_getElem hjl]
   have hmem : ws[j] ∈ ws := List.getElem_mem _
   have hdr : ws.drop j = ws[j] :: ws.drop (j + 1) := List.drop_eq_getElem_cons hjl
   obtain ⟨w, hw2⟩ : ∃ w, ws[j] = w := ⟨_, rfl⟩
   have htk : ws.take (j + 1) = ws.take j ++ [w] := by rw [List.take_succ_eq_append_getElem hjl, hw2]
   rw [hw2] at hget hmem hdr
   have wj : IntKind.i64.wrap ((j : Int) + 1) = ((j + 1 : Nat) : Int) := by rw [wrap64 (by omega) (by omega)]; omega
   have eqw : (toBA w).toList = (toBA t.text).toList ↔ w = t.text := toBA_eq (hws w hmem) hb.1
   refine ⟨by omega, _, hget, rfl, ?_⟩
   conv=>whnf
   (repeat' first | (refine step_go [] ?_;conv=>whnf) | (refine two ?_ ?_<;>intro g<;>(try simp only[bsx, eqw]at g)<;>(conv=>whnf)) | (refine And.intro rfl ?_;conv=>whnf) | fail)
   · refine ⟨_, Weak.refl, ?_⟩; conv=>whnf
     (repeat' first | (refine step_go [] ?_;conv=>whnf) | (refine two ?_ ?_<;>intro g<;>(try simp only[bsx]at g)<;>(conv=>whnf)) | (refine And.intro rfl ?_;conv=>whnf) | fail)
     rw [wj]
     have hidx : ws.idxOf t.text = j := by
      conv => lhs; rw [← List.take_append_drop j ws, hdr, g]
      rw [List.idxOf_append, if_neg hinv, List.idxOf_cons_self, List.length_take]; omega
     have hin : t.text ∈ ws := by rw [← g]; exact hmem
     have hh := hyes hin
     rw [hidx] at hh
     exact h0 _ r i' hh hd he
   · exact ⟨S (j + 1), weak_of (by rw [wj]; (repeat' first | exact VWs.nil | refine VWs.cons VW.undef ?_ | refine VWs.cons (VW.eq rfl) ?_)) (.cons (.eq rfl) (.cons (.eq rfl) (.cons (.eq rfl) (.cons (.eq rfl) (.cons (.eq rfl) (.cons (.eq rfl) .nil)))))) rfl rfl rfl, ih (j + 1) ⟨by omega, by rw [htk]; simp only [List.mem_append, List.mem_singleton, not_or]; exact ⟨hinv, fun e => g e.symm⟩⟩ (by omega)⟩
 · have hjl : j = ws.length := by omega
   subst hjl
   rw [List.take_length] at hinv
   refine ⟨_, Weak.refl, ?_⟩; conv=>whnf
   (repeat' first | (refine step_go [] ?_;conv=>whnf) | (refine two ?_ ?_<;>intro g<;>(try simp only[bsx]at g)<;>(conv=>whnf)) | (refine And.intro rfl ?_;conv=>whnf) | (refine c_wrong t _ ?_;conv=>whnf) | fail)
   exact h1 _ _ i' (hno hinv)
end C22

namespace C23
open Go Go.Proofs VL D1 B10 B12 B13 BB6 BB10 BB14 C1 C2 C3 C4 C6 C15 C20 C22
set_option maxHeartbeats 2000000 in
theorem c_tk64 (k : List C3.Tok) (i : Nat) (hk : endT (k.drop i)) (hl : okT k) (x : PS) (f : FuncId) (sp : List Int -> Int × Int)
 (hf : ∀ (s : ByteArray) (K : Out -> List VObj -> Prop), s.size < 1000000 -> K (.ret (.tup [.int .i64 (sp (sB s)).1, .int .i64 (sp (sB s)).2])) [] -> VCall Tryz.prog f [.str s] [] K) (K : Out -> List VObj -> Prop)
 (h0 : ∀ n r i', takenS sp (k.drop i) = .ok n r -> k.drop i' = r -> endT r -> K (.ret (.int .i64 n)) (xO false false false k i' x)) (h1 : ∀ p e i', takenS sp (k.drop i) = .err p e -> K (.pan (fltP p e)) (xO false false false k i' x)) :
 VCall Tryz.prog 148 [.ptr 0 0, .fn (.func f) [] []] (xO false false false k i x) K := by
 have hw := @c_want k i hk hl x 2 [] (by simp)
 unfold xO at h0 h1 hw ⊢
 refine call_fun [] 5 Tryz.func148 (by rfl) (by rfl) ?_
 conv=>whnf
 (repeat' first | (refine step_go [] ?_;conv=>whnf) | (refine two ?_ ?_<;>intro g<;>(try simp only[bsx]at g)<;>(conv=>whnf)) | (refine And.intro rfl ?_;conv=>whnf) | fail)
 refine hw _ (fun t r i' e hd he hm => ?_) (fun p e i' he => ?_)
 rotate_left
 · conv=>whnf
   (repeat' first | (refine step_go [] ?_;conv=>whnf) | (refine two ?_ ?_<;>intro g<;>(try simp only[bsx]at g)<;>(conv=>whnf)) | (refine And.intro rfl ?_;conv=>whnf) | fail)
   exact h1 p e i' (by unfold takenS; rw [he]; rfl)
 have hb := hl.2 t hm
 have hyes : (sp t.text).2 = 0 -> takenS sp (k.drop i) = .ok (sp t.text).1 r := fun hh => by unfold takenS; rw [e]; show (if _ then _ else _) = _; rw [if_pos hh]
 have hno : ¬ (sp t.text).2 = 0 -> takenS sp (k.drop i) = .err t.at_ 7 := fun hh => by unfold takenS; rw [e]; show (if _ then _ else _) = _; rw [if_neg hh]
 conv=>whnf
 (repeat' first | (refine step_go [] ?_;conv=>whnf) | (refine two ?_ ?_<;>intro g<;>(try simp only[bsx]at g)<;>(conv=>whnf)) | (refine And.intro rfl ?_;conv=>whnf) | fail)
 refine hf (toBA t.text) _ (by rw [toBA_size]; exact hb.2) ?_
 rw [sB_toBA hb.1]
 conv=>whnf
 (repeat' first | (refine step_go [] ?_;conv=>whnf) | (refine two ?_ ?_<;>intro g<;>(try simp only[bsx]at g)<;>(conv=>whnf)) | (refine And.intro rfl ?_;conv=>whnf) | (refine c_wrong t _ ?_;conv=>whnf) | fail)
 · exact h1 _ _ i' (hno g)
 · exact h0 _ r i' (hyes g) hd he
set_option maxHeartbeats 2000000 in
theorem c_tkI (k : List C3.Tok) (i : Nat) (hk : endT (k.drop i)) (hl : okT k) (x : PS) (f : FuncId) (sp : List Int -> Int × Int)
 (hf : ∀ (s : ByteArray) (K : Out -> List VObj -> Prop), s.size < 1000000 -> K (.ret (.tup [.int .i64 (sp (sB s)).1, .int .i64 (sp (sB s)).2])) [] -> VCall Tryz.prog f [.str s] [] K) (K : Out -> List VObj -> Prop)
 (h0 : ∀ n r i', takenS sp (k.drop i) = .ok n r -> k.drop i' = r -> endT r -> K (.ret (.int .i64 n)) (xO false false false k i' x)) (h1 : ∀ p e i', takenS sp (k.drop i) = .err p e -> K (.pan (fltP p e)) (xO false false false k i' x)) :
 VCall Tryz.prog 151 [.ptr 0 0, .fn (.func f) [] []] (xO false false false k i x) K := by
 have hw := @c_want k i hk hl x 2 [] (by simp)
 unfold xO at h0 h1 hw ⊢
 refine call_fun [] 5 Tryz.func151 (by rfl) (by rfl) ?_
 conv=>whnf
 (repeat' first | (refine step_go [] ?_;conv=>whnf) | (refine two ?_ ?_<;>intro g<;>(try simp only[bsx]at g)<;>(conv=>whnf)) | (refine And.intro rfl ?_;conv=>whnf) | fail)
 refine hw _ (fun t r i' e hd he hm => ?_) (fun p e i' he => ?_)
 rotate_left
 · conv=>whnf
   (repeat' first | (refine step_go [] ?_;conv=>whnf) | (refine two ?_ ?_<;>intro g<;>(try simp only[bsx]at g)<;>(conv=>whnf)) | (refine And.intro rfl ?_;conv=>whnf) | fail)
   exact h1 p e i' (by unfold takenS; rw [he]; rfl)
 have hb := hl.2 t hm
 have hyes : (sp t.text).2 = 0 -> takenS sp (k.drop i) = .ok (sp t.text).1 r := fun hh => by unfold takenS; rw [e]; show (if _ then _ else _) = _; rw [if_pos hh]
 have hno : ¬ (sp t.text).2 = 0 -> takenS sp (k.drop i) = .err t.at_ 7 := fun hh => by unfold takenS; rw [e]; show (if _ then _ else _) = _; rw [if_neg hh]
 conv=>whnf
 (repeat' first | (refine step_go [] ?_;conv=>whnf) | (refine two ?_ ?_<;>intro g<;>(try simp only[bsx]at g)<;>(conv=>whnf)) | (refine And.intro rfl ?_;conv=>whnf) | fail)
 refine hf (toBA t.text) _ (by rw [toBA_size]; exact hb.2) ?_
 rw [sB_toBA hb.1]
 conv=>whnf
 (repeat' first | (refine step_go [] ?_;conv=>whnf) | (refine two ?_ ?_<;>intro g<;>(try simp only[bsx]at g)<;>(conv=>whnf)) | (refine And.intro rfl ?_;conv=>whnf) | (refine c_wrong t _ ?_;conv=>whnf) | fail)
 · exact h1 _ _ i' (hno g)
 · exact h0 _ r i' (hyes g) hd he
set_option maxHeartbeats 4000000 in
theorem c_number (k : List C3.Tok) (i : Nat) (hk : endT (k.drop i)) (hl : okT k) (x : PS) (K : Out -> List VObj -> Prop)
 (h0 : ∀ n r i', numberS (k.drop i) = .ok n r -> k.drop i' = r -> endT r -> K (.ret (.int .i64 n)) (xO false false false k i' x)) (h1 : ∀ p e i', numberS (k.drop i) = .err p e -> K (.pan (fltP p e)) (xO false false false k i' x)) :
 VCall Tryz.prog 147 [.ptr 0 0] (xO false false false k i x) K := by
 have hw := @c_want k i hk hl x 2 [] (by simp)
 unfold xO at h0 h1 hw ⊢
 refine call_fun [] 5 Tryz.func147 (by rfl) (by rfl) ?_
 conv=>whnf
 (repeat' first | (refine step_go [] ?_;conv=>whnf) | (refine two ?_ ?_<;>intro g<;>(try simp only[bsx]at g)<;>(conv=>whnf)) | (refine And.intro rfl ?_;conv=>whnf) | fail)
 refine hw _ (fun t r i' e hd he hm => ?_) (fun p e i' he => ?_)
 rotate_left
 · conv=>whnf
   (repeat' first | (refine step_go [] ?_;conv=>whnf) | (refine two ?_ ?_<;>intro g<;>(try simp only[bsx]at g)<;>(conv=>whnf)) | (refine And.intro rfl ?_;conv=>whnf) | fail)
   exact h1 p e i' (by unfold numberS; rw [he]; rfl)
 obtain ⟨tk, ta, l⟩ := t
 have hb : (∀ x ∈ l, 0 <= x /\ x < 256) /\ l.length < 1000000 := hl.2 _ hm
 have hsb := sB_toBA hb.1
 have hsz := toBA_size l
 have hyes : ((∀ x ∈ l, Dig x) /\ l.length <= 9 /\ (2 <= l.length -> l.head? ≠ some 48)) -> numberS (k.drop i) = .ok (vl l) r := fun hh => by unfold numberS; rw [e]; show (match numS l with | some n => _ | none => _) = _; unfold numS; rw [if_pos hh]
 have hno : ¬ ((∀ x ∈ l, Dig x) /\ l.length <= 9 /\ (2 <= l.length -> l.head? ≠ some 48)) -> numberS (k.drop i) = .err ta 7 := fun hh => by unfold numberS; rw [e]; show (match numS l with | some n => _ | none => _) = _; unfold numS; rw [if_neg hh]
 conv=>whnf
 (repeat' first | (refine step_go [] ?_;conv=>whnf) | (refine two ?_ ?_<;>intro g<;>(try simp only[bsx]at g)<;>(conv=>whnf)) | (refine And.intro rfl ?_;conv=>whnf) | fail)
 rw [bytesV_eq, hsb]
 let S : Nat -> St := fun j => ⟨(.ptr 0 0 :: .undef :: .int .i64 0 :: .ptr 5 0 :: .int .i64 (vl (l.take j) : Nat) :: .undef :: .undef :: .undef :: .undef :: .undef :: .undef :: .sl (bL l) .no :: .int .i64 (l.length : Nat) :: .int .i64 (j : Nat) :: .undef :: .undef :: .undef :: .undef :: .undef :: .undef :: .undef :: .undef :: .undef :: .undef :: .undef :: .undef :: .undef :: .undef :: .undef :: .undef :: .undef :: .undef :: .undef :: .undef :: .undef :: .undef :: .undef :: .undef :: .undef :: .undef :: .undef :: .undef :: .undef :: .undef :: .undef :: .undef :: .undef :: .undef :: .undef :: .undef :: .undef :: []), xO false false false k i' x ++ [.cells true 90 [.int .i64 tk, .int .i64 ta, .str (toBA l)]], 0, []⟩
 refine VLoop.enter (s' := S 0) (weak_of ?_ (.cons (.eq rfl) (.cons (.eq rfl) (.cons (.eq rfl) (.cons (.eq rfl) (.cons (.eq rfl) (.cons (.eq rfl) .nil)))))) rfl rfl rfl)
  (VLoop.indW S (fun j => l.length - j) (fun j => j <= l.length /\ (∀ x ∈ l.take j, Dig x) /\ (0 < j -> l.length <= 9 /\ (2 <= l.length -> l.head? ≠ some 48))) ?_ 0 ⟨by omega, by simp, fun h => absurd h (by omega)⟩)
 · repeat' first
    | exact VWs.nil
    | refine VWs.cons VW.undef ?_
    | refine VWs.cons (VW.eq rfl) ?_
    | refine VWs.cons VW.no ?_
    | refine VWs.cons (VW.eq (by rw [bL_len])) ?_
 rintro j ⟨hj, hinv, hinv2⟩ ih
 refine loop_round [] ?_; conv=>whnf
 (repeat' first | (refine step_go [] ?_;conv=>whnf) | (refine two ?_ ?_<;>intro g<;>(try simp only[bsx]at g)<;>(conv=>whnf)) | (refine And.intro rfl ?_;conv=>whnf) | fail)
 · have hjl : j < l.length := by omega
   have hx : l[j]? = some l[j] := List.getElem?_eq_getElem hjl
   have hmem : l[j] ∈ l := List.getElem_mem _
   obtain ⟨y, hxx⟩ : ∃ y, l[j] = y := ⟨_, rfl⟩
   have htk : l.take (j + 1) = l.take j ++ [y] := by rw [List.take_succ_eq_append_getElem hjl, hxx]
   rw [hxx] at hx hmem
   have hget : (bL l)[((j : Nat) : Int).toNat]? = some (.int .u8 y) := by rw [Int.toNat_natCast, bL_get, hx]; rfl
   have wj : IntKind.i64.wrap ((j : Int) + 1) = ((j + 1 : Nat) : Int) := by rw [wrap64 (by omega) (by omega)]; omega
   obtain ⟨z, hz⟩ : ∃ z, l.head? = some z := by cases l with
    | nil => simp at hjl
    | cons z _ => exact ⟨z, rfl⟩
   have hz0 : l[0]? = some z := by rw [← List.head?_eq_getElem?]; exact hz
   have hbd := vl_lt (l.take j) hinv
   have hst : ¬ (Dig y /\ l.length <= 9 /\ (2 <= l.length -> z ≠ 48)) -> numberS (k.drop i) = .err ta 7 := fun hh => hno fun ⟨a, b, c⟩ => hh ⟨a y hmem, b, fun h2 e => c h2 (by rw [hz, e])⟩
   unfold Dig at hst
   refine ⟨by omega, _, hget, rfl, ?_⟩
   conv=>whnf
   (repeat' first | (refine step_go [] ?_;conv=>whnf) | (refine two ?_ ?_<;>intro g<;>(try simp only[bsx, hsz]at g)<;>(conv=>whnf)) | (refine And.intro rfl ?_;conv=>whnf) | (refine c_wrong ⟨tk, ta, l⟩ _ ?_;conv=>whnf) | (refine idx_str (x := z) (by decide) (by rw [hsb]; exact hz0) fun b hb => ?_; (conv=>whnf); (repeat (refine step_go [] ?_;conv=>whnf)); rw [hb]; clear hb b) | fail)
   all_goals first
    | exact h1 _ _ i' (hst (by omega))
    | (have hp : 10 ^ (l.take j).length <= 10 ^ 9 := Nat.pow_le_pow_right (by omega) (by simp; omega)
       have wn : IntKind.i64.wrap (IntKind.i64.wrap (10 * ((vl (l.take j) : Nat) : Int)) + IntKind.i64.wrap (IntKind.u8.wrap (y - 48))) = (vl (l.take (j + 1)) : Nat) := by
        rw [show IntKind.u8.wrap (y - 48) = y - 48 by rw [IntKind.wrap_u8]; omega, wrap64 (x := y - 48) (by omega) (by omega), wrap64 (x := 10 * ((vl (l.take j) : Nat) : Int)) (by omega) (by omega), wrap64 (by omega) (by omega), htk, vl_snoc]; omega
       exact ⟨S (j + 1), weak_of (by rw [wj, wn]; (repeat' first | exact VWs.nil | refine VWs.cons VW.undef ?_ | refine VWs.cons (VW.eq rfl) ?_)) (.cons (.eq rfl) (.cons (.eq rfl) (.cons (.eq rfl) (.cons (.eq rfl) (.cons (.eq rfl) (.cons (.eq rfl) .nil)))))) rfl rfl rfl, ih (j + 1) ⟨by omega, fun v hv => by
        rw [htk] at hv
        rcases List.mem_append.1 hv with hv | hv
        · exact hinv v hv
        · rw [List.mem_singleton.1 hv]; unfold Dig; omega, fun _ => ⟨by omega, fun h2 => by rw [hz]; intro e; cases e; omega⟩⟩ (by omega)⟩)
 · have hjl : j = l.length := by omega
   subst hjl
   rw [List.take_length] at hinv
   refine ⟨_, Weak.refl, ?_⟩; conv=>whnf
   rw [List.take_length]
   (repeat' first | (refine step_go [] ?_;conv=>whnf) | (refine two ?_ ?_<;>intro g<;>(try simp only[bsx]at g)<;>(conv=>whnf)) | (refine And.intro rfl ?_;conv=>whnf) | fail)
   refine h0 _ r i' (hyes ⟨hinv, ?_, ?_⟩) hd he
   · rcases Nat.eq_zero_or_pos l.length with h | h
     · omega
     · exact (hinv2 h).1
   · intro h2; exact (hinv2 (by omega)).2 h2
end C23

namespace C24
open Go Go.Proofs VL D1 B10 B12 B13 BB6 BB10 BB14 C1 C2 C3 C4 C6 C15 C20 C22 C23
set_option maxHeartbeats 2000000 in
theorem c_cl_count (k : List C3.Tok) (i : Nat) (hk : endT (k.drop i)) (hl : okT k) (x : PS) (K : Out -> List VObj -> Prop)
 (h0 : ∀ n r i', pickS [w_thirty, w_fixed, w_actual] (k.drop i) = .ok n r -> k.drop i' = r -> endT r -> K (.ret (.tup [])) (xO false false false k i' { x with p := { x.p with count := n } })) (h1 : ∀ p e i', pickS [w_thirty, w_fixed, w_actual] (k.drop i) = .err p e -> K (.pan (fltP p e)) (xO false false false k i' x)) :
 VCall Tryz.prog 118 [.ptr 0 0] (xO false false false k i x) K := by
 have hw := @c_pick k i hk hl x [w_thirty, w_fixed, w_actual] (by unfold bytesOk; decide) (by decide)
 unfold xO at h0 h1 hw ⊢
 refine call_fun [] 5 Tryz.func118 (by rfl) (by rfl) ?_
 conv=>whnf
 (repeat' first | (refine step_go [] ?_;conv=>whnf) | (refine two ?_ ?_<;>intro g<;>(try simp only[bsx]at g)<;>(conv=>whnf)) | (refine And.intro rfl ?_;conv=>whnf) | fail)
 refine VCall.args (args' := [.ptr 0 0, .sl (sL [w_thirty, w_fixed, w_actual]) .no]) (.cons (.eq rfl) (.cons .no .nil)) rfl (hw _ (fun n r i' e hd he => ?_) (fun p e i' he => ?_))
 · conv=>whnf
   (repeat' first | (refine step_go [] ?_;conv=>whnf) | (refine two ?_ ?_<;>intro g<;>(try simp only[bsx]at g)<;>(conv=>whnf)) | (refine And.intro rfl ?_;conv=>whnf) | fail)
   exact h0 n r i' e hd he
 · conv=>whnf
   (repeat' first | (refine step_go [] ?_;conv=>whnf) | (refine two ?_ ?_<;>intro g<;>(try simp only[bsx]at g)<;>(conv=>whnf)) | (refine And.intro rfl ?_;conv=>whnf) | fail)
   exact h1 p e i' he
set_option maxHeartbeats 2000000 in
theorem c_cl_kind (k : List C3.Tok) (i : Nat) (hk : endT (k.drop i)) (hl : okT k) (x : PS) (K : Out -> List VObj -> Prop)
 (h0 : ∀ n r i', pickS [w_annuity, w_equal, w_bullet] (k.drop i) = .ok n r -> k.drop i' = r -> endT r -> K (.ret (.tup [])) (xO false false false k i' { x with p := { x.p with kind := n } })) (h1 : ∀ p e i', pickS [w_annuity, w_equal, w_bullet] (k.drop i) = .err p e -> K (.pan (fltP p e)) (xO false false false k i' x)) :
 VCall Tryz.prog 120 [.ptr 0 0] (xO false false false k i x) K := by
 have hw := @c_pick k i hk hl x [w_annuity, w_equal, w_bullet] (by unfold bytesOk; decide) (by decide)
 unfold xO at h0 h1 hw ⊢
 refine call_fun [] 5 Tryz.func120 (by rfl) (by rfl) ?_
 conv=>whnf
 (repeat' first | (refine step_go [] ?_;conv=>whnf) | (refine two ?_ ?_<;>intro g<;>(try simp only[bsx]at g)<;>(conv=>whnf)) | (refine And.intro rfl ?_;conv=>whnf) | fail)
 refine VCall.args (args' := [.ptr 0 0, .sl (sL [w_annuity, w_equal, w_bullet]) .no]) (.cons (.eq rfl) (.cons .no .nil)) rfl (hw _ (fun n r i' e hd he => ?_) (fun p e i' he => ?_))
 · conv=>whnf
   (repeat' first | (refine step_go [] ?_;conv=>whnf) | (refine two ?_ ?_<;>intro g<;>(try simp only[bsx]at g)<;>(conv=>whnf)) | (refine And.intro rfl ?_;conv=>whnf) | fail)
   exact h0 n r i' e hd he
 · conv=>whnf
   (repeat' first | (refine step_go [] ?_;conv=>whnf) | (refine two ?_ ?_<;>intro g<;>(try simp only[bsx]at g)<;>(conv=>whnf)) | (refine And.intro rfl ?_;conv=>whnf) | fail)
   exact h1 p e i' he
set_option maxHeartbeats 2000000 in
theorem c_cl_over (k : List C3.Tok) (i : Nat) (hk : endT (k.drop i)) (hl : okT k) (x : PS) (K : Out -> List VObj -> Prop)
 (h0 : ∀ n r i', pickS [w_hold, w_prepay, w_refund] (k.drop i) = .ok n r -> k.drop i' = r -> endT r -> K (.ret (.tup [])) (xO false false false k i' { x with p := { x.p with over := n } })) (h1 : ∀ p e i', pickS [w_hold, w_prepay, w_refund] (k.drop i) = .err p e -> K (.pan (fltP p e)) (xO false false false k i' x)) :
 VCall Tryz.prog 131 [.ptr 0 0] (xO false false false k i x) K := by
 have hw := @c_pick k i hk hl x [w_hold, w_prepay, w_refund] (by unfold bytesOk; decide) (by decide)
 unfold xO at h0 h1 hw ⊢
 refine call_fun [] 5 Tryz.func131 (by rfl) (by rfl) ?_
 conv=>whnf
 (repeat' first | (refine step_go [] ?_;conv=>whnf) | (refine two ?_ ?_<;>intro g<;>(try simp only[bsx]at g)<;>(conv=>whnf)) | (refine And.intro rfl ?_;conv=>whnf) | fail)
 refine VCall.args (args' := [.ptr 0 0, .sl (sL [w_hold, w_prepay, w_refund]) .no]) (.cons (.eq rfl) (.cons .no .nil)) rfl (hw _ (fun n r i' e hd he => ?_) (fun p e i' he => ?_))
 · conv=>whnf
   (repeat' first | (refine step_go [] ?_;conv=>whnf) | (refine two ?_ ?_<;>intro g<;>(try simp only[bsx]at g)<;>(conv=>whnf)) | (refine And.intro rfl ?_;conv=>whnf) | fail)
   exact h0 n r i' e hd he
 · conv=>whnf
   (repeat' first | (refine step_go [] ?_;conv=>whnf) | (refine two ?_ ?_<;>intro g<;>(try simp only[bsx]at g)<;>(conv=>whnf)) | (refine And.intro rfl ?_;conv=>whnf) | fail)
   exact h1 p e i' he
set_option maxHeartbeats 2000000 in
theorem c_cl_roll (k : List C3.Tok) (i : Nat) (hk : endT (k.drop i)) (hl : okT k) (x : PS) (K : Out -> List VObj -> Prop)
 (h0 : ∀ n r i', pickS [w_stay, w_next, w_within, w_previous] (k.drop i) = .ok n r -> k.drop i' = r -> endT r -> K (.ret (.tup [])) (xO false false false k i' { x with p := { x.p with roll := n } })) (h1 : ∀ p e i', pickS [w_stay, w_next, w_within, w_previous] (k.drop i) = .err p e -> K (.pan (fltP p e)) (xO false false false k i' x)) :
 VCall Tryz.prog 132 [.ptr 0 0] (xO false false false k i x) K := by
 have hw := @c_pick k i hk hl x [w_stay, w_next, w_within, w_previous] (by unfold bytesOk; decide) (by decide)
 unfold xO at h0 h1 hw ⊢
 refine call_fun [] 5 Tryz.func132 (by rfl) (by rfl) ?_
 conv=>whnf
 (repeat' first | (refine step_go [] ?_;conv=>whnf) | (refine two ?_ ?_<;>intro g<;>(try simp only[bsx]at g)<;>(conv=>whnf)) | (refine And.intro rfl ?_;conv=>whnf) | fail)
 refine VCall.args (args' := [.ptr 0 0, .sl (sL [w_stay, w_next, w_within, w_previous]) .no]) (.cons (.eq rfl) (.cons .no .nil)) rfl (hw _ (fun n r i' e hd he => ?_) (fun p e i' he => ?_))
 · conv=>whnf
   (repeat' first | (refine step_go [] ?_;conv=>whnf) | (refine two ?_ ?_<;>intro g<;>(try simp only[bsx]at g)<;>(conv=>whnf)) | (refine And.intro rfl ?_;conv=>whnf) | fail)
   exact h0 n r i' e hd he
 · conv=>whnf
   (repeat' first | (refine step_go [] ?_;conv=>whnf) | (refine two ?_ ?_<;>intro g<;>(try simp only[bsx]at g)<;>(conv=>whnf)) | (refine And.intro rfl ?_;conv=>whnf) | fail)
   exact h1 p e i' he
set_option maxHeartbeats 2000000 in
theorem c_cl_every (k : List C3.Tok) (i : Nat) (hk : endT (k.drop i)) (hl : okT k) (x : PS) (K : Out -> List VObj -> Prop)
 (h0 : ∀ n r i', numberS (k.drop i) = .ok n r -> k.drop i' = r -> endT r -> K (.ret (.tup [])) (xO false false false k i' { x with p := { x.p with every := n } })) (h1 : ∀ p e i', numberS (k.drop i) = .err p e -> K (.pan (fltP p e)) (xO false false false k i' x)) :
 VCall Tryz.prog 121 [.ptr 0 0] (xO false false false k i x) K := by
 have hw := @c_number k i hk hl x
 unfold xO at h0 h1 hw ⊢
 refine call_fun [] 5 Tryz.func121 (by rfl) (by rfl) ?_
 conv=>whnf
 (repeat' first | (refine step_go [] ?_;conv=>whnf) | (refine two ?_ ?_<;>intro g<;>(try simp only[bsx]at g)<;>(conv=>whnf)) | (refine And.intro rfl ?_;conv=>whnf) | fail)
 refine (hw _ (fun n r i' e hd he => ?_) (fun p e i' he => ?_))
 · conv=>whnf
   (repeat' first | (refine step_go [] ?_;conv=>whnf) | (refine two ?_ ?_<;>intro g<;>(try simp only[bsx]at g)<;>(conv=>whnf)) | (refine And.intro rfl ?_;conv=>whnf) | fail)
   exact h0 n r i' e hd he
 · conv=>whnf
   (repeat' first | (refine step_go [] ?_;conv=>whnf) | (refine two ?_ ?_<;>intro g<;>(try simp only[bsx]at g)<;>(conv=>whnf)) | (refine And.intro rfl ?_;conv=>whnf) | fail)
   exact h1 p e i' he
set_option maxHeartbeats 2000000 in
theorem c_cl_times (k : List C3.Tok) (i : Nat) (hk : endT (k.drop i)) (hl : okT k) (x : PS) (K : Out -> List VObj -> Prop)
 (h0 : ∀ n r i', numberS (k.drop i) = .ok n r -> k.drop i' = r -> endT r -> K (.ret (.tup [])) (xO false false false k i' { x with p := { x.p with times := n } })) (h1 : ∀ p e i', numberS (k.drop i) = .err p e -> K (.pan (fltP p e)) (xO false false false k i' x)) :
 VCall Tryz.prog 122 [.ptr 0 0] (xO false false false k i x) K := by
 have hw := @c_number k i hk hl x
 unfold xO at h0 h1 hw ⊢
 refine call_fun [] 5 Tryz.func122 (by rfl) (by rfl) ?_
 conv=>whnf
 (repeat' first | (refine step_go [] ?_;conv=>whnf) | (refine two ?_ ?_<;>intro g<;>(try simp only[bsx]at g)<;>(conv=>whnf)) | (refine And.intro rfl ?_;conv=>whnf) | fail)
 refine (hw _ (fun n r i' e hd he => ?_) (fun p e i' he => ?_))
 · conv=>whnf
   (repeat' first | (refine step_go [] ?_;conv=>whnf) | (refine two ?_ ?_<;>intro g<;>(try simp only[bsx]at g)<;>(conv=>whnf)) | (refine And.intro rfl ?_;conv=>whnf) | fail)
   exact h0 n r i' e hd he
 · conv=>whnf
   (repeat' first | (refine step_go [] ?_;conv=>whnf) | (refine two ?_ ?_<;>intro g<;>(try simp only[bsx]at g)<;>(conv=>whnf)) | (refine And.intro rfl ?_;conv=>whnf) | fail)
   exact h1 p e i' he
set_option maxHeartbeats 2000000 in
theorem c_cl_grace (k : List C3.Tok) (i : Nat) (hk : endT (k.drop i)) (hl : okT k) (x : PS) (K : Out -> List VObj -> Prop)
 (h0 : ∀ n r i', numberS (k.drop i) = .ok n r -> k.drop i' = r -> endT r -> K (.ret (.tup [])) (xO false false false k i' { x with p := { x.p with grace := n } })) (h1 : ∀ p e i', numberS (k.drop i) = .err p e -> K (.pan (fltP p e)) (xO false false false k i' x)) :
 VCall Tryz.prog 123 [.ptr 0 0] (xO false false false k i x) K := by
 have hw := @c_number k i hk hl x
 unfold xO at h0 h1 hw ⊢
 refine call_fun [] 5 Tryz.func123 (by rfl) (by rfl) ?_
 conv=>whnf
 (repeat' first | (refine step_go [] ?_;conv=>whnf) | (refine two ?_ ?_<;>intro g<;>(try simp only[bsx]at g)<;>(conv=>whnf)) | (refine And.intro rfl ?_;conv=>whnf) | fail)
 refine (hw _ (fun n r i' e hd he => ?_) (fun p e i' he => ?_))
 · conv=>whnf
   (repeat' first | (refine step_go [] ?_;conv=>whnf) | (refine two ?_ ?_<;>intro g<;>(try simp only[bsx]at g)<;>(conv=>whnf)) | (refine And.intro rfl ?_;conv=>whnf) | fail)
   exact h0 n r i' e hd he
 · conv=>whnf
   (repeat' first | (refine step_go [] ?_;conv=>whnf) | (refine two ?_ ?_<;>intro g<;>(try simp only[bsx]at g)<;>(conv=>whnf)) | (refine And.intro rfl ?_;conv=>whnf) | fail)
   exact h1 p e i' he
set_option maxHeartbeats 2000000 in
theorem c_cl_rate (k : List C3.Tok) (i : Nat) (hk : endT (k.drop i)) (hl : okT k) (x : PS) (K : Out -> List VObj -> Prop)
 (h0 : ∀ n r i', takenS takeR (k.drop i) = .ok n r -> k.drop i' = r -> endT r -> K (.ret (.tup [])) (xO false false false k i' { x with p := { x.p with rate := n } })) (h1 : ∀ p e i', takenS takeR (k.drop i) = .err p e -> K (.pan (fltP p e)) (xO false false false k i' x)) :
 VCall Tryz.prog 124 [.ptr 0 0] (xO false false false k i x) K := by
 have hw := @c_tk64 k i hk hl x 149 takeR (fun s K hs h => c_takeR s hs K h)
 unfold xO at h0 h1 hw ⊢
 refine call_fun [] 5 Tryz.func124 (by rfl) (by rfl) ?_
 conv=>whnf
 (repeat' first | (refine step_go [] ?_;conv=>whnf) | (refine two ?_ ?_<;>intro g<;>(try simp only[bsx]at g)<;>(conv=>whnf)) | (refine And.intro rfl ?_;conv=>whnf) | fail)
 refine (hw _ (fun n r i' e hd he => ?_) (fun p e i' he => ?_))
 · conv=>whnf
   (repeat' first | (refine step_go [] ?_;conv=>whnf) | (refine two ?_ ?_<;>intro g<;>(try simp only[bsx]at g)<;>(conv=>whnf)) | (refine And.intro rfl ?_;conv=>whnf) | fail)
   exact h0 n r i' e hd he
 · conv=>whnf
   (repeat' first | (refine step_go [] ?_;conv=>whnf) | (refine two ?_ ?_<;>intro g<;>(try simp only[bsx]at g)<;>(conv=>whnf)) | (refine And.intro rfl ?_;conv=>whnf) | fail)
   exact h1 p e i' he
set_option maxHeartbeats 2000000 in
theorem c_cl_pen (k : List C3.Tok) (i : Nat) (hk : endT (k.drop i)) (hl : okT k) (x : PS) (K : Out -> List VObj -> Prop)
 (h0 : ∀ n r i', takenS takeR (k.drop i) = .ok n r -> k.drop i' = r -> endT r -> K (.ret (.tup [])) (xO false false false k i' { x with p := { x.p with pen := n } })) (h1 : ∀ p e i', takenS takeR (k.drop i) = .err p e -> K (.pan (fltP p e)) (xO false false false k i' x)) :
 VCall Tryz.prog 125 [.ptr 0 0] (xO false false false k i x) K := by
 have hw := @c_tk64 k i hk hl x 149 takeR (fun s K hs h => c_takeR s hs K h)
 unfold xO at h0 h1 hw ⊢
 refine call_fun [] 5 Tryz.func125 (by rfl) (by rfl) ?_
 conv=>whnf
 (repeat' first | (refine step_go [] ?_;conv=>whnf) | (refine two ?_ ?_<;>intro g<;>(try simp only[bsx]at g)<;>(conv=>whnf)) | (refine And.intro rfl ?_;conv=>whnf) | fail)
 refine (hw _ (fun n r i' e hd he => ?_) (fun p e i' he => ?_))
 · conv=>whnf
   (repeat' first | (refine step_go [] ?_;conv=>whnf) | (refine two ?_ ?_<;>intro g<;>(try simp only[bsx]at g)<;>(conv=>whnf)) | (refine And.intro rfl ?_;conv=>whnf) | fail)
   exact h0 n r i' e hd he
 · conv=>whnf
   (repeat' first | (refine step_go [] ?_;conv=>whnf) | (refine two ?_ ?_<;>intro g<;>(try simp only[bsx]at g)<;>(conv=>whnf)) | (refine And.intro rfl ?_;conv=>whnf) | fail)
   exact h1 p e i' he
set_option maxHeartbeats 2000000 in
theorem c_cl_cap (k : List C3.Tok) (i : Nat) (hk : endT (k.drop i)) (hl : okT k) (x : PS) (K : Out -> List VObj -> Prop)
 (h0 : ∀ n r i', takenS takeM (k.drop i) = .ok n r -> k.drop i' = r -> endT r -> K (.ret (.tup [])) (xO false false false k i' { x with p := { x.p with cap := n } })) (h1 : ∀ p e i', takenS takeM (k.drop i) = .err p e -> K (.pan (fltP p e)) (xO false false false k i' x)) :
 VCall Tryz.prog 128 [.ptr 0 0] (xO false false false k i x) K := by
 have hw := @c_tk64 k i hk hl x 150 takeM (fun s K hs h => c_takeM s hs K h)
 unfold xO at h0 h1 hw ⊢
 refine call_fun [] 5 Tryz.func128 (by rfl) (by rfl) ?_
 conv=>whnf
 (repeat' first | (refine step_go [] ?_;conv=>whnf) | (refine two ?_ ?_<;>intro g<;>(try simp only[bsx]at g)<;>(conv=>whnf)) | (refine And.intro rfl ?_;conv=>whnf) | fail)
 refine (hw _ (fun n r i' e hd he => ?_) (fun p e i' he => ?_))
 · conv=>whnf
   (repeat' first | (refine step_go [] ?_;conv=>whnf) | (refine two ?_ ?_<;>intro g<;>(try simp only[bsx]at g)<;>(conv=>whnf)) | (refine And.intro rfl ?_;conv=>whnf) | fail)
   exact h0 n r i' e hd he
 · conv=>whnf
   (repeat' first | (refine step_go [] ?_;conv=>whnf) | (refine two ?_ ?_<;>intro g<;>(try simp only[bsx]at g)<;>(conv=>whnf)) | (refine And.intro rfl ?_;conv=>whnf) | fail)
   exact h1 p e i' he
end C24

namespace C25
open Go Go.Proofs VL D1 B10 B12 B13 C8 BB6 BB10 BB14 C1 C2 C3 C4 C6 C15 C20 C22 C23
theorem end_sel {m : Nat} {v : V} {ob : List VObj} (src : List Nat) {K : V -> List VObj -> Prop} (h : St.selK m src ⟨[v], ob, 0, []⟩ fun s' => ∃ v' sub', Weak m s' ⟨[v'], sub', 0, []⟩ /\ K v' sub') : ∃ v' sub', Weak m ⟨[v], ob, 0, []⟩ ⟨[v'], sub', 0, []⟩ /\ K v' sub' := by
 obtain ⟨s', hw, v', sub', hw2, hk⟩ := weak_sel h
 exact ⟨_, _, hw.trans hw2, hk⟩
theorem buf_mv {z : Nat} {l l' : List V} {ty : Option TypeId} (h : l = l') : OW (.buf false z l ty) (.buf true z l' ty) := by subst h; exact .moved
theorem pick_range {ws : List (List Int)} {l : List C3.Tok} {n : Int} {r : List C3.Tok} (h : pickS ws l = .ok n r) : 1 <= n /\ n <= ws.length := by
 unfold pickS Res.bind at h
 split at h
 · simp only at h
   split at h
   · rename_i hm
     injection h with h1 h2
     have := List.idxOf_lt_length_iff.2 hm
     omega
   · cases h
 · cases h
set_option maxHeartbeats 2000000 in
theorem c_cl_round (k : List C3.Tok) (i : Nat) (hk : endT (k.drop i)) (hl : okT k) (x : PS) (K : Out -> List VObj -> Prop)
 (h0 : ∀ n r i', pickS [w_half_up, w_down] (k.drop i) = .ok n r -> k.drop i' = r -> endT r -> K (.ret (.tup [])) (xO false false false k i' { x with p := { x.p with rnd := if n = 1 then 1 else 3 } })) (h1 : ∀ p e i', pickS [w_half_up, w_down] (k.drop i) = .err p e -> K (.pan (fltP p e)) (xO false false false k i' x)) :
 VCall Tryz.prog 119 [.ptr 0 0] (xO false false false k i x) K := by
 have hw := @c_pick k i hk hl x [w_half_up, w_down] (by unfold bytesOk; decide) (by decide)
 unfold xO at h0 h1 hw ⊢
 refine call_fun [] 5 Tryz.func119 (by rfl) (by rfl) ?_
 conv=>whnf
 (repeat' first | (refine step_go [] ?_;conv=>whnf) | (refine two ?_ ?_<;>intro g<;>(try simp only[bsx]at g)<;>(conv=>whnf)) | (refine And.intro rfl ?_;conv=>whnf) | fail)
 refine VCall.args (args' := [.ptr 0 0, .sl (sL [w_half_up, w_down]) .no]) (.cons (.eq rfl) (.cons .no .nil)) rfl (hw _ (fun n r i' e hd he => ?_) (fun p e i' he => ?_))
 · have hr := pick_range e
   have hn : n = 1 \/ n = 2 := by simp at hr; omega
   have h0 := h0 n r i' e hd he
   rcases hn with rfl | rfl
   · conv=>whnf
     (repeat' first | (refine step_go [] ?_;conv=>whnf) | (refine two ?_ ?_<;>intro g<;>(try simp only[bsx]at g)<;>(conv=>whnf)) | (refine And.intro rfl ?_;conv=>whnf) | (refine ⟨by decide, _, rfl, rfl, ?_⟩;conv=>whnf) | fail)
     exact h0
   · conv=>whnf
     (repeat' first | (refine step_go [] ?_;conv=>whnf) | (refine two ?_ ?_<;>intro g<;>(try simp only[bsx]at g)<;>(conv=>whnf)) | (refine And.intro rfl ?_;conv=>whnf) | (refine ⟨by decide, _, rfl, rfl, ?_⟩;conv=>whnf) | fail)
     exact h0
 · conv=>whnf
   (repeat' first | (refine step_go [] ?_;conv=>whnf) | (refine two ?_ ?_<;>intro g<;>(try simp only[bsx]at g)<;>(conv=>whnf)) | (refine And.intro rfl ?_;conv=>whnf) | fail)
   exact h1 p e i' he
set_option maxHeartbeats 2000000 in
theorem c_cl_reset (k : List C3.Tok) (i : Nat) (hk : endT (k.drop i)) (hl : okT k) (x : PS) (hx : x.p.resets.length < 1000000) (K : Out -> List VObj -> Prop)
 (h0 : ∀ n v r r' i' s1, numberS (k.drop i) = .ok n r -> takenS takeR r = .ok v r' -> k.drop i' = r' -> endT r' -> K (.ret (.tup [])) (xO true true true k i' { x with p := { x.p with resets := x.p.resets ++ [⟨n, v⟩] }, s1 := s1 }))
 (h1 : ∀ p e i', numberS (k.drop i) = .err p e -> K (.pan (fltP p e)) (xO false false false k i' x))
 (h2 : ∀ n r p e i', numberS (k.drop i) = .ok n r -> takenS takeR r = .err p e -> K (.pan (fltP p e)) (xO false false false k i' x)) :
 VCall Tryz.prog 126 [.ptr 0 0] (xO false false false k i x) K := by
 have hrl : (rL x.p.resets).length = x.p.resets.length := by simp [rL]
 refine VCall.weak (call_fun [] 5 Tryz.func126 (by rfl) (by rfl) ?_)
 conv=>whnf
 (repeat' first | (refine step_go [] ?_;conv=>whnf) | (refine two ?_ ?_<;>intro g<;>(try simp only[bsx]at g)<;>(conv=>whnf)) | (refine And.intro rfl ?_;conv=>whnf) | fail)
 refine c_number k i hk hl x _ (fun n r i' e hd he => ?_) (fun p e i' he => ?_)
 rotate_left
 · conv=>whnf
   (repeat' first | (refine step_go [] ?_;conv=>whnf) | (refine two ?_ ?_<;>intro g<;>(try simp only[bsx]at g)<;>(conv=>whnf)) | (refine And.intro rfl ?_;conv=>whnf) | fail)
   exact h1 p e i' he
 conv=>whnf
 (repeat' first | (refine step_go [] ?_;conv=>whnf) | (refine two ?_ ?_<;>intro g<;>(try simp only[bsx]at g)<;>(conv=>whnf)) | (refine And.intro rfl ?_;conv=>whnf) | fail)
 refine c_tk64 k i' (by rw [hd]; exact he) hl x 149 takeR (fun s K hs h => c_takeR s hs K h) _ (fun v r' i2 e2 hd2 he2 => ?_) (fun p e2 i2 he2 => ?_)
 rotate_left
 · rw [hd] at he2
   conv=>whnf
   (repeat' first | (refine step_go [] ?_;conv=>whnf) | (refine two ?_ ?_<;>intro g<;>(try simp only[bsx]at g)<;>(conv=>whnf)) | (refine And.intro rfl ?_;conv=>whnf) | fail)
   exact h2 n r p e2 i2 e he2
 rw [hd] at e2
 conv=>whnf
 (repeat' first | (refine step_go [] ?_;conv=>whnf) | (refine two ?_ ?_<;>intro g<;>(try simp only[bsx]at g)<;>(conv=>whnf)) | (refine And.intro rfl ?_;conv=>whnf) | (refine dr_go (by decide +kernel) ?_;conv=>whnf) | fail)
 refine ⟨by simp; omega, by simp [V.cells], ?_⟩
 conv=>whnf
 (repeat' first | (refine step_go [] ?_;conv=>whnf) | (refine two ?_ ?_<;>intro g<;>(try simp only[bsx]at g)<;>(conv=>whnf)) | (refine And.intro rfl ?_;conv=>whnf) | (refine dr_go (by decide +kernel) ?_;conv=>whnf) | fail)
 · have hs1 : 1 <= x.s1.length := by have := Nat.le_of_ble_eq_true g; simp at this; omega
   refine ⟨by simp [rL], ?_⟩
   conv=>whnf
   (repeat' first | (refine step_go [] ?_;conv=>whnf) | (refine two ?_ ?_<;>intro g<;>(try simp only[bsx]at g)<;>(conv=>whnf)) | (refine And.intro rfl ?_;conv=>whnf) | (refine dr_go (by decide +kernel) ?_;conv=>whnf) | fail)
   have hap := app_in encR x.p.resets ⟨n, v⟩ x.s1
   refine ⟨_, _, weak_of (.cons (.eq rfl) .nil) (.cons (.cells ?_) (.cons (buf_mv hap) (.cons .moved (.cons .moved (.cons (.eq rfl) .nil))))) rfl rfl rfl, h0 n v r r' i2 (x.s1.drop 1) e e2 hd2 he2⟩
   repeat' first
    | exact VWs.nil
    | refine VWs.cons (VW.eq rfl) ?_
    | refine VWs.cons (VW.eq (V_slo (by simp) (by simp; omega))) ?_
 · refine ⟨by simp [rL], fun sp hsp => ?_⟩
   conv=>whnf
   (repeat' first | (refine step_go [] ?_;conv=>whnf) | (refine two ?_ ?_<;>intro g<;>(try simp only[bsx]at g)<;>(conv=>whnf)) | (refine And.intro rfl ?_;conv=>whnf) | (refine dr_go (by decide +kernel) ?_;conv=>whnf) | fail)
   have hap := app_gr encR x.p.resets ⟨n, v⟩ x.s1 sp
   refine end_sel [0, 5, 2, 3, 4] ?_
   conv=>whnf
   refine ⟨_, _, weak_of (.cons (.eq rfl) .nil) (.cons (.cells ?_) (.cons (.eq (congrArg (fun l => VObj.buf true 2 l none) hap)) (.cons .moved (.cons .moved (.cons (.eq rfl) .nil))))) rfl rfl rfl, h0 n v r r' i2 sp e e2 hd2 he2⟩
   repeat' first
    | exact VWs.nil
    | refine VWs.cons (VW.eq rfl) ?_
    | refine VWs.cons (VW.eq (V_slo (by simp) (by simp))) ?_
set_option maxHeartbeats 2000000 in
theorem c_cl_late (k : List C3.Tok) (i : Nat) (hk : endT (k.drop i)) (hl : okT k) (x : PS) (hx : x.p.late.length < 1000000) (K : Out -> List VObj -> Prop)
 (h0 : ∀ n v r r' i' s2, numberS (k.drop i) = .ok n r -> takenS takeM r = .ok v r' -> k.drop i' = r' -> endT r' -> K (.ret (.tup [])) (xO true true true k i' { x with p := { x.p with late := x.p.late ++ [⟨n, v⟩] }, s2 := s2 }))
 (h1 : ∀ p e i', numberS (k.drop i) = .err p e -> K (.pan (fltP p e)) (xO false false false k i' x))
 (h2 : ∀ n r p e i', numberS (k.drop i) = .ok n r -> takenS takeM r = .err p e -> K (.pan (fltP p e)) (xO false false false k i' x)) :
 VCall Tryz.prog 127 [.ptr 0 0] (xO false false false k i x) K := by
 have hrl : (tL x.p.late).length = x.p.late.length := by simp [tL]
 refine VCall.weak (call_fun [] 5 Tryz.func127 (by rfl) (by rfl) ?_)
 conv=>whnf
 (repeat' first | (refine step_go [] ?_;conv=>whnf) | (refine two ?_ ?_<;>intro g<;>(try simp only[bsx]at g)<;>(conv=>whnf)) | (refine And.intro rfl ?_;conv=>whnf) | fail)
 refine c_number k i hk hl x _ (fun n r i' e hd he => ?_) (fun p e i' he => ?_)
 rotate_left
 · conv=>whnf
   (repeat' first | (refine step_go [] ?_;conv=>whnf) | (refine two ?_ ?_<;>intro g<;>(try simp only[bsx]at g)<;>(conv=>whnf)) | (refine And.intro rfl ?_;conv=>whnf) | fail)
   exact h1 p e i' he
 conv=>whnf
 (repeat' first | (refine step_go [] ?_;conv=>whnf) | (refine two ?_ ?_<;>intro g<;>(try simp only[bsx]at g)<;>(conv=>whnf)) | (refine And.intro rfl ?_;conv=>whnf) | fail)
 refine c_tk64 k i' (by rw [hd]; exact he) hl x 150 takeM (fun s K hs h => c_takeM s hs K h) _ (fun v r' i2 e2 hd2 he2 => ?_) (fun p e2 i2 he2 => ?_)
 rotate_left
 · rw [hd] at he2
   conv=>whnf
   (repeat' first | (refine step_go [] ?_;conv=>whnf) | (refine two ?_ ?_<;>intro g<;>(try simp only[bsx]at g)<;>(conv=>whnf)) | (refine And.intro rfl ?_;conv=>whnf) | fail)
   exact h2 n r p e2 i2 e he2
 rw [hd] at e2
 conv=>whnf
 (repeat' first | (refine step_go [] ?_;conv=>whnf) | (refine two ?_ ?_<;>intro g<;>(try simp only[bsx]at g)<;>(conv=>whnf)) | (refine And.intro rfl ?_;conv=>whnf) | (refine dr_go (by decide +kernel) ?_;conv=>whnf) | fail)
 refine ⟨by simp; omega, by simp [V.cells], ?_⟩
 conv=>whnf
 (repeat' first | (refine step_go [] ?_;conv=>whnf) | (refine two ?_ ?_<;>intro g<;>(try simp only[bsx]at g)<;>(conv=>whnf)) | (refine And.intro rfl ?_;conv=>whnf) | (refine dr_go (by decide +kernel) ?_;conv=>whnf) | fail)
 · have hs1 : 1 <= x.s2.length := by have := Nat.le_of_ble_eq_true g; simp at this; omega
   refine ⟨by simp [tL], ?_⟩
   conv=>whnf
   (repeat' first | (refine step_go [] ?_;conv=>whnf) | (refine two ?_ ?_<;>intro g<;>(try simp only[bsx]at g)<;>(conv=>whnf)) | (refine And.intro rfl ?_;conv=>whnf) | (refine dr_go (by decide +kernel) ?_;conv=>whnf) | fail)
   have hap := app_in encT x.p.late ⟨n, v⟩ x.s2
   refine ⟨_, _, weak_of (.cons (.eq rfl) .nil) (.cons (.cells ?_) (.cons .moved (.cons (buf_mv hap) (.cons .moved (.cons (.eq rfl) .nil))))) rfl rfl rfl, h0 n v r r' i2 (x.s2.drop 1) e e2 hd2 he2⟩
   repeat' first
    | exact VWs.nil
    | refine VWs.cons (VW.eq rfl) ?_
    | refine VWs.cons (VW.eq (V_slo (by simp) (by simp; omega))) ?_
 · refine ⟨by simp [tL], fun sp hsp => ?_⟩
   conv=>whnf
   (repeat' first | (refine step_go [] ?_;conv=>whnf) | (refine two ?_ ?_<;>intro g<;>(try simp only[bsx]at g)<;>(conv=>whnf)) | (refine And.intro rfl ?_;conv=>whnf) | (refine dr_go (by decide +kernel) ?_;conv=>whnf) | fail)
   have hap := app_gr encT x.p.late ⟨n, v⟩ x.s2 sp
   refine end_sel [0, 1, 5, 3, 4] ?_
   conv=>whnf
   refine ⟨_, _, weak_of (.cons (.eq rfl) .nil) (.cons (.cells ?_) (.cons .moved (.cons (.eq (congrArg (fun l => VObj.buf true 2 l none) hap)) (.cons .moved (.cons (.eq rfl) .nil))))) rfl rfl rfl, h0 n v r r' i2 sp e e2 hd2 he2⟩
   repeat' first
    | exact VWs.nil
    | refine VWs.cons (VW.eq rfl) ?_
    | refine VWs.cons (VW.eq (V_slo (by simp) (by simp))) ?_
set_option maxHeartbeats 2000000 in
theorem c_cl_hol (k : List C3.Tok) (i : Nat) (hk : endT (k.drop i)) (hl : okT k) (x : PS) (hx : x.p.hol.length < 1000000) (K : Out -> List VObj -> Prop)
 (h0 : ∀ v r' i' s3, takenS takeD (k.drop i) = .ok v r' -> k.drop i' = r' -> endT r' -> K (.ret (.tup [])) (xO true true true k i' { x with p := { x.p with hol := x.p.hol ++ [v] }, s3 := s3 }))
 (h1 : ∀ p e i', takenS takeD (k.drop i) = .err p e -> K (.pan (fltP p e)) (xO false false false k i' x)) :
 VCall Tryz.prog 129 [.ptr 0 0] (xO false false false k i x) K := by
 have hrl : (iL x.p.hol).length = x.p.hol.length := by simp [iL]
 refine VCall.weak (call_fun [] 5 Tryz.func129 (by rfl) (by rfl) ?_)
 conv=>whnf
 (repeat' first | (refine step_go [] ?_;conv=>whnf) | (refine two ?_ ?_<;>intro g<;>(try simp only[bsx]at g)<;>(conv=>whnf)) | (refine And.intro rfl ?_;conv=>whnf) | (refine dr_go (by decide +kernel) ?_;conv=>whnf) | fail)
 refine c_tkI k i hk hl x 152 takeD (fun s K hs h => c_Take s hs K h) _ (fun v r' i2 e2 hd2 he2 => ?_) (fun p e2 i2 he2 => ?_)
 rotate_left
 · conv=>whnf
   (repeat' first | (refine step_go [] ?_;conv=>whnf) | (refine two ?_ ?_<;>intro g<;>(try simp only[bsx]at g)<;>(conv=>whnf)) | (refine And.intro rfl ?_;conv=>whnf) | fail)
   exact h1 p e2 i2 he2
 conv=>whnf
 (repeat' first | (refine step_go [] ?_;conv=>whnf) | (refine two ?_ ?_<;>intro g<;>(try simp only[bsx]at g)<;>(conv=>whnf)) | (refine And.intro rfl ?_;conv=>whnf) | (refine dr_go (by decide +kernel) ?_;conv=>whnf) | fail)
 refine ⟨by simp; omega, by simp [V.cells], ?_⟩
 conv=>whnf
 (repeat' first | (refine step_go [] ?_;conv=>whnf) | (refine two ?_ ?_<;>intro g<;>(try simp only[bsx]at g)<;>(conv=>whnf)) | (refine And.intro rfl ?_;conv=>whnf) | (refine dr_go (by decide +kernel) ?_;conv=>whnf) | fail)
 · have hs1 : 1 <= x.s3.length := by have := Nat.le_of_ble_eq_true g; simp at this; omega
   refine ⟨by simp [iL], ?_⟩
   conv=>whnf
   (repeat' first | (refine step_go [] ?_;conv=>whnf) | (refine two ?_ ?_<;>intro g<;>(try simp only[bsx]at g)<;>(conv=>whnf)) | (refine And.intro rfl ?_;conv=>whnf) | (refine dr_go (by decide +kernel) ?_;conv=>whnf) | fail)
   have hap := app_in (V.int .i64) x.p.hol v x.s3
   refine ⟨_, _, weak_of (.cons (.eq rfl) .nil) (.cons (.cells ?_) (.cons .moved (.cons .moved (.cons (buf_mv hap) (.cons (.eq rfl) .nil))))) rfl rfl rfl, h0 v r' i2 (x.s3.drop 1) e2 hd2 he2⟩
   repeat' first
    | exact VWs.nil
    | refine VWs.cons (VW.eq rfl) ?_
    | refine VWs.cons (VW.eq (V_slo (by simp) (by simp; omega))) ?_
 · refine ⟨by simp [iL], fun sp hsp => ?_⟩
   conv=>whnf
   (repeat' first | (refine step_go [] ?_;conv=>whnf) | (refine two ?_ ?_<;>intro g<;>(try simp only[bsx]at g)<;>(conv=>whnf)) | (refine And.intro rfl ?_;conv=>whnf) | (refine dr_go (by decide +kernel) ?_;conv=>whnf) | fail)
   have hap := app_gr (V.int .i64) x.p.hol v x.s3 sp
   refine end_sel [0, 1, 2, 5, 4] ?_
   conv=>whnf
   refine ⟨_, _, weak_of (.cons (.eq rfl) .nil) (.cons (.cells ?_) (.cons .moved (.cons .moved (.cons (.eq (congrArg (fun l => VObj.buf true 1 l none) hap)) (.cons (.eq rfl) .nil))))) rfl rfl rfl, h0 v r' i2 sp e2 hd2 he2⟩
   repeat' first
    | exact VWs.nil
    | refine VWs.cons (VW.eq rfl) ?_
    | refine VWs.cons (VW.eq (V_slo (by simp) (by simp))) ?_
end C25

namespace C26
open Go Go.Proofs VL D1 B10 B12 B13 C8 BB6 BB10 BB14 C1 C2 C3 C4 C6 C15 C20 C22 C23 C25
def ordP (p : Prod) (a : List Int) : Prod := { p with o1 := a.getD 0 p.o1, o2 := a.getD 1 p.o2, o3 := a.getD 2 p.o3, o4 := a.getD 3 p.o4 }
theorem orderN_len : ∀ (n : Nat) (a : List Int) (l : List C3.Tok) (o : List Int) (r : List C3.Tok), orderN n a l = .ok o r -> o.length = a.length + n
 | 0, a, l, o, r, h => by
   unfold orderN at h
   injection h with h1 h2
   rw [← h1]; rfl
 | n + 1, a, l, o, r, h => by
   unfold orderN Res.bind at h
   split at h
   · simp only at h
     split at h
     · cases h
     · have := orderN_len n _ _ _ _ h
       rw [List.length_append] at this
       simp at this
       omega
   · cases h
theorem orderN_step {n : Nat} {a : List Int} {l : List C3.Tok} : orderN (n + 1) a l = (pickS owords l).bind fun k r => if k ∈ a then .err (nextT l).1.at_ 7 else orderN n (a ++ [k]) r := rfl
set_option maxHeartbeats 4000000 in
theorem c_cl_order (k : List C3.Tok) (i : Nat) (hk : endT (k.drop i)) (hl : okT k) (x : PS) (K : Out -> List VObj -> Prop)
 (h0 : ∀ o r i', orderN 4 [] (k.drop i) = .ok o r -> k.drop i' = r -> endT r -> K (.ret (.tup [])) (xO false false false k i' { x with p := ordP x.p o })) (h1 : ∀ p e i' x', orderN 4 [] (k.drop i) = .err p e -> K (.pan (fltP p e)) (xO false false false k i' { x with p := x' })) :
 VCall Tryz.prog 130 [.ptr 0 0] (xO false false false k i x) K := by
 have hp := fun i hk x => @c_pick k i hk hl x owords (by unfold bytesOk; decide) (by decide)
 let S : Nat × List Int × Nat -> St := fun q => ⟨(.ptr 0 0 :: .undef :: .ptr 5 0 :: .undef :: .undef :: .undef :: .int .i64 (q.1 : Nat) :: .undef :: .undef :: .undef :: .undef :: .undef :: .undef :: .undef :: .undef :: .undef :: .undef :: .undef :: .undef :: .undef :: .undef :: .undef :: .undef :: .undef :: .undef :: .undef :: .undef :: .undef :: .undef :: .undef :: .undef :: .undef :: .undef :: .undef :: .undef :: .undef :: .undef :: []), xO false false false k q.2.2 { x with p := ordP x.p q.2.1 } ++ [.cells true 127 [.bool false, .bool (decide (1 ∈ q.2.1)), .bool (decide (2 ∈ q.2.1)), .bool (decide (3 ∈ q.2.1)), .bool (decide (4 ∈ q.2.1))]], 0, []⟩
 unfold xO
 refine call_fun [] 5 Tryz.func130 (by rfl) (by rfl) ?_
 conv=>whnf
 (repeat' first | (refine step_go [] ?_;conv=>whnf) | (refine two ?_ ?_<;>intro g<;>(try simp only[bsx]at g)<;>(conv=>whnf)) | (refine And.intro rfl ?_;conv=>whnf) | fail)
 refine VLoop.enter (s' := S (0, [], i)) (weak_of ?_ (.cons (.eq rfl) (.cons (.eq rfl) (.cons (.eq rfl) (.cons (.eq rfl) (.cons (.eq rfl) (.cons (.eq rfl) .nil)))))) rfl rfl rfl)
  (VLoop.indW S (fun q => 4 - q.1) (fun q => q.1 <= 4 /\ q.2.1.length = q.1 /\ endT (k.drop q.2.2) /\ orderN 4 [] (k.drop i) = orderN (4 - q.1) q.2.1 (k.drop q.2.2)) ?_ (0, [], i) ⟨by omega, rfl, hk, rfl⟩)
 · (repeat' first | exact VWs.nil | refine VWs.cons VW.undef ?_ | refine VWs.cons (VW.eq rfl) ?_ | refine VWs.cons (VW.eq (congrArg (V.int .i64) (by (try simp only); rw [wrap64 (by omega) (by omega)]; (try omega)))) ?_)
 rintro ⟨j, acc, i1⟩ ⟨hj, ha, hk1, he⟩ ih
 simp only at hj ha hk1 he
 have hn := endT_next hk1
 obtain ⟨_, t, r, hd, e1, e2⟩ := hn
 have hil : i1 < k.length := by
  have := congrArg List.length hd
  rw [List.length_drop, List.length_cons] at this; omega
 have hget : (kL k)[((i1 : Nat) : Int).toNat]? = some (encK t) := by
  have : k[i1]? = some t := by
   have := congrArg (fun l => l[0]?) hd
   simpa using this
  rw [Int.toNat_natCast]; simp [kL, this]
 have hbig := hl.1
 have hkl : (kL k).length = k.length := by simp [kL]
 have hj : j = 4 \/ j = 0 \/ j = 1 \/ j = 2 \/ j = 3 := by omega
 have hout : ∀ n r2, pickS owords (k.drop i1) = .ok n r2 -> n = 1 \/ n = 2 \/ n = 3 \/ n = 4 := fun n r2 e => by
  have := pick_range e
  simp [owords] at this
  omega
 have hs : j < 4 -> orderN 4 [] (k.drop i) = orderN (4 - (j + 1) + 1) acc (k.drop i1) := fun h => by rw [he]; congr 1; omega
 have hb : j < 4 -> ∀ n r2, pickS owords (k.drop i1) = .ok n r2 -> orderN 4 [] (k.drop i) = if n ∈ acc then .err t.at_ 7 else orderN (4 - (j + 1)) (acc ++ [n]) r2 := fun h n r2 e => by rw [hs h, orderN_step, e, e1]; rfl
 have hbe : j < 4 -> ∀ p e2, pickS owords (k.drop i1) = .err p e2 -> orderN 4 [] (k.drop i) = .err p e2 := fun h p e2 e => by rw [hs h, orderN_step, e]; rfl
 clear hs
 obtain ⟨j1, hj1⟩ : ∃ j1, j1 = j + 1 := ⟨_, rfl⟩
 rcases hj with rfl | rfl | rfl | rfl | rfl
 · refine loop_round [] ?_; conv=>whnf
   (repeat' first | (refine step_go [] ?_;conv=>whnf) | (refine two ?_ ?_<;>intro g<;>(try simp only[bsx]at g)<;>(conv=>whnf)) | (refine And.intro rfl ?_;conv=>whnf) | fail)
   refine ⟨_, Weak.refl, ?_⟩; conv=>whnf
   (repeat' first | (refine step_go [] ?_;conv=>whnf) | (refine two ?_ ?_<;>intro g<;>(try simp only[bsx]at g)<;>(conv=>whnf)) | (refine And.intro rfl ?_;conv=>whnf) | fail)
   exact h0 acc _ i1 he rfl hk1
 all_goals
  dsimp only [S]
  refine loop_round [] ?_; conv=>whnf
  (repeat' first | (refine step_go [] ?_;conv=>whnf) | (refine two ?_ ?_<;>intro g<;>(try simp only[bsx]at g)<;>(conv=>whnf)) | (refine And.intro rfl ?_;conv=>whnf) | fail)
  refine VCall.args (args' := [.ptr 0 0, .sl (sL owords) .no]) (.cons (.eq rfl) (.cons .no .nil)) rfl (hp i1 hk1 _ _ (fun n r2 i2 e hd2 he2 => ?_) (fun p e i2 hee => ?_))
  rotate_left
  · conv=>whnf
    (repeat' first | (refine step_go [] ?_;conv=>whnf) | (refine two ?_ ?_<;>intro g<;>(try simp only[bsx]at g)<;>(conv=>whnf)) | (refine And.intro rfl ?_;conv=>whnf) | fail)
    exact h1 _ _ _ _ (hbe (by decide) _ _ hee)
  have hb := hb (by decide) n r2 e
  clear hbe
  obtain ⟨n1, hn1⟩ : ∃ n1, n1 = n := ⟨_, rfl⟩
  rcases hout n r2 e with rfl | rfl | rfl | rfl
  all_goals
   conv=>whnf
   (repeat' first | (refine step_go [] ?_;conv=>whnf) | (refine two ?_ ?_<;>intro g<;>(try simp only[bsx]at g)<;>(conv=>whnf)) | (refine And.intro rfl ?_;conv=>whnf) | (refine ⟨by decide, _, rfl, rfl, ?_⟩;conv=>whnf) | (refine ⟨by omega, _, hget, rfl, ?_⟩;conv=>whnf) | (refine c_wrong t _ ?_;conv=>whnf) | (refine ⟨by decide, by decide, ?_⟩;conv=>whnf) | fail)
   · rename_i g
     exact h1 _ _ i2 (ordP x.p acc) (by rw [hb, if_pos g])
   · rename_i g
     rw [if_neg g] at hb
     have hinv : j1 <= 4 /\ (acc ++ [n1]).length = j1 /\ endT (k.drop i2) /\ orderN 4 [] (k.drop i) = orderN (4 - j1) (acc ++ [n1]) (k.drop i2) := ⟨by omega, by rw [List.length_append, ha, hj1]; rfl, by rw [hd2]; exact he2, by rw [hd2, hj1, hn1]; exact hb⟩
     refine ⟨S (j1, acc ++ [n1], i2), weak_of ?_ (.cons (.cells ?_) (.cons (.eq rfl) (.cons (.eq rfl) (.cons (.eq rfl) (.cons (.eq rfl) (.cons (.cells ?_) .nil)))))) rfl rfl rfl, ih (j1, acc ++ [n1], i2) hinv (by show 4 - j1 < _; omega)⟩
     all_goals
      subst hj1 hn1
      rcases acc with _ | ⟨a1, _ | ⟨a2, _ | ⟨a3, _ | ⟨a4, acc⟩⟩⟩⟩
      all_goals first
       | (exfalso; revert ha; simp; done)
       | skip
      (repeat' first | exact VWs.nil | refine VWs.cons VW.undef ?_ | refine VWs.cons (VW.eq rfl) ?_ | (refine VWs.cons (VW.eq (congrArg V.bool ?_)) ?_; exact (by simp)) | refine VWs.cons (VW.eq (congrArg (V.int .i64) (wrap64 (by omega) (by omega)))) ?_)
end C26

namespace C27
open Go Go.Proofs VL D1 B10 B12 B13 C8 BB6 BB10 BB14 C1 C2 C3 C4 C6 C15 C20 C22 C23 C25
set_option maxHeartbeats 4000000 in
theorem c_clause (w : List Int) (hw : ∀ x ∈ w, 0 <= x /\ x < 256) (k : List C3.Tok) (i : Nat) (x : PS) (K : Out -> List VObj -> Prop)
 (h_count : w = w_count -> K (.ret (.tup [.fn (.func 118) [.ptr 0 0] [], .bool false]))  (xO false false false k i x))
 (h_round : w = w_round -> K (.ret (.tup [.fn (.func 119) [.ptr 0 0] [], .bool false]))  (xO false false false k i x))
 (h_kind : w = w_kind -> K (.ret (.tup [.fn (.func 120) [.ptr 0 0] [], .bool false]))  (xO false false false k i x))
 (h_every : w = w_every -> K (.ret (.tup [.fn (.func 121) [.ptr 0 0] [], .bool false]))  (xO false false false k i x))
 (h_times : w = w_times -> K (.ret (.tup [.fn (.func 122) [.ptr 0 0] [], .bool false]))  (xO false false false k i x))
 (h_grace : w = w_grace -> K (.ret (.tup [.fn (.func 123) [.ptr 0 0] [], .bool false]))  (xO false false false k i x))
 (h_rate : w = w_rate -> K (.ret (.tup [.fn (.func 124) [.ptr 0 0] [], .bool false]))  (xO false false false k i x))
 (h_penalty : w = w_penalty -> K (.ret (.tup [.fn (.func 125) [.ptr 0 0] [], .bool false]))  (xO false false false k i x))
 (h_reset : w = w_reset -> K (.ret (.tup [.fn (.func 126) [.ptr 0 0] [], .bool true]))  (xO false false false k i x))
 (h_late : w = w_late -> K (.ret (.tup [.fn (.func 127) [.ptr 0 0] [], .bool true]))  (xO false false false k i x))
 (h_cap : w = w_cap -> K (.ret (.tup [.fn (.func 128) [.ptr 0 0] [], .bool false]))  (xO false false false k i x))
 (h_holiday : w = w_holiday -> K (.ret (.tup [.fn (.func 129) [.ptr 0 0] [], .bool true]))  (xO false false false k i x))
 (h_order : w = w_order -> K (.ret (.tup [.fn (.func 130) [.ptr 0 0] [], .bool false]))  (xO false false false k i x))
 (h_over : w = w_over -> K (.ret (.tup [.fn (.func 131) [.ptr 0 0] [], .bool false]))  (xO false false false k i x))
 (h_roll : w = w_roll -> K (.ret (.tup [.fn (.func 132) [.ptr 0 0] [], .bool false]))  (xO false false false k i x))
 (h_none : w ≠ w_count -> w ≠ w_round -> w ≠ w_kind -> w ≠ w_every -> w ≠ w_times -> w ≠ w_grace -> w ≠ w_rate -> w ≠ w_penalty -> w ≠ w_reset -> w ≠ w_late -> w ≠ w_cap -> w ≠ w_holiday -> w ≠ w_order -> w ≠ w_over -> w ≠ w_roll -> K (.ret (.tup [.niln, .bool false]))  (xO false false false k i x)) :
 VCall Tryz.prog 103 [.ptr 0 0, .str (toBA w)] (xO false false false k i x) K := by
 have e_count : (toBA w).toList = (⟨#[99, 111, 117, 110, 116]⟩ : ByteArray).toList ↔ w = w_count := toBA_eq hw (b := w_count) (by decide)
 have e_round : (toBA w).toList = (⟨#[114, 111, 117, 110, 100]⟩ : ByteArray).toList ↔ w = w_round := toBA_eq hw (b := w_round) (by decide)
 have e_kind : (toBA w).toList = (⟨#[107, 105, 110, 100]⟩ : ByteArray).toList ↔ w = w_kind := toBA_eq hw (b := w_kind) (by decide)
 have e_every : (toBA w).toList = (⟨#[101, 118, 101, 114, 121]⟩ : ByteArray).toList ↔ w = w_every := toBA_eq hw (b := w_every) (by decide)
 have e_times : (toBA w).toList = (⟨#[116, 105, 109, 101, 115]⟩ : ByteArray).toList ↔ w = w_times := toBA_eq hw (b := w_times) (by decide)
 have e_grace : (toBA w).toList = (⟨#[103, 114, 97, 99, 101]⟩ : ByteArray).toList ↔ w = w_grace := toBA_eq hw (b := w_grace) (by decide)
 have e_rate : (toBA w).toList = (⟨#[114, 97, 116, 101]⟩ : ByteArray).toList ↔ w = w_rate := toBA_eq hw (b := w_rate) (by decide)
 have e_penalty : (toBA w).toList = (⟨#[112, 101, 110, 97, 108, 116, 121]⟩ : ByteArray).toList ↔ w = w_penalty := toBA_eq hw (b := w_penalty) (by decide)
 have e_reset : (toBA w).toList = (⟨#[114, 101, 115, 101, 116]⟩ : ByteArray).toList ↔ w = w_reset := toBA_eq hw (b := w_reset) (by decide)
 have e_late : (toBA w).toList = (⟨#[108, 97, 116, 101]⟩ : ByteArray).toList ↔ w = w_late := toBA_eq hw (b := w_late) (by decide)
 have e_cap : (toBA w).toList = (⟨#[99, 97, 112]⟩ : ByteArray).toList ↔ w = w_cap := toBA_eq hw (b := w_cap) (by decide)
 have e_holiday : (toBA w).toList = (⟨#[104, 111, 108, 105, 100, 97, 121]⟩ : ByteArray).toList ↔ w = w_holiday := toBA_eq hw (b := w_holiday) (by decide)
 have e_order : (toBA w).toList = (⟨#[111, 114, 100, 101, 114]⟩ : ByteArray).toList ↔ w = w_order := toBA_eq hw (b := w_order) (by decide)
 have e_over : (toBA w).toList = (⟨#[111, 118, 101, 114]⟩ : ByteArray).toList ↔ w = w_over := toBA_eq hw (b := w_over) (by decide)
 have e_roll : (toBA w).toList = (⟨#[114, 111, 108, 108]⟩ : ByteArray).toList ↔ w = w_roll := toBA_eq hw (b := w_roll) (by decide)
 unfold xO at *
 refine call_fun [] 5 Tryz.func103 (by rfl) (by rfl) ?_
 conv=>whnf
 (repeat' first | (refine step_go [] ?_;conv=>whnf) | (refine two ?_ ?_<;>intro g<;>(try simp only[bsx, e_count, e_round, e_kind, e_every, e_times, e_grace, e_rate, e_penalty, e_reset, e_late, e_cap, e_holiday, e_order, e_over, e_roll]at g)<;>(conv=>whnf)) | (refine And.intro rfl ?_;conv=>whnf) | fail)
 · exact h_count (by assumption)
 · exact h_round (by assumption)
 · exact h_kind (by assumption)
 · exact h_every (by assumption)
 · exact h_times (by assumption)
 · exact h_grace (by assumption)
 · exact h_rate (by assumption)
 · exact h_penalty (by assumption)
 · exact h_reset (by assumption)
 · exact h_late (by assumption)
 · exact h_cap (by assumption)
 · exact h_holiday (by assumption)
 · exact h_order (by assumption)
 · exact h_over (by assumption)
 · exact h_roll (by assumption)
 · apply h_none <;> assumption
end C27

namespace C28
open Go Go.Proofs VL D1 B10 C1 C2 C3 C4 C6 C22
def mapW (l : List (List Int)) : List (V × V) := l.map fun w => (.str (toBA w), .bool true)
def Byt (w : List Int) : Prop := ∀ x ∈ w, 0 <= x /\ x < 256
def SnR (e : List (V × V)) (sn : List (List Int)) : Prop := ∃ l, e = mapW l /\ (∀ w, w ∈ l ↔ w ∈ sn) /\ ∀ w ∈ l, Byt w
theorem SnR_nil : SnR [] [] := ⟨[], rfl, fun _ => Iff.rfl, by simp⟩
theorem keyW {a b : List Int} (ha : Byt a) (hb : Byt b) : keyB (.str (toBA a)) (.str (toBA b)) = decide (a = b) := by
 show ((toBA a) == (toBA b)) = _
 have h := toBA_eq ha hb
 have e1 : (toBA a == toBA b) = ((toBA a).data == (toBA b).data) := rfl
 rw [e1, Bool.eq_iff_iff, decide_eq_true_iff, beq_iff_eq, ← h]
 exact ⟨fun h2 => by rw [ByteArray.ext h2], fun h2 => by rw [h.1 h2]⟩
theorem mapW_find {l : List (List Int)} {w : List Int} (hl : ∀ w ∈ l, Byt w) (hw : Byt w) : (mapW l).find? (fun e => keyB (.str (toBA w)) e.1) = if w ∈ l then some (.str (toBA w), .bool true) else none := by
 induction l with
 | nil => rfl
 | cons a l ih =>
   have iha := ih fun w h => hl w (.tail _ h)
   simp only [mapW, List.map_cons, List.find?_cons]
   rw [keyW hw (hl a (.head _))]
   by_cases e : w = a
   · subst e; simp
   · simp only [e, decide_false, List.mem_cons, false_or]
     exact iha
theorem mapW_upd {l : List (List Int)} {w : List Int} (hl : ∀ w ∈ l, Byt w) (hw : Byt w) : updV (.str (toBA w)) (.bool true) (mapW l) = mapW (if w ∈ l then l else l ++ [w]) := by
 induction l with
 | nil => rfl
 | cons a l ih =>
   have iha := ih fun w h => hl w (.tail _ h)
   simp only [mapW, List.map_cons] at iha ⊢
   unfold updV
   simp only
   rw [keyW hw (hl a (.head _))]
   by_cases e : w = a
   · subst e; simp
   · simp only [e, decide_false, Bool.false_eq_true, if_false, List.mem_cons, false_or]
     rw [iha]
     split <;> simp
theorem SnR_upd {e : List (V × V)} {sn : List (List Int)} {w : List Int} (h : SnR e sn) (hw : Byt w) : SnR (updV (.str (toBA w)) (.bool true) e) (w :: sn) := by
 obtain ⟨l, rfl, h1, h2⟩ := h
 refine ⟨_, mapW_upd h2 hw, fun u => ?_, fun u hu => ?_⟩
 · split
   · rw [h1, List.mem_cons]
     constructor
     · exact .inr
     · rintro (rfl | h)
       · exact (h1 _).1 (by assumption)
       · exact h
   · simp [h1, or_comm]
 · split at hu
   · exact h2 u hu
   · rcases List.mem_append.1 hu with h | h
     · exact h2 u h
     · simp at h; subst h; exact hw
theorem SnR_find {e : List (V × V)} {sn : List (List Int)} {w : List Int} (h : SnR e sn) (hw : Byt w) : e.find? (fun e => keyB (.str (toBA w)) e.1) = if w ∈ sn then some (.str (toBA w), .bool true) else none := by
 obtain ⟨l, rfl, h1, h2⟩ := h
 rw [mapW_find h2 hw]
 simp only [h1]
end C28

namespace C28b
open Go Go.Proofs VL D1 B10 C1 C2 C3 C4 C6 C22
theorem bind_ok {α β : Type} {x : Res α} {f : α -> List C3.Tok -> Res β} {b : β} {r : List C3.Tok} (h : x.bind f = .ok b r) : ∃ a s, x = .ok a s /\ f a s = .ok b r := by
 cases x with
 | ok a s => exact ⟨a, s, rfl, h⟩
 | err p e => cases h
theorem nextT_le (l : List C3.Tok) : (nextT l).2.length <= l.length := by
 cases l with
 | nil => exact Nat.le_refl _
 | cons t r =>
   show (if t.kind = 0 then (t, t :: r) else (t, r)).2.length <= _
   split
   · exact Nat.le_refl _
   · exact Nat.le_succ _
theorem wantS_le {k : Int} {w : List Int} {l r : List C3.Tok} {t : C3.Tok} (h : wantS k w l = .ok t r) : r.length <= l.length := by
 unfold wantS at h
 split at h
 · injection h with h1 h2
   rw [← h2]; exact nextT_le l
 · cases h
theorem numberS_le {l r : List C3.Tok} {n : Int} (h : numberS l = .ok n r) : r.length <= l.length := by
 obtain ⟨t, s, h1, h2⟩ := bind_ok h
 have := wantS_le h1
 split at h2
 · injection h2 with a b
   rw [← b]; exact this
 · cases h2
theorem takenS_le {f : List Int -> Int × Int} {l r : List C3.Tok} {n : Int} (h : takenS f l = .ok n r) : r.length <= l.length := by
 obtain ⟨t, s, h1, h2⟩ := bind_ok h
 have := wantS_le h1
 split at h2
 · injection h2 with a b
   rw [← b]; exact this
 · cases h2
theorem pickS_le {ws : List (List Int)} {l r : List C3.Tok} {n : Int} (h : pickS ws l = .ok n r) : r.length <= l.length := by
 obtain ⟨t, s, h1, h2⟩ := bind_ok h
 have := wantS_le h1
 split at h2
 · injection h2 with a b
   rw [← b]; exact this
 · cases h2
theorem orderN_le : ∀ (n : Nat) {a : List Int} {l r : List C3.Tok} {o : List Int}, orderN n a l = .ok o r -> r.length <= l.length
 | 0, a, l, r, o, h => by
   unfold orderN at h
   injection h with h1 h2
   rw [h2]
   exact Nat.le_refl _
 | n + 1, a, l, r, o, h => by
   unfold orderN at h
   obtain ⟨t, s, h1, h2⟩ := bind_ok h
   have := pickS_le h1
   split at h2
   · cases h2
   · exact Nat.le_trans (orderN_le n h2) this
theorem ite_or {α : Type} {c : Prop} [Decidable c] {a b : Option α} {x : α} (h : (if c then a else b) = some x) : a = some x \/ b = some x := by
 by_cases hc : c
 · rw [if_pos hc] at h; exact .inl h
 · rw [if_neg hc] at h; exact .inr h
theorem clauseS_le {w : List Int} {p q : Prod} {l r : List C3.Tok} {x : Res Prod} (hx : clauseS w p l = some x) (h : x = .ok q r) : r.length <= l.length /\ q.resets.length + q.late.length + q.hol.length <= p.resets.length + p.late.length + p.hol.length + 1 := by
 subst h
 unfold clauseS at hx
 rcases ite_or hx with hx | hx
 · injection hx with hx
   obtain ⟨a, s, h1, h2⟩ := bind_ok hx
   injection h2 with ha hb; subst ha hb
   exact ⟨pickS_le h1, Nat.le_succ _⟩
 rcases ite_or hx with hx | hx
 · injection hx with hx
   obtain ⟨a, s, h1, h2⟩ := bind_ok hx
   injection h2 with ha hb; subst ha hb
   exact ⟨pickS_le h1, Nat.le_succ _⟩
 rcases ite_or hx with hx | hx
 · injection hx with hx
   obtain ⟨a, s, h1, h2⟩ := bind_ok hx
   injection h2 with ha hb; subst ha hb
   exact ⟨pickS_le h1, Nat.le_succ _⟩
 rcases ite_or hx with hx | hx
 · injection hx with hx
   obtain ⟨a, s, h1, h2⟩ := bind_ok hx
   injection h2 with ha hb; subst ha hb
   exact ⟨numberS_le h1, Nat.le_succ _⟩
 rcases ite_or hx with hx | hx
 · injection hx with hx
   obtain ⟨a, s, h1, h2⟩ := bind_ok hx
   injection h2 with ha hb; subst ha hb
   exact ⟨numberS_le h1, Nat.le_succ _⟩
 rcases ite_or hx with hx | hx
 · injection hx with hx
   obtain ⟨a, s, h1, h2⟩ := bind_ok hx
   injection h2 with ha hb; subst ha hb
   exact ⟨numberS_le h1, Nat.le_succ _⟩
 rcases ite_or hx with hx | hx
 · injection hx with hx
   obtain ⟨a, s, h1, h2⟩ := bind_ok hx
   injection h2 with ha hb; subst ha hb
   exact ⟨takenS_le h1, Nat.le_succ _⟩
 rcases ite_or hx with hx | hx
 · injection hx with hx
   obtain ⟨a, s, h1, h2⟩ := bind_ok hx
   injection h2 with ha hb; subst ha hb
   exact ⟨takenS_le h1, Nat.le_succ _⟩
 rcases ite_or hx with hx | hx
 · injection hx with hx
   obtain ⟨a, s, h1, h2⟩ := bind_ok hx
   obtain ⟨a2, s2, h3, h4⟩ := bind_ok h2
   injection h4 with ha hb; subst ha hb
   refine ⟨Nat.le_trans (takenS_le h3) (numberS_le h1), ?_⟩
   simp; try omega
 rcases ite_or hx with hx | hx
 · injection hx with hx
   obtain ⟨a, s, h1, h2⟩ := bind_ok hx
   obtain ⟨a2, s2, h3, h4⟩ := bind_ok h2
   injection h4 with ha hb; subst ha hb
   refine ⟨Nat.le_trans (takenS_le h3) (numberS_le h1), ?_⟩
   simp; try omega
 rcases ite_or hx with hx | hx
 · injection hx with hx
   obtain ⟨a, s, h1, h2⟩ := bind_ok hx
   injection h2 with ha hb; subst ha hb
   exact ⟨takenS_le h1, Nat.le_succ _⟩
 rcases ite_or hx with hx | hx
 · injection hx with hx
   obtain ⟨a, s, h1, h2⟩ := bind_ok hx
   injection h2 with ha hb; subst ha hb
   refine ⟨takenS_le h1, ?_⟩
   simp; try omega
 rcases ite_or hx with hx | hx
 · injection hx with hx
   obtain ⟨a, s, h1, h2⟩ := bind_ok hx
   injection h2 with ha hb; subst ha hb
   exact ⟨orderN_le _ h1, Nat.le_succ _⟩
 rcases ite_or hx with hx | hx
 · injection hx with hx
   obtain ⟨a, s, h1, h2⟩ := bind_ok hx
   injection h2 with ha hb; subst ha hb
   exact ⟨pickS_le h1, Nat.le_succ _⟩
 rcases ite_or hx with hx | hx
 · injection hx with hx
   obtain ⟨a, s, h1, h2⟩ := bind_ok hx
   injection h2 with ha hb; subst ha hb
   exact ⟨pickS_le h1, Nat.le_succ _⟩
 cases hx
theorem groupS_le : ∀ (f : Nat) {d : Nat} {l : List C3.Tok} {p : Prod} {sn : List (List Int)} {q : Prod × List (List Int)} {r : List C3.Tok}, groupS f d l p sn = .ok q r -> r.length <= l.length
 | 0, d, l, p, sn, q, r, h => by cases h
 | f + 1, d, l, p, sn, q, r, h => by
   have hn := nextT_le l
   unfold groupS at h
   split at h
   · injection h with a b
     rw [← b]; exact hn
   · split at h
     · split at h
       · cases h
       · obtain ⟨a, s, h1, h2⟩ := bind_ok h
         exact Nat.le_trans (groupS_le f h2) (Nat.le_trans (groupS_le f h1) hn)
     · split at h
       · cases h
       · split at h
         · cases h
         · rename_i x hx
           split at h
           · cases h
           · obtain ⟨a, s, h1, h2⟩ := bind_ok h
             obtain ⟨a2, s2, h3, h4⟩ := bind_ok h2
             exact Nat.le_trans (groupS_le f h4) (Nat.le_trans (wantS_le h3) (Nat.le_trans (clauseS_le hx h1).1 hn))
end C28b

namespace C28c
open Go Go.Proofs VL D1 B10 B12 B13 C8 BB6 BB10 BB14 C1 C2 C3 C4 C6 C15 C20 C22 C23 C24 C25 C26 C27 C28
def CL (w : List Int) (f : FuncId) : Prop := ∀ (k : List C3.Tok) (i : Nat) (hk : endT (k.drop i)) (hl : okT k) (x : PS) (hx : x.p.resets.length + x.p.late.length + x.p.hol.length < 1000000) (K : Out -> List VObj -> Prop)
 (h0 : ∀ q r i' x', clauseS w x.p (k.drop i) = some (.ok q r) -> k.drop i' = r -> endT r -> x'.p = q -> x'.sn = x.sn -> K (.ret (.tup [])) (xO true true true k i' x'))
 (h1 : ∀ p e i' x', clauseS w x.p (k.drop i) = some (.err p e) -> K (.pan (fltP p e)) (xO false false false k i' x')),
 VCall Tryz.prog f [.ptr 0 0] (xO false false false k i x) K
theorem wkO {k : List C3.Tok} {i : Nat} {x : PS} : Weak 5 ⟨[.tup []], xO false false false k i x, 0, []⟩ ⟨[.tup []], xO true true true k i x, 0, []⟩ := by
 unfold xO
 exact weak_of (.cons (.eq rfl) .nil) (.cons (.eq rfl) (.cons .moved (.cons .moved (.cons .moved (.cons (.eq rfl) .nil))))) rfl rfl rfl
theorem cs_count {p l} : clauseS w_count p l = some ((pickS [w_thirty, w_fixed, w_actual] l).bind fun k r => .ok { p with count := k } r) := rfl
theorem cs_round {p l} : clauseS w_round p l = some ((pickS [w_half_up, w_down] l).bind fun k r => .ok { p with rnd := if k = 1 then 1 else 3 } r) := rfl
theorem cs_kind {p l} : clauseS w_kind p l = some ((pickS [w_annuity, w_equal, w_bullet] l).bind fun k r => .ok { p with kind := k } r) := rfl
theorem cs_every {p l} : clauseS w_every p l = some ((numberS l).bind fun k r => .ok { p with every := k } r) := rfl
theorem cs_times {p l} : clauseS w_times p l = some ((numberS l).bind fun k r => .ok { p with times := k } r) := rfl
theorem cs_grace {p l} : clauseS w_grace p l = some ((numberS l).bind fun k r => .ok { p with grace := k } r) := rfl
theorem cs_rate {p l} : clauseS w_rate p l = some ((takenS takeR l).bind fun k r => .ok { p with rate := k } r) := rfl
theorem cs_penalty {p l} : clauseS w_penalty p l = some ((takenS takeR l).bind fun k r => .ok { p with pen := k } r) := rfl
theorem cs_reset {p l} : clauseS w_reset p l = some ((numberS l).bind fun k r => (takenS takeR r).bind fun v r => .ok { p with resets := p.resets ++ [⟨k, v⟩] } r) := rfl
theorem cs_late {p l} : clauseS w_late p l = some ((numberS l).bind fun k r => (takenS takeM r).bind fun v r => .ok { p with late := p.late ++ [⟨k, v⟩] } r) := rfl
theorem cs_cap {p l} : clauseS w_cap p l = some ((takenS takeM l).bind fun k r => .ok { p with cap := k } r) := rfl
theorem cs_holiday {p l} : clauseS w_holiday p l = some ((takenS takeD l).bind fun k r => .ok { p with hol := p.hol ++ [k] } r) := rfl
theorem cs_order {p l} : clauseS w_order p l = some ((orderN 4 [] l).bind fun o r => .ok { p with o1 := o.getD 0 0, o2 := o.getD 1 0, o3 := o.getD 2 0, o4 := o.getD 3 0 } r) := rfl
theorem cs_over {p l} : clauseS w_over p l = some ((pickS [w_hold, w_prepay, w_refund] l).bind fun k r => .ok { p with over := k } r) := rfl
theorem cs_roll {p l} : clauseS w_roll p l = some ((pickS [w_stay, w_next, w_within, w_previous] l).bind fun k r => .ok { p with roll := k } r) := rfl
theorem CL_count : CL w_count 118 := by
 intro k i hk hl x hx K h0 h1
 exact VCall.weak (c_cl_count k i hk hl x _ (fun n r i' e hd he => ⟨_, _, wkO, h0 _ r i' _ (by rw [cs_count, e]; rfl) hd he rfl rfl⟩) (fun p e i' he => h1 p e i' _ (by rw [cs_count, he]; rfl)))
theorem CL_round : CL w_round 119 := by
 intro k i hk hl x hx K h0 h1
 exact VCall.weak (c_cl_round k i hk hl x _ (fun n r i' e hd he => ⟨_, _, wkO, h0 _ r i' _ (by rw [cs_round, e]; rfl) hd he rfl rfl⟩) (fun p e i' he => h1 p e i' _ (by rw [cs_round, he]; rfl)))
theorem CL_kind : CL w_kind 120 := by
 intro k i hk hl x hx K h0 h1
 exact VCall.weak (c_cl_kind k i hk hl x _ (fun n r i' e hd he => ⟨_, _, wkO, h0 _ r i' _ (by rw [cs_kind, e]; rfl) hd he rfl rfl⟩) (fun p e i' he => h1 p e i' _ (by rw [cs_kind, he]; rfl)))
theorem CL_every : CL w_every 121 := by
 intro k i hk hl x hx K h0 h1
 exact VCall.weak (c_cl_every k i hk hl x _ (fun n r i' e hd he => ⟨_, _, wkO, h0 _ r i' _ (by rw [cs_every, e]; rfl) hd he rfl rfl⟩) (fun p e i' he => h1 p e i' _ (by rw [cs_every, he]; rfl)))
theorem CL_times : CL w_times 122 := by
 intro k i hk hl x hx K h0 h1
 exact VCall.weak (c_cl_times k i hk hl x _ (fun n r i' e hd he => ⟨_, _, wkO, h0 _ r i' _ (by rw [cs_times, e]; rfl) hd he rfl rfl⟩) (fun p e i' he => h1 p e i' _ (by rw [cs_times, he]; rfl)))
theorem CL_grace : CL w_grace 123 := by
 intro k i hk hl x hx K h0 h1
 exact VCall.weak (c_cl_grace k i hk hl x _ (fun n r i' e hd he => ⟨_, _, wkO, h0 _ r i' _ (by rw [cs_grace, e]; rfl) hd he rfl rfl⟩) (fun p e i' he => h1 p e i' _ (by rw [cs_grace, he]; rfl)))
theorem CL_rate : CL w_rate 124 := by
 intro k i hk hl x hx K h0 h1
 exact VCall.weak (c_cl_rate k i hk hl x _ (fun n r i' e hd he => ⟨_, _, wkO, h0 _ r i' _ (by rw [cs_rate, e]; rfl) hd he rfl rfl⟩) (fun p e i' he => h1 p e i' _ (by rw [cs_rate, he]; rfl)))
theorem CL_penalty : CL w_penalty 125 := by
 intro k i hk hl x hx K h0 h1
 exact VCall.weak (c_cl_pen k i hk hl x _ (fun n r i' e hd he => ⟨_, _, wkO, h0 _ r i' _ (by rw [cs_penalty, e]; rfl) hd he rfl rfl⟩) (fun p e i' he => h1 p e i' _ (by rw [cs_penalty, he]; rfl)))
theorem CL_cap : CL w_cap 128 := by
 intro k i hk hl x hx K h0 h1
 exact VCall.weak (c_cl_cap k i hk hl x _ (fun n r i' e hd he => ⟨_, _, wkO, h0 _ r i' _ (by rw [cs_cap, e]; rfl) hd he rfl rfl⟩) (fun p e i' he => h1 p e i' _ (by rw [cs_cap, he]; rfl)))
theorem CL_over : CL w_over 131 := by
 intro k i hk hl x hx K h0 h1
 exact VCall.weak (c_cl_over k i hk hl x _ (fun n r i' e hd he => ⟨_, _, wkO, h0 _ r i' _ (by rw [cs_over, e]; rfl) hd he rfl rfl⟩) (fun p e i' he => h1 p e i' _ (by rw [cs_over, he]; rfl)))
theorem CL_roll : CL w_roll 132 := by
 intro k i hk hl x hx K h0 h1
 exact VCall.weak (c_cl_roll k i hk hl x _ (fun n r i' e hd he => ⟨_, _, wkO, h0 _ r i' _ (by rw [cs_roll, e]; rfl) hd he rfl rfl⟩) (fun p e i' he => h1 p e i' _ (by rw [cs_roll, he]; rfl)))
theorem CL_order : CL w_order 130 := by
 intro k i hk hl x hx K h0 h1
 refine VCall.weak (c_cl_order k i hk hl x _ (fun o r i' e hd he => ⟨_, _, wkO, h0 _ r i' _ (by rw [cs_order, e]; rfl) hd he ?_ rfl⟩) (fun p e i' x' he => h1 p e i' _ (by rw [cs_order, he]; rfl)))
 have hlen := orderN_len _ _ _ _ _ e
 rcases o with _ | ⟨a1, _ | ⟨a2, _ | ⟨a3, _ | ⟨a4, o⟩⟩⟩⟩
 all_goals first | (exfalso; revert hlen; simp; done) | rfl
theorem CL_reset : CL w_reset 126 := by
 intro k i hk hl x hx K h0 h1
 exact c_cl_reset k i hk hl x (by omega) _ (fun n v r r' i' s1 e e2 hd he => h0 _ r' i' _ (by rw [cs_reset, e]; show some ((takenS takeR r).bind _) = _; rw [e2]; rfl) hd he rfl rfl) (fun p e i' he => h1 p e i' _ (by rw [cs_reset, he]; rfl)) (fun n r p e i' he he2 => h1 p e i' _ (by rw [cs_reset, he]; show some ((takenS takeR r).bind _) = _; rw [he2]; rfl))
theorem CL_late : CL w_late 127 := by
 intro k i hk hl x hx K h0 h1
 exact c_cl_late k i hk hl x (by omega) _ (fun n v r r' i' s1 e e2 hd he => h0 _ r' i' _ (by rw [cs_late, e]; show some ((takenS takeM r).bind _) = _; rw [e2]; rfl) hd he rfl rfl) (fun p e i' he => h1 p e i' _ (by rw [cs_late, he]; rfl)) (fun n r p e i' he he2 => h1 p e i' _ (by rw [cs_late, he]; show some ((takenS takeM r).bind _) = _; rw [he2]; rfl))
theorem CL_holiday : CL w_holiday 129 := by
 intro k i hk hl x hx K h0 h1
 exact c_cl_hol k i hk hl x (by omega) _ (fun v r' i' s1 e hd he => h0 _ r' i' _ (by rw [cs_holiday, e]; rfl) hd he rfl rfl) (fun p e i' he => h1 p e i' _ (by rw [cs_holiday, he]; rfl))
theorem c_clauseA (w : List Int) (hw : ∀ x ∈ w, 0 <= x /\ x < 256) (k : List C3.Tok) (i : Nat) (x : PS) (K : Out -> List VObj -> Prop)
 (h : ∀ f, CL w f -> (∀ p l, ∃ y, clauseS w p l = some y) -> K (.ret (.tup [.fn (.func f) [.ptr 0 0] [], .bool (manyW w)])) (xO false false false k i x))
 (h_none : (∀ p l, clauseS w p l = none) -> K (.ret (.tup [.niln, .bool false])) (xO false false false k i x)) :
 VCall Tryz.prog 103 [.ptr 0 0, .str (toBA w)] (xO false false false k i x) K := by
 refine c_clause w hw k i x K ?_ ?_ ?_ ?_ ?_ ?_ ?_ ?_ ?_ ?_ ?_ ?_ ?_ ?_ ?_ ?_
 · rintro rfl
   exact h _ CL_count (fun p l => ⟨_, cs_count⟩)
 · rintro rfl
   exact h _ CL_round (fun p l => ⟨_, cs_round⟩)
 · rintro rfl
   exact h _ CL_kind (fun p l => ⟨_, cs_kind⟩)
 · rintro rfl
   exact h _ CL_every (fun p l => ⟨_, cs_every⟩)
 · rintro rfl
   exact h _ CL_times (fun p l => ⟨_, cs_times⟩)
 · rintro rfl
   exact h _ CL_grace (fun p l => ⟨_, cs_grace⟩)
 · rintro rfl
   exact h _ CL_rate (fun p l => ⟨_, cs_rate⟩)
 · rintro rfl
   exact h _ CL_penalty (fun p l => ⟨_, cs_penalty⟩)
 · rintro rfl
   exact h _ CL_reset (fun p l => ⟨_, cs_reset⟩)
 · rintro rfl
   exact h _ CL_late (fun p l => ⟨_, cs_late⟩)
 · rintro rfl
   exact h _ CL_cap (fun p l => ⟨_, cs_cap⟩)
 · rintro rfl
   exact h _ CL_holiday (fun p l => ⟨_, cs_holiday⟩)
 · rintro rfl
   exact h _ CL_order (fun p l => ⟨_, cs_order⟩)
 · rintro rfl
   exact h _ CL_over (fun p l => ⟨_, cs_over⟩)
 · rintro rfl
   exact h _ CL_roll (fun p l => ⟨_, cs_roll⟩)
 · intro n1 n2 n3 n4 n5 n6 n7 n8 n9 n10 n11 n12 n13 n14 n15
   exact h_none (fun p l => by unfold clauseS; simp only [n1, n2, n3, n4, n5, n6, n7, n8, n9, n10, n11, n12, n13, n14, n15, if_false])
end C28c

namespace C28d
open Go Go.Proofs VL D1 B10 B12 B13 BB4 BB5 BB6 BB10 BB14 C1 C2 C3 C4 C6 C19 C20 C22 C26 C28 C28b C28c
structure POk (p : Prod) : Prop where
 name : p.name.size < 1000000
 count : I64 p.count
 rnd : I64 p.rnd
 kind : I64 p.kind
 every : I64 p.every
 times : I64 p.times
 grace : I64 p.grace
 rate : I64 p.rate
 pen : I64 p.pen
 o1 : I64 p.o1
 o2 : I64 p.o2
 o3 : I64 p.o3
 o4 : I64 p.o4
 over : I64 p.over
 cap : I64 p.cap
 roll : I64 p.roll
 resets : ∀ x ∈ p.resets, I64 x.aft /\ I64 x.rate
 late : ∀ x ∈ p.late, I64 x.days /\ I64 x.fee
 hol : ∀ x ∈ p.hol, I64 x
theorem POk.full {p : Prod} (h : POk p) (h1 : p.resets.length < 1000000) (h2 : p.late.length < 1000000) (h3 : p.hol.length < 1000000) : p.ok :=
 ⟨h.name, h.count, h.rnd, h.kind, h.every, h.times, h.grace, h.rate, h.pen, h.o1, h.o2, h.o3, h.o4, h.over, h.cap, h.roll, h.resets, h.late, h.hol, h1, h2, h3⟩
theorem numS_I {l : List Int} {n : Int} (h : numS l = some n) : I64 n := by
 unfold numS at h
 split at h
 · rename_i hc
   injection h with h; subst h
   have h1 := vl_lt l hc.1
   have h2 : 10 ^ l.length <= 10 ^ 9 := Nat.pow_le_pow_right (by omega) hc.2.1
   unfold I64; omega
 · cases h
theorem numberS_I {l r : List C3.Tok} {n : Int} (h : numberS l = .ok n r) : I64 n := by
 obtain ⟨t, s, h1, h2⟩ := bind_ok h
 split at h2
 · rename_i n' hn
   injection h2 with a b
   subst a
   exact numS_I hn
 · cases h2
theorem takenS_I {f : List Int -> Int × Int} (hf : ∀ l, (f l).2 = 0 -> I64 (f l).1) {l r : List C3.Tok} {n : Int} (h : takenS f l = .ok n r) : I64 n := by
 obtain ⟨t, s, h1, h2⟩ := bind_ok h
 split at h2
 · rename_i hn
   injection h2 with a b
   subst a
   exact hf _ hn
 · cases h2
theorem takeR_I (l : List Int) : (takeR l).2 = 0 -> I64 (takeR l).1 := by
 intro h
 unfold takeR at h ⊢
 split
 · rename_i hc
   have h1 := hc.2.2.1
   unfold I64
   simp only
   split <;> omega
 · simp only; unfold I64; omega
theorem takeM_I (l : List Int) : (takeM l).2 = 0 -> I64 (takeM l).1 := by
 intro h
 unfold takeM at h ⊢
 split
 · simp only; unfold I64; omega
 · split
   · simp only; unfold I64; omega
   · split
     · simp only; unfold I64; omega
     · simp only; unfold I64; split <;> omega
theorem takeD_I (l : List Int) : (takeD l).2 = 0 -> I64 (takeD l).1 := by
 intro h
 unfold takeD at h ⊢
 split
 · generalize vl ((l.take 4).drop 0) = y
   generalize vl ((l.take 7).drop 5) = m
   generalize vl ((l.take 10).drop 8) = d
   unfold numberD
   split
   · rename_i hd
     unfold DateP at hd
     have hml := mlen_le y m
     have hcm : cum y m <= 400 := by
      have := cum_mono (y := y) hd.2.1.1 hd.2.1.2
      have h12 := cum12 y
      split at h12 <;> omega
     simp only
     unfold I64 opens; omega
   · simp only; unfold I64; omega
 · simp only; unfold I64; omega
theorem pickS_I {ws : List (List Int)} (hw : ws.length < 1000) {l r : List C3.Tok} {n : Int} (h : pickS ws l = .ok n r) : I64 n := by
 have := C25.pick_range h
 unfold I64; omega
theorem orderN_I : ∀ (n : Nat) {a : List Int} {l r : List C3.Tok} {o : List Int}, (∀ x ∈ a, I64 x) -> orderN n a l = .ok o r -> ∀ x ∈ o, I64 x
 | 0, a, l, r, o, ha, h => by
   unfold orderN at h
   injection h with h1 h2
   subst h1; exact ha
 | n + 1, a, l, r, o, ha, h => by
   unfold orderN at h
   obtain ⟨t, s, h1, h2⟩ := bind_ok h
   have := pickS_I (by decide) h1
   split at h2
   · cases h2
   · exact orderN_I n (fun x hx => by
      rcases List.mem_append.1 hx with hx | hx
      · exact ha x hx
      · simp at hx; subst hx; exact this) h2
theorem getD_I {o : List Int} (h : ∀ x ∈ o, I64 x) (n : Nat) : I64 (o.getD n 0) := by
 rw [List.getD_eq_getElem?_getD]
 cases e : o[n]? with
 | none => simp; unfold I64; omega
 | some x => exact h x (List.mem_of_getElem? e)
theorem clauseS_I {w : List Int} {p q : Prod} {l r : List C3.Tok} {x : Res Prod} (hp : POk p) (hx : clauseS w p l = some x) (h : x = .ok q r) : POk q := by
 subst h
 unfold clauseS at hx
 rcases ite_or hx with hx | hx
 · injection hx with hx
   obtain ⟨a, s, h1, h2⟩ := bind_ok hx
   injection h2 with ha hb; subst ha hb
   exact { hp with count := pickS_I (by decide) h1 }
 rcases ite_or hx with hx | hx
 · injection hx with hx
   obtain ⟨a, s, h1, h2⟩ := bind_ok hx
   injection h2 with ha hb; subst ha hb
   exact { hp with rnd := (by simp only; split <;> (unfold I64; omega)) }
 rcases ite_or hx with hx | hx
 · injection hx with hx
   obtain ⟨a, s, h1, h2⟩ := bind_ok hx
   injection h2 with ha hb; subst ha hb
   exact { hp with kind := pickS_I (by decide) h1 }
 rcases ite_or hx with hx | hx
 · injection hx with hx
   obtain ⟨a, s, h1, h2⟩ := bind_ok hx
   injection h2 with ha hb; subst ha hb
   exact { hp with every := numberS_I h1 }
 rcases ite_or hx with hx | hx
 · injection hx with hx
   obtain ⟨a, s, h1, h2⟩ := bind_ok hx
   injection h2 with ha hb; subst ha hb
   exact { hp with times := numberS_I h1 }
 rcases ite_or hx with hx | hx
 · injection hx with hx
   obtain ⟨a, s, h1, h2⟩ := bind_ok hx
   injection h2 with ha hb; subst ha hb
   exact { hp with grace := numberS_I h1 }
 rcases ite_or hx with hx | hx
 · injection hx with hx
   obtain ⟨a, s, h1, h2⟩ := bind_ok hx
   injection h2 with ha hb; subst ha hb
   exact { hp with rate := takenS_I takeR_I h1 }
 rcases ite_or hx with hx | hx
 · injection hx with hx
   obtain ⟨a, s, h1, h2⟩ := bind_ok hx
   injection h2 with ha hb; subst ha hb
   exact { hp with pen := takenS_I takeR_I h1 }
 rcases ite_or hx with hx | hx
 · injection hx with hx
   obtain ⟨a, s, h1, h2⟩ := bind_ok hx
   obtain ⟨a2, s2, h3, h4⟩ := bind_ok h2
   injection h4 with ha hb; subst ha hb
   have hq : ∀ x ∈ p.resets ++ [⟨a, a2⟩], I64 x.aft /\ I64 x.rate := by
    intro x hx
    rcases List.mem_append.1 hx with hx | hx
    · exact hp.resets x hx
    · simp at hx; subst hx; exact ⟨numberS_I h1, takenS_I takeR_I h3⟩
   exact { hp with resets := hq }
 rcases ite_or hx with hx | hx
 · injection hx with hx
   obtain ⟨a, s, h1, h2⟩ := bind_ok hx
   obtain ⟨a2, s2, h3, h4⟩ := bind_ok h2
   injection h4 with ha hb; subst ha hb
   have hq : ∀ x ∈ p.late ++ [⟨a, a2⟩], I64 x.days /\ I64 x.fee := by
    intro x hx
    rcases List.mem_append.1 hx with hx | hx
    · exact hp.late x hx
    · simp at hx; subst hx; exact ⟨numberS_I h1, takenS_I takeM_I h3⟩
   exact { hp with late := hq }
 rcases ite_or hx with hx | hx
 · injection hx with hx
   obtain ⟨a, s, h1, h2⟩ := bind_ok hx
   injection h2 with ha hb; subst ha hb
   exact { hp with cap := takenS_I takeM_I h1 }
 rcases ite_or hx with hx | hx
 · injection hx with hx
   obtain ⟨a, s, h1, h2⟩ := bind_ok hx
   injection h2 with ha hb; subst ha hb
   have hq : ∀ x ∈ p.hol ++ [a], I64 x := by
    intro x hx
    rcases List.mem_append.1 hx with hx | hx
    · exact hp.hol x hx
    · simp at hx; subst hx; exact takenS_I takeD_I h1
   exact { hp with hol := hq }
 rcases ite_or hx with hx | hx
 · injection hx with hx
   obtain ⟨a, s, h1, h2⟩ := bind_ok hx
   injection h2 with ha hb; subst ha hb
   have hI := orderN_I 4 (by simp) h1
   exact { hp with o1 := getD_I hI 0, o2 := getD_I hI 1, o3 := getD_I hI 2, o4 := getD_I hI 3 }
 rcases ite_or hx with hx | hx
 · injection hx with hx
   obtain ⟨a, s, h1, h2⟩ := bind_ok hx
   injection h2 with ha hb; subst ha hb
   exact { hp with over := pickS_I (by decide) h1 }
 rcases ite_or hx with hx | hx
 · injection hx with hx
   obtain ⟨a, s, h1, h2⟩ := bind_ok hx
   injection h2 with ha hb; subst ha hb
   exact { hp with roll := pickS_I (by decide) h1 }
 cases hx
theorem groupS_I : ∀ (f : Nat) {d : Nat} {l : List C3.Tok} {p : Prod} {sn : List (List Int)} {q : Prod × List (List Int)} {r : List C3.Tok}, POk p -> groupS f d l p sn = .ok q r -> POk q.1
 | 0, d, l, p, sn, q, r, hp, h => by cases h
 | f + 1, d, l, p, sn, q, r, hp, h => by
   unfold groupS at h
   split at h
   · injection h with a b
     subst a; exact hp
   · split at h
     · split at h
       · cases h
       · obtain ⟨a, s, h1, h2⟩ := bind_ok h
         exact groupS_I f (groupS_I f hp h1) h2
     · split at h
       · cases h
       · split at h
         · cases h
         · rename_i x hx
           split at h
           · cases h
           · obtain ⟨a, s, h1, h2⟩ := bind_ok h
             obtain ⟨a2, s2, h3, h4⟩ := bind_ok h2
             exact groupS_I f (clauseS_I hp hx h1) h4
end C28d

namespace C29
open Go Go.Proofs VL D1 B10 B12 B13 C8 BB6 BB10 BB14 C1 C2 C3 C4 C6 C15 C20 C22 C23 C24 C25 C26 C27 C28 C28b C28c
theorem group_step {f d : Nat} {l : List C3.Tok} {p : Prod} {sn : List (List Int)} : groupS (f + 1) d l p sn =
 if (nextT l).1.kind = 3 /\ (nextT l).1.text = [125] then .ok (p, sn) (nextT l).2
 else if (nextT l).1.kind = 3 /\ (nextT l).1.text = [123] then
  if 32 <= d then .err (nextT l).1.at_ 8 else (groupS f (d + 1) (nextT l).2 p sn).bind fun q r => groupS f d r q.1 q.2
 else if (nextT l).1.kind ≠ 1 then .err (nextT l).1.at_ 7
 else match clauseS (nextT l).1.text p (nextT l).2 with
  | none => .err (nextT l).1.at_ 7
  | some x => if (nextT l).1.text ∈ sn /\ manyW (nextT l).1.text = false then .err (nextT l).1.at_ 7
    else x.bind fun q r => (wantS 3 [59] r).bind fun _ r => groupS f d r q ((nextT l).1.text :: sn) := rfl
theorem next_lt {l : List C3.Tok} (h : endT l) (hk : (nextT l).1.kind ≠ 0) : (nextT l).2.length < l.length := by
 obtain ⟨_, t, r, hd, e1, e2⟩ := endT_next h
 rw [e1] at hk
 rcases e2 with ⟨e2, _⟩ | ⟨_, e2⟩
 · exact absurd e2 hk
 · rw [e2, hd]; simp
theorem SnR_plain (m : Nat) {e : List (V × V)} {sn : List (List Int)} (h : SnR e sn) : ∀ x ∈ e, plainKey (VL.sys Tryz.prog m []).P 9 x.1 = true := by
 obtain ⟨l, rfl, _⟩ := h
 intro x hx
 obtain ⟨p, _, rfl⟩ := List.mem_map.1 hx
 rfl
set_option maxHeartbeats 8000000 in
theorem c_group : ∀ (f : Nat) (d : Nat) (hd : d <= 32) (k : List C3.Tok) (i : Nat) (hk : endT (k.drop i)) (hl : okT k) (hf : (k.drop i).length < f) (x : PS) (sn : List (List Int)) (hsn : SnR x.sn sn) (hx : x.p.resets.length + x.p.late.length + x.p.hol.length + (k.drop i).length < 1000000) (K : Out -> List VObj -> Prop)
 (h0 : ∀ q r i' x', groupS f d (k.drop i) x.p sn = .ok q r -> k.drop i' = r -> endT r -> x'.p = q.1 -> SnR x'.sn q.2 -> q.1.resets.length + q.1.late.length + q.1.hol.length + r.length < 1000000 -> K (.ret (.tup [])) (xO true true true k i' x'))
 (h1 : ∀ p e i' x', groupS f d (k.drop i) x.p sn = .err p e -> K (.pan (fltP p e)) (xO true true true k i' x')),
 VCall Tryz.prog 79 [.ptr 0 0, .int .i64 d] (xO false false false k i x) K := by
 intro f
 induction f using Nat.strongRecOn with
 | ind f ihf =>
 intro d hd k i hk hl hf x sn hsn hx K h0 h1
 let S : Nat × Nat × PS × List (List Int) -> St := fun q => ⟨(.ptr 0 0 :: .int .i64 d :: .undef :: .undef :: .undef :: .undef :: .undef :: .undef :: .undef :: .undef :: .undef :: .undef :: .undef :: .undef :: .undef :: .undef :: .undef :: .undef :: .undef :: .undef :: .undef :: .undef :: .undef :: .undef :: .undef :: .undef :: .undef :: .undef :: .undef :: .undef :: .undef :: .undef :: .undef :: .undef :: .undef :: .undef :: .undef :: .undef :: .undef :: .undef :: .undef :: .undef :: .undef :: .undef :: .undef :: .undef :: .undef :: .undef :: .undef :: .undef :: .undef :: .undef :: .undef :: .undef :: .undef :: .undef :: .undef :: .undef :: .undef :: .undef :: .undef :: .undef :: .undef :: .undef :: .undef :: .undef :: .undef :: .undef :: .undef :: .undef :: .undef :: .undef :: .undef :: .undef :: .undef :: .undef :: .undef :: []), xO true true true k q.2.1 q.2.2.1, 0, []⟩
 have hnx := fun i hk x => @c_next k i hk hl.1 x
 have hwn := fun i hk x => @c_want k i hk hl x 3 [59] (by decide)
 unfold xO
 refine call_fun [] 5 Tryz.func79 (by rfl) (by rfl) ?_
 conv=>whnf
 (repeat' first | (refine step_go [] ?_;conv=>whnf) | (refine two ?_ ?_<;>intro g<;>(try simp only[bsx]at g)<;>(conv=>whnf)) | (refine And.intro rfl ?_;conv=>whnf) | fail)
 refine VLoop.enter (s' := S (f, i, x, sn)) (weak_of ?_ (.cons (.eq rfl) (.cons .moved (.cons .moved (.cons .moved (.cons (.eq rfl) .nil))))) rfl rfl rfl)
  (VLoop.indW S (fun q => q.1) (fun q => q.1 <= f /\ endT (k.drop q.2.1) /\ (k.drop q.2.1).length < q.1 /\ SnR q.2.2.1.sn q.2.2.2 /\ q.2.2.1.p.resets.length + q.2.2.1.p.late.length + q.2.2.1.p.hol.length + (k.drop q.2.1).length < 1000000 /\ groupS f d (k.drop i) x.p sn = groupS q.1 d (k.drop q.2.1) q.2.2.1.p q.2.2.2) ?_ (f, i, x, sn) ⟨Nat.le_refl _, hk, hf, hsn, hx, rfl⟩)
 · (repeat' first | exact VWs.nil | refine VWs.cons VW.undef ?_ | refine VWs.cons (VW.eq rfl) ?_ | refine VWs.cons (VW.eq (congrArg (V.int .i64) (by (try simp only); rw [wrap64 (by omega) (by omega)]; (try omega)))) ?_)
 rintro ⟨q, i1, x1, sn1⟩ ⟨hq, hk1, hf1, hsn1, hx1, he⟩ ih
 simp only at hq hk1 hf1 hsn1 hx1 he
 obtain ⟨q, rfl⟩ : ∃ q', q = q' + 1 := ⟨q - 1, by omega⟩
 obtain ⟨hen, _⟩ := endT_next hk1
 have hm := next_mem hk1
 have hlt := next_lt hk1
 rw [group_step] at he
 have hn1 := hnx i1 hk1 x1
 obtain ⟨t, ht⟩ : ∃ t, (nextT (k.drop i1)).1 = t := ⟨_, rfl⟩
 obtain ⟨l2, hl2⟩ : ∃ l, (nextT (k.drop i1)).2 = l := ⟨_, rfl⟩
 rw [ht, hl2] at he hn1
 rw [ht, hl2] at hlt
 rw [hl2] at hen
 rw [ht] at hm
 have hb := hl.2 t hm
 have e1 : (toBA t.text).toList = (⟨#[125]⟩ : ByteArray).toList ↔ t.text = [125] := toBA_eq hb.1 (b := [125]) (by decide)
 have e2 : (toBA t.text).toList = (⟨#[123]⟩ : ByteArray).toList ↔ t.text = [123] := toBA_eq hb.1 (b := [123]) (by decide)
 have hA : t.kind = 3 -> t.text = [125] -> groupS f d (k.drop i) x.p sn = .ok (x1.p, sn1) l2 := fun a b => by rw [he, if_pos ⟨a, b⟩]
 have hB : t.kind = 3 -> t.text = [123] -> 32 <= d -> groupS f d (k.drop i) x.p sn = .err t.at_ 8 := fun a b c => by rw [he, if_neg (fun h => by rw [b] at h; exact absurd h.2 (by decide)), if_pos ⟨a, b⟩, if_pos c]
 have hC : t.kind = 3 -> t.text = [123] -> ¬ 32 <= d -> groupS f d (k.drop i) x.p sn = (groupS q (d + 1) l2 x1.p sn1).bind fun q' r => groupS q d r q'.1 q'.2 := fun a b c => by rw [he, if_neg (fun h => by rw [b] at h; exact absurd h.2 (by decide)), if_pos ⟨a, b⟩, if_neg c]
 have hD : ¬ (t.kind = 3 /\ t.text = [125]) -> ¬ (t.kind = 3 /\ t.text = [123]) -> ¬ t.kind = 1 -> groupS f d (k.drop i) x.p sn = .err t.at_ 7 := fun a b c => by rw [he, if_neg a, if_neg b, if_pos c]
 have hn3 : t.kind = 1 -> ∀ w, ¬ (t.kind = 3 /\ t.text = w) := fun a w h => by omega
 have hE : t.kind = 1 -> clauseS t.text x1.p l2 = none -> groupS f d (k.drop i) x.p sn = .err t.at_ 7 := fun a c => by rw [he, if_neg (hn3 a _), if_neg (hn3 a _), if_neg (fun h => h a), c]
 have hF : t.kind = 1 -> ∀ y, clauseS t.text x1.p l2 = some y -> (t.text ∈ sn1 /\ manyW t.text = false) -> groupS f d (k.drop i) x.p sn = .err t.at_ 7 := fun a y c e => by rw [he, if_neg (hn3 a _), if_neg (hn3 a _), if_neg (fun h => h a), c]; exact if_pos e
 have hG : t.kind = 1 -> ∀ y, clauseS t.text x1.p l2 = some y -> ¬ (t.text ∈ sn1 /\ manyW t.text = false) -> groupS f d (k.drop i) x.p sn = y.bind fun q' r => (wantS 3 [59] r).bind fun _ r => groupS q d r q' (t.text :: sn1) := fun a y c e => by rw [he, if_neg (hn3 a _), if_neg (hn3 a _), if_neg (fun h => h a), c]; exact if_neg e
 clear he
 have hfind := SnR_find hsn1 hb.1
 have hupd := SnR_upd hsn1 hb.1
 dsimp only [S]
 refine loop_round [] ?_; conv=>whnf
 (repeat' first | (refine step_go [] ?_;conv=>whnf) | (refine two ?_ ?_<;>intro g<;>(try simp only[bsx]at g)<;>(conv=>whnf)) | (refine And.intro rfl ?_;conv=>whnf) | fail)
 refine hn1 _ (fun i2 hi2 => ?_)
 conv=>whnf
 (repeat' first | (refine step_go [] ?_;conv=>whnf) | (refine two ?_ ?_<;>intro g<;>(try simp only[bsx, e1, e2]at g)<;>(conv=>whnf)) | (refine And.intro rfl ?_;conv=>whnf) | (refine c_wrong t _ ?_;conv=>whnf) | fail)
 all_goals first
  | (exfalso; omega)
  | exact h1 _ 8 i2 x1 (hB (by assumption) (by assumption) (by omega))
  | exact h1 _ 7 i2 x1 (hD (by rintro ⟨a, b⟩; contradiction) (by rintro ⟨a, b⟩; contradiction) (by assumption))
  | skip
 · refine ⟨_, Weak.refl, ?_⟩
   conv=>whnf
   (repeat' first | (refine step_go [] ?_;conv=>whnf) | (refine two ?_ ?_<;>intro g<;>(try simp only[bsx]at g)<;>(conv=>whnf)) | (refine And.intro rfl ?_;conv=>whnf) | fail)
   have hz := hlt (by omega)
   refine h0 _ _ i2 x1 (hA (by assumption) (by assumption)) hi2 hen rfl hsn1 ?_
   simp only; omega
 all_goals have hll := hlt (by omega)
 · rename_i g1 g2 g3
   have hd31 : ¬ 32 <= d := by omega
   rw [show IntKind.i64.wrap ((d : Int) + 1) = ((d + 1 : Nat) : Int) by rw [wrap64 (by omega) (by omega)]; omega]
   refine ihf q (by omega) (d + 1) (by omega) k i2 (by rw [hi2]; exact hen) hl (by rw [hi2]; omega) x1 sn1 hsn1 (by rw [hi2]; omega) _ (fun q' r i3 x3 e hd3 he3 hp3 hs3 hz3 => ?_) (fun p e i3 x3 he3 => ?_)
   · rw [hi2] at e
     have hle := groupS_le _ e
     have hinv : q <= f /\ endT (k.drop i3) /\ (k.drop i3).length < q /\ SnR x3.sn q'.2 /\ x3.p.resets.length + x3.p.late.length + x3.p.hol.length + (k.drop i3).length < 1000000 /\ groupS f d (k.drop i) x.p sn = groupS q d (k.drop i3) x3.p q'.2 := by
      rw [hd3, hp3]
      refine ⟨by omega, he3, by omega, hs3, hz3, ?_⟩
      rw [hC (by assumption) (by assumption) hd31, e]; rfl
     conv=>whnf
     (repeat' first | (refine step_go [] ?_;conv=>whnf) | (refine two ?_ ?_<;>intro g<;>(try simp only[bsx]at g)<;>(conv=>whnf)) | (refine And.intro rfl ?_;conv=>whnf) | fail)
     refine weak_sel (src := [0, 1, 2, 3, 4]) ?_; conv=>whnf
     refine VLoop.enter (s' := S (q, i3, x3, q'.2)) (weak_of ?_ (.cons (.eq rfl) (.cons (.eq rfl) (.cons (.eq rfl) (.cons (.eq rfl) (.cons (.eq rfl) .nil))))) rfl rfl rfl) (ih (q, i3, x3, q'.2) hinv (by simp only; omega))
     (repeat' first | exact VWs.nil | refine VWs.cons VW.undef ?_ | refine VWs.cons (VW.eq rfl) ?_ | refine VWs.cons (VW.eq (congrArg (V.int .i64) (by (try simp only); rw [wrap64 (by omega) (by omega)]; (try omega)))) ?_)
   · rw [hi2] at he3
     have hp := h1 p e i3 x3 (by rw [hC (by assumption) (by assumption) hd31, he3]; rfl)
     conv=>whnf
     (repeat' first | (refine step_go [] ?_;conv=>whnf) | (refine two ?_ ?_<;>intro g<;>(try simp only[bsx]at g)<;>(conv=>whnf)) | (refine And.intro rfl ?_;conv=>whnf) | fail)
     exact hp
 all_goals
  have hk1 : t.kind = 1 := by assumption
  refine c_clauseA t.text hb.1 k i2 x1 _ (fun fn hcl hex => ?_) (fun hnone => ?_)
  rotate_left
  · have hp := h1 t.at_ 7 i2 x1 (hE hk1 (hnone _ _))
    conv=>whnf
    (repeat' first | (refine step_go [] ?_;conv=>whnf) | (refine two ?_ ?_<;>intro g<;>(try simp only[bsx]at g)<;>(conv=>whnf)) | (refine And.intro rfl ?_;conv=>whnf) | (refine dr_go (by decide +kernel) ?_;conv=>whnf) | (refine c_wrong t _ ?_;conv=>whnf) | fail)
    first
     | exact hp
     | done
  obtain ⟨y, hy⟩ := hex x1.p l2
  have hpl := SnR_plain 5 hsn1
  by_cases hs : t.text ∈ sn1
  all_goals first | rw [if_pos hs] at hfind | rw [if_neg hs] at hfind
  all_goals
   conv=>whnf
   (repeat' first | (refine step_go [] ?_;conv=>whnf) | (refine two ?_ ?_<;>intro g<;>(try simp only[bsx]at g)<;>(conv=>whnf)) | (refine And.intro rfl ?_;conv=>whnf) | (refine dr_go (by decide +kernel) ?_;conv=>whnf) | (refine c_wrong t _ ?_;conv=>whnf) | (refine ⟨hpl, _, hfind, ?_⟩;conv=>whnf) | fail)
   all_goals first
    | exact h1 _ 7 i2 x1 (hF hk1 y hy ⟨hs, by assumption⟩)
    | skip
  all_goals
   have hnot : ¬ (t.text ∈ sn1 /\ manyW t.text = false) := by
    rintro ⟨a, b⟩
    first | exact hs a | exact Bool.noConfusion (b.symm.trans (show manyW t.text = true by assumption))
   refine ⟨hpl, ?_⟩
   conv=>whnf
   (repeat' first | (refine step_go [] ?_;conv=>whnf) | (refine two ?_ ?_<;>intro g<;>(try simp only[bsx]at g)<;>(conv=>whnf)) | (refine And.intro rfl ?_;conv=>whnf) | (refine dr_go (by decide +kernel) ?_;conv=>whnf) | fail)
   refine hcl k i2 (by rw [hi2]; exact hen) hl { x1 with sn := updV (.str (toBA t.text)) (.bool true) x1.sn } (by simp only; omega) _ (fun q' r i3 x3 e hd3 he3 hp3 hs3 => ?_) (fun p e i3 x3 he3 => ?_)
   rotate_left
   · rw [hi2] at he3
     have hp := h1 p e i3 x3 (by rw [hG hk1 _ he3 hnot]; rfl)
     conv=>whnf
     (repeat' first | (refine step_go [] ?_;conv=>whnf) | (refine two ?_ ?_<;>intro g<;>(try simp only[bsx]at g)<;>(conv=>whnf)) | (refine And.intro rfl ?_;conv=>whnf) | fail)
     exact hp
   rw [hi2] at e
   have hle := clauseS_le e rfl
   simp only at hle
   have hq := hG hk1 _ e hnot
   have hq : groupS f d (k.drop i) x.p sn = (wantS 3 [59] r).bind fun _ r => groupS q d r q' (t.text :: sn1) := hq
   conv=>whnf
   (repeat' first | (refine step_go [] ?_;conv=>whnf) | (refine two ?_ ?_<;>intro g<;>(try simp only[bsx]at g)<;>(conv=>whnf)) | (refine And.intro rfl ?_;conv=>whnf) | fail)
   refine hwn i3 (by rw [hd3]; exact he3) x3 _ (fun t4 r4 i4 e4 hd4 he4 hm4 => ?_) (fun p e i4 he4 => ?_)
   rotate_left
   · rw [hd3] at he4
     have hp := h1 p e i4 x3 (by rw [hq, he4]; rfl)
     conv=>whnf
     (repeat' first | (refine step_go [] ?_;conv=>whnf) | (refine two ?_ ?_<;>intro g<;>(try simp only[bsx]at g)<;>(conv=>whnf)) | (refine And.intro rfl ?_;conv=>whnf) | fail)
     exact hp
   rw [hd3] at e4
   have hle4 := wantS_le e4
   have hinv : q <= f /\ endT (k.drop i4) /\ (k.drop i4).length < q /\ SnR x3.sn (t.text :: sn1) /\ x3.p.resets.length + x3.p.late.length + x3.p.hol.length + (k.drop i4).length < 1000000 /\ groupS f d (k.drop i) x.p sn = groupS q d (k.drop i4) x3.p (t.text :: sn1) := by
    rw [hd4, hp3, hs3]
    refine ⟨by omega, he4, by omega, hupd, by omega, ?_⟩
    rw [hq, e4]; rfl
   conv=>whnf
   (repeat' first | (refine step_go [] ?_;conv=>whnf) | (refine two ?_ ?_<;>intro g<;>(try simp only[bsx]at g)<;>(conv=>whnf)) | (refine And.intro rfl ?_;conv=>whnf) | fail)
   refine weak_sel (src := [0, 1, 2, 3, 4]) ?_; conv=>whnf
   refine VLoop.enter (s' := S (q, i4, x3, t.text :: sn1)) (weak_of ?_ (.cons (.eq rfl) (.cons (.eq rfl) (.cons (.eq rfl) (.cons (.eq rfl) (.cons (.eq rfl) .nil))))) rfl rfl rfl) (ih (q, i4, x3, t.text :: sn1) hinv (by simp only; omega))
   (repeat' first | exact VWs.nil | refine VWs.cons VW.undef ?_ | refine VWs.cons (VW.eq rfl) ?_ | refine VWs.cons (VW.eq (congrArg (V.int .i64) (by (try simp only); rw [wrap64 (by omega) (by omega)]; (try omega)))) ?_)
end C29

namespace C30
open Go Go.Proofs VL D1 B10 C1 C2 C3 C4 C6 C22
theorem lexF_props : ∀ (f : Nat) (l : List Int) (i : Nat) (k : List C3.Tok), lexF f l i = .ok k -> endT k /\ (∀ t ∈ k, (∀ x ∈ t.text, x ∈ l) /\ t.text.length <= l.length /\ (t.kind ≠ 0 -> t.text ≠ []) /\ t.at_ <= i + l.length) /\ k.length <= l.length + 1
 | 0, l, i, k, h => by cases h
 | f + 1, l, i, k, h => by
   have hs := skipN_le false l
   unfold lexF at h
   split at h
   · injection h with h; subst h
     refine ⟨rfl, ?_, by simp⟩
     intro t ht
     rw [List.mem_singleton] at ht; subst ht
     refine ⟨by simp, by simp, fun h => absurd rfl h, ?_⟩
     show i + skipN false l <= _
     omega
   · rename_i c r hd
     split at h
     · cases h
     · rename_i kd hk
       have hlen := congrArg List.length hd
       rw [List.length_drop, List.length_cons] at hlen
       have htw := congrArg List.length (List.takeWhile_append_dropWhile (p := goesB kd) (l := r)); rw [List.length_append] at htw
       have hk0 : kd ≠ 0 := by
        unfold kindS at hk
        repeat' split at hk
        all_goals first | (injection hk with hk; omega) | cases hk
       have hsub : ∀ x, x ∈ c :: r -> x ∈ l := fun x hx => List.mem_of_mem_drop (by rw [hd]; exact hx)
       cases h2 : lexF f (r.dropWhile (goesB kd)) (i + skipN false l + 1 + (r.takeWhile (goesB kd)).length) with
       | bad p => rw [h2] at h; cases h
       | ok k2 =>
         rw [h2] at h
         injection h with h; subst h
         obtain ⟨a1, a2, a3⟩ := lexF_props f _ _ k2 h2
         refine ⟨?_, ?_, by rw [List.length_cons]; omega⟩
         · cases k2 with
           | nil => exact a1.elim
           | cons t r => exact ⟨hk0, a1⟩
         · intro t ht
           rcases List.mem_cons.1 ht with rfl | ht
           · refine ⟨fun x hx => hsub x ?_, ?_, fun _ => by simp, ?_⟩
             · rcases List.mem_cons.1 hx with rfl | hx
               · exact .head _
               · exact .tail _ ((List.takeWhile_sublist _).subset hx)
             · show (c :: r.takeWhile (goesB kd)).length <= _
               rw [List.length_cons]; omega
             · show i + skipN false l <= _
               omega
           · obtain ⟨b1, b2, b3, b4⟩ := a2 t ht
             exact ⟨fun x hx => hsub x (.tail _ ((List.dropWhile_sublist _).subset (b1 x hx))), by omega, b3, by omega⟩
theorem lexS_props {l : List Int} {k : List C3.Tok} (h : lexS l = .ok k) (hb : ∀ x ∈ l, 0 <= x /\ x < 256) : endT k /\ okT k /\ (∀ t ∈ k, t.kind ≠ 0 -> t.text ≠ []) /\ (∀ t ∈ k, t.at_ <= l.length) /\ l.length <= 20000 /\ k.length <= l.length + 1 := by
 unfold lexS at h
 split at h
 · cases h
 · rename_i hn
   split at h
   · rename_i t ht
     injection h with h; subst h
     obtain ⟨a1, a2, a3⟩ := lexF_props _ _ _ _ ht
     refine ⟨a1, ⟨by omega, fun t ht => ⟨fun x hx => hb x ((a2 t ht).1 x hx), ?_⟩⟩, fun t ht => (a2 t ht).2.2.1, fun t ht => ?_, by omega, a3⟩
     · have := (a2 t ht).2.1; omega
     · have := (a2 t ht).2.2.2; omega
   · cases h
theorem lexS_err {l : List Int} {p : Nat} {e : Int} (h : lexS l = .error (p, e)) : (e = 3 /\ p = 0) \/ e = 6 := by
 unfold lexS at h
 split at h
 · injection h with h; injection h with h1 h2; exact .inl ⟨h2.symm, h1.symm⟩
 · split at h
   · cases h
   · injection h with h; injection h with h1 h2; exact .inr h2.symm
end C30

namespace C31
open Go Go.Proofs VL D1 B10 B12 B13 C8 BB6 BB10 BB14 C1 C2 C3 C4 C6 C11 C15 C20 C22 C23 C24 C25 C26 C27 C28 C28b C28c C28d C29 C30
set_option maxHeartbeats 8000000 in
theorem c_text (k : List C3.Tok) (i : Nat) (hk : endT (k.drop i)) (hl : okT k) (x : PS) (hsn : x.sn = []) (hp : x.p = { prod0 with over := 1, roll := 1 }) (K : Out -> List VObj -> Prop)
 (h0 : ∀ q r i' x', textP (k.drop i) = .ok q r -> x'.p = q.1 -> SnR x'.sn q.2 -> q.1.resets.length + q.1.late.length + q.1.hol.length < 1000000 -> K (.ret (.tup [])) (xO true true true k i' x'))
 (h1 : ∀ p e i' x', textP (k.drop i) = .err p e -> K (.pan (fltP p e)) (xO true true true k i' x') /\ K (.pan (fltP p e)) (xO false false false k i' x')) :
 VCall Tryz.prog 47 [.ptr 0 0] (xO false false false k i x) K := by
 have hw1 := @c_want k i hk hl x 1 w_product (by decide)
 unfold xO at hw1 ⊢
 refine call_fun [] 5 Tryz.func47 (by rfl) (by rfl) ?_
 conv=>whnf
 (repeat' first | (refine step_go [] ?_;conv=>whnf) | (refine two ?_ ?_<;>intro g<;>(try simp only[bsx]at g)<;>(conv=>whnf)) | (refine And.intro rfl ?_;conv=>whnf) | fail)
 refine hw1 _ (fun t1 r1 i1 e1 hd1 he1 hm1 => ?_) (fun p e i1 he => ?_)
 rotate_left
 · have hp := (h1 p e i1 x (by unfold textP; rw [he]; rfl)).2
   conv=>whnf
   (repeat' first | (refine step_go [] ?_;conv=>whnf) | (refine two ?_ ?_<;>intro g<;>(try simp only[bsx]at g)<;>(conv=>whnf)) | (refine And.intro rfl ?_;conv=>whnf) | fail)
   exact hp
 have hw2 := @c_want k i1 (by rw [hd1]; exact he1) hl x 1 [] (by decide)
 rw [hd1] at hw2
 unfold xO at hw2
 have ht1 : textP (k.drop i) = (wantS 1 [] r1).bind fun t l =>
  open Classical in if nameP t.text then (wantS 3 [123] l).bind fun _ l => (groupS (l.length + 1) 1 l { prod0 with name := toBA t.text, over := 1, roll := 1 } []).bind fun q l => (wantS 0 [] l).bind fun _ l => .ok q l
  else .err t.at_ 7 := by unfold textP; rw [e1]; rfl
 conv=>whnf
 (repeat' first | (refine step_go [] ?_;conv=>whnf) | (refine two ?_ ?_<;>intro g<;>(try simp only[bsx]at g)<;>(conv=>whnf)) | (refine And.intro rfl ?_;conv=>whnf) | fail)
 refine hw2 _ (fun t2 r2 i2 e2 hd2 he2 hm2 => ?_) (fun p e i2 he => ?_)
 rotate_left
 · have hp := (h1 p e i2 x (by rw [ht1, he]; rfl)).2
   conv=>whnf
   (repeat' first | (refine step_go [] ?_;conv=>whnf) | (refine two ?_ ?_<;>intro g<;>(try simp only[bsx]at g)<;>(conv=>whnf)) | (refine And.intro rfl ?_;conv=>whnf) | fail)
   exact hp
 have hb := hl.2 t2 hm2
 have ht2 : textP (k.drop i) = open Classical in if nameP t2.text then (wantS 3 [123] r2).bind fun _ l => (groupS (l.length + 1) 1 l { prod0 with name := toBA t2.text, over := 1, roll := 1 } []).bind fun q l => (wantS 0 [] l).bind fun _ l => .ok q l
  else .err t2.at_ 7 := by rw [ht1, e2]; rfl
 conv=>whnf
 (repeat' first | (refine step_go [] ?_;conv=>whnf) | (refine two ?_ ?_<;>intro g<;>(try simp only[bsx]at g)<;>(conv=>whnf)) | (refine And.intro rfl ?_;conv=>whnf) | fail)
 refine c_Name (toBA t2.text) (by rw [toBA_size]; exact hb.2) _ ?_
 rw [sB_toBA hb.1]
 obtain ⟨b, hbn⟩ : ∃ b, nameB t2.text = b := ⟨_, rfl⟩
 rw [hbn]
 cases b with
 | false =>
   have hno : ¬ nameP t2.text := fun h => by rw [(nameB_iff _).2 h] at hbn; cases hbn
   rw [if_neg hno] at ht2
   have hp := (h1 _ _ i2 x ht2).2
   conv=>whnf
   (repeat' first | (refine step_go [] ?_;conv=>whnf) | (refine two ?_ ?_<;>intro g<;>(try simp only[bsx]at g)<;>(conv=>whnf)) | (refine And.intro rfl ?_;conv=>whnf) | (refine c_wrong t2 _ ?_;conv=>whnf) | fail)
   exact hp
 | true =>
 have hyes : nameP t2.text := (nameB_iff _).1 hbn
 rw [if_pos hyes] at ht2
 obtain ⟨x2, hx2⟩ : ∃ x2, x2 = { x with p := { x.p with name := toBA t2.text } } := ⟨_, rfl⟩
 have hp2 : x2.p = { prod0 with name := toBA t2.text, over := 1, roll := 1 } := by rw [hx2]; simp only; rw [hp]
 have hs2 : SnR x2.sn [] := by rw [hx2]; simp only; rw [hsn]; exact SnR_nil
 have hw3 := @c_want k i2 (by rw [hd2]; exact he2) hl x2 3 [123] (by decide)
 rw [hd2] at hw3
 rw [hx2] at hw3
 unfold xO at hw3
 conv=>whnf
 (repeat' first | (refine step_go [] ?_;conv=>whnf) | (refine two ?_ ?_<;>intro g<;>(try simp only[bsx]at g)<;>(conv=>whnf)) | (refine And.intro rfl ?_;conv=>whnf) | fail)
 refine hw3 _ (fun t3 r3 i3 e3 hd3 he3 hm3 => ?_) (fun p e i3 he => ?_)
 rotate_left
 · have hp := (h1 p e i3 x2 (by rw [ht2, he]; rfl)).2
   rw [hx2] at hp
   conv=>whnf
   (repeat' first | (refine step_go [] ?_;conv=>whnf) | (refine two ?_ ?_<;>intro g<;>(try simp only[bsx]at g)<;>(conv=>whnf)) | (refine And.intro rfl ?_;conv=>whnf) | fail)
   exact hp
 have ht3 : textP (k.drop i) = (groupS (r3.length + 1) 1 r3 { prod0 with name := toBA t2.text, over := 1, roll := 1 } []).bind fun q l => (wantS 0 [] l).bind fun _ l => .ok q l := by rw [ht2, e3]; rfl
 have hk3 : (k.drop i3).length <= k.length := by rw [List.length_drop]; omega
 have hkl := hl.1
 have hgr := @c_group (r3.length + 1) 1 (by decide) k i3 (by rw [hd3]; exact he3) hl (by rw [hd3]; omega) x2 [] hs2 (by rw [hp2]; show 0 + 0 + 0 + _ < _; omega)
 rw [hd3] at hgr
 rw [hp2] at hgr
 have hgr2 := hgr
 rw [hx2] at hgr
 unfold xO at hgr
 conv=>whnf
 (repeat' first | (refine step_go [] ?_;conv=>whnf) | (refine two ?_ ?_<;>intro g<;>(try simp only[bsx]at g)<;>(conv=>whnf)) | (refine And.intro rfl ?_;conv=>whnf) | fail)
 refine hgr _ (fun q r i4 x4 e4 hd4 he4 hp4 hs4 hz4 => ?_) (fun p e i4 x4 he => ?_)
 rotate_left
 · have hp := (h1 p e i4 x4 (by rw [ht3, he]; rfl)).1
   conv=>whnf
   (repeat' first | (refine step_go [] ?_;conv=>whnf) | (refine two ?_ ?_<;>intro g<;>(try simp only[bsx]at g)<;>(conv=>whnf)) | (refine And.intro rfl ?_;conv=>whnf) | fail)
   exact hp
 have ht4 : textP (k.drop i) = (wantS 0 [] r).bind fun _ l => .ok q l := by rw [ht3, e4]; rfl
 have hw5 := @c_want k i4 (by rw [hd4]; exact he4) hl x4 0 [] (by decide)
 rw [hd4] at hw5
 unfold xO at hw5
 conv=>whnf
 (repeat' first | (refine step_go [] ?_;conv=>whnf) | (refine two ?_ ?_<;>intro g<;>(try simp only[bsx]at g)<;>(conv=>whnf)) | (refine And.intro rfl ?_;conv=>whnf) | fail)
 refine hw5 _ (fun t5 r5 i5 e5 hd5 he5 hm5 => ?_) (fun p e i5 he => ?_)
 rotate_left
 · have hp := (h1 p e i5 x4 (by rw [ht4, he]; rfl)).1
   conv=>whnf
   (repeat' first | (refine step_go [] ?_;conv=>whnf) | (refine two ?_ ?_<;>intro g<;>(try simp only[bsx]at g)<;>(conv=>whnf)) | (refine And.intro rfl ?_;conv=>whnf) | fail)
   exact hp
 have hf := h0 q r5 i5 x4 (by rw [ht4, e5]; rfl) hp4 hs4 (by omega)
 conv=>whnf
 (repeat' first | (refine step_go [] ?_;conv=>whnf) | (refine two ?_ ?_<;>intro g<;>(try simp only[bsx]at g)<;>(conv=>whnf)) | (refine And.intro rfl ?_;conv=>whnf) | fail)
 exact hf
end C31

namespace C32
open Go Go.Proofs VL D1 B10 B12 B13 C8 BB6 BB10 BB14 C1 C2 C3 C4 C6 C11 C15 C20 C22 C23 C24 C25 C26 C27 C28 C28b C28c C28d C29 C30 C31
set_option maxHeartbeats 8000000 in
theorem c_whole (k : List C3.Tok) (i : Nat) (x : PS) (sn : List (List Int)) (hsn : SnR x.sn sn) (K : Out -> List VObj -> Prop)
 (h1 : wholeP sn -> K (.ret (.bool true)) (xO false false false k i x)) (h0 : ¬ wholeP sn -> K (.ret (.bool false)) (xO false false false k i x)) :
 VCall Tryz.prog 48 [.ptr 0 0] (xO false false false k i x) K := by
 have hpl := SnR_plain 5 hsn
 have f_count := SnR_find hsn (w := w_count) (by unfold Byt; decide)
 have f_round := SnR_find hsn (w := w_round) (by unfold Byt; decide)
 have f_kind := SnR_find hsn (w := w_kind) (by unfold Byt; decide)
 have f_every := SnR_find hsn (w := w_every) (by unfold Byt; decide)
 have f_times := SnR_find hsn (w := w_times) (by unfold Byt; decide)
 have f_rate := SnR_find hsn (w := w_rate) (by unfold Byt; decide)
 have f_order := SnR_find hsn (w := w_order) (by unfold Byt; decide)
 unfold xO at h0 h1 ⊢
 refine call_fun [] 5 Tryz.func48 (by rfl) (by rfl) ?_
 conv=>whnf
 (repeat' first | (refine step_go [] ?_;conv=>whnf) | (refine two ?_ ?_<;>intro g<;>(try simp only[bsx]at g)<;>(conv=>whnf)) | (refine And.intro rfl ?_;conv=>whnf) | (refine loop_round [] ?_;conv=>whnf) | (refine ⟨by decide, _, rfl, rfl, ?_⟩;conv=>whnf) | (refine ⟨_, Weak.refl, ?_⟩;conv=>whnf) | fail)
 by_cases c_count : w_count ∈ sn
 rotate_left
 · rw [if_neg c_count] at f_count
   refine ⟨hpl, _, f_count, ?_⟩
   conv=>whnf
   (repeat' first | (refine step_go [] ?_;conv=>whnf) | (refine two ?_ ?_<;>intro g<;>(try simp only[bsx]at g)<;>(conv=>whnf)) | (refine And.intro rfl ?_;conv=>whnf) | (refine ⟨_, Weak.refl, ?_⟩;conv=>whnf) | fail)
   exact h0 fun h => c_count h.1
 rw [if_pos c_count] at f_count
 refine ⟨hpl, _, f_count, ?_⟩
 conv=>whnf
 (repeat' first | (refine step_go [] ?_;conv=>whnf) | (refine two ?_ ?_<;>intro g<;>(try simp only[bsx]at g)<;>(conv=>whnf)) | (refine And.intro rfl ?_;conv=>whnf) | (refine loop_round [] ?_;conv=>whnf) | (refine ⟨by decide, _, rfl, rfl, ?_⟩;conv=>whnf) | (refine ⟨_, Weak.refl, ?_⟩;conv=>whnf) | fail)
 by_cases c_round : w_round ∈ sn
 rotate_left
 · rw [if_neg c_round] at f_round
   refine ⟨hpl, _, f_round, ?_⟩
   conv=>whnf
   (repeat' first | (refine step_go [] ?_;conv=>whnf) | (refine two ?_ ?_<;>intro g<;>(try simp only[bsx]at g)<;>(conv=>whnf)) | (refine And.intro rfl ?_;conv=>whnf) | (refine ⟨_, Weak.refl, ?_⟩;conv=>whnf) | fail)
   exact h0 fun h => c_round h.2.1
 rw [if_pos c_round] at f_round
 refine ⟨hpl, _, f_round, ?_⟩
 conv=>whnf
 (repeat' first | (refine step_go [] ?_;conv=>whnf) | (refine two ?_ ?_<;>intro g<;>(try simp only[bsx]at g)<;>(conv=>whnf)) | (refine And.intro rfl ?_;conv=>whnf) | (refine loop_round [] ?_;conv=>whnf) | (refine ⟨by decide, _, rfl, rfl, ?_⟩;conv=>whnf) | (refine ⟨_, Weak.refl, ?_⟩;conv=>whnf) | fail)
 by_cases c_kind : w_kind ∈ sn
 rotate_left
 · rw [if_neg c_kind] at f_kind
   refine ⟨hpl, _, f_kind, ?_⟩
   conv=>whnf
   (repeat' first | (refine step_go [] ?_;conv=>whnf) | (refine two ?_ ?_<;>intro g<;>(try simp only[bsx]at g)<;>(conv=>whnf)) | (refine And.intro rfl ?_;conv=>whnf) | (refine ⟨_, Weak.refl, ?_⟩;conv=>whnf) | fail)
   exact h0 fun h => c_kind h.2.2.1
 rw [if_pos c_kind] at f_kind
 refine ⟨hpl, _, f_kind, ?_⟩
 conv=>whnf
 (repeat' first | (refine step_go [] ?_;conv=>whnf) | (refine two ?_ ?_<;>intro g<;>(try simp only[bsx]at g)<;>(conv=>whnf)) | (refine And.intro rfl ?_;conv=>whnf) | (refine loop_round [] ?_;conv=>whnf) | (refine ⟨by decide, _, rfl, rfl, ?_⟩;conv=>whnf) | (refine ⟨_, Weak.refl, ?_⟩;conv=>whnf) | fail)
 by_cases c_every : w_every ∈ sn
 rotate_left
 · rw [if_neg c_every] at f_every
   refine ⟨hpl, _, f_every, ?_⟩
   conv=>whnf
   (repeat' first | (refine step_go [] ?_;conv=>whnf) | (refine two ?_ ?_<;>intro g<;>(try simp only[bsx]at g)<;>(conv=>whnf)) | (refine And.intro rfl ?_;conv=>whnf) | (refine ⟨_, Weak.refl, ?_⟩;conv=>whnf) | fail)
   exact h0 fun h => c_every h.2.2.2.1
 rw [if_pos c_every] at f_every
 refine ⟨hpl, _, f_every, ?_⟩
 conv=>whnf
 (repeat' first | (refine step_go [] ?_;conv=>whnf) | (refine two ?_ ?_<;>intro g<;>(try simp only[bsx]at g)<;>(conv=>whnf)) | (refine And.intro rfl ?_;conv=>whnf) | (refine loop_round [] ?_;conv=>whnf) | (refine ⟨by decide, _, rfl, rfl, ?_⟩;conv=>whnf) | (refine ⟨_, Weak.refl, ?_⟩;conv=>whnf) | fail)
 by_cases c_times : w_times ∈ sn
 rotate_left
 · rw [if_neg c_times] at f_times
   refine ⟨hpl, _, f_times, ?_⟩
   conv=>whnf
   (repeat' first | (refine step_go [] ?_;conv=>whnf) | (refine two ?_ ?_<;>intro g<;>(try simp only[bsx]at g)<;>(conv=>whnf)) | (refine And.intro rfl ?_;conv=>whnf) | (refine ⟨_, Weak.refl, ?_⟩;conv=>whnf) | fail)
   exact h0 fun h => c_times h.2.2.2.2.1
 rw [if_pos c_times] at f_times
 refine ⟨hpl, _, f_times, ?_⟩
 conv=>whnf
 (repeat' first | (refine step_go [] ?_;conv=>whnf) | (refine two ?_ ?_<;>intro g<;>(try simp only[bsx]at g)<;>(conv=>whnf)) | (refine And.intro rfl ?_;conv=>whnf) | (refine loop_round [] ?_;conv=>whnf) | (refine ⟨by decide, _, rfl, rfl, ?_⟩;conv=>whnf) | (refine ⟨_, Weak.refl, ?_⟩;conv=>whnf) | fail)
 by_cases c_rate : w_rate ∈ sn
 rotate_left
 · rw [if_neg c_rate] at f_rate
   refine ⟨hpl, _, f_rate, ?_⟩
   conv=>whnf
   (repeat' first | (refine step_go [] ?_;conv=>whnf) | (refine two ?_ ?_<;>intro g<;>(try simp only[bsx]at g)<;>(conv=>whnf)) | (refine And.intro rfl ?_;conv=>whnf) | (refine ⟨_, Weak.refl, ?_⟩;conv=>whnf) | fail)
   exact h0 fun h => c_rate h.2.2.2.2.2.1
 rw [if_pos c_rate] at f_rate
 refine ⟨hpl, _, f_rate, ?_⟩
 conv=>whnf
 (repeat' first | (refine step_go [] ?_;conv=>whnf) | (refine two ?_ ?_<;>intro g<;>(try simp only[bsx]at g)<;>(conv=>whnf)) | (refine And.intro rfl ?_;conv=>whnf) | (refine loop_round [] ?_;conv=>whnf) | (refine ⟨by decide, _, rfl, rfl, ?_⟩;conv=>whnf) | (refine ⟨_, Weak.refl, ?_⟩;conv=>whnf) | fail)
 by_cases c_order : w_order ∈ sn
 rotate_left
 · rw [if_neg c_order] at f_order
   refine ⟨hpl, _, f_order, ?_⟩
   conv=>whnf
   (repeat' first | (refine step_go [] ?_;conv=>whnf) | (refine two ?_ ?_<;>intro g<;>(try simp only[bsx]at g)<;>(conv=>whnf)) | (refine And.intro rfl ?_;conv=>whnf) | (refine ⟨_, Weak.refl, ?_⟩;conv=>whnf) | fail)
   exact h0 fun h => c_order h.2.2.2.2.2.2
 rw [if_pos c_order] at f_order
 refine ⟨hpl, _, f_order, ?_⟩
 conv=>whnf
 (repeat' first | (refine step_go [] ?_;conv=>whnf) | (refine two ?_ ?_<;>intro g<;>(try simp only[bsx]at g)<;>(conv=>whnf)) | (refine And.intro rfl ?_;conv=>whnf) | (refine loop_round [] ?_;conv=>whnf) | (refine ⟨by decide, _, rfl, rfl, ?_⟩;conv=>whnf) | (refine ⟨_, Weak.refl, ?_⟩;conv=>whnf) | fail)
 exact h1 ⟨c_count, c_round, c_kind, c_every, c_times, c_rate, c_order⟩
end C32

namespace C33
open Go Go.Proofs VL D1 B10 B12 B13 C8 BB6 BB10 BB14 C1 C2 C3 C4 C6 C11 C14 C15 C20 C22 C23 C24 C25 C26 C27 C28 C28b C28c C28d C29 C30 C31 C32
def zP : List V := [.str ⟨#[]⟩, .int .i64 0, .int .i64 0, .int .i64 0, .int .i64 0, .int .i64 0, .int .i64 0, .int .i64 0, .sl [] .ex, .int .i64 0, .int .i64 0, .int .i64 0, .int .i64 0, .int .i64 0, .int .i64 0, .sl [] .ex, .int .i64 0, .int .i64 0, .sl [] .ex]
def pO (l : List V) (a e : Int) : List VObj := [.cells true 27 l, .cells true 3 [.int .i64 a], .cells true 36 [.int .i64 e]]
theorem d_parse1 (a e p f : Int) (K) (h : K true (pO zP p f)) : VCallD Tryz.prog 45 [.ptr 0 0, .ptr 1 0, .ptr 2 0] (pO zP a e) (some (fltP p f)) K := by
 unfold fltP
 unfold pO zP at h ⊢
 refine calld_fun [] 3 Tryz.func45 (by rfl) (by rfl) ?_
 conv=>whnf
 refine ⟨rfl, ?_⟩
 conv=>whnf
 (repeat' first | (refine step_go [] ?_;conv=>whnf) | (refine two ?_ ?_<;>intro g<;>(try simp only[bsx]at g)<;>(conv=>whnf)) | (refine And.intro rfl ?_;conv=>whnf) | (refine dr_go (by decide +kernel) ?_;conv=>whnf) | fail)
 exact h
theorem d_parse0 (l : List V) (hl : l = zP) (a e : Int) (K) (h : K false (pO l a e)) : VCallD Tryz.prog 45 [.ptr 0 0, .ptr 1 0, .ptr 2 0] (pO l a e) none K := by
 subst hl
 unfold pO zP at h ⊢
 refine calld_fun [] 3 Tryz.func45 (by rfl) (by rfl) ?_
 conv=>whnf
 refine ⟨rfl, ?_⟩
 conv=>whnf
 (repeat' first | (refine step_go [] ?_;conv=>whnf) | (refine two ?_ ?_<;>intro g<;>(try simp only[bsx]at g)<;>(conv=>whnf)) | (refine And.intro rfl ?_;conv=>whnf) | (refine dr_go (by decide +kernel) ?_;conv=>whnf) | fail)
 exact h
def pCr (k : Nat) (p : Prod) (s1 s2 s3 : List V) : List V := [.str p.name, .int .i64 p.count, .int .i64 p.rnd, .int .i64 p.kind, .int .i64 p.every, .int .i64 p.times, .int .i64 p.grace, .int .i64 p.rate, .slo k 2 0 p.resets.length (p.resets.length + s1.length), .int .i64 p.pen, .int .i64 p.o1, .int .i64 p.o2, .int .i64 p.o3, .int .i64 p.o4, .int .i64 p.over, .slo (k + 1) 2 0 p.late.length (p.late.length + s2.length), .int .i64 p.cap, .int .i64 p.roll, .slo (k + 2) 1 0 p.hol.length (p.hol.length + s3.length)]
theorem d_parse2 (p : Prod) (s1 s2 s3 : List V) (K) (h : K false (pO (pCr 3 p s1 s2 s3) 0 0 ++ [.buf false 2 (rL p.resets ++ s1), .buf false 2 (tL p.late ++ s2), .buf false 1 (iL p.hol ++ s3)])) :
 VCallD Tryz.prog 45 [.ptr 0 0, .ptr 1 0, .ptr 2 0] (pO (pCr 3 p s1 s2 s3) 0 0 ++ [.buf false 2 (rL p.resets ++ s1), .buf false 2 (tL p.late ++ s2), .buf false 1 (iL p.hol ++ s3)]) none K := by
 unfold pO pCr at h ⊢
 refine calld_fun [] 6 Tryz.func45 (by rfl) (by rfl) ?_
 conv=>whnf
 refine ⟨rfl, ?_⟩
 conv=>whnf
 (repeat' first | (refine step_go [] ?_;conv=>whnf) | (refine two ?_ ?_<;>intro g<;>(try simp only[bsx]at g)<;>(conv=>whnf)) | (refine And.intro rfl ?_;conv=>whnf) | (refine dr_go (by decide +kernel) ?_;conv=>whnf) | fail)
 exact h
theorem tk_r {l : List Rs} {s : List V} : List.take l.length (List.drop 0 (rL l ++ s)) = rL l := by rw [List.drop_zero, show l.length = (rL l).length by simp [rL], List.take_left]
theorem tk_t {l : List Ti} {s : List V} : List.take l.length (List.drop 0 (tL l ++ s)) = tL l := by rw [List.drop_zero, show l.length = (tL l).length by simp [tL], List.take_left]
theorem tk_i {l : List Int} {s : List V} : List.take l.length (List.drop 0 (iL l ++ s)) = iL l := by rw [List.drop_zero, show l.length = (iL l).length by simp [iL], List.take_left]
theorem frz_then (i : Nat) (sp : Bool) {m : Nat} {s F : St} (h : St.frzK i sp s fun s' => Weak m s' F) : Weak m s F := by
 obtain ⟨s', h1, h2⟩ := weak_frz (m := m) i sp h
 exact h1.trans h2
theorem end_frz3 {p : Prod} {a b c : Bool} {s1 s2 s3 : List V} {K : Out -> List VObj -> Prop} (h : K (.ret (.tup [encP p, .int .i64 0, .int .i64 0])) []) :
 ∃ v' sub', Weak 0 ⟨[.tup [.agg (pCr 0 p s1 s2 s3), .int .i64 0, .int .i64 0]], [.buf a 2 (rL p.resets ++ s1), .buf b 2 (tL p.late ++ s2), .buf c 1 (iL p.hol ++ s3)], 0, []⟩ ⟨[v'], sub', 0, []⟩ /\ K (.ret v') sub' := by
 refine ⟨.tup [encP p, .int .i64 0, .int .i64 0], [], ?_, h⟩
 unfold pCr
 refine frz_then 0 false ?_
 conv=>whnf
 refine ⟨by simp [rL], ?_⟩
 rw [tk_r]
 conv=>whnf
 refine frz_then 1 false ?_
 conv=>whnf
 refine ⟨by simp [tL], ?_⟩
 rw [tk_t]
 conv=>whnf
 refine frz_then 2 false ?_
 conv=>whnf
 refine ⟨by simp [iL], ?_⟩
 rw [tk_i]
 conv=>whnf
 exact weak_of (.cons (.eq rfl) .nil) .nil rfl rfl rfl
theorem parse_err {s : List Int} {l : List C3.Tok} {p : Nat} {e : Int} (hl : lexS s = .ok l) (h : textP l = .err p e) : parseS s = (prod0, (p : Int), e) := by unfold parseS; rw [hl]; simp only; rw [h]
theorem parse_yes {s : List Int} {l : List C3.Tok} {q r} (hl : lexS s = .ok l) (h : textP l = .ok q r) (hw : wholeP q.2) (hc : checkP q.1) : parseS s = (q.1, 0, 0) := by unfold parseS; rw [hl]; simp only; rw [h]; simp only; rw [if_pos ⟨hw, hc⟩]
theorem parse_no {s : List Int} {l : List C3.Tok} {q r} (hl : lexS s = .ok l) (h : textP l = .ok q r) (hw : ¬ (wholeP q.2 /\ checkP q.1)) : parseS s = (prod0, (((nextT l).1.at_ : Nat) : Int), 9) := by unfold parseS; rw [hl]; simp only; rw [h]; simp only; rw [if_neg hw]
theorem parse_lex {s : List Int} {p : Nat} {e : Int} (hl : lexS s = .error (p, e)) : parseS s = (prod0, (p : Int), e) := by unfold parseS; rw [hl]
theorem POk0 : POk { prod0 with over := 1, roll := 1 } := by
 refine ⟨by decide, ?_, ?_, ?_, ?_, ?_, ?_, ?_, ?_, ?_, ?_, ?_, ?_, ?_, ?_, ?_, fun x hx => ?_, fun x hx => ?_, fun x hx => ?_⟩
 all_goals first
  | (unfold I64; decide)
  | (exact absurd hx (by simp [prod0]))
theorem textP_I {l : List C3.Tok} {q r} (ht : ∀ t ∈ l, t.text.length < 1000000) (hl : endT l) (h : textP l = .ok q r) : POk q.1 := by
 unfold textP at h
 obtain ⟨a1, s1, h1, h2⟩ := bind_ok h
 obtain ⟨a2, s2, h3, h4⟩ := bind_ok h2
 split at h4
 · obtain ⟨a3, s3, h5, h6⟩ := bind_ok h4
   obtain ⟨a4, s4, h7, h8⟩ := bind_ok h6
   obtain ⟨a5, s5, h9, h10⟩ := bind_ok h8
   injection h10 with e1 e2
   subst e1
   refine groupS_I _ ?_ h7
   rename_i hn
   have hn20 : a2.text.length <= 20 := hn.1.2.1
   exact { POk0 with name := by rw [toBA_size]; omega }
 · cases h4
set_option maxHeartbeats 8000000 in
theorem c_Parse (s : ByteArray) (hs : s.size < 1000000) (K : Out -> List VObj -> Prop)
 (h : K (.ret (.tup [encP (parseS (sB s)).1, .int .i64 (parseS (sB s)).2.1, .int .i64 (parseS (sB s)).2.2])) []) : VCall Tryz.prog 19 [.str s] [] K := by
 refine VCall.weak (call_fun [] 0 Tryz.func19 (by rfl) (by rfl) ?_)
 conv=>whnf
 (repeat' first | (refine step_go [] ?_;conv=>whnf) | (refine two ?_ ?_<;>intro g<;>(try simp only[bsx]at g)<;>(conv=>whnf)) | (refine And.intro rfl ?_;conv=>whnf) | (refine dr_go (by decide +kernel) ?_;conv=>whnf) | fail)
 refine C8.c_All s hs _ (fun l hl => ?_) (fun p e hl => ?_)
 rotate_left
 · rw [parse_lex hl] at h
   have he := lexS_err hl
   conv=>whnf
   (repeat' first | (refine step_go [] ?_;conv=>whnf) | (refine two ?_ ?_<;>intro g<;>(try simp only[bsx]at g)<;>(conv=>whnf)) | (refine And.intro rfl ?_;conv=>whnf) | (refine dr_go (by decide +kernel) ?_;conv=>whnf) | fail)
   rotate_left
   · exfalso; omega
   · refine d_parse0 zP rfl p e _ ?_
     conv=>whnf
     (repeat' first | (refine step_go [] ?_;conv=>whnf) | (refine two ?_ ?_<;>intro g<;>(try simp only[bsx]at g)<;>(conv=>whnf)) | (refine And.intro rfl ?_;conv=>whnf) | fail)
     refine ⟨_, _, weak_of (.cons (.tup (.cons (.agg ?_) (.cons (.eq rfl) (.cons (.eq rfl) .nil)))) .nil) .nil rfl rfl rfl, h⟩
     (repeat' first | exact VQs.nil | refine VQs.cons VQ.no ?_ | refine VQs.cons VQ.spare ?_ | refine VQs.cons (VQ.eq rfl) ?_)
 obtain ⟨hend, hok, hne, hat, hsz, hkl⟩ := lexS_props hl (sB_byte s)
 conv=>whnf
 (refine step_go [] ?_;conv=>whnf)
 (refine step_go [] ?_;conv=>whnf)
 (refine step_go [] ?_;conv=>whnf)
 let S1 : St := ⟨(.str s :: .undef :: .ptr 0 0 :: .ptr 1 0 :: .ptr 2 0 :: .sl (kL l) .no :: .ptr 4 0 :: .undef :: .undef :: .undef :: .undef :: .undef :: .undef :: .undef :: .undef :: .undef :: .undef :: .undef :: .undef :: .undef :: .undef :: .undef :: .undef :: .undef :: .undef :: .undef :: .undef :: .undef :: .undef :: .undef :: .undef :: .undef :: .undef :: .undef :: .undef :: .undef :: .undef :: .undef :: .undef :: .undef :: .undef :: .undef :: .undef :: .undef :: .undef :: .undef :: .undef :: []), pO zP 0 0 ++ [.map [], .cells true 88 [.sl (kL l) .no, .int .i64 0, .str ⟨#[]⟩, .int .i64 0, .int .i64 0, .int .i64 0, .int .i64 0, .int .i64 0, .int .i64 0, .int .i64 0, .slo 5 2 0 0 0, .int .i64 0, .int .i64 0, .int .i64 0, .int .i64 0, .int .i64 0, .int .i64 1, .slo 6 2 0 0 0, .int .i64 0, .int .i64 1, .slo 7 1 0 0 0, .mp 3], .buf false 2 [], .buf false 2 [], .buf false 1 []], 0, [(.func 45, [], [.ptr 0 0, .ptr 1 0, .ptr 2 0])]⟩
 refine VStep.weak (s' := S1) (Weak.trans (weak_nil 4 10 2 none rfl rfl (Nat.zero_le _)) (Weak.trans (weak_nil 4 17 2 none rfl rfl (Nat.zero_le _)) (Weak.trans (weak_nil 4 20 1 none rfl rfl (Nat.zero_le _)) (weak_of ?_ (.cons (.eq rfl) (.cons (.eq rfl) (.cons (.eq rfl) (.cons (.eq rfl) (.cons (.eq rfl) (.cons (.eq rfl) (.cons (.eq rfl) (.cons (.eq rfl) .nil)))))))) rfl rfl rfl)))) ?_
 · (repeat' first | exact VWs.nil | refine VWs.cons VW.undef ?_ | refine VWs.cons (VW.eq rfl) ?_)
 dsimp only [S1, pO, zP, List.cons_append, List.nil_append]
 conv=>whnf
 (repeat' first | (refine step_go [] ?_;conv=>whnf) | (refine two ?_ ?_<;>intro g<;>(try simp only[bsx]at g)<;>(conv=>whnf)) | (refine And.intro rfl ?_;conv=>whnf) | fail)
 refine c_text l 0 (by rw [List.drop_zero]; exact hend) hok ⟨{ prod0 with over := 1, roll := 1 }, [], [], [], []⟩ rfl rfl _ (fun q r i' x' e hq hsn hz => ?_) (fun p e i' x' he => ?_)
 rotate_left
 · rw [List.drop_zero] at he
   rw [parse_err hl he] at h
   refine ⟨?_, ?_⟩
   all_goals
    conv=>whnf
    (repeat' first | (refine step_go [] ?_;conv=>whnf) | (refine two ?_ ?_<;>intro g<;>(try simp only[bsx]at g)<;>(conv=>whnf)) | (refine And.intro rfl ?_;conv=>whnf) | fail)
    refine d_parse1 0 0 p e _ ?_
    conv=>whnf
    (repeat' first | (refine step_go [] ?_;conv=>whnf) | (refine two ?_ ?_<;>intro g<;>(try simp only[bsx]at g)<;>(conv=>whnf)) | (refine And.intro rfl ?_;conv=>whnf) | fail)
    refine ⟨_, _, weak_of (.cons (.tup (.cons (.agg ?_) (.cons (.eq rfl) (.cons (.eq rfl) .nil)))) .nil) .nil rfl rfl rfl, h⟩
    (repeat' first | exact VQs.nil | refine VQs.cons VQ.no ?_ | refine VQs.cons VQ.spare ?_ | refine VQs.cons (VQ.eq rfl) ?_)
 rw [List.drop_zero] at e
 obtain ⟨_, t, r0, hlt, hnt, _⟩ := endT_next hend
 have hget : (kL l)[Int.toNat 0]? = some (encK t) := by rw [hlt]; rfl
 have hno : ¬ (wholeP q.2 /\ checkP q.1) -> K (.ret (.tup [encP prod0, .int .i64 (t.at_ : Nat), .int .i64 9])) [] := fun hh => by rw [parse_no hl e hh, hnt] at h; exact h
 have hyes : wholeP q.2 -> checkP q.1 -> K (.ret (.tup [encP q.1, .int .i64 0, .int .i64 0])) [] := fun a b => by rw [parse_yes hl e a b] at h; exact h
 have hI := textP_I (fun t ht => (hok.2 t ht).2) hend e
 rw [← hq] at hI hz hno hyes
 have hPok : x'.p.ok := hI.full (by omega) (by omega) (by omega)
 clear h
 conv=>whnf
 (repeat' first | (refine step_go [] ?_;conv=>whnf) | (refine two ?_ ?_<;>intro g<;>(try simp only[bsx]at g)<;>(conv=>whnf)) | (refine And.intro rfl ?_;conv=>whnf) | fail)
 refine c_whole l i' x' q.2 hsn _ (fun hw => ?_) (fun hw => ?_)
 rotate_left
 · have hf := hno fun hh => hw hh.1
   conv=>whnf
   (repeat' first | (refine step_go [] ?_;conv=>whnf) | (refine two ?_ ?_<;>intro g<;>(try simp only[bsx]at g)<;>(conv=>whnf)) | (refine And.intro rfl ?_;conv=>whnf) | (refine ⟨by decide, _, hget, rfl, ?_⟩;conv=>whnf) | fail)
   refine d_parse1 0 0 t.at_ 9 _ ?_
   conv=>whnf
   (repeat' first | (refine step_go [] ?_;conv=>whnf) | (refine two ?_ ?_<;>intro g<;>(try simp only[bsx]at g)<;>(conv=>whnf)) | (refine And.intro rfl ?_;conv=>whnf) | fail)
   refine ⟨_, _, weak_of (.cons (.tup (.cons (.agg ?_) (.cons (.eq rfl) (.cons (.eq rfl) .nil)))) .nil) .nil rfl rfl rfl, hf⟩
   (repeat' first | exact VQs.nil | refine VQs.cons VQ.no ?_ | refine VQs.cons VQ.spare ?_ | refine VQs.cons (VQ.eq rfl) ?_)
 conv=>whnf
 (repeat' first | (refine step_go [] ?_;conv=>whnf) | (refine two ?_ ?_<;>intro g<;>(try simp only[bsx]at g)<;>(conv=>whnf)) | (refine And.intro rfl ?_;conv=>whnf) | fail)
 refine VCall.lendC ?_
 conv=>whnf
 refine ⟨by simp [rL], ?_⟩
 conv=>whnf
 refine ⟨by simp [tL], ?_⟩
 conv=>whnf
 refine ⟨by simp [iL], ?_⟩
 conv=>whnf
 rw [tk_r, tk_t, tk_i]
 refine c_Check x'.p hPok _ ?_
 conv=>whnf
 refine ⟨rfl, ?_⟩
 conv=>whnf
 have hcc : checkP x'.p -> checkC x'.p = 0 := fun hh => by unfold checkC; rw [if_pos hh]
 have hcn : ¬ checkP x'.p -> checkC x'.p = 9 := fun hh => by unfold checkC; rw [if_neg hh]
 obtain ⟨cc, hcd⟩ : ∃ cc, checkC x'.p = cc := ⟨_, rfl⟩
 rw [hcd] at hcc hcn ⊢
 (repeat' first | (refine step_go [] ?_;conv=>whnf) | (refine two ?_ ?_<;>intro g<;>(try simp only[bsx]at g)<;>(conv=>whnf)) | (refine And.intro rfl ?_;conv=>whnf) | (refine ⟨by decide, _, hget, rfl, ?_⟩;conv=>whnf) | fail)
 · have hf := hno fun hh => g (hcc hh.2)
   refine d_parse1 0 0 t.at_ 9 _ ?_
   conv=>whnf
   (repeat' first | (refine step_go [] ?_;conv=>whnf) | (refine two ?_ ?_<;>intro g<;>(try simp only[bsx]at g)<;>(conv=>whnf)) | (refine And.intro rfl ?_;conv=>whnf) | fail)
   refine ⟨_, _, weak_of (.cons (.tup (.cons (.agg ?_) (.cons (.eq rfl) (.cons (.eq rfl) .nil)))) .nil) .nil rfl rfl rfl, hf⟩
   (repeat' first | exact VQs.nil | refine VQs.cons VQ.no ?_ | refine VQs.cons VQ.spare ?_ | refine VQs.cons (VQ.eq rfl) ?_)
 · have hck : checkP x'.p := by
    by_cases hh : checkP x'.p
    · exact hh
    · have := hcn hh; omega
   have hf := hyes hw hck
   refine d_parse2 x'.p x'.s1 x'.s2 x'.s3 _ ?_
   conv=>whnf
   (repeat' first | (refine step_go [] ?_;conv=>whnf) | (refine two ?_ ?_<;>intro g<;>(try simp only[bsx]at g)<;>(conv=>whnf)) | (refine And.intro rfl ?_;conv=>whnf) | fail)
   exact end_frz3 (s1 := x'.s1) (s2 := x'.s2) (s3 := x'.s3) hf
end C33

namespace CRA
open Go Go.Proofs VL D1 B10 B12 B13 BB5 BB6 BB10 BB14 C1 C2 C3 C4 C6 C11 C15 C20 C22 C28 C28b C28d C29 C30 C33
theorem lex_end {l : List Int} {k : List C3.Tok} (h : lexS l = .ok k) : endT k := by
 unfold lexS at h
 split at h
 · cases h
 · split at h
   · rename_i t ht
     injection h with h; subst h
     exact (lexF_props _ _ _ _ ht).1
   · cases h
def atT (l : List C3.Tok) (p : Nat) (e : Int) : Prop := (e = 7 \/ e = 8) /\ ∃ t ∈ l, t.at_ = p
theorem next_in {l : List C3.Tok} (h : endT l) : (nextT l).1 ∈ l /\ ∀ t ∈ (nextT l).2, t ∈ l := by
 obtain ⟨_, t, r, hd, e1, e2⟩ := endT_next h
 rw [e1]
 subst hd
 refine ⟨by simp, ?_⟩
 rcases e2 with ⟨_, e2⟩ | ⟨_, e2⟩ <;> rw [e2]
 · exact fun t h => h
 · exact fun t h => .tail _ h
theorem atT.mono {l l' : List C3.Tok} {p : Nat} {e : Int} (h : atT l p e) (hs : ∀ t ∈ l, t ∈ l') : atT l' p e := by
 obtain ⟨h1, t, h2, h3⟩ := h
 exact ⟨h1, t, hs t h2, h3⟩
def GR {α : Type} (l : List C3.Tok) : Res α -> Prop
 | .ok _ r => endT r /\ ∀ t ∈ r, t ∈ l
 | .err p e => atT l p e
def Good {α : Type} (f : List C3.Tok -> Res α) : Prop := ∀ l, endT l -> GR l (f l)
theorem GR.mono {α : Type} {l l' : List C3.Tok} {x : Res α} (h : GR l x) (hs : ∀ t ∈ l, t ∈ l') : GR l' x := by
 cases x with
 | ok a r => exact ⟨h.1, fun t ht => hs t (h.2 t ht)⟩
 | err p e => exact atT.mono h hs
theorem good_want (k : Int) (w : List Int) : Good (wantS k w) := by
 intro l hl
 obtain ⟨h1, h2⟩ := next_in hl
 unfold wantS
 split
 · exact ⟨(endT_next hl).1, h2⟩
 · exact ⟨.inl rfl, _, h1, rfl⟩
theorem good_bind {α β : Type} {f : List C3.Tok -> Res α} {g : α -> List C3.Tok -> Res β} (hf : Good f) (hg : ∀ a, Good (g a)) : Good (fun l => (f l).bind g) := by
 intro l hl
 have h1 := hf l hl
 simp only
 cases hc : f l with
 | err p e => rw [hc] at h1; exact h1
 | ok a r =>
   rw [hc] at h1
   have h2 := hg a r h1.1
   show GR l (g a r)
   cases hc2 : g a r with
   | err p e => rw [hc2] at h2; exact h2.mono h1.2
   | ok b r2 => rw [hc2] at h2; exact ⟨h2.1, fun t ht => h1.2 t (h2.2 t ht)⟩
theorem good_ok {α : Type} (a : α) : Good (fun l => Res.ok a l) := fun l hl => ⟨hl, fun t h => h⟩
theorem good_wantb {β : Type} {k : Int} {w : List Int} {g : C3.Tok -> List C3.Tok -> Res β} (hg : ∀ l t r, endT l -> wantS k w l = .ok t r -> t ∈ l -> endT r -> (∀ t ∈ r, t ∈ l) -> GR l (g t r)) : Good (fun l => (wantS k w l).bind g) := by
 intro l hl
 have h1 := good_want k w l hl
 obtain ⟨h3, h4⟩ := next_in hl
 simp only
 cases hc : wantS k w l with
 | err p e => rw [hc] at h1; exact h1
 | ok a r =>
   rw [hc] at h1
   have ha : a ∈ l := by
    unfold wantS at hc
    split at hc
    · injection hc with h1 h2; rw [← h1]; exact h3
    · cases hc
   exact hg l a r hl hc ha h1.1 h1.2
theorem good_number : Good numberS := by
 refine good_wantb fun l t r hl _ ht hr hs => ?_
 show GR l ((match numS t.text with | some n => Res.ok n r | none => .err t.at_ 7))
 split
 · exact ⟨hr, hs⟩
 · exact ⟨.inl rfl, t, ht, rfl⟩
theorem good_taken (f : List Int -> Int × Int) : Good (takenS f) := by
 refine good_wantb fun l t r hl _ ht hr hs => ?_
 split
 · exact ⟨hr, hs⟩
 · exact ⟨.inl rfl, t, ht, rfl⟩
theorem good_pick (ws : List (List Int)) : Good (pickS ws) := by
 refine good_wantb fun l t r hl _ ht hr hs => ?_
 split
 · exact ⟨hr, hs⟩
 · exact ⟨.inl rfl, t, ht, rfl⟩
theorem good_order : ∀ (n : Nat) (a : List Int), Good (orderN n a)
 | 0, a => good_ok a
 | n + 1, a => by
   intro l hl
   have h1 := good_pick owords l hl
   obtain ⟨h3, _⟩ := next_in hl
   show GR l ((pickS owords l).bind (fun k r => if k ∈ a then .err (nextT l).1.at_ 7 else orderN n (a ++ [k]) r))
   cases hc : pickS owords l with
   | err p e => rw [hc] at h1; exact h1
   | ok k r =>
     rw [hc] at h1
     show GR l ((if k ∈ a then Res.err (nextT l).1.at_ 7 else orderN n (a ++ [k]) r))
     by_cases hk : k ∈ a
     · rw [if_pos hk]; exact ⟨.inl rfl, _, h3, rfl⟩
     · rw [if_neg hk]
       have h2 := good_order n (a ++ [k]) r h1.1
       cases hc2 : orderN n (a ++ [k]) r with
       | err p e => rw [hc2] at h2; exact h2.mono h1.2
       | ok b r2 => rw [hc2] at h2; exact ⟨h2.1, fun t ht => h1.2 t (h2.2 t ht)⟩
theorem good_clause {w : List Int} {p : Prod} {l : List C3.Tok} {x : Res Prod} (hl : endT l) (hx : clauseS w p l = some x) : GR l (x) := by
 have key : ∀ {f : List C3.Tok -> Res Prod}, Good f -> some (f l) = some x -> GR l (x) := fun hf h => by
  injection h with h
  rw [← h]; exact hf l hl
 unfold clauseS at hx
 rcases ite_or hx with hx | hx
 · exact key (good_bind (good_pick _) fun _ => good_ok _) hx
 rcases ite_or hx with hx | hx
 · exact key (good_bind (good_pick _) fun _ => good_ok _) hx
 rcases ite_or hx with hx | hx
 · exact key (good_bind (good_pick _) fun _ => good_ok _) hx
 rcases ite_or hx with hx | hx
 · exact key (good_bind good_number fun _ => good_ok _) hx
 rcases ite_or hx with hx | hx
 · exact key (good_bind good_number fun _ => good_ok _) hx
 rcases ite_or hx with hx | hx
 · exact key (good_bind good_number fun _ => good_ok _) hx
 rcases ite_or hx with hx | hx
 · exact key (good_bind (good_taken _) fun _ => good_ok _) hx
 rcases ite_or hx with hx | hx
 · exact key (good_bind (good_taken _) fun _ => good_ok _) hx
 rcases ite_or hx with hx | hx
 · exact key (good_bind good_number fun _ => good_bind (good_taken _) fun _ => good_ok _) hx
 rcases ite_or hx with hx | hx
 · exact key (good_bind good_number fun _ => good_bind (good_taken _) fun _ => good_ok _) hx
 rcases ite_or hx with hx | hx
 · exact key (good_bind (good_taken _) fun _ => good_ok _) hx
 rcases ite_or hx with hx | hx
 · exact key (good_bind (good_taken _) fun _ => good_ok _) hx
 rcases ite_or hx with hx | hx
 · exact key (good_bind (good_order _ _) fun _ => good_ok _) hx
 rcases ite_or hx with hx | hx
 · exact key (good_bind (good_pick _) fun _ => good_ok _) hx
 rcases ite_or hx with hx | hx
 · exact key (good_bind (good_pick _) fun _ => good_ok _) hx
 cases hx
theorem good_group : ∀ (f d : Nat) (p : Prod) (sn : List (List Int)) (l : List C3.Tok), endT l -> l.length < f -> GR l (groupS f d l p sn)
 | 0, d, p, sn, l, hl, hf => by omega
 | f + 1, d, p, sn, l, hl, hf => by
   obtain ⟨h1, h2⟩ := next_in hl
   have hen := (endT_next hl).1
   have hlt := next_lt hl
   rw [group_step]
   by_cases hA : (nextT l).1.kind = 3 /\ (nextT l).1.text = [125]
   · rw [if_pos hA]; exact ⟨hen, h2⟩
   rw [if_neg hA]
   by_cases hB : (nextT l).1.kind = 3 /\ (nextT l).1.text = [123]
   · rw [if_pos hB]
     have hlt := hlt (by omega)
     by_cases hd : 32 <= d
     · rw [if_pos hd]; exact ⟨.inr rfl, _, h1, rfl⟩
     rw [if_neg hd]
     have g1 := good_group f (d + 1) p sn (nextT l).2 hen (by omega)
     cases hc : groupS f (d + 1) (nextT l).2 p sn with
     | err p e => rw [hc] at g1; exact g1.mono h2
     | ok q r =>
       rw [hc] at g1
       have hle := groupS_le _ hc
       have g2 := good_group f d q.1 q.2 r g1.1 (by omega)
       show GR l (groupS f d r q.1 q.2)
       cases hc2 : groupS f d r q.1 q.2 with
       | err p e => rw [hc2] at g2; exact g2.mono fun t ht => h2 t (g1.2 t ht)
       | ok q2 r2 => rw [hc2] at g2; exact ⟨g2.1, fun t ht => h2 t (g1.2 t (g2.2 t ht))⟩
   rw [if_neg hB]
   by_cases hC : (nextT l).1.kind = 1
   · rw [if_neg (fun h => h hC)]
     have hlt := hlt (by omega)
     cases hc : clauseS (nextT l).1.text p (nextT l).2 with
     | none => exact ⟨.inl rfl, _, h1, rfl⟩
     | some x =>
       show GR l ((if (nextT l).1.text ∈ sn /\ manyW (nextT l).1.text = false then Res.err (nextT l).1.at_ 7 else x.bind fun q r => (wantS 3 [59] r).bind fun _ r => groupS f d r q ((nextT l).1.text :: sn)))
       by_cases hD : (nextT l).1.text ∈ sn /\ manyW (nextT l).1.text = false
       · rw [if_pos hD]; exact ⟨.inl rfl, _, h1, rfl⟩
       rw [if_neg hD]
       have g1 := good_clause hen hc
       cases x with
       | err p e => exact g1.mono h2
       | ok q r =>
         have hle := (clauseS_le hc rfl).1
         have g2 := good_want 3 [59] r g1.1
         show GR l ((wantS 3 [59] r).bind (fun _ r => groupS f d r q ((nextT l).1.text :: sn)))
         cases hc2 : wantS 3 [59] r with
         | err p e => rw [hc2] at g2; exact g2.mono fun t ht => h2 t (g1.2 t ht)
         | ok t r2 =>
           rw [hc2] at g2
           have hle2 := wantS_le hc2
           have g3 := good_group f d q ((nextT l).1.text :: sn) r2 g2.1 (by omega)
           show GR l (groupS f d r2 q ((nextT l).1.text :: sn))
           cases hc3 : groupS f d r2 q ((nextT l).1.text :: sn) with
           | err p e => rw [hc3] at g3; exact g3.mono fun t ht => h2 t (g1.2 t (g2.2 t ht))
           | ok q2 r3 => rw [hc3] at g3; exact ⟨g3.1, fun t ht => h2 t (g1.2 t (g2.2 t (g3.2 t ht)))⟩
   · rw [if_pos hC]; exact ⟨.inl rfl, _, h1, rfl⟩
theorem good_text : Good textP := by
 refine good_bind (good_want _ _) fun _ => good_wantb fun l t r hl _ ht hr hs => ?_
 by_cases hn : nameP t.text
 · rw [if_pos hn]
   have h : Good (fun l => (wantS 3 [123] l).bind fun _ l => (groupS (l.length + 1) 1 l { prod0 with name := toBA t.text, over := 1, roll := 1 } []).bind fun q l => (wantS 0 [] l).bind fun _ l => Res.ok q l) :=
    good_bind (good_want _ _) fun _ => good_bind (f := fun l => groupS (l.length + 1) 1 l { prod0 with name := toBA t.text, over := 1, roll := 1 } []) (fun l hl => good_group _ _ _ _ l hl (Nat.lt_succ_self _)) fun q => good_bind (good_want _ _) fun _ => good_ok q
   have h2 := h r hr
   simp only at h2
   exact h2.mono hs
 · rw [if_neg hn]; exact ⟨.inl rfl, t, ht, rfl⟩
theorem text_place {l : List C3.Tok} {p : Nat} {e : Int} (hl : endT l) (h : textP l = .err p e) : atT l p e := by
 have := good_text l hl
 rw [h] at this; exact this
theorem parse_chk {s : List Int} (h : (parseS s).2.2 = 0) : checkP (parseS s).1 := by
 unfold parseS at h ⊢
 split
 · rename_i p e hl
   rw [hl] at h
   rcases lexS_err hl with ⟨h1, h2⟩ | h1 <;> (simp only at h; omega)
 · rename_i l hl
   rw [hl] at h
   have hend := lex_end hl
   simp only at h
   split
   · rename_i p e ht
     rw [ht] at h
     obtain ⟨h1, h2⟩ := text_place hend ht
     simp only at h; omega
   · rename_i q r ht
     rw [ht] at h
     simp only at h
     split
     · rename_i hc; exact hc.2
     · rename_i hc; rw [if_neg hc] at h; simp at h
end CRA

namespace P1
open Go Go.Proofs VL D1 B10 B12 B13 B20 BB4 BB5 BB6 BB7 BB8 BB9 BB10 BB14 C1 C2 C3 C4 C6 C15 C18 C20 C22 C28 C28b C28d
def lnS (s : List Int) : List Int := [32, 32] ++ s ++ [59, 10]
def kindW (n : Int) : List Int := if n = 1 then w_annuity else if n = 2 then w_equal else w_bullet
def countW (n : Int) : List Int := if n = 1 then w_thirty else if n = 2 then w_fixed else w_actual
def roundW (n : Int) : List Int := if n = 1 then w_half_up else w_down
def overW (n : Int) : List Int := if n = 1 then w_hold else if n = 2 then w_prepay else w_refund
def rollW (n : Int) : List Int := if n = 1 then w_stay else if n = 2 then w_next else if n = 3 then w_within else w_previous
def payW (n : Int) : List Int := if n = 1 then w_fees else if n = 2 then w_penalty else if n = 3 then w_interest else w_principal
def resetS (r : Rs) : List Int := lnS (w_reset ++ [32] ++ dg r.aft.toNat ++ [32] ++ rateS r.rate)
def lateS (r : Ti) : List Int := lnS (w_late ++ [32] ++ dg r.days.toNat ++ [32] ++ moneyS r.fee)
noncomputable def holS (n : Int) : List Int := lnS (w_holiday ++ [32] ++ dateT n)
noncomputable def printS (p : Prod) : List Int :=
 w_product ++ [32] ++ sB p.name ++ [32, 123, 10] ++ lnS (w_count ++ [32] ++ countW p.count) ++ lnS (w_round ++ [32] ++ roundW p.rnd) ++ lnS (w_kind ++ [32] ++ kindW p.kind)
 ++ lnS (w_every ++ [32] ++ dg p.every.toNat) ++ lnS (w_times ++ [32] ++ dg p.times.toNat) ++ lnS (w_grace ++ [32] ++ dg p.grace.toNat) ++ lnS (w_rate ++ [32] ++ rateS p.rate) ++ lnS (w_penalty ++ [32] ++ rateS p.pen)
 ++ p.resets.flatMap resetS ++ lnS (w_order ++ [32] ++ payW p.o1 ++ [32] ++ payW p.o2 ++ [32] ++ payW p.o3 ++ [32] ++ payW p.o4) ++ lnS (w_over ++ [32] ++ overW p.over)
 ++ p.late.flatMap lateS ++ lnS (w_cap ++ [32] ++ moneyS p.cap) ++ lnS (w_roll ++ [32] ++ rollW p.roll) ++ p.hol.flatMap holS ++ [125, 10]
theorem str_leN {a b : Nat} (h : a + b < 1000000) : (((a + b : Nat) : Int) <= IntKind.i64.max) := Int.le_trans (b := 1000000) (by omega) (by decide)
theorem sB_inj {a b : ByteArray} (h : sB a = sB b) : a = b := by
 unfold sB at h
 have hi : ∀ x y : UInt8, ((x.toNat : Nat) : Int) = (y.toNat : Nat) -> x = y := fun x y e => UInt8.toNat_inj.1 (by omega)
 have h2 := (List.map_inj_right hi).1 h
 cases a with | mk a => cases b with | mk b =>
 simp only at h2
 congr 1
 exact Array.ext' h2
theorem dg_le (v : Int) (hv : v < 1000000) : (toBA (dg v.toNat)).size <= 20 /\ ∀ x ∈ dg v.toNat, 0 <= x /\ x < 256 := by
 rw [toBA_size]
 have hd : ∀ x ∈ dg v.toNat, Dig x := dg_dig _
 exact ⟨B5.dg_len20 (by omega), fun x hx => by have := hd x hx; unfold Dig at this; omega⟩
end P1

namespace P2
open Go Go.Proofs VL D1 B10 B12 B13 B20 BB4 BB5 BB6 BB7 BB8 BB9 BB10 BB14 C1 C2 C3 C4 C6 C15 C18 C20 C22 C28 C28b C28d P1
theorem szL {a b : ByteArray} {n m : Nat} (ha : a.size <= n) (hb : b.size <= m) (h : n + m < 1000000) : (((a.size + b.size : Nat) : Int) <= IntKind.i64.max) := str_leN (by omega)
theorem szA {a b : ByteArray} {n m : Nat} (ha : a.size <= n) (hb : b.size <= m) : (a ++ b).size <= n + m := by rw [ByteArray.size_append]; omega
theorem countW_b (n : Int) : (∀ x ∈ countW n, 0 <= x /\ x < 256) /\ (toBA (countW n)).size <= 10 := by
 unfold countW
 repeat' split
 all_goals exact ⟨by decide, by decide⟩
theorem roundW_b (n : Int) : (∀ x ∈ roundW n, 0 <= x /\ x < 256) /\ (toBA (roundW n)).size <= 10 := by
 unfold roundW
 repeat' split
 all_goals exact ⟨by decide, by decide⟩
theorem kindW_b (n : Int) : (∀ x ∈ kindW n, 0 <= x /\ x < 256) /\ (toBA (kindW n)).size <= 10 := by
 unfold kindW
 repeat' split
 all_goals exact ⟨by decide, by decide⟩
theorem overW_b (n : Int) : (∀ x ∈ overW n, 0 <= x /\ x < 256) /\ (toBA (overW n)).size <= 10 := by
 unfold overW
 repeat' split
 all_goals exact ⟨by decide, by decide⟩
theorem rollW_b (n : Int) : (∀ x ∈ rollW n, 0 <= x /\ x < 256) /\ (toBA (rollW n)).size <= 10 := by
 unfold rollW
 repeat' split
 all_goals exact ⟨by decide, by decide⟩
theorem payW_b (n : Int) : (∀ x ∈ payW n, 0 <= x /\ x < 256) /\ (toBA (payW n)).size <= 10 := by
 unfold payW
 repeat' split
 all_goals exact ⟨by decide, by decide⟩
theorem res_in {times : Int} : ∀ {q : Option Rs} {l : List Rs}, resetsP times q l -> ∀ r ∈ l, 1 <= r.aft /\ r.aft <= times - 1
 | _, [], _, r, hr => by cases hr
 | q, x :: l, h, r, hr => by
   rcases List.mem_cons.1 hr with rfl | hr
   · exact h.1
   · exact res_in h.2.2.2 r hr
theorem tier_in : ∀ {q : Option Ti} {l : List Ti}, tiersP q l -> ∀ r ∈ l, 1 <= r.days /\ r.days <= 365
 | _, [], _, r, hr => by cases hr
 | q, x :: l, h, r, hr => by
   rcases List.mem_cons.1 hr with rfl | hr
   · exact h.1
   · exact tier_in h.2.2.2 r hr
theorem moneyS_b (v : Int) : ∀ x ∈ moneyS v, 0 <= x /\ x < 256 := by
 intro x hx
 unfold moneyS at hx
 rcases List.mem_append.1 hx with hx | hx
 · rcases List.mem_append.1 hx with hx | hx
   · rcases List.mem_append.1 hx with hx | hx
     · exact sgn_byte v x hx
     · have := dg_dig _ x hx; unfold Dig at this; omega
   · simp at hx; omega
 · have := dgw_dig _ _ x hx; unfold Dig at this; omega
theorem hol_in : ∀ {q : Option Int} {l : List Int}, holP q l -> ∀ r ∈ l, -25567 <= r /\ r <= 84370
 | _, [], _, r, hr => by cases hr
 | q, x :: l, h, r, hr => by
   rcases List.mem_cons.1 hr with rfl | hr
   · exact h.1
   · exact hol_in h.2.2 r hr
theorem dtS_b (y m d : Nat) : ∀ x ∈ dtS y m d, 0 <= x /\ x < 256 := by
 have hd : ∀ w n, ∀ x ∈ dgw w n, 0 <= x /\ x < 256 := fun w n x hx => by have := dgw_dig w n x hx; unfold Dig at this; omega
 intro x hx
 unfold dtS at hx
 simp only [List.mem_append, List.mem_singleton] at hx
 rcases hx with (((hx | hx) | hx) | hx) | hx
 · exact hd _ _ x hx
 · omega
 · exact hd _ _ x hx
 · omega
 · exact hd _ _ x hx
end P2

namespace CO1
open Go Go.Proofs VL D1 B10 C1 C2 C3 C4 C6 C8
def kt (t : C3.Tok) : Int × List Int := (t.kind, t.text)
def preL (a : List C3.Tok) : Lx -> Lx
 | .ok l => .ok (a ++ l)
 | .bad p => .bad p
def LexTo (c : List Int) (ts : List (Int × List Int)) : Prop := ∀ f rest i, ∃ toks : List C3.Tok, toks.map kt = ts /\ lexF (f + ts.length) (c ++ rest) i = preL toks (lexF f rest (i + c.length))
theorem preL_app (a b : List C3.Tok) (x : Lx) : preL a (preL b x) = preL (a ++ b) x := by cases x <;> simp [preL]
theorem LexTo.app {c1 c2 : List Int} {t1 t2 : List (Int × List Int)} (h1 : LexTo c1 t1) (h2 : LexTo c2 t2) : LexTo (c1 ++ c2) (t1 ++ t2) := by
 intro f rest i
 obtain ⟨k1, e1, g1⟩ := h1 (f + t2.length) (c2 ++ rest) i
 obtain ⟨k2, e2, g2⟩ := h2 f rest (i + c1.length)
 refine ⟨k1 ++ k2, by rw [List.map_append, e1, e2], ?_⟩
 rw [List.append_assoc, List.length_append, show f + (t1.length + t2.length) = f + t2.length + t1.length by omega, g1, g2, preL_app, List.length_append, Nat.add_assoc]
theorem LexTo.nil : LexTo [] [] := fun f rest i => ⟨[], rfl, by
 show lexF f rest i = preL [] (lexF f rest i)
 cases lexF f rest i <;> rfl⟩
theorem tw3 (l : List Int) : l.takeWhile (goesB 3) = [] /\ l.dropWhile (goesB 3) = l := by
 cases l with
 | nil => exact ⟨rfl, rfl⟩
 | cons x r => exact ⟨rfl, rfl⟩
theorem lex_sign (c : Int) (hc : c = 123 \/ c = 125 \/ c = 59) : LexTo [c] [(3, [c])] := by
 intro f rest i
 refine ⟨[⟨3, i, [c]⟩], rfl, ?_⟩
 have hs : skipN false (c :: rest) = 0 := by rcases hc with rfl | rfl | rfl <;> rfl
 show lexF (f + 1) (c :: rest) i = preL _ (lexF f rest (i + 1))
 rw [C8.lexF_step, hs, List.drop_zero]
 simp only
 rw [kind3 rest hc]
 simp only
 rw [(tw3 rest).1, (tw3 rest).2]
 show Lx.cons _ (lexF f rest (i + 1)) = _
 cases lexF f rest (i + 1) <;> rfl
theorem lexF_blank (f : Nat) (l : List Int) (i : Nat) : lexF (f + 1) (32 :: l) i = lexF (f + 1) l (i + 1) := by
 have hs : skipN false (32 :: l) = 1 + skipN false l := by
  show (if (32 : Int) = 10 then _ else if (32 : Int) = 35 then _ else if false = false /\ (32 : Int) ≠ 32 /\ (32 : Int) ≠ 9 then 0 else 1 + skipN false l) = _
  rw [if_neg (by decide), if_neg (by decide), if_neg (by decide)]
 unfold lexF
 rw [hs, show (1 : Nat) + skipN false l = skipN false l + 1 by omega, List.drop_succ_cons]
 have e : i + (skipN false l + 1) = i + 1 + skipN false l := by omega
 rw [e]
def okTok : Int × List Int -> Bool
 | (k, c :: w) => (decide (k = 1) && letB c && w.all wordB) || (decide (k = 2) && digB c && w.all numB)
 | _ => false
theorem lex_tok {k : Int} {a : List Int} (h : okTok (k, a) = true) (x : Int) (hx : x = 32 \/ x = 59) (f : Nat) (rest : List Int) (i : Nat) : lexF (f + 1) (a ++ x :: rest) i = preL [⟨k, i, a⟩] (lexF f (x :: rest) (i + a.length)) := by
 cases a with
 | nil => cases h
 | cons c w =>
   have hgo : goesB k x = false /\ (∀ y ∈ w, goesB k y = true) /\ skipN false (c :: (w ++ x :: rest)) = 0 /\ kindS c (w ++ x :: rest) = some k := by
    simp only [okTok, Bool.or_eq_true, Bool.and_eq_true, decide_eq_true_eq, List.all_eq_true] at h
    have hsk : ∀ r, (c ≠ 10 /\ c ≠ 35 /\ c ≠ 32 /\ c ≠ 9) -> skipN false (c :: r) = 0 := fun r hc => by
     show (if c = 10 then _ else if c = 35 then _ else if false = false /\ c ≠ 32 /\ c ≠ 9 then 0 else _) = _
     rw [if_neg hc.1, if_neg hc.2.1, if_pos ⟨rfl, hc.2.2.1, hc.2.2.2⟩]
    rcases h with ⟨⟨rfl, hl⟩, hw⟩ | ⟨⟨rfl, hl⟩, hw⟩
    · have hl2 := (letB_iff c).1 hl
      exact ⟨by rcases hx with rfl | rfl <;> rfl, fun y hy => hw y hy, hsk _ (by omega), kind1 _ hl2⟩
    · have hl2 := (digB_iff c).1 hl
      exact ⟨by rcases hx with rfl | rfl <;> rfl, fun y hy => hw y hy, hsk _ (by omega), kind2 _ (by omega) (.inl hl2)⟩
   obtain ⟨g1, g2, g3, g4⟩ := hgo
   have t1 : (w ++ x :: rest).takeWhile (goesB k) = w := by
    rw [List.takeWhile_append_of_pos g2, List.takeWhile_cons, g1]; simp
   have t2 : (w ++ x :: rest).dropWhile (goesB k) = x :: rest := by
    rw [List.dropWhile_append_of_pos g2, List.dropWhile_cons, g1]; simp
   show lexF (f + 1) (c :: (w ++ x :: rest)) i = _
   rw [C8.lexF_step, g3, List.drop_zero]
   simp only
   rw [g4]
   simp only
   rw [t1, t2]
   show Lx.cons _ (lexF f (x :: rest) (i + 0 + 1 + w.length)) = _
   rw [show i + 0 + 1 + w.length = i + (c :: w).length by rw [List.length_cons]; omega]
   cases lexF f (x :: rest) (i + (c :: w).length) <;> rfl
def txt : List (Int × List Int) -> List Int
 | [] => [59]
 | [(_, a)] => a ++ [59]
 | (_, a) :: t :: r => a ++ 32 :: txt (t :: r)
theorem lex_txt : ∀ (ts : List (Int × List Int)), (∀ t ∈ ts, okTok t = true) -> LexTo (txt ts) (ts ++ [(3, [59])])
 | [], _ => lex_sign 59 (by decide)
 | [(k, a)], h => by
   intro f rest i
   obtain ⟨k1, e1, g1⟩ := lex_sign 59 (by decide) f rest (i + a.length)
   refine ⟨⟨k, i, a⟩ :: k1, by rw [List.map_cons, e1]; rfl, ?_⟩
   show lexF (f + 1 + 1) ((a ++ [59]) ++ rest) i = _
   rw [List.append_assoc]
   show lexF (f + 1 + 1) (a ++ 59 :: rest) i = _
   rw [lex_tok (h (k, a) (.head _)) 59 (by decide)]
   have g1 : lexF (f + 1) (59 :: rest) (i + a.length) = _ := g1
   rw [g1, preL_app]
   show preL _ (lexF f rest (i + a.length + 1)) = preL _ (lexF f rest (i + (txt [(k, a)]).length))
   rw [show (txt [(k, a)]).length = a.length + 1 by simp [txt], Nat.add_assoc]; rfl
 | (k, a) :: t :: r, h => by
  intro f rest i
  obtain ⟨k1, e1, g1⟩ := lex_txt (t :: r) (fun t ht => h t (.tail _ ht)) f rest (i + a.length + 1)
  refine ⟨⟨k, i, a⟩ :: k1, by rw [List.map_cons, e1]; rfl, ?_⟩
  show lexF (f + ((t :: r ++ [(3, [59])]).length + 1)) ((a ++ 32 :: txt (t :: r)) ++ rest) i = _
  rw [List.append_assoc]
  show lexF (f + (t :: r ++ [(3, [59])]).length + 1) (a ++ 32 :: (txt (t :: r) ++ rest)) i = _
  rw [lex_tok (h (k, a) (.head _)) 32 (by decide)]
  obtain ⟨m, hm⟩ : ∃ m, f + (t :: r ++ [(3, [59])]).length = m + 1 := ⟨f + (r ++ [(3, [59])]).length, by simp; omega⟩
  rw [hm, lexF_blank, ← hm, g1, preL_app]
  show preL _ (lexF f rest (i + a.length + 1 + (txt (t :: r)).length)) = preL _ (lexF f rest (i + (a ++ 32 :: txt (t :: r)).length))
  rw [show (a ++ 32 :: txt (t :: r)).length = a.length + 1 + (txt (t :: r)).length by simp; omega]
  rw [show i + (a.length + 1 + (txt (t :: r)).length) = i + a.length + 1 + (txt (t :: r)).length by omega]; rfl
end CO1

namespace PS1
open Go Go.Proofs VL D1 D2 B8 C19 B10 B12 B13 B14 B20 BB4 BB5 BB6 BB7 BB8 BB9 BB10 BB14 C1 C2 C3 C4 C6 C15 C18 C20 C22 C28 C28b C28d CO1 P1 P2
noncomputable def cls (p : Prod) : List (List (Int × List Int)) :=
 [[(1, w_count), (1, countW p.count)], [(1, w_round), (1, roundW p.rnd)], [(1, w_kind), (1, kindW p.kind)], [(1, w_every), (2, dg p.every.toNat)], [(1, w_times), (2, dg p.times.toNat)], [(1, w_grace), (2, dg p.grace.toNat)],
  [(1, w_rate), (2, rateS p.rate)], [(1, w_penalty), (2, rateS p.pen)]]
 ++ p.resets.map (fun r => [(1, w_reset), (2, dg r.aft.toNat), (2, rateS r.rate)])
 ++ [[(1, w_order), (1, payW p.o1), (1, payW p.o2), (1, payW p.o3), (1, payW p.o4)], [(1, w_over), (1, overW p.over)]]
 ++ p.late.map (fun r => [(1, w_late), (2, dg r.days.toNat), (2, moneyS r.fee)])
 ++ [[(1, w_cap), (2, moneyS p.cap)], [(1, w_roll), (1, rollW p.roll)]]
 ++ p.hol.map (fun n => [(1, w_holiday), (2, dateT n)])
def clT (ts : List (Int × List Int)) : List Int := [32, 32] ++ txt ts ++ [10]
theorem flat_map {α β : Type} (f : α -> β) (g : β -> List Int) : ∀ l : List α, (l.map f).flatMap g = l.flatMap (fun x => g (f x))
 | [] => rfl
 | x :: l => by rw [List.map_cons, List.flatMap_cons, List.flatMap_cons, flat_map f g l]
theorem printS_eq (p : Prod) : printS p = w_product ++ [32] ++ sB p.name ++ [32, 123, 10] ++ (cls p).flatMap clT ++ [125, 10] := by
 unfold printS cls
 simp only [List.flatMap_append, flat_map, List.flatMap_cons, List.flatMap_nil]
 have h1 : ∀ (k j : Int) (a b : List Int), clT [(k, a), (j, b)] = lnS (a ++ [32] ++ b) := fun k j a b => by unfold lnS clT; simp [txt]
 have h2 : (fun r : Rs => clT [(1, w_reset), (2, dg r.aft.toNat), (2, rateS r.rate)]) = resetS := by funext r; unfold resetS lnS clT; simp [txt]
 have h3 : (fun r : Ti => clT [(1, w_late), (2, dg r.days.toNat), (2, moneyS r.fee)]) = lateS := by funext r; unfold lateS lnS clT; simp [txt]
 have h4 : (fun n : Int => clT [(1, w_holiday), (2, dateT n)]) = holS := by funext r; unfold holS lnS clT; simp [txt]
 have h5 : lnS (w_order ++ [32] ++ payW p.o1 ++ [32] ++ payW p.o2 ++ [32] ++ payW p.o3 ++ [32] ++ payW p.o4) = clT [(1, w_order), (1, payW p.o1), (1, payW p.o2), (1, payW p.o3), (1, payW p.o4)] := by unfold lnS clT; simp [txt]
 rw [h2, h3, h4, h5]
 simp only [h1, List.append_assoc, List.nil_append, List.append_nil]
theorem ok_num' {k : Int} {a : List Int} (hk : k = 2) (h0 : a ≠ []) (h1 : ∀ x, a.head? = some x -> Dig x) (h : ∀ x ∈ a, Dig x \/ x = 46 \/ x = 45 \/ x = 47 \/ x = 37) : okTok (2, a) = true := by
 cases a with
 | nil => exact absurd rfl h0
 | cons c w =>
   subst hk
   show ((decide ((2 : Int) = 1) && letB c && w.all wordB) || (decide ((2 : Int) = 2) && digB c && w.all numB)) = true
   rw [(digB_iff c).2 (h1 c rfl), List.all_eq_true.2 fun x hx => (numB_iff x).2 ?_]
   · rfl
   rcases h x (List.mem_cons_of_mem _ hx) with h | h
   · exact .inl ((digB_iff x).2 h)
   · exact .inr h
theorem ok_num {a : List Int} (h0 : a ≠ []) (h1 : ∀ x, a.head? = some x -> Dig x) (h : ∀ x ∈ a, Dig x \/ x = 46 \/ x = 45 \/ x = 47 \/ x = 37) : okTok (2, a) = true := ok_num' rfl h0 h1 h
theorem dg_ne0 (n : Nat) : dg n ≠ [] := by rw [dg]; split <;> simp
theorem ok_dg (n : Nat) : okTok (2, dg n) = true := ok_num (dg_ne0 n) (fun x hx => dg_dig n x (List.mem_of_mem_head? hx)) (fun x hx => .inl (dg_dig n x hx))
theorem head_app {a b : List Int} (h : a ≠ []) : (a ++ b).head? = a.head? := by
 cases a with
 | nil => exact absurd rfl h
 | cons c w => rfl
theorem trimZ_mem {l : List Int} {x : Int} (h : x ∈ trimZ l) : x ∈ l := by
 unfold trimZ at h
 have := List.mem_reverse.1 h
 exact List.mem_reverse.1 ((List.dropWhile_sublist _).subset this)
theorem ok_rate {v : Int} (h : 0 <= v) : okTok (2, rateS v) = true := by
 have e : rateS v = dg (v.natAbs / 10000000) ++ (fracS (v.natAbs % 10000000) ++ [37]) := by rw [rateS_eq]; unfold sgn; rw [if_neg (by omega)]; simp
 rw [e]
 refine ok_num (by simp [dg_ne0]) (fun x hx => ?_) fun x hx => ?_
 · rw [head_app (dg_ne0 _)] at hx; exact dg_dig _ x (List.mem_of_mem_head? hx)
 · rcases List.mem_append.1 hx with hx | hx
   · exact .inl (dg_dig _ x hx)
   rcases List.mem_append.1 hx with hx | hx
   · unfold fracS at hx
     split at hx
     · cases hx
     · rcases List.mem_cons.1 hx with rfl | hx
       · exact .inr (.inl rfl)
       · exact .inl (dgw_dig _ _ x (trimZ_mem hx))
   · simp at hx; subst hx; exact .inr (.inr (.inr (.inr rfl)))
theorem ok_money {v : Int} (h : 0 <= v) : okTok (2, moneyS v) = true := by
 have e : moneyS v = dg (v.natAbs / 100) ++ 46 :: dgw 2 (v.natAbs % 100) := by rw [moneyS_eq]; unfold sgn; rw [if_neg (by omega)]; simp
 rw [e]
 refine ok_num (by simp [dg_ne0]) (fun x hx => ?_) fun x hx => ?_
 · rw [head_app (dg_ne0 _)] at hx; exact dg_dig _ x (List.mem_of_mem_head? hx)
 · rcases List.mem_append.1 hx with hx | hx
   · exact .inl (dg_dig _ x hx)
   rcases List.mem_cons.1 hx with rfl | hx
   · exact .inr (.inl rfl)
   · exact .inl (dgw_dig _ _ x hx)
theorem dgw_ne {w : Nat} (h : 0 < w) (n : Nat) : dgw w n ≠ [] := by
 intro hh; have := dgw_len w n; rw [hh] at this; simp at this; omega
theorem ok_dts (y m d : Nat) : okTok (2, dtS y m d) = true := by
 unfold dtS
 refine ok_num (by simp) (fun x hx => ?_) fun x hx => ?_
 · rw [List.append_assoc, List.append_assoc, List.append_assoc, head_app (dgw_ne (by decide) _)] at hx; exact dgw_dig _ _ x (List.mem_of_mem_head? hx)
 · simp only [List.mem_append, List.mem_singleton] at hx
   rcases hx with (((hx | hx) | hx) | hx) | hx
   · exact .inl (dgw_dig _ _ x hx)
   · exact .inr (.inr (.inl hx))
   · exact .inl (dgw_dig _ _ x hx)
   · exact .inr (.inr (.inl hx))
   · exact .inl (dgw_dig _ _ x hx)
theorem date_ex {n : Int} (h0 : -25567 <= n) (h1 : n <= 84370) : ∃ y m d, IsDate n y m d := by
 have hy : ∀ k : Nat, n < BB4.opens (1900 + k) -> ∃ y : Nat, 1900 <= y /\ y < 1900 + k /\ BB4.opens y <= n /\ n < BB4.opens (y + 1) := by
  intro k
  induction k with
  | zero =>
    intro h
    exfalso
    have e : BB4.opens 1900 = -25567 := by decide
    rw [Nat.add_zero] at h
    omega
  | succ k ih =>
    intro h
    by_cases hh : n < BB4.opens (1900 + k)
    · obtain ⟨y, a, b, c⟩ := ih hh
      exact ⟨y, a, by omega, c⟩
    · exact ⟨1900 + k, by omega, by omega, by omega, h⟩
 have e301 : BB4.opens (1900 + 301) = 84371 := by decide
 obtain ⟨y, y0, y1, g0, g1⟩ := hy 301 (by omega)
 rw [year_len (by omega)] at g1
 have hm : ∀ k : Nat, k <= 12 -> n < BB4.opens y + cum y (k + 1) -> ∃ m : Nat, 1 <= m /\ m <= k /\ BB4.opens y + cum y m <= n /\ n < BB4.opens y + cum y (m + 1) := by
  intro k
  induction k with
  | zero =>
    intro _ h
    exfalso
    have e : cum y (0 + 1) = 0 := rfl
    rw [e] at h
    omega
  | succ k ih =>
    intro hk h
    by_cases hh : n < BB4.opens y + cum y (k + 1)
    · obtain ⟨m, a, b, c⟩ := ih (by omega) hh
      exact ⟨m, a, by omega, c⟩
    · exact ⟨k + 1, by omega, by omega, by omega, h⟩
 have e : cum y 13 = cum y 12 + mlen y 12 := rfl
 rw [mlen12] at e
 obtain ⟨m, m0, m1, a, b⟩ := hm 12 (by decide) (by rw [e]; omega)
 rw [cum_step m0] at b
 exact ⟨y, m, (n - BB4.opens y - cum y m + 1).toNat, by omega, by omega, m0, m1, a, by omega, by omega⟩
theorem ok_date {n : Int} (h0 : -25567 <= n) (h1 : n <= 84370) : okTok (2, dateT n) = true := by
 obtain ⟨y, m, d, h⟩ := date_ex h0 h1
 rw [dateT_in h]; exact ok_dts y m d
theorem take_date {n : Int} (h0 : -25567 <= n) (h1 : n <= 84370) : takeD (dateT n) = (n, 0) := by
 obtain ⟨y, m, d, h⟩ := date_ex h0 h1
 rw [dateT_in h]
 have hy := h.y1; have hm := h.m1; have hd := h.dle
 have l4 := dgw_len 4 y; have l2 := dgw_len 2 m; have l1 := dgw_len 2 d
 have e0 : dtS y m d = dgw 4 y ++ (45 :: (dgw 2 m ++ (45 :: dgw 2 d))) := by unfold dtS; simp
 have t1 : ((dtS y m d).take 4).drop 0 = dgw 4 y := by rw [e0, List.drop_zero]; exact List.take_left' l4
 have t2 : ((dtS y m d).take 7).drop 5 = dgw 2 m := by
  rw [List.drop_take, e0, List.drop_append, l4, List.drop_of_length_le (by omega)]
  exact List.take_left' l2
 have t3 : ((dtS y m d).take 10).drop 8 = dgw 2 d := by
  rw [List.take_of_length_le (by rw [dt_len]; omega), e0, List.drop_append, l4, List.drop_of_length_le (by omega)]
  show List.drop (8 - 4) (45 :: (dgw 2 m ++ 45 :: dgw 2 d)) = _
  rw [List.drop_succ_cons, List.drop_append, l2, List.drop_of_length_le (by omega)]
  rfl
 have hF : dateF (dtS y m d) := by
  refine ⟨⟨dt_len _ _ _, ?_, ?_⟩, ?_, ?_, ?_⟩
  · rw [e0, List.getElem?_append_right (by omega), l4]; rfl
  · rw [e0, List.getElem?_append_right (by omega), l4]
    show (45 :: (dgw 2 m ++ 45 :: dgw 2 d))[3]? = _
    rw [List.getElem?_cons_succ, List.getElem?_append_right (by omega), l2]; rfl
  · rw [t1]; exact dgw_dig _ _
  · rw [t2]; exact dgw_dig _ _
  · rw [t3]; exact dgw_dig _ _
 have hP : DateP y m d := ⟨⟨h.y0, hy⟩, ⟨h.m0, hm⟩, by have := h.d; have := h.lo; omega, by have := h.d; have := h.hi; omega⟩
 unfold takeD
 rw [if_pos hF, t1, t2, t3, vl_dgw, vl_dgw, vl_dgw, Nat.mod_eq_of_lt (by omega), Nat.mod_eq_of_lt (by omega), Nat.mod_eq_of_lt (by omega)]
 unfold numberD
 rw [if_pos hP]
 have := h.d
 congr 1
 omega
theorem ok_name' {k : Int} {l : List Int} (hk : k = 1) (h : nameP l) : okTok (k, l) = true := by
 obtain ⟨⟨h1, h2, h3, h4⟩, _⟩ := h
 cases l with
 | nil => simp at h1
 | cons c w =>
   subst hk
   show ((decide ((1 : Int) = 1) && letB c && w.all wordB) || (decide ((1 : Int) = 2) && digB c && w.all numB)) = true
   have e1 := (letB_iff c).2 (by have := h3 c rfl; unfold Small at this; omega)
   rw [e1, List.all_eq_true.2 fun x hx => (wordB_iff x).2 ?_]
   · rfl
   have := h4 x (List.mem_cons_of_mem _ hx)
   unfold Inner Small at this
   rcases this with h | h | h
   · exact .inl ((letB_iff x).2 (by omega))
   · exact .inr (.inl ((digB_iff x).2 h))
   · exact .inr (.inr h)
theorem ok_name {l : List Int} (h : nameP l) : okTok (1, l) = true := ok_name' rfl h
theorem ok_words (n : Int) : okTok (1, countW n) = true /\ okTok (1, roundW n) = true /\ okTok (1, kindW n) = true /\ okTok (1, payW n) = true /\ okTok (1, overW n) = true /\ okTok (1, rollW n) = true := by
 unfold countW roundW kindW payW overW rollW
 refine ⟨?_, ?_, ?_, ?_, ?_, ?_⟩ <;> repeat' split
 all_goals decide +kernel
theorem cls_ok {p : Prod} (h : checkP p) : ∀ ts ∈ cls p, (∀ t ∈ ts, okTok t = true) /\ ∃ w r, ts = (1, w) :: r := by
 obtain ⟨⟨⟨hname, hcount, hrnd, hkind⟩, hevery, hshape⟩, ⟨hrate, hpen, hrl, hres⟩, ⟨hord, hover⟩, ⟨hll, hcap, hlc, htie⟩, ⟨⟨hhl, hhol⟩, hroll, hrh⟩⟩ := h
 have two : ∀ (w a : List Int) (k : Int), okTok (1, w) = true -> okTok (k, a) = true -> (∀ t ∈ [(1, w), (k, a)], okTok t = true) /\ ∃ w' r, [((1 : Int), w), (k, a)] = (1, w') :: r := fun w a k h1 h2 => ⟨fun t ht => by
  rcases List.mem_cons.1 ht with rfl | ht
  · exact h1
  · rw [List.mem_singleton.1 ht]; exact h2, _, _, rfl⟩
 have three : ∀ (w a b : List Int) (k j : Int), okTok (1, w) = true -> okTok (k, a) = true -> okTok (j, b) = true -> (∀ t ∈ [(1, w), (k, a), (j, b)], okTok t = true) /\ ∃ w' r, [((1 : Int), w), (k, a), (j, b)] = (1, w') :: r := fun w a b k j h1 h2 h3 => ⟨fun t ht => by
  rcases List.mem_cons.1 ht with rfl | ht
  · exact h1
  · rcases List.mem_cons.1 ht with rfl | ht
    · exact h2
    · rw [List.mem_singleton.1 ht]; exact h3, _, _, rfl⟩
 intro ts ht
 unfold cls at ht
 simp only [List.mem_append, List.mem_cons, List.not_mem_nil, or_false, List.mem_map] at ht
 rcases ht with ((((ht | ht) | ht) | ht) | ht) | ht
 · rcases ht with rfl | rfl | rfl | rfl | rfl | rfl | rfl | rfl
   · exact two _ _ _ rfl (ok_words _).1
   · exact two _ _ _ rfl (ok_words _).2.1
   · exact two _ _ _ rfl (ok_words _).2.2.1
   · exact two _ _ _ rfl (ok_dg _)
   · exact two _ _ _ rfl (ok_dg _)
   · exact two _ _ _ rfl (ok_dg _)
   · exact two _ _ _ rfl (ok_rate hrate.1)
   · exact two _ _ _ rfl (ok_rate hpen.1)
 · obtain ⟨r, hr, rfl⟩ := ht
   have : ∀ {q : Option Rs} {l : List Rs}, resetsP p.times q l -> ∀ r ∈ l, 0 <= r.rate := fun {q l} => by
    induction l generalizing q with
    | nil => intro _ r hr; cases hr
    | cons x l ih =>
      intro h r hr
      rcases List.mem_cons.1 hr with rfl | hr
      · exact h.2.1.1
      · exact ih h.2.2.2 r hr
   exact three _ _ _ _ _ rfl (ok_dg _) (ok_rate (this hres r hr))
 · rcases ht with rfl | rfl
   · refine ⟨fun t ht => ?_, _, _, rfl⟩
     simp only [List.mem_cons, List.not_mem_nil, or_false] at ht
     rcases ht with rfl | rfl | rfl | rfl | rfl
     · rfl
     all_goals exact (ok_words _).2.2.2.1
   · exact two _ _ _ rfl (ok_words _).2.2.2.2.1
 · obtain ⟨r, hr, rfl⟩ := ht
   have : ∀ {q : Option Ti} {l : List Ti}, tiersP q l -> ∀ r ∈ l, 0 <= r.fee := fun {q l} => by
    induction l generalizing q with
    | nil => intro _ r hr; cases hr
    | cons x l ih =>
      intro h r hr
      rcases List.mem_cons.1 hr with rfl | hr
      · exact h.2.1.1
      · exact ih h.2.2.2 r hr
   exact three _ _ _ _ _ rfl (ok_dg _) (ok_money (this htie r hr))
 · rcases ht with rfl | rfl
   · exact two _ _ _ rfl (ok_money hcap.1)
   · exact two _ _ _ rfl (ok_words _).2.2.2.2.2
 · obtain ⟨r, hr, rfl⟩ := ht
   have := hol_in hhol r hr
   exact two _ _ _ rfl (ok_date this.1 this.2)
end PS1

namespace PS2
open Go Go.Proofs VL D1 D2 B8 C19 B10 B12 B13 B14 B20 BB4 BB5 BB6 BB7 BB8 BB9 BB10 BB14 C1 C2 C3 C4 C6 C15 C18 C20 C22 C28 C28b C28c C28d C29 CO1 P1 P2 PS1
theorem next1 {t : C3.Tok} {r : List C3.Tok} (h : t.kind ≠ 0) : nextT (t :: r) = (t, r) := if_neg h
theorem want1 {k : Int} {w : List Int} {t : C3.Tok} {r : List C3.Tok} (hk : k ≠ 0) (h : t.kind = k) (hw : w = [] \/ t.text = w) : wantS k w (t :: r) = .ok t r := by
 unfold wantS
 rw [next1 (by rw [h]; exact hk), if_pos ⟨h, hw⟩]
theorem pick1 {ws : List (List Int)} {x : List Int} {t : C3.Tok} {r : List C3.Tok} (h : kt t = (1, x)) (hx : x ∈ ws) : pickS ws (t :: r) = .ok ((ws.idxOf x + 1 : Nat) : Int) r := by
 have h1 : t.kind = 1 := congrArg Prod.fst h
 have h2 : t.text = x := congrArg Prod.snd h
 unfold pickS
 rw [want1 (by decide) h1 (.inl rfl)]
 show (if t.text ∈ ws then _ else _) = _
 rw [h2, if_pos hx]
theorem dg_zero {n : Nat} (h : 2 <= (dg n).length) : (dg n).head? ≠ some 48 := by
 induction n using Nat.strongRecOn with
 | ind n ih =>
   rw [dg] at h ⊢
   split
   · rename_i h9; rw [if_pos h9] at h; simp at h
   · rename_i h9
     by_cases hs : n / 10 < 10
     · rw [dg_small hs]
       intro hh
       have : (48 : Int) + ((n / 10 : Nat) : Int) = 48 := by simpa using hh
       omega
     · have hl : 2 <= (dg (n / 10)).length := by
        rw [dg, if_neg hs, List.length_append]
        have := dg_ne0 (n / 10 / 10)
        have : 0 < (dg (n / 10 / 10)).length := List.length_pos_iff.2 this
        simp; omega
       have := ih (n / 10) (by omega) hl
       rw [head_app (dg_ne0 _)]; exact this
theorem numS_dg {n : Nat} (h : n < 1000000000) : numS (dg n) = some (n : Int) := by
 unfold numS
 rw [if_pos ⟨dg_dig n, by have := dg_len_le 8 n (by omega); omega, dg_zero⟩, vl_dg]
theorem num1 {v : Int} {t : C3.Tok} {r : List C3.Tok} (h : kt t = (2, dg v.toNat)) (h0 : 0 <= v) (hv : v < 1000000000) : numberS (t :: r) = .ok v r := by
 have h1 : t.kind = 2 := congrArg Prod.fst h
 have h2 : t.text = dg v.toNat := congrArg Prod.snd h
 unfold numberS
 rw [want1 (by decide) h1 (.inl rfl)]
 show (match numS t.text with | some n => Res.ok n r | none => .err t.at_ 7) = _
 rw [h2, numS_dg (by omega)]
 show Res.ok ((v.toNat : Nat) : Int) r = _
 rw [Int.toNat_of_nonneg h0]
theorem taken1 {f : List Int -> Int × Int} {x : List Int} {v : Int} {t : C3.Tok} {r : List C3.Tok} (h : kt t = (2, x)) (hf : f x = (v, 0)) : takenS f (t :: r) = .ok v r := by
 have h1 : t.kind = 2 := congrArg Prod.fst h
 have h2 : t.text = x := congrArg Prod.snd h
 unfold takenS
 rw [want1 (by decide) h1 (.inl rfl)]
 show (if (f t.text).2 = 0 then Res.ok (f t.text).1 r else .err t.at_ 7) = _
 rw [h2, hf, if_pos rfl]
structure Ef where
 w : List Int
 a : List (Int × List Int)
 u : Prod -> Prod
def Ef.ok (e : Ef) : Prop := ∀ (p : Prod) (ts r : List C3.Tok), ts.map kt = e.a -> clauseS e.w p (ts ++ r) = some (.ok (e.u p) r)
theorem map_one {ts : List C3.Tok} {x : Int × List Int} (h : ts.map kt = [x]) : ∃ t, ts = [t] /\ kt t = x := by
 cases ts with
 | nil => simp at h
 | cons t r =>
   rw [List.map_cons] at h
   injection h with h1 h2
   exact ⟨t, by rw [List.map_eq_nil_iff.1 h2], h1⟩
theorem map_cons {ts : List C3.Tok} {x : Int × List Int} {l : List (Int × List Int)} (h : ts.map kt = x :: l) : ∃ t r, ts = t :: r /\ kt t = x /\ r.map kt = l := by
 cases ts with
 | nil => simp at h
 | cons t r =>
   rw [List.map_cons] at h
   injection h with h1 h2
   exact ⟨t, r, rfl, h1, h2⟩
theorem ef_pick {w x : List Int} {ws : List (List Int)} {u : Int -> Prod -> Prod} (hx : x ∈ ws) (hc : ∀ p l, clauseS w p l = some ((pickS ws l).bind fun k r => .ok (u k p) r)) : Ef.ok ⟨w, [(1, x)], u ((ws.idxOf x + 1 : Nat) : Int)⟩ := fun p ts r h => by
 obtain ⟨t, rfl, ht⟩ := map_one h
 rw [hc, List.singleton_append, pick1 ht hx]; rfl
theorem ef_num {w : List Int} {v : Int} {u : Int -> Prod -> Prod} (h0 : 0 <= v) (hv : v < 1000000000) (hc : ∀ p l, clauseS w p l = some ((numberS l).bind fun k r => .ok (u k p) r)) : Ef.ok ⟨w, [(2, dg v.toNat)], u v⟩ := fun p ts r h => by
 obtain ⟨t, rfl, ht⟩ := map_one h
 rw [hc, List.singleton_append, num1 ht h0 hv]; rfl
theorem ef_taken {w x : List Int} {f : List Int -> Int × Int} {v : Int} {u : Int -> Prod -> Prod} (hf : f x = (v, 0)) (hc : ∀ p l, clauseS w p l = some ((takenS f l).bind fun k r => .ok (u k p) r)) : Ef.ok ⟨w, [(2, x)], u v⟩ := fun p ts r h => by
 obtain ⟨t, rfl, ht⟩ := map_one h
 rw [hc, List.singleton_append, taken1 ht hf]; rfl
theorem ef_two {w x : List Int} {f : List Int -> Int × Int} {n v : Int} {u : Int -> Int -> Prod -> Prod} (h0 : 0 <= n) (hv : n < 1000000000) (hf : f x = (v, 0)) (hc : ∀ p l, clauseS w p l = some ((numberS l).bind fun k r => (takenS f r).bind fun v r => .ok (u k v p) r)) : Ef.ok ⟨w, [(2, dg n.toNat), (2, x)], u n v⟩ := fun p ts r h => by
 obtain ⟨t, ts, rfl, ht, h⟩ := map_cons h
 obtain ⟨s, rfl, hs⟩ := map_one h
 rw [hc]
 show some ((numberS (t :: ([s] ++ r))).bind _) = _
 rw [num1 ht h0 hv]
 show some ((takenS f (s :: r)).bind _) = _
 rw [taken1 hs hf]; rfl
theorem grp (d : Nat) (last : C3.Tok) (hl : kt last = (3, [125])) : ∀ (es : List Ef) (q : Prod) (sn : List (List Int)) (ts r : List C3.Tok) (f : Nat), (∀ e ∈ es, e.ok) -> ts.map kt = es.flatMap (fun e => (1, e.w) :: e.a ++ [(3, [59])]) -> es.length < f ->
 (∀ e ∈ es, manyW e.w = false -> e.w ∉ sn) -> es.Pairwise (fun a b => manyW b.w = false -> a.w ≠ b.w) -> groupS f d (ts ++ last :: r) q sn = .ok (es.foldl (fun q e => e.u q) q, (es.map Ef.w).reverse ++ sn) r
 | [], q, sn, ts, r, f, _, ht, hf, _, _ => by
   have ht : ts.map kt = [] := ht
   rw [List.map_eq_nil_iff.1 ht]
   obtain ⟨f, rfl⟩ : ∃ g, f = g + 1 := ⟨f - 1, by omega⟩
   have h1 : last.kind = 3 := congrArg Prod.fst hl
   have h2 : last.text = [125] := congrArg Prod.snd hl
   rw [group_step, List.nil_append, next1 (by rw [h1]; decide), if_pos ⟨h1, h2⟩]; rfl
 | e :: es, q, sn, ts, r, f, hok, ht, hf, hs, hp => by
   obtain ⟨f, rfl⟩ : ∃ g, f = g + 1 := ⟨f - 1, by omega⟩
   rw [List.flatMap_cons, List.append_assoc] at ht
   obtain ⟨t, ts, rfl, h1, ht⟩ := map_cons ht
   obtain ⟨ta, ts, rfl, ha, ht⟩ := List.map_eq_append_iff.1 ht
   obtain ⟨tb, ts, rfl, hb, ht⟩ := map_cons ht
   have k1 : t.kind = 1 := congrArg Prod.fst h1
   have x1 : t.text = e.w := congrArg Prod.snd h1
   have hcl : clauseS e.w q (ta ++ (tb :: (ts ++ last :: r))) = some (.ok (e.u q) (tb :: (ts ++ last :: r))) := hok e (.head _) q ta _ ha
   rw [group_step, List.cons_append, List.append_assoc, List.cons_append, next1 (by rw [k1]; decide)]
   simp only
   rw [k1, x1, if_neg (fun h => absurd h.1 (by decide)), if_neg (fun h => absurd h.1 (by decide)), if_neg (fun h => h rfl), hcl]
   simp only
   rw [if_neg (fun h => hs e (.head _) h.2 h.1)]
   show ((wantS 3 [59] (tb :: (ts ++ last :: r))).bind fun _ r' => groupS f d r' (e.u q) (e.w :: sn)) = _
   rw [want1 (by decide) (congrArg Prod.fst hb) (.inr (congrArg Prod.snd hb))]
   show groupS f d (ts ++ last :: r) (e.u q) (e.w :: sn) = _
   rw [List.pairwise_cons] at hp
   rw [grp d last hl es (e.u q) (e.w :: sn) ts r f (fun e' h' => hok e' (.tail _ h')) ht (by rw [List.length_cons] at hf; omega) (fun e' h' hm hc => by
    rcases List.mem_cons.1 hc with hc | hc
    · exact hp.1 e' h' hm hc.symm
    · exact hs e' (.tail _ h') hm hc) hp.2]
   simp
end PS2

namespace PS3
open Go Go.Proofs VL D1 D2 B8 C19 B10 B12 B13 B14 B20 BB4 BB5 BB6 BB7 BB8 BB9 BB10 BB14 C1 C2 C3 C4 C6 C15 C18 C20 C22 C28 C28b C28c C28d C29 CO1 P1 P2 PS1 PS2
theorem lexF_nl (f : Nat) (l : List Int) (i : Nat) : lexF (f + 1) (10 :: l) i = lexF (f + 1) l (i + 1) := by
 have hs : skipN false (10 :: l) = 1 + skipN false l := by
  show (if (10 : Int) = 10 then 1 + skipN false l else _) = _
  rw [if_pos rfl]
 unfold lexF
 rw [hs, show (1 : Nat) + skipN false l = skipN false l + 1 by omega, List.drop_succ_cons]
 have e : i + (skipN false l + 1) = i + 1 + skipN false l := by omega
 rw [e]
theorem lex_then {k : Int} {a c : List Int} {t : Int × List Int} {ts : List (Int × List Int)} (h : okTok (k, a) = true) (hc : LexTo c (t :: ts)) : LexTo (a ++ 32 :: c) ((k, a) :: t :: ts) := by
 intro f rest i
 obtain ⟨k1, e1, g1⟩ := hc f rest (i + a.length + 1)
 refine ⟨⟨k, i, a⟩ :: k1, by rw [List.map_cons, e1]; rfl, ?_⟩
 show lexF (f + (ts.length + 1) + 1) ((a ++ 32 :: c) ++ rest) i = _
 rw [List.append_assoc]
 show lexF (f + (ts.length + 1) + 1) (a ++ 32 :: (c ++ rest)) i = _
 rw [lex_tok h 32 (by decide), ← Nat.add_assoc, lexF_blank]
 have g1 : lexF (f + ts.length + 1) (c ++ rest) (i + a.length + 1) = _ := g1
 rw [g1, preL_app]
 rw [show i + a.length + 1 + c.length = i + (a ++ 32 :: c).length by simp; omega]; rfl
theorem lex_nl {c : List Int} {t : Int × List Int} {ts : List (Int × List Int)} (hc : LexTo c (t :: ts)) : LexTo (10 :: c) (t :: ts) := by
 intro f rest i
 obtain ⟨k1, e1, g1⟩ := hc f rest (i + 1)
 refine ⟨k1, e1, ?_⟩
 show lexF (f + ts.length + 1) (10 :: (c ++ rest)) i = _
 rw [lexF_nl]
 refine g1.trans ?_
 rw [show i + 1 + c.length = i + (10 :: c).length by simp; omega]
theorem lex_bl {c : List Int} {t : Int × List Int} {ts : List (Int × List Int)} (hc : LexTo c (t :: ts)) : LexTo (32 :: c) (t :: ts) := by
 intro f rest i
 obtain ⟨k1, e1, g1⟩ := hc f rest (i + 1)
 refine ⟨k1, e1, ?_⟩
 show lexF (f + ts.length + 1) (32 :: (c ++ rest)) i = _
 rw [lexF_blank]
 refine g1.trans ?_
 rw [show i + 1 + c.length = i + (32 :: c).length by simp; omega]
def clU (ts : List (Int × List Int)) : List Int := 10 :: 32 :: 32 :: txt ts
def clK (ts : List (Int × List Int)) : List (Int × List Int) := ts ++ [(3, [59])]
theorem lex_cls : ∀ (l : List (List (Int × List Int))), (∀ ts ∈ l, (∀ t ∈ ts, okTok t = true) /\ ∃ w r, ts = (1, w) :: r) -> LexTo (l.flatMap clU) (l.flatMap clK)
 | [], _ => LexTo.nil
 | ts :: l, h => by
   rw [List.flatMap_cons, List.flatMap_cons]
   refine LexTo.app ?_ (lex_cls l fun ts h' => h ts (.tail _ h'))
   obtain ⟨h1, w, r, rfl⟩ := h _ (.head _)
   exact lex_nl (lex_bl (lex_bl (lex_txt _ h1)))
theorem shift : ∀ l : List (List (Int × List Int)), 10 :: l.flatMap clT = l.flatMap clU ++ [10]
 | [] => rfl
 | ts :: l => by
   rw [List.flatMap_cons, List.flatMap_cons, List.append_assoc, ← shift l]
   unfold clT clU
   simp
noncomputable def hdS (p : Prod) : List Int := w_product ++ 32 :: (sB p.name ++ 32 :: [123])
def hdT (p : Prod) : List (Int × List Int) := [(1, w_product), (1, sB p.name), (3, [123])]
theorem print_seg (p : Prod) : printS p = (hdS p ++ (cls p).flatMap clU ++ (10 :: [125])) ++ [10] := by
 rw [printS_eq]
 have h := shift (cls p)
 have : w_product ++ [32] ++ sB p.name ++ [32, 123, 10] ++ (cls p).flatMap clT ++ [125, 10] = hdS p ++ (10 :: (cls p).flatMap clT) ++ [125, 10] := by unfold hdS; simp
 rw [this, h]
 simp
noncomputable def allK (p : Prod) : List (Int × List Int) := hdT p ++ (cls p).flatMap clK ++ [(3, [125])]
theorem lex_print {p : Prod} (h : checkP p) : LexTo (hdS p ++ (cls p).flatMap clU ++ (10 :: [125])) (allK p) :=
 ((lex_then (by decide) (lex_then (ok_name h.1.1.1) (lex_sign 123 (by decide)))).app (lex_cls _ (cls_ok h))).app (lex_nl (lex_sign 125 (by decide)))
theorem txt_len : ∀ ts : List (Int × List Int), (∀ t ∈ ts, okTok t = true) -> ts.length + 1 <= (txt ts).length
 | [], _ => by decide
 | [(k, a)], h => by
   have : a ≠ [] := by rintro rfl; exact absurd (h _ (.head _)) (by simp [okTok])
   have := List.length_pos_iff.2 this
   simp [txt]; omega
 | (k, a) :: t :: r, h => by
  have := txt_len (t :: r) fun t ht => h t (.tail _ ht)
  simp [txt] at this ⊢; omega
theorem flat_le {α : Type} {β : Type} {γ : Type} (f : α -> List β) (g : α -> List γ) : ∀ l : List α, (∀ x ∈ l, (f x).length <= (g x).length) -> (l.flatMap f).length <= (l.flatMap g).length
 | [], _ => Nat.le_refl _
 | x :: l, h => by
   have h1 := h x (.head _)
   have h2 := flat_le f g l fun y hy => h y (.tail _ hy)
   rw [List.flatMap_cons, List.flatMap_cons, List.length_append, List.length_append]; omega
theorem lexS_print {p : Prod} (h : checkP p) (hl : (printS p).length <= 20000) : ∃ toks : List C3.Tok, toks.map kt = allK p /\ ∃ n, lexS (printS p) = .ok (toks ++ [⟨0, n, []⟩]) := by
 have hf := flat_le clK clU (cls p) fun ts ht => by
  have := txt_len ts (cls_ok h ts ht).1
  unfold clK clU; simp; omega
 have hlen : (allK p).length <= (printS p).length := by
  rw [print_seg]
  unfold allK hdT hdS
  simp only [List.length_append, List.length_cons, List.length_nil]
  have : w_product.length = 7 := rfl
  omega
 obtain ⟨f, hfu⟩ : ∃ f, (printS p).length + 1 = f + 1 + (allK p).length := ⟨(printS p).length - (allK p).length, by omega⟩
 obtain ⟨toks, e, g1⟩ := lex_print h (f + 1) [10] 0
 have e2 : ∀ m, lexF (f + 1) [10] m = .ok [⟨0, m + 1, []⟩] := fun m => by rw [lexF_nl]; rfl
 rw [← print_seg, e2] at g1
 refine ⟨toks, e, 0 + (hdS p ++ (cls p).flatMap clU ++ (10 :: [125])).length + 1, ?_⟩
 unfold lexS
 rw [if_neg (by omega), hfu, g1]
 rfl
def rEf (r : Rs) : Ef := ⟨w_reset, [(2, dg r.aft.toNat), (2, rateS r.rate)], fun q => { q with resets := q.resets ++ [⟨r.aft, r.rate⟩] }⟩
def tEf (r : Ti) : Ef := ⟨w_late, [(2, dg r.days.toNat), (2, moneyS r.fee)], fun q => { q with late := q.late ++ [⟨r.days, r.fee⟩] }⟩
noncomputable def hEf (n : Int) : Ef := ⟨w_holiday, [(2, dateT n)], fun q => { q with hol := q.hol ++ [n] }⟩
def efA (p : Prod) : List Ef := [⟨w_count, [(1, countW p.count)], fun q => { q with count := p.count }⟩, ⟨w_round, [(1, roundW p.rnd)], fun q => { q with rnd := p.rnd }⟩, ⟨w_kind, [(1, kindW p.kind)], fun q => { q with kind := p.kind }⟩,
 ⟨w_every, [(2, dg p.every.toNat)], fun q => { q with every := p.every }⟩, ⟨w_times, [(2, dg p.times.toNat)], fun q => { q with times := p.times }⟩, ⟨w_grace, [(2, dg p.grace.toNat)], fun q => { q with grace := p.grace }⟩,
 ⟨w_rate, [(2, rateS p.rate)], fun q => { q with rate := p.rate }⟩, ⟨w_penalty, [(2, rateS p.pen)], fun q => { q with pen := p.pen }⟩]
def efB (p : Prod) : List Ef := [⟨w_order, [(1, payW p.o1), (1, payW p.o2), (1, payW p.o3), (1, payW p.o4)], fun q => { q with o1 := p.o1, o2 := p.o2, o3 := p.o3, o4 := p.o4 }⟩, ⟨w_over, [(1, overW p.over)], fun q => { q with over := p.over }⟩]
def efC (p : Prod) : List Ef := [⟨w_cap, [(2, moneyS p.cap)], fun q => { q with cap := p.cap }⟩, ⟨w_roll, [(1, rollW p.roll)], fun q => { q with roll := p.roll }⟩]
noncomputable def effs (p : Prod) : List Ef := efA p ++ p.resets.map rEf ++ efB p ++ p.late.map tEf ++ efC p ++ p.hol.map hEf
theorem cls_effs (p : Prod) : cls p = (effs p).map fun e => (1, e.w) :: e.a := by
 unfold cls effs
 simp only [List.map_append, List.map_map]
 rfl
theorem ef_order {a b c d : Int} (h : orderP a b c d) : Ef.ok ⟨w_order, [(1, payW a), (1, payW b), (1, payW c), (1, payW d)], fun q => { q with o1 := a, o2 := b, o3 := c, o4 := d }⟩ := fun p ts r ht => by
 obtain ⟨h1, h2, h3, h4, n1, n2, n3, n4, n5, n6⟩ := h
 obtain ⟨t1, ts, rfl, k1, ht⟩ := map_cons ht
 obtain ⟨t2, ts, rfl, k2, ht⟩ := map_cons ht
 obtain ⟨t3, ts, rfl, k3, ht⟩ := map_cons ht
 obtain ⟨t4, rfl, k4⟩ := map_one ht
 have hix : ∀ x : Int, 1 <= x /\ x <= 4 -> payW x ∈ owords /\ ((owords.idxOf (payW x) + 1 : Nat) : Int) = x := fun x hx => by
  have : x = 1 \/ x = 2 \/ x = 3 \/ x = 4 := by omega
  rcases this with rfl | rfl | rfl | rfl <;> exact ⟨by decide, by decide⟩
 have pk : ∀ (x : Int) (t : C3.Tok) (r : List C3.Tok), 1 <= x /\ x <= 4 -> kt t = (1, payW x) -> pickS owords (t :: r) = .ok x r := fun x t r hx hk => by rw [pick1 hk (hix x hx).1, (hix x hx).2]
 have st : ∀ (n : Nat) (acc : List Int) (x : Int) (t : C3.Tok) (r : List C3.Tok), 1 <= x /\ x <= 4 -> kt t = (1, payW x) -> x ∉ acc -> orderN (n + 1) acc (t :: r) = orderN n (acc ++ [x]) r := fun n acc x t r hx hk hn => by
  show (pickS owords (t :: r)).bind _ = _
  rw [pk x t r hx hk]
  show (if x ∈ acc then _ else _) = _
  rw [if_neg hn]
 show some ((orderN 4 [] (t1 :: t2 :: t3 :: ([t4] ++ r))).bind _) = _
 rw [st 3 [] a t1 _ h1 k1 (by simp), st 2 _ b t2 _ h2 k2 (by simp; omega), st 1 _ c t3 _ h3 k3 (by simp; omega), List.singleton_append, st 0 _ d t4 _ h4 k4 (by simp; omega)]
 rfl
theorem effs_ok {p : Prod} (h : checkP p) : ∀ e ∈ effs p, e.ok := by
 obtain ⟨⟨⟨hname, hcount, hrnd, hkind⟩, hevery, hshape⟩, ⟨hrate, hpen, hrl, hres⟩, ⟨hord, hover⟩, ⟨hll, hcap, hlc, htie⟩, ⟨⟨hhl, hhol⟩, hroll, hrh⟩⟩ := h
 have hev : 0 <= p.every /\ p.every < 1000000000 := by unfold shape2 at hevery; omega
 have hti : 0 <= p.times /\ p.times < 1000000000 := by unfold shape3 at hshape; omega
 have hgr : 0 <= p.grace /\ p.grace < 1000000000 := by unfold shape3 at hshape; omega
 have ht6 : p.times <= 600 := by unfold shape3 at hshape; omega
 have tr : ∀ v : Int, 0 <= v /\ v <= 1000000000 -> takeR (rateS v) = (v, 0) := fun v hv => by rw [take_rate (by unfold I64; omega), if_pos (by omega)]
 have tm : ∀ v : Int, 0 <= v /\ v <= 10000000000000 -> takeM (moneyS v) = (v, 0) := fun v hv => by rw [take_money (by unfold I64; omega), if_pos (by omega)]
 intro e he
 unfold effs at he
 simp only [List.mem_append, List.mem_map] at he
 rcases he with ((((he | ⟨r, hr, rfl⟩) | he) | ⟨r, hr, rfl⟩) | he) | ⟨r, hr, rfl⟩
 · unfold efA at he
   simp only [List.mem_cons, List.not_mem_nil, or_false] at he
   rcases he with rfl | rfl | rfl | rfl | rfl | rfl | rfl | rfl
   · have : p.count = 1 \/ p.count = 2 \/ p.count = 3 := by omega
     rcases this with e | e | e <;> rw [e] <;> exact ef_pick (ws := [w_thirty, w_fixed, w_actual]) (u := fun k q => { q with count := k }) (by decide) fun _ _ => rfl
   · rcases hrnd with e | e <;> rw [e] <;> exact ef_pick (ws := [w_half_up, w_down]) (u := fun k q => { q with rnd := if k = 1 then 1 else 3 }) (by decide) fun _ _ => rfl
   · have : p.kind = 1 \/ p.kind = 2 \/ p.kind = 3 := by omega
     rcases this with e | e | e <;> rw [e] <;> exact ef_pick (ws := [w_annuity, w_equal, w_bullet]) (u := fun k q => { q with kind := k }) (by decide) fun _ _ => rfl
   · exact ef_num (u := fun k q => { q with every := k }) hev.1 hev.2 fun _ _ => rfl
   · exact ef_num (u := fun k q => { q with times := k }) hti.1 hti.2 fun _ _ => rfl
   · exact ef_num (u := fun k q => { q with grace := k }) hgr.1 hgr.2 fun _ _ => rfl
   · exact ef_taken (u := fun k q => { q with rate := k }) (tr _ hrate) fun _ _ => rfl
   · exact ef_taken (u := fun k q => { q with pen := k }) (tr _ hpen) fun _ _ => rfl
 · have h1 := res_in hres r hr
   have h2 : ∀ {q : Option Rs} {l : List Rs}, resetsP p.times q l -> ∀ r ∈ l, 0 <= r.rate /\ r.rate <= 1000000000 := fun {q l} => by
    induction l generalizing q with
    | nil => intro _ r hr; cases hr
    | cons x l ih =>
      intro h r hr
      rcases List.mem_cons.1 hr with rfl | hr
      · exact h.2.1
      · exact ih h.2.2.2 r hr
   exact ef_two (u := fun k v q => { q with resets := q.resets ++ [⟨k, v⟩] }) (by omega) (by omega) (tr _ (h2 hres r hr)) fun _ _ => rfl
 · unfold efB at he
   simp only [List.mem_cons, List.not_mem_nil, or_false] at he
   rcases he with rfl | rfl
   · exact ef_order hord
   · have : p.over = 1 \/ p.over = 2 \/ p.over = 3 := by omega
     rcases this with e | e | e <;> rw [e] <;> exact ef_pick (ws := [w_hold, w_prepay, w_refund]) (u := fun k q => { q with over := k }) (by decide) fun _ _ => rfl
 · have h1 := tier_in htie r hr
   have h2 : ∀ {q : Option Ti} {l : List Ti}, tiersP q l -> ∀ r ∈ l, 0 <= r.fee /\ r.fee <= 10000000000000 := fun {q l} => by
    induction l generalizing q with
    | nil => intro _ r hr; cases hr
    | cons x l ih =>
      intro h r hr
      rcases List.mem_cons.1 hr with rfl | hr
      · exact h.2.1
      · exact ih h.2.2.2 r hr
   exact ef_two (u := fun k v q => { q with late := q.late ++ [⟨k, v⟩] }) (by omega) (by omega) (tm _ (h2 htie r hr)) fun _ _ => rfl
 · unfold efC at he
   simp only [List.mem_cons, List.not_mem_nil, or_false] at he
   rcases he with rfl | rfl
   · exact ef_taken (u := fun k q => { q with cap := k }) (tm _ hcap) fun _ _ => rfl
   · have : p.roll = 1 \/ p.roll = 2 \/ p.roll = 3 \/ p.roll = 4 := by omega
     rcases this with e | e | e | e <;> rw [e] <;> exact ef_pick (ws := [w_stay, w_next, w_within, w_previous]) (u := fun k q => { q with roll := k }) (by decide) fun _ _ => rfl
 · have h1 := hol_in hhol r hr
   exact ef_taken (u := fun k q => { q with hol := q.hol ++ [k] }) (take_date h1.1 h1.2) fun _ _ => rfl
end PS3

namespace PS4
open Go Go.Proofs VL D1 D2 B8 C19 B10 B12 B13 B14 B20 BB4 BB5 BB6 BB7 BB8 BB9 BB10 BB14 C1 C2 C3 C4 C6 C15 C18 C20 C22 C28 C28b C28c C28d C29 CO1 P1 P2 PS1 PS2 PS3
theorem fold_r : ∀ (l : List Rs) (q : Prod), (l.map rEf).foldl (fun q e => e.u q) q = { q with resets := q.resets ++ l }
 | [], q => by simp
 | r :: l, q => by rw [List.map_cons, List.foldl_cons, fold_r l]; simp [rEf]
theorem fold_t : ∀ (l : List Ti) (q : Prod), (l.map tEf).foldl (fun q e => e.u q) q = { q with late := q.late ++ l }
 | [], q => by simp
 | r :: l, q => by rw [List.map_cons, List.foldl_cons, fold_t l]; simp [tEf]
theorem fold_h : ∀ (l : List Int) (q : Prod), (l.map hEf).foldl (fun q e => e.u q) q = { q with hol := q.hol ++ l }
 | [], q => by simp
 | r :: l, q => by rw [List.map_cons, List.foldl_cons, fold_h l]; simp [hEf]
theorem fold_effs (p : Prod) : (effs p).foldl (fun q e => e.u q) { prod0 with name := p.name, over := 1, roll := 1 } = p := by
 unfold effs
 rw [List.foldl_append, List.foldl_append, List.foldl_append, List.foldl_append, List.foldl_append, fold_h, fold_t, fold_r]
 rfl
theorem pw_words (p : Prod) : ((effs p).map Ef.w).Pairwise (fun a b => manyW b = false -> a ≠ b) := by
 have hr : (p.resets.map rEf).map Ef.w = List.replicate p.resets.length w_reset := by rw [List.map_map]; exact List.map_const' ..
 have ht : (p.late.map tEf).map Ef.w = List.replicate p.late.length w_late := by rw [List.map_map]; exact List.map_const' ..
 have hh : (p.hol.map hEf).map Ef.w = List.replicate p.hol.length w_holiday := by rw [List.map_map]; exact List.map_const' ..
 have hA : (efA p).map Ef.w = [w_count, w_round, w_kind, w_every, w_times, w_grace, w_rate, w_penalty] := rfl
 have hB : (efB p).map Ef.w = [w_order, w_over] := rfl
 have hC : (efC p).map Ef.w = [w_cap, w_roll] := rfl
 have rp : ∀ (n : Nat) (w : List Int), manyW w = true -> (List.replicate n w).Pairwise (fun a b => manyW b = false -> a ≠ b) := fun n w hw => List.pairwise_replicate.2 (.inr fun h => by rw [hw] at h; cases h)
 unfold effs
 simp only [List.map_append, hr, ht, hh, hA, hB, hC]
 have key : ∀ (X Y : List (List Int)), X.Pairwise (fun a b => manyW b = false -> a ≠ b) -> Y.Pairwise (fun a b => manyW b = false -> a ≠ b) -> (∀ a ∈ X, ∀ b ∈ Y, manyW b = false -> a ≠ b) -> (X ++ Y).Pairwise (fun a b => manyW b = false -> a ≠ b) := fun X Y h1 h2 h3 => List.pairwise_append.2 ⟨h1, h2, h3⟩
 have many : ∀ (X : List (List Int)) (n : Nat) (w : List Int), manyW w = true -> ∀ a ∈ X, ∀ b ∈ List.replicate n w, manyW b = false -> a ≠ b := fun X n w hw a _ b hb h => by rw [(List.mem_replicate.1 hb).2, hw] at h; cases h
 refine key _ _ (key _ _ (key _ _ (key _ _ (key _ _ (by decide) (rp _ _ rfl) (many _ _ _ rfl)) (by decide) ?_) (rp _ _ rfl) (many _ _ _ rfl)) (by decide) ?_) (rp _ _ rfl) (many _ _ _ rfl)
 · intro a ha b hb
   rcases List.mem_append.1 ha with h1 | h1 <;> clear ha
   · revert a; revert b; decide
   · rw [(List.mem_replicate.1 h1).2]; clear h1; revert b; decide
 · intro a ha b hb
   rcases List.mem_append.1 ha with h1 | h1 <;> clear ha
   · rcases List.mem_append.1 h1 with h2 | h2 <;> clear h1
     · rcases List.mem_append.1 h2 with h1 | h1 <;> clear h2
       · revert a; revert b; decide
       · rw [(List.mem_replicate.1 h1).2]; clear h1; revert b; decide
     · revert a; revert b; decide
   · rw [(List.mem_replicate.1 h1).2]; clear h1; revert b; decide
theorem whole_effs (p : Prod) : wholeP (((effs p).map Ef.w).reverse ++ []) := by
 have hm : ∀ w ∈ [w_count, w_round, w_kind, w_every, w_times, w_rate, w_order], w ∈ ((effs p).map Ef.w).reverse ++ [] := fun w hw => by
  rw [List.append_nil, List.mem_reverse]
  unfold effs
  simp only [List.map_append, List.mem_append]
  have : w ∈ (efA p).map Ef.w \/ w ∈ (efB p).map Ef.w := by
   have hA : (efA p).map Ef.w = [w_count, w_round, w_kind, w_every, w_times, w_grace, w_rate, w_penalty] := rfl
   have hB : (efB p).map Ef.w = [w_order, w_over] := rfl
   rw [hA, hB]; revert w; decide
  rcases this with h | h
  · exact .inl (.inl (.inl (.inl (.inl h))))
  · exact .inl (.inl (.inl (.inr h)))
 exact ⟨hm _ (by decide), hm _ (by decide), hm _ (by decide), hm _ (by decide), hm _ (by decide), hm _ (by decide), hm _ (by decide)⟩
open Classical in
theorem parse_print {p : Prod} (h : checkP p) (hl : (printS p).length <= 20000) : parseS (printS p) = (p, 0, 0) := by
 obtain ⟨toks, e, n, hlex⟩ := lexS_print h hl
 have htext : textP (toks ++ [⟨0, n, []⟩]) = .ok (p, ((effs p).map Ef.w).reverse ++ []) [⟨0, n, []⟩] := by
  unfold allK hdT at e
  rw [List.append_assoc] at e
  obtain ⟨t1, ts, rfl, k1, e⟩ := map_cons e
  obtain ⟨t2, ts, rfl, k2, e⟩ := map_cons e
  obtain ⟨t3, ts, rfl, k3, e⟩ := map_cons e
  have e : ts.map kt = (cls p).flatMap clK ++ [(3, [125])] := e
  obtain ⟨tb, tl, rfl, hb, e⟩ := List.map_eq_append_iff.1 e
  obtain ⟨last, rfl, kl⟩ := map_one e
  have hb2 : tb.map kt = (effs p).flatMap (fun e => (1, e.w) :: e.a ++ [(3, [59])]) := by rw [hb, cls_effs, List.flatMap_map]; rfl
  have x2 : t2.text = sB p.name := congrArg Prod.snd k2
  unfold textP
  show (wantS 1 w_product (t1 :: t2 :: t3 :: (tb ++ [last] ++ [⟨0, n, []⟩]))).bind _ = _
  rw [want1 (by decide) (congrArg Prod.fst k1) (.inr (congrArg Prod.snd k1))]
  show (wantS 1 [] (t2 :: t3 :: (tb ++ [last] ++ [⟨0, n, []⟩]))).bind _ = _
  rw [want1 (k := 1) (by decide) (congrArg Prod.fst k2) (.inl rfl)]
  show (if nameP t2.text then _ else _) = _
  rw [x2, if_pos h.1.1.1, want1 (by decide) (congrArg Prod.fst k3) (.inr (congrArg Prod.snd k3))]
  show (groupS ((tb ++ [last] ++ [(⟨0, n, []⟩ : C3.Tok)]).length + 1) 1 (tb ++ [last] ++ [(⟨0, n, []⟩ : C3.Tok)]) _ []).bind _ = _
  rw [List.append_assoc]
  have hle : (effs p).length < (tb ++ ([last] ++ [(⟨0, n, []⟩ : C3.Tok)])).length + 1 := by
   have h1 : tb.length = ((effs p).flatMap (fun e => (1, e.w) :: e.a ++ [(3, [59])])).length := by rw [← hb2, List.length_map]
   have h2 := flat_le (fun e : Ef => [e]) (fun e => (1, e.w) :: e.a ++ [((3 : Int), ([59] : List Int))]) (effs p) (fun e _ => by simp)
   rw [show (effs p).flatMap (fun e => [e]) = effs p by induction effs p with | nil => rfl | cons x l ih => rw [List.flatMap_cons, ih]; rfl] at h2
   rw [List.length_append]; omega
  have hg := grp 1 last kl (effs p) { prod0 with name := toBA (sB p.name), over := 1, roll := 1 } [] tb [⟨0, n, []⟩] _ (effs_ok h) hb2 hle (fun e _ _ hc => by cases hc) (List.pairwise_map.1 (pw_words p))
  rw [toBA_sB] at hg ⊢
  rw [fold_effs] at hg
  exact (congrArg (fun x => Res.bind x _) hg).trans rfl
 unfold parseS
 rw [hlex]
 simp only
 rw [htext]
 simp only
 rw [if_pos ⟨whole_effs p, h⟩]
theorem ln_len (s : List Int) : (lnS s).length = s.length + 4 := by unfold lnS; simp
theorem flat_bound {α : Type} (f : α -> List Int) (n : Nat) : ∀ l : List α, (∀ x ∈ l, (f x).length <= n) -> (l.flatMap f).length <= n * l.length
 | [], _ => Nat.zero_le _
 | x :: l, h => by
   have h1 := h x (.head _)
   have h2 := flat_bound f n l fun y hy => h y (.tail _ hy)
   rw [List.flatMap_cons, List.length_append, List.length_cons, Nat.mul_succ]; omega
theorem print_len {p : Prod} (h : checkP p) : (printS p).length <= 20000 := by
 obtain ⟨⟨⟨hname, hcount, hrnd, hkind⟩, hevery, hshape⟩, ⟨hrate, hpen, hrl, hres⟩, ⟨hord, hover⟩, ⟨hll, hcap, hlc, htie⟩, ⟨⟨hhl, hhol⟩, hroll, hrh⟩⟩ := h
 have hn : ∀ v : Int, v < 1000000 -> (dg v.toNat).length <= 20 := fun v hv => by have := (dg_le v hv).1; rw [toBA_size] at this; exact this
 have hev : p.every < 1000000 := by unfold shape2 at hevery; omega
 have hti : p.times < 1000000 := by unfold shape3 at hshape; omega
 have hgr : p.grace < 1000000 := by unfold shape3 at hshape; omega
 have hw : ∀ n, (countW n).length <= 10 /\ (roundW n).length <= 10 /\ (kindW n).length <= 10 /\ (overW n).length <= 10 /\ (rollW n).length <= 10 /\ (payW n).length <= 10 := fun n => by
  have h1 := (countW_b n).2; have h2 := (roundW_b n).2; have h3 := (kindW_b n).2; have h4 := (overW_b n).2; have h5 := (rollW_b n).2; have h6 := (payW_b n).2
  rw [toBA_size] at h1 h2 h3 h4 h5 h6
  exact ⟨h1, h2, h3, h4, h5, h6⟩
 have r1 := flat_bound resetS 80 p.resets fun r hr => by
  have h1 := res_in hres r hr
  have h2 := hn r.aft (by omega)
  have h3 : (rateS r.rate).length <= 40 := by
   have : ∀ {q : Option Rs} {l : List Rs}, resetsP p.times q l -> ∀ r ∈ l, 0 <= r.rate /\ r.rate <= 1000000000 := fun {q l} => by
    induction l generalizing q with
    | nil => intro _ r hr; cases hr
    | cons x l ih =>
      intro h r hr
      rcases List.mem_cons.1 hr with rfl | hr
      · exact h.2.1
      · exact ih h.2.2.2 r hr
   have := this hres r hr
   exact rateS_len (by unfold I64; omega)
  unfold resetS
  rw [ln_len]; simp only [List.length_append, List.length_cons, List.length_nil]
  have : w_reset.length = 5 := rfl
  omega
 have r2 := flat_bound lateS 80 p.late fun r hr => by
  have h1 := tier_in htie r hr
  have h2 := hn r.days (by omega)
  have h3 : (moneyS r.fee).length <= 30 := by
   have : ∀ {q : Option Ti} {l : List Ti}, tiersP q l -> ∀ r ∈ l, 0 <= r.fee /\ r.fee <= 10000000000000 := fun {q l} => by
    induction l generalizing q with
    | nil => intro _ r hr; cases hr
    | cons x l ih =>
      intro h r hr
      rcases List.mem_cons.1 hr with rfl | hr
      · exact h.2.1
      · exact ih h.2.2.2 r hr
   have := this htie r hr
   exact moneyS_len (by unfold I64; omega)
  unfold lateS
  rw [ln_len]; simp only [List.length_append, List.length_cons, List.length_nil]
  have : w_late.length = 4 := rfl
  omega
 have r3 := flat_bound holS 30 p.hol fun r hr => by
  have h2 := dateT_len r
  unfold holS
  rw [ln_len]; simp only [List.length_append, List.length_cons, List.length_nil]
  have : w_holiday.length = 7 := rfl
  omega
 have q1 := hn _ hev; have q2 := hn _ hti; have q3 := hn _ hgr
 have q4 : (rateS p.rate).length <= 40 := rateS_len (by unfold I64; omega)
 have q5 : (rateS p.pen).length <= 40 := rateS_len (by unfold I64; omega)
 have q6 : (moneyS p.cap).length <= 30 := moneyS_len (by unfold I64; omega)
 have a1 := hw p.count; have a2 := hw p.rnd; have a3 := hw p.kind; have a4 := hw p.over; have a5 := hw p.roll; have a6 := hw p.o1; have a7 := hw p.o2; have a8 := hw p.o3; have a9 := hw p.o4
 have nl := hname.1.2.1
 unfold printS
 simp only [List.length_append, ln_len, List.length_cons, List.length_nil]
 have z : w_product.length = 7 /\ w_count.length = 5 /\ w_round.length = 5 /\ w_kind.length = 4 /\ w_every.length = 5 /\ w_times.length = 5 /\ w_grace.length = 5 /\ w_rate.length = 4 /\ w_penalty.length = 7 /\ w_order.length = 5 /\ w_over.length = 4 /\ w_cap.length = 3 /\ w_roll.length = 4 := ⟨rfl, rfl, rfl, rfl, rfl, rfl, rfl, rfl, rfl, rfl, rfl, rfl, rfl⟩
 omega
end PS4

namespace BP1
open Go Go.Proofs VL BB1 BB2 BB14 B10 BB6 BB10 C1 C2
abbrev pBT (T : TypeId) (p : Prod) (a b : V) : VObj := .cells true T [.str p.name, .int .i64 p.count, .int .i64 p.rnd, .int .i64 p.kind, .int .i64 p.every, .int .i64 p.times, .int .i64 p.grace, .int .i64 p.rate, .sl (rL p.resets) .no, .int .i64 p.pen, .int .i64 p.o1, .int .i64 p.o2, .int .i64 p.o3, .int .i64 p.o4, .int .i64 p.over, .sl (tL p.late) .no, .int .i64 p.cap, .int .i64 p.roll, .sl (iL p.hol) .no, a, b]
abbrev pB (p : Prod) (a b : V) : VObj := pBT 58 p a b
def oN (p : Prod) : List VObj := [pB p .nilp (.sl [] .ex)]
def oS (p : Prod) (mv : Bool) (s : ByteArray) (sp : List V) : List VObj := [pB p (.ptr 0 19) (.slo 1 1 0 s.size (s.size + sp.length)), .buf mv 1 (bytesV s ++ sp) (some 5)]
theorem uokP {T : TypeId} (hT : T = 58) (p : Prod) (x : V) : unsafeOk (VL.sys Tryz.prog 1 []).P 131 53 (pBT T p .nilp x) 19 = true := by subst hT; kernel_rfl
theorem c_ccT {T : TypeId} (hT : T = 58) (p : Prod) (K) (h : K (.ret (.tup [])) [pBT T p (.ptr 0 19) (.slo 1 1 0 0 0), .buf false 1 [] (some 5)]) : VCall Tryz.prog 55 [.ptr 0 19] [pBT T p .nilp (.sl [] .ex)] K := by
 refine VCall.weak (call_fun [] 1 Tryz.func55 (by rfl) (by rfl) ?_)
 (conv=>whnf); (repeat (refine step_go [] ?_;conv=>whnf))
 refine c_ne _ _ _ _ ?_; (conv=>whnf); (repeat (refine step_go [] ?_;conv=>whnf))
 rw [uokP hT p (.sl [] .ex)]; (conv=>whnf); (repeat (refine step_go [] ?_;conv=>whnf))
 refine ⟨_, _, weak_nil 0 20 1 (some 5) (ob := [pBT T p (.ptr 0 19) (.sl [] .ex)]) (wr := true) (T := T) (cs := [.str p.name, .int .i64 p.count, .int .i64 p.rnd, .int .i64 p.kind, .int .i64 p.every, .int .i64 p.times, .int .i64 p.grace, .int .i64 p.rate, .sl (rL p.resets) .no, .int .i64 p.pen, .int .i64 p.o1, .int .i64 p.o2, .int .i64 p.o3, .int .i64 p.o4, .int .i64 p.over, .sl (tL p.late) .no, .int .i64 p.cap, .int .i64 p.roll, .sl (iL p.hol) .no, .ptr 0 19, .sl [] .ex]) rfl rfl (Nat.le_refl _), h⟩
theorem c_ccP (p : Prod) (K) (h : K (.ret (.tup [])) (oS p false ⟨#[]⟩ [])) : VCall Tryz.prog 55 [.ptr 0 19] (oN p) K := c_ccT rfl p K h
theorem c_ccQ (p : Prod) (mv : Bool) (s : ByteArray) (sp : List V) (K) (h : K (.ret (.tup [])) (oS p mv s sp)) : VCall Tryz.prog 55 [.ptr 0 19] (oS p mv s sp) K := by
 unfold oS at h ⊢
 cases mv with
 | true =>
   refine call_fun [] 2 Tryz.func55 (by rfl) (by rfl) ?_; (conv=>whnf); (repeat (refine step_go [] ?_;conv=>whnf))
   exact h
 | false =>
   refine call_fun [] 2 Tryz.func55 (by rfl) (by rfl) ?_; (conv=>whnf); (repeat (refine step_go [] ?_;conv=>whnf))
   exact h
theorem c_wsP (p : Prod) (mv : Bool) (s : ByteArray) (sp : List V) (u : ByteArray) (hb : s.size + u.size <= 140737488355328) (K)
 (h : ∀ sp' : List V, K (.ret (.tup [.int .i64 (u.size : Int), .nili])) (oS p true (s ++ u) sp')) :
 VCall Tryz.prog 22 [.ptr 0 19, .str u] (oS p mv s sp) K := by
 have e0 : (bytesV s).length = s.size := bytesV_length s
 have e1 : (bytesV u).length = u.size := bytesV_length u
 have e2 : bytesV (s ++ u) = bytesV s ++ bytesV u := by unfold bytesV; rw [ByteArray.data_append, Array.toList_append, List.map_append]
 have e3 : (s ++ u).size = s.size + u.size := ByteArray.size_append
 have hcc := fun mv' => c_ccQ p mv' s sp
 unfold oS at h hcc ⊢
 rw [e3, e2] at h
 cases mv
 all_goals
  refine VCall.weak (call_fun [] 2 Tryz.func22 (by rfl) (by rfl) ?_)
  (conv=>whnf); (repeat (refine step_go [] ?_;conv=>whnf))
  refine hcc _ _ ?_
  (conv=>whnf); (repeat (refine step_go [] ?_;conv=>whnf))
  refine ⟨by rw [Nat.zero_add, Nat.mul_one, e1]; exact hb, fun x hx => (bytesV_ok u x hx).1, ?_⟩; (conv=>whnf); (repeat (refine step_go [] ?_;conv=>whnf))
  rw [e1]
  refine two (fun g => ?_) (fun g => ?_)
  · have hc := Nat.le_of_ble_eq_true g
    refine ⟨by simp; omega, ?_⟩; (conv=>whnf); (repeat (refine step_go [] ?_;conv=>whnf))
    have h' := h (sp.drop u.size)
    have q1 : List.take (0 + s.size) (bytesV s ++ sp) ++ bytesV u ++ List.drop (0 + s.size + u.size) (bytesV s ++ sp) = bytesV s ++ bytesV u ++ sp.drop u.size := by
     rw [Nat.zero_add, ← e0, List.take_left, List.drop_append]
     simp
    have q2 : s.size + u.size + (sp.drop u.size).length = s.size + sp.length := by simp; omega
    rw [q2, ← q1] at h'
    first
     | exact ⟨_, _, weak_of (.cons (.eq rfl) .nil) (.cons (.eq rfl) (.cons .moved .nil)) rfl rfl rfl, h'⟩
     | exact ⟨_, _, weak_of (.cons (.eq rfl) .nil) (.cons (.eq rfl) (.cons (.eq rfl) .nil)) rfl rfl rfl, h'⟩
  · refine ⟨by simp; omega, fun sp' hsp' => ?_⟩; (conv=>whnf); (repeat (refine step_go [] ?_;conv=>whnf))
    have h' := h sp'
    have q1 : List.take s.size (List.drop 0 (bytesV s ++ sp)) ++ bytesV u ++ sp' = bytesV s ++ bytesV u ++ sp' := by
     rw [List.drop_zero, ← e0, List.take_left]
    rw [q1]
    refine ⟨_, _, ?_, h'⟩
    obtain ⟨s', hw, rfl⟩ := weak_sel (m := 2) (src := [0, 2]) (s := ⟨[.tup [.int .i64 (u.size : Int), .nili]], [pB p (.ptr 0 19) (.slo 2 1 0 (s.size + u.size) (s.size + u.size + sp'.length)), .buf _ 1 (bytesV s ++ sp) (some 5), .buf false 1 (bytesV s ++ bytesV u ++ sp') (some 5)], 0, []⟩)
     (K := fun s' => s' = ⟨[.tup [.int .i64 (u.size : Int), .nili]], [pB p (.ptr 0 19) (.slo 1 1 0 (s.size + u.size) (s.size + u.size + sp'.length)), .buf true 1 (bytesV s ++ bytesV u ++ sp') (some 5)], 0, []⟩) rfl
    exact hw
theorem c_wsP0 (p : Prod) (u : ByteArray) (hb : u.size <= 140737488355328) (K)
 (h : ∀ sp' : List V, K (.ret (.tup [.int .i64 (u.size : Int), .nili])) (oS p true u sp')) :
 VCall Tryz.prog 22 [.ptr 0 19, .str u] (oN p) K := by
 have e1 : (bytesV u).length = u.size := bytesV_length u
 have hcc := c_ccP p
 unfold oN oS at *
 refine VCall.weak (call_fun [] 1 Tryz.func22 (by rfl) (by rfl) ?_)
 (conv=>whnf); (repeat (refine step_go [] ?_;conv=>whnf))
 refine hcc _ ?_
 (conv=>whnf); (repeat (refine step_go [] ?_;conv=>whnf))
 refine ⟨by rw [Nat.zero_add, Nat.mul_one, e1]; show (⟨#[]⟩ : ByteArray).size + _ <= _; rw [show (⟨#[]⟩ : ByteArray).size = 0 from rfl, Nat.zero_add]; exact hb, fun x hx => (bytesV_ok u x hx).1, ?_⟩; (conv=>whnf); (repeat (refine step_go [] ?_;conv=>whnf))
 rw [e1]
 refine two (fun g => ?_) (fun g => ?_)
 · have hc := Nat.le_of_ble_eq_true g
   have hz : (⟨#[]⟩ : ByteArray).size = 0 := rfl
   have hu : u.size = 0 := by rw [hz] at hc; have : ([] : List V).length = 0 := rfl; omega
   have hu0 : bytesV u = [] := List.eq_nil_of_length_eq_zero (by omega)
   refine ⟨by show 0 + 0 <= (bytesV ⟨#[]⟩ ++ []).length; exact Nat.zero_le _, ?_⟩; (conv=>whnf); (repeat (refine step_go [] ?_;conv=>whnf))
   have h' := h []
   rw [hu, hu0] at h' ⊢
   exact ⟨_, _, weak_of (.cons (.eq rfl) .nil) (.cons (.eq rfl) (.cons .moved .nil)) rfl rfl rfl, h'⟩
 · refine ⟨Nat.zero_le _, fun sp' hsp' => ?_⟩; (conv=>whnf); (repeat (refine step_go [] ?_;conv=>whnf))
   have h' := h sp'
   refine ⟨_, _, ?_, h'⟩
   have hz : (⟨#[]⟩ : ByteArray).size = 0 := rfl
   have hz2 : bytesV ⟨#[]⟩ = [] := rfl
   simp only [hz, hz2, List.take_zero, List.drop_zero, List.nil_append, List.append_nil, Nat.zero_add]
   exact weak_of (.cons (.eq rfl) .nil) (.cons (.eq rfl) (.cons .moved .nil)) rfl rfl rfl
theorem c_strP (p : Prod) (mv : Bool) (s : ByteArray) (sp : List V) (h0 : 0 < s.size) (hb : s.size <= 140737488355328) (K)
 (h : K (.ret (.str s)) [pB p (.ptr 0 19) (.slo 1 1 0 s.size (s.size + sp.length)), .buf true 1 []]) :
 VCall Tryz.prog 29 [.ptr 0 19] (oS p mv s sp) K := by
 have e0 : (bytesV s).length = s.size := bytesV_length s
 unfold oS
 refine VCall.weak (call_fun [] 2 Tryz.func29 (by rfl) (by rfl) ?_)
 (conv=>whnf); (repeat (refine step_go [] ?_;conv=>whnf))
 (refine ⟨by decide +kernel, ?_⟩;conv=>whnf)
 (repeat (refine And.intro rfl ?_;conv=>whnf))
 refine ⟨by omega, ?_⟩; (conv=>whnf); (repeat (refine step_go [] ?_;conv=>whnf))
 (repeat (refine And.intro rfl ?_;conv=>whnf))
 refine ⟨by omega, by omega, by simp; omega, s, by rw [Int.toNat_natCast, ← e0, List.take_left], ?_⟩
 refine no (by rw [Int.toNat_natCast]; cases h : Nat.beq s.size 0 with | false => rfl | true => exact absurd (Nat.eq_of_beq_eq_true h) (by omega)) ?_; (conv=>whnf); (repeat (refine step_go [] ?_;conv=>whnf))
 (repeat (refine And.intro rfl ?_;conv=>whnf))
 exact ⟨_, _, Weak.refl, h⟩
theorem c_lenP (p : Prod) (mv : Bool) (s : ByteArray) (sp : List V) (K) (h : K (.ret (.int .i64 (s.size : Int))) (oS p mv s sp)) :
 VCall Tryz.prog 28 [.ptr 0 19] (oS p mv s sp) K := by
 unfold oS at *
 cases mv
 all_goals
  refine call_fun [] 2 Tryz.func28 (by rfl) (by rfl) ?_; (conv=>whnf); (repeat (refine step_go [] ?_;conv=>whnf))
  exact h
end BP1

