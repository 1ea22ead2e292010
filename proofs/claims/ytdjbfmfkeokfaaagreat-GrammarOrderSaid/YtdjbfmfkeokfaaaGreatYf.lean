/- Part Yf of the proof: CR5 CR6 CR7 CR8 CR9 CRA CO1 CO2 CO3 CO4. -/
import Derived.Test.YtdjbfmfkeokfaaaGreatYe
import Derived.HandedShaped
import Derived.Shelf.Vars
import Derived.Test.YtdjbfmfkeokfaaaGreatYc
import Derived.Test.YtdjbfmfkeokfaaaGreatYd
set_option linter.unusedVariables false
set_option linter.unusedSimpArgs false
set_option maxRecDepth 100000
namespace CR5
open Go Go.Proofs VL D1 B10 B12 B13 B20 B21 B22 C8 BB6 BB10 BB14 C1 C2 C3 C4 C6 C15 C20 C21 C22 C25 C26 C28 C28b C28c CR1 CR2 CR3 CR4
set_option maxHeartbeats 16000000 in
theorem c_rclause (w : List Int) (hw : ∀ x ∈ w, 0 <= x /\ x < 256) (k : List C3.Tok) (i : Nat) (x : RS) (hk : endT (k.drop i)) (hl : okT k) (hq : ∀ t ∈ k, t.kind ≠ 0 -> t.text ≠ []) (hx : x.err = 0) (hz : x.p.resets.length + x.p.late.length + x.p.hol.length < 1000000) (y : Res Prod) (hy : clauseS w x.p (k.drop i) = some y) (K : Out -> List VObj -> Prop)
 (h0 : ∀ q r i' x', y = .ok q r -> k.drop i' = r -> endT r -> x'.p = q -> x'.h = x.h -> x'.err = 0 -> K (.ret (.tup [])) (rO true true true true k i' x'))
 (h1 : ∀ (p : Nat) i' x', y = .err p 7 -> x'.err = 7 -> x'.at_ = (p : Int) -> K (.ret (.tup [])) (rO true true true true k i' x')) :
 VCall Tryz.prog 56 [.ptr 0 0, .str (toBA w)] (rO false false false false k i x) K := by
 have e_count : (toBA w).toList = (⟨#[99, 111, 117, 110, 116]⟩ : ByteArray).toList ↔ w = w_count := toBA_eq hw (b := w_count) (by decide)
 have e_round : (toBA w).toList = (⟨#[114, 111, 117, 110, 100]⟩ : ByteArray).toList ↔ w = w_round := toBA_eq hw (b := w_round) (by decide)
 have e_kind : (toBA w).toList = (⟨#[107, 105, 110, 100]⟩ : ByteArray).toList ↔ w = w_kind := toBA_eq hw (b := w_kind) (by decide)
 have e_every : (toBA w).toList = (⟨#[101, 118, 101, 114, 121]⟩ : ByteArray).toList ↔ w = w_every := toBA_eq hw (b := w_every) (by decide)
 have e_times : (toBA w).toList = (⟨#[116, 105, 109, 101, 115]⟩ : ByteArray).toList ↔ w = w_times := toBA_eq hw (b := w_times) (by decide)
 have e_grace : (toBA w).toList = (⟨#[103, 114, 97, 99, 101]⟩ : ByteArray).toList ↔ w = w_grace := toBA_eq hw (b := w_grace) (by decide)
 have e_rate : (toBA w).toList = (⟨#[114, 97, 116, 101]⟩ : ByteArray).toList ↔ w = w_rate := toBA_eq hw (b := w_rate) (by decide)
 have e_penalty : (toBA w).toList = (⟨#[112, 101, 110, 97, 108, 116, 121]⟩ : ByteArray).toList ↔ w = w_penalty := toBA_eq hw (b := w_penalty) (by decide)
 have e_reset : (toBA w).toList = (⟨#[114, 101, 115, 101, 116]⟩ : ByteArray).toList ↔ w = w_reset := toBA_eq hw (b := w_reset) (by decide)
 have e_late : (toBA w).toList = (⟨#[108, 97, 116, 101]⟩ : ByteArray).toList ↔ w = w_late := toBA_eq hw (b := w_late) (by decide)
 have e_cap : (toBA w).toList = (⟨#[99, 97, 112]⟩ : ByteArray).toList ↔ w = w_cap := toBA_eq hw (b := w_cap) (by decide)
 have e_holiday : (toBA w).toList = (⟨#[104, 111, 108, 105, 100, 97, 121]⟩ : ByteArray).toList ↔ w = w_holiday := toBA_eq hw (b := w_holiday) (by decide)
 have e_order : (toBA w).toList = (⟨#[111, 114, 100, 101, 114]⟩ : ByteArray).toList ↔ w = w_order := toBA_eq hw (b := w_order) (by decide)
 have e_over : (toBA w).toList = (⟨#[111, 118, 101, 114]⟩ : ByteArray).toList ↔ w = w_over := toBA_eq hw (b := w_over) (by decide)
 have e_roll : (toBA w).toList = (⟨#[114, 111, 108, 108]⟩ : ByteArray).toList ↔ w = w_roll := toBA_eq hw (b := w_roll) (by decide)
 refine VCall.weak ?_
 unfold rO
 refine call_fun [] 5 Tryz.func56 (by rfl) (by rfl) ?_
 conv=>whnf
 (repeat' first | (refine step_go [] ?_;conv=>whnf) | (refine two ?_ ?_<;>intro g<;>(try simp only[bsx, e_count, e_round, e_kind, e_every, e_times, e_grace, e_rate, e_penalty, e_reset, e_late, e_cap, e_holiday, e_order, e_over, e_roll]at g)<;>(conv=>whnf)) | (refine And.intro rfl ?_;conv=>whnf) | fail)
 · have gw : w = w_count := by assumption
   subst gw
   refine VCall.args (args' := [.ptr 0 0, .sl (sL [w_thirty, w_fixed, w_actual]) .no]) (.cons (.eq rfl) (.cons .no .nil)) rfl (c_rword k i x (fun _ => hk) hl [w_thirty, w_fixed, w_actual] (by unfold bytesOk; decide) (by decide) _ (fun _ n r i' e hd he => ?_) (fun _ p e => ?_) (fun h => absurd hx h))
   · have hyy : y = .ok { x.p with count := n } r := by rw [cs_count, e] at hy; exact (Option.some.inj hy).symm
     have hr := pick_range e
     simp at hr
     have wn : IntKind.i64.wrap (1 + (n - 1)) = n := by rw [wrap64 (by omega) (by omega)]; omega
     conv=>whnf
     (repeat' first | (refine step_go [] ?_;conv=>whnf) | (refine two ?_ ?_<;>intro g<;>(try simp only[bsx]at g)<;>(conv=>whnf)) | (refine And.intro rfl ?_;conv=>whnf) | (refine dr_go (by decide +kernel) ?_;conv=>whnf) | fail)
     refine ⟨_, _, weak_of (.cons (.eq rfl) .nil) (.cons (.cells ?_) (.cons .moved (.cons .moved (.cons .moved (.cons .moved .nil))))) rfl rfl rfl, h0 _ r i' { x with p := { x.p with count := n } } hyy hd he rfl rfl hx⟩
     repeat' first
      | exact VWs.nil
      | refine VWs.cons (VW.eq rfl) ?_
      | refine VWs.cons (VW.eq (congrArg (V.int .i64) wn)) ?_
   · have hyy : y = .err p 7 := by rw [cs_count, e] at hy; exact (Option.some.inj hy).symm
     have wn : IntKind.i64.wrap (1 + 0) = 1 := by decide
     conv=>whnf
     (repeat' first | (refine step_go [] ?_;conv=>whnf) | (refine two ?_ ?_<;>intro g<;>(try simp only[bsx]at g)<;>(conv=>whnf)) | (refine And.intro rfl ?_;conv=>whnf) | (refine dr_go (by decide +kernel) ?_;conv=>whnf) | fail)
     refine ⟨_, _, weak_of (.cons (.eq rfl) .nil) (.cons (.cells ?_) (.cons .moved (.cons .moved (.cons .moved (.cons .moved .nil))))) rfl rfl rfl, h1 p i { x with p := { x.p with count := 1 }, err := 7, at_ := p } hyy rfl rfl⟩
     repeat' first
      | exact VWs.nil
      | refine VWs.cons (VW.eq rfl) ?_
      | refine VWs.cons (VW.eq (congrArg (V.int .i64) wn)) ?_
 · have gw : w = w_round := by assumption
   subst gw
   refine VCall.args (args' := [.ptr 0 0, .sl (sL [w_half_up, w_down]) .no]) (.cons (.eq rfl) (.cons .no .nil)) rfl (c_rword k i x (fun _ => hk) hl [w_half_up, w_down] (by unfold bytesOk; decide) (by decide) _ (fun _ n r i' e hd he => ?_) (fun _ p e => ?_) (fun h => absurd hx h))
   · have hyy : y = .ok { x.p with rnd := if n = 1 then 1 else 3 } r := by rw [cs_round, e] at hy; exact (Option.some.inj hy).symm
     have hr := pick_range e
     have hn : n = 1 \/ n = 2 := by simp at hr; omega
     have wn : True := trivial
     rcases hn with rfl | rfl
     · conv=>whnf
       (repeat' first | (refine step_go [] ?_;conv=>whnf) | (refine two ?_ ?_<;>intro g<;>(try simp only[bsx]at g)<;>(conv=>whnf)) | (refine And.intro rfl ?_;conv=>whnf) | (refine dr_go (by decide +kernel) ?_;conv=>whnf) | (refine ⟨by decide, _, rfl, rfl, ?_⟩;conv=>whnf) | fail)
       refine ⟨_, _, weak_of (.cons (.eq rfl) .nil) (.cons (.cells ?_) (.cons .moved (.cons .moved (.cons .moved (.cons .moved .nil))))) rfl rfl rfl, h0 _ r i' { x with p := { x.p with rnd := if (1 : Int) = 1 then 1 else 3 } } hyy hd he rfl rfl hx⟩
       repeat' first
        | exact VWs.nil
        | refine VWs.cons (VW.eq rfl) ?_
     · conv=>whnf
       (repeat' first | (refine step_go [] ?_;conv=>whnf) | (refine two ?_ ?_<;>intro g<;>(try simp only[bsx]at g)<;>(conv=>whnf)) | (refine And.intro rfl ?_;conv=>whnf) | (refine dr_go (by decide +kernel) ?_;conv=>whnf) | (refine ⟨by decide, _, rfl, rfl, ?_⟩;conv=>whnf) | fail)
       refine ⟨_, _, weak_of (.cons (.eq rfl) .nil) (.cons (.cells ?_) (.cons .moved (.cons .moved (.cons .moved (.cons .moved .nil))))) rfl rfl rfl, h0 _ r i' { x with p := { x.p with rnd := if (2 : Int) = 1 then 1 else 3 } } hyy hd he rfl rfl hx⟩
       repeat' first
        | exact VWs.nil
        | refine VWs.cons (VW.eq rfl) ?_
   · have hyy : y = .err p 7 := by rw [cs_round, e] at hy; exact (Option.some.inj hy).symm
     conv=>whnf
     (repeat' first | (refine step_go [] ?_;conv=>whnf) | (refine two ?_ ?_<;>intro g<;>(try simp only[bsx]at g)<;>(conv=>whnf)) | (refine And.intro rfl ?_;conv=>whnf) | (refine dr_go (by decide +kernel) ?_;conv=>whnf) | (refine ⟨by decide, _, rfl, rfl, ?_⟩;conv=>whnf) | fail)
     refine ⟨_, _, weak_of (.cons (.eq rfl) .nil) (.cons (.cells ?_) (.cons .moved (.cons .moved (.cons .moved (.cons .moved .nil))))) rfl rfl rfl, h1 p i { x with p := { x.p with rnd := 1 }, err := 7, at_ := p } hyy rfl rfl⟩
     repeat' first
      | exact VWs.nil
      | refine VWs.cons (VW.eq rfl) ?_
 · have gw : w = w_kind := by assumption
   subst gw
   refine VCall.args (args' := [.ptr 0 0, .sl (sL [w_annuity, w_equal, w_bullet]) .no]) (.cons (.eq rfl) (.cons .no .nil)) rfl (c_rword k i x (fun _ => hk) hl [w_annuity, w_equal, w_bullet] (by unfold bytesOk; decide) (by decide) _ (fun _ n r i' e hd he => ?_) (fun _ p e => ?_) (fun h => absurd hx h))
   · have hyy : y = .ok { x.p with kind := n } r := by rw [cs_kind, e] at hy; exact (Option.some.inj hy).symm
     have hr := pick_range e
     simp at hr
     have wn : IntKind.i64.wrap (1 + (n - 1)) = n := by rw [wrap64 (by omega) (by omega)]; omega
     conv=>whnf
     (repeat' first | (refine step_go [] ?_;conv=>whnf) | (refine two ?_ ?_<;>intro g<;>(try simp only[bsx]at g)<;>(conv=>whnf)) | (refine And.intro rfl ?_;conv=>whnf) | (refine dr_go (by decide +kernel) ?_;conv=>whnf) | fail)
     refine ⟨_, _, weak_of (.cons (.eq rfl) .nil) (.cons (.cells ?_) (.cons .moved (.cons .moved (.cons .moved (.cons .moved .nil))))) rfl rfl rfl, h0 _ r i' { x with p := { x.p with kind := n } } hyy hd he rfl rfl hx⟩
     repeat' first
      | exact VWs.nil
      | refine VWs.cons (VW.eq rfl) ?_
      | refine VWs.cons (VW.eq (congrArg (V.int .i64) wn)) ?_
   · have hyy : y = .err p 7 := by rw [cs_kind, e] at hy; exact (Option.some.inj hy).symm
     have wn : IntKind.i64.wrap (1 + 0) = 1 := by decide
     conv=>whnf
     (repeat' first | (refine step_go [] ?_;conv=>whnf) | (refine two ?_ ?_<;>intro g<;>(try simp only[bsx]at g)<;>(conv=>whnf)) | (refine And.intro rfl ?_;conv=>whnf) | (refine dr_go (by decide +kernel) ?_;conv=>whnf) | fail)
     refine ⟨_, _, weak_of (.cons (.eq rfl) .nil) (.cons (.cells ?_) (.cons .moved (.cons .moved (.cons .moved (.cons .moved .nil))))) rfl rfl rfl, h1 p i { x with p := { x.p with kind := 1 }, err := 7, at_ := p } hyy rfl rfl⟩
     repeat' first
      | exact VWs.nil
      | refine VWs.cons (VW.eq rfl) ?_
      | refine VWs.cons (VW.eq (congrArg (V.int .i64) wn)) ?_
 · have gw : w = w_every := by assumption
   subst gw
   refine c_rnumber k i x (fun _ => hk) hl hq _ (fun _ n r i' e hd he => ?_) (fun _ p n e => ?_) (fun h => absurd hx h)
   · have hyy : y = .ok { x.p with every := n } r := by rw [cs_every, e] at hy; exact (Option.some.inj hy).symm
     have wn : True := trivial
     conv=>whnf
     (repeat' first | (refine step_go [] ?_;conv=>whnf) | (refine two ?_ ?_<;>intro g<;>(try simp only[bsx]at g)<;>(conv=>whnf)) | (refine And.intro rfl ?_;conv=>whnf) | (refine dr_go (by decide +kernel) ?_;conv=>whnf) | fail)
     refine ⟨_, _, weak_of (.cons (.eq rfl) .nil) (.cons (.cells ?_) (.cons .moved (.cons .moved (.cons .moved (.cons .moved .nil))))) rfl rfl rfl, h0 _ r i' { x with p := { x.p with every := n } } hyy hd he rfl rfl hx⟩
     repeat' first
      | exact VWs.nil
      | refine VWs.cons (VW.eq rfl) ?_
      | refine VWs.cons (VW.eq (congrArg (V.int .i64) wn)) ?_
   · have hyy : y = .err p 7 := by rw [cs_every, e] at hy; exact (Option.some.inj hy).symm
     have wn : True := trivial
     conv=>whnf
     (repeat' first | (refine step_go [] ?_;conv=>whnf) | (refine two ?_ ?_<;>intro g<;>(try simp only[bsx]at g)<;>(conv=>whnf)) | (refine And.intro rfl ?_;conv=>whnf) | (refine dr_go (by decide +kernel) ?_;conv=>whnf) | fail)
     refine ⟨_, _, weak_of (.cons (.eq rfl) .nil) (.cons (.cells ?_) (.cons .moved (.cons .moved (.cons .moved (.cons .moved .nil))))) rfl rfl rfl, h1 p i { x with p := { x.p with every := n }, err := 7, at_ := p } hyy rfl rfl⟩
     repeat' first
      | exact VWs.nil
      | refine VWs.cons (VW.eq rfl) ?_
      | refine VWs.cons (VW.eq (congrArg (V.int .i64) wn)) ?_
 · have gw : w = w_times := by assumption
   subst gw
   refine c_rnumber k i x (fun _ => hk) hl hq _ (fun _ n r i' e hd he => ?_) (fun _ p n e => ?_) (fun h => absurd hx h)
   · have hyy : y = .ok { x.p with times := n } r := by rw [cs_times, e] at hy; exact (Option.some.inj hy).symm
     have wn : True := trivial
     conv=>whnf
     (repeat' first | (refine step_go [] ?_;conv=>whnf) | (refine two ?_ ?_<;>intro g<;>(try simp only[bsx]at g)<;>(conv=>whnf)) | (refine And.intro rfl ?_;conv=>whnf) | (refine dr_go (by decide +kernel) ?_;conv=>whnf) | fail)
     refine ⟨_, _, weak_of (.cons (.eq rfl) .nil) (.cons (.cells ?_) (.cons .moved (.cons .moved (.cons .moved (.cons .moved .nil))))) rfl rfl rfl, h0 _ r i' { x with p := { x.p with times := n } } hyy hd he rfl rfl hx⟩
     repeat' first
      | exact VWs.nil
      | refine VWs.cons (VW.eq rfl) ?_
      | refine VWs.cons (VW.eq (congrArg (V.int .i64) wn)) ?_
   · have hyy : y = .err p 7 := by rw [cs_times, e] at hy; exact (Option.some.inj hy).symm
     have wn : True := trivial
     conv=>whnf
     (repeat' first | (refine step_go [] ?_;conv=>whnf) | (refine two ?_ ?_<;>intro g<;>(try simp only[bsx]at g)<;>(conv=>whnf)) | (refine And.intro rfl ?_;conv=>whnf) | (refine dr_go (by decide +kernel) ?_;conv=>whnf) | fail)
     refine ⟨_, _, weak_of (.cons (.eq rfl) .nil) (.cons (.cells ?_) (.cons .moved (.cons .moved (.cons .moved (.cons .moved .nil))))) rfl rfl rfl, h1 p i { x with p := { x.p with times := n }, err := 7, at_ := p } hyy rfl rfl⟩
     repeat' first
      | exact VWs.nil
      | refine VWs.cons (VW.eq rfl) ?_
      | refine VWs.cons (VW.eq (congrArg (V.int .i64) wn)) ?_
 · have gw : w = w_grace := by assumption
   subst gw
   refine c_rnumber k i x (fun _ => hk) hl hq _ (fun _ n r i' e hd he => ?_) (fun _ p n e => ?_) (fun h => absurd hx h)
   · have hyy : y = .ok { x.p with grace := n } r := by rw [cs_grace, e] at hy; exact (Option.some.inj hy).symm
     have wn : True := trivial
     conv=>whnf
     (repeat' first | (refine step_go [] ?_;conv=>whnf) | (refine two ?_ ?_<;>intro g<;>(try simp only[bsx]at g)<;>(conv=>whnf)) | (refine And.intro rfl ?_;conv=>whnf) | (refine dr_go (by decide +kernel) ?_;conv=>whnf) | fail)
     refine ⟨_, _, weak_of (.cons (.eq rfl) .nil) (.cons (.cells ?_) (.cons .moved (.cons .moved (.cons .moved (.cons .moved .nil))))) rfl rfl rfl, h0 _ r i' { x with p := { x.p with grace := n } } hyy hd he rfl rfl hx⟩
     repeat' first
      | exact VWs.nil
      | refine VWs.cons (VW.eq rfl) ?_
      | refine VWs.cons (VW.eq (congrArg (V.int .i64) wn)) ?_
   · have hyy : y = .err p 7 := by rw [cs_grace, e] at hy; exact (Option.some.inj hy).symm
     have wn : True := trivial
     conv=>whnf
     (repeat' first | (refine step_go [] ?_;conv=>whnf) | (refine two ?_ ?_<;>intro g<;>(try simp only[bsx]at g)<;>(conv=>whnf)) | (refine And.intro rfl ?_;conv=>whnf) | (refine dr_go (by decide +kernel) ?_;conv=>whnf) | fail)
     refine ⟨_, _, weak_of (.cons (.eq rfl) .nil) (.cons (.cells ?_) (.cons .moved (.cons .moved (.cons .moved (.cons .moved .nil))))) rfl rfl rfl, h1 p i { x with p := { x.p with grace := n }, err := 7, at_ := p } hyy rfl rfl⟩
     repeat' first
      | exact VWs.nil
      | refine VWs.cons (VW.eq rfl) ?_
      | refine VWs.cons (VW.eq (congrArg (V.int .i64) wn)) ?_
 · have gw : w = w_rate := by assumption
   subst gw
   refine c_rrate k i x (fun _ => hk) hl _ (fun _ n r i' e hd he => ?_) (fun _ p n e => ?_) (fun h => absurd hx h)
   · have hyy : y = .ok { x.p with rate := n } r := by rw [cs_rate, e] at hy; exact (Option.some.inj hy).symm
     have wn : True := trivial
     conv=>whnf
     (repeat' first | (refine step_go [] ?_;conv=>whnf) | (refine two ?_ ?_<;>intro g<;>(try simp only[bsx]at g)<;>(conv=>whnf)) | (refine And.intro rfl ?_;conv=>whnf) | (refine dr_go (by decide +kernel) ?_;conv=>whnf) | fail)
     refine ⟨_, _, weak_of (.cons (.eq rfl) .nil) (.cons (.cells ?_) (.cons .moved (.cons .moved (.cons .moved (.cons .moved .nil))))) rfl rfl rfl, h0 _ r i' { x with p := { x.p with rate := n } } hyy hd he rfl rfl hx⟩
     repeat' first
      | exact VWs.nil
      | refine VWs.cons (VW.eq rfl) ?_
      | refine VWs.cons (VW.eq (congrArg (V.int .i64) wn)) ?_
   · have hyy : y = .err p 7 := by rw [cs_rate, e] at hy; exact (Option.some.inj hy).symm
     have wn : True := trivial
     conv=>whnf
     (repeat' first | (refine step_go [] ?_;conv=>whnf) | (refine two ?_ ?_<;>intro g<;>(try simp only[bsx]at g)<;>(conv=>whnf)) | (refine And.intro rfl ?_;conv=>whnf) | (refine dr_go (by decide +kernel) ?_;conv=>whnf) | fail)
     refine ⟨_, _, weak_of (.cons (.eq rfl) .nil) (.cons (.cells ?_) (.cons .moved (.cons .moved (.cons .moved (.cons .moved .nil))))) rfl rfl rfl, h1 p i { x with p := { x.p with rate := n }, err := 7, at_ := p } hyy rfl rfl⟩
     repeat' first
      | exact VWs.nil
      | refine VWs.cons (VW.eq rfl) ?_
      | refine VWs.cons (VW.eq (congrArg (V.int .i64) wn)) ?_
 · have gw : w = w_penalty := by assumption
   subst gw
   refine c_rrate k i x (fun _ => hk) hl _ (fun _ n r i' e hd he => ?_) (fun _ p n e => ?_) (fun h => absurd hx h)
   · have hyy : y = .ok { x.p with pen := n } r := by rw [cs_penalty, e] at hy; exact (Option.some.inj hy).symm
     have wn : True := trivial
     conv=>whnf
     (repeat' first | (refine step_go [] ?_;conv=>whnf) | (refine two ?_ ?_<;>intro g<;>(try simp only[bsx]at g)<;>(conv=>whnf)) | (refine And.intro rfl ?_;conv=>whnf) | (refine dr_go (by decide +kernel) ?_;conv=>whnf) | fail)
     refine ⟨_, _, weak_of (.cons (.eq rfl) .nil) (.cons (.cells ?_) (.cons .moved (.cons .moved (.cons .moved (.cons .moved .nil))))) rfl rfl rfl, h0 _ r i' { x with p := { x.p with pen := n } } hyy hd he rfl rfl hx⟩
     repeat' first
      | exact VWs.nil
      | refine VWs.cons (VW.eq rfl) ?_
      | refine VWs.cons (VW.eq (congrArg (V.int .i64) wn)) ?_
   · have hyy : y = .err p 7 := by rw [cs_penalty, e] at hy; exact (Option.some.inj hy).symm
     have wn : True := trivial
     conv=>whnf
     (repeat' first | (refine step_go [] ?_;conv=>whnf) | (refine two ?_ ?_<;>intro g<;>(try simp only[bsx]at g)<;>(conv=>whnf)) | (refine And.intro rfl ?_;conv=>whnf) | (refine dr_go (by decide +kernel) ?_;conv=>whnf) | fail)
     refine ⟨_, _, weak_of (.cons (.eq rfl) .nil) (.cons (.cells ?_) (.cons .moved (.cons .moved (.cons .moved (.cons .moved .nil))))) rfl rfl rfl, h1 p i { x with p := { x.p with pen := n }, err := 7, at_ := p } hyy rfl rfl⟩
     repeat' first
      | exact VWs.nil
      | refine VWs.cons (VW.eq rfl) ?_
      | refine VWs.cons (VW.eq (congrArg (V.int .i64) wn)) ?_
 · have gw : w = w_reset := by assumption
   subst gw
   refine c_rnumber k i x (fun _ => hk) hl hq _ (fun _ n r i1 e hd he => ?_) (fun _ p n e => ?_) (fun h => absurd hx h)
   · conv=>whnf
     (repeat' first | (refine step_go [] ?_;conv=>whnf) | (refine two ?_ ?_<;>intro g<;>(try simp only[bsx]at g)<;>(conv=>whnf)) | (refine And.intro rfl ?_;conv=>whnf) | (refine dr_go (by decide +kernel) ?_;conv=>whnf) | fail)
     refine c_rrate k i1 x (fun _ => by rw [hd]; exact he) hl _ (fun _ v r' i2 e2 hd2 he2 => ?_) (fun _ p v e2 => ?_) (fun h => absurd hx h)
     · rw [hd] at e2
       have hyy : y = .ok { x.p with resets := x.p.resets ++ [⟨n, v⟩] } r' := by
        rw [cs_reset, e] at hy
        have hy : some ((takenS takeR r).bind fun v r => Res.ok { x.p with resets := x.p.resets ++ [⟨n, v⟩] } r) = some y := hy
        rw [e2] at hy; exact (Option.some.inj hy).symm
       conv=>whnf
       (repeat' first | (refine step_go [] ?_;conv=>whnf) | (refine two ?_ ?_<;>intro g<;>(try simp only[bsx]at g)<;>(conv=>whnf)) | (refine And.intro rfl ?_;conv=>whnf) | (refine dr_go (by decide +kernel) ?_;conv=>whnf) | fail)
       refine ⟨by simp; omega, by simp [V.cells], ?_⟩
       conv=>whnf
       (repeat' first | (refine step_go [] ?_;conv=>whnf) | (refine two ?_ ?_<;>intro g<;>(try simp only[bsx]at g)<;>(conv=>whnf)) | (refine And.intro rfl ?_;conv=>whnf) | (refine dr_go (by decide +kernel) ?_;conv=>whnf) | fail)
       · have hs1 : 1 <= x.s1.length := by have := Nat.le_of_ble_eq_true g; simp at this; omega
         refine ⟨by simp [rL, tL, iL], ?_⟩
         conv=>whnf
         (repeat' first | (refine step_go [] ?_;conv=>whnf) | (refine two ?_ ?_<;>intro g<;>(try simp only[bsx]at g)<;>(conv=>whnf)) | (refine And.intro rfl ?_;conv=>whnf) | (refine dr_go (by decide +kernel) ?_;conv=>whnf) | fail)
         have hap := app_in encR x.p.resets ⟨n, v⟩ x.s1
         refine ⟨_, _, weak_of (.cons (.eq rfl) .nil) (.cons (.cells ?_) (.cons (buf_mv hap) (.cons .moved (.cons .moved (.cons .moved .nil))))) rfl rfl rfl, h0 _ r' i2 { x with p := { x.p with resets := x.p.resets ++ [⟨n, v⟩] }, s1 := (x.s1.drop 1) } hyy hd2 he2 rfl rfl hx⟩
         repeat' first
          | exact VWs.nil
          | refine VWs.cons (VW.eq rfl) ?_
          | refine VWs.cons (VW.eq (V_slo (by simp) (by simp; omega))) ?_
       · refine ⟨by simp [rL, tL, iL], fun sp hsp => ?_⟩
         conv=>whnf
         (repeat' first | (refine step_go [] ?_;conv=>whnf) | (refine two ?_ ?_<;>intro g<;>(try simp only[bsx]at g)<;>(conv=>whnf)) | (refine And.intro rfl ?_;conv=>whnf) | (refine dr_go (by decide +kernel) ?_;conv=>whnf) | fail)
         have hap := app_gr encR x.p.resets ⟨n, v⟩ x.s1 sp
         refine end_sel [0, 5, 2, 3, 4] ?_
         conv=>whnf
         refine ⟨_, _, weak_of (.cons (.eq rfl) .nil) (.cons (.cells ?_) (.cons (.eq (congrArg (fun l => VObj.buf true 2 l none) hap)) (.cons .moved (.cons .moved (.cons .moved .nil))))) rfl rfl rfl, h0 _ r' i2 { x with p := { x.p with resets := x.p.resets ++ [⟨n, v⟩] }, s1 := sp } hyy hd2 he2 rfl rfl hx⟩
         repeat' first
          | exact VWs.nil
          | refine VWs.cons (VW.eq rfl) ?_
          | refine VWs.cons (VW.eq (V_slo (by simp) (by simp))) ?_
     · rw [hd] at e2
       have hyy : y = .err p 7 := by
        rw [cs_reset, e] at hy
        have hy : some ((takenS takeR r).bind fun v r => Res.ok { x.p with resets := x.p.resets ++ [⟨n, v⟩] } r) = some y := hy
        rw [e2] at hy; exact (Option.some.inj hy).symm
       conv=>whnf
       (repeat' first | (refine step_go [] ?_;conv=>whnf) | (refine two ?_ ?_<;>intro g<;>(try simp only[bsx]at g)<;>(conv=>whnf)) | (refine And.intro rfl ?_;conv=>whnf) | (refine dr_go (by decide +kernel) ?_;conv=>whnf) | fail)
       refine ⟨by simp; omega, by simp [V.cells], ?_⟩
       conv=>whnf
       (repeat' first | (refine step_go [] ?_;conv=>whnf) | (refine two ?_ ?_<;>intro g<;>(try simp only[bsx]at g)<;>(conv=>whnf)) | (refine And.intro rfl ?_;conv=>whnf) | (refine dr_go (by decide +kernel) ?_;conv=>whnf) | fail)
       · have hs1 : 1 <= x.s1.length := by have := Nat.le_of_ble_eq_true g; simp at this; omega
         refine ⟨by simp [rL, tL, iL], ?_⟩
         conv=>whnf
         (repeat' first | (refine step_go [] ?_;conv=>whnf) | (refine two ?_ ?_<;>intro g<;>(try simp only[bsx]at g)<;>(conv=>whnf)) | (refine And.intro rfl ?_;conv=>whnf) | (refine dr_go (by decide +kernel) ?_;conv=>whnf) | fail)
         have hap := app_in encR x.p.resets ⟨n, v⟩ x.s1
         refine ⟨_, _, weak_of (.cons (.eq rfl) .nil) (.cons (.cells ?_) (.cons (buf_mv hap) (.cons .moved (.cons .moved (.cons .moved .nil))))) rfl rfl rfl, h1 p i1 { x with p := { x.p with resets := x.p.resets ++ [⟨n, v⟩] }, s1 := (x.s1.drop 1), err := 7, at_ := p } hyy rfl rfl⟩
         repeat' first
          | exact VWs.nil
          | refine VWs.cons (VW.eq rfl) ?_
          | refine VWs.cons (VW.eq (V_slo (by simp) (by simp; omega))) ?_
       · refine ⟨by simp [rL, tL, iL], fun sp hsp => ?_⟩
         conv=>whnf
         (repeat' first | (refine step_go [] ?_;conv=>whnf) | (refine two ?_ ?_<;>intro g<;>(try simp only[bsx]at g)<;>(conv=>whnf)) | (refine And.intro rfl ?_;conv=>whnf) | (refine dr_go (by decide +kernel) ?_;conv=>whnf) | fail)
         have hap := app_gr encR x.p.resets ⟨n, v⟩ x.s1 sp
         refine end_sel [0, 5, 2, 3, 4] ?_
         conv=>whnf
         refine ⟨_, _, weak_of (.cons (.eq rfl) .nil) (.cons (.cells ?_) (.cons (.eq (congrArg (fun l => VObj.buf true 2 l none) hap)) (.cons .moved (.cons .moved (.cons .moved .nil))))) rfl rfl rfl, h1 p i1 { x with p := { x.p with resets := x.p.resets ++ [⟨n, v⟩] }, s1 := sp, err := 7, at_ := p } hyy rfl rfl⟩
         repeat' first
          | exact VWs.nil
          | refine VWs.cons (VW.eq rfl) ?_
          | refine VWs.cons (VW.eq (V_slo (by simp) (by simp))) ?_
   · have hyy : y = .err p 7 := by rw [cs_reset, e] at hy; exact (Option.some.inj hy).symm
     conv=>whnf
     (repeat' first | (refine step_go [] ?_;conv=>whnf) | (refine two ?_ ?_<;>intro g<;>(try simp only[bsx]at g)<;>(conv=>whnf)) | (refine And.intro rfl ?_;conv=>whnf) | (refine dr_go (by decide +kernel) ?_;conv=>whnf) | fail)
     refine c_rrate k i { x with err := 7, at_ := p } (fun h => absurd (show (7 : Int) = 0 from h) (by decide)) hl _ (fun h => absurd (show (7 : Int) = 0 from h) (by decide)) (fun h => absurd (show (7 : Int) = 0 from h) (by decide)) (fun _ v => ?_)
     conv=>whnf
     (repeat' first | (refine step_go [] ?_;conv=>whnf) | (refine two ?_ ?_<;>intro g<;>(try simp only[bsx]at g)<;>(conv=>whnf)) | (refine And.intro rfl ?_;conv=>whnf) | (refine dr_go (by decide +kernel) ?_;conv=>whnf) | fail)
     refine ⟨by simp; omega, by simp [V.cells], ?_⟩
     conv=>whnf
     (repeat' first | (refine step_go [] ?_;conv=>whnf) | (refine two ?_ ?_<;>intro g<;>(try simp only[bsx]at g)<;>(conv=>whnf)) | (refine And.intro rfl ?_;conv=>whnf) | (refine dr_go (by decide +kernel) ?_;conv=>whnf) | fail)
     · have hs1 : 1 <= x.s1.length := by have := Nat.le_of_ble_eq_true g; simp at this; omega
       refine ⟨by simp [rL, tL, iL], ?_⟩
       conv=>whnf
       (repeat' first | (refine step_go [] ?_;conv=>whnf) | (refine two ?_ ?_<;>intro g<;>(try simp only[bsx]at g)<;>(conv=>whnf)) | (refine And.intro rfl ?_;conv=>whnf) | (refine dr_go (by decide +kernel) ?_;conv=>whnf) | fail)
       have hap := app_in encR x.p.resets ⟨n, v⟩ x.s1
       refine ⟨_, _, weak_of (.cons (.eq rfl) .nil) (.cons (.cells ?_) (.cons (buf_mv hap) (.cons .moved (.cons .moved (.cons .moved .nil))))) rfl rfl rfl, h1 p i { x with p := { x.p with resets := x.p.resets ++ [⟨n, v⟩] }, s1 := (x.s1.drop 1), err := 7, at_ := p } hyy rfl rfl⟩
       repeat' first
        | exact VWs.nil
        | refine VWs.cons (VW.eq rfl) ?_
        | refine VWs.cons (VW.eq (V_slo (by simp) (by simp; omega))) ?_
     · refine ⟨by simp [rL, tL, iL], fun sp hsp => ?_⟩
       conv=>whnf
       (repeat' first | (refine step_go [] ?_;conv=>whnf) | (refine two ?_ ?_<;>intro g<;>(try simp only[bsx]at g)<;>(conv=>whnf)) | (refine And.intro rfl ?_;conv=>whnf) | (refine dr_go (by decide +kernel) ?_;conv=>whnf) | fail)
       have hap := app_gr encR x.p.resets ⟨n, v⟩ x.s1 sp
       refine end_sel [0, 5, 2, 3, 4] ?_
       conv=>whnf
       refine ⟨_, _, weak_of (.cons (.eq rfl) .nil) (.cons (.cells ?_) (.cons (.eq (congrArg (fun l => VObj.buf true 2 l none) hap)) (.cons .moved (.cons .moved (.cons .moved .nil))))) rfl rfl rfl, h1 p i { x with p := { x.p with resets := x.p.resets ++ [⟨n, v⟩] }, s1 := sp, err := 7, at_ := p } hyy rfl rfl⟩
       repeat' first
        | exact VWs.nil
        | refine VWs.cons (VW.eq rfl) ?_
        | refine VWs.cons (VW.eq (V_slo (by simp) (by simp))) ?_
 · have gw : w = w_late := by assumption
   subst gw
   refine c_rnumber k i x (fun _ => hk) hl hq _ (fun _ n r i1 e hd he => ?_) (fun _ p n e => ?_) (fun h => absurd hx h)
   · conv=>whnf
     (repeat' first | (refine step_go [] ?_;conv=>whnf) | (refine two ?_ ?_<;>intro g<;>(try simp only[bsx]at g)<;>(conv=>whnf)) | (refine And.intro rfl ?_;conv=>whnf) | (refine dr_go (by decide +kernel) ?_;conv=>whnf) | fail)
     refine c_rmoney k i1 x (fun _ => by rw [hd]; exact he) hl _ (fun _ v r' i2 e2 hd2 he2 => ?_) (fun _ p v e2 => ?_) (fun h => absurd hx h)
     · rw [hd] at e2
       have hyy : y = .ok { x.p with late := x.p.late ++ [⟨n, v⟩] } r' := by
        rw [cs_late, e] at hy
        have hy : some ((takenS takeM r).bind fun v r => Res.ok { x.p with late := x.p.late ++ [⟨n, v⟩] } r) = some y := hy
        rw [e2] at hy; exact (Option.some.inj hy).symm
       conv=>whnf
       (repeat' first | (refine step_go [] ?_;conv=>whnf) | (refine two ?_ ?_<;>intro g<;>(try simp only[bsx]at g)<;>(conv=>whnf)) | (refine And.intro rfl ?_;conv=>whnf) | (refine dr_go (by decide +kernel) ?_;conv=>whnf) | fail)
       refine ⟨by simp; omega, by simp [V.cells], ?_⟩
       conv=>whnf
       (repeat' first | (refine step_go [] ?_;conv=>whnf) | (refine two ?_ ?_<;>intro g<;>(try simp only[bsx]at g)<;>(conv=>whnf)) | (refine And.intro rfl ?_;conv=>whnf) | (refine dr_go (by decide +kernel) ?_;conv=>whnf) | fail)
       · have hs1 : 1 <= x.s2.length := by have := Nat.le_of_ble_eq_true g; simp at this; omega
         refine ⟨by simp [rL, tL, iL], ?_⟩
         conv=>whnf
         (repeat' first | (refine step_go [] ?_;conv=>whnf) | (refine two ?_ ?_<;>intro g<;>(try simp only[bsx]at g)<;>(conv=>whnf)) | (refine And.intro rfl ?_;conv=>whnf) | (refine dr_go (by decide +kernel) ?_;conv=>whnf) | fail)
         have hap := app_in encT x.p.late ⟨n, v⟩ x.s2
         refine ⟨_, _, weak_of (.cons (.eq rfl) .nil) (.cons (.cells ?_) (.cons .moved (.cons (buf_mv hap) (.cons .moved (.cons .moved .nil))))) rfl rfl rfl, h0 _ r' i2 { x with p := { x.p with late := x.p.late ++ [⟨n, v⟩] }, s2 := (x.s2.drop 1) } hyy hd2 he2 rfl rfl hx⟩
         repeat' first
          | exact VWs.nil
          | refine VWs.cons (VW.eq rfl) ?_
          | refine VWs.cons (VW.eq (V_slo (by simp) (by simp; omega))) ?_
       · refine ⟨by simp [rL, tL, iL], fun sp hsp => ?_⟩
         conv=>whnf
         (repeat' first | (refine step_go [] ?_;conv=>whnf) | (refine two ?_ ?_<;>intro g<;>(try simp only[bsx]at g)<;>(conv=>whnf)) | (refine And.intro rfl ?_;conv=>whnf) | (refine dr_go (by decide +kernel) ?_;conv=>whnf) | fail)
         have hap := app_gr encT x.p.late ⟨n, v⟩ x.s2 sp
         refine end_sel [0, 1, 5, 3, 4] ?_
         conv=>whnf
         refine ⟨_, _, weak_of (.cons (.eq rfl) .nil) (.cons (.cells ?_) (.cons .moved (.cons (.eq (congrArg (fun l => VObj.buf true 2 l none) hap)) (.cons .moved (.cons .moved .nil))))) rfl rfl rfl, h0 _ r' i2 { x with p := { x.p with late := x.p.late ++ [⟨n, v⟩] }, s2 := sp } hyy hd2 he2 rfl rfl hx⟩
         repeat' first
          | exact VWs.nil
          | refine VWs.cons (VW.eq rfl) ?_
          | refine VWs.cons (VW.eq (V_slo (by simp) (by simp))) ?_
     · rw [hd] at e2
       have hyy : y = .err p 7 := by
        rw [cs_late, e] at hy
        have hy : some ((takenS takeM r).bind fun v r => Res.ok { x.p with late := x.p.late ++ [⟨n, v⟩] } r) = some y := hy
        rw [e2] at hy; exact (Option.some.inj hy).symm
       conv=>whnf
       (repeat' first | (refine step_go [] ?_;conv=>whnf) | (refine two ?_ ?_<;>intro g<;>(try simp only[bsx]at g)<;>(conv=>whnf)) | (refine And.intro rfl ?_;conv=>whnf) | (refine dr_go (by decide +kernel) ?_;conv=>whnf) | fail)
       refine ⟨by simp; omega, by simp [V.cells], ?_⟩
       conv=>whnf
       (repeat' first | (refine step_go [] ?_;conv=>whnf) | (refine two ?_ ?_<;>intro g<;>(try simp only[bsx]at g)<;>(conv=>whnf)) | (refine And.intro rfl ?_;conv=>whnf) | (refine dr_go (by decide +kernel) ?_;conv=>whnf) | fail)
       · have hs1 : 1 <= x.s2.length := by have := Nat.le_of_ble_eq_true g; simp at this; omega
         refine ⟨by simp [rL, tL, iL], ?_⟩
         conv=>whnf
         (repeat' first | (refine step_go [] ?_;conv=>whnf) | (refine two ?_ ?_<;>intro g<;>(try simp only[bsx]at g)<;>(conv=>whnf)) | (refine And.intro rfl ?_;conv=>whnf) | (refine dr_go (by decide +kernel) ?_;conv=>whnf) | fail)
         have hap := app_in encT x.p.late ⟨n, v⟩ x.s2
         refine ⟨_, _, weak_of (.cons (.eq rfl) .nil) (.cons (.cells ?_) (.cons .moved (.cons (buf_mv hap) (.cons .moved (.cons .moved .nil))))) rfl rfl rfl, h1 p i1 { x with p := { x.p with late := x.p.late ++ [⟨n, v⟩] }, s2 := (x.s2.drop 1), err := 7, at_ := p } hyy rfl rfl⟩
         repeat' first
          | exact VWs.nil
          | refine VWs.cons (VW.eq rfl) ?_
          | refine VWs.cons (VW.eq (V_slo (by simp) (by simp; omega))) ?_
       · refine ⟨by simp [rL, tL, iL], fun sp hsp => ?_⟩
         conv=>whnf
         (repeat' first | (refine step_go [] ?_;conv=>whnf) | (refine two ?_ ?_<;>intro g<;>(try simp only[bsx]at g)<;>(conv=>whnf)) | (refine And.intro rfl ?_;conv=>whnf) | (refine dr_go (by decide +kernel) ?_;conv=>whnf) | fail)
         have hap := app_gr encT x.p.late ⟨n, v⟩ x.s2 sp
         refine end_sel [0, 1, 5, 3, 4] ?_
         conv=>whnf
         refine ⟨_, _, weak_of (.cons (.eq rfl) .nil) (.cons (.cells ?_) (.cons .moved (.cons (.eq (congrArg (fun l => VObj.buf true 2 l none) hap)) (.cons .moved (.cons .moved .nil))))) rfl rfl rfl, h1 p i1 { x with p := { x.p with late := x.p.late ++ [⟨n, v⟩] }, s2 := sp, err := 7, at_ := p } hyy rfl rfl⟩
         repeat' first
          | exact VWs.nil
          | refine VWs.cons (VW.eq rfl) ?_
          | refine VWs.cons (VW.eq (V_slo (by simp) (by simp))) ?_
   · have hyy : y = .err p 7 := by rw [cs_late, e] at hy; exact (Option.some.inj hy).symm
     conv=>whnf
     (repeat' first | (refine step_go [] ?_;conv=>whnf) | (refine two ?_ ?_<;>intro g<;>(try simp only[bsx]at g)<;>(conv=>whnf)) | (refine And.intro rfl ?_;conv=>whnf) | (refine dr_go (by decide +kernel) ?_;conv=>whnf) | fail)
     refine c_rmoney k i { x with err := 7, at_ := p } (fun h => absurd (show (7 : Int) = 0 from h) (by decide)) hl _ (fun h => absurd (show (7 : Int) = 0 from h) (by decide)) (fun h => absurd (show (7 : Int) = 0 from h) (by decide)) (fun _ v => ?_)
     conv=>whnf
     (repeat' first | (refine step_go [] ?_;conv=>whnf) | (refine two ?_ ?_<;>intro g<;>(try simp only[bsx]at g)<;>(conv=>whnf)) | (refine And.intro rfl ?_;conv=>whnf) | (refine dr_go (by decide +kernel) ?_;conv=>whnf) | fail)
     refine ⟨by simp; omega, by simp [V.cells], ?_⟩
     conv=>whnf
     (repeat' first | (refine step_go [] ?_;conv=>whnf) | (refine two ?_ ?_<;>intro g<;>(try simp only[bsx]at g)<;>(conv=>whnf)) | (refine And.intro rfl ?_;conv=>whnf) | (refine dr_go (by decide +kernel) ?_;conv=>whnf) | fail)
     · have hs1 : 1 <= x.s2.length := by have := Nat.le_of_ble_eq_true g; simp at this; omega
       refine ⟨by simp [rL, tL, iL], ?_⟩
       conv=>whnf
       (repeat' first | (refine step_go [] ?_;conv=>whnf) | (refine two ?_ ?_<;>intro g<;>(try simp only[bsx]at g)<;>(conv=>whnf)) | (refine And.intro rfl ?_;conv=>whnf) | (refine dr_go (by decide +kernel) ?_;conv=>whnf) | fail)
       have hap := app_in encT x.p.late ⟨n, v⟩ x.s2
       refine ⟨_, _, weak_of (.cons (.eq rfl) .nil) (.cons (.cells ?_) (.cons .moved (.cons (buf_mv hap) (.cons .moved (.cons .moved .nil))))) rfl rfl rfl, h1 p i { x with p := { x.p with late := x.p.late ++ [⟨n, v⟩] }, s2 := (x.s2.drop 1), err := 7, at_ := p } hyy rfl rfl⟩
       repeat' first
        | exact VWs.nil
        | refine VWs.cons (VW.eq rfl) ?_
        | refine VWs.cons (VW.eq (V_slo (by simp) (by simp; omega))) ?_
     · refine ⟨by simp [rL, tL, iL], fun sp hsp => ?_⟩
       conv=>whnf
       (repeat' first | (refine step_go [] ?_;conv=>whnf) | (refine two ?_ ?_<;>intro g<;>(try simp only[bsx]at g)<;>(conv=>whnf)) | (refine And.intro rfl ?_;conv=>whnf) | (refine dr_go (by decide +kernel) ?_;conv=>whnf) | fail)
       have hap := app_gr encT x.p.late ⟨n, v⟩ x.s2 sp
       refine end_sel [0, 1, 5, 3, 4] ?_
       conv=>whnf
       refine ⟨_, _, weak_of (.cons (.eq rfl) .nil) (.cons (.cells ?_) (.cons .moved (.cons (.eq (congrArg (fun l => VObj.buf true 2 l none) hap)) (.cons .moved (.cons .moved .nil))))) rfl rfl rfl, h1 p i { x with p := { x.p with late := x.p.late ++ [⟨n, v⟩] }, s2 := sp, err := 7, at_ := p } hyy rfl rfl⟩
       repeat' first
        | exact VWs.nil
        | refine VWs.cons (VW.eq rfl) ?_
        | refine VWs.cons (VW.eq (V_slo (by simp) (by simp))) ?_
 · have gw : w = w_cap := by assumption
   subst gw
   refine c_rmoney k i x (fun _ => hk) hl _ (fun _ n r i' e hd he => ?_) (fun _ p n e => ?_) (fun h => absurd hx h)
   · have hyy : y = .ok { x.p with cap := n } r := by rw [cs_cap, e] at hy; exact (Option.some.inj hy).symm
     have wn : True := trivial
     conv=>whnf
     (repeat' first | (refine step_go [] ?_;conv=>whnf) | (refine two ?_ ?_<;>intro g<;>(try simp only[bsx]at g)<;>(conv=>whnf)) | (refine And.intro rfl ?_;conv=>whnf) | (refine dr_go (by decide +kernel) ?_;conv=>whnf) | fail)
     refine ⟨_, _, weak_of (.cons (.eq rfl) .nil) (.cons (.cells ?_) (.cons .moved (.cons .moved (.cons .moved (.cons .moved .nil))))) rfl rfl rfl, h0 _ r i' { x with p := { x.p with cap := n } } hyy hd he rfl rfl hx⟩
     repeat' first
      | exact VWs.nil
      | refine VWs.cons (VW.eq rfl) ?_
      | refine VWs.cons (VW.eq (congrArg (V.int .i64) wn)) ?_
   · have hyy : y = .err p 7 := by rw [cs_cap, e] at hy; exact (Option.some.inj hy).symm
     have wn : True := trivial
     conv=>whnf
     (repeat' first | (refine step_go [] ?_;conv=>whnf) | (refine two ?_ ?_<;>intro g<;>(try simp only[bsx]at g)<;>(conv=>whnf)) | (refine And.intro rfl ?_;conv=>whnf) | (refine dr_go (by decide +kernel) ?_;conv=>whnf) | fail)
     refine ⟨_, _, weak_of (.cons (.eq rfl) .nil) (.cons (.cells ?_) (.cons .moved (.cons .moved (.cons .moved (.cons .moved .nil))))) rfl rfl rfl, h1 p i { x with p := { x.p with cap := n }, err := 7, at_ := p } hyy rfl rfl⟩
     repeat' first
      | exact VWs.nil
      | refine VWs.cons (VW.eq rfl) ?_
      | refine VWs.cons (VW.eq (congrArg (V.int .i64) wn)) ?_
 · have gw : w = w_holiday := by assumption
   subst gw
   refine c_rdate k i x (fun _ => hk) hl _ (fun _ v r' i' e hd he => ?_) (fun _ p v e => ?_) (fun h => absurd hx h)
   · have hyy : y = .ok { x.p with hol := x.p.hol ++ [v] } r' := by rw [cs_holiday, e] at hy; exact (Option.some.inj hy).symm
     conv=>whnf
     (repeat' first | (refine step_go [] ?_;conv=>whnf) | (refine two ?_ ?_<;>intro g<;>(try simp only[bsx]at g)<;>(conv=>whnf)) | (refine And.intro rfl ?_;conv=>whnf) | (refine dr_go (by decide +kernel) ?_;conv=>whnf) | fail)
     refine ⟨by simp; omega, by simp [V.cells], ?_⟩
     conv=>whnf
     (repeat' first | (refine step_go [] ?_;conv=>whnf) | (refine two ?_ ?_<;>intro g<;>(try simp only[bsx]at g)<;>(conv=>whnf)) | (refine And.intro rfl ?_;conv=>whnf) | (refine dr_go (by decide +kernel) ?_;conv=>whnf) | fail)
     · have hs1 : 1 <= x.s3.length := by have := Nat.le_of_ble_eq_true g; simp at this; omega
       refine ⟨by simp [rL, tL, iL], ?_⟩
       conv=>whnf
       (repeat' first | (refine step_go [] ?_;conv=>whnf) | (refine two ?_ ?_<;>intro g<;>(try simp only[bsx]at g)<;>(conv=>whnf)) | (refine And.intro rfl ?_;conv=>whnf) | (refine dr_go (by decide +kernel) ?_;conv=>whnf) | fail)
       have hap := app_in (V.int .i64) x.p.hol v x.s3
       refine ⟨_, _, weak_of (.cons (.eq rfl) .nil) (.cons (.cells ?_) (.cons .moved (.cons .moved (.cons (buf_mv hap) (.cons .moved .nil))))) rfl rfl rfl, h0 _ r' i' { x with p := { x.p with hol := x.p.hol ++ [v] }, s3 := (x.s3.drop 1) } hyy hd he rfl rfl hx⟩
       repeat' first
        | exact VWs.nil
        | refine VWs.cons (VW.eq rfl) ?_
        | refine VWs.cons (VW.eq (V_slo (by simp) (by simp; omega))) ?_
     · refine ⟨by simp [rL, tL, iL], fun sp hsp => ?_⟩
       conv=>whnf
       (repeat' first | (refine step_go [] ?_;conv=>whnf) | (refine two ?_ ?_<;>intro g<;>(try simp only[bsx]at g)<;>(conv=>whnf)) | (refine And.intro rfl ?_;conv=>whnf) | (refine dr_go (by decide +kernel) ?_;conv=>whnf) | fail)
       have hap := app_gr (V.int .i64) x.p.hol v x.s3 sp
       refine end_sel [0, 1, 2, 5, 4] ?_
       conv=>whnf
       refine ⟨_, _, weak_of (.cons (.eq rfl) .nil) (.cons (.cells ?_) (.cons .moved (.cons .moved (.cons (.eq (congrArg (fun l => VObj.buf true 1 l none) hap)) (.cons .moved .nil))))) rfl rfl rfl, h0 _ r' i' { x with p := { x.p with hol := x.p.hol ++ [v] }, s3 := sp } hyy hd he rfl rfl hx⟩
       repeat' first
        | exact VWs.nil
        | refine VWs.cons (VW.eq rfl) ?_
        | refine VWs.cons (VW.eq (V_slo (by simp) (by simp))) ?_
   · have hyy : y = .err p 7 := by rw [cs_holiday, e] at hy; exact (Option.some.inj hy).symm
     conv=>whnf
     (repeat' first | (refine step_go [] ?_;conv=>whnf) | (refine two ?_ ?_<;>intro g<;>(try simp only[bsx]at g)<;>(conv=>whnf)) | (refine And.intro rfl ?_;conv=>whnf) | (refine dr_go (by decide +kernel) ?_;conv=>whnf) | fail)
     refine ⟨by simp; omega, by simp [V.cells], ?_⟩
     conv=>whnf
     (repeat' first | (refine step_go [] ?_;conv=>whnf) | (refine two ?_ ?_<;>intro g<;>(try simp only[bsx]at g)<;>(conv=>whnf)) | (refine And.intro rfl ?_;conv=>whnf) | (refine dr_go (by decide +kernel) ?_;conv=>whnf) | fail)
     · have hs1 : 1 <= x.s3.length := by have := Nat.le_of_ble_eq_true g; simp at this; omega
       refine ⟨by simp [rL, tL, iL], ?_⟩
       conv=>whnf
       (repeat' first | (refine step_go [] ?_;conv=>whnf) | (refine two ?_ ?_<;>intro g<;>(try simp only[bsx]at g)<;>(conv=>whnf)) | (refine And.intro rfl ?_;conv=>whnf) | (refine dr_go (by decide +kernel) ?_;conv=>whnf) | fail)
       have hap := app_in (V.int .i64) x.p.hol v x.s3
       refine ⟨_, _, weak_of (.cons (.eq rfl) .nil) (.cons (.cells ?_) (.cons .moved (.cons .moved (.cons (buf_mv hap) (.cons .moved .nil))))) rfl rfl rfl, h1 p i { x with p := { x.p with hol := x.p.hol ++ [v] }, s3 := (x.s3.drop 1), err := 7, at_ := p } hyy rfl rfl⟩
       repeat' first
        | exact VWs.nil
        | refine VWs.cons (VW.eq rfl) ?_
        | refine VWs.cons (VW.eq (V_slo (by simp) (by simp; omega))) ?_
     · refine ⟨by simp [rL, tL, iL], fun sp hsp => ?_⟩
       conv=>whnf
       (repeat' first | (refine step_go [] ?_;conv=>whnf) | (refine two ?_ ?_<;>intro g<;>(try simp only[bsx]at g)<;>(conv=>whnf)) | (refine And.intro rfl ?_;conv=>whnf) | (refine dr_go (by decide +kernel) ?_;conv=>whnf) | fail)
       have hap := app_gr (V.int .i64) x.p.hol v x.s3 sp
       refine end_sel [0, 1, 2, 5, 4] ?_
       conv=>whnf
       refine ⟨_, _, weak_of (.cons (.eq rfl) .nil) (.cons (.cells ?_) (.cons .moved (.cons .moved (.cons (.eq (congrArg (fun l => VObj.buf true 1 l none) hap)) (.cons .moved .nil))))) rfl rfl rfl, h1 p i { x with p := { x.p with hol := x.p.hol ++ [v] }, s3 := sp, err := 7, at_ := p } hyy rfl rfl⟩
       repeat' first
        | exact VWs.nil
        | refine VWs.cons (VW.eq rfl) ?_
        | refine VWs.cons (VW.eq (V_slo (by simp) (by simp))) ?_
 · have gw : w = w_order := by assumption
   subst gw
   refine c_rorder k i x hk hl hx _ (fun o r i' e hd he => ?_) (fun p i' a e => ?_)
   · have hlen := orderN_len _ _ _ _ _ e
     have hyy : y = .ok (ordP x.p o) r := by
      rw [cs_order, e] at hy
      rw [(Option.some.inj hy).symm]
      rcases o with _ | ⟨a1, _ | ⟨a2, _ | ⟨a3, _ | ⟨a4, o⟩⟩⟩⟩
      all_goals first | (exfalso; revert hlen; simp; done) | rfl
     have wn : True := trivial
     conv=>whnf
     (repeat' first | (refine step_go [] ?_;conv=>whnf) | (refine two ?_ ?_<;>intro g<;>(try simp only[bsx]at g)<;>(conv=>whnf)) | (refine And.intro rfl ?_;conv=>whnf) | (refine dr_go (by decide +kernel) ?_;conv=>whnf) | fail)
     refine ⟨_, _, weak_of (.cons (.eq rfl) .nil) (.cons (.cells ?_) (.cons .moved (.cons .moved (.cons .moved (.cons .moved .nil))))) rfl rfl rfl, h0 _ r i' { x with p := ordP x.p o } hyy hd he rfl rfl hx⟩
     repeat' first
      | exact VWs.nil
      | refine VWs.cons (VW.eq rfl) ?_
      | refine VWs.cons (VW.eq (congrArg (V.int .i64) wn)) ?_
   · have hyy : y = .err p 7 := by rw [cs_order, e] at hy; exact (Option.some.inj hy).symm
     have wn : True := trivial
     conv=>whnf
     (repeat' first | (refine step_go [] ?_;conv=>whnf) | (refine two ?_ ?_<;>intro g<;>(try simp only[bsx]at g)<;>(conv=>whnf)) | (refine And.intro rfl ?_;conv=>whnf) | (refine dr_go (by decide +kernel) ?_;conv=>whnf) | fail)
     refine ⟨_, _, weak_of (.cons (.eq rfl) .nil) (.cons (.cells ?_) (.cons .moved (.cons .moved (.cons .moved (.cons .moved .nil))))) rfl rfl rfl, h1 p i' { x with p := ordP x.p a, err := 7, at_ := p } hyy rfl rfl⟩
     repeat' first
      | exact VWs.nil
      | refine VWs.cons (VW.eq rfl) ?_
      | refine VWs.cons (VW.eq (congrArg (V.int .i64) wn)) ?_
 · have gw : w = w_over := by assumption
   subst gw
   refine VCall.args (args' := [.ptr 0 0, .sl (sL [w_hold, w_prepay, w_refund]) .no]) (.cons (.eq rfl) (.cons .no .nil)) rfl (c_rword k i x (fun _ => hk) hl [w_hold, w_prepay, w_refund] (by unfold bytesOk; decide) (by decide) _ (fun _ n r i' e hd he => ?_) (fun _ p e => ?_) (fun h => absurd hx h))
   · have hyy : y = .ok { x.p with over := n } r := by rw [cs_over, e] at hy; exact (Option.some.inj hy).symm
     have hr := pick_range e
     simp at hr
     have wn : IntKind.i64.wrap (1 + (n - 1)) = n := by rw [wrap64 (by omega) (by omega)]; omega
     conv=>whnf
     (repeat' first | (refine step_go [] ?_;conv=>whnf) | (refine two ?_ ?_<;>intro g<;>(try simp only[bsx]at g)<;>(conv=>whnf)) | (refine And.intro rfl ?_;conv=>whnf) | (refine dr_go (by decide +kernel) ?_;conv=>whnf) | fail)
     refine ⟨_, _, weak_of (.cons (.eq rfl) .nil) (.cons (.cells ?_) (.cons .moved (.cons .moved (.cons .moved (.cons .moved .nil))))) rfl rfl rfl, h0 _ r i' { x with p := { x.p with over := n } } hyy hd he rfl rfl hx⟩
     repeat' first
      | exact VWs.nil
      | refine VWs.cons (VW.eq rfl) ?_
      | refine VWs.cons (VW.eq (congrArg (V.int .i64) wn)) ?_
   · have hyy : y = .err p 7 := by rw [cs_over, e] at hy; exact (Option.some.inj hy).symm
     have wn : IntKind.i64.wrap (1 + 0) = 1 := by decide
     conv=>whnf
     (repeat' first | (refine step_go [] ?_;conv=>whnf) | (refine two ?_ ?_<;>intro g<;>(try simp only[bsx]at g)<;>(conv=>whnf)) | (refine And.intro rfl ?_;conv=>whnf) | (refine dr_go (by decide +kernel) ?_;conv=>whnf) | fail)
     refine ⟨_, _, weak_of (.cons (.eq rfl) .nil) (.cons (.cells ?_) (.cons .moved (.cons .moved (.cons .moved (.cons .moved .nil))))) rfl rfl rfl, h1 p i { x with p := { x.p with over := 1 }, err := 7, at_ := p } hyy rfl rfl⟩
     repeat' first
      | exact VWs.nil
      | refine VWs.cons (VW.eq rfl) ?_
      | refine VWs.cons (VW.eq (congrArg (V.int .i64) wn)) ?_
 · have gw : w = w_roll := by assumption
   subst gw
   refine VCall.args (args' := [.ptr 0 0, .sl (sL [w_stay, w_next, w_within, w_previous]) .no]) (.cons (.eq rfl) (.cons .no .nil)) rfl (c_rword k i x (fun _ => hk) hl [w_stay, w_next, w_within, w_previous] (by unfold bytesOk; decide) (by decide) _ (fun _ n r i' e hd he => ?_) (fun _ p e => ?_) (fun h => absurd hx h))
   · have hyy : y = .ok { x.p with roll := n } r := by rw [cs_roll, e] at hy; exact (Option.some.inj hy).symm
     have hr := pick_range e
     simp at hr
     have wn : IntKind.i64.wrap (1 + (n - 1)) = n := by rw [wrap64 (by omega) (by omega)]; omega
     conv=>whnf
     (repeat' first | (refine step_go [] ?_;conv=>whnf) | (refine two ?_ ?_<;>intro g<;>(try simp only[bsx]at g)<;>(conv=>whnf)) | (refine And.intro rfl ?_;conv=>whnf) | (refine dr_go (by decide +kernel) ?_;conv=>whnf) | fail)
     refine ⟨_, _, weak_of (.cons (.eq rfl) .nil) (.cons (.cells ?_) (.cons .moved (.cons .moved (.cons .moved (.cons .moved .nil))))) rfl rfl rfl, h0 _ r i' { x with p := { x.p with roll := n } } hyy hd he rfl rfl hx⟩
     repeat' first
      | exact VWs.nil
      | refine VWs.cons (VW.eq rfl) ?_
      | refine VWs.cons (VW.eq (congrArg (V.int .i64) wn)) ?_
   · have hyy : y = .err p 7 := by rw [cs_roll, e] at hy; exact (Option.some.inj hy).symm
     have wn : IntKind.i64.wrap (1 + 0) = 1 := by decide
     conv=>whnf
     (repeat' first | (refine step_go [] ?_;conv=>whnf) | (refine two ?_ ?_<;>intro g<;>(try simp only[bsx]at g)<;>(conv=>whnf)) | (refine And.intro rfl ?_;conv=>whnf) | (refine dr_go (by decide +kernel) ?_;conv=>whnf) | fail)
     refine ⟨_, _, weak_of (.cons (.eq rfl) .nil) (.cons (.cells ?_) (.cons .moved (.cons .moved (.cons .moved (.cons .moved .nil))))) rfl rfl rfl, h1 p i { x with p := { x.p with roll := 1 }, err := 7, at_ := p } hyy rfl rfl⟩
     repeat' first
      | exact VWs.nil
      | refine VWs.cons (VW.eq rfl) ?_
      | refine VWs.cons (VW.eq (congrArg (V.int .i64) wn)) ?_
 · exfalso
   have hn : clauseS w x.p (k.drop i) = none := by
    unfold clauseS
    simp only [*, if_false]
   rw [hn] at hy; cases hy
end CR5

namespace CR6
open Go Go.Proofs VL D1 B10 B12 B13 B20 B21 B22 C8 BB6 BB10 BB14 C1 C2 C3 C4 C6 C15 C20 C21 C22 C25 C26 C28 C28b C28c C29 CR1 CR2 CR3 CR4 CR5
def cwords : List (List Int) := [w_count, w_round, w_kind, w_every, w_times, w_grace, w_rate, w_penalty, w_reset, w_late, w_cap, w_holiday, w_order, w_over, w_roll]
theorem c_clauses (K : Out -> List VObj -> Prop) (h : K (.ret (.sl (sL cwords) .no)) []) : VCall Tryz.prog 55 [] [] K := by
 refine VCall.weak (call_fun [] 0 Tryz.func55 (by rfl) (by rfl) ?_)
 conv=>whnf
 (repeat' first | (refine step_go [] ?_;conv=>whnf) | (refine two ?_ ?_<;>intro g<;>(try simp only[bsx]at g)<;>(conv=>whnf)) | (refine And.intro rfl ?_;conv=>whnf) | fail)
 exact ⟨_, _, weak_of (.cons .no .nil) .nil rfl rfl rfl, h⟩
theorem cwords_iff {w : List Int} {p : Prod} {l : List C3.Tok} : w ∈ cwords ↔ ∃ y, clauseS w p l = some y := by
 constructor
 · intro h
   simp only [cwords, List.mem_cons, List.not_mem_nil, or_false] at h
   rcases h with rfl | rfl | rfl | rfl | rfl | rfl | rfl | rfl | rfl | rfl | rfl | rfl | rfl | rfl | rfl
   all_goals exact ⟨_, rfl⟩
 · rintro ⟨y, hy⟩
   refine Decidable.byContradiction fun h => ?_
   simp only [cwords, List.mem_cons, List.not_mem_nil, or_false, not_or] at h
   obtain ⟨n1, n2, n3, n4, n5, n6, n7, n8, n9, n10, n11, n12, n13, n14, n15⟩ := h
   unfold clauseS at hy
   simp only [n1, n2, n3, n4, n5, n6, n7, n8, n9, n10, n11, n12, n13, n14, n15, if_false] at hy
   cases hy
theorem many_iff {w : List Int} : manyW w = true ↔ w = w_reset \/ w = w_late \/ w = w_holiday := by
 unfold manyW
 simp [or_assoc]
noncomputable def gS (f d : Nat) (l : List C3.Tok) (p : Prod) (sn : List (List Int)) : Res (Prod × List (List Int)) :=
 if (nextT l).1.kind = 3 /\ (nextT l).1.text = [123] /\ 32 < d then .err (nextT l).1.at_ 8 else (wantS 3 [123] l).bind fun _ l => groupS f d l p sn
def HR (h sn : List (List Int)) : Prop := (∀ w, w ∈ h ↔ w ∈ sn) /\ ∀ w ∈ h, Byt w
def szR (x : RS) (l : List C3.Tok) : Prop := x.p.resets.length + x.p.late.length + x.p.hol.length + l.length < 1000000 /\ x.h.length + l.length < 1000000
theorem HR_cons {h sn : List (List Int)} {w : List Int} (hr : HR h sn) (hw : Byt w) : HR (h ++ [w]) (w :: sn) := by
 refine ⟨fun u => ?_, fun u hu => ?_⟩
 · rw [List.mem_append, List.mem_singleton, List.mem_cons, hr.1, or_comm]
 · rcases List.mem_append.1 hu with hu | hu
   · exact hr.2 u hu
   · rw [List.mem_singleton] at hu; subst hu; exact hw
theorem tk_s {l : List (List Int)} {s : List V} : List.take l.length (List.drop 0 (sL l ++ s)) = sL l := by rw [List.drop_zero, show l.length = (sL l).length by simp [sL], List.take_left]
theorem step_sel {P : Program} {m : Nat} {code : Code} {s : St} {K : Ex -> St -> Prop} (src : List Nat) (h : St.selK m src s fun s' => VStep P m code s' K) : VStep P m code s K := by
 obtain ⟨s', hw, h⟩ := weak_sel h
 exact h.weak hw
set_option maxHeartbeats 16000000 in
theorem c_rgroup : ∀ (f : Nat) (d : Nat) (hd : d <= 33) (k : List C3.Tok) (i : Nat) (hl : okT k) (hq : ∀ t ∈ k, t.kind ≠ 0 -> t.text ≠ []) (x : RS) (sn : List (List Int)) (hk : x.err = 0 -> endT (k.drop i) /\ (k.drop i).length <= f /\ HR x.h sn /\ szR x (k.drop i)) (K : Out -> List VObj -> Prop)
 (h0 : x.err = 0 -> ∀ q r i' x', gS f d (k.drop i) x.p sn = .ok q r -> k.drop i' = r -> endT r -> x'.p = q.1 -> HR x'.h q.2 -> x'.err = 0 -> szR x' r -> K (.ret (.tup [])) (rO true true true true k i' x'))
 (h1 : x.err = 0 -> ∀ (p : Nat) i' x', gS f d (k.drop i) x.p sn = .err p x'.err -> x'.at_ = (p : Int) -> x'.err ≠ 0 -> K (.ret (.tup [])) (rO true true true true k i' x'))
 (h2 : x.err ≠ 0 -> K (.ret (.tup [])) (rO true true true true k i x)),
 VCall Tryz.prog 26 [.ptr 0 0, .int .i64 d] (rO false false false false k i x) K := by
 intro f
 induction f using Nat.strongRecOn with
 | ind f ihf =>
 intro d hd k i hl hq x sn hk K h0 h1 h2
 have his := fun i x hk => @c_ris k i x hk hl
 have hsi := fun i x hk => @c_rsign k i x hk hl
 let S : Nat × Nat × RS × List (List Int) -> St := fun q => ⟨(.ptr 0 0 :: .int .i64 d :: .undef :: .undef :: .undef :: .undef :: .undef :: .undef :: .undef :: .undef :: .undef :: .undef :: .undef :: .undef :: .undef :: .undef :: .undef :: .undef :: .undef :: .undef :: .undef :: .undef :: .undef :: .undef :: .undef :: .undef :: .undef :: .undef :: .undef :: .undef :: .undef :: .undef :: .undef :: .undef :: .undef :: .undef :: .undef :: .undef :: .undef :: .undef :: .undef :: .undef :: .undef :: .undef :: .undef :: .undef :: .undef :: .undef :: .undef :: .undef :: .undef :: .undef :: .undef :: .undef :: .undef :: .undef :: .undef :: .undef :: .undef :: .undef :: .undef :: .undef :: .undef :: .undef :: .undef :: .undef :: .undef :: .undef :: .undef :: .undef :: .undef :: .undef :: .undef :: .undef :: .undef :: .undef :: .undef :: .undef :: .undef :: .undef :: .undef :: .undef :: .undef :: .undef :: .undef :: .undef :: .undef :: .undef :: .undef :: .undef :: .undef :: .undef :: .undef :: .undef :: .undef :: .undef :: .undef :: .undef :: .undef :: .undef :: .undef :: .undef :: .undef :: .undef :: .undef :: .undef :: []), rO true true true true k q.2.1 q.2.2.1, 0, []⟩
 let Inv : Nat × Nat × RS × List (List Int) -> Prop := fun q =>
  (q.2.2.1.err = 0 -> x.err = 0 /\ endT (k.drop q.2.1) /\ (k.drop q.2.1).length < q.1 /\ q.1 <= f /\ d <= 32 /\ HR q.2.2.1.h q.2.2.2 /\ szR q.2.2.1 (k.drop q.2.1) /\ gS f d (k.drop i) x.p sn = groupS q.1 d (k.drop q.2.1) q.2.2.1.p q.2.2.2) /\
  (q.2.2.1.err ≠ 0 -> (x.err = 0 -> ∃ p : Nat, gS f d (k.drop i) x.p sn = .err p q.2.2.1.err /\ q.2.2.1.at_ = (p : Int)) /\ (x.err ≠ 0 -> q.2.2.1 = x /\ q.2.1 = i))
 have key : ∀ (c : Code) (K' : Ex -> St -> Prop) (G : Prop), ((∀ q, Inv q -> VLoop Tryz.prog 5 c (S q) K') -> G) -> (∀ q, Inv q -> VLoop Tryz.prog 5 c (S q) K') -> G := fun _ _ _ f r => f r
 refine VCall.weak ?_
 unfold rO
 refine call_fun [] 5 Tryz.func26 (by rfl) (by rfl) ?_
 conv=>whnf
 refine key ?c ?K' _ ?h ?r
 case h =>
  intro hL
  (repeat' first | (refine step_go [] ?_;conv=>whnf) | (refine two ?_ ?_<;>intro g<;>(try simp only[bsx]at g)<;>(conv=>whnf)) | (refine And.intro rfl ?_;conv=>whnf) | fail)
  refine his i x (fun h => (hk h).1) 3 [123] (by decide) _ (fun he e1 e2 => ?_) (fun hn => ?_)
  · obtain ⟨k1, k2, k3, k4⟩ := hk he
    have hns : wantS 3 [123] (k.drop i) = .ok (nx k i) (nextT (k.drop i)).2 := by unfold wantS; rw [if_pos ⟨e1, .inr e2⟩]
    conv=>whnf
    (repeat' first | (refine step_go [] ?_;conv=>whnf) | (refine two ?_ ?_<;>intro g<;>(try simp only[bsx]at g)<;>(conv=>whnf)) | (refine And.intro rfl ?_;conv=>whnf) | fail)
    · have hgs : gS f d (k.drop i) x.p sn = .err (nx k i).at_ 8 := by unfold gS; rw [if_pos ⟨e1, e2, by omega⟩]
      refine c_rfail k i x (fun _ => k1) 8 _ (fun _ => ?_) (fun h => absurd he h)
      conv=>whnf
      (repeat' first | (refine step_go [] ?_;conv=>whnf) | (refine two ?_ ?_<;>intro g<;>(try simp only[bsx]at g)<;>(conv=>whnf)) | (refine And.intro rfl ?_;conv=>whnf) | fail)
      refine hsi i { x with err := 8, at_ := (nx k i).at_ } (fun h => absurd (show (8 : Int) = 0 from h) (by decide)) 3 (by decide) [123] (by decide) (by decide) _ (fun h => absurd (show (8 : Int) = 0 from h) (by decide)) (fun h => absurd (show (8 : Int) = 0 from h) (by decide)) (fun _ => ?_)
      conv=>whnf
      (repeat' first | (refine step_go [] ?_;conv=>whnf) | (refine two ?_ ?_<;>intro g<;>(try simp only[bsx]at g)<;>(conv=>whnf)) | (refine And.intro rfl ?_;conv=>whnf) | fail)
      refine VLoop.enter (s' := S (0, i, { x with err := 8, at_ := (nx k i).at_ }, sn)) (weak_of (by repeat' first | exact VWs.nil | refine VWs.cons VW.undef ?_ | refine VWs.cons (VW.eq rfl) ?_) (by repeat' first | exact OWs.nil | refine OWs.cons (OW.eq rfl) ?_ | refine OWs.cons OW.moved ?_) rfl rfl rfl) ?_
      exact hL (0, i, { x with err := 8, at_ := (nx k i).at_ }, sn) ⟨fun h => absurd (show (8 : Int) = 0 from h) (by decide), fun _ => ⟨fun _ => ⟨_, hgs, rfl⟩, fun h => absurd he h⟩⟩
    · have hgs : gS f d (k.drop i) x.p sn = (wantS 3 [123] (k.drop i)).bind fun _ l => groupS f d l x.p sn := by unfold gS; rw [if_neg (fun h => by have := h.2.2; omega)]
      refine hsi i x (fun _ => k1) 3 (by decide) [123] (by decide) (by decide) _ (fun _ t r i' e hd' he' => ?_) (fun _ p e => ?_) (fun h => absurd he h)
      rotate_left
      · rw [hns] at e; cases e
      rw [e] at hgs
      have hlt := next_lt k1 (by show (nx k i).kind ≠ 0; omega)
      rw [hns] at e
      injection e with e3 e4
      rw [e4] at hlt
      conv=>whnf
      (repeat' first | (refine step_go [] ?_;conv=>whnf) | (refine two ?_ ?_<;>intro g<;>(try simp only[bsx]at g)<;>(conv=>whnf)) | (refine And.intro rfl ?_;conv=>whnf) | fail)
      refine VLoop.enter (s' := S (f, i', x, sn)) (weak_of (by repeat' first | exact VWs.nil | refine VWs.cons VW.undef ?_ | refine VWs.cons (VW.eq rfl) ?_) (by repeat' first | exact OWs.nil | refine OWs.cons (OW.eq rfl) ?_ | refine OWs.cons OW.moved ?_) rfl rfl rfl) ?_
      exact hL (f, i', x, sn) ⟨fun _ => ⟨he, by rw [hd']; exact he', by simp only; rw [hd']; omega, Nat.le_refl _, by omega, k3, by simp only; rw [hd']; exact ⟨by have := k4.1; omega, by have := k4.2; omega⟩, by simp only; rw [hd']; exact hgs⟩, fun h => absurd he h⟩
  · conv=>whnf
    (repeat' first | (refine step_go [] ?_;conv=>whnf) | (refine two ?_ ?_<;>intro g<;>(try simp only[bsx]at g)<;>(conv=>whnf)) | (refine And.intro rfl ?_;conv=>whnf) | fail)
    refine hsi i x (fun h => (hk h).1) 3 (by decide) [123] (by decide) (by decide) _ (fun he t r i' e hd' he' => ?_) (fun he p e => ?_) (fun he => ?_)
    · exfalso
      unfold wantS at e
      split at e
      · rename_i hh
        exact hn ⟨he, hh.1, hh.2.resolve_left (by decide)⟩
      · cases e
    · have hgs : gS f d (k.drop i) x.p sn = .err p 7 := by unfold gS; rw [if_neg (fun h => hn ⟨he, h.1, h.2.1⟩), e]; rfl
      conv=>whnf
      (repeat' first | (refine step_go [] ?_;conv=>whnf) | (refine two ?_ ?_<;>intro g<;>(try simp only[bsx]at g)<;>(conv=>whnf)) | (refine And.intro rfl ?_;conv=>whnf) | fail)
      refine VLoop.enter (s' := S (0, i, { x with err := 7, at_ := p }, sn)) (weak_of (by repeat' first | exact VWs.nil | refine VWs.cons VW.undef ?_ | refine VWs.cons (VW.eq rfl) ?_) (by repeat' first | exact OWs.nil | refine OWs.cons (OW.eq rfl) ?_ | refine OWs.cons OW.moved ?_) rfl rfl rfl) ?_
      exact hL (0, i, { x with err := 7, at_ := p }, sn) ⟨fun h => absurd (show (7 : Int) = 0 from h) (by decide), fun _ => ⟨fun _ => ⟨_, hgs, rfl⟩, fun h => absurd he h⟩⟩
    · conv=>whnf
      (repeat' first | (refine step_go [] ?_;conv=>whnf) | (refine two ?_ ?_<;>intro g<;>(try simp only[bsx]at g)<;>(conv=>whnf)) | (refine And.intro rfl ?_;conv=>whnf) | fail)
      refine VLoop.enter (s' := S (0, i, x, sn)) (weak_of (by repeat' first | exact VWs.nil | refine VWs.cons VW.undef ?_ | refine VWs.cons (VW.eq rfl) ?_) (by repeat' first | exact OWs.nil | refine OWs.cons (OW.eq rfl) ?_ | refine OWs.cons OW.moved ?_) rfl rfl rfl) ?_
      exact hL (0, i, x, sn) ⟨fun h => absurd h he, fun _ => ⟨fun h => absurd h he, fun _ => ⟨rfl, rfl⟩⟩⟩
 intro q0 hq0
 refine VLoop.indW S (fun q => q.1) Inv ?_ q0 hq0
 rintro ⟨q, i1, x1, sn1⟩ ⟨ha, hb⟩ ih
 simp only at ha hb
 clear q0 hq0
 dsimp only [S]
 refine loop_round [] ?_; conv=>whnf
 (repeat' first | (refine step_go [] ?_;conv=>whnf) | (refine two ?_ ?_<;>intro g<;>(try simp only[bsx]at g)<;>(conv=>whnf)) | (refine And.intro rfl ?_;conv=>whnf) | fail)
 rotate_left
 · obtain ⟨b1, b2⟩ := hb g
   refine ⟨_, Weak.refl, ?_⟩; conv=>whnf
   (repeat' first | (refine step_go [] ?_;conv=>whnf) | (refine two ?_ ?_<;>intro g<;>(try simp only[bsx]at g)<;>(conv=>whnf)) | (refine And.intro rfl ?_;conv=>whnf) | fail)
   refine hsi i1 x1 (fun h => absurd h g) 3 (by decide) [125] (by decide) (by decide) _ (fun h => absurd h g) (fun h => absurd h g) (fun _ => ?_)
   conv=>whnf
   (repeat' first | (refine step_go [] ?_;conv=>whnf) | (refine two ?_ ?_<;>intro g<;>(try simp only[bsx]at g)<;>(conv=>whnf)) | (refine And.intro rfl ?_;conv=>whnf) | fail)
   by_cases he : x.err = 0
   · obtain ⟨p, hp1, hp2⟩ := b1 he
     exact ⟨_, _, (weak_of (by repeat' first | exact VWs.nil | refine VWs.cons VW.undef ?_ | refine VWs.cons (VW.eq rfl) ?_) (by repeat' first | exact OWs.nil | refine OWs.cons (OW.eq rfl) ?_ | refine OWs.cons OW.moved ?_) rfl rfl rfl), h1 he p i1 x1 hp1 hp2 g⟩
   · obtain ⟨rfl, rfl⟩ := b2 he
     exact ⟨_, _, (weak_of (by repeat' first | exact VWs.nil | refine VWs.cons VW.undef ?_ | refine VWs.cons (VW.eq rfl) ?_) (by repeat' first | exact OWs.nil | refine OWs.cons (OW.eq rfl) ?_ | refine OWs.cons OW.moved ?_) rfl rfl rfl), h2 he⟩
 obtain ⟨he, k1, k2, k3, k4, k5, k6, k7⟩ := ha g
 clear ha hb
 obtain ⟨q, rfl⟩ : ∃ q', q = q' + 1 := ⟨q - 1, by omega⟩
 obtain ⟨hen, _⟩ := endT_next k1
 have hm := next_mem k1
 have hlt := next_lt k1
 rw [group_step] at k7
 have hrd := @rdrop k i1 k1
 have hwn : ∀ kd w, (nx k i1).kind = kd -> (nx k i1).text = w -> wantS kd w (k.drop i1) = .ok (nx k i1) (nextT (k.drop i1)).2 := fun kd w e1 e2 => by unfold wantS; rw [if_pos ⟨e1, .inr e2⟩]
 have hgS : (nx k i1).kind = 3 -> (nx k i1).text = [123] -> gS f d (k.drop i) x.p sn = (gS q (d + 1) (k.drop i1) x1.p sn1).bind fun q' r => groupS q d r q'.1 q'.2 := fun e1 e2 => by
  rw [k7, if_neg (fun h => by rw [show (nextT (k.drop i1)).1.text = [123] from e2] at h; exact absurd h.2 (by decide)), if_pos ⟨e1, e2⟩]
  unfold gS
  by_cases h32 : 32 <= d
  · rw [if_pos h32, if_pos ⟨e1, e2, by omega⟩]; rfl
  · rw [if_neg h32, if_neg (fun h => h32 (by have := h.2.2; omega)), hwn 3 [123] e1 e2]; rfl
 have hz : (nextT (k.drop i1)).1 = nx k i1 := rfl
 rw [hz] at k7 hm hlt
 obtain ⟨t, ht⟩ : ∃ t, nx k i1 = t := ⟨_, rfl⟩
 obtain ⟨l2, hl2⟩ : ∃ l, (nextT (k.drop i1)).2 = l := ⟨_, rfl⟩
 rw [hl2] at k7 hlt hen hrd hwn
 have hb := hl.2 _ hm
 refine his i1 x1 (fun _ => k1) 3 [125] (by decide) _ (fun _ e1 e2 => ?_) (fun hn1 => ?_)
 · conv=>whnf
   (repeat' first | (refine step_go [] ?_;conv=>whnf) | (refine two ?_ ?_<;>intro g<;>(try simp only[bsx]at g)<;>(conv=>whnf)) | (refine And.intro rfl ?_;conv=>whnf) | fail)
   refine ⟨_, Weak.refl, ?_⟩; conv=>whnf
   (repeat' first | (refine step_go [] ?_;conv=>whnf) | (refine two ?_ ?_<;>intro g<;>(try simp only[bsx]at g)<;>(conv=>whnf)) | (refine And.intro rfl ?_;conv=>whnf) | fail)
   refine hsi i1 x1 (fun _ => k1) 3 (by decide) [125] (by decide) (by decide) _ (fun _ t' r i' e hd' he' => ?_) (fun _ p e => ?_) (fun h => absurd g h)
   rotate_left
   · rw [hwn 3 [125] e1 e2] at e; cases e
   rw [hwn 3 [125] e1 e2] at e
   injection e with e3 e4
   rw [if_pos ⟨e1, e2⟩] at k7
   have hlt := hlt (by omega)
   conv=>whnf
   (repeat' first | (refine step_go [] ?_;conv=>whnf) | (refine two ?_ ?_<;>intro g<;>(try simp only[bsx]at g)<;>(conv=>whnf)) | (refine And.intro rfl ?_;conv=>whnf) | fail)
   exact ⟨_, _, (weak_of (by repeat' first | exact VWs.nil | refine VWs.cons VW.undef ?_ | refine VWs.cons (VW.eq rfl) ?_) (by repeat' first | exact OWs.nil | refine OWs.cons (OW.eq rfl) ?_ | refine OWs.cons OW.moved ?_) rfl rfl rfl), h0 he _ _ i' x1 k7 (by rw [e4]; exact hd') hen rfl k5 g ⟨by have := k6.1; omega, by have := k6.2; omega⟩⟩
 conv=>whnf
 (repeat' first | (refine step_go [] ?_;conv=>whnf) | (refine two ?_ ?_<;>intro g<;>(try simp only[bsx]at g)<;>(conv=>whnf)) | (refine And.intro rfl ?_;conv=>whnf) | fail)
 refine his i1 x1 (fun _ => k1) 3 [123] (by decide) _ (fun _ e1 e2 => ?_) (fun hn2 => ?_)
 · have hgS := hgS e1 e2
   have hd32 : IntKind.i64.wrap ((d : Int) + 1) = ((d + 1 : Nat) : Int) := by rw [wrap64 (by omega) (by omega)]; omega
   conv=>whnf
   (repeat' first | (refine step_go [] ?_;conv=>whnf) | (refine two ?_ ?_<;>intro g<;>(try simp only[bsx]at g)<;>(conv=>whnf)) | (refine And.intro rfl ?_;conv=>whnf) | fail)
   rw [hd32]
   refine ihf q (by omega) (d + 1) (by omega) k i1 hl hq x1 sn1 (fun _ => ⟨k1, by omega, k5, k6⟩) _ (fun _ q2 r i3 x3 e hd3 he3 hp3 hr3 hx3 hz3 => ?_) (fun _ p i3 x3 e ha3 hx3 => ?_) (fun h => absurd g h)
   · rw [e] at hgS
     have hlen : r.length < q := by
      have hq0 : (nextT (k.drop i1)).2.length < (k.drop i1).length := by rw [hl2]; exact hlt (by omega)
      unfold gS at e
      rw [if_neg (fun h => by rw [if_pos h] at e; cases e), hwn 3 [123] e1 e2] at e
      have := groupS_le _ (show groupS q (d + 1) l2 x1.p sn1 = .ok q2 r from e)
      rw [hl2] at hq0
      omega
     have hinv : Inv (q, i3, x3, q2.2) := ⟨fun _ => ⟨he, by rw [hd3]; exact he3, by simp only; rw [hd3]; exact hlen, by simp only; omega, k4, hr3, by simp only; rw [hd3]; exact hz3, by simp only; rw [hd3, hp3]; exact hgS⟩, fun h => absurd hx3 h⟩
     conv=>whnf
     (repeat' first | (refine step_go [] ?_;conv=>whnf) | (refine two ?_ ?_<;>intro g<;>(try simp only[bsx]at g)<;>(conv=>whnf)) | (refine And.intro rfl ?_;conv=>whnf) | fail)
     exact ⟨S (q, i3, x3, q2.2), (weak_of (by repeat' first | exact VWs.nil | refine VWs.cons VW.undef ?_ | refine VWs.cons (VW.eq rfl) ?_) (by repeat' first | exact OWs.nil | refine OWs.cons (OW.eq rfl) ?_ | refine OWs.cons OW.moved ?_) rfl rfl rfl), ih (q, i3, x3, q2.2) hinv (by simp only; omega)⟩
   · rw [e] at hgS
     have hinv : Inv (q, i3, x3, sn1) := ⟨fun h => absurd h hx3, fun _ => ⟨fun _ => ⟨p, hgS, ha3⟩, fun h => absurd he h⟩⟩
     conv=>whnf
     (repeat' first | (refine step_go [] ?_;conv=>whnf) | (refine two ?_ ?_<;>intro g<;>(try simp only[bsx]at g)<;>(conv=>whnf)) | (refine And.intro rfl ?_;conv=>whnf) | fail)
     exact ⟨S (q, i3, x3, sn1), (weak_of (by repeat' first | exact VWs.nil | refine VWs.cons VW.undef ?_ | refine VWs.cons (VW.eq rfl) ?_) (by repeat' first | exact OWs.nil | refine OWs.cons (OW.eq rfl) ?_ | refine OWs.cons OW.moved ?_) rfl rfl rfl), ih (q, i3, x3, sn1) hinv (by simp only; omega)⟩
 obtain ⟨hget, hil⟩ := rget k1
 have hbt : (sB (toBA (nx k i1).text)) = (nx k i1).text := sB_toBA hb.1
 have e_reset : (toBA (nx k i1).text).toList = (⟨#[114, 101, 115, 101, 116]⟩ : ByteArray).toList ↔ (nx k i1).text = w_reset := toBA_eq hb.1 (b := w_reset) (by decide)
 have e_late : (toBA (nx k i1).text).toList = (⟨#[108, 97, 116, 101]⟩ : ByteArray).toList ↔ (nx k i1).text = w_late := toBA_eq hb.1 (b := w_late) (by decide)
 have e_holiday : (toBA (nx k i1).text).toList = (⟨#[104, 111, 108, 105, 100, 97, 121]⟩ : ByteArray).toList ↔ (nx k i1).text = w_holiday := toBA_eq hb.1 (b := w_holiday) (by decide)
 have hx1 : x1.err = 0 := g
 have hA : ¬ ((nx k i1).kind = 3 /\ (nx k i1).text = [125]) := fun h => hn1 ⟨hx1, h⟩
 have hB : ¬ ((nx k i1).kind = 3 /\ (nx k i1).text = [123]) := fun h => hn2 ⟨hx1, h⟩
 rw [if_neg hA, if_neg hB] at k7
 have hF1 : ¬ (nx k i1).kind = 1 -> gS f d (k.drop i) x.p sn = .err (nx k i1).at_ 7 := fun h => by rw [k7, if_pos h]
 have hF2 : (nx k i1).kind = 1 -> ¬ (nx k i1).text ∈ cwords -> gS f d (k.drop i) x.p sn = .err (nx k i1).at_ 7 := fun h h2 => by
  rw [k7, if_neg (fun hh => hh h)]
  cases hc : clauseS (nx k i1).text x1.p l2 with
  | none => rfl
  | some y => exact absurd (cwords_iff.2 ⟨y, hc⟩) h2
 have hF3 : (nx k i1).kind = 1 -> (nx k i1).text ∈ cwords -> (nx k i1).text ∈ x1.h -> ¬ (nx k i1).text = w_reset -> ¬ (nx k i1).text = w_late -> ¬ (nx k i1).text = w_holiday -> gS f d (k.drop i) x.p sn = .err (nx k i1).at_ 7 := fun h h2 h3 n1 n2 n3 => by
  obtain ⟨y, hy⟩ := cwords_iff.1 h2
  have hmany : manyW (nx k i1).text = false := by
   cases hb : manyW (nx k i1).text with
   | false => rfl
   | true => rcases many_iff.1 hb with e | e | e <;> contradiction
  rw [k7, if_neg (fun hh => hh h), hy]
  exact if_pos ⟨(k5.1 _).1 h3, hmany⟩
 have hG : (nx k i1).kind = 1 -> ∀ y, clauseS (nx k i1).text x1.p l2 = some y -> ((nx k i1).text = w_reset \/ (nx k i1).text = w_late \/ (nx k i1).text = w_holiday) \/ ¬ (nx k i1).text ∈ x1.h -> gS f d (k.drop i) x.p sn = y.bind fun q' r => (wantS 3 [59] r).bind fun _ r => groupS q d r q' ((nx k i1).text :: sn1) := fun h y hy hc => by
  rw [k7, if_neg (fun hh => hh h), hy]
  refine if_neg fun hh => ?_
  rcases hc with hc | hc
  · rw [many_iff.2 hc] at hh; cases hh.2
  · exact hc ((k5.1 _).2 hh.1)
 clear k7
 conv=>whnf
 (repeat' first | (refine step_go [] ?_;conv=>whnf) | (refine two ?_ ?_<;>intro g<;>(try simp only[bsx, e_reset, e_late, e_holiday, pB_iff, pB_no, hbt]at g)<;>(conv=>whnf)) | (refine And.intro rfl ?_;conv=>whnf) | (refine dr_go (by decide +kernel) ?_;conv=>whnf) | (refine ⟨by omega, _, hget, rfl, ?_⟩;conv=>whnf) | (refine c_clauses _ ?_;conv=>whnf) | (refine c_InS cwords _ (by decide) (by decide +kernel) _ ?_;conv=>whnf) | fail)
 all_goals first
  | (refine VCall.lendC ?_
     conv=>whnf
     refine ⟨by simp [sL], ?_⟩
     rw [tk_s]
     conv=>whnf
     refine c_InS x1.h _ (by have := k6.2; omega) k5.2 _ ?_
     conv=>whnf
     refine ⟨rfl, ?_⟩
     conv=>whnf
     (repeat' first | (refine step_go [] ?_;conv=>whnf) | (refine two ?_ ?_<;>intro g<;>(try simp only[bsx, pB_iff, pB_no, hbt]at g)<;>(conv=>whnf)) | (refine And.intro rfl ?_;conv=>whnf) | (refine dr_go (by decide +kernel) ?_;conv=>whnf) | fail))
  | skip
 all_goals first
  | (have hgs : gS f d (k.drop i) x.p sn = .err (nx k i1).at_ 7 := by
      first
       | exact hF1 (by assumption)
       | exact hF2 (by assumption) (by assumption)
       | exact hF3 (by assumption) (by assumption) (by assumption) (by assumption) (by assumption) (by assumption)
     refine c_rfail k i1 x1 (fun _ => k1) 7 _ (fun _ => ?_) (fun h => absurd hx1 h)
     conv=>whnf
     (repeat' first | (refine step_go [] ?_;conv=>whnf) | (refine two ?_ ?_<;>intro g<;>(try simp only[bsx]at g)<;>(conv=>whnf)) | (refine And.intro rfl ?_;conv=>whnf) | fail)
     refine ⟨_, Weak.refl, ?_⟩; conv=>whnf
     (repeat' first | (refine step_go [] ?_;conv=>whnf) | (refine two ?_ ?_<;>intro g<;>(try simp only[bsx]at g)<;>(conv=>whnf)) | (refine And.intro rfl ?_;conv=>whnf) | fail)
     exact ⟨_, _, (weak_of (by repeat' first | exact VWs.nil | refine VWs.cons VW.undef ?_ | refine VWs.cons (VW.eq rfl) ?_) (by repeat' first | exact OWs.nil | refine OWs.cons (OW.eq rfl) ?_ | refine OWs.cons OW.moved ?_) rfl rfl rfl), h1 he (nx k i1).at_ i1 { x1 with err := 7, at_ := (nx k i1).at_ } hgs rfl (show (7 : Int) ≠ 0 by decide)⟩)
  | skip
 all_goals
  have hkind : (nx k i1).kind = 1 := by assumption
  obtain ⟨y, hy⟩ := (cwords_iff (p := x1.p) (l := l2)).1 (show (nx k i1).text ∈ cwords by assumption)
  have hq2 := hG hkind y hy (by
   first
    | exact .inl (.inl (by assumption))
    | exact .inl (.inr (.inl (by assumption)))
    | exact .inl (.inr (.inr (by assumption)))
    | exact .inr (by assumption))
  clear hF1 hF2 hF3 hG hA hB
  refine ⟨by have := k6.2; simp; omega, by simp [V.cells], ?_⟩
  conv=>whnf
 all_goals
  let S2 : List V -> St := fun sp4 => ⟨(.ptr 0 0 :: .int .i64 d :: .undef :: .undef :: .ptr 5 0 :: .undef :: .undef :: .undef :: .undef :: .undef :: .undef :: .undef :: .undef :: .undef :: .undef :: .undef :: .undef :: .undef :: .undef :: .undef :: .undef :: .undef :: .undef :: .undef :: .undef :: .undef :: .undef :: .undef :: .undef :: .undef :: .undef :: .undef :: .undef :: .undef :: .undef :: .undef :: .undef :: .undef :: .undef :: .undef :: .undef :: .undef :: .undef :: .undef :: .undef :: .undef :: .undef :: .undef :: .undef :: .undef :: .undef :: .undef :: .undef :: .undef :: .undef :: .undef :: .undef :: .undef :: .undef :: .undef :: .undef :: .undef :: .undef :: .undef :: .undef :: .undef :: .undef :: .undef :: .undef :: .undef :: .undef :: .undef :: .undef :: .undef :: .undef :: .undef :: .undef :: .undef :: .undef :: .undef :: .undef :: .undef :: .undef :: .undef :: .undef :: .undef :: .undef :: .undef :: .undef :: .undef :: .undef :: .undef :: .undef :: .undef :: .undef :: .undef :: .undef :: .undef :: .undef :: .undef :: .undef :: .undef :: .undef :: .undef :: .undef :: .undef :: []), rO true true true true k i1 { x1 with h := x1.h ++ [(nx k i1).text], s4 := sp4 } ++ [.cells true 57 [.int .i64 (nx k i1).kind, .int .i64 (nx k i1).at_, .str (toBA (nx k i1).text)]], 0, []⟩
  refine two (fun g => ?_) (fun g => ?_)
  · have hs1 : 1 <= x1.s4.length := by have := Nat.le_of_ble_eq_true g; simp at this; omega
    conv=>whnf
    refine ⟨by simp [sL], ?_⟩
    conv=>whnf
    (repeat (refine And.intro rfl ?_;conv=>whnf))
    have hap : List.take (0 + x1.h.length) (sL x1.h ++ x1.s4) ++ [V.str (toBA (nx k i1).text)] ++ List.drop (0 + x1.h.length + 1) (sL x1.h ++ x1.s4) = sL (x1.h ++ [(nx k i1).text]) ++ x1.s4.drop 1 := app_in (fun w => .str (toBA w)) x1.h (nx k i1).text x1.s4
    refine VStep.weak (s' := S2 (x1.s4.drop 1)) (weak_of (by repeat' first | exact VWs.nil | refine VWs.cons VW.undef ?_ | refine VWs.cons (VW.eq rfl) ?_) (.cons (.cells ?_) (.cons (.eq rfl) (.cons (.eq rfl) (.cons (.eq rfl) (.cons (.eq (congrArg (fun l => VObj.buf true 1 l none) hap)) (.cons (.eq rfl) .nil)))))) rfl rfl rfl) ?_
    · repeat' first
       | exact VWs.nil
       | refine VWs.cons (VW.eq rfl) ?_
       | refine VWs.cons (VW.eq (V_slo (by simp) (by simp; omega))) ?_
    clear hs1 hap g
    generalize x1.s4.drop 1 = sp4
    dsimp only [S2]
    conv=>whnf
    have hlt := hlt (by omega)
    have hrd := hrd (by omega)
    have wi : IntKind.i64.wrap ((i1 : Int) + 1) = ((i1 + 1 : Nat) : Int) := by have := hl.1; rw [wrap64 (by omega) (by omega)]; omega
    have hz1 := k6.1
    have hz2 := k6.2
    have hr6 := HR_cons k5 hb.1
    (repeat' first | (refine step_go [] ?_;conv=>whnf) | (refine two ?_ ?_<;>intro g<;>(try simp only[bsx]at g)<;>(conv=>whnf)) | (refine And.intro rfl ?_;conv=>whnf) | (refine dr_go (by decide +kernel) ?_;conv=>whnf) | fail)
    rw [wi]
    refine c_rclause (nx k i1).text hb.1 k (i1 + 1) { x1 with h := x1.h ++ [(nx k i1).text], s4 := sp4 } (by rw [hrd]; exact hen) hl hq hx1 (by simp only; omega) y (by rw [hrd]; exact hy) _ (fun q' r i3 x3 hyy hd3 he3 hp3 hh3 hx3 => ?_) (fun p i3 x3 hyy hx3 ha3 => ?_)
    · have hle := clauseS_le hy hyy
      have hq3 : gS f d (k.drop i) x.p sn = (wantS 3 [59] r).bind fun _ r => groupS q d r q' ((nx k i1).text :: sn1) := by rw [hq2, hyy]; rfl
      conv=>whnf
      (repeat' first | (refine step_go [] ?_;conv=>whnf) | (refine two ?_ ?_<;>intro g<;>(try simp only[bsx]at g)<;>(conv=>whnf)) | (refine And.intro rfl ?_;conv=>whnf) | fail)
      refine hsi i3 x3 (fun _ => by rw [hd3]; exact he3) 3 (by decide) [59] (by decide) (by decide) _ (fun _ t4 r4 i4 e4 hd4 he4 => ?_) (fun _ p e4 => ?_) (fun h => absurd hx3 h)
      · rw [hd3] at e4
        have hle4 := wantS_le e4
        have hinv : Inv (q, i4, x3, (nx k i1).text :: sn1) := by
         refine ⟨fun _ => ⟨he, by rw [hd4]; exact he4, ?_, ?_, k4, ?_, ?_, ?_⟩, fun h => absurd hx3 h⟩
         · simp only; rw [hd4]; omega
         · simp only; omega
         · simp only; rw [hh3]; exact hr6
         · simp only; unfold szR; rw [hd4, hp3, hh3]; simp only [List.length_append, List.length_singleton]; omega
         · simp only; rw [hd4, hp3, hq3, e4]; rfl
        conv=>whnf
        (repeat' first | (refine step_go [] ?_;conv=>whnf) | (refine two ?_ ?_<;>intro g<;>(try simp only[bsx]at g)<;>(conv=>whnf)) | (refine And.intro rfl ?_;conv=>whnf) | fail)
        exact ⟨S (q, i4, x3, (nx k i1).text :: sn1), (weak_of (by repeat' first | exact VWs.nil | refine VWs.cons VW.undef ?_ | refine VWs.cons (VW.eq rfl) ?_) (by repeat' first | exact OWs.nil | refine OWs.cons (OW.eq rfl) ?_ | refine OWs.cons OW.moved ?_) rfl rfl rfl), ih (q, i4, x3, (nx k i1).text :: sn1) hinv (by simp only; omega)⟩
      · rw [hd3] at e4
        have hinv : Inv (q, i3, { x3 with err := 7, at_ := p }, sn1) := ⟨fun h => absurd (show (7 : Int) = 0 from h) (by decide), fun _ => ⟨fun _ => ⟨p, by rw [hq3, e4]; rfl, rfl⟩, fun h => absurd he h⟩⟩
        conv=>whnf
        (repeat' first | (refine step_go [] ?_;conv=>whnf) | (refine two ?_ ?_<;>intro g<;>(try simp only[bsx]at g)<;>(conv=>whnf)) | (refine And.intro rfl ?_;conv=>whnf) | fail)
        exact ⟨S (q, i3, { x3 with err := 7, at_ := p }, sn1), (weak_of (by repeat' first | exact VWs.nil | refine VWs.cons VW.undef ?_ | refine VWs.cons (VW.eq rfl) ?_) (by repeat' first | exact OWs.nil | refine OWs.cons (OW.eq rfl) ?_ | refine OWs.cons OW.moved ?_) rfl rfl rfl), ih (q, i3, { x3 with err := 7, at_ := p }, sn1) hinv (by simp only; omega)⟩
    · have hx37 : x3.err ≠ 0 := by rw [hx3]; decide
      have hinv : Inv (q, i3, x3, sn1) := ⟨fun h => absurd h hx37, fun _ => ⟨fun _ => ⟨p, by rw [hq2, hyy, hx3]; rfl, ha3⟩, fun h => absurd he h⟩⟩
      conv=>whnf
      (repeat' first | (refine step_go [] ?_;conv=>whnf) | (refine two ?_ ?_<;>intro g<;>(try simp only[bsx]at g)<;>(conv=>whnf)) | (refine And.intro rfl ?_;conv=>whnf) | fail)
      refine hsi i3 x3 (fun h => absurd h hx37) 3 (by decide) [59] (by decide) (by decide) _ (fun h => absurd h hx37) (fun h => absurd h hx37) (fun _ => ?_)
      conv=>whnf
      (repeat' first | (refine step_go [] ?_;conv=>whnf) | (refine two ?_ ?_<;>intro g<;>(try simp only[bsx]at g)<;>(conv=>whnf)) | (refine And.intro rfl ?_;conv=>whnf) | fail)
      exact ⟨S (q, i3, x3, sn1), (weak_of (by repeat' first | exact VWs.nil | refine VWs.cons VW.undef ?_ | refine VWs.cons (VW.eq rfl) ?_) (by repeat' first | exact OWs.nil | refine OWs.cons (OW.eq rfl) ?_ | refine OWs.cons OW.moved ?_) rfl rfl rfl), ih (q, i3, x3, sn1) hinv (by simp only; omega)⟩
  · conv=>whnf
    refine ⟨by simp [sL], fun sp4 hsp => ?_⟩
    conv=>whnf
    (repeat (refine And.intro rfl ?_;conv=>whnf))
    have hap : List.take x1.h.length (List.drop 0 (sL x1.h ++ x1.s4)) ++ [V.str (toBA (nx k i1).text)] ++ sp4 = sL (x1.h ++ [(nx k i1).text]) ++ sp4 := app_gr (fun w => .str (toBA w)) x1.h (nx k i1).text x1.s4 sp4
    refine step_sel [0, 1, 2, 3, 6, 5] ?_
    conv=>whnf
    refine VStep.weak (s' := S2 sp4) (weak_of (by repeat' first | exact VWs.nil | refine VWs.cons VW.undef ?_ | refine VWs.cons (VW.eq rfl) ?_) (.cons (.cells ?_) (.cons (.eq rfl) (.cons (.eq rfl) (.cons (.eq rfl) (.cons (.eq (congrArg (fun l => VObj.buf true 1 l none) hap)) (.cons (.eq rfl) .nil)))))) rfl rfl rfl) ?_
    · repeat' first
       | exact VWs.nil
       | refine VWs.cons (VW.eq rfl) ?_
       | refine VWs.cons (VW.eq (V_slo (by simp) (by simp))) ?_
    clear hsp hap g
    dsimp only [S2]
    conv=>whnf
    have hlt := hlt (by omega)
    have hrd := hrd (by omega)
    have wi : IntKind.i64.wrap ((i1 : Int) + 1) = ((i1 + 1 : Nat) : Int) := by have := hl.1; rw [wrap64 (by omega) (by omega)]; omega
    have hz1 := k6.1
    have hz2 := k6.2
    have hr6 := HR_cons k5 hb.1
    (repeat' first | (refine step_go [] ?_;conv=>whnf) | (refine two ?_ ?_<;>intro g<;>(try simp only[bsx]at g)<;>(conv=>whnf)) | (refine And.intro rfl ?_;conv=>whnf) | (refine dr_go (by decide +kernel) ?_;conv=>whnf) | fail)
    rw [wi]
    refine c_rclause (nx k i1).text hb.1 k (i1 + 1) { x1 with h := x1.h ++ [(nx k i1).text], s4 := sp4 } (by rw [hrd]; exact hen) hl hq hx1 (by simp only; omega) y (by rw [hrd]; exact hy) _ (fun q' r i3 x3 hyy hd3 he3 hp3 hh3 hx3 => ?_) (fun p i3 x3 hyy hx3 ha3 => ?_)
    · have hle := clauseS_le hy hyy
      have hq3 : gS f d (k.drop i) x.p sn = (wantS 3 [59] r).bind fun _ r => groupS q d r q' ((nx k i1).text :: sn1) := by rw [hq2, hyy]; rfl
      conv=>whnf
      (repeat' first | (refine step_go [] ?_;conv=>whnf) | (refine two ?_ ?_<;>intro g<;>(try simp only[bsx]at g)<;>(conv=>whnf)) | (refine And.intro rfl ?_;conv=>whnf) | fail)
      refine hsi i3 x3 (fun _ => by rw [hd3]; exact he3) 3 (by decide) [59] (by decide) (by decide) _ (fun _ t4 r4 i4 e4 hd4 he4 => ?_) (fun _ p e4 => ?_) (fun h => absurd hx3 h)
      · rw [hd3] at e4
        have hle4 := wantS_le e4
        have hinv : Inv (q, i4, x3, (nx k i1).text :: sn1) := by
         refine ⟨fun _ => ⟨he, by rw [hd4]; exact he4, ?_, ?_, k4, ?_, ?_, ?_⟩, fun h => absurd hx3 h⟩
         · simp only; rw [hd4]; omega
         · simp only; omega
         · simp only; rw [hh3]; exact hr6
         · simp only; unfold szR; rw [hd4, hp3, hh3]; simp only [List.length_append, List.length_singleton]; omega
         · simp only; rw [hd4, hp3, hq3, e4]; rfl
        conv=>whnf
        (repeat' first | (refine step_go [] ?_;conv=>whnf) | (refine two ?_ ?_<;>intro g<;>(try simp only[bsx]at g)<;>(conv=>whnf)) | (refine And.intro rfl ?_;conv=>whnf) | fail)
        exact ⟨S (q, i4, x3, (nx k i1).text :: sn1), (weak_of (by repeat' first | exact VWs.nil | refine VWs.cons VW.undef ?_ | refine VWs.cons (VW.eq rfl) ?_) (by repeat' first | exact OWs.nil | refine OWs.cons (OW.eq rfl) ?_ | refine OWs.cons OW.moved ?_) rfl rfl rfl), ih (q, i4, x3, (nx k i1).text :: sn1) hinv (by simp only; omega)⟩
      · rw [hd3] at e4
        have hinv : Inv (q, i3, { x3 with err := 7, at_ := p }, sn1) := ⟨fun h => absurd (show (7 : Int) = 0 from h) (by decide), fun _ => ⟨fun _ => ⟨p, by rw [hq3, e4]; rfl, rfl⟩, fun h => absurd he h⟩⟩
        conv=>whnf
        (repeat' first | (refine step_go [] ?_;conv=>whnf) | (refine two ?_ ?_<;>intro g<;>(try simp only[bsx]at g)<;>(conv=>whnf)) | (refine And.intro rfl ?_;conv=>whnf) | fail)
        exact ⟨S (q, i3, { x3 with err := 7, at_ := p }, sn1), (weak_of (by repeat' first | exact VWs.nil | refine VWs.cons VW.undef ?_ | refine VWs.cons (VW.eq rfl) ?_) (by repeat' first | exact OWs.nil | refine OWs.cons (OW.eq rfl) ?_ | refine OWs.cons OW.moved ?_) rfl rfl rfl), ih (q, i3, { x3 with err := 7, at_ := p }, sn1) hinv (by simp only; omega)⟩
    · have hx37 : x3.err ≠ 0 := by rw [hx3]; decide
      have hinv : Inv (q, i3, x3, sn1) := ⟨fun h => absurd h hx37, fun _ => ⟨fun _ => ⟨p, by rw [hq2, hyy, hx3]; rfl, ha3⟩, fun h => absurd he h⟩⟩
      conv=>whnf
      (repeat' first | (refine step_go [] ?_;conv=>whnf) | (refine two ?_ ?_<;>intro g<;>(try simp only[bsx]at g)<;>(conv=>whnf)) | (refine And.intro rfl ?_;conv=>whnf) | fail)
      refine hsi i3 x3 (fun h => absurd h hx37) 3 (by decide) [59] (by decide) (by decide) _ (fun h => absurd h hx37) (fun h => absurd h hx37) (fun _ => ?_)
      conv=>whnf
      (repeat' first | (refine step_go [] ?_;conv=>whnf) | (refine two ?_ ?_<;>intro g<;>(try simp only[bsx]at g)<;>(conv=>whnf)) | (refine And.intro rfl ?_;conv=>whnf) | fail)
      exact ⟨S (q, i3, x3, sn1), (weak_of (by repeat' first | exact VWs.nil | refine VWs.cons VW.undef ?_ | refine VWs.cons (VW.eq rfl) ?_) (by repeat' first | exact OWs.nil | refine OWs.cons (OW.eq rfl) ?_ | refine OWs.cons OW.moved ?_) rfl rfl rfl), ih (q, i3, x3, sn1) hinv (by simp only; omega)⟩
end CR6

namespace CR7
open Go Go.Proofs VL D1 B10 B12 B13 B20 B21 B22 C8 BB6 BB10 BB14 C1 C2 C3 C4 C6 C15 C18 C20 C21 C22 C25 C26 C28 C28b C28c C28d C29 C30 C33 CR1 CR2 CR3 CR4 CR5 CR6
theorem gS_eq {d : Nat} {l : List C3.Tok} {p : Prod} {sn : List (List Int)} (hd : d <= 32) (hl : endT l) : gS l.length d l p sn = (wantS 3 [123] l).bind fun _ l' => groupS (l'.length + 1) d l' p sn := by
 unfold gS
 rw [if_neg (fun h => by have := h.2.2; omega)]
 cases hw : wantS 3 [123] l with
 | err p e => rfl
 | ok t r =>
   unfold wantS at hw
   split at hw
   · rename_i hh
     injection hw with h1 h2
     obtain ⟨_, t', r', hlt, e1, e2⟩ := endT_next hl
     rw [e1] at hh
     rcases e2 with ⟨e2, _⟩ | ⟨_, e2⟩
     · omega
     · rw [e2] at h2
       subst h2
       show groupS l.length d r' p sn = groupS (r'.length + 1) d r' p sn
       rw [hlt]; rfl
   · cases hw
set_option maxHeartbeats 16000000 in
theorem c_rParse (s : ByteArray) (hs : s.size < 1000000) (K : Out -> List VObj -> Prop)
 (h : K (.ret (.tup [encP (parseS (sB s)).1, .int .i64 (parseS (sB s)).2.1, .int .i64 (parseS (sB s)).2.2])) []) : VCall Tryz.prog 11 [.str s] [] K := by
 refine VCall.weak (call_fun [] 0 Tryz.func11 (by rfl) (by rfl) ?_)
 conv=>whnf
 (repeat' first | (refine step_go [] ?_;conv=>whnf) | (refine two ?_ ?_<;>intro g<;>(try simp only[bsx]at g)<;>(conv=>whnf)) | (refine And.intro rfl ?_;conv=>whnf) | (refine dr_go (by decide +kernel) ?_;conv=>whnf) | fail)
 refine C9.c_rAll s hs _ (fun l hl => ?_) (fun p e hl => ?_)
 rotate_left
 · rw [parse_lex hl] at h
   have he := lexS_err hl
   conv=>whnf
   (repeat' first | (refine step_go [] ?_;conv=>whnf) | (refine two ?_ ?_<;>intro g<;>(try simp only[bsx]at g)<;>(conv=>whnf)) | (refine And.intro rfl ?_;conv=>whnf) | (refine dr_go (by decide +kernel) ?_;conv=>whnf) | fail)
   rotate_left
   · exfalso; omega
   · refine ⟨_, _, weak_of (.cons (.tup (.cons (.agg ?_) (.cons (.eq rfl) (.cons (.eq rfl) .nil)))) .nil) .nil rfl rfl rfl, h⟩
     (repeat' first | exact VQs.nil | refine VQs.cons VQ.no ?_ | refine VQs.cons VQ.spare ?_ | refine VQs.cons (VQ.eq rfl) ?_)
 obtain ⟨hend, hok, hne, hat, hsz, hkl⟩ := lexS_props hl (sB_byte s)
 conv=>whnf
 (refine step_go [] ?_;conv=>whnf)
 (refine step_go [] ?_;conv=>whnf)
 (refine step_go [] ?_;conv=>whnf)
 obtain ⟨x0, hx0⟩ : ∃ x0 : RS, x0 = ⟨{ prod0 with over := 1, roll := 1 }, [], [], [], [], [], 0, 0⟩ := ⟨_, rfl⟩
 let S1 : St := ⟨(.str s :: .undef :: .ptr 0 0 :: .int .i64 0 :: .int .i64 0 :: .sl (kL l) .no :: .undef :: .undef :: .ptr 1 0 :: .undef :: .undef :: .undef :: .undef :: .undef :: .undef :: .undef :: .undef :: .undef :: .undef :: .undef :: .undef :: .undef :: .undef :: .undef :: .undef :: .undef :: .undef :: .undef :: .undef :: .undef :: .undef :: .undef :: .undef :: .undef :: .undef :: .undef :: .undef :: .undef :: .undef :: .undef :: .undef :: .undef :: .undef :: .undef :: .undef :: .undef :: .undef :: .undef :: .undef :: .undef :: .undef :: .undef :: .undef :: .undef :: .undef :: .undef :: .undef :: .undef :: .undef :: .undef :: .undef :: .undef :: .undef :: .undef :: .undef :: .undef :: .undef :: .undef :: .undef :: .undef :: .undef :: .undef :: .undef :: .undef :: .undef :: .undef :: .undef :: .undef :: .undef :: .undef :: .undef :: .undef :: .undef :: .undef :: .undef :: .undef :: .undef :: .undef :: .undef :: .undef :: .undef :: .undef :: .undef :: .undef :: .undef :: .undef :: .undef :: .undef :: .undef :: .undef :: .undef :: .undef :: .undef :: .undef :: .undef :: .undef :: .undef :: .undef :: .undef :: .undef :: .undef :: .undef :: .undef :: .undef :: .undef :: .undef :: .undef :: .undef :: .undef :: .undef :: .undef :: .undef :: .undef :: .undef :: .undef :: .undef :: .undef :: .undef :: .undef :: .undef :: .undef :: .undef :: .undef :: .undef :: .undef :: .undef :: .undef :: .undef :: .undef :: .undef :: .undef :: .undef :: .undef :: []), [.cells true 28 zP, .cells true 60 [.sl (kL l) .no, .int .i64 0, .str ⟨#[]⟩, .int .i64 0, .int .i64 0, .int .i64 0, .int .i64 0, .int .i64 0, .int .i64 0, .int .i64 0, .slo 2 2 0 0 0, .int .i64 0, .int .i64 0, .int .i64 0, .int .i64 0, .int .i64 0, .int .i64 1, .slo 3 2 0 0 0, .int .i64 0, .int .i64 1, .slo 4 1 0 0 0, .slo 5 1 0 0 0, .int .i64 0, .int .i64 0], .buf false 2 [], .buf false 2 [], .buf false 1 [], .buf false 1 []], 0, []⟩
 refine VStep.weak (s' := S1) (Weak.trans (weak_nil 1 10 2 none rfl rfl (Nat.zero_le _)) (Weak.trans (weak_nil 1 17 2 none rfl rfl (Nat.zero_le _)) (Weak.trans (weak_nil 1 20 1 none rfl rfl (Nat.zero_le _)) (Weak.trans (weak_nil 1 21 1 none rfl rfl (Nat.zero_le _)) (weak_of ?_ (.cons (.eq rfl) (.cons (.eq rfl) (.cons (.eq rfl) (.cons (.eq rfl) (.cons (.eq rfl) (.cons (.eq rfl) .nil)))))) rfl rfl rfl))))) ?_
 · (repeat' first | exact VWs.nil | refine VWs.cons VW.undef ?_ | refine VWs.cons (VW.eq rfl) ?_)
 dsimp only [S1, zP]
 conv=>whnf
 (repeat' first | (refine step_go [] ?_;conv=>whnf) | (refine two ?_ ?_<;>intro g<;>(try simp only[bsx]at g)<;>(conv=>whnf)) | (refine And.intro rfl ?_;conv=>whnf) | (refine dr_go (by decide +kernel) ?_;conv=>whnf) | fail)
 refine c_rsign l 0 ⟨{ prod0 with over := 1, roll := 1 }, [], [], [], [], [], 0, 0⟩ (fun _ => by rw [List.drop_zero]; exact hend) hok 1 (by decide) w_product (by decide) (by decide) _ (fun _ t1 r1 i1 e1 hd1 he1 => ?_) (fun _ p e1 => ?_) (fun h => absurd rfl h)
 rotate_left
 · rw [List.drop_zero] at e1
   have hE : textP l = .err p 7 := by unfold textP; rw [e1]; rfl
   conv=>whnf
   (repeat' first | (refine step_go [] ?_;conv=>whnf) | (refine two ?_ ?_<;>intro g<;>(try simp only[bsx]at g)<;>(conv=>whnf)) | (refine And.intro rfl ?_;conv=>whnf) | (refine dr_go (by decide +kernel) ?_;conv=>whnf) | fail)
   refine c_rgroup 0 1 (by decide) l 0 hok hne ⟨{ prod0 with over := 1, roll := 1 }, [], [], [], [], [], 7, p⟩ [] (fun h => absurd (show (7 : Int) = 0 from h) (by decide)) _ (fun h => absurd (show (7 : Int) = 0 from h) (by decide)) (fun h => absurd (show (7 : Int) = 0 from h) (by decide)) (fun _ => ?_)
   rw [parse_err hl hE] at h
   conv=>whnf
   (repeat' first | (refine step_go [] ?_;conv=>whnf) | (refine two ?_ ?_<;>intro g<;>(try simp only[bsx]at g)<;>(conv=>whnf)) | (refine And.intro rfl ?_;conv=>whnf) | (refine dr_go (by decide +kernel) ?_;conv=>whnf) | fail)
   refine ⟨_, _, weak_of (.cons (.tup (.cons (.agg ?_) (.cons (.eq rfl) (.cons (.eq rfl) .nil)))) .nil) .nil rfl rfl rfl, h⟩
   (repeat' first | exact VQs.nil | refine VQs.cons VQ.no ?_ | refine VQs.cons VQ.spare ?_ | refine VQs.cons (VQ.eq rfl) ?_)
 rw [List.drop_zero] at e1
 have ht1 : textP l = (wantS 1 [] r1).bind fun t l =>
  open Classical in if nameP t.text then (wantS 3 [123] l).bind fun _ l => (groupS (l.length + 1) 1 l { prod0 with name := toBA t.text, over := 1, roll := 1 } []).bind fun q l => (wantS 0 [] l).bind fun _ l => .ok q l
  else .err t.at_ 7 := by unfold textP; rw [e1]; rfl
 have hk1 : endT (l.drop i1) := by rw [hd1]; exact he1
 obtain ⟨hget1, hil1⟩ := rget hk1
 have hb1 := hok.2 _ (next_mem hk1)
 conv=>whnf
 (repeat' first | (refine step_go [] ?_;conv=>whnf) | (refine two ?_ ?_<;>intro g<;>(try simp only[bsx]at g)<;>(conv=>whnf)) | (refine And.intro rfl ?_;conv=>whnf) | (refine dr_go (by decide +kernel) ?_;conv=>whnf) | (refine ⟨by omega, _, hget1, rfl, ?_⟩;conv=>whnf) | fail)
 rotate_left
 · have hE : textP l = .err (nx l i1).at_ 7 := by
    rw [ht1, ← hd1]
    have hw : wantS 1 [] (l.drop i1) = .err (nx l i1).at_ 7 := by unfold wantS; rw [if_neg (fun hh => g hh.1)]
    rw [hw]; rfl
   refine c_rdone0 l i1 ⟨{ prod0 with name := toBA (nx l i1).text, over := 1, roll := 1 }, [], [], [], [], [], 0, 0⟩ (fun _ => hk1) _ (fun _ => ?_) (fun h => absurd rfl h)
   conv=>whnf
   (repeat' first | (refine step_go [] ?_;conv=>whnf) | (refine two ?_ ?_<;>intro g<;>(try simp only[bsx]at g)<;>(conv=>whnf)) | (refine And.intro rfl ?_;conv=>whnf) | (refine dr_go (by decide +kernel) ?_;conv=>whnf) | fail)
   refine c_rgroup 0 1 (by decide) l i1 hok hne ⟨{ prod0 with name := toBA (nx l i1).text, over := 1, roll := 1 }, [], [], [], [], [], 7, (nx l i1).at_⟩ [] (fun h => absurd (show (7 : Int) = 0 from h) (by decide)) _ (fun h => absurd (show (7 : Int) = 0 from h) (by decide)) (fun h => absurd (show (7 : Int) = 0 from h) (by decide)) (fun _ => ?_)
   rw [parse_err hl hE] at h
   conv=>whnf
   (repeat' first | (refine step_go [] ?_;conv=>whnf) | (refine two ?_ ?_<;>intro g<;>(try simp only[bsx]at g)<;>(conv=>whnf)) | (refine And.intro rfl ?_;conv=>whnf) | (refine dr_go (by decide +kernel) ?_;conv=>whnf) | fail)
   refine ⟨_, _, weak_of (.cons (.tup (.cons (.agg ?_) (.cons (.eq rfl) (.cons (.eq rfl) .nil)))) .nil) .nil rfl rfl rfl, h⟩
   (repeat' first | exact VQs.nil | refine VQs.cons VQ.no ?_ | refine VQs.cons VQ.spare ?_ | refine VQs.cons (VQ.eq rfl) ?_)
 have hw2 : wantS 1 [] (l.drop i1) = .ok (nx l i1) (nextT (l.drop i1)).2 := by unfold wantS; rw [if_pos ⟨g, .inl rfl⟩]
 have hd2 := rdrop hk1 (by rw [g]; decide)
 have hk2 : endT (l.drop (i1 + 1)) := by rw [hd2]; exact (endT_next hk1).1
 rw [← hd1, hw2, ← hd2] at ht1
 refine c_rName (toBA (nx l i1).text) (by rw [toBA_size]; exact hb1.2) _ ?_
 rw [sB_toBA hb1.1]
 obtain ⟨b, hbn⟩ : ∃ b, nameB (nx l i1).text = b := ⟨_, rfl⟩
 rw [hbn]
 cases b with
 | false =>
   have hno : ¬ nameP (nx l i1).text := fun h => by rw [(nameB_iff _).2 h] at hbn; cases hbn
   have hE : textP l = .err (nx l i1).at_ 7 := by rw [ht1]; exact if_neg hno
   conv=>whnf
   (repeat' first | (refine step_go [] ?_;conv=>whnf) | (refine two ?_ ?_<;>intro g<;>(try simp only[bsx]at g)<;>(conv=>whnf)) | (refine And.intro rfl ?_;conv=>whnf) | (refine dr_go (by decide +kernel) ?_;conv=>whnf) | fail)
   refine c_rdone0 l i1 ⟨{ prod0 with name := toBA (nx l i1).text, over := 1, roll := 1 }, [], [], [], [], [], 0, 0⟩ (fun _ => hk1) _ (fun _ => ?_) (fun h => absurd rfl h)
   conv=>whnf
   (repeat' first | (refine step_go [] ?_;conv=>whnf) | (refine two ?_ ?_<;>intro g<;>(try simp only[bsx]at g)<;>(conv=>whnf)) | (refine And.intro rfl ?_;conv=>whnf) | (refine dr_go (by decide +kernel) ?_;conv=>whnf) | fail)
   refine c_rgroup 0 1 (by decide) l i1 hok hne ⟨{ prod0 with name := toBA (nx l i1).text, over := 1, roll := 1 }, [], [], [], [], [], 7, (nx l i1).at_⟩ [] (fun h => absurd (show (7 : Int) = 0 from h) (by decide)) _ (fun h => absurd (show (7 : Int) = 0 from h) (by decide)) (fun h => absurd (show (7 : Int) = 0 from h) (by decide)) (fun _ => ?_)
   rw [parse_err hl hE] at h
   conv=>whnf
   (repeat' first | (refine step_go [] ?_;conv=>whnf) | (refine two ?_ ?_<;>intro g<;>(try simp only[bsx]at g)<;>(conv=>whnf)) | (refine And.intro rfl ?_;conv=>whnf) | (refine dr_go (by decide +kernel) ?_;conv=>whnf) | fail)
   refine ⟨_, _, weak_of (.cons (.tup (.cons (.agg ?_) (.cons (.eq rfl) (.cons (.eq rfl) .nil)))) .nil) .nil rfl rfl rfl, h⟩
   (repeat' first | exact VQs.nil | refine VQs.cons VQ.no ?_ | refine VQs.cons VQ.spare ?_ | refine VQs.cons (VQ.eq rfl) ?_)
 | true =>
 have hyes : nameP (nx l i1).text := (nameB_iff _).1 hbn
 have hbig := hok.1
 have hgq := gS_eq (d := 1) (p := { prod0 with name := toBA (nx l i1).text, over := 1, roll := 1 }) (sn := []) (by decide) hk2
 have ht1 : textP l = (wantS 3 [123] (l.drop (i1 + 1))).bind fun _ l' => (groupS (l'.length + 1) 1 l' { prod0 with name := toBA (nx l i1).text, over := 1, roll := 1 } []).bind fun q l => (wantS 0 [] l).bind fun _ l => .ok q l := by
  rw [ht1]; exact if_pos hyes
 have ht2 : textP l = (gS (l.drop (i1 + 1)).length 1 (l.drop (i1 + 1)) { prod0 with name := toBA (nx l i1).text, over := 1, roll := 1 } []).bind fun q l => (wantS 0 [] l).bind fun _ l => .ok q l := by
  rw [ht1, hgq]
  cases wantS 3 [123] (l.drop (i1 + 1)) <;> rfl
 conv=>whnf
 (repeat' first | (refine step_go [] ?_;conv=>whnf) | (refine two ?_ ?_<;>intro g<;>(try simp only[bsx]at g)<;>(conv=>whnf)) | (refine And.intro rfl ?_;conv=>whnf) | (refine dr_go (by decide +kernel) ?_;conv=>whnf) | fail)
 refine c_rdone1 l i1 ⟨{ prod0 with name := toBA (nx l i1).text, over := 1, roll := 1 }, [], [], [], [], [], 0, 0⟩ (by omega) _ ?_
 conv=>whnf
 (repeat' first | (refine step_go [] ?_;conv=>whnf) | (refine two ?_ ?_<;>intro g<;>(try simp only[bsx]at g)<;>(conv=>whnf)) | (refine And.intro rfl ?_;conv=>whnf) | (refine dr_go (by decide +kernel) ?_;conv=>whnf) | fail)
 have hdl : (l.drop (i1 + 1)).length <= l.length := by rw [List.length_drop]; omega
 refine c_rgroup (l.drop (i1 + 1)).length 1 (by decide) l (i1 + 1) hok hne ⟨{ prod0 with name := toBA (nx l i1).text, over := 1, roll := 1 }, [], [], [], [], [], 0, 0⟩ [] (fun _ => ⟨hk2, Nat.le_refl _, ⟨fun _ => Iff.rfl, by simp⟩, ⟨by show 0 + 0 + 0 + _ < _; omega, by show 0 + _ < _; omega⟩⟩) _ (fun _ q r i2 x2 e2 hd3 he3 hp3 hr3 hx3 hz3 => ?_) (fun _ p i2 x2 e2 ha3 hx3 => ?_) (fun h => absurd rfl h)
 rotate_left
 · have hE : textP l = .err p x2.err := by rw [ht2, e2]; rfl
   rw [parse_err hl hE] at h
   conv=>whnf
   (repeat' first | (refine step_go [] ?_;conv=>whnf) | (refine two ?_ ?_<;>intro g<;>(try simp only[bsx]at g)<;>(conv=>whnf)) | (refine And.intro rfl ?_;conv=>whnf) | (refine dr_go (by decide +kernel) ?_;conv=>whnf) | fail)
   all_goals first
    | exact absurd (by assumption) hx3
    | (rw [← ha3] at h
       refine ⟨_, _, weak_of (.cons (.tup (.cons (.agg ?_) (.cons (.eq rfl) (.cons (.eq rfl) .nil)))) .nil) .nil rfl rfl rfl, h⟩
       (repeat' first | exact VQs.nil | refine VQs.cons VQ.no ?_ | refine VQs.cons VQ.spare ?_ | refine VQs.cons (VQ.eq rfl) ?_))
 obtain ⟨p2, u1, u2, u3, hh, u4, er2, at2⟩ := x2
 simp only at hp3 hr3 hx3 hz3
 subst hx3
 have hk3 : endT (l.drop i2) := by rw [hd3]; exact he3
 obtain ⟨hget3, hil3⟩ := rget hk3
 rw [e2] at ht2
 have ht2 : textP l = (wantS 0 [] r).bind fun _ l => .ok q l := ht2
 rw [← hd3] at ht2
 conv=>whnf
 (repeat' first | (refine step_go [] ?_;conv=>whnf) | (refine two ?_ ?_<;>intro g<;>(try simp only[bsx]at g)<;>(conv=>whnf)) | (refine And.intro rfl ?_;conv=>whnf) | (refine dr_go (by decide +kernel) ?_;conv=>whnf) | (refine ⟨by omega, _, hget3, rfl, ?_⟩;conv=>whnf) | fail)
 · have hE : textP l = .err (nx l i2).at_ 7 := by
    rw [ht2]
    have hw : wantS 0 [] (l.drop i2) = .err (nx l i2).at_ 7 := by unfold wantS; rw [if_neg (fun hh => g hh.1)]
    rw [hw]; rfl
   rw [parse_err hl hE] at h
   refine c_rfail l i2 ⟨p2, u1, u2, u3, hh, u4, 0, at2⟩ (fun _ => hk3) 7 _ (fun _ => ?_) (fun h => absurd rfl h)
   conv=>whnf
   (repeat' first | (refine step_go [] ?_;conv=>whnf) | (refine two ?_ ?_<;>intro g<;>(try simp only[bsx]at g)<;>(conv=>whnf)) | (refine And.intro rfl ?_;conv=>whnf) | (refine dr_go (by decide +kernel) ?_;conv=>whnf) | fail)
   refine ⟨_, _, weak_of (.cons (.tup (.cons (.agg ?_) (.cons (.eq rfl) (.cons (.eq rfl) .nil)))) .nil) .nil rfl rfl rfl, h⟩
   (repeat' first | exact VQs.nil | refine VQs.cons VQ.no ?_ | refine VQs.cons VQ.spare ?_ | refine VQs.cons (VQ.eq rfl) ?_)
 have hw0 : wantS 0 [] (l.drop i2) = .ok (nx l i2) (nextT (l.drop i2)).2 := by unfold wantS; rw [if_pos ⟨g, .inl rfl⟩]
 have hT : textP l = .ok q (nextT (l.drop i2)).2 := by rw [ht2, hw0]; rfl
 obtain ⟨_, t, r0, hlt, hnt, _⟩ := endT_next hend
 have hget : (kL l)[Int.toNat 0]? = some (encK t) := by rw [hlt]; rfl
 have hno : ¬ (wholeP q.2 /\ checkP q.1) -> K (.ret (.tup [encP prod0, .int .i64 (t.at_ : Nat), .int .i64 9])) [] := fun hh => by rw [parse_no hl hT hh, hnt] at h; exact h
 have hyes2 : wholeP q.2 -> checkP q.1 -> K (.ret (.tup [encP q.1, .int .i64 0, .int .i64 0])) [] := fun a b => by rw [parse_yes hl hT a b] at h; exact h
 have hI := textP_I (fun t ht => (hok.2 t ht).2) hend hT
 rw [← hp3] at hI hno hyes2
 have hPok : p2.ok := hI.full (by have := hz3.1; simp only at this; omega) (by have := hz3.1; simp only at this; omega) (by have := hz3.1; simp only at this; omega)
 have hhl : hh.length < 1000000 := by have := hz3.2; simp only at this; omega
 clear h hz3
 (repeat' first | (refine step_go [] ?_;conv=>whnf) | (refine two ?_ ?_<;>intro g<;>(try simp only[bsx]at g)<;>(conv=>whnf)) | (refine And.intro rfl ?_;conv=>whnf) | (refine loop_round [] ?_;conv=>whnf) | (refine ⟨by decide, _, rfl, rfl, ?_⟩;conv=>whnf) | (refine ⟨_, Weak.refl, ?_⟩;conv=>whnf) | fail)
 refine VCall.lendC ?_
 conv=>whnf
 refine ⟨by simp [sL], ?_⟩
 rw [tk_s]
 conv=>whnf
 refine c_InS hh ⟨#[99, 111, 117, 110, 116]⟩ hhl hr3.2 _ ?_
 rw [show sB ⟨#[99, 111, 117, 110, 116]⟩ = w_count by decide]
 by_cases c_count : w_count ∈ hh
 rotate_left
 · rw [(pB_no _).2 c_count]
   conv=>whnf
   refine ⟨rfl, ?_⟩
   conv=>whnf
   (repeat' first | (refine step_go [] ?_;conv=>whnf) | (refine two ?_ ?_<;>intro g<;>(try simp only[bsx]at g)<;>(conv=>whnf)) | (refine And.intro rfl ?_;conv=>whnf) | (refine loop_round [] ?_;conv=>whnf) | (refine ⟨by decide, _, rfl, rfl, ?_⟩;conv=>whnf) | (refine ⟨by decide, _, hget, rfl, ?_⟩;conv=>whnf) | (refine ⟨_, Weak.refl, ?_⟩;conv=>whnf) | fail)
   have hf := hno fun h => c_count ((hr3.1 _).2 h.1.1)
   refine ⟨_, _, weak_of (.cons (.tup (.cons (.agg ?_) (.cons (.eq rfl) (.cons (.eq rfl) .nil)))) .nil) .nil rfl rfl rfl, hf⟩
   (repeat' first | exact VQs.nil | refine VQs.cons VQ.no ?_ | refine VQs.cons VQ.spare ?_ | refine VQs.cons (VQ.eq rfl) ?_)
 rw [(pB_iff _).2 c_count]
 conv=>whnf
 refine ⟨rfl, ?_⟩
 conv=>whnf
 (repeat' first | (refine step_go [] ?_;conv=>whnf) | (refine two ?_ ?_<;>intro g<;>(try simp only[bsx]at g)<;>(conv=>whnf)) | (refine And.intro rfl ?_;conv=>whnf) | (refine loop_round [] ?_;conv=>whnf) | (refine ⟨by decide, _, rfl, rfl, ?_⟩;conv=>whnf) | (refine ⟨_, Weak.refl, ?_⟩;conv=>whnf) | fail)
 refine VCall.lendC ?_
 conv=>whnf
 refine ⟨by simp [sL], ?_⟩
 rw [tk_s]
 conv=>whnf
 refine c_InS hh ⟨#[114, 111, 117, 110, 100]⟩ hhl hr3.2 _ ?_
 rw [show sB ⟨#[114, 111, 117, 110, 100]⟩ = w_round by decide]
 by_cases c_round : w_round ∈ hh
 rotate_left
 · rw [(pB_no _).2 c_round]
   conv=>whnf
   refine ⟨rfl, ?_⟩
   conv=>whnf
   (repeat' first | (refine step_go [] ?_;conv=>whnf) | (refine two ?_ ?_<;>intro g<;>(try simp only[bsx]at g)<;>(conv=>whnf)) | (refine And.intro rfl ?_;conv=>whnf) | (refine loop_round [] ?_;conv=>whnf) | (refine ⟨by decide, _, rfl, rfl, ?_⟩;conv=>whnf) | (refine ⟨by decide, _, hget, rfl, ?_⟩;conv=>whnf) | (refine ⟨_, Weak.refl, ?_⟩;conv=>whnf) | fail)
   have hf := hno fun h => c_round ((hr3.1 _).2 h.1.2.1)
   refine ⟨_, _, weak_of (.cons (.tup (.cons (.agg ?_) (.cons (.eq rfl) (.cons (.eq rfl) .nil)))) .nil) .nil rfl rfl rfl, hf⟩
   (repeat' first | exact VQs.nil | refine VQs.cons VQ.no ?_ | refine VQs.cons VQ.spare ?_ | refine VQs.cons (VQ.eq rfl) ?_)
 rw [(pB_iff _).2 c_round]
 conv=>whnf
 refine ⟨rfl, ?_⟩
 conv=>whnf
 (repeat' first | (refine step_go [] ?_;conv=>whnf) | (refine two ?_ ?_<;>intro g<;>(try simp only[bsx]at g)<;>(conv=>whnf)) | (refine And.intro rfl ?_;conv=>whnf) | (refine loop_round [] ?_;conv=>whnf) | (refine ⟨by decide, _, rfl, rfl, ?_⟩;conv=>whnf) | (refine ⟨_, Weak.refl, ?_⟩;conv=>whnf) | fail)
 refine VCall.lendC ?_
 conv=>whnf
 refine ⟨by simp [sL], ?_⟩
 rw [tk_s]
 conv=>whnf
 refine c_InS hh ⟨#[107, 105, 110, 100]⟩ hhl hr3.2 _ ?_
 rw [show sB ⟨#[107, 105, 110, 100]⟩ = w_kind by decide]
 by_cases c_kind : w_kind ∈ hh
 rotate_left
 · rw [(pB_no _).2 c_kind]
   conv=>whnf
   refine ⟨rfl, ?_⟩
   conv=>whnf
   (repeat' first | (refine step_go [] ?_;conv=>whnf) | (refine two ?_ ?_<;>intro g<;>(try simp only[bsx]at g)<;>(conv=>whnf)) | (refine And.intro rfl ?_;conv=>whnf) | (refine loop_round [] ?_;conv=>whnf) | (refine ⟨by decide, _, rfl, rfl, ?_⟩;conv=>whnf) | (refine ⟨by decide, _, hget, rfl, ?_⟩;conv=>whnf) | (refine ⟨_, Weak.refl, ?_⟩;conv=>whnf) | fail)
   have hf := hno fun h => c_kind ((hr3.1 _).2 h.1.2.2.1)
   refine ⟨_, _, weak_of (.cons (.tup (.cons (.agg ?_) (.cons (.eq rfl) (.cons (.eq rfl) .nil)))) .nil) .nil rfl rfl rfl, hf⟩
   (repeat' first | exact VQs.nil | refine VQs.cons VQ.no ?_ | refine VQs.cons VQ.spare ?_ | refine VQs.cons (VQ.eq rfl) ?_)
 rw [(pB_iff _).2 c_kind]
 conv=>whnf
 refine ⟨rfl, ?_⟩
 conv=>whnf
 (repeat' first | (refine step_go [] ?_;conv=>whnf) | (refine two ?_ ?_<;>intro g<;>(try simp only[bsx]at g)<;>(conv=>whnf)) | (refine And.intro rfl ?_;conv=>whnf) | (refine loop_round [] ?_;conv=>whnf) | (refine ⟨by decide, _, rfl, rfl, ?_⟩;conv=>whnf) | (refine ⟨_, Weak.refl, ?_⟩;conv=>whnf) | fail)
 refine VCall.lendC ?_
 conv=>whnf
 refine ⟨by simp [sL], ?_⟩
 rw [tk_s]
 conv=>whnf
 refine c_InS hh ⟨#[101, 118, 101, 114, 121]⟩ hhl hr3.2 _ ?_
 rw [show sB ⟨#[101, 118, 101, 114, 121]⟩ = w_every by decide]
 by_cases c_every : w_every ∈ hh
 rotate_left
 · rw [(pB_no _).2 c_every]
   conv=>whnf
   refine ⟨rfl, ?_⟩
   conv=>whnf
   (repeat' first | (refine step_go [] ?_;conv=>whnf) | (refine two ?_ ?_<;>intro g<;>(try simp only[bsx]at g)<;>(conv=>whnf)) | (refine And.intro rfl ?_;conv=>whnf) | (refine loop_round [] ?_;conv=>whnf) | (refine ⟨by decide, _, rfl, rfl, ?_⟩;conv=>whnf) | (refine ⟨by decide, _, hget, rfl, ?_⟩;conv=>whnf) | (refine ⟨_, Weak.refl, ?_⟩;conv=>whnf) | fail)
   have hf := hno fun h => c_every ((hr3.1 _).2 h.1.2.2.2.1)
   refine ⟨_, _, weak_of (.cons (.tup (.cons (.agg ?_) (.cons (.eq rfl) (.cons (.eq rfl) .nil)))) .nil) .nil rfl rfl rfl, hf⟩
   (repeat' first | exact VQs.nil | refine VQs.cons VQ.no ?_ | refine VQs.cons VQ.spare ?_ | refine VQs.cons (VQ.eq rfl) ?_)
 rw [(pB_iff _).2 c_every]
 conv=>whnf
 refine ⟨rfl, ?_⟩
 conv=>whnf
 (repeat' first | (refine step_go [] ?_;conv=>whnf) | (refine two ?_ ?_<;>intro g<;>(try simp only[bsx]at g)<;>(conv=>whnf)) | (refine And.intro rfl ?_;conv=>whnf) | (refine loop_round [] ?_;conv=>whnf) | (refine ⟨by decide, _, rfl, rfl, ?_⟩;conv=>whnf) | (refine ⟨_, Weak.refl, ?_⟩;conv=>whnf) | fail)
 refine VCall.lendC ?_
 conv=>whnf
 refine ⟨by simp [sL], ?_⟩
 rw [tk_s]
 conv=>whnf
 refine c_InS hh ⟨#[116, 105, 109, 101, 115]⟩ hhl hr3.2 _ ?_
 rw [show sB ⟨#[116, 105, 109, 101, 115]⟩ = w_times by decide]
 by_cases c_times : w_times ∈ hh
 rotate_left
 · rw [(pB_no _).2 c_times]
   conv=>whnf
   refine ⟨rfl, ?_⟩
   conv=>whnf
   (repeat' first | (refine step_go [] ?_;conv=>whnf) | (refine two ?_ ?_<;>intro g<;>(try simp only[bsx]at g)<;>(conv=>whnf)) | (refine And.intro rfl ?_;conv=>whnf) | (refine loop_round [] ?_;conv=>whnf) | (refine ⟨by decide, _, rfl, rfl, ?_⟩;conv=>whnf) | (refine ⟨by decide, _, hget, rfl, ?_⟩;conv=>whnf) | (refine ⟨_, Weak.refl, ?_⟩;conv=>whnf) | fail)
   have hf := hno fun h => c_times ((hr3.1 _).2 h.1.2.2.2.2.1)
   refine ⟨_, _, weak_of (.cons (.tup (.cons (.agg ?_) (.cons (.eq rfl) (.cons (.eq rfl) .nil)))) .nil) .nil rfl rfl rfl, hf⟩
   (repeat' first | exact VQs.nil | refine VQs.cons VQ.no ?_ | refine VQs.cons VQ.spare ?_ | refine VQs.cons (VQ.eq rfl) ?_)
 rw [(pB_iff _).2 c_times]
 conv=>whnf
 refine ⟨rfl, ?_⟩
 conv=>whnf
 (repeat' first | (refine step_go [] ?_;conv=>whnf) | (refine two ?_ ?_<;>intro g<;>(try simp only[bsx]at g)<;>(conv=>whnf)) | (refine And.intro rfl ?_;conv=>whnf) | (refine loop_round [] ?_;conv=>whnf) | (refine ⟨by decide, _, rfl, rfl, ?_⟩;conv=>whnf) | (refine ⟨_, Weak.refl, ?_⟩;conv=>whnf) | fail)
 refine VCall.lendC ?_
 conv=>whnf
 refine ⟨by simp [sL], ?_⟩
 rw [tk_s]
 conv=>whnf
 refine c_InS hh ⟨#[114, 97, 116, 101]⟩ hhl hr3.2 _ ?_
 rw [show sB ⟨#[114, 97, 116, 101]⟩ = w_rate by decide]
 by_cases c_rate : w_rate ∈ hh
 rotate_left
 · rw [(pB_no _).2 c_rate]
   conv=>whnf
   refine ⟨rfl, ?_⟩
   conv=>whnf
   (repeat' first | (refine step_go [] ?_;conv=>whnf) | (refine two ?_ ?_<;>intro g<;>(try simp only[bsx]at g)<;>(conv=>whnf)) | (refine And.intro rfl ?_;conv=>whnf) | (refine loop_round [] ?_;conv=>whnf) | (refine ⟨by decide, _, rfl, rfl, ?_⟩;conv=>whnf) | (refine ⟨by decide, _, hget, rfl, ?_⟩;conv=>whnf) | (refine ⟨_, Weak.refl, ?_⟩;conv=>whnf) | fail)
   have hf := hno fun h => c_rate ((hr3.1 _).2 h.1.2.2.2.2.2.1)
   refine ⟨_, _, weak_of (.cons (.tup (.cons (.agg ?_) (.cons (.eq rfl) (.cons (.eq rfl) .nil)))) .nil) .nil rfl rfl rfl, hf⟩
   (repeat' first | exact VQs.nil | refine VQs.cons VQ.no ?_ | refine VQs.cons VQ.spare ?_ | refine VQs.cons (VQ.eq rfl) ?_)
 rw [(pB_iff _).2 c_rate]
 conv=>whnf
 refine ⟨rfl, ?_⟩
 conv=>whnf
 (repeat' first | (refine step_go [] ?_;conv=>whnf) | (refine two ?_ ?_<;>intro g<;>(try simp only[bsx]at g)<;>(conv=>whnf)) | (refine And.intro rfl ?_;conv=>whnf) | (refine loop_round [] ?_;conv=>whnf) | (refine ⟨by decide, _, rfl, rfl, ?_⟩;conv=>whnf) | (refine ⟨_, Weak.refl, ?_⟩;conv=>whnf) | fail)
 refine VCall.lendC ?_
 conv=>whnf
 refine ⟨by simp [sL], ?_⟩
 rw [tk_s]
 conv=>whnf
 refine c_InS hh ⟨#[111, 114, 100, 101, 114]⟩ hhl hr3.2 _ ?_
 rw [show sB ⟨#[111, 114, 100, 101, 114]⟩ = w_order by decide]
 by_cases c_order : w_order ∈ hh
 rotate_left
 · rw [(pB_no _).2 c_order]
   conv=>whnf
   refine ⟨rfl, ?_⟩
   conv=>whnf
   (repeat' first | (refine step_go [] ?_;conv=>whnf) | (refine two ?_ ?_<;>intro g<;>(try simp only[bsx]at g)<;>(conv=>whnf)) | (refine And.intro rfl ?_;conv=>whnf) | (refine loop_round [] ?_;conv=>whnf) | (refine ⟨by decide, _, rfl, rfl, ?_⟩;conv=>whnf) | (refine ⟨by decide, _, hget, rfl, ?_⟩;conv=>whnf) | (refine ⟨_, Weak.refl, ?_⟩;conv=>whnf) | fail)
   have hf := hno fun h => c_order ((hr3.1 _).2 h.1.2.2.2.2.2.2)
   refine ⟨_, _, weak_of (.cons (.tup (.cons (.agg ?_) (.cons (.eq rfl) (.cons (.eq rfl) .nil)))) .nil) .nil rfl rfl rfl, hf⟩
   (repeat' first | exact VQs.nil | refine VQs.cons VQ.no ?_ | refine VQs.cons VQ.spare ?_ | refine VQs.cons (VQ.eq rfl) ?_)
 rw [(pB_iff _).2 c_order]
 conv=>whnf
 refine ⟨rfl, ?_⟩
 conv=>whnf
 (repeat' first | (refine step_go [] ?_;conv=>whnf) | (refine two ?_ ?_<;>intro g<;>(try simp only[bsx]at g)<;>(conv=>whnf)) | (refine And.intro rfl ?_;conv=>whnf) | (refine loop_round [] ?_;conv=>whnf) | (refine ⟨by decide, _, rfl, rfl, ?_⟩;conv=>whnf) | (refine ⟨_, Weak.refl, ?_⟩;conv=>whnf) | fail)
 have hw : wholeP q.2 := ⟨(hr3.1 _).1 c_count, (hr3.1 _).1 c_round, (hr3.1 _).1 c_kind, (hr3.1 _).1 c_every, (hr3.1 _).1 c_times, (hr3.1 _).1 c_rate, (hr3.1 _).1 c_order⟩
 refine VCall.lendC ?_
 conv=>whnf
 refine ⟨by simp [rL], ?_⟩
 conv=>whnf
 refine ⟨by simp [tL], ?_⟩
 conv=>whnf
 refine ⟨by simp [iL], ?_⟩
 conv=>whnf
 rw [tk_r, tk_t, tk_i]
 refine c_rCheck p2 hPok _ ?_
 conv=>whnf
 refine ⟨rfl, ?_⟩
 conv=>whnf
 have hcc : checkP p2 -> checkC p2 = 0 := fun hh => by unfold checkC; rw [if_pos hh]
 have hcn : ¬ checkP p2 -> checkC p2 = 9 := fun hh => by unfold checkC; rw [if_neg hh]
 obtain ⟨cc, hcd⟩ : ∃ cc, checkC p2 = cc := ⟨_, rfl⟩
 rw [hcd] at hcc hcn ⊢
 (repeat' first | (refine step_go [] ?_;conv=>whnf) | (refine two ?_ ?_<;>intro g<;>(try simp only[bsx]at g)<;>(conv=>whnf)) | (refine And.intro rfl ?_;conv=>whnf) | (refine ⟨by decide, _, hget, rfl, ?_⟩;conv=>whnf) | fail)
 · have hf := hno fun hh => g (hcc hh.2)
   refine ⟨_, _, weak_of (.cons (.tup (.cons (.agg ?_) (.cons (.eq rfl) (.cons (.eq rfl) .nil)))) .nil) .nil rfl rfl rfl, hf⟩
   (repeat' first | exact VQs.nil | refine VQs.cons VQ.no ?_ | refine VQs.cons VQ.spare ?_ | refine VQs.cons (VQ.eq rfl) ?_)
 · have hck : checkP p2 := by
    by_cases hh : checkP p2
    · exact hh
    · have := hcn hh; omega
   have hf := hyes2 hw hck
   exact end_frz3 (s1 := u1) (s2 := u2) (s3 := u3) hf
end CR7

namespace CR8
open Go Go.Proofs VL D1 B10 C1 C2 BB10 BB14 C6 C22 C28d
theorem fl_Reset (m : Nat) (a b : Int) : flatT (VL.sys Tryz.prog m []).P 68 [.int .i64 a, .int .i64 b] = true := by kernel_rfl
theorem eq_Reset (a : Rs) (K : Out -> List VObj -> Prop) (h : K (.ret (.bool true)) []) : VCall Tryz.prog 64 [encR a, encR a] [] K := by
 refine call_fun [] 0 Tryz.func64 (by rfl) (by rfl) ?_
 conv=>whnf
 repeat' first
  | (refine step_go [] ?_;conv=>whnf)
  | (rw [fl_Reset];conv=>whnf)
 refine Eq.mp (congrArg (fun b => K (.ret (.bool b)) []) ?_) h
 simp
theorem sm_Reset (l : List Rs) (hl : l.length < 1000000) (K : Out -> List VObj -> Prop) (h : K (.ret (.bool true)) []) : VCall Tryz.prog 63 [.sl (rL l) .no, .sl (rL l) .no, .fn (.func 64) [] []] [] K := by
 have hlen : (rL l).length = l.length := by simp [rL]
 refine call_fun [] 0 Tryz.func63 (by rfl) (by rfl) ?_
 conv=>whnf
 (repeat' first | (refine step_go [] ?_;conv=>whnf) | (refine two ?_ ?_<;>intro g<;>(try simp only[bsx]at g)<;>(conv=>whnf)) | (refine And.intro rfl ?_;conv=>whnf) | fail)
 · exact absurd trivial g
 let S : Nat -> St := fun i => ⟨(.sl (rL l) .no :: .sl (rL l) .no :: .fn (.func 64) [] [] :: .undef :: .undef :: .undef :: .bool false :: .int .i64 (i : Nat) :: .undef :: .undef :: .undef :: .undef :: .undef :: .undef :: .undef :: .undef :: .undef :: .undef :: .undef :: .undef :: .undef :: .undef :: .undef :: .undef :: .undef :: .undef :: .undef :: .undef :: .undef :: .undef :: []), [], 0, []⟩
 refine VLoop.enter (s' := S 0) (weak_of ?_ .nil rfl rfl rfl) (VLoop.indW S (fun i => l.length - i) (fun i => i <= l.length) ?_ 0 (Nat.zero_le _))
 · (repeat' first | exact VWs.nil | refine VWs.cons VW.undef ?_ | refine VWs.cons (VW.eq rfl) ?_)
 intro i hi ih
 refine loop_round [] ?_; conv=>whnf
 (repeat' first | (refine step_go [] ?_;conv=>whnf) | (refine two ?_ ?_<;>intro g<;>(try simp only[bsx]at g)<;>(conv=>whnf)) | (refine And.intro rfl ?_;conv=>whnf) | fail)
 · rw [hlen] at g
   have hil : i < l.length := by omega
   have hget : (rL l)[(i : Int).toNat]? = some (encR (l[i])) := by rw [Int.toNat_natCast]; simp [rL, List.getElem?_eq_getElem hil]
   (repeat' first | (refine step_go [] ?_;conv=>whnf) | (refine two ?_ ?_<;>intro g<;>(try simp only[bsx]at g)<;>(conv=>whnf)) | (refine And.intro rfl ?_;conv=>whnf) | (refine dr_go (by decide +kernel) ?_;conv=>whnf) | (refine ⟨by omega, _, hget, rfl, ?_⟩;conv=>whnf) | (refine eq_Reset _ _ ?_;conv=>whnf) | fail)
   have wi : IntKind.i64.wrap ((i : Int) + 1) = ((i + 1 : Nat) : Int) := by rw [wrap64 (by omega) (by omega)]; omega
   exact ⟨S (i + 1), weak_of (by rw [wi]; (repeat' first | exact VWs.nil | refine VWs.cons VW.undef ?_ | refine VWs.cons (VW.eq rfl) ?_)) .nil rfl rfl rfl, ih (i + 1) (by omega) (by omega)⟩
 · refine ⟨_, Weak.refl, ?_⟩; conv=>whnf
   (repeat' first | (refine step_go [] ?_;conv=>whnf) | (refine two ?_ ?_<;>intro g<;>(try simp only[bsx]at g)<;>(conv=>whnf)) | (refine And.intro rfl ?_;conv=>whnf) | fail)
   exact h
theorem pl_Reset (l : List Rs) (hl : l.length < 1000000) (K : Out -> List VObj -> Prop) (h : K (.ret (.bool true)) []) : VCall Tryz.prog 30 [.sl (rL l) .no, .sl (rL l) .no] [] K := by
 refine call_fun [] 0 Tryz.func30 (by rfl) (by rfl) ?_
 conv=>whnf
 (repeat' first | (refine step_go [] ?_;conv=>whnf) | (refine two ?_ ?_<;>intro g<;>(try simp only[bsx]at g)<;>(conv=>whnf)) | (refine And.intro rfl ?_;conv=>whnf) | (refine sm_Reset l hl _ ?_;conv=>whnf) | fail)
 exact h
theorem fl_Tier (m : Nat) (a b : Int) : flatT (VL.sys Tryz.prog m []).P 71 [.int .i64 a, .int .i64 b] = true := by kernel_rfl
theorem eq_Tier (a : Ti) (K : Out -> List VObj -> Prop) (h : K (.ret (.bool true)) []) : VCall Tryz.prog 66 [encT a, encT a] [] K := by
 refine call_fun [] 0 Tryz.func66 (by rfl) (by rfl) ?_
 conv=>whnf
 repeat' first
  | (refine step_go [] ?_;conv=>whnf)
  | (rw [fl_Tier];conv=>whnf)
 refine Eq.mp (congrArg (fun b => K (.ret (.bool b)) []) ?_) h
 simp
theorem sm_Tier (l : List Ti) (hl : l.length < 1000000) (K : Out -> List VObj -> Prop) (h : K (.ret (.bool true)) []) : VCall Tryz.prog 65 [.sl (tL l) .no, .sl (tL l) .no, .fn (.func 66) [] []] [] K := by
 have hlen : (tL l).length = l.length := by simp [tL]
 refine call_fun [] 0 Tryz.func65 (by rfl) (by rfl) ?_
 conv=>whnf
 (repeat' first | (refine step_go [] ?_;conv=>whnf) | (refine two ?_ ?_<;>intro g<;>(try simp only[bsx]at g)<;>(conv=>whnf)) | (refine And.intro rfl ?_;conv=>whnf) | fail)
 · exact absurd trivial g
 let S : Nat -> St := fun i => ⟨(.sl (tL l) .no :: .sl (tL l) .no :: .fn (.func 66) [] [] :: .undef :: .undef :: .undef :: .bool false :: .int .i64 (i : Nat) :: .undef :: .undef :: .undef :: .undef :: .undef :: .undef :: .undef :: .undef :: .undef :: .undef :: .undef :: .undef :: .undef :: .undef :: .undef :: .undef :: .undef :: .undef :: .undef :: .undef :: .undef :: .undef :: []), [], 0, []⟩
 refine VLoop.enter (s' := S 0) (weak_of ?_ .nil rfl rfl rfl) (VLoop.indW S (fun i => l.length - i) (fun i => i <= l.length) ?_ 0 (Nat.zero_le _))
 · (repeat' first | exact VWs.nil | refine VWs.cons VW.undef ?_ | refine VWs.cons (VW.eq rfl) ?_)
 intro i hi ih
 refine loop_round [] ?_; conv=>whnf
 (repeat' first | (refine step_go [] ?_;conv=>whnf) | (refine two ?_ ?_<;>intro g<;>(try simp only[bsx]at g)<;>(conv=>whnf)) | (refine And.intro rfl ?_;conv=>whnf) | fail)
 · rw [hlen] at g
   have hil : i < l.length := by omega
   have hget : (tL l)[(i : Int).toNat]? = some (encT (l[i])) := by rw [Int.toNat_natCast]; simp [tL, List.getElem?_eq_getElem hil]
   (repeat' first | (refine step_go [] ?_;conv=>whnf) | (refine two ?_ ?_<;>intro g<;>(try simp only[bsx]at g)<;>(conv=>whnf)) | (refine And.intro rfl ?_;conv=>whnf) | (refine dr_go (by decide +kernel) ?_;conv=>whnf) | (refine ⟨by omega, _, hget, rfl, ?_⟩;conv=>whnf) | (refine eq_Tier _ _ ?_;conv=>whnf) | fail)
   have wi : IntKind.i64.wrap ((i : Int) + 1) = ((i + 1 : Nat) : Int) := by rw [wrap64 (by omega) (by omega)]; omega
   exact ⟨S (i + 1), weak_of (by rw [wi]; (repeat' first | exact VWs.nil | refine VWs.cons VW.undef ?_ | refine VWs.cons (VW.eq rfl) ?_)) .nil rfl rfl rfl, ih (i + 1) (by omega) (by omega)⟩
 · refine ⟨_, Weak.refl, ?_⟩; conv=>whnf
   (repeat' first | (refine step_go [] ?_;conv=>whnf) | (refine two ?_ ?_<;>intro g<;>(try simp only[bsx]at g)<;>(conv=>whnf)) | (refine And.intro rfl ?_;conv=>whnf) | fail)
   exact h
theorem pl_Tier (l : List Ti) (hl : l.length < 1000000) (K : Out -> List VObj -> Prop) (h : K (.ret (.bool true)) []) : VCall Tryz.prog 31 [.sl (tL l) .no, .sl (tL l) .no] [] K := by
 refine call_fun [] 0 Tryz.func31 (by rfl) (by rfl) ?_
 conv=>whnf
 (repeat' first | (refine step_go [] ?_;conv=>whnf) | (refine two ?_ ?_<;>intro g<;>(try simp only[bsx]at g)<;>(conv=>whnf)) | (refine And.intro rfl ?_;conv=>whnf) | (refine sm_Tier l hl _ ?_;conv=>whnf) | fail)
 exact h
theorem eq_int (a : Int) (K : Out -> List VObj -> Prop) (h : K (.ret (.bool true)) []) : VCall Tryz.prog 68 [.int .i64 a, .int .i64 a] [] K := by
 refine call_fun [] 0 Tryz.func68 (by rfl) (by rfl) ?_
 conv=>whnf
 repeat' first
  | (refine step_go [] ?_;conv=>whnf)
  | fail
 refine Eq.mp (congrArg (fun b => K (.ret (.bool b)) []) ?_) h
 simp
theorem sm_int (l : List Int) (hl : l.length < 1000000) (K : Out -> List VObj -> Prop) (h : K (.ret (.bool true)) []) : VCall Tryz.prog 67 [.sl (iL l) .no, .sl (iL l) .no, .fn (.func 68) [] []] [] K := by
 have hlen : (iL l).length = l.length := by simp [iL]
 refine call_fun [] 0 Tryz.func67 (by rfl) (by rfl) ?_
 conv=>whnf
 (repeat' first | (refine step_go [] ?_;conv=>whnf) | (refine two ?_ ?_<;>intro g<;>(try simp only[bsx]at g)<;>(conv=>whnf)) | (refine And.intro rfl ?_;conv=>whnf) | fail)
 · exact absurd trivial g
 let S : Nat -> St := fun i => ⟨(.sl (iL l) .no :: .sl (iL l) .no :: .fn (.func 68) [] [] :: .undef :: .undef :: .undef :: .bool false :: .int .i64 (i : Nat) :: .undef :: .undef :: .undef :: .undef :: .undef :: .undef :: .undef :: .undef :: .undef :: .undef :: .undef :: .undef :: .undef :: .undef :: .undef :: .undef :: .undef :: .undef :: .undef :: .undef :: .undef :: .undef :: []), [], 0, []⟩
 refine VLoop.enter (s' := S 0) (weak_of ?_ .nil rfl rfl rfl) (VLoop.indW S (fun i => l.length - i) (fun i => i <= l.length) ?_ 0 (Nat.zero_le _))
 · (repeat' first | exact VWs.nil | refine VWs.cons VW.undef ?_ | refine VWs.cons (VW.eq rfl) ?_)
 intro i hi ih
 refine loop_round [] ?_; conv=>whnf
 (repeat' first | (refine step_go [] ?_;conv=>whnf) | (refine two ?_ ?_<;>intro g<;>(try simp only[bsx]at g)<;>(conv=>whnf)) | (refine And.intro rfl ?_;conv=>whnf) | fail)
 · rw [hlen] at g
   have hil : i < l.length := by omega
   have hget : (iL l)[(i : Int).toNat]? = some ((V.int .i64) (l[i])) := by rw [Int.toNat_natCast]; simp [iL, List.getElem?_eq_getElem hil]
   (repeat' first | (refine step_go [] ?_;conv=>whnf) | (refine two ?_ ?_<;>intro g<;>(try simp only[bsx]at g)<;>(conv=>whnf)) | (refine And.intro rfl ?_;conv=>whnf) | (refine dr_go (by decide +kernel) ?_;conv=>whnf) | (refine ⟨by omega, _, hget, rfl, ?_⟩;conv=>whnf) | (refine eq_int _ _ ?_;conv=>whnf) | fail)
   have wi : IntKind.i64.wrap ((i : Int) + 1) = ((i + 1 : Nat) : Int) := by rw [wrap64 (by omega) (by omega)]; omega
   exact ⟨S (i + 1), weak_of (by rw [wi]; (repeat' first | exact VWs.nil | refine VWs.cons VW.undef ?_ | refine VWs.cons (VW.eq rfl) ?_)) .nil rfl rfl rfl, ih (i + 1) (by omega) (by omega)⟩
 · refine ⟨_, Weak.refl, ?_⟩; conv=>whnf
   (repeat' first | (refine step_go [] ?_;conv=>whnf) | (refine two ?_ ?_<;>intro g<;>(try simp only[bsx]at g)<;>(conv=>whnf)) | (refine And.intro rfl ?_;conv=>whnf) | fail)
   exact h
theorem pl_int (l : List Int) (hl : l.length < 1000000) (K : Out -> List VObj -> Prop) (h : K (.ret (.bool true)) []) : VCall Tryz.prog 32 [.sl (iL l) .no, .sl (iL l) .no] [] K := by
 refine call_fun [] 0 Tryz.func32 (by rfl) (by rfl) ?_
 conv=>whnf
 (repeat' first | (refine step_go [] ?_;conv=>whnf) | (refine two ?_ ?_<;>intro g<;>(try simp only[bsx]at g)<;>(conv=>whnf)) | (refine And.intro rfl ?_;conv=>whnf) | (refine sm_int l hl _ ?_;conv=>whnf) | fail)
 exact h
set_option maxHeartbeats 4000000 in
theorem c_same (p : Prod) (h1 : p.resets.length < 1000000) (h2 : p.late.length < 1000000) (h3 : p.hol.length < 1000000) (K : Out -> List VObj -> Prop) (h : K (.ret (.bool true)) []) : VCall Tryz.prog 12 [encP p, encP p] [] K := by
 unfold encP cellsP
 refine call_fun [] 0 Tryz.func12 (by rfl) (by rfl) ?_
 conv=>whnf
 (repeat' first | (refine step_go [] ?_;conv=>whnf) | (refine two ?_ ?_<;>intro g<;>(try simp only[bsx]at g)<;>(conv=>whnf)) | (refine And.intro rfl ?_;conv=>whnf) | (refine pl_Reset p.resets h1 _ ?_;conv=>whnf) | (refine pl_Tier p.late h2 _ ?_;conv=>whnf) | (refine pl_int p.hol h3 _ ?_;conv=>whnf) | (rw [fl_4];conv=>whnf) | fail)
 all_goals first
  | exact h
  | exact absurd trivial g
  | (exfalso; simp at g; done)
  | trace_state
end CR8

namespace CR9
open Go Go.Proofs VL D1 B10 B12 B13 BB5 BB6 BB10 BB14 C1 C2 C3 C4 C6 C11 C15 C20 C22 C28 C28b C28d C29 C30 C33 CR8
def nameC (l : List Int) : Bool := (decide (1 <= l.length) && decide (l.length <= 20) && (match l with | x :: _ => decide (Small x) | [] => true) && l.all fun x => decide (Inner x)) && !(decide (l ∈ wordsL))
theorem nameC_iff (l : List Int) : nameC l = true ↔ nameP l := by
 unfold nameC nameP
 simp only [Bool.and_eq_true, decide_eq_true_eq, Bool.not_eq_true', decide_eq_false_iff_not, List.all_eq_true]
 cases l with
 | nil => simp
 | cons x r => simp [and_assoc]
noncomputable def textC (l : List C3.Tok) : Res (Prod × List (List Int)) :=
 (wantS 1 w_product l).bind fun _ l => (wantS 1 [] l).bind fun t l =>
   if nameC t.text = true then (wantS 3 [123] l).bind fun _ l => (groupS (l.length + 1) 1 l { prod0 with name := toBA t.text, over := 1, roll := 1 } []).bind fun q l => (wantS 0 [] l).bind fun _ l => .ok q l
   else .err t.at_ 7
open Classical in
theorem textC_eq (l : List C3.Tok) : textP l = textC l := by
 unfold textP textC
 cases wantS 1 w_product l with
 | err p e => rfl
 | ok t l1 =>
   show Res.bind (wantS 1 [] l1) _ = Res.bind (wantS 1 [] l1) _
   cases wantS 1 [] l1 with
   | err p e => rfl
   | ok t l2 =>
     show (if nameP t.text then _ else _) = (if nameC t.text = true then _ else _)
     by_cases h : nameP t.text
     · rw [if_pos h, if_pos ((nameC_iff _).2 h)]
     · rw [if_neg h, if_neg (fun hh => h ((nameC_iff _).1 hh))]
noncomputable def readC (s : List Int) : Option (Res (Prod × List (List Int))) := match lexS s with
 | .ok l => some (textC l)
 | .error _ => none
theorem read_ok {s : List Int} {q : Prod × List (List Int)} {r : List C3.Tok} (h : readC s = some (.ok q r)) (hw : wholeP q.2) (hc : checkP q.1) : parseS s = (q.1, 0, 0) := by
 unfold readC at h
 split at h
 · rename_i l hl
   injection h with h
   rw [← textC_eq] at h
   exact parse_yes hl h hw hc
 · cases h
theorem read_err {s : List Int} {p : Nat} {e : Int} (h : readC s = some (.err p e)) : parseS s = (prod0, (p : Int), e) := by
 unfold readC at h
 split at h
 · rename_i l hl
   injection h with h
   rw [← textC_eq] at h
   exact parse_err hl h
 · cases h
def eqP (p q : Prod) : Bool := decide (p.name.data = q.name.data) && decide (p.count = q.count) && decide (p.rnd = q.rnd) && decide (p.kind = q.kind) && decide (p.every = q.every) && decide (p.times = q.times) && decide (p.grace = q.grace) && decide (p.rate = q.rate) && decide (p.resets.map (fun r => (r.aft, r.rate)) = q.resets.map (fun r => (r.aft, r.rate))) && decide (p.pen = q.pen) && decide (p.o1 = q.o1) && decide (p.o2 = q.o2) && decide (p.o3 = q.o3) && decide (p.o4 = q.o4) && decide (p.over = q.over) && decide (p.late.map (fun r => (r.days, r.fee)) = q.late.map (fun r => (r.days, r.fee))) && decide (p.cap = q.cap) && decide (p.roll = q.roll) && decide (p.hol = q.hol)
theorem map_rs : ∀ {a b : List Rs}, a.map (fun r => (r.aft, r.rate)) = b.map (fun r => (r.aft, r.rate)) -> a = b
 | [], [], _ => rfl
 | [], _ :: _, h => by simp at h
 | _ :: _, [], h => by simp at h
 | x :: a, y :: b, h => by
   simp only [List.map_cons, List.cons.injEq, _root_.Prod.mk.injEq] at h
   obtain ⟨⟨h1, h2⟩, h3⟩ := h
   cases x; cases y
   simp only at h1 h2
   rw [h1, h2, map_rs h3]
theorem map_ti : ∀ {a b : List Ti}, a.map (fun r => (r.days, r.fee)) = b.map (fun r => (r.days, r.fee)) -> a = b
 | [], [], _ => rfl
 | [], _ :: _, h => by simp at h
 | _ :: _, [], h => by simp at h
 | x :: a, y :: b, h => by
   simp only [List.map_cons, List.cons.injEq, _root_.Prod.mk.injEq] at h
   obtain ⟨⟨h1, h2⟩, h3⟩ := h
   cases x; cases y
   simp only at h1 h2
   rw [h1, h2, map_ti h3]
theorem eqP_eq {p q : Prod} (h : eqP p q = true) : p = q := by
 unfold eqP at h
 simp only [Bool.and_eq_true, decide_eq_true_eq] at h
 obtain ⟨⟨⟨⟨⟨⟨⟨⟨⟨⟨⟨⟨⟨⟨⟨⟨⟨⟨h1, h2⟩, h3⟩, h4⟩, h5⟩, h6⟩, h7⟩, h8⟩, h9⟩, h10⟩, h11⟩, h12⟩, h13⟩, h14⟩, h15⟩, h16⟩, h17⟩, h18⟩, h19⟩ := h
 have h9 := map_rs h9
 have h16 := map_ti h16
 have h1 := ByteArray.ext h1
 cases p; cases q
 simp only at *
 subst h1 h2 h3 h4 h5 h6 h7 h8 h9 h10 h11 h12 h13 h14 h15 h16 h17 h18 h19
 rfl
def wholeC (sn : List (List Int)) : Bool := decide (w_count ∈ sn) && decide (w_round ∈ sn) && decide (w_kind ∈ sn) && decide (w_every ∈ sn) && decide (w_times ∈ sn) && decide (w_rate ∈ sn) && decide (w_order ∈ sn)
theorem wholeC_iff (sn : List (List Int)) : wholeC sn = true ↔ wholeP sn := by
 unfold wholeC wholeP
 simp only [Bool.and_eq_true, decide_eq_true_eq, and_assoc]
noncomputable def isC (s : List Int) (p : Prod) : Bool := match readC s with
 | some (.ok q _) => eqP q.1 p && wholeC q.2
 | _ => false
theorem is_ok {s : List Int} {p : Prod} (h : isC s p = true) (hc : checkP p) : parseS s = (p, 0, 0) := by
 unfold isC at h
 split at h
 · rename_i q r e
   rw [Bool.and_eq_true] at h
   have hp := eqP_eq h.1
   subst hp
   exact read_ok e ((wholeC_iff _).1 h.2) hc
 · cases h
noncomputable def errC (s : List Int) (p : Nat) (e : Int) : Bool := match readC s with
 | some (.err p' e') => decide (p' = p) && decide (e' = e)
 | _ => false
theorem is_err {s : List Int} {p : Nat} {e : Int} (h : errC s p e = true) : parseS s = (prod0, (p : Int), e) := by
 unfold errC at h
 split at h
 · rename_i p' e' hr
   simp only [Bool.and_eq_true, decide_eq_true_eq] at h
   rw [h.1, h.2] at hr
   exact read_err hr
 · cases h
def T0 : List Int := [112, 114, 111, 100, 117, 99, 116, 32, 104, 111, 109, 101, 32, 123, 32, 99, 111, 117, 110, 116, 32, 102, 105, 120, 101, 100, 59, 32, 114, 111, 117, 110, 100, 32, 104, 97, 108, 102, 45, 117, 112, 59, 32, 107, 105, 110, 100, 32, 97, 110, 110, 117, 105, 116, 121, 59, 32, 101, 118, 101, 114, 121, 32, 49, 59, 32, 116, 105, 109, 101, 115, 32, 49, 50, 59, 32, 114, 97, 116, 101, 32, 54, 37, 59, 32, 111, 114, 100, 101, 114, 32, 102, 101, 101, 115, 32, 112, 101, 110, 97, 108, 116, 121, 32, 105, 110, 116, 101, 114, 101, 115, 116, 32, 112, 114, 105, 110, 99, 105, 112, 97, 108, 59, 32, 125]
def homeP : Prod := { prod0 with name := ⟨#[104, 111, 109, 101]⟩, count := 2, rnd := 1, kind := 1, every := 1, times := 12, rate := 60000000, o1 := 1, o2 := 2, o3 := 3, o4 := 4, over := 1, roll := 1 }
theorem read_T0 : isC T0 homeP = true := by kernel_rfl
theorem home_ok : checkP homeP := by
 refine ⟨⟨⟨?_, by decide, by decide, by decide⟩, by unfold shape2; decide, by unfold shape3; decide⟩, ⟨by decide, by decide, by decide, trivial⟩, ⟨by unfold orderP; decide, by decide⟩, ⟨by decide, by decide, by decide, trivial⟩, ⟨⟨by decide, trivial⟩, by decide, by decide⟩⟩
 exact (nameC_iff _).1 (by decide)
theorem parse_T0 : parseS T0 = (homeP, 0, 0) := is_ok read_T0 home_ok
theorem parse_nil : parseS [] = (prod0, 0, 7) := is_err (p := 0) (by kernel_rfl)
def T0B : ByteArray := ⟨#[112, 114, 111, 100, 117, 99, 116, 32, 104, 111, 109, 101, 32, 123, 32, 99, 111, 117, 110, 116, 32, 102, 105, 120, 101, 100, 59, 32, 114, 111, 117, 110, 100, 32, 104, 97, 108, 102, 45, 117, 112, 59, 32, 107, 105, 110, 100, 32, 97, 110, 110, 117, 105, 116, 121, 59, 32, 101, 118, 101, 114, 121, 32, 49, 59, 32, 116, 105, 109, 101, 115, 32, 49, 50, 59, 32, 114, 97, 116, 101, 32, 54, 37, 59, 32, 111, 114, 100, 101, 114, 32, 102, 101, 101, 115, 32, 112, 101, 110, 97, 108, 116, 121, 32, 105, 110, 116, 101, 114, 101, 115, 116, 32, 112, 114, 105, 110, 99, 105, 112, 97, 108, 59, 32, 125]⟩
theorem sB_T0B : sB T0B = T0 := by decide +kernel
theorem c_text09 (K : Out -> List VObj -> Prop) (h : K (.ret (.str T0B)) []) : VCall Tryz.prog 16 [] [] K := by
 refine call_fun [] 0 Tryz.func16 (by rfl) (by rfl) ?_
 conv=>whnf
 (repeat' first | (refine step_go [] ?_;conv=>whnf) | (refine two ?_ ?_<;>intro g<;>(try simp only[bsx]at g)<;>(conv=>whnf)) | (refine And.intro rfl ?_;conv=>whnf) | fail)
 exact h
set_option maxHeartbeats 4000000 in
theorem c_awake (K : Out -> List VObj -> Prop) (h : K (.ret (.bool true)) []) : VCall Tryz.prog 9 [] [] K := by
 have hn0 : sB ⟨#[]⟩ = [] := rfl
 obtain ⟨P, hP⟩ : ∃ P, P = homeP := ⟨_, rfl⟩
 have hp := parse_T0
 rw [← hP] at hp
 have p1 : P.name.toList = (⟨#[104, 111, 109, 101]⟩ : ByteArray).toList := by rw [hP]; rfl
 have p2 : P.times = 12 := by rw [hP]; rfl
 have p3 : P.over = 1 := by rw [hP]; rfl
 clear hP
 obtain ⟨a0, ha0⟩ : ∃ a : Int, a = 0 := ⟨_, rfl⟩
 obtain ⟨a7, ha7⟩ : ∃ a : Int, a = 7 := ⟨_, rfl⟩
 have hp : parseS T0 = (P, a0, a0) := by rw [ha0]; exact hp
 have hq : parseS [] = (prod0, a0, a7) := by rw [ha0, ha7]; exact parse_nil
 refine call_fun [] 0 Tryz.func9 (by rfl) (by rfl) ?_
 conv=>whnf
 (repeat' first | (refine step_go [] ?_;conv=>whnf) | (refine two ?_ ?_<;>intro g<;>(try simp only[bsx]at g)<;>(conv=>whnf)) | (refine And.intro rfl ?_;conv=>whnf) | fail)
 refine c_text09 _ ?_
 conv=>whnf
 (repeat' first | (refine step_go [] ?_;conv=>whnf) | (refine two ?_ ?_<;>intro g<;>(try simp only[bsx]at g)<;>(conv=>whnf)) | (refine And.intro rfl ?_;conv=>whnf) | fail)
 refine c_Parse T0B (by decide +kernel) _ ?_
 rw [sB_T0B, hp]
 conv=>whnf
 (repeat' first | (refine step_go [] ?_;conv=>whnf) | (refine two ?_ ?_<;>intro g<;>(try simp only[bsx]at g)<;>(conv=>whnf)) | (refine And.intro rfl ?_;conv=>whnf) | fail)
 refine c_Parse ⟨#[]⟩ (by decide) _ ?_
 rw [hn0, hq]
 conv=>whnf
 (repeat' first | (refine step_go [] ?_;conv=>whnf) | (refine two ?_ ?_<;>intro g<;>(try simp only[bsx]at g)<;>(conv=>whnf)) | (refine And.intro rfl ?_;conv=>whnf) | fail)
 all_goals first
  | exact absurd (by assumption) (by assumption)
  | exact absurd ha0 (by assumption)
  | exact absurd p1 (by assumption)
  | exact absurd p2 (by assumption)
  | exact absurd p3 (by assumption)
  | exact absurd ha7 (by assumption)
  | (refine Eq.mp (congrArg (fun b => K (.ret (.bool b)) []) ?_) h
     simp [ha0, ha7, p2, p3]; done)
  | trace_state
theorem parse_len (s : List Int) : (parseS s).1.resets.length < 1000000 /\ (parseS s).1.late.length < 1000000 /\ (parseS s).1.hol.length < 1000000 := by
 have h0 : prod0.resets.length < 1000000 /\ prod0.late.length < 1000000 /\ prod0.hol.length < 1000000 := by refine ⟨?_, ?_, ?_⟩ <;> decide
 unfold parseS
 split
 · exact h0
 · split
   · exact h0
   · split
     · rename_i q r hq hc
       have hc := hc.2
       have h1 := hc.2.1.2.2.1
       have h2 := hc.2.2.2.1.1
       have h3 := hc.2.2.2.2.1.1
       exact ⟨by simp only; omega, by simp only; omega, by simp only; omega⟩
     · exact h0
theorem hgi (W : World) (hsh : W.ShapedOpen Tryz.prog) : ∀ b, globI b = true -> ∃ m, W.cell? ⟨b, 0, none⟩ = some (.int .i64 m) := by
 intro b hb
 match b, hb with
 | 0, _ => exact cell_of_shapedOpen_int (P := Tryz.prog) (g := 0) (t := 3) (zero := #[.int .i64 0]) hsh (of_decide_eq_true (by kernel_rfl)) (by kernel_rfl) rfl (by kernel_rfl) (by kernel_rfl) (by kernel_rfl)
end CR9

namespace CRA
open Go Go.Proofs VL D1 B10 B12 B13 BB5 BB6 BB10 BB14 C1 C2 C3 C4 C6 C11 C15 C20 C22 C28 C28b C28d C29 C30 C33 CR7 CR8 CR9
set_option maxHeartbeats 4000000 in
theorem g_tells (s : ByteArray) : VCall Tryz.prog 3 [.str s] [] fun out _ => out = .ret (.bool true) := by
 refine call_fun [] 0 Tryz.func3 (by rfl) (by rfl) ?_
 conv=>whnf
 (repeat' first | (refine step_go [] ?_;conv=>whnf) | (refine two ?_ ?_<;>intro g<;>(try simp only[bsx]at g)<;>(conv=>whnf)) | (refine And.intro rfl ?_;conv=>whnf) | (refine c_awake _ ?_;conv=>whnf) | fail)
 have hl := parse_len (sB s)
 have hp := c_Parse s (by omega)
 have hr := c_rParse s (by omega)
 obtain ⟨X, hX⟩ : ∃ X, X = parseS (sB s) := ⟨_, rfl⟩
 rw [← hX] at hl hp hr
 obtain ⟨P, A, E⟩ := X
 clear hX
 simp only at hl hp hr
 refine hp _ ?_
 conv=>whnf
 (repeat' first | (refine step_go [] ?_;conv=>whnf) | (refine two ?_ ?_<;>intro g<;>(try simp only[bsx]at g)<;>(conv=>whnf)) | (refine And.intro rfl ?_;conv=>whnf) | fail)
 refine hr _ ?_
 conv=>whnf
 (repeat' first | (refine step_go [] ?_;conv=>whnf) | (refine two ?_ ?_<;>intro g<;>(try simp only[bsx]at g)<;>(conv=>whnf)) | (refine And.intro rfl ?_;conv=>whnf) | (refine c_awake _ ?_;conv=>whnf) | fail)
 refine c_same P hl.1 hl.2.1 hl.2.2 _ ?_
 conv=>whnf
 (repeat' first | (refine step_go [] ?_;conv=>whnf) | (refine two ?_ ?_<;>intro g<;>(try simp only[bsx]at g)<;>(conv=>whnf)) | (refine And.intro rfl ?_;conv=>whnf) | fail)
 all_goals first
  | exact absurd rfl (by assumption)
  | exact absurd trivial (by assumption)
  | (refine congrArg (fun b => Out.ret (V.bool b)) ?_
     simp; done)
  | trace_state
end CRA

namespace CO1
open Go Go.Proofs VL D1 B10 B12 B13 BB5 BB6 BB10 BB14 C1 C2 C3 C4 C6 C11 C15 C20 C22 C28 C28b C28d C29 C30 C33 CR8 CR9
def kt (t : C3.Tok) : Int × List Int := (t.kind, t.text)
def preL (a : List C3.Tok) : Lx -> Lx
 | .ok l => .ok (a ++ l)
 | .bad p => .bad p
def LexTo (c : List Int) (ts : List (Int × List Int)) : Prop := ∀ f rest i, ∃ toks : List C3.Tok, toks.map kt = ts /\ lexF (f + ts.length) (c ++ rest) i = preL toks (lexF f rest (i + c.length))
theorem preL_app (a b : List C3.Tok) (x : Lx) : preL a (preL b x) = preL (a ++ b) x := by cases x <;> simp [preL]
theorem LexTo.app {c1 c2 : List Int} {t1 t2 : List (Int × List Int)} (h1 : LexTo c1 t1) (h2 : LexTo c2 t2) : LexTo (c1 ++ c2) (t1 ++ t2) := by
 intro f rest i
 obtain ⟨k1, e1, g1⟩ := h1 (f + t2.length) (c2 ++ rest) i
 obtain ⟨k2, e2, g2⟩ := h2 f rest (i + c1.length)
 refine ⟨k1 ++ k2, by rw [List.map_append, e1, e2], ?_⟩
 rw [List.append_assoc, List.length_append, show f + (t1.length + t2.length) = f + t2.length + t1.length by omega, g1, g2, preL_app, List.length_append, Nat.add_assoc]
theorem LexTo.nil : LexTo [] [] := fun f rest i => ⟨[], rfl, by
 show lexF f rest i = preL [] (lexF f rest i)
 cases lexF f rest i <;> rfl⟩
theorem tw3 (l : List Int) : l.takeWhile (goesB 3) = [] /\ l.dropWhile (goesB 3) = l := by
 cases l with
 | nil => exact ⟨rfl, rfl⟩
 | cons x r => exact ⟨rfl, rfl⟩
theorem lex_sign (c : Int) (hc : c = 123 \/ c = 125 \/ c = 59) : LexTo [c] [(3, [c])] := by
 intro f rest i
 refine ⟨[⟨3, i, [c]⟩], rfl, ?_⟩
 have hs : skipN false (c :: rest) = 0 := by rcases hc with rfl | rfl | rfl <;> rfl
 show lexF (f + 1) (c :: rest) i = preL _ (lexF f rest (i + 1))
 rw [C8.lexF_step, hs, List.drop_zero]
 simp only
 rw [kind3 rest hc]
 simp only
 rw [(tw3 rest).1, (tw3 rest).2]
 show Lx.cons _ (lexF f rest (i + 1)) = _
 cases lexF f rest (i + 1) <;> rfl
theorem lexF_blank (f : Nat) (l : List Int) (i : Nat) : lexF (f + 1) (32 :: l) i = lexF (f + 1) l (i + 1) := by
 have hs : skipN false (32 :: l) = 1 + skipN false l := by
  show (if (32 : Int) = 10 then _ else if (32 : Int) = 35 then _ else if false = false /\ (32 : Int) ≠ 32 /\ (32 : Int) ≠ 9 then 0 else 1 + skipN false l) = _
  rw [if_neg (by decide), if_neg (by decide), if_neg (by decide)]
 unfold lexF
 rw [hs, show (1 : Nat) + skipN false l = skipN false l + 1 by omega, List.drop_succ_cons]
 have e : i + (skipN false l + 1) = i + 1 + skipN false l := by omega
 rw [e]
def okTok : Int × List Int -> Bool
 | (k, c :: w) => (decide (k = 1) && letB c && w.all wordB) || (decide (k = 2) && digB c && w.all numB)
 | _ => false
theorem lex_tok {k : Int} {a : List Int} (h : okTok (k, a) = true) (x : Int) (hx : x = 32 \/ x = 59) (f : Nat) (rest : List Int) (i : Nat) : lexF (f + 1) (a ++ x :: rest) i = preL [⟨k, i, a⟩] (lexF f (x :: rest) (i + a.length)) := by
 cases a with
 | nil => cases h
 | cons c w =>
   have hgo : goesB k x = false /\ (∀ y ∈ w, goesB k y = true) /\ skipN false (c :: (w ++ x :: rest)) = 0 /\ kindS c (w ++ x :: rest) = some k := by
    simp only [okTok, Bool.or_eq_true, Bool.and_eq_true, decide_eq_true_eq, List.all_eq_true] at h
    have hsk : ∀ r, (c ≠ 10 /\ c ≠ 35 /\ c ≠ 32 /\ c ≠ 9) -> skipN false (c :: r) = 0 := fun r hc => by
     show (if c = 10 then _ else if c = 35 then _ else if false = false /\ c ≠ 32 /\ c ≠ 9 then 0 else _) = _
     rw [if_neg hc.1, if_neg hc.2.1, if_pos ⟨rfl, hc.2.2.1, hc.2.2.2⟩]
    rcases h with ⟨⟨rfl, hl⟩, hw⟩ | ⟨⟨rfl, hl⟩, hw⟩
    · have hl2 := (letB_iff c).1 hl
      exact ⟨by rcases hx with rfl | rfl <;> rfl, fun y hy => hw y hy, hsk _ (by omega), kind1 _ hl2⟩
    · have hl2 := (digB_iff c).1 hl
      exact ⟨by rcases hx with rfl | rfl <;> rfl, fun y hy => hw y hy, hsk _ (by omega), kind2 _ (by omega) (.inl hl2)⟩
   obtain ⟨g1, g2, g3, g4⟩ := hgo
   have t1 : (w ++ x :: rest).takeWhile (goesB k) = w := by
    rw [List.takeWhile_append_of_pos g2, List.takeWhile_cons, g1]; simp
   have t2 : (w ++ x :: rest).dropWhile (goesB k) = x :: rest := by
    rw [List.dropWhile_append_of_pos g2, List.dropWhile_cons, g1]; simp
   show lexF (f + 1) (c :: (w ++ x :: rest)) i = _
   rw [C8.lexF_step, g3, List.drop_zero]
   simp only
   rw [g4]
   simp only
   rw [t1, t2]
   show Lx.cons _ (lexF f (x :: rest) (i + 0 + 1 + w.length)) = _
   rw [show i + 0 + 1 + w.length = i + (c :: w).length by rw [List.length_cons]; omega]
   cases lexF f (x :: rest) (i + (c :: w).length) <;> rfl
def txt : List (Int × List Int) -> List Int
 | [] => [59]
 | [(_, a)] => a ++ [59]
 | (_, a) :: t :: r => a ++ 32 :: txt (t :: r)
theorem lex_txt : ∀ (ts : List (Int × List Int)), (∀ t ∈ ts, okTok t = true) -> LexTo (txt ts) (ts ++ [(3, [59])])
 | [], _ => lex_sign 59 (by decide)
 | [(k, a)], h => by
   intro f rest i
   obtain ⟨k1, e1, g1⟩ := lex_sign 59 (by decide) f rest (i + a.length)
   refine ⟨⟨k, i, a⟩ :: k1, by rw [List.map_cons, e1]; rfl, ?_⟩
   show lexF (f + 1 + 1) ((a ++ [59]) ++ rest) i = _
   rw [List.append_assoc]
   show lexF (f + 1 + 1) (a ++ 59 :: rest) i = _
   rw [lex_tok (h (k, a) (.head _)) 59 (by decide)]
   have g1 : lexF (f + 1) (59 :: rest) (i + a.length) = _ := g1
   rw [g1, preL_app]
   show preL _ (lexF f rest (i + a.length + 1)) = preL _ (lexF f rest (i + (txt [(k, a)]).length))
   rw [show (txt [(k, a)]).length = a.length + 1 by simp [txt], Nat.add_assoc]; rfl
 | (k, a) :: t :: r, h => by
  intro f rest i
  obtain ⟨k1, e1, g1⟩ := lex_txt (t :: r) (fun t ht => h t (.tail _ ht)) f rest (i + a.length + 1)
  refine ⟨⟨k, i, a⟩ :: k1, by rw [List.map_cons, e1]; rfl, ?_⟩
  show lexF (f + ((t :: r ++ [(3, [59])]).length + 1)) ((a ++ 32 :: txt (t :: r)) ++ rest) i = _
  rw [List.append_assoc]
  show lexF (f + (t :: r ++ [(3, [59])]).length + 1) (a ++ 32 :: (txt (t :: r) ++ rest)) i = _
  rw [lex_tok (h (k, a) (.head _)) 32 (by decide)]
  obtain ⟨m, hm⟩ : ∃ m, f + (t :: r ++ [(3, [59])]).length = m + 1 := ⟨f + (r ++ [(3, [59])]).length, by simp; omega⟩
  rw [hm, lexF_blank, ← hm, g1, preL_app]
  show preL _ (lexF f rest (i + a.length + 1 + (txt (t :: r)).length)) = preL _ (lexF f rest (i + (a ++ 32 :: txt (t :: r)).length))
  rw [show (a ++ 32 :: txt (t :: r)).length = a.length + 1 + (txt (t :: r)).length by simp; omega]
  rw [show i + (a.length + 1 + (txt (t :: r)).length) = i + a.length + 1 + (txt (t :: r)).length by omega]; rfl
end CO1

namespace CO2
open Go Go.Proofs VL D1 B10 B12 B13 BB5 BB6 BB10 BB14 C1 C2 C3 C4 C6 C11 C15 C20 C22 C28 C28b C28d C29 C30 C33 CR8 CR9 CO1
def ck : Nat -> List (Int × List Int)
 | 0 => [(1, [99, 111, 117, 110, 116]), (1, [102, 105, 120, 101, 100])]
 | 1 => [(1, [114, 111, 117, 110, 100]), (1, [100, 111, 119, 110])]
 | 2 => [(1, [107, 105, 110, 100]), (1, [101, 113, 117, 97, 108])]
 | 3 => [(1, [101, 118, 101, 114, 121]), (2, [51])]
 | 4 => [(1, [116, 105, 109, 101, 115]), (2, [56])]
 | 5 => [(1, [103, 114, 97, 99, 101]), (2, [50])]
 | 6 => [(1, [114, 97, 116, 101]), (2, [54, 46, 53, 37])]
 | 7 => [(1, [112, 101, 110, 97, 108, 116, 121]), (2, [57, 37])]
 | 8 => [(1, [111, 118, 101, 114]), (1, [112, 114, 101, 112, 97, 121])]
 | 9 => [(1, [111, 114, 100, 101, 114]), (1, [105, 110, 116, 101, 114, 101, 115, 116]), (1, [102, 101, 101, 115]), (1, [112, 114, 105, 110, 99, 105, 112, 97, 108]), (1, [112, 101, 110, 97, 108, 116, 121])]
 | 10 => [(1, [114, 111, 108, 108]), (1, [119, 105, 116, 104, 105, 110])]
 | 11 => [(1, [99, 97, 112]), (2, [53, 46, 48, 48])]
 | 12 => [(1, [108, 97, 116, 101]), (2, [53]), (2, [49, 46, 48, 48])]
 | _ => []
def cw : Nat -> List Int
 | 0 => w_count
 | 1 => w_round
 | 2 => w_kind
 | 3 => w_every
 | 4 => w_times
 | 5 => w_grace
 | 6 => w_rate
 | 7 => w_penalty
 | 8 => w_over
 | 9 => w_order
 | 10 => w_roll
 | 11 => w_cap
 | 12 => w_late
 | _ => []
def cu : Nat -> Prod -> Prod
 | 0, p => { p with count := 2 }
 | 1, p => { p with rnd := 3 }
 | 2, p => { p with kind := 2 }
 | 3, p => { p with every := 3 }
 | 4, p => { p with times := 8 }
 | 5, p => { p with grace := 2 }
 | 6, p => { p with rate := (takeR [54, 46, 53, 37]).1 }
 | 7, p => { p with pen := (takeR [57, 37]).1 }
 | 8, p => { p with over := 2 }
 | 9, p => { p with o1 := 3, o2 := 1, o3 := 4, o4 := 2 }
 | 10, p => { p with roll := 3 }
 | 11, p => { p with cap := (takeM [53, 46, 48, 48]).1 }
 | 12, p => { p with late := p.late ++ [⟨5, (takeM [49, 46, 48, 48]).1⟩] }
 | _, p => p
theorem ck_ok : ∀ j, j < 13 -> ∀ t ∈ ck j, okTok t = true := by decide +kernel
theorem lex_c (j : Nat) (hj : j < 13) : LexTo (txt (ck j)) (ck j ++ [(3, [59])]) := lex_txt _ (ck_ok j hj)
def mkF : List (Int × List Int) -> (Nat -> Nat) -> Nat -> List C3.Tok
 | [], _, _ => []
 | t :: r, g, n => ⟨t.1, g n, t.2⟩ :: mkF r g (n + 1)
theorem mkF_congr (l : List (Int × List Int)) {g g' : Nat -> Nat} {n n' : Nat} (h : ∀ k, g (n + k) = g' (n' + k)) : mkF l g n = mkF l g' n' := by
 induction l generalizing n n' with
 | nil => rfl
 | cons t r ih =>
   have h0 := h 0
   simp only [Nat.add_zero] at h0
   have e := ih (n := n + 1) (n' := n' + 1) fun k => by have := h (k + 1); rw [show n + 1 + k = n + (k + 1) by omega, show n' + 1 + k = n' + (k + 1) by omega]; exact this
   show (⟨t.1, g n, t.2⟩ : C3.Tok) :: mkF r g (n + 1) = ⟨t.1, g' n', t.2⟩ :: mkF r g' (n' + 1)
   rw [h0, e]
theorem of_map : ∀ {toks : List C3.Tok} {l : List (Int × List Int)}, toks.map kt = l -> ∃ g, toks = mkF l g 0
 | [], l, h => by subst h; exact ⟨fun _ => 0, rfl⟩
 | t :: r, l, h => by
   cases l with
   | nil => simp at h
   | cons x l =>
     simp only [List.map_cons, List.cons.injEq] at h
     obtain ⟨g, hg⟩ := of_map h.2
     refine ⟨fun n => match n with | 0 => t.at_ | n + 1 => g n, ?_⟩
     rw [hg, ← h.1]
     show _ = (⟨t.kind, t.at_, t.text⟩ : C3.Tok) :: mkF l _ 1
     congr 1
     exact mkF_congr l fun k => by rw [Nat.zero_add, Nat.add_comm 1 k]
theorem ce_0 (g : Nat -> Nat) (f d : Nat) (p : Prod) (sn : List (List Int)) (r : List C3.Tok) : groupS (f + 1) d (mkF (ck 0 ++ [(3, [59])]) g 0 ++ r) p sn = if cw 0 ∈ sn /\ manyW (cw 0) = false then .err (g 0) 7 else groupS f d r (cu 0 p) (cw 0 :: sn) := by kernel_rfl
theorem ce_1 (g : Nat -> Nat) (f d : Nat) (p : Prod) (sn : List (List Int)) (r : List C3.Tok) : groupS (f + 1) d (mkF (ck 1 ++ [(3, [59])]) g 0 ++ r) p sn = if cw 1 ∈ sn /\ manyW (cw 1) = false then .err (g 0) 7 else groupS f d r (cu 1 p) (cw 1 :: sn) := by kernel_rfl
theorem ce_2 (g : Nat -> Nat) (f d : Nat) (p : Prod) (sn : List (List Int)) (r : List C3.Tok) : groupS (f + 1) d (mkF (ck 2 ++ [(3, [59])]) g 0 ++ r) p sn = if cw 2 ∈ sn /\ manyW (cw 2) = false then .err (g 0) 7 else groupS f d r (cu 2 p) (cw 2 :: sn) := by kernel_rfl
theorem ce_3 (g : Nat -> Nat) (f d : Nat) (p : Prod) (sn : List (List Int)) (r : List C3.Tok) : groupS (f + 1) d (mkF (ck 3 ++ [(3, [59])]) g 0 ++ r) p sn = if cw 3 ∈ sn /\ manyW (cw 3) = false then .err (g 0) 7 else groupS f d r (cu 3 p) (cw 3 :: sn) := by kernel_rfl
theorem ce_4 (g : Nat -> Nat) (f d : Nat) (p : Prod) (sn : List (List Int)) (r : List C3.Tok) : groupS (f + 1) d (mkF (ck 4 ++ [(3, [59])]) g 0 ++ r) p sn = if cw 4 ∈ sn /\ manyW (cw 4) = false then .err (g 0) 7 else groupS f d r (cu 4 p) (cw 4 :: sn) := by kernel_rfl
theorem ce_5 (g : Nat -> Nat) (f d : Nat) (p : Prod) (sn : List (List Int)) (r : List C3.Tok) : groupS (f + 1) d (mkF (ck 5 ++ [(3, [59])]) g 0 ++ r) p sn = if cw 5 ∈ sn /\ manyW (cw 5) = false then .err (g 0) 7 else groupS f d r (cu 5 p) (cw 5 :: sn) := by kernel_rfl
theorem ce_6 (g : Nat -> Nat) (f d : Nat) (p : Prod) (sn : List (List Int)) (r : List C3.Tok) : groupS (f + 1) d (mkF (ck 6 ++ [(3, [59])]) g 0 ++ r) p sn = if cw 6 ∈ sn /\ manyW (cw 6) = false then .err (g 0) 7 else groupS f d r (cu 6 p) (cw 6 :: sn) := by kernel_rfl
theorem ce_7 (g : Nat -> Nat) (f d : Nat) (p : Prod) (sn : List (List Int)) (r : List C3.Tok) : groupS (f + 1) d (mkF (ck 7 ++ [(3, [59])]) g 0 ++ r) p sn = if cw 7 ∈ sn /\ manyW (cw 7) = false then .err (g 0) 7 else groupS f d r (cu 7 p) (cw 7 :: sn) := by kernel_rfl
theorem ce_8 (g : Nat -> Nat) (f d : Nat) (p : Prod) (sn : List (List Int)) (r : List C3.Tok) : groupS (f + 1) d (mkF (ck 8 ++ [(3, [59])]) g 0 ++ r) p sn = if cw 8 ∈ sn /\ manyW (cw 8) = false then .err (g 0) 7 else groupS f d r (cu 8 p) (cw 8 :: sn) := by kernel_rfl
theorem ce_9 (g : Nat -> Nat) (f d : Nat) (p : Prod) (sn : List (List Int)) (r : List C3.Tok) : groupS (f + 1) d (mkF (ck 9 ++ [(3, [59])]) g 0 ++ r) p sn = if cw 9 ∈ sn /\ manyW (cw 9) = false then .err (g 0) 7 else groupS f d r (cu 9 p) (cw 9 :: sn) := by kernel_rfl
theorem ce_10 (g : Nat -> Nat) (f d : Nat) (p : Prod) (sn : List (List Int)) (r : List C3.Tok) : groupS (f + 1) d (mkF (ck 10 ++ [(3, [59])]) g 0 ++ r) p sn = if cw 10 ∈ sn /\ manyW (cw 10) = false then .err (g 0) 7 else groupS f d r (cu 10 p) (cw 10 :: sn) := by kernel_rfl
theorem ce_11 (g : Nat -> Nat) (f d : Nat) (p : Prod) (sn : List (List Int)) (r : List C3.Tok) : groupS (f + 1) d (mkF (ck 11 ++ [(3, [59])]) g 0 ++ r) p sn = if cw 11 ∈ sn /\ manyW (cw 11) = false then .err (g 0) 7 else groupS f d r (cu 11 p) (cw 11 :: sn) := by kernel_rfl
theorem ce_12 (g : Nat -> Nat) (f d : Nat) (p : Prod) (sn : List (List Int)) (r : List C3.Tok) : groupS (f + 1) d (mkF (ck 12 ++ [(3, [59])]) g 0 ++ r) p sn = if cw 12 ∈ sn /\ manyW (cw 12) = false then .err (g 0) 7 else groupS f d r (cu 12 p) (cw 12 :: sn) := by kernel_rfl
theorem ce (j : Nat) (hj : j < 13) (g : Nat -> Nat) (f d : Nat) (p : Prod) (sn : List (List Int)) (r : List C3.Tok) (hn : cw j ∉ sn) : groupS (f + 1) d (mkF (ck j ++ [(3, [59])]) g 0 ++ r) p sn = groupS f d r (cu j p) (cw j :: sn) := by
 have hc : j = 0 \/ j = 1 \/ j = 2 \/ j = 3 \/ j = 4 \/ j = 5 \/ j = 6 \/ j = 7 \/ j = 8 \/ j = 9 \/ j = 10 \/ j = 11 \/ j = 12 := by omega
 clear hj
 rcases hc with rfl | rfl | rfl | rfl | rfl | rfl | rfl | rfl | rfl | rfl | rfl | rfl | rfl
 · rw [ce_0, if_neg (fun h => hn h.1)]
 · rw [ce_1, if_neg (fun h => hn h.1)]
 · rw [ce_2, if_neg (fun h => hn h.1)]
 · rw [ce_3, if_neg (fun h => hn h.1)]
 · rw [ce_4, if_neg (fun h => hn h.1)]
 · rw [ce_5, if_neg (fun h => hn h.1)]
 · rw [ce_6, if_neg (fun h => hn h.1)]
 · rw [ce_7, if_neg (fun h => hn h.1)]
 · rw [ce_8, if_neg (fun h => hn h.1)]
 · rw [ce_9, if_neg (fun h => hn h.1)]
 · rw [ce_10, if_neg (fun h => hn h.1)]
 · rw [ce_11, if_neg (fun h => hn h.1)]
 · rw [ce_12, if_neg (fun h => hn h.1)]
theorem cu_comm (i j : Nat) (hi : i < 13) (hj : j < 13) (p : Prod) : cu i (cu j p) = cu j (cu i p) := by
 have hc : i = 0 \/ i = 1 \/ i = 2 \/ i = 3 \/ i = 4 \/ i = 5 \/ i = 6 \/ i = 7 \/ i = 8 \/ i = 9 \/ i = 10 \/ i = 11 \/ i = 12 := by omega
 have hd : j = 0 \/ j = 1 \/ j = 2 \/ j = 3 \/ j = 4 \/ j = 5 \/ j = 6 \/ j = 7 \/ j = 8 \/ j = 9 \/ j = 10 \/ j = 11 \/ j = 12 := by omega
 clear hi hj
 rcases hc with rfl | rfl | rfl | rfl | rfl | rfl | rfl | rfl | rfl | rfl | rfl | rfl | rfl <;> rcases hd with rfl | rfl | rfl | rfl | rfl | rfl | rfl | rfl | rfl | rfl | rfl | rfl | rfl <;> rfl
end CO2

namespace CO3
open Go Go.Proofs VL D1 B10 B12 B13 BB5 BB6 BB10 BB14 C1 C2 C3 C4 C6 C11 C15 C20 C22 C28 C28b C28d C29 C30 C33 CR8 CR9 CO1 CO2
theorem lex_then {k : Int} {a c : List Int} {t : Int × List Int} {ts : List (Int × List Int)} (h : okTok (k, a) = true) (hc : LexTo c (t :: ts)) : LexTo (a ++ 32 :: c) ((k, a) :: t :: ts) := by
 intro f rest i
 obtain ⟨k1, e1, g1⟩ := hc f rest (i + a.length + 1)
 refine ⟨⟨k, i, a⟩ :: k1, by rw [List.map_cons, e1]; rfl, ?_⟩
 show lexF (f + ((t :: ts).length + 1)) ((a ++ 32 :: c) ++ rest) i = _
 rw [List.append_assoc]
 show lexF (f + (t :: ts).length + 1) (a ++ 32 :: (c ++ rest)) i = _
 rw [lex_tok h 32 (by decide)]
 obtain ⟨m, hm⟩ : ∃ m, f + (t :: ts).length = m + 1 := ⟨f + ts.length, rfl⟩
 rw [hm, lexF_blank, ← hm, g1, preL_app]
 rw [show (a ++ 32 :: c).length = a.length + 1 + c.length by simp; omega]
 rw [show i + (a.length + 1 + c.length) = i + a.length + 1 + c.length by omega]; rfl
def itT (x : Nat × Bool) : List Int := match x.2 with
 | true => [123] ++ txt (ck x.1) ++ [125]
 | false => txt (ck x.1)
def itK (x : Nat × Bool) : List (Int × List Int) := match x.2 with
 | true => [(3, [123])] ++ (ck x.1 ++ [(3, [59])]) ++ [(3, [125])]
 | false => ck x.1 ++ [(3, [59])]
theorem lex_it (x : Nat × Bool) (hx : x.1 < 13) : LexTo (itT x) (itK x) := by
 obtain ⟨j, b⟩ := x
 cases b with
 | true => exact ((lex_sign 123 (by decide)).app (lex_c j hx)).app (lex_sign 125 (by decide))
 | false => exact lex_c j hx
def seqT : List (Nat × Bool) -> List Int
 | [] => []
 | x :: r => itT x ++ seqT r
def seqK : List (Nat × Bool) -> List (Int × List Int)
 | [] => []
 | x :: r => itK x ++ seqK r
theorem lex_seq : ∀ (l : List (Nat × Bool)), (∀ x ∈ l, x.1 < 13) -> LexTo (seqT l) (seqK l)
 | [], _ => LexTo.nil
 | x :: r, h => (lex_it x (h x (.head _))).app (lex_seq r fun y hy => h y (.tail _ hy))
theorem mkF_app (a b : List (Int × List Int)) (g : Nat -> Nat) (n : Nat) : mkF (a ++ b) g n = mkF a g n ++ mkF b g (n + a.length) := by
 induction a generalizing n with
 | nil => rfl
 | cons t r ih =>
   show (⟨t.1, g n, t.2⟩ : C3.Tok) :: mkF (r ++ b) g (n + 1) = _
   rw [ih, show n + (t :: r).length = n + 1 + r.length by rw [List.length_cons]; omega]; rfl
theorem mkF_shift (l : List (Int × List Int)) (g : Nat -> Nat) (n : Nat) : mkF l g n = mkF l (fun k => g (n + k)) 0 := mkF_congr l fun k => by simp
theorem mkF_len (l : List (Int × List Int)) (g : Nat -> Nat) (n : Nat) : (mkF l g n).length = l.length := by
 induction l generalizing n with
 | nil => rfl
 | cons t r ih => simp [mkF, ih]
theorem it_eff (x : Nat × Bool) (hx : x.1 < 13) (g : Nat -> Nat) (f d : Nat) (p : Prod) (sn : List (List Int)) (r : List C3.Tok) (hd : d < 32) (hf : 2 <= f) (hn : cw x.1 ∉ sn) :
 groupS (f + 1) d (mkF (itK x) g 0 ++ r) p sn = groupS f d r (cu x.1 p) (cw x.1 :: sn) := by
 obtain ⟨j, b⟩ := x
 cases b with
 | false => exact ce j hx g f d p sn r hn
 | true =>
   show groupS (f + 1) d (mkF ([(3, [123])] ++ (ck j ++ [(3, [59])]) ++ [(3, [125])]) g 0 ++ r) p sn = _
   rw [mkF_app, mkF_app, mkF_shift (ck j ++ [(3, [59])])]
   generalize (fun k => g (0 + [((3 : Int), ([123] : List Int))].length + k)) = g2
   generalize 0 + ([((3 : Int), ([123] : List Int))] ++ (ck j ++ [(3, [59])])).length = m
   show groupS (f + 1) d (⟨3, g 0, [123]⟩ :: (mkF (ck j ++ [(3, [59])]) g2 0 ++ [⟨3, g m, [125]⟩]) ++ r) p sn = _
   rw [List.cons_append, List.append_assoc]
   have hs : groupS (f + 1) d (⟨3, g 0, [123]⟩ :: (mkF (ck j ++ [(3, [59])]) g2 0 ++ ([⟨3, g m, [125]⟩] ++ r))) p sn = if 32 <= d then .err (g 0) 8 else (groupS f (d + 1) (mkF (ck j ++ [(3, [59])]) g2 0 ++ ([⟨3, g m, [125]⟩] ++ r)) p sn).bind fun q r => groupS f d r q.1 q.2 := rfl
   rw [hs, if_neg (by omega)]
   obtain ⟨f0, rfl⟩ : ∃ f0, f = f0 + 2 := ⟨f - 2, by omega⟩
   rw [ce j hx g2 (f0 + 1) (d + 1) p sn _ hn]
   rfl
theorem seq_eff : ∀ (l : List (Nat × Bool)) (g : Nat -> Nat) (f d : Nat) (p : Prod) (sn : List (List Int)) (r : List C3.Tok), (∀ x ∈ l, x.1 < 13) -> d < 32 -> 2 <= f -> (l.map fun x => cw x.1).Nodup -> (∀ x ∈ l, cw x.1 ∉ sn) ->
 groupS (f + l.length) d (mkF (seqK l) g 0 ++ r) p sn = groupS f d r (l.foldl (fun p x => cu x.1 p) p) ((l.map fun x => cw x.1).reverse ++ sn)
 | [], g, f, d, p, sn, r, _, _, _, _, _ => rfl
 | x :: l, g, f, d, p, sn, r, h, hd, hf, hnd, hn => by
   show groupS (f + (l.length + 1)) d (mkF (itK x ++ seqK l) g 0 ++ r) p sn = _
   rw [mkF_app, mkF_shift (seqK l), List.append_assoc, ← Nat.add_assoc, it_eff x (h x (.head _)) g (f + l.length) d p sn _ hd (by omega) (hn x (.head _))]
   rw [List.map_cons, List.nodup_cons] at hnd
   rw [seq_eff l _ f d (cu x.1 p) (cw x.1 :: sn) r (fun y hy => h y (.tail _ hy)) hd hf hnd.2 (fun y hy hm => by
    rcases List.mem_cons.1 hm with e | e
    · exact hnd.1 (by rw [← e]; exact List.mem_map.2 ⟨y, hy, rfl⟩)
    · exact hn y (.tail _ hy) e)]
   rw [List.map_cons, List.reverse_cons, List.append_assoc]; rfl
theorem itK_len : ∀ j, j < 13 -> (itK (j, true)).length <= (itT (j, true)).length /\ (itK (j, false)).length <= (itT (j, false)).length /\ 1 <= (itK (j, true)).length /\ 1 <= (itK (j, false)).length /\ (itT (j, true)).length <= 100 /\ (itT (j, false)).length <= 100 := by decide +kernel
theorem seqK_len : ∀ (l : List (Nat × Bool)), (∀ x ∈ l, x.1 < 13) -> (seqK l).length <= (seqT l).length /\ l.length <= (seqK l).length /\ (seqT l).length <= 100 * l.length
 | [], _ => ⟨Nat.le_refl _, Nat.le_refl _, Nat.le_refl _⟩
 | x :: l, h => by
   have h1 := itK_len x.1 (h x (.head _))
   have h2 := seqK_len l fun y hy => h y (.tail _ hy)
   simp only [seqK, seqT, List.length_append, List.length_cons]
   obtain ⟨j, b⟩ := x
   cases b <;> (simp only at h1; omega)
def hdT : List Int := w_product ++ 32 :: ([120] ++ 32 :: [123])
def hdK : List (Int × List Int) := [(1, w_product), (1, [120]), (3, [123])]
theorem lex_hd : LexTo hdT hdK := lex_then (by decide) (lex_then (by decide) (lex_sign 123 (by decide)))
def ordT (l : List (Nat × Bool)) : List Int := hdT ++ seqT l ++ [125]
theorem lex_ord (l : List (Nat × Bool)) (h : ∀ x ∈ l, x.1 < 13) (hl : l.length <= 13) : ∃ g, lexS (ordT l) = .ok (mkF (hdK ++ seqK l ++ [(3, [125])]) g 0 ++ [⟨0, (ordT l).length, []⟩]) := by
 have hL := (lex_hd.app (lex_seq l h)).app (lex_sign 125 (by decide))
 have hk := seqK_len l h
 have hlen : (ordT l).length = 11 + (seqT l).length + 1 := by unfold ordT; simp [hdT, w_product]; omega
 have hklen : (hdK ++ seqK l ++ [((3 : Int), ([125] : List Int))]).length = 3 + (seqK l).length + 1 := by simp [hdK]; omega
 obtain ⟨f, hf⟩ : ∃ f, (ordT l).length + 1 = f + 1 + (hdK ++ seqK l ++ [((3 : Int), ([125] : List Int))]).length := ⟨(ordT l).length - (hdK ++ seqK l ++ [((3 : Int), ([125] : List Int))]).length, by omega⟩
 obtain ⟨toks, e, g1⟩ := hL (f + 1) [] 0
 obtain ⟨g, hg⟩ := of_map e
 refine ⟨g, ?_⟩
 have g1 : lexF ((ordT l).length + 1) (ordT l) 0 = preL toks (lexF (f + 1) [] (0 + (ordT l).length)) := by
  rw [hf]; rw [List.append_nil] at g1; exact g1
 unfold lexS
 rw [if_neg (by omega), g1, hg, Nat.zero_add]
 rfl
def ordP0 : Prod := { prod0 with name := toBA [120], over := 1, roll := 1 }
theorem text_ord (l : List (Nat × Bool)) (h : ∀ x ∈ l, x.1 < 13) (hnd : (l.map fun x => cw x.1).Nodup) (g : Nat -> Nat) (n : Nat) :
 textP (mkF (hdK ++ seqK l ++ [(3, [125])]) g 0 ++ [(⟨0, n, []⟩ : C3.Tok)]) = .ok (l.foldl (fun p x => cu x.1 p) ordP0, (l.map fun x => cw x.1).reverse) [(⟨0, n, []⟩ : C3.Tok)] := by
 rw [mkF_app, mkF_app, mkF_shift (seqK l)]
 generalize (fun k => g (0 + hdK.length + k)) = g2
 generalize 0 + (hdK ++ seqK l).length = m
 rw [List.append_assoc, List.append_assoc]
 have hk := seqK_len l h
 rw [textC_eq]
 have hs : textC (mkF hdK g 0 ++ (mkF (seqK l) g2 0 ++ (mkF [(3, [125])] g m ++ [(⟨0, n, []⟩ : C3.Tok)]))) = (groupS ((mkF (seqK l) g2 0 ++ (mkF [(3, [125])] g m ++ [(⟨0, n, []⟩ : C3.Tok)])).length + 1) 1 (mkF (seqK l) g2 0 ++ (mkF [(3, [125])] g m ++ [(⟨0, n, []⟩ : C3.Tok)])) ordP0 []).bind fun q l => (wantS 0 [] l).bind fun _ l => .ok q l := rfl
 rw [hs]
 have hl : (mkF (seqK l) g2 0 ++ (mkF [((3 : Int), ([125] : List Int))] g m ++ [(⟨0, n, []⟩ : C3.Tok)])).length = (seqK l).length + 2 := by simp [mkF_len]
 rw [hl]
 obtain ⟨f, hf⟩ : ∃ f, (seqK l).length + 2 + 1 = f + 2 + l.length := ⟨(seqK l).length + 1 - l.length, by omega⟩
 rw [hf, seq_eff l g2 (f + 2) 1 ordP0 [] _ h (by decide) (by omega) hnd (fun _ _ h => by cases h), List.append_nil]
 rfl
theorem cuP {l l' : List Nat} (h : l.Perm l') : (∀ j ∈ l, j < 13) -> ∀ p, l.foldl (fun p j => cu j p) p = l'.foldl (fun p j => cu j p) p := by
 induction h with
 | nil => intro _ p; rfl
 | cons x h ih => intro hl p; exact ih (fun j hj => hl j (.tail _ hj)) (cu x p)
 | swap x y l =>
   intro hl p
   show l.foldl _ (cu x (cu y p)) = l.foldl _ (cu y (cu x p))
   rw [cu_comm x y (hl x (.tail _ (.head _))) (hl y (.head _))]
 | trans h1 h2 ih1 ih2 => intro hl p; rw [ih1 hl, ih2 (fun j hj => hl j (h1.mem_iff.2 hj))]
theorem foldl_fst (l : List (Nat × Bool)) (p : Prod) : l.foldl (fun p x => cu x.1 p) p = (l.map fun x => x.1).foldl (fun p j => cu j p) p := by
 induction l generalizing p with
 | nil => rfl
 | cons x l ih => exact ih (cu x.1 p)
def wantP : Prod := { prod0 with name := ⟨#[120]⟩, count := 2, rnd := 3, kind := 2, every := 3, times := 8, grace := 2, rate := 65000000, pen := 90000000, over := 2, o1 := 3, o2 := 1, o3 := 4, o4 := 2, roll := 3, cap := 500, late := [⟨5, 100⟩] }
theorem want_fold : (List.range 13).foldl (fun p j => cu j p) ordP0 = wantP := eqP_eq (by decide +kernel)
theorem want_ok : checkP wantP := by
 refine ⟨⟨⟨(nameC_iff _).1 ?_, by decide, by decide, by decide⟩, by unfold shape2; decide, by unfold shape3; decide⟩, ⟨by decide, by decide, by decide, trivial⟩, ⟨by unfold orderP; decide, by decide⟩, ⟨by decide, by decide, by decide, ⟨by decide, by decide, ?_, trivial⟩⟩, ⟨⟨by decide, trivial⟩, by decide, by decide⟩⟩
 · decide
 · intro q h; cases h
def T1 : List Int := [112, 114, 111, 100, 117, 99, 116, 32, 120, 32, 123, 32, 99, 111, 117, 110, 116, 32, 102, 105, 120, 101, 100, 59, 32, 114, 111, 117, 110, 100, 32, 100, 111, 119, 110, 59, 32, 107, 105, 110, 100, 32, 101, 113, 117, 97, 108, 59, 32, 101, 118, 101, 114, 121, 32, 51, 59, 32, 116, 105, 109, 101, 115, 32, 56, 59, 32, 103, 114, 97, 99, 101, 32, 50, 59, 32, 114, 97, 116, 101, 32, 54, 46, 53, 37, 59, 32, 112, 101, 110, 97, 108, 116, 121, 32, 57, 37, 59, 32, 111, 118, 101, 114, 32, 112, 114, 101, 112, 97, 121, 59, 32, 111, 114, 100, 101, 114, 32, 105, 110, 116, 101, 114, 101, 115, 116, 32, 102, 101, 101, 115, 32, 112, 114, 105, 110, 99, 105, 112, 97, 108, 32, 112, 101, 110, 97, 108, 116, 121, 59, 32, 114, 111, 108, 108, 32, 119, 105, 116, 104, 105, 110, 59, 32, 99, 97, 112, 32, 53, 46, 48, 48, 59, 32, 108, 97, 116, 101, 32, 53, 32, 49, 46, 48, 48, 59, 32, 125]
theorem parse_T1 : parseS T1 = (wantP, 0, 0) := is_ok (by kernel_rfl) want_ok
theorem parse_ord (l : List (Nat × Bool)) (hp : (l.map fun x => x.1).Perm (List.range 13)) : parseS (ordT l) = (wantP, 0, 0) := by
 have hm : ∀ j, j ∈ (l.map fun x => x.1) ↔ j < 13 := fun j => by rw [hp.mem_iff, List.mem_range]
 have h : ∀ x ∈ l, x.1 < 13 := fun x hx => (hm x.1).1 (List.mem_map.2 ⟨x, hx, rfl⟩)
 have hlen : l.length = 13 := by have := hp.length_eq; simpa using this
 have hw : (l.map fun x => cw x.1) = (l.map fun x => x.1).map cw := by rw [List.map_map]; rfl
 have hnd : (l.map fun x => cw x.1).Nodup := by
  rw [hw]
  exact (hp.map cw).nodup_iff.2 (by decide)
 obtain ⟨g, hg⟩ := lex_ord l h (by omega)
 have ht := text_ord l h hnd g (ordT l).length
 rw [foldl_fst, cuP hp (fun j hj => (hm j).1 hj), want_fold] at ht
 have hin : ∀ j, j < 13 -> cw j ∈ (l.map fun x => cw x.1).reverse := fun j hj => by
  rw [List.mem_reverse, hw]
  exact List.mem_map.2 ⟨j, (hm j).2 hj, rfl⟩
 exact parse_yes hg ht ⟨hin 0 (by decide), hin 1 (by decide), hin 2 (by decide), hin 3 (by decide), hin 4 (by decide), hin 6 (by decide), hin 9 (by decide)⟩ want_ok
end CO3

namespace CO4
open Go Go.Proofs VL D1 B10 B12 B13 BB5 BB6 BB10 BB14 C1 C2 C3 C4 C6 C11 C15 C20 C22 C28 C28b C28d C29 C30 C33 CR7 CR8 CR9 CO1 CO2 CO3
theorem mod13 (a : Int) : ∃ w : Nat, w < 13 /\ IntKind.i64.wrap ((IntKind.u64.wrap a).tmod (IntKind.u64.wrap ((13 : Nat) : Int))) = w := by
 have h0 : 0 <= IntKind.u64.wrap a := by rw [IntKind.wrap_u64]; omega
 rw [show IntKind.u64.wrap ((13 : Nat) : Int) = 13 by decide]
 have h1 : (IntKind.u64.wrap a).tmod 13 = IntKind.u64.wrap a % 13 := Int.tmod_eq_emod_of_nonneg h0
 refine ⟨(IntKind.u64.wrap a % 13).toNat, by omega, ?_⟩
 rw [h1, wrap64 (by omega) (by omega)]; omega
def sV (j : Nat) : V := .str (toBA (txt (ck j)))
def bLL (l : List Bool) : List V := l.map V.bool
theorem str_leN {a b : Nat} (h : a + b < 1000000) : (((a + b : Nat) : Int) <= IntKind.i64.max) := Int.le_trans (b := 1000000) (by omega) (by decide)
theorem szA {a b : ByteArray} {n m : Nat} (ha : a.size <= n) (hb : b.size <= m) : (a ++ b).size <= n + m := by rw [ByteArray.size_append]; omega
theorem szL {a b : ByteArray} {n m : Nat} (ha : a.size <= n) (hb : b.size <= m) (h : n + m < 1000000) : (((a.size + b.size : Nat) : Int) <= IntKind.i64.max) := str_leN (by omega)
def fl (gs : List Bool) (i : Nat) : Bool := (gs[i]?).getD false
def its (p : List Nat) (gs : List Bool) (n : Nat) : List (Nat × Bool) := (List.range n).map fun m => (p.getD m 0, fl gs m)
def preT (p : List Nat) (gs : List Bool) (n : Nat) : List Int := hdT ++ seqT (its p gs n)
theorem seqT_snoc (l : List (Nat × Bool)) (x : Nat × Bool) : seqT (l ++ [x]) = seqT l ++ itT x := by
 induction l with
 | nil => simp [seqT]
 | cons y l ih => simp only [List.cons_append, seqT, ih, List.append_assoc]
theorem preT_succ (p : List Nat) (gs : List Bool) (n : Nat) : preT p gs (n + 1) = preT p gs n ++ itT (p.getD n 0, fl gs n) := by
 unfold preT its
 rw [List.range_succ, List.map_append, List.map_cons, List.map_nil, seqT_snoc, List.append_assoc]
theorem its_fst (p : List Nat) (gs : List Bool) (h : p.length = 13) : (its p gs 13).map (fun x => x.1) = p := by
 unfold its
 rw [List.map_map]
 refine List.ext_getElem (by simp [h]) fun i h1 h2 => ?_
 simp at h1 ⊢
 rw [List.getElem?_eq_getElem h2]; rfl
theorem preT_len (p : List Nat) (gs : List Bool) (n : Nat) (hn : n <= 13) (hp : ∀ m, p.getD m 0 < 13) : (preT p gs n).length <= 1400 := by
 have := (seqK_len (its p gs n) (fun x hx => by
  obtain ⟨m, _, rfl⟩ := List.mem_map.1 hx
  exact hp m)).2.2
 have h2 : (its p gs n).length = n := by simp [its]
 unfold preT
 rw [List.length_append]
 have : hdT.length = 11 := by decide
 omega
theorem pre_no (p : List Nat) (gs : List Bool) (n : Nat) (h : fl gs n = false) : toBA (preT p gs n) ++ toBA (txt (ck (p.getD n 0))) = toBA (preT p gs (n + 1)) := by
 rw [toBA_app, preT_succ, h]; rfl
theorem pre_yes (p : List Nat) (gs : List Bool) (n : Nat) (h : fl gs n = true) : toBA (preT p gs n) ++ ⟨#[123]⟩ ++ toBA (txt (ck (p.getD n 0))) ++ ⟨#[125]⟩ = toBA (preT p gs (n + 1)) := by
 rw [show (⟨#[123]⟩ : ByteArray) = toBA [123] from rfl, show (⟨#[125]⟩ : ByteArray) = toBA [125] from rfl, toBA_app, toBA_app, toBA_app, preT_succ, h]
 congr 1
 simp [itT, List.append_assoc]
theorem txt_b : ∀ j, j < 13 -> ∀ x ∈ txt (ck j), 0 <= x /\ x < 256 := by decide +kernel
theorem pre_b (p : List Nat) (gs : List Bool) (n : Nat) (hp : ∀ m, p.getD m 0 < 13) : ∀ x ∈ preT p gs n, 0 <= x /\ x < 256 := by
 induction n with
 | zero => show ∀ x ∈ hdT ++ [], 0 <= x /\ x < 256; decide
 | succ n ih =>
   intro x hx
   rw [preT_succ] at hx
   rcases List.mem_append.1 hx with hx | hx
   · exact ih x hx
   · have ht := txt_b _ (hp n)
     unfold itT at hx
     cases hf : fl gs n with
     | true =>
       rw [hf] at hx
       simp only [List.mem_append, List.mem_singleton] at hx
       rcases hx with (hx | hx) | hx
       · omega
       · exact ht x hx
       · omega
     | false => rw [hf] at hx; exact ht x hx
set_option maxHeartbeats 4000000 in
theorem g_order (turns : List Int) (groups : List Bool) : VCall Tryz.prog 5 [.sl (iL turns) .no, .sl (bLL groups) .no] [] fun out _ => out = .ret (.bool true) := by
 obtain ⟨W, hW⟩ : ∃ W, W = wantP := ⟨_, rfl⟩
 obtain ⟨e0, he0⟩ : ∃ e : Int, e = 0 := ⟨_, rfl⟩
 have hp1 : parseS T1 = (W, e0, e0) := by rw [hW, he0]; exact parse_T1
 let S : Nat × List Nat -> St := fun x => ⟨(.sl (iL turns) .no :: .sl (bLL groups) .no :: .undef :: .undef :: .bool false :: .slo 0 1 0 13 13 :: .ptr 1 0 :: .undef :: .int .i64 e0 :: .int .i64 (x.1 : Nat) :: .undef :: .undef :: .undef :: .undef :: .undef :: .undef :: .undef :: .undef :: .undef :: .undef :: .undef :: .undef :: .undef :: .undef :: .undef :: .undef :: .undef :: .undef :: .undef :: .undef :: .undef :: .undef :: .undef :: .undef :: .undef :: .undef :: .undef :: .undef :: .undef :: .undef :: .undef :: .undef :: .undef :: .undef :: .undef :: .undef :: .undef :: .undef :: .undef :: .undef :: .undef :: .undef :: .undef :: .undef :: .undef :: .undef :: .undef :: .undef :: .undef :: .undef :: .undef :: .undef :: .undef :: .undef :: .undef :: .undef :: .undef :: .undef :: .undef :: .undef :: .undef :: .undef :: .undef :: .undef :: .undef :: .undef :: .undef :: .undef :: .undef :: .undef :: .undef :: .undef :: .undef :: .undef :: .undef :: .undef :: .undef :: .undef :: .undef :: .undef :: .undef :: .undef :: .undef :: .undef :: .undef :: .undef :: .undef :: .undef :: .undef :: .undef :: .undef :: .undef :: .undef :: .undef :: .undef :: .undef :: .undef :: .undef :: .undef :: .undef :: .undef :: .undef :: .undef :: .undef :: .undef :: .undef :: .undef :: []), [.buf false 1 (x.2.map sV), .cells true 28 (cellsP W)], 0, []⟩
 refine call_fun [16] 0 Tryz.func5 (by rfl) (by rfl) ?_
 conv=>whnf
 (repeat' first | (refine step_go [16] ?_;conv=>whnf) | (refine two ?_ ?_<;>intro g<;>(try simp only[bsx]at g)<;>(conv=>whnf)) | (refine And.intro rfl ?_;conv=>whnf) | fail)
 refine c_rParse _ (by decide +kernel) _ ?_
 rw [show sB _ = T1 from by decide +kernel, hp1]
 conv=>whnf
 (repeat' first | (refine step_go [16] ?_;conv=>whnf) | (refine two ?_ ?_<;>intro g<;>(try simp only[bsx]at g)<;>(conv=>whnf)) | (refine And.intro rfl ?_;conv=>whnf) | fail)
 refine VLoop.enter (s' := S (0, List.range 13)) (weak_of ?_ (.cons (.eq (congrArg (fun l => VObj.buf false 1 l none) (by kernel_rfl))) (.cons (.eq rfl) .nil)) rfl rfl rfl)
  (VLoop.indW S (fun x => 40 - x.1) (fun x => x.1 <= turns.length /\ x.1 <= 40 /\ x.2.Perm (List.range 13)) ?_ (0, List.range 13) ⟨Nat.zero_le _, Nat.zero_le _, List.Perm.refl _⟩)
 · (repeat' first | exact VWs.nil | refine VWs.cons VW.undef ?_ | refine VWs.cons (VW.eq rfl) ?_)
 rintro ⟨i, p⟩ ⟨hi, hi40, hp⟩ ih
 simp only at hi hi40 hp
 have hpl : p.length = 13 := by have := hp.length_eq; simpa using this
 have hil : (iL turns).length = turns.length := by simp [iL]
 dsimp only [S]
 refine loop_round [16] ?_; conv=>whnf
 (repeat' first | (refine step_go [16] ?_;conv=>whnf) | (refine two ?_ ?_<;>intro g<;>(try simp only[bsx]at g)<;>(conv=>whnf)) | (refine And.intro rfl ?_;conv=>whnf) | fail)
 · skip
   have hit : i < turns.length := by omega
   have hget : (iL turns)[(i : Int).toNat]? = some (.int .i64 turns[i]) := by rw [Int.toNat_natCast]; simp [iL, List.getElem?_eq_getElem hit]
   obtain ⟨k, hk, hmod⟩ := mod13 turns[i]
   have him : i % 13 < 13 := Nat.mod_lt _ (by decide)
   have htm : Int.tmod (i : Int) ((13 : Nat) : Int) = ((i % 13 : Nat) : Int) := by rw [Int.tmod_eq_emod_of_nonneg (by omega)]; exact (Int.natCast_emod i 13).symm
   (repeat' first | (refine step_go [16] ?_;conv=>whnf) | (refine two ?_ ?_<;>intro g<;>(try simp only[bsx]at g)<;>(conv=>whnf)) | (refine And.intro rfl ?_;conv=>whnf) | (refine dr_go (by decide +kernel) ?_;conv=>whnf) | (refine ⟨by omega, _, hget, rfl, ?_⟩;conv=>whnf) | (refine ⟨by decide, ?_⟩;conv=>whnf) | fail)
   rw [hmod]
   have hka : k < p.length := by omega
   have hgk : (p.map sV)[0 + (k : Int).toNat]? = some (sV p[k]) := by rw [Nat.zero_add, Int.toNat_natCast]; simp [hka]
   have hia : i % 13 < p.length := by omega
   have hgi : (p.map sV)[0 + ((i % 13 : Nat) : Int).toNat]? = some (sV p[i % 13]) := by rw [Nat.zero_add, Int.toNat_natCast]; simp [hia]
   refine ⟨by omega, by omega, ?_⟩
   conv=>whnf
   refine ⟨_, hgk, ?_⟩
   conv=>whnf
   (repeat' first | (refine step_go [16] ?_;conv=>whnf) | (refine two ?_ ?_<;>intro g<;>(try simp only[bsx]at g)<;>(conv=>whnf)) | (refine And.intro rfl ?_;conv=>whnf) | (refine dr_go (by decide +kernel) ?_;conv=>whnf) | (refine ⟨by decide, ?_⟩;conv=>whnf) | fail)
   rw [htm]
   refine ⟨by omega, by omega, ?_⟩
   conv=>whnf
   refine ⟨_, hgi, ?_⟩
   conv=>whnf
   (repeat' first | (refine step_go [16] ?_;conv=>whnf) | (refine two ?_ ?_<;>intro g<;>(try simp only[bsx]at g)<;>(conv=>whnf)) | (refine And.intro rfl ?_;conv=>whnf) | (refine dr_go (by decide +kernel) ?_;conv=>whnf) | (refine ⟨by decide, ?_⟩;conv=>whnf) | fail)
   refine ⟨by omega, by omega, ?_⟩
   conv=>whnf
   refine ⟨_, hgi, ?_⟩
   conv=>whnf
   (repeat' first | (refine step_go [16] ?_;conv=>whnf) | (refine two ?_ ?_<;>intro g<;>(try simp only[bsx]at g)<;>(conv=>whnf)) | (refine And.intro rfl ?_;conv=>whnf) | (refine dr_go (by decide +kernel) ?_;conv=>whnf) | (refine ⟨by decide, ?_⟩;conv=>whnf) | fail)
   have set1 : (p.map sV).set (0 + ((i % 13 : Nat) : Int).toNat) ((sV p[i % 13]).remake [.str (toBA (txt (ck p[k])))]) = (p.set (i % 13) p[k]).map sV := by
    rw [List.map_set, Nat.zero_add, Int.toNat_natCast]; rfl
   rw [set1]
   have hk2 : k < (p.set (i % 13) p[k]).length := by rw [List.length_set]; omega
   have hgk2 : ((p.set (i % 13) p[k]).map sV)[0 + (k : Int).toNat]? = some (sV (p.set (i % 13) p[k])[k]) := by rw [Nat.zero_add, Int.toNat_natCast, List.getElem?_map, List.getElem?_eq_getElem hk2]; rfl
   refine ⟨by omega, by omega, ?_⟩
   conv=>whnf
   refine ⟨_, hgk2, ?_⟩
   conv=>whnf
   have set2 : ((p.set (i % 13) p[k]).map sV).set (0 + (k : Int).toNat) ((sV (p.set (i % 13) p[k])[k]).remake [.str (toBA (txt (ck p[i % 13])))]) = ((p.set (i % 13) p[k]).set k p[i % 13]).map sV := by
    rw [List.map_set (a := p[i % 13]), Nat.zero_add, Int.toNat_natCast]; rfl
   have hpp : ((p.set (i % 13) p[k]).set k p[i % 13]).Perm (List.range 13) := (List.set_set_perm hia hka).trans hp
   have wi : IntKind.i64.wrap ((i : Int) + 1) = ((i + 1 : Nat) : Int) := by rw [wrap64 (by omega) (by omega)]; omega
   (repeat' first | (refine step_go [16] ?_;conv=>whnf) | (refine two ?_ ?_<;>intro g<;>(try simp only[bsx]at g)<;>(conv=>whnf)) | (refine And.intro rfl ?_;conv=>whnf) | (refine dr_go (by decide +kernel) ?_;conv=>whnf) | fail)
   refine ⟨S (i + 1, (p.set (i % 13) p[k]).set k p[i % 13]), weak_of ?_ (.cons (.eq (congrArg (fun l => VObj.buf false 1 l none) set2)) (.cons (.eq rfl) .nil)) rfl rfl rfl, ih (i + 1, (p.set (i % 13) p[k]).set k p[i % 13]) ⟨by simp only; omega, by simp only; omega, hpp⟩ (by simp only; omega)⟩
   rw [wi]
   (repeat' first | exact VWs.nil | refine VWs.cons VW.undef ?_ | refine VWs.cons (VW.eq rfl) ?_)
 all_goals
  clear ih
  refine ⟨S (i, p), weak_of (by repeat' first | exact VWs.nil | refine VWs.cons VW.undef ?_ | refine VWs.cons (VW.eq rfl) ?_) (by repeat' first | exact OWs.nil | refine OWs.cons (OW.eq rfl) ?_ | refine OWs.cons OW.moved ?_) rfl rfl rfl, ?_⟩
  dsimp only [S]
  conv=>whnf
  (repeat' first | (refine step_go [16] ?_;conv=>whnf) | (refine two ?_ ?_<;>intro g<;>(try simp only[bsx]at g)<;>(conv=>whnf)) | (refine And.intro rfl ?_;conv=>whnf) | fail)
  have hpj : ∀ m, p.getD m 0 < 13 := fun m => by
   rw [List.getD_eq_getElem?_getD]
   cases hm : p[m]? with
   | none => decide
   | some j => exact List.mem_range.1 (hp.mem_iff.1 (List.mem_of_getElem? hm))
  let S2 : Nat -> St := fun i => ⟨(.sl (iL turns) .no :: .sl (bLL groups) .no :: .undef :: .undef :: .bool false :: .slo 0 1 0 13 13 :: .ptr 1 0 :: .undef :: .int .i64 e0 :: .undef :: .undef :: .str (toBA (preT p groups i)) :: .int .i64 (i : Nat) :: .undef :: .undef :: .undef :: .undef :: .undef :: .undef :: .undef :: .undef :: .undef :: .undef :: .undef :: .undef :: .undef :: .undef :: .undef :: .undef :: .undef :: .undef :: .undef :: .undef :: .undef :: .undef :: .undef :: .undef :: .undef :: .undef :: .undef :: .undef :: .undef :: .undef :: .undef :: .undef :: .undef :: .undef :: .undef :: .undef :: .undef :: .undef :: .undef :: .undef :: .undef :: .undef :: .undef :: .undef :: .undef :: .undef :: .undef :: .undef :: .undef :: .undef :: .undef :: .undef :: .undef :: .undef :: .undef :: .undef :: .undef :: .undef :: .undef :: .undef :: .undef :: .undef :: .undef :: .undef :: .undef :: .undef :: .undef :: .undef :: .undef :: .undef :: .undef :: .undef :: .undef :: .undef :: .undef :: .undef :: .undef :: .undef :: .undef :: .undef :: .undef :: .undef :: .undef :: .undef :: .undef :: .undef :: .undef :: .undef :: .undef :: .undef :: .undef :: .undef :: .undef :: .undef :: .undef :: .undef :: .undef :: .undef :: .undef :: .undef :: .undef :: .undef :: .undef :: .undef :: []), [.buf false 1 (p.map sV), .cells true 28 (cellsP W)], 0, []⟩
  refine VLoop.enter (s' := S2 0) (weak_of ?_ (.cons (.eq rfl) (.cons (.eq rfl) .nil)) rfl rfl rfl) (VLoop.indW S2 (fun i => 13 - i) (fun i => i <= 13) ?_ 0 (Nat.zero_le _))
  · (repeat' first | exact VWs.nil | refine VWs.cons VW.undef ?_ | refine VWs.cons (VW.eq rfl) ?_)
  clear g hil
  intro n hn ih
  have hbl : (bLL groups).length = groups.length := by simp [bLL]
  have hpre := preT_len p groups n hn hpj
  have hsz : (toBA (preT p groups n)).size <= 1400 := by rw [toBA_size]; exact hpre
  have wi : n < 13 -> IntKind.i64.wrap ((n : Int) + 1) = ((n + 1 : Nat) : Int) := fun h => by rw [wrap64 (by omega) (by omega)]; omega
  have hgp : n < 13 -> (p.map sV)[0 + (n : Int).toNat]? = some (sV (p.getD n 0)) := fun h => by
   rw [Nat.zero_add, Int.toNat_natCast, List.getElem?_map, List.getD_eq_getElem?_getD, List.getElem?_eq_getElem (by omega)]; rfl
  have htj : (toBA (txt (ck (p.getD n 0)))).size <= 100 := by
   rw [toBA_size]
   exact (itK_len _ (hpj n)).2.2.2.2.2
  dsimp only [S2]
  refine loop_round [16] ?_; conv=>whnf
  (repeat' first | (refine step_go [16] ?_;conv=>whnf) | (refine two ?_ ?_<;>intro g<;>(try simp only[bsx]at g)<;>(conv=>whnf)) | (refine And.intro rfl ?_;conv=>whnf) | fail)
  · have hng : n < groups.length := by omega
    have wi := wi (by omega)
    have hgp := hgp (by omega)
    have hgetb : (bLL groups)[(n : Int).toNat]? = some (.bool groups[n]) := by rw [Int.toNat_natCast]; simp [bLL, List.getElem?_eq_getElem hng]
    have hflg : fl groups n = groups[n] := by unfold fl; rw [List.getElem?_eq_getElem hng]; rfl
    (repeat' first | (refine step_go [16] ?_;conv=>whnf) | (refine two ?_ ?_<;>intro g<;>(try simp only[bsx]at g)<;>(conv=>whnf)) | (refine And.intro rfl ?_;conv=>whnf) | (refine ⟨by omega, _, hgetb, rfl, ?_⟩;conv=>whnf) | fail)
    · have hfl : fl groups n = true := by rw [hflg]; assumption
      refine ⟨szL (n := 1400) (m := 1) hsz (by decide) (by decide), ?_⟩
      conv=>whnf
      (repeat' first | (refine step_go [16] ?_;conv=>whnf) | (refine two ?_ ?_<;>intro g<;>(try simp only[bsx]at g)<;>(conv=>whnf)) | (refine And.intro rfl ?_;conv=>whnf) | fail)
      refine ⟨by omega, by omega, ?_⟩
      conv=>whnf
      refine ⟨_, hgp, ?_⟩
      conv=>whnf
      (repeat' first | (refine step_go [16] ?_;conv=>whnf) | (refine two ?_ ?_<;>intro g<;>(try simp only[bsx]at g)<;>(conv=>whnf)) | (refine And.intro rfl ?_;conv=>whnf) | fail)
      refine ⟨szL (n := 1401) (m := 100) (szA (n := 1400) (m := 1) hsz (by decide)) htj (by decide), ?_⟩
      conv=>whnf
      (repeat' first | (refine step_go [16] ?_;conv=>whnf) | (refine two ?_ ?_<;>intro g<;>(try simp only[bsx]at g)<;>(conv=>whnf)) | (refine And.intro rfl ?_;conv=>whnf) | fail)
      refine ⟨szL (n := 1501) (m := 1) (szA (n := 1401) (m := 100) (szA (n := 1400) (m := 1) hsz (by decide)) htj) (by decide) (by decide), ?_⟩
      conv=>whnf
      (repeat' first | (refine step_go [16] ?_;conv=>whnf) | (refine two ?_ ?_<;>intro g<;>(try simp only[bsx]at g)<;>(conv=>whnf)) | (refine And.intro rfl ?_;conv=>whnf) | fail)
      refine ⟨S2 (n + 1), weak_of ?_ (.cons (.eq rfl) (.cons (.eq rfl) .nil)) rfl rfl rfl, ih (n + 1) (by omega) (by omega)⟩
      rw [wi]
      repeat' first
       | exact VWs.nil
       | refine VWs.cons VW.undef ?_
       | refine VWs.cons (VW.eq rfl) ?_
       | refine VWs.cons (VW.eq (congrArg V.str (pre_yes p groups n hfl))) ?_
    · have hfl : fl groups n = false := by rw [hflg]; assumption
      refine ⟨by omega, by omega, ?_⟩
      conv=>whnf
      refine ⟨_, hgp, ?_⟩
      conv=>whnf
      (repeat' first | (refine step_go [16] ?_;conv=>whnf) | (refine two ?_ ?_<;>intro g<;>(try simp only[bsx]at g)<;>(conv=>whnf)) | (refine And.intro rfl ?_;conv=>whnf) | fail)
      refine ⟨szL (n := 1400) (m := 100) hsz htj (by decide), ?_⟩
      conv=>whnf
      (repeat' first | (refine step_go [16] ?_;conv=>whnf) | (refine two ?_ ?_<;>intro g<;>(try simp only[bsx]at g)<;>(conv=>whnf)) | (refine And.intro rfl ?_;conv=>whnf) | fail)
      refine ⟨S2 (n + 1), weak_of ?_ (.cons (.eq rfl) (.cons (.eq rfl) .nil)) rfl rfl rfl, ih (n + 1) (by omega) (by omega)⟩
      rw [wi]
      repeat' first
       | exact VWs.nil
       | refine VWs.cons VW.undef ?_
       | refine VWs.cons (VW.eq rfl) ?_
       | refine VWs.cons (VW.eq (congrArg V.str (pre_no p groups n hfl))) ?_
  · have hng : groups.length <= n := by omega
    have wi := wi (by omega)
    have hgp := hgp (by omega)
    have hfl : fl groups n = false := by unfold fl; rw [List.getElem?_eq_none hng]; rfl
    refine ⟨by omega, by omega, ?_⟩
    conv=>whnf
    refine ⟨_, hgp, ?_⟩
    conv=>whnf
    (repeat' first | (refine step_go [16] ?_;conv=>whnf) | (refine two ?_ ?_<;>intro g<;>(try simp only[bsx]at g)<;>(conv=>whnf)) | (refine And.intro rfl ?_;conv=>whnf) | fail)
    refine ⟨szL (n := 1400) (m := 100) hsz htj (by decide), ?_⟩
    conv=>whnf
    (repeat' first | (refine step_go [16] ?_;conv=>whnf) | (refine two ?_ ?_<;>intro g<;>(try simp only[bsx]at g)<;>(conv=>whnf)) | (refine And.intro rfl ?_;conv=>whnf) | fail)
    refine ⟨S2 (n + 1), weak_of ?_ (.cons (.eq rfl) (.cons (.eq rfl) .nil)) rfl rfl rfl, ih (n + 1) (by omega) (by omega)⟩
    rw [wi]
    repeat' first
     | exact VWs.nil
     | refine VWs.cons VW.undef ?_
     | refine VWs.cons (VW.eq rfl) ?_
     | refine VWs.cons (VW.eq (congrArg V.str (pre_no p groups n hfl))) ?_
  · have hn13 : n = 13 := by omega
    subst hn13
    clear ih wi hgp htj
    refine ⟨_, Weak.refl, ?_⟩
    conv=>whnf
    (repeat' first | (refine step_go [16] ?_;conv=>whnf) | (refine two ?_ ?_<;>intro g<;>(try simp only[bsx]at g)<;>(conv=>whnf)) | (refine And.intro rfl ?_;conv=>whnf) | fail)
    refine ⟨szL (n := 1400) (m := 1) hsz (by decide) (by decide), ?_⟩
    conv=>whnf
    (repeat' first | (refine step_go [16] ?_;conv=>whnf) | (refine two ?_ ?_<;>intro g<;>(try simp only[bsx]at g)<;>(conv=>whnf)) | (refine And.intro rfl ?_;conv=>whnf) | fail)
    have hps : parseS (preT p groups 13 ++ [125]) = (W, e0, e0) := by
     have := parse_ord (its p groups 13) (by rw [its_fst p groups hpl]; exact hp)
     rw [hW, he0]; exact this
    refine c_Parse _ (Nat.lt_of_le_of_lt (szA (n := 1400) (m := 1) hsz (by decide)) (by decide)) _ ?_
    rw [sB_app, sB_toBA (pre_b p groups 13 hpj), show sB ⟨#[125]⟩ = [125] from rfl, hps]
    conv=>whnf
    (repeat' first | (refine step_go [16] ?_;conv=>whnf) | (refine two ?_ ?_<;>intro g<;>(try simp only[bsx]at g)<;>(conv=>whnf)) | (refine And.intro rfl ?_;conv=>whnf) | (refine c_awake _ ?_;conv=>whnf) | fail)
    all_goals first
     | exact absurd he0 (by assumption)
     | (refine c_same W (by rw [hW]; decide) (by rw [hW]; decide) (by rw [hW]; decide) _ ?_
        conv=>whnf
        (repeat' first | (refine step_go [16] ?_;conv=>whnf) | (refine two ?_ ?_<;>intro g<;>(try simp only[bsx]at g)<;>(conv=>whnf)) | (refine And.intro rfl ?_;conv=>whnf) | fail)
        try rfl)
     | trace_state
theorem bools_of : ∀ {l : List V}, (∀ x ∈ l, ∃ b, [x] = [V.bool b]) -> ∃ bs : List Bool, l = bLL bs
 | [], _ => ⟨[], rfl⟩
 | x :: r, h => by
   obtain ⟨b, hb⟩ := h x (.head _)
   obtain ⟨bs, h1⟩ := bools_of (l := r) fun y hy => h y (.tail _ hy)
   simp only [List.cons.injEq, and_true] at hb
   subst hb
   exact ⟨b :: bs, by rw [h1]; rfl⟩
end CO4

