/- Part Wi of the proof: B20 B21 B22 B23. -/
import Derived.Test.YtplcolaagnpccaaDoorWg
namespace B20
open Go Go.Proofs VL D1 B2 B4 B5 B7 B8 B10 B11 B12 B13 D2 B14 D3
set_option pp.maxSteps 300
set_option maxRecDepth 100000
set_option linter.unusedVariables false
set_option linter.unusedSimpArgs false

theorem dgw_next (n i : Nat) : (48 + ((n / 10 ^ i % 10 : Nat) : Int)) :: dgw i n = dgw (i + 1) n := by
  rw [Nat.add_comm, dgw_split]; rfl
theorem pow20 {n i : Nat} (h : n < 18446744073709551616) (h2 : 0 < n / 10 ^ i) : i < 20 := by
  rcases Nat.lt_or_ge i 20 with h1 | h1
  · exact h1
  · have : (10 : Nat) ^ 20 ≤ 10 ^ i := Nat.pow_le_pow_right (by omega) h1
    rw [Nat.div_eq_of_lt (Nat.lt_of_lt_of_le h (Nat.le_trans (by decide) this))] at h2
    omega

set_option maxHeartbeats 2000000 in
theorem c_Digits (n least : Nat) (hn : n < 18446744073709551616) (hl : 1 ≤ least) (hl2 : least ≤ 50) (K) (h : K (.ret (.str (toBA (dgn least n)))) []) :
    VCall Tryd.prog 45 [.int .u64 (n : Int), .int .i64 (least : Int)] [] K := by
  refine call_fun [] 0 Tryd.func45 (by rfl) (by rfl) ?_; (conv => whnf); (repeat (refine step_go [] ?_; conv => whnf))
  let S : Nat → St := fun i => ⟨(.int .u64 ((n / 10 ^ i : Nat) : Int) :: .int .i64 (least : Int) :: .undef :: .undef :: .str ⟨#[]⟩ :: .str (toBA (dgw i n)) :: .undef :: .undef :: .undef :: .undef :: .undef :: .undef :: .undef :: .undef :: .undef :: .undef :: .undef :: .undef :: .undef :: .undef :: .undef :: .undef :: .undef :: .undef :: .undef :: []), [], 0, []⟩
  refine VLoop.enter (s' := S 0) (weak_of ?_ .nil rfl rfl rfl) (VLoop.indW S (fun i => 60 - i) (fun i => i ≤ 50 ∧ (i ≤ least ∨ 0 < n / 10 ^ (i - 1))) ?_ 0 ⟨by omega, by omega⟩)
  · repeat' first
      | exact VWs.nil
      | refine VWs.cons VW.undef ?_
      | refine VWs.cons (VW.eq rfl) ?_
      | refine VWs.cons (VW.eq (congrArg (V.int .u64) (by simp))) ?_
  rintro i ⟨hi, hd⟩ ih
  have go : (0 < n / 10 ^ i ∨ i < least) → ∃ q, n / 10 ^ i = q ∧ q < 18446744073709551616 := fun _ => ⟨_, rfl, Nat.lt_of_le_of_lt (Nat.div_le_self _ _) hn⟩
  have fin : ¬ (0 < n / 10 ^ i) → ¬ i < least → toBA (dgw i n) = toBA (dgn least n) := fun h1 h2 => by
    congr 1
    have h0 : n / 10 ^ i = 0 := Nat.eq_zero_of_not_pos h1
    have hlt : n < 10 ^ i := by
      rcases Nat.lt_or_ge n (10 ^ i) with h | h
      · exact h
      · have := Nat.div_pos h (Nat.pow_pos (by omega)); omega
    by_cases e : i = least
    · subst e; exact (pad_dgw i n (by omega) hlt).symm
    · have hp : 0 < n / 10 ^ (i - 1) := hd.resolve_left (by omega)
      have hge : 10 ^ (i - 1) ≤ n := by
        rcases Nat.lt_or_ge n (10 ^ (i - 1)) with h | h
        · rw [Nat.div_eq_of_lt h] at hp; omega
        · exact h
      have := dg_dgw (i - 1) n hge (by rw [Nat.sub_add_cancel (by omega)]; exact hlt)
      rw [Nat.sub_add_cancel (by omega)] at this
      unfold dgn
      rw [this, dgw_len, show least - i = 0 by omega]; rfl
  have stepp : (0 < n / 10 ^ i ∨ i < least) → True := fun _ => trivial
  refine loop_round [] ?_; (conv => whnf); (repeat (refine step_go [] ?_; conv => whnf))
  refine two (fun g => ?_) (fun g => ?_)
  · have g : 0 < n / 10 ^ i := by have := of_decide_eq_true g; omega
    have h20 := pow20 hn g
    have hq : n / 10 ^ i < 18446744073709551616 := Nat.lt_of_le_of_lt (Nat.div_le_self _ _) hn
    (conv => whnf); (repeat (refine step_go [] ?_; conv => whnf))
    have tm : Int.tmod ((n / 10 ^ i : Nat) : Int) 10 = ((n / 10 ^ i % 10 : Nat) : Int) := rfl
    have td : Int.tdiv ((n / 10 ^ i : Nat) : Int) 10 = ((n / 10 ^ i / 10 : Nat) : Int) := rfl
    refine ⟨by decide, ?_⟩; rw [tm]; (conv => whnf); (repeat (refine step_go [] ?_; conv => whnf))
    have e : IntKind.u8.wrap (IntKind.u64.wrap (48 + ((n / 10 ^ i % 10 : Nat) : Int))) = 48 + ((n / 10 ^ i % 10 : Nat) : Int) := by rw [wrapu64 (by omega) (by omega), wrapu8' (by omega) (by omega)]
    rw [e]
    refine ⟨toBA [48 + ((n / 10 ^ i % 10 : Nat) : Int)], ?_, ?_⟩
    · rw [← toBA_V (fun x hx => by simp at hx; omega)]; rfl
    (conv => whnf); (repeat (refine step_go [] ?_; conv => whnf))
    refine ⟨by rw [sz_toBA, sz_toBA, dgw_len]; refine str_le ?_; simp; omega, ?_⟩
    rw [toBA_app]; (conv => whnf); (repeat (refine step_go [] ?_; conv => whnf))
    refine ⟨by decide, ?_⟩; rw [td]; (conv => whnf); (repeat (refine step_go [] ?_; conv => whnf))
    refine ⟨S (i + 1), weak_of ?_ .nil rfl rfl rfl, ih (i + 1) ⟨by omega, by rw [Nat.add_sub_cancel]; omega⟩ (by omega)⟩
    repeat' first
      | exact VWs.nil
      | refine VWs.cons VW.undef ?_
      | refine VWs.cons (VW.eq rfl) ?_
      | refine VWs.cons (VW.eq (congrArg (fun x => V.str (toBA x)) (dgw_next n i))) ?_
      | refine VWs.cons (VW.eq (congrArg (V.int .u64) (by rw [w64N (by omega), Nat.div_div_eq_div_mul, Nat.pow_succ]))) ?_
  · have g : ¬ 0 < n / 10 ^ i := by have := of_decide_eq_false g; omega
    (conv => whnf); (repeat (refine step_go [] ?_; conv => whnf))
    refine two (fun g2 => ?_) (fun g2 => ?_)
    · have g2 : i < least := by have := of_decide_eq_true g2; rw [sz_toBA, dgw_len] at this; omega
      have hq : n / 10 ^ i < 18446744073709551616 := Nat.lt_of_le_of_lt (Nat.div_le_self _ _) hn
      (conv => whnf); (repeat (refine step_go [] ?_; conv => whnf))
      have tm : Int.tmod ((n / 10 ^ i : Nat) : Int) 10 = ((n / 10 ^ i % 10 : Nat) : Int) := rfl
      have td : Int.tdiv ((n / 10 ^ i : Nat) : Int) 10 = ((n / 10 ^ i / 10 : Nat) : Int) := rfl
      refine ⟨by decide, ?_⟩; rw [tm]; (conv => whnf); (repeat (refine step_go [] ?_; conv => whnf))
      have e : IntKind.u8.wrap (IntKind.u64.wrap (48 + ((n / 10 ^ i % 10 : Nat) : Int))) = 48 + ((n / 10 ^ i % 10 : Nat) : Int) := by rw [wrapu64 (by omega) (by omega), wrapu8' (by omega) (by omega)]
      rw [e]
      refine ⟨toBA [48 + ((n / 10 ^ i % 10 : Nat) : Int)], ?_, ?_⟩
      · rw [← toBA_V (fun x hx => by simp at hx; omega)]; rfl
      (conv => whnf); (repeat (refine step_go [] ?_; conv => whnf))
      refine ⟨by rw [sz_toBA, sz_toBA, dgw_len]; refine str_le ?_; simp; omega, ?_⟩
      rw [toBA_app]; (conv => whnf); (repeat (refine step_go [] ?_; conv => whnf))
      refine ⟨by decide, ?_⟩; rw [td]; (conv => whnf); (repeat (refine step_go [] ?_; conv => whnf))
      refine ⟨S (i + 1), weak_of ?_ .nil rfl rfl rfl, ih (i + 1) ⟨by omega, by rw [Nat.add_sub_cancel]; omega⟩ (by omega)⟩
      repeat' first
        | exact VWs.nil
        | refine VWs.cons VW.undef ?_
        | refine VWs.cons (VW.eq rfl) ?_
        | refine VWs.cons (VW.eq (congrArg (fun x => V.str (toBA x)) (dgw_next n i))) ?_
        | refine VWs.cons (VW.eq (congrArg (V.int .u64) (by rw [w64N (by omega), Nat.div_div_eq_div_mul, Nat.pow_succ]))) ?_
    · have g2 : ¬ i < least := by have := of_decide_eq_false g2; rw [sz_toBA, dgw_len] at this; omega
      (conv => whnf); (repeat (refine step_go [] ?_; conv => whnf))
      refine ⟨_, Weak.refl, ?_⟩; (conv => whnf); (repeat (refine step_go [] ?_; conv => whnf))
      rw [fin g g2]
      exact h

theorem c_size (v : Int) (hv : I64 v) (K) (h : K (.ret (.tup [.int .u64 (v.natAbs : Int), .str (toBA (sgn v))])) []) : VCall Tryd.prog 44 [.int .i64 v] [] K := by
  obtain ⟨v1, v2⟩ := hv
  refine call_fun [] 0 Tryd.func44 (by rfl) (by rfl) ?_; (conv => whnf); (repeat (refine step_go [] ?_; conv => whnf))
  refine two (fun g => ?_) (fun g => ?_)
  · have g : v < 0 := of_decide_eq_true g
    (conv => whnf); (repeat (refine step_go [] ?_; conv => whnf))
    have e : IntKind.u64.wrap (IntKind.u64.wrap (IntKind.i64.wrap (0 - IntKind.i64.wrap (v + 1))) + 1) = (v.natAbs : Int) := by
      rw [wrap64 (x := v + 1) (by omega) (by omega), wrap64 (by omega) (by omega), wrapu64 (x := 0 - (v + 1)) (by omega) (by omega), wrapu64 (by omega) (by omega)]; omega
    rw [e]
    rw [show sgn v = [45] by unfold sgn; rw [if_pos g]] at h
    exact h
  · have g := of_decide_eq_false g
    (conv => whnf); (repeat (refine step_go [] ?_; conv => whnf))
    have e : IntKind.u64.wrap v = (v.natAbs : Int) := by rw [wrapu64 (by omega) (by omega)]; omega
    rw [e]
    rw [show sgn v = [] by unfold sgn; rw [if_neg (by omega)]] at h
    exact h

theorem dgn1 (n : Nat) : dgn 1 n = dg n := by
  unfold dgn
  have := dg_len_pos n
  rw [show 1 - (dg n).length = 0 by omega]; rfl

theorem c_rmoney (v : Int) (hv : I64 v) (K) (h : K (.ret (.str (toBA (moneyS v)))) []) : VCall Tryd.prog 21 [.int .i64 v] [] K := by
  have hn := natAbs_lt hv
  have hl := dg_len20 (n := v.natAbs / 100) (by omega)
  have hs := sgn_len v
  have e2 : dgn 2 (v.natAbs % 100) = dgw 2 (v.natAbs % 100) := pad_dgw 2 _ (by omega) (by omega)
  have td : Int.tdiv (v.natAbs : Int) 100 = ((v.natAbs / 100 : Nat) : Int) := rfl
  have tm : Int.tmod (v.natAbs : Int) 100 = ((v.natAbs % 100 : Nat) : Int) := rfl
  refine call_fun [] 0 Tryd.func21 (by rfl) (by rfl) ?_; (conv => whnf); (repeat (refine step_go [] ?_; conv => whnf))
  refine c_size v hv _ ?_; (conv => whnf); (repeat (refine step_go [] ?_; conv => whnf))
  refine ⟨by decide, ?_⟩; rw [td, w64N (a := v.natAbs / 100) (by omega)]; (conv => whnf); (repeat (refine step_go [] ?_; conv => whnf))
  refine c_Digits _ 1 (by omega) (by omega) (by omega) _ ?_; (conv => whnf); (repeat (refine step_go [] ?_; conv => whnf))
  rw [dgn1]
  refine ⟨by rw [sz_toBA, sz_toBA]; exact str_le (by omega), ?_⟩
  rw [toBA_app]; (conv => whnf); (repeat (refine step_go [] ?_; conv => whnf))
  refine ⟨by rw [sz_toBA]; refine str_le ?_; simp; show _ + 1 < _; omega, ?_⟩
  rw [show (ByteArray.mk #[46]) = toBA [46] from rfl, toBA_app]; (conv => whnf); (repeat (refine step_go [] ?_; conv => whnf))
  refine ⟨by decide, ?_⟩; rw [tm]; (conv => whnf); (repeat (refine step_go [] ?_; conv => whnf))
  refine c_Digits _ 2 (by omega) (by omega) (by omega) _ ?_; (conv => whnf); (repeat (refine step_go [] ?_; conv => whnf))
  rw [e2]
  refine ⟨by rw [sz_toBA, sz_toBA, dgw_len]; refine str_le ?_; simp; omega, ?_⟩
  rw [toBA_app]; (conv => whnf); (repeat (refine step_go [] ?_; conv => whnf))
  exact h

theorem trim_nil {r : Nat} (h : r < 10000000) : trimZ (dgw 7 r) = [] ↔ r = 0 := by
  constructor
  · intro e
    rcases Nat.eq_zero_or_pos r with h0 | h0
    · exact h0
    · have := (frac_facts (Nat.ne_of_gt h0) h).1.1
      rw [e] at this; simp at this
  · rintro rfl; decide +kernel

set_option maxHeartbeats 2000000 in
theorem c_rrate (v : Int) (hv : I64 v) (K) (h : K (.ret (.str (toBA (rateS v)))) []) : VCall Tryd.prog 23 [.int .i64 v] [] K := by
  have hn := natAbs_lt hv
  have hl := dg_len20 (n := v.natAbs / 10000000) (by omega)
  have hs := sgn_len v
  have e2 : dgn 7 (v.natAbs % 10000000) = dgw 7 (v.natAbs % 10000000) := pad_dgw 7 _ (by omega) (by omega)
  have td : Int.tdiv (v.natAbs : Int) 10000000 = ((v.natAbs / 10000000 : Nat) : Int) := rfl
  have tm : Int.tmod (v.natAbs : Int) 10000000 = ((v.natAbs % 10000000 : Nat) : Int) := rfl
  refine call_fun [] 0 Tryd.func23 (by rfl) (by rfl) ?_; (conv => whnf); (repeat (refine step_go [] ?_; conv => whnf))
  refine c_size v hv _ ?_; (conv => whnf); (repeat (refine step_go [] ?_; conv => whnf))
  refine ⟨by decide, ?_⟩; rw [td, w64N (a := v.natAbs / 10000000) (by omega)]; (conv => whnf); (repeat (refine step_go [] ?_; conv => whnf))
  refine c_Digits _ 1 (by omega) (by omega) (by omega) _ ?_; (conv => whnf); (repeat (refine step_go [] ?_; conv => whnf))
  rw [dgn1]
  refine ⟨by rw [sz_toBA, sz_toBA]; exact str_le (by omega), ?_⟩
  rw [toBA_app]; (conv => whnf); (repeat (refine step_go [] ?_; conv => whnf))
  refine ⟨by decide, ?_⟩; rw [tm]; (conv => whnf); (repeat (refine step_go [] ?_; conv => whnf))
  refine c_Digits _ 7 (by omega) (by omega) (by omega) _ ?_; (conv => whnf); (repeat (refine step_go [] ?_; conv => whnf))
  rw [e2]
  have hr : v.natAbs % 10000000 < 10000000 := Nat.mod_lt _ (by omega)
  have hR : rateS v = sgn v ++ dg (v.natAbs / 10000000) ++ fracS (v.natAbs % 10000000) ++ [37] := rfl
  have hA : (sgn v ++ dg (v.natAbs / 10000000)).length ≤ 30 := by simp; omega
  obtain ⟨A, eA⟩ : ∃ A, sgn v ++ dg (v.natAbs / 10000000) = A := ⟨_, rfl⟩
  obtain ⟨r, er⟩ : ∃ r, v.natAbs % 10000000 = r := ⟨_, rfl⟩
  rw [eA, er] at hR
  rw [er] at hr
  rw [eA] at hA
  rw [eA, er]
  have hb7 := dgw_byte 7 r
  let S : ByteArray → St := fun x => ⟨(.undef :: .undef :: .str ⟨#[]⟩ :: .undef :: .undef :: .str (toBA A) :: .str x :: .undef :: .undef :: .undef :: .undef :: .undef :: .undef :: .undef :: .undef :: .undef :: .undef :: .undef :: .undef :: .undef :: .undef :: .undef :: .undef :: .undef :: .undef :: .undef :: .undef :: .undef :: .undef :: .undef :: .undef :: .undef :: .undef :: .undef :: .undef :: .undef :: .undef :: .undef :: .undef :: .undef :: .undef :: .undef :: .undef :: .undef :: []), [], 0, []⟩
  refine VLoop.enter (s' := S (toBA (dgw 7 r))) (weak_of ?_ .nil rfl rfl rfl) (VLoop.indW S (fun x => x.size) (fun x => trimZ (sB x) = trimZ (dgw 7 r) ∧ x.size ≤ 7) ?_ (toBA (dgw 7 r)) ⟨by rw [sB_toBA hb7], by rw [sz_toBA, dgw_len]; omega⟩)
  · (repeat' first | exact VWs.nil | refine VWs.cons VW.undef ?_ | refine VWs.cons (VW.eq rfl) ?_)
  rintro x ⟨hx, hl⟩ ih
  have done : sB x = trimZ (dgw 7 r) → ∀ R : Prop, (x = toBA (trimZ (dgw 7 r)) → R) → R := fun e R k => k (by rw [← e, toBA_sB])
  refine loop_round [] ?_; (conv => whnf); (repeat (refine step_go [] ?_; conv => whnf))
  refine two (fun g => ?_) (fun g => ?_)
  · have g : 0 < x.size := by have := of_decide_eq_true g; omega
    obtain ⟨m, c, hm⟩ : ∃ m c, sB x = m ++ [c] := ⟨(sB x).dropLast, (sB x).getLast (by rw [← List.length_pos_iff, sB_len]; exact g), (List.dropLast_concat_getLast _).symm⟩
    have hml : m.length + 1 = x.size := by rw [← sB_len, hm]; simp
    conv => whnf
    rw [show IntKind.i64.wrap ((x.size : Int) - 1) = (m.length : Int) by rw [wrap64 (by omega) (by omega)]; omega]
    refine idx_str (x := c) (by omega) (by rw [hm, Int.toNat_natCast]; simp) fun b hb => ?_
    rw [hb]; (conv => whnf); (repeat (refine step_go [] ?_; conv => whnf))
    refine two (fun g2 => ?_) (fun g2 => ?_)
    · have g2 : c = 48 := by simpa using g2
      (conv => whnf); (repeat (refine step_go [] ?_; conv => whnf))
      rw [show IntKind.i64.wrap ((x.size : Int) - 1) = (m.length : Int) by rw [wrap64 (by omega) (by omega)]; omega]
      (repeat first | (refine step_go [] ?_; conv => whnf) | (refine And.intro rfl ?_; conv => whnf) | (refine And.intro (by omega) ?_; conv => whnf))
      have he : x.extract 0 m.length = toBA m := ext_str x (by rw [hm]; simp)
      have hmb : sB (toBA m) = m := by rw [← he, sB_ext, hm]; simp
      refine ⟨S (toBA m), weak_of ?_ .nil rfl rfl rfl, ih (toBA m) ⟨?_, ?_⟩ ?_⟩
      · repeat' first
          | exact VWs.nil
          | refine VWs.cons VW.undef ?_
          | refine VWs.cons (VW.eq (congrArg V.str he)) ?_
          | refine VWs.cons (VW.eq rfl) ?_
      · rw [hmb, ← hx, hm, trimZ_snoc, if_pos g2]
      · rw [← sB_len, hmb]; omega
      · rw [← sB_len, hmb]; omega
    · have g2 : c ≠ 48 := by simpa using g2
      (conv => whnf); (repeat (refine step_go [] ?_; conv => whnf))
      refine ⟨_, Weak.refl, ?_⟩; (conv => whnf); (repeat (refine step_go [] ?_; conv => whnf))
      have e : sB x = trimZ (dgw 7 r) := by rw [← hx, hm, trimZ_snoc, if_neg g2]
      have hr0 : r ≠ 0 := fun h0 => by rw [(trim_nil hr).2 h0] at e; rw [← sB_len, e] at g; simp at g
      refine yes ?_ ?_
      · rw [str_beq, e]
        have : (trimZ (dgw 7 r) == sB (ByteArray.mk #[])) = false := by
          rw [beq_eq_false_iff_ne]; exact fun h => hr0 ((trim_nil hr).1 h)
        rw [this]; rfl
      have ex := toBA_of e
      have hz : (trimZ (dgw 7 r)).length ≤ 7 := by have := trimZ_len (dgw 7 r); rwa [dgw_len] at this
      subst ex
      (conv => whnf); (repeat (refine step_go [] ?_; conv => whnf))
      refine ⟨by rw [sz_toBA]; refine str_le ?_; show _ + 1 < _; omega, ?_⟩
      rw [show (ByteArray.mk #[46]) = toBA [46] from rfl, toBA_app]; (conv => whnf); (repeat (refine step_go [] ?_; conv => whnf))
      refine ⟨by rw [sz_toBA, sz_toBA]; refine str_le ?_; simp; omega, ?_⟩
      rw [toBA_app]; (conv => whnf); (repeat (refine step_go [] ?_; conv => whnf))
      refine ⟨by rw [sz_toBA]; refine str_le ?_; simp; show _ + 1 < _; omega, ?_⟩
      rw [show (ByteArray.mk #[37]) = toBA [37] from rfl, toBA_app]; (conv => whnf); (repeat (refine step_go [] ?_; conv => whnf))
      rw [hR, show fracS r = [46] ++ trimZ (dgw 7 r) by unfold fracS; rw [if_neg hr0]; rfl] at h
      rw [List.append_assoc A]
      exact h
  · have g : x.size = 0 := by have := of_decide_eq_false g; omega
    have e0 : sB x = [] := List.length_eq_zero_iff.1 (by rw [sB_len]; exact g)
    have ex : x = toBA [] := toBA_of e0
    have hr0 : r = 0 := (trim_nil hr).1 (by rw [← hx, e0]; rfl)
    subst ex
    (conv => whnf); (repeat (refine step_go [] ?_; conv => whnf))
    refine ⟨_, Weak.refl, ?_⟩; (conv => whnf); (repeat (refine step_go [] ?_; conv => whnf))
    refine no (by rw [str_beq]; rfl) ?_; (conv => whnf); (repeat (refine step_go [] ?_; conv => whnf))
    refine ⟨by rw [sz_toBA]; refine str_le ?_; show _ + 1 < _; omega, ?_⟩
    rw [show (ByteArray.mk #[37]) = toBA [37] from rfl, toBA_app]; (conv => whnf); (repeat (refine step_go [] ?_; conv => whnf))
    rw [hR, show fracS r = [] by unfold fracS; rw [if_pos hr0], List.append_nil] at h
    exact h

theorem c_digit (c : Int) (K) (h : K (.ret (.bool (decide (Dig c)))) []) : VCall Tryd.prog 41 [.int .u8 c] [] K := by
  refine call_fun [] 0 Tryd.func41 (by rfl) (by rfl) ?_; (conv => whnf); (repeat (refine step_go [] ?_; conv => whnf))
  refine two (fun g => ?_) (fun g => ?_)
  · have g : 48 ≤ c := of_decide_eq_true g
    (conv => whnf); (repeat (refine step_go [] ?_; conv => whnf))
    rw [show decide (Dig c) = decide (c ≤ 57) by rw [decide_eq_decide]; unfold Dig; omega] at h
    exact h
  · have g : ¬ 48 ≤ c := of_decide_eq_false g
    (conv => whnf); (repeat (refine step_go [] ?_; conv => whnf))
    rw [show decide (Dig c) = false from decide_eq_false (by unfold Dig; omega)] at h
    exact h
end B20

namespace B21
open Go Go.Proofs VL D1 B2 B4 B5 B7 B8 B10 B11 B12 B13 D2 B14 D3 B18 B20
set_option pp.maxSteps 300
set_option maxRecDepth 100000
set_option linter.unusedVariables false
set_option linter.unusedSimpArgs false

theorem hasP_head {l : List Int} : hasP l [45] = true ↔ l.head? = some 45 := by
  cases l with
  | nil => simp [hasP]
  | cons x r => rw [hasP_cons]; simp

/-- what a text of money looks like -/
theorem moneyOk_facts {t : List Int} (h : moneyOk t) : ∃ n, t.length = n + 3 ∧ 1 ≤ n ∧ n ≤ 20 ∧ t[n]? = some 46 ∧ (n = 1 ∨ t.head? ≠ some 48) ∧ ∀ i x, i ≠ n → t[i]? = some x → Dig x := by
  obtain ⟨h1, h2, h3, h4⟩ := h
  have hj := join46 h1
  have hl : t.length = (aheadT t).length + 3 := by
    have := congrArg List.length hj
    rw [List.length_append, List.length_cons, h2] at this; omega
  refine ⟨(aheadT t).length, hl, h3.1.1, h3.1.2.1, ?_, ?_, fun i x hi hx => ?_⟩
  · rw [hj, List.getElem?_append_right (by rw [← hj]; omega)]
    rw [← hj]; simp
  · rcases h3.2 with h | h
    · exact .inl h
    · refine .inr fun e => h ?_
      have h0 := h3.1.1
      cases ha : aheadT t with
      | nil => rw [ha] at h0; simp at h0
      | cons a r =>
        rw [hj, ha] at e
        simpa using e
  · rw [hj] at hx
    rcases Nat.lt_or_ge i (aheadT t).length with h | h
    · rw [List.getElem?_append_left h] at hx
      exact h3.1.2.2 x (List.mem_of_getElem? hx)
    · rw [List.getElem?_append_right h] at hx
      obtain ⟨k, hk⟩ : ∃ k, i - (aheadT t).length = k + 1 := ⟨i - (aheadT t).length - 1, by omega⟩
      rw [hk, List.getElem?_cons_succ] at hx
      exact h4.2.2 x (List.mem_of_getElem? hx)

theorem moneyOk_of {t : List Int} {n : Nat} (hl : t.length = n + 3) (h1 : 1 ≤ n) (h20 : n ≤ 20) (hp : t[n]? = some 46) (h0 : n = 1 ∨ t.head? ≠ some 48) (hd : ∀ (i : Nat) x, i ≠ n → t[i]? = some x → Dig x) :
    moneyOk t ∧ moneyN t = vl (t.take n ++ t.drop (n + 1)) := by
  have hn : n < t.length := by omega
  have ht : t = t.take n ++ 46 :: t.drop (n + 1) := by
    have hx : t[n] = 46 := by rw [List.getElem?_eq_getElem hn] at hp; exact Option.some.inj hp
    rw [← hx, ← List.drop_eq_getElem_cons hn, List.take_append_drop]
  have hdig : ∀ x ∈ t.take n, Dig x := fun x hx => by
    obtain ⟨i, hi⟩ := List.mem_iff_getElem?.1 hx
    rw [List.getElem?_take] at hi
    split at hi
    · exact hd i x (by omega) hi
    · cases hi
  have hdig2 : ∀ x ∈ t.drop (n + 1), Dig x := fun x hx => by
    obtain ⟨i, hi⟩ := List.mem_iff_getElem?.1 hx
    rw [List.getElem?_drop] at hi
    exact hd (n + 1 + i) x (by omega) hi
  obtain ⟨s1, s2, s3⟩ := split46 (a := t.take n) (b := t.drop (n + 1)) (dig46 hdig)
  rw [← ht] at s1 s2 s3
  have hlen : (t.take n).length = n := by simp; omega
  have hlen2 : (t.drop (n + 1)).length = 2 := by simp; omega
  refine ⟨⟨s3, by rw [s2, hlen2], ⟨⟨by rw [s1]; omega, by rw [s1]; omega, by rw [s1]; exact hdig⟩, ?_⟩, by rw [s2]; exact ⟨by omega, by omega, hdig2⟩⟩, ?_⟩
  · rw [s1]
    rcases h0 with h | h
    · exact .inl (by omega)
    · refine .inr fun e => h ?_
      cases t with
      | nil => simp at hl
      | cons x r =>
        cases n with
        | zero => omega
        | succ n => simpa using e
  · unfold moneyN
    rw [s1, s2]
    obtain ⟨a, b, hab⟩ : ∃ a b, t.drop (n + 1) = [a, b] := by
      match h : t.drop (n + 1), hlen2 with
      | [a, b], _ => exact ⟨a, b, rfl⟩
    rw [hab]
    have e1 : vl [a, b] = 10 * (a - 48).toNat + (b - 48).toNat := by show 10 * (10 * 0 + (a - 48).toNat) + (b - 48).toNat = _; omega
    have e2 : vl (t.take n ++ [a, b]) = 10 * (10 * vl (t.take n) + (a - 48).toNat) + (b - 48).toNat := by
      rw [show t.take n ++ [a, b] = (t.take n ++ [a]) ++ [b] by simp, vl_snoc, vl_snoc]
    rw [e1, e2]; omega

/-- the digits that have been read -/
def dgs (t : List Int) (n i : Nat) : List Int := if i ≤ n then t.take i else t.take n ++ (t.drop (n + 1)).take (i - n - 1)
theorem dgs_step {t : List Int} {n i : Nat} {x : Int} (hi : i ≠ n) (hx : t[i]? = some x) : dgs t n (i + 1) = dgs t n i ++ [x] := by
  unfold dgs
  rcases Nat.lt_or_ge i n with h | h
  · rw [if_pos (by omega), if_pos (by omega), List.take_add_one, hx]; rfl
  · rw [if_neg (by omega), if_neg (by omega), List.append_assoc, show i + 1 - n - 1 = (i - n - 1) + 1 by omega, List.take_add_one, List.getElem?_drop, show n + 1 + (i - n - 1) = i by omega, hx]; rfl
theorem dgs_skip (t : List Int) (n : Nat) : dgs t n (n + 1) = dgs t n n := by
  unfold dgs; rw [if_neg (by omega), if_pos (by omega)]; simp
theorem dgs_all {t : List Int} {n : Nat} (h : t.length = n + 3) : dgs t n t.length = t.take n ++ t.drop (n + 1) := by
  unfold dgs; rw [if_neg (by omega), List.take_of_length_le (l := t.drop (n + 1)) (by simp; omega)]

set_option maxHeartbeats 4000000 in
theorem c_rtakeM (s : ByteArray) (hs : s.size < 1000000) (K) (h : K (.ret (.tup [.int .i64 (takeM (sB s)).1, .int .i64 (takeM (sB s)).2])) []) : VCall Tryd.prog 18 [.str s] [] K := by
  have hb := sB_byte s
  have hl := sB_len s
  have hub := unsg_byte hb
  have hul := unsg_len (sB s)
  have hfail : ¬ moneyOk (unsg (sB s)) → K (.ret (.tup [.int .i64 0, .int .i64 4])) [] := fun hn => by
    have : takeM (sB s) = (0, 4) := by unfold takeM; rw [if_pos hn]
    rw [this] at h; exact h
  refine call_fun [] 0 Tryd.func18 (by rfl) (by rfl) ?_; (conv => whnf); (repeat (refine step_go [] ?_; conv => whnf))
  -- the sign
  have key : ∀ (R G : Prop), ((Unit → R) → G) → R → G := fun R G h1 h2 => h1 fun _ => h2
  let Sm : St := ⟨(.str s :: .undef :: .int .i64 0 :: .int .i64 0 :: .str (toBA (unsg (sB s))) :: .undef :: .undef :: .undef :: .undef :: .undef :: .undef :: .undef :: .undef :: .undef :: .undef :: .undef :: .undef :: .undef :: .undef :: .undef :: .undef :: .undef :: .undef :: .undef :: .undef :: .undef :: .undef :: .undef :: .undef :: .undef :: .undef :: .undef :: .undef :: .undef :: .undef :: .undef :: .undef :: .undef :: .undef :: .undef :: .undef :: .undef :: .undef :: .undef :: .undef :: .undef :: .undef :: .undef :: .undef :: .undef :: .undef :: .undef :: .undef :: .undef :: .undef :: .undef :: .undef :: .undef :: .undef :: .undef :: .undef :: .undef :: .undef :: .undef :: .undef :: .undef :: .undef :: .undef :: .undef :: .undef :: .undef :: .undef :: .undef :: .undef :: .undef :: .undef :: .undef :: .undef :: .undef :: .undef :: .undef :: .undef :: .undef :: .undef :: .undef :: .undef :: .undef :: .undef :: .undef :: .undef :: .undef :: []), [], 0, []⟩
  refine key ?R _ ?h ?r
  case h =>
    intro rest
    refine two (fun g => ?_) (fun g => ?_)
    · have g : 0 < s.size := by have := of_decide_eq_true g; omega
      obtain ⟨x, r, hx⟩ : ∃ x r, sB s = x :: r := by
        cases hc : sB s with
        | nil => rw [hc] at hl; simp at hl; omega
        | cons x r => exact ⟨x, r, rfl⟩
      conv => whnf
      refine idx_str (x := x) (by omega) (by rw [hx]; rfl) fun c hc => ?_
      rw [hc]; (conv => whnf); (repeat (refine step_go [] ?_; conv => whnf))
      refine two (fun g2 => ?_) (fun g2 => ?_)
      · have g2 : x = 45 := by simpa using g2
        conv => whnf
        refine ⟨by omega, by omega, ?_⟩; conv => whnf
        rw [ext_str s (l := unsg (sB s)) (by rw [List.take_of_length_le (by omega), hx, g2, unsg_hy]; rfl)]
        refine VStep.weak (s' := Sm) (weak_of ?_ .nil rfl rfl rfl) ?_
        · (repeat' first | exact VWs.nil | refine VWs.cons VW.undef ?_ | refine VWs.cons (VW.eq rfl) ?_)
        exact rest ()
      · have g2 : x ≠ 45 := by simpa using g2
        conv => whnf
        have e : s = toBA (unsg (sB s)) := by rw [hx, unsg_no g2, ← hx, toBA_sB]
        refine VStep.weak (s' := Sm) (weak_of ?_ .nil rfl rfl rfl) ?_
        · repeat' first
            | exact VWs.nil
            | refine VWs.cons VW.undef ?_
            | refine VWs.cons (VW.eq (congrArg V.str e)) ?_
            | refine VWs.cons (VW.eq rfl) ?_
        exact rest ()
    · have g : s.size = 0 := by have := of_decide_eq_false g; omega
      have e0 : sB s = [] := List.length_eq_zero_iff.1 (by rw [sB_len]; exact g)
      have e : s = toBA (unsg (sB s)) := by rw [e0]; exact toBA_of e0
      conv => whnf
      refine step_go [] ?_; conv => whnf
      refine VStep.weak (s' := Sm) (weak_of ?_ .nil rfl rfl rfl) ?_
      · repeat' first
          | exact VWs.nil
          | refine VWs.cons VW.undef ?_
          | refine VWs.cons (VW.eq (congrArg V.str e)) ?_
          | refine VWs.cons (VW.eq rfl) ?_
      exact rest ()
  case r =>
  (conv => whnf); (repeat (refine step_go [] ?_; conv => whnf))
  have ht0 : ∃ t, unsg (sB s) = t := ⟨_, rfl⟩
  obtain ⟨t, ht⟩ := ht0
  rw [ht] at hub hul hfail
  rw [ht]
  have hlw : IntKind.i64.wrap (((toBA t).size : Int) - 3) = (t.length : Int) - 3 := by rw [sz_toBA, wrap64 (by omega) (by omega)]
  rw [hlw]
  refine two (fun g => ?_) (fun g => ?_)
  · have g := of_decide_eq_true g
    (conv => whnf); (repeat (refine step_go [] ?_; conv => whnf))
    exact hfail fun hk => by obtain ⟨n, f1, f2, _⟩ := moneyOk_facts hk; omega
  have g := of_decide_eq_false g
  obtain ⟨n, hn⟩ : ∃ n, t.length = n + 3 := ⟨t.length - 3, by omega⟩
  rw [show (t.length : Int) - 3 = (n : Int) by omega]
  (conv => whnf); (repeat (refine step_go [] ?_; conv => whnf))
  refine two (fun g2 => ?_) (fun g2 => ?_)
  · have g2 := of_decide_eq_true g2
    (conv => whnf); (repeat (refine step_go [] ?_; conv => whnf))
    exact hfail fun hk => by obtain ⟨n, f1, f2, f3, _⟩ := moneyOk_facts hk; omega
  have g2 := of_decide_eq_false g2
  (conv => whnf); (repeat (refine step_go [] ?_; conv => whnf))
  obtain ⟨p, hp⟩ : ∃ p, t[n]? = some p := ⟨_, List.getElem?_eq_getElem (by omega)⟩
  refine idx_str (x := p) (by omega) (by rw [sB_toBA hub, Int.toNat_natCast]; exact hp) fun c hc => ?_
  rw [hc]; (conv => whnf); (repeat (refine step_go [] ?_; conv => whnf))
  refine two (fun g3 => ?_) (fun g3 => ?_)
  · have g3 : p ≠ 46 := by simpa using g3
    (conv => whnf); (repeat (refine step_go [] ?_; conv => whnf))
    exact hfail fun hk => by
      obtain ⟨m, f1, f2, f3, f4, _⟩ := moneyOk_facts hk
      rw [show m = n by omega, hp] at f4
      exact g3 (Option.some.inj f4)
  have g3 : p = 46 := by simpa using g3
  subst g3
  (conv => whnf); (repeat (refine step_go [] ?_; conv => whnf))
  have key : ∀ (R G : Prop), ((Unit → R) → G) → R → G := fun R G h1 h2 => h1 fun _ => h2
  let Sm : St := ⟨(.str s :: .undef :: .int .i64 0 :: .int .i64 0 :: .str (toBA t) :: .int .i64 n :: .undef :: .undef :: .undef :: .undef :: .undef :: .undef :: .undef :: .undef :: .undef :: .undef :: .undef :: .undef :: .undef :: .undef :: .undef :: .undef :: .undef :: .undef :: .undef :: .undef :: .undef :: .undef :: .undef :: .undef :: .undef :: .undef :: .undef :: .undef :: .undef :: .undef :: .undef :: .undef :: .undef :: .undef :: .undef :: .undef :: .undef :: .undef :: .undef :: .undef :: .undef :: .undef :: .undef :: .undef :: .undef :: .undef :: .undef :: .undef :: .undef :: .undef :: .undef :: .undef :: .undef :: .undef :: .undef :: .undef :: .undef :: .undef :: .undef :: .undef :: .undef :: .undef :: .undef :: .undef :: .undef :: .undef :: .undef :: .undef :: .undef :: .undef :: .undef :: .undef :: .undef :: .undef :: .undef :: .undef :: .undef :: .undef :: .undef :: .undef :: .undef :: .undef :: .undef :: .undef :: .undef :: []), [], 0, []⟩
  refine key (n = 1 ∨ t.head? ≠ some 48 → ?R2) _ ?h2 ?r2
  case h2 =>
    intro rest
    refine two (fun g4 => ?_) (fun g4 => ?_)
    · have g4 := of_decide_eq_true g4
      obtain ⟨x, r, hx⟩ : ∃ x r, t = x :: r := by
        cases hc : t with
        | nil => rw [hc] at hn; simp at hn
        | cons x r => exact ⟨x, r, rfl⟩
      conv => whnf
      refine idx_str (x := x) (by omega) (by rw [sB_toBA hub, hx]; rfl) fun c hc => ?_
      rw [hc]; (conv => whnf); (repeat (refine step_go [] ?_; conv => whnf))
      refine two (fun g5 => ?_) (fun g5 => ?_)
      · have g5 : x = 48 := by simpa using g5
        (conv => whnf); (repeat (refine step_go [] ?_; conv => whnf))
        exact hfail fun hk => by
          obtain ⟨m, f1, f2, f3, f4, f5, _⟩ := moneyOk_facts hk
          rcases f5 with f5 | f5
          · omega
          · rw [hx, g5] at f5; simp at f5
      · have g5 : x ≠ 48 := by simpa using g5
        conv => whnf
        refine VStep.weak (s' := Sm) (weak_of ?_ .nil rfl rfl rfl) ?_
        · (repeat' first | exact VWs.nil | refine VWs.cons VW.undef ?_ | refine VWs.cons (VW.eq rfl) ?_)
        exact rest () (.inr (by rw [hx]; simpa using g5))
    · have g4 := of_decide_eq_false g4
      conv => whnf
      refine step_go [] ?_; conv => whnf
      refine VStep.weak (s' := Sm) (weak_of ?_ .nil rfl rfl rfl) ?_
      · (repeat' first | exact VWs.nil | refine VWs.cons VW.undef ?_ | refine VWs.cons (VW.eq rfl) ?_)
      exact rest () (.inl (by omega))
  case r2 =>
  intro h0
  (conv => whnf); (repeat (refine step_go [] ?_; conv => whnf))
  let S : Nat × Int × Bool → St := fun ⟨i, w, o⟩ => ⟨(.str s :: .undef :: .int .i64 0 :: .int .i64 0 :: .str (toBA t) :: .int .i64 n :: .int .i64 w :: .bool o :: .int .i64 i :: .undef :: .undef :: .undef :: .undef :: .undef :: .undef :: .undef :: .undef :: .undef :: .undef :: .undef :: .undef :: .undef :: .undef :: .undef :: .undef :: .undef :: .undef :: .undef :: .undef :: .undef :: .undef :: .undef :: .undef :: .undef :: .undef :: .undef :: .undef :: .undef :: .undef :: .undef :: .undef :: .undef :: .undef :: .undef :: .undef :: .undef :: .undef :: .undef :: .undef :: .undef :: .undef :: .undef :: .undef :: .undef :: .undef :: .undef :: .undef :: .undef :: .undef :: .undef :: .undef :: .undef :: .undef :: .undef :: .undef :: .undef :: .undef :: .undef :: .undef :: .undef :: .undef :: .undef :: .undef :: .undef :: .undef :: .undef :: .undef :: .undef :: .undef :: .undef :: .undef :: .undef :: .undef :: .undef :: .undef :: .undef :: .undef :: .undef :: .undef :: .undef :: .undef :: []), [], 0, []⟩
  refine VLoop.enter (s' := S (0, 0, false)) (weak_of ?_ .nil rfl rfl rfl)
    (VLoop.indW S (fun x => n + 3 - x.1) (fun x => x.1 ≤ n + 3 ∧ (∀ (j : Nat) y, j < x.1 → j ≠ n → t[j]? = some y → Dig y) ∧ ((x.2.2 = false ∧ x.2.1 = (vl (dgs t n x.1) : Int) ∧ x.2.1 ≤ 10000000000000009) ∨ (x.2.2 = true ∧ 1000000000000000 < vl (dgs t n x.1)))) ?_ (0, 0, false) ⟨by simp, fun j y hj => absurd hj (by simp), .inl ⟨rfl, by simp [dgs, vl_nil], by simp⟩⟩)
  · (repeat' first | exact VWs.nil | refine VWs.cons VW.undef ?_ | refine VWs.cons (VW.eq rfl) ?_)
  rintro ⟨i, w, o⟩ ⟨hi, hd, hw⟩ ih
  simp only at hi hd hw
  refine loop_round [] ?_; (conv => whnf); (repeat (refine step_go [] ?_; conv => whnf))
  refine two (fun g => ?_) (fun g => ?_)
  · have g : i < n + 3 := by have := of_decide_eq_true g; rw [sz_toBA] at this; omega
    (conv => whnf); (repeat (refine step_go [] ?_; conv => whnf))
    refine two (fun g4 => ?_) (fun g4 => ?_)
    · have g4 : i = n := by have := beq_iff_eq.1 g4; omega
      (conv => whnf); (repeat (refine step_go [] ?_; conv => whnf))
      refine ⟨S (i + 1, w, o), weak_of ?_ .nil rfl rfl rfl, ih (i + 1, w, o) ⟨by simp only; omega, fun j y hj hjn hy => hd j y (by simp only at hj; omega) hjn hy, ?_⟩ (by simp only; omega)⟩
      · repeat' first
          | exact VWs.nil
          | refine VWs.cons VW.undef ?_
          | refine VWs.cons (VW.eq rfl) ?_
          | refine VWs.cons (VW.eq (congrArg (V.int .i64) (by rw [wrap64 (by omega) (by omega)]; omega))) ?_
      · have e : dgs t n (i + 1) = dgs t n i := by rw [g4, dgs_skip]
        simp only; rw [e]; exact hw
    · have g4 : i ≠ n := by intro e; rw [e] at g4; simp at g4
      obtain ⟨x, hx⟩ : ∃ x, t[i]? = some x := ⟨_, List.getElem?_eq_getElem (by omega)⟩
      have hxb := hub x (List.mem_of_getElem? hx)
      have hst := dgs_step g4 hx
      (conv => whnf); (repeat (refine step_go [] ?_; conv => whnf))
      refine idx_str (x := x) (by omega) (by rw [sB_toBA hub, Int.toNat_natCast]; exact hx) fun c hc => ?_
      rw [hc]; (conv => whnf); (repeat (refine step_go [] ?_; conv => whnf))
      refine c_digit x _ ?_; (conv => whnf); (repeat (refine step_go [] ?_; conv => whnf))
      refine two (fun g5 => ?_) (fun g5 => ?_)
      · have g5 : ¬ Dig x := by simpa using g5
        (conv => whnf); (repeat (refine step_go [] ?_; conv => whnf))
        refine ⟨_, Weak.refl, ?_⟩; (conv => whnf); (repeat (refine step_go [] ?_; conv => whnf))
        exact hfail fun hk => by
          obtain ⟨m, f1, f2, f3, f4, f5, f6⟩ := moneyOk_facts hk
          exact g5 (f6 i x (by omega) hx)
      have g5 : Dig x := by simpa using g5
      have hdn : ∀ (j : Nat) y, j < i + 1 → j ≠ n → t[j]? = some y → Dig y := fun j y hj hjn hy => by
        by_cases e : j = i
        · subst e; rw [hx] at hy; cases hy; exact g5
        · exact hd j y (by omega) hjn hy
      have hvs : vl (dgs t n (i + 1)) = 10 * vl (dgs t n i) + (x - 48).toNat := by rw [hst, vl_snoc]
      unfold Dig at g5
      (conv => whnf); (repeat (refine step_go [] ?_; conv => whnf))
      cases o with
      | true =>
        (conv => whnf); (repeat (refine step_go [] ?_; conv => whnf))
        refine ⟨S (i + 1, w, true), weak_of ?_ .nil rfl rfl rfl, ih (i + 1, w, true) ⟨by simp only; omega, hdn, .inr ⟨rfl, ?_⟩⟩ (by simp only; omega)⟩
        · repeat' first
            | exact VWs.nil
            | refine VWs.cons VW.undef ?_
            | refine VWs.cons (VW.eq rfl) ?_
            | refine VWs.cons (VW.eq (congrArg (V.int .i64) (by rw [wrap64 (by omega) (by omega)]; omega))) ?_
        · simp only
          rcases hw with ⟨h1, _⟩ | ⟨_, h2⟩
          · cases h1
          · omega
      | false =>
        obtain ⟨hw1, hw2⟩ : w = (vl (dgs t n i) : Int) ∧ w ≤ 10000000000000009 := by
          rcases hw with ⟨_, h2⟩ | ⟨h1, _⟩
          · exact h2
          · cases h1
        (conv => whnf); (repeat (refine step_go [] ?_; conv => whnf))
        refine two (fun g6 => ?_) (fun g6 => ?_)
        · have g6 : ¬ w > 1000000000000000 := by simpa using g6
          (conv => whnf); (repeat (refine step_go [] ?_; conv => whnf))
          refine idx_str (x := x) (by omega) (by rw [sB_toBA hub, Int.toNat_natCast]; exact hx) fun c hc => ?_
          rw [hc]; (conv => whnf); (repeat (refine step_go [] ?_; conv => whnf))
          have e : IntKind.i64.wrap (IntKind.i64.wrap (10 * w) + IntKind.i64.wrap (IntKind.u8.wrap (x - 48))) = 10 * w + (x - 48) := by
            rw [wrapu8' (by omega) (by omega), wrap64 (x := 10 * w) (by omega) (by omega), wrap64 (x := x - 48) (by omega) (by omega), wrap64 (by omega) (by omega)]
          have e2 : (decide (w > 1000000000000000)) = false := decide_eq_false g6
          rw [e2]
          refine ⟨S (i + 1, 10 * w + (x - 48), false), weak_of ?_ .nil rfl rfl rfl, ih (i + 1, 10 * w + (x - 48), false) ⟨by simp only; omega, hdn, .inl ⟨rfl, ?_⟩⟩ (by simp only; omega)⟩
          · repeat' first
              | exact VWs.nil
              | refine VWs.cons VW.undef ?_
              | refine VWs.cons (VW.eq rfl) ?_
              | refine VWs.cons (VW.eq (congrArg (V.int .i64) (by rw [wrap64 (by omega) (by omega)]; omega))) ?_
              | refine VWs.cons (VW.eq (congrArg (V.int .i64) e)) ?_
          · simp only; rw [hvs]; omega
        · have g6 : w > 1000000000000000 := by simpa using g6
          (conv => whnf); (repeat (refine step_go [] ?_; conv => whnf))
          have e2 : (decide (w > 1000000000000000)) = true := decide_eq_true g6
          rw [e2]
          refine ⟨S (i + 1, w, true), weak_of ?_ .nil rfl rfl rfl, ih (i + 1, w, true) ⟨by simp only; omega, hdn, .inr ⟨rfl, ?_⟩⟩ (by simp only; omega)⟩
          · repeat' first
              | exact VWs.nil
              | refine VWs.cons VW.undef ?_
              | refine VWs.cons (VW.eq rfl) ?_
              | refine VWs.cons (VW.eq (congrArg (V.int .i64) (by rw [wrap64 (by omega) (by omega)]; omega))) ?_
              | refine VWs.cons (VW.eq (congrArg (V.int .i64) e)) ?_
          · simp only; rw [hvs]; omega
  · have g : i = n + 3 := by have := of_decide_eq_false g; rw [sz_toBA] at this; omega
    clear ih
    subst g
    rw [← hn] at hd hw
    obtain ⟨hok, hN⟩ := moneyOk_of hn (by omega) (by omega) hp h0 fun i x hi hx => hd i x (List.getElem?_eq_some_iff.1 hx).1 hi hx
    rw [dgs_all hn, ← hN] at hw
    have hneg : hasP (sB s) [45] = true ↔ (sB s).head? = some 45 := hasP_head
    obtain ⟨x, r, hx⟩ : ∃ x r, sB s = x :: r := by
      cases hc : sB s with
      | nil => rw [hc, List.length_nil] at hul; omega
      | cons x r => exact ⟨x, r, rfl⟩
    have hneg2 : hasP (sB s) [45] = decide (x = 45) := by rw [hx, hasP_cons]
    have hbig : 1000000000000000 < moneyN t → K (.ret (.tup [.int .i64 0, .int .i64 3])) [] := fun h2 => by
      have : takeM (sB s) = (0, 3) := by unfold takeM; rw [ht, if_neg (by simpa using hok), if_neg (fun h => by omega), if_pos h2]
      rw [this] at h; exact h
    (conv => whnf); (repeat (refine step_go [] ?_; conv => whnf))
    refine ⟨_, Weak.refl, ?_⟩; (conv => whnf); (repeat (refine step_go [] ?_; conv => whnf))
    cases o with
    | true =>
      (conv => whnf); (repeat (refine step_go [] ?_; conv => whnf))
      exact hbig (by rcases hw with ⟨h1, _⟩ | ⟨_, h2⟩ <;> first | cases h1 | exact h2)
    | false =>
      obtain ⟨hw1, hw2⟩ : w = (moneyN t : Int) ∧ w ≤ 10000000000000009 := by
        rcases hw with ⟨_, h2⟩ | ⟨h1, _⟩
        · exact h2
        · cases h1
      (conv => whnf); (repeat (refine step_go [] ?_; conv => whnf))
      refine two (fun g6 => ?_) (fun g6 => ?_)
      · have g6 := of_decide_eq_true g6
        (conv => whnf); (repeat (refine step_go [] ?_; conv => whnf))
        exact hbig (by omega)
      have g6 := of_decide_eq_false g6
      (conv => whnf); (repeat (refine step_go [] ?_; conv => whnf))
      refine idx_str (x := x) (by omega) (by rw [hx]; rfl) fun c hc => ?_
      rw [hc]; (conv => whnf); (repeat (refine step_go [] ?_; conv => whnf))
      refine two (fun g7 => ?_) (fun g7 => ?_)
      · have g7 : x = 45 := by simpa using g7
        have hp1 : hasP (sB s) [45] = true := by rw [hneg2, g7]; rfl
        (conv => whnf); (repeat (refine step_go [] ?_; conv => whnf))
        refine two (fun g8 => ?_) (fun g8 => ?_)
        · have g8 : w = 0 := by simpa using g8
          (conv => whnf); (repeat (refine step_go [] ?_; conv => whnf))
          have : takeM (sB s) = (0, 4) := by unfold takeM; rw [ht, if_neg (by simpa using hok), if_pos ⟨hp1, by omega⟩]
          rw [this] at h; exact h
        · have g8 : w ≠ 0 := by simpa using g8
          (conv => whnf); (repeat (refine step_go [] ?_; conv => whnf))
          refine idx_str (x := x) (by omega) (by rw [hx]; rfl) fun c hc => ?_
          rw [hc]; (conv => whnf); (repeat (refine step_go [] ?_; conv => whnf))
          refine yes (by simpa using g7) ?_; (conv => whnf); (repeat (refine step_go [] ?_; conv => whnf))
          rw [show IntKind.i64.wrap (0 - w) = -w by rw [wrap64 (by omega) (by omega)]; omega]
          have : takeM (sB s) = (-w, 0) := by unfold takeM; rw [ht, if_neg (by simpa using hok), if_neg (fun h => by omega), if_neg (by omega), if_pos hp1, hw1]
          rw [this] at h; exact h
      · have g7 : x ≠ 45 := by simpa using g7
        have hp1 : ¬ hasP (sB s) [45] = true := by rw [hneg2]; simpa using g7
        (conv => whnf); (repeat (refine step_go [] ?_; conv => whnf))
        refine idx_str (x := x) (by omega) (by rw [hx]; rfl) fun c hc => ?_
        rw [hc]; (conv => whnf); (repeat (refine step_go [] ?_; conv => whnf))
        refine no (by simpa using g7) ?_; (conv => whnf); (repeat (refine step_go [] ?_; conv => whnf))
        have : takeM (sB s) = (w, 0) := by unfold takeM; rw [ht, if_neg (by simpa using hok), if_neg (fun h => hp1 h.1), if_neg (by omega), if_neg hp1, hw1]
        rw [this] at h; exact h
end B21

namespace B22
open Go Go.Proofs VL D1 B2 B4 B5 B7 B8 B10 B11 B12 B13 D2 B14 D3 B18 B20 B21
set_option pp.maxSteps 300
set_option maxRecDepth 100000
set_option linter.unusedVariables false
set_option linter.unusedSimpArgs false

/-- a rate's signs, one by one: the number, how many digits, where the point stands -/
def scan (n : Nat) : Nat → List Int → Int × Nat × Int → Option (Int × Nat × Int)
  | _, [], st => some st
  | i, x :: r, (v, d, p) =>
    if x = 45 ∧ i = 0 then scan n (i + 1) r (v, d, p)
    else if x = 37 ∧ i + 1 = n then scan n (i + 1) r (v, d, p)
    else if x = 46 ∧ p < 0 then scan n (i + 1) r (v, d, (d : Int))
    else if Dig x ∧ d < 12 then scan n (i + 1) r (10 * v + (x - 48), d + 1, p)
    else none

def mul10 : Nat → Int → Int
  | 0, v => v
  | k + 1, v => mul10 k (IntKind.i64.wrap (10 * v))
theorem mul10_eq : ∀ (k : Nat) (v : Nat), v * 10 ^ k < 9223372036854775808 → mul10 k (v : Int) = ((v * 10 ^ k : Nat) : Int)
  | 0, v, h => by simp [mul10]
  | k + 1, v, h => by
    have e : v * 10 ^ (k + 1) = v * 10 * 10 ^ k := by rw [Nat.pow_succ, Nat.mul_comm (10 ^ k), Nat.mul_assoc]
    have hp : 1 ≤ 10 ^ k := Nat.one_le_pow _ _ (by omega)
    have h1 : v * 10 ≤ v * 10 * 10 ^ k := Nat.le_mul_of_pos_right _ hp
    rw [mul10, show (10 : Int) * (v : Int) = ((v * 10 : Nat) : Int) by omega, wrap64 (by omega) (by omega), mul10_eq k (v * 10) (by rw [← e]; exact h), e]
theorem mul10_I64 : ∀ (k : Nat) (v : Int), I64 v → I64 (mul10 k v)
  | 0, v, h => h
  | k + 1, v, h => mul10_I64 k _ (by
    have : IntKind.i64.wrap (10 * v) = (10 * v + 9223372036854775808) % 18446744073709551616 - 9223372036854775808 := IntKind.wrap_i64 _
    unfold I64; omega)

/-- digits are read -/
theorem scan_digs (n : Nat) : ∀ (l : List Int) (i : Nat) (r : List Int) (v d : Nat) (p : Int), (∀ x ∈ l, Dig x) → d + l.length ≤ 12 → scan n i (l ++ r) ((v : Int), d, p) = scan n (i + l.length) r (((l.foldl (fun v c => 10 * v + (c - 48).toNat) v : Nat) : Int), d + l.length, p)
  | [], i, r, v, d, p, _, _ => by simp
  | x :: l, i, r, v, d, p, h, hl => by
    have hx := h x (by simp)
    have hx' := hx
    unfold Dig at hx'
    simp only [List.length_cons] at hl
    rw [List.cons_append, scan, if_neg (fun e => by omega), if_neg (fun e => by omega), if_neg (fun e => by omega), if_pos ⟨hx, by omega⟩]
    rw [show (10 * (v : Int) + (x - 48)) = ((10 * v + (x - 48).toNat : Nat) : Int) by omega, scan_digs n l (i + 1) r _ (d + 1) p (fun y hy => h y (by simp [hy])) (by omega)]
    rw [List.foldl_cons, List.length_cons]
    congr 1
    · omega
    · congr 2; omega
theorem fold_vl (l : List Int) (v : Nat) : l.foldl (fun v c => 10 * v + (c - 48).toNat) v = v * 10 ^ l.length + vl l := by
  induction h : l.length generalizing l with
  | zero => rw [List.length_eq_zero_iff.1 h]; simp [vl_nil]
  | succ k ih =>
    rcases List.eq_nil_or_concat l with rfl | ⟨m, x, rfl⟩
    · simp at h
    rw [List.concat_eq_append] at h ⊢
    rw [List.foldl_append, ih m (by simpa using h), vl_snoc, Nat.pow_succ]
    simp only [List.foldl_cons, List.foldl_nil]
    rw [← Nat.mul_assoc, Nat.mul_add]
    have : 10 * (v * 10 ^ k) = v * 10 ^ k * 10 := Nat.mul_comm _ _
    omega

theorem vl_zeros_app (l : List Int) (k : Nat) : vl (l ++ List.replicate k 48) = vl l * 10 ^ k := by
  induction k with
  | zero => simp
  | succ k ih => rw [List.replicate_succ', ← List.append_assoc, vl_snoc, ih, Nat.pow_succ, ← Nat.mul_assoc (vl l)]; omega

theorem scan_end {n i : Nat} {v : Int} {d : Nat} {p : Int} (h : i + 1 = n) (h0 : 0 < i) : scan n i [37] (v, d, p) = some (v, d, p) := by
  rw [scan, if_neg (fun e => by omega), if_pos ⟨rfl, h⟩, scan]

/-- what a rate's own text is read as -/
theorem scan_rate {c : Int} (h : -10000000000 ≤ c ∧ c ≤ 10000000000) : ∃ (v d : Nat) (p : Int) (e : Nat), scan (rateS c).length 0 (rateS c) (0, 0, -1) = some ((v : Int), d, p) ∧
    (d : Int) - (if p < 0 then (d : Int) else p) = e ∧ e ≤ 7 ∧ v * 10 ^ (7 - e) = c.natAbs ∧ p ≤ d ∧ -1 ≤ p := by
  have hq : c.natAbs / 10000000 ≤ 1000 := by omega
  have hl4 : (dg (c.natAbs / 10000000)).length ≤ 4 := dg_len_le 3 _ (by omega)
  have hpos := dg_len_pos (c.natAbs / 10000000)
  have hs : ∃ i0, i0 + (dg (c.natAbs / 10000000) ++ (fracS (c.natAbs % 10000000) ++ [37])).length = (rateS c).length ∧ scan (rateS c).length 0 (rateS c) (0, 0, -1) = scan (rateS c).length i0 (dg (c.natAbs / 10000000) ++ (fracS (c.natAbs % 10000000) ++ [37])) (0, 0, -1) := by
    have hR : rateS c = sgn c ++ (dg (c.natAbs / 10000000) ++ (fracS (c.natAbs % 10000000) ++ [37])) := by unfold rateS; simp
    by_cases hc : c < 0
    · have : sgn c = [45] := by unfold sgn; rw [if_pos hc]
      refine ⟨1, by rw [hR, this]; simp; omega, ?_⟩
      conv => lhs; rw [hR, this]
      rw [List.singleton_append, scan, if_pos ⟨rfl, rfl⟩, hR, this]; rfl
    · have : sgn c = [] := by unfold sgn; rw [if_neg hc]
      refine ⟨0, by rw [hR, this]; simp, ?_⟩
      conv => lhs; rw [hR, this]
      rw [hR, this]; rfl
  obtain ⟨i0, hi, hsc⟩ := hs
  rw [hsc]
  have h1 := scan_digs (rateS c).length (dg (c.natAbs / 10000000)) i0 (fracS (c.natAbs % 10000000) ++ [37]) 0 0 (-1) (dg_dig _) (by omega)
  rw [show ((0 : Nat) : Int) = 0 from rfl] at h1
  rw [h1, fold_vl, vl_dg, Nat.zero_mul, Nat.zero_add, Nat.zero_add]
  obtain ⟨q, eq⟩ : ∃ q, c.natAbs / 10000000 = q := ⟨_, rfl⟩
  obtain ⟨r, er⟩ : ∃ r, c.natAbs % 10000000 = r := ⟨_, rfl⟩
  rw [eq] at hl4 hpos
  rw [eq, er] at hi
  rw [eq, er]
  unfold fracS at hi ⊢
  by_cases h0 : r = 0
  · rw [if_pos h0] at hi ⊢
    rw [List.nil_append] at hi ⊢
    rw [scan_end (by simp at hi; omega) (by omega)]
    refine ⟨q, (dg q).length, -1, 0, rfl, by simp, by omega, by simp; omega, by omega, by omega⟩
  · rw [if_neg h0] at hi ⊢
    obtain ⟨f1, f2⟩ := frac_facts h0 (by omega)
    obtain ⟨T, eT⟩ : ∃ T, trimZ (dgw 7 r) = T := ⟨_, rfl⟩
    rw [eT] at f1 f2 hi
    rw [eT, List.cons_append, scan, if_neg (fun e => by omega), if_neg (fun e => by omega), if_pos ⟨rfl, by omega⟩]
    have h2 := scan_digs (rateS c).length T (i0 + (dg q).length + 1) [37] q (dg q).length ((dg q).length : Int) f1.2.2.2 (by have := f1.2.1; omega)
    rw [h2, fold_vl, scan_end (by simp at hi; omega) (by omega)]
    refine ⟨_, _, _, T.length, rfl, ?_, f1.2.1, ?_, by omega, by omega⟩
    · rw [if_neg (by omega)]; omega
    · have hT := f1.2.1
      unfold fracN at f2
      rw [vl_zeros_app] at f2
      rw [Nat.add_mul, f2, Nat.mul_assoc, ← Nat.pow_add, show T.length + (7 - T.length) = 7 by omega]
      omega
theorem takeR_two (l : List Int) : (∃ c, takeR l = (c, 0)) ∨ takeR l = (0, 4) := by
  unfold takeR
  split
  · exact .inl ⟨_, rfl⟩
  · exact .inr rfl
theorem pow10_12 {d : Nat} (h : d ≤ 12) : (10 : Int) ^ d ≤ 1000000000000 := by
  have h1 : (10 : Nat) ^ d ≤ 1000000000000 := Nat.le_trans (Nat.pow_le_pow_right (by omega) h) (by decide)
  rw [show (10 : Int) ^ d = ((10 ^ d : Nat) : Int) from (Int.natCast_pow 10 d).symm]
  omega

set_option maxHeartbeats 4000000 in
theorem c_rtakeR (s : ByteArray) (hs : s.size < 1000000) (K) (h : K (.ret (.tup [.int .i64 (takeR (sB s)).1, .int .i64 (takeR (sB s)).2])) []) : VCall Tryd.prog 20 [.str s] [] K := by
  have hb0 := sB_byte s
  have hl := sB_len s
  have hrate : ∀ c, takeR (sB s) = (c, 0) → rateS c = sB s ∧ -10000000000 ≤ c ∧ c ≤ 10000000000 := fun c hc => rate_take hc
  have hfail : scan (sB s).length 0 (sB s) (0, 0, -1) = none → K (.ret (.tup [.int .i64 0, .int .i64 4])) [] := fun hn => by
    rcases takeR_two (sB s) with ⟨c, hc⟩ | hc
    · obtain ⟨h1, h2⟩ := hrate c hc
      obtain ⟨v, d, p, e, h3, _⟩ := scan_rate h2
      rw [h1, hn] at h3; cases h3
    · rw [hc] at h; exact h
  refine call_fun [] 0 Tryd.func20 (by rfl) (by rfl) ?_; (conv => whnf); (repeat (refine step_go [] ?_; conv => whnf))
  let S : Nat × Int × Nat × Int → St := fun ⟨i, v, d, p⟩ => ⟨(.str s :: .undef :: .int .i64 0 :: .int .i64 0 :: .int .i64 v :: .int .i64 d :: .int .i64 p :: .int .i64 i :: .undef :: .undef :: .undef :: .undef :: .undef :: .undef :: .undef :: .undef :: .undef :: .undef :: .undef :: .undef :: .undef :: .undef :: .undef :: .undef :: .undef :: .undef :: .undef :: .undef :: .undef :: .undef :: .undef :: .undef :: .undef :: .undef :: .undef :: .undef :: .undef :: .undef :: .undef :: .undef :: .undef :: .undef :: .undef :: .undef :: .undef :: .undef :: .undef :: .undef :: .undef :: .undef :: .undef :: .undef :: .undef :: .undef :: .undef :: .undef :: .undef :: .undef :: .undef :: .undef :: .undef :: .undef :: .undef :: .undef :: .undef :: .undef :: .undef :: .undef :: .undef :: .undef :: .undef :: .undef :: .undef :: .undef :: .undef :: .undef :: .undef :: .undef :: .undef :: .undef :: .undef :: .undef :: .undef :: .undef :: .undef :: .undef :: .undef :: .undef :: .undef :: .undef :: .undef :: .undef :: .undef :: .undef :: .undef :: .undef :: .undef :: .undef :: .undef :: .undef :: .undef :: .undef :: .undef :: .undef :: .undef :: .undef :: []), [], 0, []⟩
  refine VLoop.enter (s' := S (0, 0, 0, -1)) (weak_of ?_ .nil rfl rfl rfl)
    (VLoop.indW S (fun x => s.size - x.1) (fun x => x.1 ≤ s.size ∧ scan (sB s).length x.1 ((sB s).drop x.1) (x.2.1, x.2.2.1, x.2.2.2) = scan (sB s).length 0 (sB s) (0, 0, -1) ∧ (0 ≤ x.2.1 ∧ x.2.1 < 10 ^ x.2.2.1 ∧ x.2.2.1 ≤ 12 ∧ x.2.2.2 ≤ x.2.2.1 ∧ -1 ≤ x.2.2.2)) ?_ (0, 0, 0, -1) ⟨by simp, by simp, by simp⟩)
  · (repeat' first | exact VWs.nil | refine VWs.cons VW.undef ?_ | refine VWs.cons (VW.eq rfl) ?_)
  rintro ⟨i, v, d, p⟩ ⟨hi, hsc, hb⟩ ih
  simp only at hi hsc hb
  have hp12 := pow10_12 hb.2.2.1
  refine loop_round [] ?_; (conv => whnf); (repeat (refine step_go [] ?_; conv => whnf))
  refine two (fun g => ?_) (fun g => ?_)
  · have g : i < s.size := by have := of_decide_eq_true g; omega
    obtain ⟨x, hx⟩ : ∃ x, (sB s)[i]? = some x := ⟨_, List.getElem?_eq_getElem (by omega)⟩
    have hxb := hb0 x (List.mem_of_getElem? hx)
    have hdrop : (sB s).drop i = x :: (sB s).drop (i + 1) := by
      rw [List.drop_eq_getElem_cons (by omega)]
      congr 1
      rw [List.getElem?_eq_getElem (by omega)] at hx; exact Option.some.inj hx
    (conv => whnf); (repeat (refine step_go [] ?_; conv => whnf))
    refine idx_str (x := x) (by omega) (by rw [Int.toNat_natCast]; exact hx) fun c hc => ?_
    rw [hc]; (conv => whnf); (repeat (refine step_go [] ?_; conv => whnf))
    refine two (fun g1 => ?_) (fun g1 => ?_)
    · have g1 : x = 45 := by simpa using g1
      subst g1
      (conv => whnf); (repeat (refine step_go [] ?_; conv => whnf))
      refine two (fun g2 => ?_) (fun g2 => ?_)
      · have g2 : i = 0 := by have := beq_iff_eq.1 g2; omega
        (conv => whnf); (repeat (refine step_go [] ?_; conv => whnf))
        refine ⟨S (i + 1, v, d, p), weak_of ?_ .nil rfl rfl rfl, ih (i + 1, v, d, p) ⟨by simp only; omega, ?_, ⟨hb.1, hb.2.1, hb.2.2.1, hb.2.2.2.1, hb.2.2.2.2⟩⟩ (by simp only; omega)⟩
        · repeat' first
            | exact VWs.nil
            | refine VWs.cons VW.undef ?_
            | refine VWs.cons (VW.eq rfl) ?_
            | refine VWs.cons (VW.eq (congrArg (V.int .i64) (by rw [wrap64 (by omega) (by omega)]; omega))) ?_
            | refine VWs.cons (VW.eq (congrArg (V.int .i64) e)) ?_
        · simp only; rw [← hsc, hdrop, scan, if_pos ⟨rfl, g2⟩]
      · have g2 : i ≠ 0 := by intro e; rw [e] at g2; simp at g2
        (conv => whnf); (repeat (refine step_go [] ?_; conv => whnf))
        refine idx_str (x := 45) (by omega) (by rw [Int.toNat_natCast]; exact hx) fun c hc => ?_
        rw [hc]; (conv => whnf); (repeat (refine step_go [] ?_; conv => whnf))
        refine idx_str (x := 45) (by omega) (by rw [Int.toNat_natCast]; exact hx) fun c hc => ?_
        rw [hc]; (conv => whnf); (repeat (refine step_go [] ?_; conv => whnf))
        refine idx_str (x := 45) (by omega) (by rw [Int.toNat_natCast]; exact hx) fun c hc => ?_
        rw [hc]; (conv => whnf); (repeat (refine step_go [] ?_; conv => whnf))
        refine c_digit 45 _ ?_; (conv => whnf); (repeat (refine step_go [] ?_; conv => whnf))
        refine ⟨_, Weak.refl, ?_⟩; (conv => whnf); (repeat (refine step_go [] ?_; conv => whnf))
        exact hfail (by rw [← hsc, hdrop, scan, if_neg (fun e => g2 e.2), if_neg (fun e => by omega), if_neg (fun e => by omega), if_neg (fun e => by have := e.1; unfold Dig at this; omega)])
    · have g1 : x ≠ 45 := by simpa using g1
      (conv => whnf); (repeat (refine step_go [] ?_; conv => whnf))
      refine idx_str (x := x) (by omega) (by rw [Int.toNat_natCast]; exact hx) fun c hc => ?_
      rw [hc]; (conv => whnf); (repeat (refine step_go [] ?_; conv => whnf))
      refine two (fun g2 => ?_) (fun g2 => ?_)
      · have g2 : x = 37 := by simpa using g2
        subst g2
        (conv => whnf); (repeat (refine step_go [] ?_; conv => whnf))
        have hw : IntKind.i64.wrap ((s.size : Int) - 1) = (s.size : Int) - 1 := wrap64 (by omega) (by omega)
        rw [hw]
        refine two (fun g3 => ?_) (fun g3 => ?_)
        · have g3 : i + 1 = (sB s).length := by have := beq_iff_eq.1 g3; omega
          (conv => whnf); (repeat (refine step_go [] ?_; conv => whnf))
          refine ⟨S (i + 1, v, d, p), weak_of ?_ .nil rfl rfl rfl, ih (i + 1, v, d, p) ⟨by simp only; omega, ?_, ⟨hb.1, hb.2.1, hb.2.2.1, hb.2.2.2.1, hb.2.2.2.2⟩⟩ (by simp only; omega)⟩
          · repeat' first
              | exact VWs.nil
              | refine VWs.cons VW.undef ?_
              | refine VWs.cons (VW.eq rfl) ?_
              | refine VWs.cons (VW.eq (congrArg (V.int .i64) (by rw [wrap64 (by omega) (by omega)]; omega))) ?_
              | refine VWs.cons (VW.eq (congrArg (V.int .i64) e)) ?_
          · simp only; rw [← hsc, hdrop, scan, if_neg (fun e => by omega), if_pos ⟨rfl, g3⟩]
        · have g3 : ¬ i + 1 = (sB s).length := by intro e; rw [show (i : Int) = (s.size : Int) - 1 by omega] at g3; simp at g3
          (conv => whnf); (repeat (refine step_go [] ?_; conv => whnf))
          refine idx_str (x := 37) (by omega) (by rw [Int.toNat_natCast]; exact hx) fun c hc => ?_
          rw [hc]; (conv => whnf); (repeat (refine step_go [] ?_; conv => whnf))
          refine idx_str (x := 37) (by omega) (by rw [Int.toNat_natCast]; exact hx) fun c hc => ?_
          rw [hc]; (conv => whnf); (repeat (refine step_go [] ?_; conv => whnf))
          refine c_digit 37 _ ?_; (conv => whnf); (repeat (refine step_go [] ?_; conv => whnf))
          refine ⟨_, Weak.refl, ?_⟩; (conv => whnf); (repeat (refine step_go [] ?_; conv => whnf))
          exact hfail (by rw [← hsc, hdrop, scan, if_neg (fun e => by omega), if_neg (fun e => g3 e.2), if_neg (fun e => by omega), if_neg (fun e => by have := e.1; unfold Dig at this; omega)])
      · have g2 : x ≠ 37 := by simpa using g2
        (conv => whnf); (repeat (refine step_go [] ?_; conv => whnf))
        refine idx_str (x := x) (by omega) (by rw [Int.toNat_natCast]; exact hx) fun c hc => ?_
        rw [hc]; (conv => whnf); (repeat (refine step_go [] ?_; conv => whnf))
        refine two (fun g3 => ?_) (fun g3 => ?_)
        · have g3 : x = 46 := by simpa using g3
          subst g3
          (conv => whnf); (repeat (refine step_go [] ?_; conv => whnf))
          refine two (fun g4 => ?_) (fun g4 => ?_)
          · have g4 := of_decide_eq_true g4
            (conv => whnf); (repeat (refine step_go [] ?_; conv => whnf))
            refine ⟨S (i + 1, v, d, (d : Int)), weak_of ?_ .nil rfl rfl rfl, ih (i + 1, v, d, (d : Int)) ⟨by simp only; omega, ?_, ⟨hb.1, hb.2.1, hb.2.2.1, by simp only; omega, by simp only; omega⟩⟩ (by simp only; omega)⟩
            · repeat' first
                | exact VWs.nil
                | refine VWs.cons VW.undef ?_
                | refine VWs.cons (VW.eq rfl) ?_
                | refine VWs.cons (VW.eq (congrArg (V.int .i64) (by rw [wrap64 (by omega) (by omega)]; omega))) ?_
                | refine VWs.cons (VW.eq (congrArg (V.int .i64) e)) ?_
            · simp only; rw [← hsc, hdrop, scan, if_neg (fun e => by omega), if_neg (fun e => by omega), if_pos ⟨rfl, g4⟩]
          · have g4 := of_decide_eq_false g4
            (conv => whnf); (repeat (refine step_go [] ?_; conv => whnf))
            refine idx_str (x := 46) (by omega) (by rw [Int.toNat_natCast]; exact hx) fun c hc => ?_
            rw [hc]; (conv => whnf); (repeat (refine step_go [] ?_; conv => whnf))
            refine c_digit 46 _ ?_; (conv => whnf); (repeat (refine step_go [] ?_; conv => whnf))
            refine ⟨_, Weak.refl, ?_⟩; (conv => whnf); (repeat (refine step_go [] ?_; conv => whnf))
            exact hfail (by rw [← hsc, hdrop, scan, if_neg (fun e => by omega), if_neg (fun e => by omega), if_neg (fun e => g4 e.2), if_neg (fun e => by have := e.1; unfold Dig at this; omega)])
        · have g3 : x ≠ 46 := by simpa using g3
          (conv => whnf); (repeat (refine step_go [] ?_; conv => whnf))
          refine idx_str (x := x) (by omega) (by rw [Int.toNat_natCast]; exact hx) fun c hc => ?_
          rw [hc]; (conv => whnf); (repeat (refine step_go [] ?_; conv => whnf))
          refine c_digit x _ ?_; (conv => whnf); (repeat (refine step_go [] ?_; conv => whnf))
          refine two (fun g4 => ?_) (fun g4 => ?_)
          · have g4 := of_decide_eq_true g4
            (conv => whnf); (repeat (refine step_go [] ?_; conv => whnf))
            refine two (fun g5 => ?_) (fun g5 => ?_)
            · have g5 := of_decide_eq_true g5
              (conv => whnf); (repeat (refine step_go [] ?_; conv => whnf))
              refine idx_str (x := x) (by omega) (by rw [Int.toNat_natCast]; exact hx) fun c hc => ?_
              rw [hc]; (conv => whnf); (repeat (refine step_go [] ?_; conv => whnf))
              have g4' := g4
              unfold Dig at g4'
              have hp11 := pow10_12 (d := d + 1) (by omega)
              have hpw : (10 : Int) ^ (d + 1) = 10 ^ d * 10 := Int.pow_succ ..
              have e : IntKind.i64.wrap (IntKind.i64.wrap (10 * v) + IntKind.i64.wrap (IntKind.u8.wrap (x - 48))) = 10 * v + (x - 48) := by
                rw [wrapu8' (by omega) (by omega), wrap64 (x := 10 * v) (by omega) (by omega), wrap64 (x := x - 48) (by omega) (by omega), wrap64 (by omega) (by omega)]
              refine ⟨S (i + 1, 10 * v + (x - 48), d + 1, p), weak_of ?_ .nil rfl rfl rfl, ih (i + 1, 10 * v + (x - 48), d + 1, p) ⟨by simp only; omega, ?_, ⟨by simp only; omega, by simp only; omega, by simp only; omega, by simp only; omega, hb.2.2.2.2⟩⟩ (by simp only; omega)⟩
              · repeat' first
                  | exact VWs.nil
                  | refine VWs.cons VW.undef ?_
                  | refine VWs.cons (VW.eq rfl) ?_
                  | refine VWs.cons (VW.eq (congrArg (V.int .i64) (by rw [wrap64 (by omega) (by omega)]; omega))) ?_
                  | refine VWs.cons (VW.eq (congrArg (V.int .i64) e)) ?_
              · simp only; rw [← hsc, hdrop, scan, if_neg (fun e => g1 e.1), if_neg (fun e => g2 e.1), if_neg (fun e => g3 e.1), if_pos ⟨g4, by omega⟩]
            · have g5 := of_decide_eq_false g5
              (conv => whnf); (repeat (refine step_go [] ?_; conv => whnf))
              refine ⟨_, Weak.refl, ?_⟩; (conv => whnf); (repeat (refine step_go [] ?_; conv => whnf))
              exact hfail (by rw [← hsc, hdrop, scan, if_neg (fun e => g1 e.1), if_neg (fun e => g2 e.1), if_neg (fun e => g3 e.1), if_neg (fun e => by omega)])
          · have g4 := of_decide_eq_false g4
            (conv => whnf); (repeat (refine step_go [] ?_; conv => whnf))
            refine ⟨_, Weak.refl, ?_⟩; (conv => whnf); (repeat (refine step_go [] ?_; conv => whnf))
            exact hfail (by rw [← hsc, hdrop, scan, if_neg (fun e => g1 e.1), if_neg (fun e => g2 e.1), if_neg (fun e => g3 e.1), if_neg (fun e => g4 e.1)])
  · have g : i = s.size := by have := of_decide_eq_false g; omega
    clear ih
    subst g
    rw [List.drop_of_length_le (by omega), scan] at hsc
    have key : ∀ (R G : Prop), ((Unit → R) → G) → R → G := fun R G h1 h2 => h1 fun _ => h2
    (conv => whnf); (repeat (refine step_go [] ?_; conv => whnf))
    refine ⟨_, Weak.refl, ?_⟩; (conv => whnf); (repeat (refine step_go [] ?_; conv => whnf))
    obtain ⟨q, hq⟩ : ∃ q, (if p < 0 then (d : Int) else p) = q := ⟨_, rfl⟩
    have hq2 : 0 ≤ q ∧ q ≤ d := by
      rw [← hq]; split <;> omega
    obtain ⟨e0, he0⟩ : ∃ e0 : Nat, (d : Int) - q = e0 := ⟨((d : Int) - q).toNat, by omega⟩
    let Sm : St := ⟨(.str s :: .undef :: .int .i64 0 :: .int .i64 0 :: .int .i64 v :: .int .i64 d :: .int .i64 q :: .undef :: .undef :: .undef :: .undef :: .undef :: .undef :: .undef :: .undef :: .undef :: .undef :: .undef :: .undef :: .undef :: .undef :: .undef :: .undef :: .undef :: .undef :: .undef :: .undef :: .undef :: .undef :: .undef :: .undef :: .undef :: .undef :: .undef :: .undef :: .undef :: .undef :: .undef :: .undef :: .undef :: .undef :: .undef :: .undef :: .undef :: .undef :: .undef :: .undef :: .undef :: .undef :: .undef :: .undef :: .undef :: .undef :: .undef :: .undef :: .undef :: .undef :: .undef :: .undef :: .undef :: .undef :: .undef :: .undef :: .undef :: .undef :: .undef :: .undef :: .undef :: .undef :: .undef :: .undef :: .undef :: .undef :: .undef :: .undef :: .undef :: .undef :: .undef :: .undef :: .undef :: .undef :: .undef :: .undef :: .undef :: .undef :: .undef :: .undef :: .undef :: .undef :: .undef :: .undef :: .undef :: .undef :: .undef :: .undef :: .undef :: .undef :: .undef :: .undef :: .undef :: .undef :: .undef :: .undef :: .undef :: .undef :: .undef :: []), [], 0, []⟩
    refine key ?GoR _ ?GoH ?GoT
    case GoH =>
      intro rest
      refine two (fun g => ?_) (fun g => ?_)
      · have g := of_decide_eq_true g
        conv => whnf
        have e : (d : Int) = q := by rw [← hq, if_pos g]
        refine VStep.weak (s' := Sm) (weak_of ?_ .nil rfl rfl rfl) ?_
        · repeat' first
            | exact VWs.nil
            | refine VWs.cons VW.undef ?_
            | refine VWs.cons (VW.eq rfl) ?_
            | refine VWs.cons (VW.eq (congrArg (V.int .i64) e)) ?_
        exact rest ()
      · have g := of_decide_eq_false g
        conv => whnf
        have e : p = q := by rw [← hq, if_neg g]
        refine VStep.weak (s' := Sm) (weak_of ?_ .nil rfl rfl rfl) ?_
        · repeat' first
            | exact VWs.nil
            | refine VWs.cons VW.undef ?_
            | refine VWs.cons (VW.eq rfl) ?_
            | refine VWs.cons (VW.eq (congrArg (V.int .i64) e)) ?_
        exact rest ()
    case GoT =>
    (conv => whnf); (repeat (refine step_go [] ?_; conv => whnf))
    rw [show IntKind.i64.wrap ((d : Int) - q) = (e0 : Int) by rw [wrap64 (by omega) (by omega)]; exact he0]
    have hvI : I64 v := ⟨by omega, by omega⟩
    let S2 : Nat × Int → St := fun ⟨j, w⟩ => ⟨(.str s :: .undef :: .int .i64 0 :: .int .i64 0 :: .int .i64 w :: .int .i64 d :: .int .i64 q :: .undef :: .int .i64 j :: .undef :: .undef :: .undef :: .undef :: .undef :: .undef :: .undef :: .undef :: .undef :: .undef :: .undef :: .undef :: .undef :: .undef :: .undef :: .undef :: .undef :: .undef :: .undef :: .undef :: .undef :: .undef :: .undef :: .undef :: .undef :: .undef :: .undef :: .undef :: .undef :: .undef :: .undef :: .undef :: .undef :: .undef :: .undef :: .undef :: .undef :: .undef :: .undef :: .undef :: .undef :: .undef :: .undef :: .undef :: .undef :: .undef :: .undef :: .undef :: .undef :: .undef :: .undef :: .undef :: .undef :: .undef :: .undef :: .undef :: .undef :: .undef :: .undef :: .undef :: .undef :: .undef :: .undef :: .undef :: .undef :: .undef :: .undef :: .undef :: .undef :: .undef :: .undef :: .undef :: .undef :: .undef :: .undef :: .undef :: .undef :: .undef :: .undef :: .undef :: .undef :: .undef :: .undef :: .undef :: .undef :: .undef :: .undef :: .undef :: .undef :: .undef :: .undef :: .undef :: .undef :: .undef :: .undef :: .undef :: .undef :: []), [], 0, []⟩
    refine VLoop.enter (s' := S2 (e0, v)) (weak_of ?_ .nil rfl rfl rfl)
      (VLoop.indW S2 (fun x => 20 - x.1) (fun x => x.1 ≤ 12 ∧ mul10 (7 - x.1) x.2 = mul10 (7 - e0) v ∧ (x.1 ≤ 7 ∨ x.1 = e0)) ?_ (e0, v) ⟨by simp only; omega, rfl, .inr rfl⟩)
    · (repeat' first | exact VWs.nil | refine VWs.cons VW.undef ?_ | refine VWs.cons (VW.eq rfl) ?_)
    rintro ⟨j, w⟩ ⟨hj, hm, hj7⟩ ih
    simp only at hj hm hj7
    refine loop_round [] ?_; (conv => whnf); (repeat (refine step_go [] ?_; conv => whnf))
    refine two (fun g => ?_) (fun g => ?_)
    · have g : j < 7 := by have := of_decide_eq_true g; omega
      (conv => whnf); (repeat (refine step_go [] ?_; conv => whnf))
      refine ⟨S2 (j + 1, IntKind.i64.wrap (10 * w)), weak_of ?_ .nil rfl rfl rfl, ih (j + 1, IntKind.i64.wrap (10 * w)) ⟨by simp only; omega, ?_, .inl (by simp only; omega)⟩ (by simp only; omega)⟩
      · repeat' first
          | exact VWs.nil
          | refine VWs.cons VW.undef ?_
          | refine VWs.cons (VW.eq rfl) ?_
          | refine VWs.cons (VW.eq (congrArg (V.int .i64) (by rw [wrap64 (x := (j : Int) + 1) (by omega) (by omega)]; omega))) ?_
      · simp only
        rw [← hm, show 7 - j = (7 - (j + 1)) + 1 by omega, mul10]
    have g : 7 ≤ j := by have := of_decide_eq_false g; omega
    clear ih
    rw [show 7 - j = 0 by omega, mul10] at hm
    have hwI : I64 w := by rw [hm]; exact mul10_I64 _ _ hvI
    -- what the number has to be
    have good : ∀ c, takeR (sB s) = (c, 0) → e0 ≤ 7 ∧ w = c.natAbs ∧ ((sB s).head? = some 45 ↔ c < 0) := fun c hc => by
      obtain ⟨h1, h2⟩ := hrate c hc
      obtain ⟨v', d', p', e', q1, q2, q3, q4, q5, q6⟩ := scan_rate h2
      rw [h1, ← hsc] at q1
      simp only [Option.some.injEq, Prod.mk.injEq] at q1
      obtain ⟨r1, r2, r3⟩ := q1
      subst r2; subst r3
      rw [hq] at q2
      have hee : e' = e0 := by omega
      subst hee
      refine ⟨q3, ?_, ?_⟩
      · rw [hm, r1, mul10_eq _ _ (by rw [q4]; omega), q4]
      · rw [← h1]
        unfold rateS
        by_cases hc0 : c < 0
        · unfold sgn; rw [if_pos hc0]; simp [hc0]
        · unfold sgn
          rw [if_neg hc0]
          obtain ⟨y, r, hy, hyd⟩ := dg_cons (c.natAbs / 10000000)
          rw [hy]
          unfold Dig at hyd
          simp [hc0]; omega
    (conv => whnf); (repeat (refine step_go [] ?_; conv => whnf))
    refine ⟨_, Weak.refl, ?_⟩; (conv => whnf); (repeat (refine step_go [] ?_; conv => whnf))
    have fail4 : (∀ c, takeR (sB s) = (c, 0) → False) → K (.ret (.tup [.int .i64 0, .int .i64 4])) [] := fun hn => by
      rcases takeR_two (sB s) with ⟨c, hc⟩ | hc
      · exact (hn c hc).elim
      · rw [hc] at h; exact h
    obtain ⟨V, hV⟩ : ∃ V, (if (sB s).head? = some 45 then IntKind.i64.wrap (0 - w) else w) = V := ⟨_, rfl⟩
    have hwr : ∀ y : Int, I64 (IntKind.i64.wrap y) := fun y => by
      have : IntKind.i64.wrap y = (y + 9223372036854775808) % 18446744073709551616 - 9223372036854775808 := IntKind.wrap_i64 _
      unfold I64; omega
    have hVI : I64 V := by
      rw [← hV]; split
      · exact hwr _
      · exact hwI
    have good2 : ∀ c, takeR (sB s) = (c, 0) → e0 ≤ 7 ∧ V = c ∧ rateS c = sB s ∧ -10000000000 ≤ c ∧ c ≤ 10000000000 := fun c hc => by
      obtain ⟨h1, h2, h3⟩ := good c hc
      obtain ⟨h4, h5⟩ := hrate c hc
      refine ⟨h1, ?_, h4, h5⟩
      rw [← hV]
      by_cases hc0 : c < 0
      · rw [if_pos (h3.2 hc0), wrap64 (by omega) (by omega)]; omega
      · rw [if_neg (fun e => hc0 (h3.1 e))]; omega
    let Sn : St := ⟨(.str s :: .undef :: .int .i64 0 :: .int .i64 0 :: .int .i64 V :: .int .i64 d :: .int .i64 q :: .undef :: .undef :: .undef :: .undef :: .undef :: .undef :: .undef :: .undef :: .undef :: .undef :: .undef :: .undef :: .undef :: .undef :: .undef :: .undef :: .undef :: .undef :: .undef :: .undef :: .undef :: .undef :: .undef :: .undef :: .undef :: .undef :: .undef :: .undef :: .undef :: .undef :: .undef :: .undef :: .undef :: .undef :: .undef :: .undef :: .undef :: .undef :: .undef :: .undef :: .undef :: .undef :: .undef :: .undef :: .undef :: .undef :: .undef :: .undef :: .undef :: .undef :: .undef :: .undef :: .undef :: .undef :: .undef :: .undef :: .undef :: .undef :: .undef :: .undef :: .undef :: .undef :: .undef :: .undef :: .undef :: .undef :: .undef :: .undef :: .undef :: .undef :: .undef :: .undef :: .undef :: .undef :: .undef :: .undef :: .undef :: .undef :: .undef :: .undef :: .undef :: .undef :: .undef :: .undef :: .undef :: .undef :: .undef :: .undef :: .undef :: .undef :: .undef :: .undef :: .undef :: .undef :: .undef :: .undef :: .undef :: .undef :: .undef :: []), [], 0, []⟩
    refine key ?GoR2 _ ?GoH2 ?GoT2
    case GoH2 =>
      intro rest
      refine two (fun g => ?_) (fun g => ?_)
      · have g : 0 < s.size := by have := of_decide_eq_true g; omega
        obtain ⟨x, r, hx⟩ : ∃ x r, sB s = x :: r := by
          cases hc : sB s with
          | nil => rw [hc] at hl; simp at hl; omega
          | cons x r => exact ⟨x, r, rfl⟩
        conv => whnf
        refine idx_str (x := x) (by omega) (by rw [hx]; rfl) fun c hc => ?_
        rw [hc]; (conv => whnf); (repeat (refine step_go [] ?_; conv => whnf))
        refine two (fun g2 => ?_) (fun g2 => ?_)
        · have g2 : x = 45 := by simpa using g2
          conv => whnf
          have e : IntKind.i64.wrap (0 - w) = V := by rw [← hV, if_pos (by rw [hx, g2]; rfl)]
          rw [e]
          refine VStep.weak (s' := Sn) (weak_of ?_ .nil rfl rfl rfl) ?_
          · (repeat' first | exact VWs.nil | refine VWs.cons VW.undef ?_ | refine VWs.cons (VW.eq rfl) ?_)
          exact rest ()
        · have g2 : x ≠ 45 := by simpa using g2
          conv => whnf
          have e : w = V := by rw [← hV, if_neg (by rw [hx]; simpa using g2)]
          rw [e]
          refine VStep.weak (s' := Sn) (weak_of ?_ .nil rfl rfl rfl) ?_
          · (repeat' first | exact VWs.nil | refine VWs.cons VW.undef ?_ | refine VWs.cons (VW.eq rfl) ?_)
          exact rest ()
      · have g : s.size = 0 := by have := of_decide_eq_false g; omega
        conv => whnf
        refine step_go [] ?_; conv => whnf
        have e : w = V := by rw [← hV, if_neg (by rw [List.length_eq_zero_iff.1 (show (sB s).length = 0 by omega)]; simp)]
        rw [e]
        refine VStep.weak (s' := Sn) (weak_of ?_ .nil rfl rfl rfl) ?_
        · (repeat' first | exact VWs.nil | refine VWs.cons VW.undef ?_ | refine VWs.cons (VW.eq rfl) ?_)
        exact rest ()
    case GoT2 =>
    (conv => whnf); (repeat (refine step_go [] ?_; conv => whnf))
    rw [show IntKind.i64.wrap ((d : Int) - q) = (e0 : Int) by rw [wrap64 (by omega) (by omega)]; exact he0]
    refine two (fun g1 => ?_) (fun g1 => ?_)
    · have g1 := of_decide_eq_true g1
      (conv => whnf); (repeat (refine step_go [] ?_; conv => whnf))
      exact fail4 fun c hc => by have := (good2 c hc).1; omega
    have g1 := of_decide_eq_false g1
    (conv => whnf); (repeat (refine step_go [] ?_; conv => whnf))
    refine two (fun g2 => ?_) (fun g2 => ?_)
    · have g2 := of_decide_eq_true g2
      (conv => whnf); (repeat (refine step_go [] ?_; conv => whnf))
      exact fail4 fun c hc => by have := good2 c hc; omega
    have g2 := of_decide_eq_false g2
    (conv => whnf); (repeat (refine step_go [] ?_; conv => whnf))
    refine two (fun g3 => ?_) (fun g3 => ?_)
    · have g3 := of_decide_eq_true g3
      (conv => whnf); (repeat (refine step_go [] ?_; conv => whnf))
      exact fail4 fun c hc => by have := good2 c hc; omega
    have g3 := of_decide_eq_false g3
    (conv => whnf); (repeat (refine step_go [] ?_; conv => whnf))
    refine c_rrate V hVI _ ?_; (conv => whnf); (repeat (refine step_go [] ?_; conv => whnf))
    rw [str_beq, sB_toBA (B14.rateS_byte V)]
    refine two (fun g4 => ?_) (fun g4 => ?_)
    · have g4 : rateS V ≠ sB s := by simpa using g4
      (conv => whnf); (repeat (refine step_go [] ?_; conv => whnf))
      exact fail4 fun c hc => by
        obtain ⟨_, h2, h3, _⟩ := good2 c hc
        rw [h2] at g4; exact g4 h3
    · have g4 : rateS V = sB s := by simpa using g4
      (conv => whnf); (repeat (refine step_go [] ?_; conv => whnf))
      have ht := take_rate hVI
      rw [g4, if_pos (by omega)] at ht
      rw [ht] at h
      exact h
end B22

namespace B23
open Go Go.Proofs VL D1 B5 B7 B8 B10 B11 B12 B13 D2 B14 D3 B15 B16 B20 B21 B22
set_option pp.maxSteps 300
set_option maxRecDepth 100000
set_option linter.unusedVariables false
set_option linter.unusedSimpArgs false

set_option maxHeartbeats 4000000 in
theorem tells (v : Int) (hv : I64 v) (s t : ByteArray) : VCall Tryd.prog 6 [.int .i64 v, .str s, .str t] [] fun out _ => out = .ret (.bool true) := by
  refine call_fun [] 0 Tryd.func6 (by rfl) (by rfl) ?_; (conv => whnf); (repeat (refine step_go [] ?_; conv => whnf))
  refine two (fun g => ?_) (fun g => ?_)
  · (conv => whnf); (repeat (refine step_go [] ?_; conv => whnf))
    refine c_awake _ ?_; (conv => whnf); (repeat (refine step_go [] ?_; conv => whnf))
  have g := of_decide_eq_false g
  (conv => whnf); (repeat (refine step_go [] ?_; conv => whnf))
  refine two (fun g2 => ?_) (fun g2 => ?_)
  · (conv => whnf); (repeat (refine step_go [] ?_; conv => whnf))
    refine c_awake _ ?_; (conv => whnf); (repeat (refine step_go [] ?_; conv => whnf))
  have g2 := of_decide_eq_false g2
  (conv => whnf); (repeat (refine step_go [] ?_; conv => whnf))
  refine c_takeM _ (by omega) _ ?_; (conv => whnf); (repeat (refine step_go [] ?_; conv => whnf))
  refine c_rtakeM _ (by omega) _ ?_; (conv => whnf); (repeat (refine step_go [] ?_; conv => whnf))
  refine c_takeR _ (by omega) _ ?_; (conv => whnf); (repeat (refine step_go [] ?_; conv => whnf))
  refine c_rtakeR _ (by omega) _ ?_; (conv => whnf); (repeat (refine step_go [] ?_; conv => whnf))
  refine c_awake _ ?_; (conv => whnf); (repeat (refine step_go [] ?_; conv => whnf))
  refine c_money _ hv _ ?_; (conv => whnf); (repeat (refine step_go [] ?_; conv => whnf))
  refine c_rmoney _ hv _ ?_; (conv => whnf); (repeat (refine step_go [] ?_; conv => whnf))
  refine yes (by rw [str_beq]; simp) ?_; (conv => whnf); (repeat (refine step_go [] ?_; conv => whnf))
  refine c_rate _ hv _ ?_; (conv => whnf); (repeat (refine step_go [] ?_; conv => whnf))
  refine c_rrate _ hv _ ?_; (conv => whnf); (repeat (refine step_go [] ?_; conv => whnf))
  refine yes (by rw [str_beq]; simp) ?_; (conv => whnf); (repeat (refine step_go [] ?_; conv => whnf))
  refine yes (beq_self_eq_true _) ?_; (conv => whnf); (repeat (refine step_go [] ?_; conv => whnf))
  refine yes (beq_self_eq_true _) ?_; (conv => whnf); (repeat (refine step_go [] ?_; conv => whnf))
  refine yes (beq_self_eq_true _) ?_; (conv => whnf); (repeat (refine step_go [] ?_; conv => whnf))
  exact congrArg (fun b => Out.ret (V.bool b)) (beq_self_eq_true _)
end B23
