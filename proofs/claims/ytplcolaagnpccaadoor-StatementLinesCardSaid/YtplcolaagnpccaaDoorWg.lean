/- Part Wg of the proof: B5 B6 B7 B8 B9 B10 B11 B12 B13 D2 B14 D3 B15 B16 B17 B18 B19. -/
import Derived.Test.YtplcolaagnpccaaDoorWf
import Derived.Test.YtplcolaagnpccaaDoorWe
namespace B5
open Go Go.Proofs VL B1 D1 B2 B3 B4
set_option pp.maxSteps 300
set_option maxRecDepth 100000
set_option linter.unusedVariables false
set_option linter.unusedSimpArgs false

theorem c_small (n : Nat) (h : n < 100) (K) (hk : K (.ret (.str (toBA (dg n)))) []) : VCall Tryd.prog 90 [.int .i64 (n : Int)] [] K := by
  refine call_fun [] 0 Tryd.func90 (by rfl) (by rfl) ?_
  conv => whnf
  repeat (refine step_go [] ?_; conv => whnf)
  refine two (fun g => ?_) (fun g => ?_)
  · have g : n < 10 := by simp at g; omega
    conv => whnf
    repeat (refine step_go [] ?_; conv => whnf)
    refine ⟨by omega, by rw [wrap64 (by omega) (by omega)]; omega, ?_, ?_⟩
    · rw [wrap64 (by omega) (by omega)]
      refine Int.le_trans (b := 36) (by omega) ?_
      decide +kernel
    conv => whnf
    repeat (refine step_go [] ?_; conv => whnf)
    refine Eq.mp (congrArg (fun x => K (Out.ret (V.str x)) []) ?_) hk
    rw [wrap64 (by omega) (by omega)]
    apply sB_inj
    rw [sB_toBA (dg_byte n), sB_ext, dg_small g]
    have : n = 0 ∨ n = 1 ∨ n = 2 ∨ n = 3 ∨ n = 4 ∨ n = 5 ∨ n = 6 ∨ n = 7 ∨ n = 8 ∨ n = 9 := by omega
    rcases this with rfl | rfl | rfl | rfl | rfl | rfl | rfl | rfl | rfl | rfl <;> decide +kernel
  · have g : 10 ≤ n := by simp at g; omega
    conv => whnf
    repeat (refine step_go [] ?_; conv => whnf)
    have w1 : IntKind.i64.wrap ((n : Int) * 2) = ((n * 2 : Nat) : Int) := by rw [wrap64 (by omega) (by omega)]; omega
    have w2 : IntKind.i64.wrap (((n * 2 : Nat) : Int) + 2) = ((n * 2 + 2 : Nat) : Int) := by rw [wrap64 (by omega) (by omega)]; omega
    rw [w1, w2]
    refine ⟨by omega, by omega, ?_, ?_⟩
    · refine Int.le_trans (b := 200) (by omega) ?_
      decide +kernel
    conv => whnf
    repeat (refine step_go [] ?_; conv => whnf)
    refine Eq.mp (congrArg (fun x => K (Out.ret (V.str x)) []) ?_) hk
    apply sB_inj
    rw [sB_toBA (dg_byte n), sB_ext, dg_big g, dg_small (by omega)]
    apply List.ext_getElem?
    intro i
    rw [Int.toNat_natCast, Int.toNat_natCast, List.getElem?_drop, List.getElem?_take]
    match i with
    | 0 =>
      rw [if_pos (by omega), tabs 200 sm (by decide +kernel) _ (by omega), Nat.add_zero, sm_hi n h]
      simp; omega
    | 1 =>
      rw [if_pos (by omega), tabs 200 sm (by decide +kernel) _ (by omega), sm_lo]
      simp
    | i + 2 =>
      rw [if_neg (by omega)]; simp

theorem bL_v {l : List Int} (h : ∀ x ∈ l, 0 ≤ x ∧ x < 256) : ∃ bs : ByteArray, bL l = bytesV bs ∧ bs = toBA l := ⟨_, toBA_V h, rfl⟩

theorem dg_len20 {n : Nat} (h : n < 18446744073709551616) : (dg n).length ≤ 20 := dg_len_le 19 n (by omega)
theorem dg_pow (n : Nat) : n < 10 ^ (dg n).length := by
  have := vl_lt (dg n) (dg_dig n)
  rwa [vl_dg] at this
theorem dgw_dg (n : Nat) : dgw (dg n).length n = dg n := by
  have := dgw_vl (dg n) (dg_dig n)
  rwa [vl_dg] at this

theorem c_fu (n : Nat) (h : n < 18446744073709551616) (K) (hk : K (.ret (.str (toBA (dg n)))) []) : VCall Tryd.prog 75 [.int .u64 (n : Int), .int .i64 10] [] K := by
  have hl := dg_len20 h
  refine call_fun [5] 0 Tryd.func75 (by rfl) (by rfl) ?_
  conv => whnf
  repeat (refine step_go [5] ?_; conv => whnf)
  refine two (fun g => ?_) (fun g => ?_)
  · have g : n < 100 := by simp at g; omega
    conv => whnf
    repeat (refine step_go [5] ?_; conv => whnf)
    rw [wrap64 (by omega) (by omega)]
    refine c_small n g _ ?_; conv => whnf
    repeat (refine step_go [5] ?_; conv => whnf)
    exact hk
  · have g : 100 ≤ n := by simp at g; omega
    conv => whnf
    repeat (refine step_go [5] ?_; conv => whnf)
    refine c_numDigits n (by omega) h _ ?_; conv => whnf
    repeat (refine step_go [5] ?_; conv => whnf)
    refine ⟨by omega, by omega, ?_⟩; conv => whnf
    rw [Int.toNat_natCast]
    refine c_format (List.replicate 24 0) 0 (dg n).length 24 n (by simp; omega) (by simp) h hl (dg_pow n) _ ?_; conv => whnf
    repeat (refine step_go [5] ?_; conv => whnf)
    refine ⟨by omega, by omega, ?_⟩; conv => whnf
    rw [Int.toNat_natCast, List.take_zero, List.nil_append]
    refine ⟨by simp [bL_len, dgw_len], toBA (dg n), ?_, ?_⟩
    · rw [← toBA_V (dg_byte n), dgw_dg]
      unfold bL
      rw [List.drop_zero, ← List.map_take, List.take_left]
    conv => whnf
    repeat (refine step_go [5] ?_; conv => whnf)
    exact hk

theorem c_fuo (n : Nat) (h : n < 18446744073709551616) (K) (hk : K (.ret (.str (toBA (dg n)))) []) : VCall Tryd.prog 55 [.int .u64 (n : Int), .int .i64 10] [] K := by
  refine call_fun [] 0 Tryd.func55 (by rfl) (by rfl) ?_
  conv => whnf
  repeat (refine step_go [] ?_; conv => whnf)
  refine c_fu n h _ ?_; conv => whnf
  repeat (refine step_go [] ?_; conv => whnf)
  exact hk

/-- a number's text -/
def dgi (v : Int) : List Int := if v < 0 then 45 :: dg (-v).toNat else dg v.toNat
theorem dgi_byte (v : Int) : ∀ x ∈ dgi v, 0 ≤ x ∧ x < 256 := by
  unfold dgi
  split
  · intro x hx
    rcases List.mem_cons.1 hx with rfl | hx
    · omega
    · exact dg_byte _ x hx
  · exact dg_byte _
theorem dgi_neg {v : Int} (h : v < 0) : dgi v = 45 :: dg (-v).toNat := by unfold dgi; rw [if_pos h]
theorem dgi_pos {v : Int} (h : 0 ≤ v) : dgi v = dg v.toNat := by unfold dgi; rw [if_neg (by omega)]

theorem wrapu64_neg {v : Int} (h1 : -9223372036854775808 ≤ v) (h2 : v < 0) : IntKind.u64.wrap v = v + 18446744073709551616 := by
  have : IntKind.u64.wrap v = v % 18446744073709551616 := by unfold IntKind.wrap; simp [IntKind.bits, IntKind.signed]
  omega

theorem tail_str {n k : Nat} {l : List Int} (hl : l.length = 24) (h : 1 + k ≤ 24) (hk : k = (dg n).length) (d : Int) :
    List.take (1 + k) (List.drop 0 ((bL (List.take 1 l ++ (dgw k n ++ l.drop (1 + k)))).set 0 (.int .u8 d))) = bL (d :: dg n) := by
  subst hk
  obtain ⟨x, m, rfl⟩ : ∃ x m, l = x :: m := by cases l with | nil => simp at hl | cons x m => exact ⟨x, m, rfl⟩
  rw [dgw_dg]
  simp only [List.take_succ_cons, List.take_zero, List.cons_append, List.nil_append, List.drop_zero, bL, List.map_cons, List.set_cons_zero]
  rw [Nat.add_comm 1, List.take_succ_cons, List.map_append]
  congr 1
  rw [show (dg n).length = (List.map (V.int .u8) (dg n)).length by simp, List.take_left]
theorem tail_str2 {n k : Nat} {l : List Int} (hl : l.length = 24) (h : 1 + k ≤ 24) (hk : k = (dg n).length) :
    List.take k (List.drop 1 (bL (List.take 1 l ++ (dgw k n ++ l.drop (1 + k))))) = bL (dg n) := by
  subst hk
  obtain ⟨x, m, rfl⟩ : ∃ x m, l = x :: m := by cases l with | nil => simp at hl | cons x m => exact ⟨x, m, rfl⟩
  rw [dgw_dg]
  simp only [List.take_succ_cons, List.take_zero, List.cons_append, List.nil_append, List.drop_succ_cons, List.drop_zero, bL, List.map_cons, List.map_append]
  rw [show (dg n).length = (List.map (V.int .u8) (dg n)).length by simp, List.take_left]

set_option maxHeartbeats 4000000 in
theorem c_fi (v : Int) (h1 : -9223372036854775808 ≤ v) (h2 : v < 9223372036854775808) (K) (hk : K (.ret (.str (toBA (dgi v)))) []) : VCall Tryd.prog 72 [.int .i64 v, .int .i64 10] [] K := by
  refine call_fun [5] 0 Tryd.func72 (by rfl) (by rfl) ?_; (conv => whnf); (repeat (refine step_go [5] ?_; conv => whnf))
  refine two (fun g => ?_) (fun g => ?_)
  · have g : 0 ≤ v := by simpa using g
    rw [dgi_pos g] at hk
    obtain ⟨n, rfl⟩ := Int.eq_ofNat_of_zero_le g
    rw [Int.toNat_natCast] at hk
    have hl := dg_len20 (n := n) (by omega)
    (conv => whnf); (repeat (refine step_go [5] ?_; conv => whnf))
    refine two (fun g2 => ?_) (fun g2 => ?_)
    · have g2 : n < 100 := by simp at g2; omega
      (conv => whnf); (repeat (refine step_go [5] ?_; conv => whnf))
      refine c_small n g2 _ ?_; (conv => whnf); (repeat (refine step_go [5] ?_; conv => whnf))
      exact hk
    · have g2 : 100 ≤ n := by simp at g2; omega
      (conv => whnf); (repeat (refine step_go [5] ?_; conv => whnf))
      rw [wrapu64 (x := (n : Int)) (by omega) (by omega)]
      refine c_numDigits n (by omega) (by omega) _ ?_; (conv => whnf); (repeat (refine step_go [5] ?_; conv => whnf))
      rw [show IntKind.i64.wrap (1 + ((dg n).length : Int)) = ((1 + (dg n).length : Nat) : Int) by rw [wrap64 (by omega) (by omega)]; omega]
      refine ⟨by omega, by omega, by omega, ?_⟩; conv => whnf
      rw [show Int.toNat 1 = 1 from rfl, Int.toNat_natCast, Nat.add_sub_cancel_left]
      refine c_format (List.replicate 24 0) 1 (dg n).length (24 - 1) n (by simp; omega) (by simp) (by omega) hl (dg_pow n) _ ?_; (conv => whnf); (repeat (refine step_go [5] ?_; conv => whnf))
      rw [show IntKind.i64.wrap (1 + ((dg n).length : Int)) = ((1 + (dg n).length : Nat) : Int) by rw [wrap64 (by omega) (by omega)]; omega]
      refine ⟨by omega, by omega, by omega, ?_⟩; conv => whnf
      rw [show Int.toNat 1 = 1 from rfl, Int.toNat_natCast, Nat.add_sub_cancel_left]
      refine ⟨by simp [bL_len, dgw_len]; omega, toBA (dg n), by rw [← toBA_V (dg_byte n)]; exact tail_str2 rfl (by omega) rfl, ?_⟩; (conv => whnf); (repeat (refine step_go [5] ?_; conv => whnf))
      exact hk
  · have g : v < 0 := by simp at g; omega
    rw [dgi_neg g] at hk
    obtain ⟨n, hn⟩ : ∃ n : Nat, v = -(n : Int) := ⟨(-v).toNat, by omega⟩
    have hn' : (-v).toNat = n := by omega
    rw [hn'] at hk
    have hl := dg_len20 (n := n) (by omega)
    (conv => whnf); (repeat (refine step_go [5] ?_; conv => whnf))
    rw [wrapu64_neg h1 g]
    refine yes (by simpa using g) ?_; (conv => whnf); (repeat (refine step_go [5] ?_; conv => whnf))
    rw [show IntKind.u64.wrap (0 - (v + 18446744073709551616)) = (n : Int) by
      have : ∀ x, IntKind.u64.wrap x = x % 18446744073709551616 := fun x => by unfold IntKind.wrap; simp [IntKind.bits, IntKind.signed]
      rw [this]; omega]
    refine c_numDigits n (by omega) (by omega) _ ?_; (conv => whnf); (repeat (refine step_go [5] ?_; conv => whnf))
    rw [show IntKind.i64.wrap (1 + ((dg n).length : Int)) = ((1 + (dg n).length : Nat) : Int) by rw [wrap64 (by omega) (by omega)]; omega]
    refine ⟨by omega, by omega, by omega, ?_⟩; conv => whnf
    rw [show Int.toNat 1 = 1 from rfl, Int.toNat_natCast, Nat.add_sub_cancel_left]
    refine c_format (List.replicate 24 0) 1 (dg n).length (24 - 1) n (by simp; omega) (by simp) (by omega) hl (dg_pow n) _ ?_; (conv => whnf); (repeat (refine step_go [5] ?_; conv => whnf))
    refine yes (by simpa using g) ?_; (conv => whnf); (repeat (refine step_go [5] ?_; conv => whnf))
    refine ⟨by omega, by omega, ?_⟩; conv => whnf
    rw [show Int.toNat 0 = 0 from rfl]
    refine ⟨.int .u8 0, rfl, ?_⟩; (conv => whnf); (repeat (refine step_go [5] ?_; conv => whnf))
    rw [show IntKind.i64.wrap (1 + ((dg n).length : Int)) = ((1 + (dg n).length : Nat) : Int) by rw [wrap64 (by omega) (by omega)]; omega]
    refine ⟨by omega, by omega, ?_⟩; conv => whnf
    rw [Int.toNat_natCast]
    refine ⟨by simp [bL_len, dgw_len]; omega, toBA (45 :: dg n), ?_, ?_⟩
    · rw [← toBA_V (fun x hx => by
        rcases List.mem_cons.1 hx with rfl | hx
        · omega
        · exact dg_byte _ x hx)]
      exact tail_str rfl (by omega) rfl 45
    (conv => whnf); (repeat (refine step_go [5] ?_; conv => whnf))
    exact hk

theorem c_itoa (v : Int) (h1 : -9223372036854775808 ≤ v) (h2 : v < 9223372036854775808) (K) (hk : K (.ret (.str (toBA (dgi v)))) []) : VCall Tryd.prog 27 [.int .i64 v] [] K := by
  refine call_fun [] 0 Tryd.func27 (by rfl) (by rfl) ?_; (conv => whnf); (repeat (refine step_go [] ?_; conv => whnf))
  have h : VCall Tryd.prog 51 [.int .i64 v] [] fun o ob => o = .ret (.str (toBA (dgi v))) ∧ ob = [] := by
    refine call_fun [] 0 Tryd.func51 (by rfl) (by rfl) ?_; (conv => whnf); (repeat (refine step_go [] ?_; conv => whnf))
    refine c_fi v h1 h2 _ ?_; (conv => whnf); (repeat (refine step_go [] ?_; conv => whnf))
    exact ⟨rfl, rfl⟩
  refine VCall.mono ?_ h
  rintro _ _ ⟨rfl, rfl⟩
  (conv => whnf); (repeat (refine step_go [] ?_; conv => whnf))
  exact hk
end B5

namespace B6
open Go Go.Proofs VL B1 D1 B2 B3 B4 B5
set_option pp.maxSteps 300
set_option maxRecDepth 100000
set_option linter.unusedVariables false
set_option linter.unusedSimpArgs false

theorem and32 (n : Nat) (h : n < 18446744073709551616) : bitsV .and .u64 (n : Int) 4294967295 = ((n % 4294967296 : Nat) : Int) := by
  unfold bitsV
  simp only
  have e1 : (BitVec.ofInt IntKind.u64.bits (n : Int)).toNat = n := by
    rw [BitVec.toNat_ofInt]; show ((n : Int) % ((2 ^ 64 : Nat) : Int)).toNat = _; omega
  have e2 : (BitVec.ofInt IntKind.u64.bits 4294967295).toNat = 2 ^ 32 - 1 := by decide
  rw [BitVec.toNat_and, e1, e2, Nat.and_two_pow_sub_one_eq_mod]
  rw [w64N (by omega)]

theorem mul_u64 {a b : Nat} (h : a * b < 18446744073709551616) : IntKind.u64.wrap ((a : Int) * (b : Int)) = ((a * b : Nat) : Int) := by
  rw [← Int.natCast_mul, w64N h]
theorem add_u64 {a b : Nat} (h : a + b < 18446744073709551616) : IntKind.u64.wrap ((a : Int) + (b : Int)) = ((a + b : Nat) : Int) := by
  rw [← Int.natCast_add, w64N h]
theorem lo32 {a b : Nat} (ha : a < 4294967296) (hb : b < 4294967296) : a * b ≤ 18446744065119617025 :=
  Nat.le_trans (Nat.mul_le_mul (show a ≤ 4294967295 by omega) (show b ≤ 4294967295 by omega)) (by decide)

theorem mul_hi (a b : Nat) (ha : a < 18446744073709551616) (hb : b < 18446744073709551616) :
    let t := a / 4294967296 * (b % 4294967296) + a % 4294967296 * (b % 4294967296) / 4294967296
    a / 4294967296 * (b / 4294967296) + t / 4294967296 + (t % 4294967296 + a % 4294967296 * (b / 4294967296)) / 4294967296 = a * b / 18446744073709551616 := by
  have e : a * b = a / 4294967296 * (b / 4294967296) * 18446744073709551616 + (a / 4294967296 * (b % 4294967296) + a % 4294967296 * (b / 4294967296)) * 4294967296 + a % 4294967296 * (b % 4294967296) := by
    conv => lhs; rw [← Nat.div_add_mod a 4294967296, ← Nat.div_add_mod b 4294967296]
    generalize a / 4294967296 = x1
    generalize a % 4294967296 = x0
    generalize b / 4294967296 = y1
    generalize b % 4294967296 = y0
    rw [Nat.add_mul, Nat.mul_add, Nat.mul_add, Nat.add_mul]
    rw [show 4294967296 * x1 * (4294967296 * y1) = x1 * y1 * 18446744073709551616 by rw [Nat.mul_mul_mul_comm, Nat.mul_comm]]
    rw [show 4294967296 * x1 * y0 = x1 * y0 * 4294967296 by rw [Nat.mul_assoc, Nat.mul_comm], show x0 * (4294967296 * y1) = x0 * y1 * 4294967296 by rw [Nat.mul_left_comm, Nat.mul_comm]]
    omega
  have b1 := lo32 (a := a / 4294967296) (b := b % 4294967296) (by omega) (by omega)
  have b2 := lo32 (a := a % 4294967296) (b := b / 4294967296) (by omega) (by omega)
  have b3 := lo32 (a := a % 4294967296) (b := b % 4294967296) (by omega) (by omega)
  have b4 := lo32 (a := a / 4294967296) (b := b / 4294967296) (by omega) (by omega)
  rw [e]
  intro t
  show _ = _
  simp only [t]
  generalize a / 4294967296 * (b / 4294967296) = p11 at *
  generalize a / 4294967296 * (b % 4294967296) = p10 at *
  generalize a % 4294967296 * (b / 4294967296) = p01 at *
  generalize a % 4294967296 * (b % 4294967296) = p00 at *
  clear e
  omega

theorem c_mul64 (a b : Nat) (ha : a < 18446744073709551616) (hb : b < 18446744073709551616) (K) (hk : K (.ret (.tup [.int .u64 ((a * b / 18446744073709551616 : Nat) : Int), .int .u64 ((a * b % 18446744073709551616 : Nat) : Int)])) []) :
    VCall Tryd.prog 80 [.int .u64 (a : Int), .int .u64 (b : Int)] [] K := by
  have hh := mul_hi a b ha hb
  simp only at hh
  have b1 := lo32 (a := a / 4294967296) (b := b % 4294967296) (by omega) (by omega)
  have b2 := lo32 (a := a % 4294967296) (b := b / 4294967296) (by omega) (by omega)
  have b3 := lo32 (a := a % 4294967296) (b := b % 4294967296) (by omega) (by omega)
  have b4 := lo32 (a := a / 4294967296) (b := b / 4294967296) (by omega) (by omega)
  have hhl : a * b / 18446744073709551616 < 18446744073709551616 := by
    rw [Nat.div_lt_iff_lt_mul (by omega)]
    exact Nat.lt_of_le_of_lt (Nat.mul_le_mul_right b (show a ≤ 18446744073709551615 by omega)) (by omega)
  refine call_fun [] 0 Tryd.func80 (by rfl) (by rfl) ?_; (conv => whnf); (repeat (refine step_go [] ?_; conv => whnf))
  rw [and32 a ha]
  (repeat (refine step_go [] ?_; conv => whnf))
  refine ⟨by omega, ?_⟩; rw [shr_32 a]; (conv => whnf); (repeat (refine step_go [] ?_; conv => whnf))
  rw [and32 b hb]
  refine ⟨by omega, ?_⟩; rw [shr_32 b]; (conv => whnf); (repeat (refine step_go [] ?_; conv => whnf))
  rw [mul_u64 (a := a % 4294967296) (b := b % 4294967296) (by omega)]
  refine ⟨by omega, ?_⟩; rw [shr_32]; (conv => whnf); (repeat (refine step_go [] ?_; conv => whnf))
  rw [mul_u64 (a := a / 4294967296) (b := b % 4294967296) (by omega), add_u64 (a := a / 4294967296 * (b % 4294967296)) (by omega)]
  generalize ht : a / 4294967296 * (b % 4294967296) + a % 4294967296 * (b % 4294967296) / 4294967296 = t at *
  have ht2 : t < 18446744073709551616 := by omega
  rw [and32 t ht2]
  rw [shr_32 t]
  refine ⟨by omega, ?_⟩; (conv => whnf); (repeat (refine step_go [] ?_; conv => whnf))
  rw [mul_u64 (a := a % 4294967296) (b := b / 4294967296) (by omega), add_u64 (a := t % 4294967296) (by omega)]
  rw [shr_32, mul_u64 (a := a / 4294967296) (b := b / 4294967296) (by omega), add_u64 (a := a / 4294967296 * (b / 4294967296)) (by omega)]
  refine ⟨by omega, ?_⟩
  (conv => whnf); (repeat (refine step_go [] ?_; conv => whnf))
  rw [add_u64 (a := a / 4294967296 * (b / 4294967296) + t / 4294967296) (by omega), hh]
  refine Eq.mp (congrArg (fun x => K (Out.ret (V.tup [V.int IntKind.u64 ↑(a * b / 18446744073709551616), V.int .u64 x])) []) ?_) hk
  have : ∀ x, IntKind.u64.wrap x = x % 18446744073709551616 := fun x => by unfold IntKind.wrap; simp [IntKind.bits, IntKind.signed]
  rw [this, ← Int.natCast_mul]; omega

theorem c_mul (a b : Nat) (ha : a < 18446744073709551616) (hb : b < 18446744073709551616) (K) (hk : K (.ret (.tup [.int .u64 ((a * b / 18446744073709551616 : Nat) : Int), .int .u64 ((a * b % 18446744073709551616 : Nat) : Int)])) []) :
    VCall Tryd.prog 59 [.int .u64 (a : Int), .int .u64 (b : Int)] [] K := by
  refine call_fun [] 0 Tryd.func59 (by rfl) (by rfl) ?_; (conv => whnf); (repeat (refine step_go [] ?_; conv => whnf))
  refine c_mul64 a b ha hb _ ?_; (conv => whnf); (repeat (refine step_go [] ?_; conv => whnf))
  exact hk
end B6

namespace B7
open Go Go.Proofs VL B1 D1 B2 B3 B4 B5 B6
set_option pp.maxSteps 300
set_option maxRecDepth 100000
set_option linter.unusedVariables false
set_option linter.unusedSimpArgs false

/-- does a text begin with another one? -/
def hasP (s t : List Int) : Bool := s.take t.length == t
theorem hasP_len {s t : List Int} (h : hasP s t = true) : t.length ≤ s.length := by
  unfold hasP at h
  have := congrArg List.length (beq_iff_eq.1 h)
  simp at this; omega

theorem c_hasP0 (s t : ByteArray) (K) (h : K (.ret (.bool (hasP (sB s) (sB t)))) []) : VCall Tryd.prog 76 [.str s, .str t] [] K := by
  refine call_fun [] 0 Tryd.func76 (by rfl) (by rfl) ?_; (conv => whnf); (repeat (refine step_go [] ?_; conv => whnf))
  refine two (fun g => ?_) (fun g => ?_)
  · have g : t.size ≤ s.size := by simp at g; omega
    conv => whnf
    refine ⟨by omega, by omega, by omega, ?_⟩; (conv => whnf); (repeat (refine step_go [] ?_; conv => whnf))
    rw [str_beq, sB_ext]
    refine Eq.mp (congrArg (fun x => K (Out.ret (V.bool x)) []) ?_) h
    unfold hasP
    rw [sB_len, Int.toNat_natCast]
    simp
  · have g : s.size < t.size := by simp at g; omega
    (conv => whnf); (repeat (refine step_go [] ?_; conv => whnf))
    refine Eq.mp (congrArg (fun x => K (Out.ret (V.bool x)) []) ?_) h
    cases e : hasP (sB s) (sB t) with
    | false => rfl
    | true => have := hasP_len e; rw [sB_len, sB_len] at this; omega

theorem c_hasP (s t : ByteArray) (K) (h : K (.ret (.bool (hasP (sB s) (sB t)))) []) : VCall Tryd.prog 60 [.str s, .str t] [] K := by
  refine call_fun [] 0 Tryd.func60 (by rfl) (by rfl) ?_; (conv => whnf); (repeat (refine step_go [] ?_; conv => whnf))
  refine c_hasP0 s t _ ?_; (conv => whnf); (repeat (refine step_go [] ?_; conv => whnf))
  exact h

theorem ext_str (s : ByteArray) {l : List Int} {i j : Nat} (h : ((sB s).take j).drop i = l) : s.extract i j = toBA l := by
  rw [← h, ← sB_ext, toBA_sB]

/-- the rest, where a text begins with another one -/
theorem c_cutP (s t : ByteArray) (K) (h : K (.ret (.tup [.str (toBA (if hasP (sB s) (sB t) then (sB s).drop (sB t).length else sB s)), .bool (hasP (sB s) (sB t))])) []) : VCall Tryd.prog 35 [.str s, .str t] [] K := by
  refine call_fun [] 0 Tryd.func35 (by rfl) (by rfl) ?_; (conv => whnf); (repeat (refine step_go [] ?_; conv => whnf))
  have h' : VCall Tryd.prog 56 [.str s, .str t] [] fun o ob => o = .ret (.tup [.str (toBA (if hasP (sB s) (sB t) then (sB s).drop (sB t).length else sB s)), .bool (hasP (sB s) (sB t))]) ∧ ob = [] := by
    refine call_fun [] 0 Tryd.func56 (by rfl) (by rfl) ?_; (conv => whnf); (repeat (refine step_go [] ?_; conv => whnf))
    refine c_hasP0 s t _ ?_; (conv => whnf); (repeat (refine step_go [] ?_; conv => whnf))
    refine two (fun g => ?_) (fun g => ?_)
    · have g : hasP (sB s) (sB t) = false := by simpa using g
      rw [g]; (conv => whnf); (repeat (refine step_go [] ?_; conv => whnf))
      exact ⟨by simp [toBA_sB], rfl⟩
    · have g : hasP (sB s) (sB t) = true := by simpa using g
      have hl := hasP_len g
      rw [sB_len, sB_len] at hl
      rw [g]; (conv => whnf); (repeat (refine step_go [] ?_; conv => whnf))
      refine ⟨by omega, by omega, ?_⟩; (conv => whnf); (repeat (refine step_go [] ?_; conv => whnf))
      refine ⟨?_, rfl⟩
      rw [if_pos rfl, ext_str s (l := (sB s).drop (sB t).length) (by rw [sB_len, List.take_of_length_le (by rw [sB_len]; omega)]; simp)]
  refine VCall.mono ?_ h'
  rintro _ _ ⟨rfl, rfl⟩
  (conv => whnf); (repeat (refine step_go [] ?_; conv => whnf))
  exact h

def hasS (s t : List Int) : Bool := decide (t.length ≤ s.length) && (s.drop (s.length - t.length) == t)

theorem c_cutS (s t : ByteArray) (K) (hs : s.size < 9223372036854775808) (h : K (.ret (.tup [.str (toBA (if hasS (sB s) (sB t) then (sB s).take (s.size - t.size) else sB s)), .bool (hasS (sB s) (sB t))])) []) : VCall Tryd.prog 42 [.str s, .str t] [] K := by
  refine call_fun [] 0 Tryd.func42 (by rfl) (by rfl) ?_; (conv => whnf); (repeat (refine step_go [] ?_; conv => whnf))
  have h0 : VCall Tryd.prog 78 [.str s, .str t] [] fun o ob => o = .ret (.bool (hasS (sB s) (sB t))) ∧ ob = [] := by
    refine call_fun [] 0 Tryd.func78 (by rfl) (by rfl) ?_; (conv => whnf); (repeat (refine step_go [] ?_; conv => whnf))
    refine two (fun g => ?_) (fun g => ?_)
    · have g : t.size ≤ s.size := by simp at g; omega
      conv => whnf
      have e : IntKind.i64.wrap ((s.size : Int) - (t.size : Int)) = ((s.size - t.size : Nat) : Int) := by rw [wrap64 (by omega) (by omega)]; omega
      rw [e]
      refine ⟨by omega, by omega, ?_⟩; (conv => whnf); (repeat (refine step_go [] ?_; conv => whnf))
      rw [str_beq, sB_ext]
      refine ⟨?_, rfl⟩
      unfold hasS
      rw [sB_len, sB_len, Int.toNat_natCast, List.take_of_length_le (by rw [sB_len]; omega)]
      simp [g]
    · have g : s.size < t.size := by simp at g; omega
      (conv => whnf); (repeat (refine step_go [] ?_; conv => whnf))
      refine ⟨?_, rfl⟩
      unfold hasS
      rw [sB_len, sB_len, decide_eq_false (by omega)]; rfl
  have h' : VCall Tryd.prog 58 [.str s, .str t] [] fun o ob => o = .ret (.tup [.str (toBA (if hasS (sB s) (sB t) then (sB s).take (s.size - t.size) else sB s)), .bool (hasS (sB s) (sB t))]) ∧ ob = [] := by
    refine call_fun [] 0 Tryd.func58 (by rfl) (by rfl) ?_; (conv => whnf); (repeat (refine step_go [] ?_; conv => whnf))
    refine VCall.mono ?_ h0
    rintro _ _ ⟨rfl, rfl⟩
    (conv => whnf); (repeat (refine step_go [] ?_; conv => whnf))
    refine two (fun g => ?_) (fun g => ?_)
    · have g : hasS (sB s) (sB t) = false := by simpa using g
      rw [g]; (conv => whnf); (repeat (refine step_go [] ?_; conv => whnf))
      exact ⟨by simp [toBA_sB], rfl⟩
    · have g : hasS (sB s) (sB t) = true := by simpa using g
      have hl : t.size ≤ s.size := by
        unfold hasS at g
        simp only [Bool.and_eq_true, decide_eq_true_eq, sB_len] at g
        exact g.1
      rw [g]; (conv => whnf); (repeat (refine step_go [] ?_; conv => whnf))
      have e : IntKind.i64.wrap ((s.size : Int) - (t.size : Int)) = ((s.size - t.size : Nat) : Int) := by rw [wrap64 (by omega) (by omega)]; omega
      rw [e]
      refine ⟨by omega, by omega, by omega, ?_⟩; (conv => whnf); (repeat (refine step_go [] ?_; conv => whnf))
      refine ⟨?_, rfl⟩
      rw [if_pos rfl, ext_str s (l := (sB s).take (s.size - t.size)) (by simp)]
  refine VCall.mono ?_ h'
  rintro _ _ ⟨rfl, rfl⟩
  (conv => whnf); (repeat (refine step_go [] ?_; conv => whnf))
  exact h
end B7

namespace B8
open Go Go.Proofs VL B1 D1 B2 B3 B4 B5 B6 B7
set_option pp.maxSteps 300
set_option maxRecDepth 100000
set_option linter.unusedVariables false
set_option linter.unusedSimpArgs false

theorem get_bang {s : ByteArray} {i : Nat} (h : i < s.size) : (sB s)[i]? = some ((s[i]!).toNat : Int) := by
  obtain ⟨c, h1, h2⟩ := str_get h
  rw [h2]
  have : s[i]! = c := by rw [getElem!_pos s i h]; rw [getElem?_pos s i h] at h1; exact Option.some.inj h1
  rw [this]

theorem tw_at {c : Int} : ∀ {l : List Int} {i : Nat}, l[i]? = some c → (∀ j, j < i → l[j]? ≠ some c) → l.takeWhile (· != c) = l.take i ∧ l.dropWhile (· != c) = l.drop i ∧ l.contains c = true
  | [], i, h, _ => by simp at h
  | x :: r, 0, h, _ => by simp at h; subst h; simp
  | x :: r, i + 1, h, h2 => by
    have hx : x ≠ c := by have := h2 0 (by omega); simpa using this
    obtain ⟨a, b, d⟩ := tw_at (l := r) (i := i) (by simpa using h) fun j hj => by have := h2 (j + 1) (by omega); simpa using this
    have hx' : ¬ c = x := fun e => hx e.symm
    refine ⟨?_, ?_, ?_⟩
    · simp [hx, a]
    · simp [hx, b]
    · rw [List.contains_cons, d]; simp
theorem tw_no {c : Int} : ∀ {l : List Int}, (∀ x ∈ l, x ≠ c) → l.takeWhile (· != c) = l ∧ l.dropWhile (· != c) = [] ∧ l.contains c = false
  | [], _ => by simp
  | x :: r, h => by
    obtain ⟨a, b, d⟩ := tw_no (l := r) fun y hy => h y (by simp [hy])
    have hx := h x (by simp)
    have hx' : ¬ c = x := fun e => hx e.symm
    refine ⟨by simp [hx, a], by simp [hx, b], ?_⟩
    rw [List.contains_cons, d]; simp [hx']

theorem idxB_some {s : ByteArray} {c : UInt8} {i : Nat} (h : (List.range s.size).find? (fun i => s[i]! == c) = some i) : i < s.size ∧ (sB s)[i]? = some (c.toNat : Int) ∧ ∀ j, j < i → (sB s)[j]? ≠ some (c.toNat : Int) := by
  rw [List.find?_range_eq_some] at h
  obtain ⟨h1, h2, h3⟩ := h
  have hi : i < s.size := by simpa using h2
  refine ⟨hi, ?_, fun j hj => ?_⟩
  · rw [get_bang hi]; simp at h1; rw [h1]
  · rw [get_bang (by omega)]
    have := h3 j hj
    simp at this ⊢
    intro e
    exact this (UInt8.toNat.inj (by omega))
theorem idxB_none {s : ByteArray} {c : UInt8} (h : (List.range s.size).find? (fun i => s[i]! == c) = none) : ∀ x ∈ sB s, x ≠ (c.toNat : Int) := by
  rw [List.find?_eq_none] at h
  intro x hx e
  obtain ⟨i, hi⟩ := List.mem_iff_getElem?.1 hx
  have hl : i < s.size := by rw [← sB_len]; exact (List.getElem?_eq_some_iff.1 hi).1
  have := h i (by simpa using hl)
  rw [get_bang hl] at hi
  simp at this hi
  exact this (UInt8.toNat.inj (by omega))

theorem c_index1 (s : ByteArray) (K) (h : K (.ret (.int .i64 (idxB s 46))) []) : VCall Tryd.prog 77 [.str s, .str ⟨#[46]⟩] [] K := by
  refine call_fun [] 0 Tryd.func77 (by rfl) (by rfl) ?_; (conv => whnf); (repeat (refine step_go [] ?_; conv => whnf))
  (repeat first | (refine step_go [] ?_; conv => whnf) | (refine no (by rfl) ?_; conv => whnf) | (refine yes (by rfl) ?_; conv => whnf))
  refine two (fun g => ?_) (fun g => ?_)
  · (conv => whnf); (repeat (refine step_go [] ?_; conv => whnf))
    rw [str_beq] at g
    have e : s = ⟨#[46]⟩ := (sB_inj (beq_iff_eq.1 g)).symm
    subst e
    exact h
  (conv => whnf); (repeat (refine step_go [] ?_; conv => whnf))
  (repeat first | (refine step_go [] ?_; conv => whnf) | (refine no (by rfl) ?_; conv => whnf) | (refine yes (by rfl) ?_; conv => whnf))
  refine idx_str (x := 46) (by omega) (by decide +kernel) fun c hc => ?_
  rw [hc]; (conv => whnf); (repeat (refine step_go [] ?_; conv => whnf))
  have h' : VCall Tryd.prog 97 [.str s, .int .u8 46] [] fun o ob => o = .ret (.int .i64 (idxB s 46)) ∧ ob = [] := by
    refine call_fun [] 0 Tryd.func97 (by rfl) (by rfl) ?_; (conv => whnf); (repeat (refine step_go [] ?_; conv => whnf))
    refine c_indexByte (fn := Tryd.f114) (by rfl) (by rfl) (by rfl) (by rfl) (by rfl) ?_; (conv => whnf); (repeat (refine step_go [] ?_; conv => whnf))
    exact ⟨rfl, rfl⟩
  refine VCall.mono ?_ h'
  rintro _ _ ⟨rfl, rfl⟩
  (conv => whnf); (repeat (refine step_go [] ?_; conv => whnf))
  exact h

/-- ahead of a point, and behind it -/
theorem c_cut (s : ByteArray) (hs : s.size < 9223372036854775807) (K) (h : K (.ret (.tup [.str (toBA ((sB s).takeWhile (· != 46))), .str (toBA (((sB s).dropWhile (· != 46)).drop 1)), .bool ((sB s).contains 46)])) []) : VCall Tryd.prog 36 [.str s, .str ⟨#[46]⟩] [] K := by
  refine call_fun [] 0 Tryd.func36 (by rfl) (by rfl) ?_; (conv => whnf); (repeat (refine step_go [] ?_; conv => whnf))
  have h' : VCall Tryd.prog 57 [.str s, .str ⟨#[46]⟩] [] fun o ob => o = .ret (.tup [.str (toBA ((sB s).takeWhile (· != 46))), .str (toBA (((sB s).dropWhile (· != 46)).drop 1)), .bool ((sB s).contains 46)]) ∧ ob = [] := by
    refine call_fun [] 0 Tryd.func57 (by rfl) (by rfl) ?_; (conv => whnf); (repeat (refine step_go [] ?_; conv => whnf))
    refine c_index1 s _ ?_; (conv => whnf); (repeat (refine step_go [] ?_; conv => whnf))
    cases hf : (List.range s.size).find? (fun i => s[i]! == 46) with
    | none =>
      obtain ⟨e1, e2, e3⟩ := tw_no (idxB_none hf)
      rw [show ((46 : UInt8).toNat : Int) = 46 from rfl] at e1 e2 e3
      rw [show idxB s 46 = -1 by unfold idxB; rw [hf]]
      (conv => whnf); (repeat (refine step_go [] ?_; conv => whnf))
      rw [e1, e2, e3]
      exact ⟨by rw [toBA_sB]; rfl, rfl⟩
    | some i =>
      obtain ⟨hi, h1, h2⟩ := idxB_some hf
      obtain ⟨e1, e2, e3⟩ := tw_at h1 h2
      rw [show ((46 : UInt8).toNat : Int) = 46 from rfl] at e1 e2 e3
      rw [show idxB s 46 = (i : Int) by unfold idxB; rw [hf]]
      (conv => whnf); (repeat (refine step_go [] ?_; conv => whnf))
      (refine ⟨by decide +kernel, ?_⟩; conv => whnf)
      have w : IntKind.i64.wrap ((i : Int) + 1) = ((i + 1 : Nat) : Int) := by rw [wrap64 (by omega) (by omega)]; omega
      have w' : IntKind.i64.wrap ((i : Int) + ((ByteArray.mk #[46]).size : Int)) = ((i + 1 : Nat) : Int) := w
      (repeat first | (refine step_go [] ?_; conv => whnf) | (refine And.intro rfl ?_; conv => whnf) | (refine And.intro (by omega) ?_; conv => whnf))
      rw [w']
      (repeat first | (refine step_go [] ?_; conv => whnf) | (refine And.intro rfl ?_; conv => whnf) | (refine And.intro (by omega) ?_; conv => whnf))
      refine ⟨?_, rfl⟩
      rw [ext_str s (l := (sB s).takeWhile (· != 46)) (by rw [e1]; simp), ext_str s (l := ((sB s).dropWhile (· != 46)).drop 1) (by rw [e2, List.take_of_length_le (by rw [sB_len]; omega)]; simp), e3]
  refine VCall.mono ?_ h'
  rintro _ _ ⟨rfl, rfl⟩
  (conv => whnf); (repeat (refine step_go [] ?_; conv => whnf))
  exact h
/-- noughts at the end are gone -/
def trimZ (l : List Int) : List Int := (l.reverse.dropWhile (· == 48)).reverse
theorem trimZ_snoc (l : List Int) (x : Int) : trimZ (l ++ [x]) = if x = 48 then trimZ l else l ++ [x] := by
  unfold trimZ
  rw [List.reverse_append, List.reverse_singleton, List.singleton_append, List.dropWhile_cons]
  by_cases h : x = 48 <;> simp [h]
theorem c_trimB (s : ByteArray) (hs : s.size < 1000000) (K) (h : K (.ret (.str (toBA (trimZ (sB s))))) []) : VCall Tryd.prog 63 [.str s, .int .u8 48] [] K := by
  refine call_fun [] 0 Tryd.func63 (by rfl) (by rfl) ?_; (conv => whnf); (repeat (refine step_go [] ?_; conv => whnf))
  let S : ByteArray → St := fun x => ⟨(.str x :: .int .u8 48 :: .undef :: .undef :: .str ⟨#[]⟩ :: .undef :: .undef :: .undef :: .undef :: .undef :: .undef :: .undef :: .undef :: .undef :: .undef :: .undef :: .undef :: .undef :: .undef :: .undef :: .undef :: .undef :: .undef :: []), [], 0, []⟩
  refine VLoop.enter (s' := S s) (weak_of ?_ .nil rfl rfl rfl) (VLoop.indW S (fun x => x.size) (fun x => trimZ (sB x) = trimZ (sB s) ∧ x.size ≤ s.size) ?_ s ⟨rfl, Nat.le_refl _⟩)
  · (repeat' first | exact VWs.nil | refine VWs.cons VW.undef ?_ | refine VWs.cons (VW.eq rfl) ?_)
  intro x ⟨hx, hl⟩ ih
  refine loop_round [] ?_; (conv => whnf); (repeat (refine step_go [] ?_; conv => whnf))
  refine two (fun g => ?_) (fun g => ?_)
  · have g : 0 < x.size := by simp at g; omega
    obtain ⟨m, c, hm⟩ : ∃ m c, sB x = m ++ [c] := ⟨(sB x).dropLast, (sB x).getLast (by rw [← List.length_pos_iff, sB_len]; exact g), (List.dropLast_concat_getLast _).symm⟩
    have hml : m.length + 1 = x.size := by rw [← sB_len, hm]; simp
    conv => whnf
    rw [show IntKind.i64.wrap ((x.size : Int) - 1) = (m.length : Int) by rw [wrap64 (by omega) (by omega)]; omega]
    refine idx_str (x := c) (by omega) (by rw [hm, Int.toNat_natCast]; simp) fun b hb => ?_
    rw [hb]; (conv => whnf); (repeat (refine step_go [] ?_; conv => whnf))
    refine two (fun g2 => ?_) (fun g2 => ?_)
    · have g2 : c = 48 := by simpa using g2
      (conv => whnf); (repeat (refine step_go [] ?_; conv => whnf))
      rw [show IntKind.i64.wrap ((x.size : Int) - 1) = (m.length : Int) by rw [wrap64 (by omega) (by omega)]; omega]
      (repeat first | (refine step_go [] ?_; conv => whnf) | (refine And.intro rfl ?_; conv => whnf) | (refine And.intro (by omega) ?_; conv => whnf))
      have he : x.extract 0 m.length = toBA m := ext_str x (by rw [hm]; simp)
      have hmb : sB (toBA m) = m := by rw [← he, sB_ext, hm]; simp
      refine ⟨S (toBA m), weak_of ?_ .nil rfl rfl rfl, ih (toBA m) ⟨?_, ?_⟩ ?_⟩
      · repeat' first
          | exact VWs.nil
          | refine VWs.cons VW.undef ?_
          | refine VWs.cons (VW.eq (congrArg V.str he)) ?_
          | refine VWs.cons (VW.eq rfl) ?_
      · rw [hmb, ← hx, hm, trimZ_snoc, if_pos g2]
      · rw [← sB_len, hmb]; omega
      · rw [← sB_len, hmb]; omega
    · have g2 : c ≠ 48 := by simpa using g2
      (conv => whnf); (repeat (refine step_go [] ?_; conv => whnf))
      refine ⟨_, Weak.refl, ?_⟩; (conv => whnf); (repeat (refine step_go [] ?_; conv => whnf))
      rw [← hx, hm, trimZ_snoc, if_neg g2, ← hm, toBA_sB] at h
      exact h
  · have g : x.size = 0 := by have := of_decide_eq_false g; omega
    have e0 : sB x = [] := List.length_eq_zero_iff.1 (by rw [sB_len]; exact g)
    (conv => whnf); (repeat (refine step_go [] ?_; conv => whnf))
    refine ⟨_, Weak.refl, ?_⟩; (conv => whnf); (repeat (refine step_go [] ?_; conv => whnf))
    rw [← hx, e0] at h
    have e : x = toBA (trimZ []) := sB_inj (by rw [e0]; rfl)
    rw [e]
    exact h

theorem c_trim (s : ByteArray) (hs : s.size < 1000000) (K) (h : K (.ret (.str (toBA (trimZ (sB s))))) []) : VCall Tryd.prog 46 [.str s, .str ⟨#[48]⟩] [] K := by
  refine call_fun [] 0 Tryd.func46 (by rfl) (by rfl) ?_; (conv => whnf); (repeat (refine step_go [] ?_; conv => whnf))
  refine two (fun g => ?_) (fun g => ?_)
  · (conv => whnf); (repeat (refine step_go [] ?_; conv => whnf))
    rw [str_beq] at g
    have e : s = ⟨#[]⟩ := sB_inj (beq_iff_eq.1 g)
    subst e
    exact h
  (conv => whnf); (repeat (refine step_go [] ?_; conv => whnf))
  refine no (by rw [str_beq]; rfl) ?_; (conv => whnf); (repeat (refine step_go [] ?_; conv => whnf))
  (repeat first | (refine step_go [] ?_; conv => whnf) | (refine no (by rfl) ?_; conv => whnf) | (refine yes (by rfl) ?_; conv => whnf))
  refine idx_str (x := 48) (by omega) (by decide +kernel) fun c hc => ?_
  rw [hc]; (conv => whnf); (repeat (refine step_go [] ?_; conv => whnf))
  (repeat first | (refine step_go [] ?_; conv => whnf) | (refine no (by rfl) ?_; conv => whnf) | (refine yes (by rfl) ?_; conv => whnf))
  refine idx_str (x := 48) (by omega) (by decide +kernel) fun c hc => ?_
  rw [hc]; (conv => whnf); (repeat (refine step_go [] ?_; conv => whnf))
  refine c_trimB s hs _ ?_; (conv => whnf); (repeat (refine step_go [] ?_; conv => whnf))
  exact h
end B8

namespace B9
open Go Go.Proofs VL B1 D1 B2 B3 B4 B5 B6 B7 B8
set_option pp.maxSteps 300
set_option maxRecDepth 100000
set_option linter.unusedVariables false
set_option linter.unusedSimpArgs false

theorem c_repeat (k : Nat) (hk : k ≤ 60) (K) (h : K (.ret (.str (toBA (List.replicate k 48)))) []) : VCall Tryd.prog 43 [.str ⟨#[48]⟩, .int .i64 (k : Int)] [] K := by
  refine call_fun [] 0 Tryd.func43 (by rfl) (by rfl) ?_; (conv => whnf); (repeat (refine step_go [] ?_; conv => whnf))
  refine two (fun g => ?_) (fun g => ?_)
  · have g : k = 0 := by have := beq_iff_eq.1 g; omega
    subst g
    (conv => whnf); (repeat (refine step_go [] ?_; conv => whnf))
    exact h
  · have g : k ≠ 0 := by simpa using g
    (conv => whnf); (repeat (refine step_go [] ?_; conv => whnf))
    refine two (fun g2 => ?_) (fun g2 => ?_)
    · have g2 : k = 1 := by have := beq_iff_eq.1 g2; omega
      subst g2
      (conv => whnf); (repeat (refine step_go [] ?_; conv => whnf))
      exact h
    · have g2 : k ≠ 1 := by intro e; subst e; simp at g2
      (conv => whnf); (repeat (refine step_go [] ?_; conv => whnf))
      rw [show IntKind.u64.wrap ((ByteArray.mk #[48]).size : Int) = ((1 : Nat) : Int) from wrapu64 (by decide) (by decide), wrapu64 (x := (k : Int)) (by omega) (by omega)]
      refine c_mul 1 k (by omega) (by omega) _ ?_; (conv => whnf); (repeat (refine step_go [] ?_; conv => whnf))
      rw [Nat.one_mul, Nat.div_eq_of_lt (by omega), Nat.mod_eq_of_lt (by omega)]
      (repeat first | (refine step_go [] ?_; conv => whnf) | (refine no (by rfl) ?_; conv => whnf) | (refine yes (by rfl) ?_; conv => whnf))
      refine no (decide_eq_false (by omega)) ?_; (conv => whnf); (repeat (refine step_go [] ?_; conv => whnf))
      (repeat first | (refine step_go [] ?_; conv => whnf) | (refine no (by rfl) ?_; conv => whnf) | (refine yes (by rfl) ?_; conv => whnf))
      rw [wrap64 (x := (k : Int)) (by omega) (by omega)]
      (repeat first | (refine step_go [] ?_; conv => whnf) | (refine no (by rfl) ?_; conv => whnf) | (refine yes (by rfl) ?_; conv => whnf))
      refine idx_str (x := 48) (by omega) (by decide +kernel) fun c hc => ?_
      rw [hc]; (conv => whnf); (repeat (refine step_go [] ?_; conv => whnf))
      (repeat first | (refine step_go [] ?_; conv => whnf) | (refine no (by rfl) ?_; conv => whnf) | (refine yes (by rfl) ?_; conv => whnf))
      refine yes (decide_eq_true (by omega)) ?_; (conv => whnf); (repeat (refine step_go [] ?_; conv => whnf))
      refine c_hasP _ _ _ ?_; (conv => whnf); (repeat (refine step_go [] ?_; conv => whnf))
      refine yes (decide_eq_true (by omega)) ?_; (conv => whnf); (repeat (refine step_go [] ?_; conv => whnf))
      refine c_hasP _ _ _ ?_; (conv => whnf); (repeat (refine step_go [] ?_; conv => whnf))
      refine yes (decide_eq_true (by omega)) ?_; (conv => whnf); (repeat (refine step_go [] ?_; conv => whnf))
      refine c_hasP _ _ _ ?_; (conv => whnf); (repeat (refine step_go [] ?_; conv => whnf))
      refine ⟨by omega, by omega, Int.le_trans (b := 64) (by omega) (by decide +kernel), ?_⟩; (conv => whnf); (repeat (refine step_go [] ?_; conv => whnf))
      rw [ext_str _ (l := List.replicate k 48)]
      · exact h
      · rw [Int.toNat_natCast, show Int.toNat 0 = 0 from rfl, List.drop_zero]
        have e : ∀ (l : List Int), l = List.replicate 64 48 → l.take k = List.replicate k 48 := fun l e => by rw [e, List.take_replicate, Nat.min_eq_left (by omega)]
        exact e _ (by decide +kernel)
end B9

namespace B10
open Go Go.Proofs VL B1 D1 B2 B3 B4 B5 B6 B7 B8 B9
set_option pp.maxSteps 300
set_option maxRecDepth 100000
set_option linter.unusedVariables false
set_option linter.unusedSimpArgs false

def sgn (v : Int) : List Int := if v < 0 then [45] else []
def moneyS (v : Int) : List Int := sgn v ++ dg (v.natAbs / 100) ++ [46] ++ dgw 2 (v.natAbs % 100)
def fracS (r : Nat) : List Int := if r = 0 then [] else 46 :: trimZ (dgw 7 r)
def rateS (v : Int) : List Int := sgn v ++ dg (v.natAbs / 10000000) ++ fracS (v.natAbs % 10000000) ++ [37]
def I64 (v : Int) : Prop := -9223372036854775808 ≤ v ∧ v < 9223372036854775808

theorem sgn_byte (v : Int) : ∀ x ∈ sgn v, 0 ≤ x ∧ x < 256 := by unfold sgn; split <;> simp

theorem c_parts (v : Int) (b : Nat) (hv : I64 v) (hb : 0 < b) (hb2 : b < 1000000000) (K) (h : K (.ret (.tup [.str (toBA (sgn v)), .int .u64 ((v.natAbs / b : Nat) : Int), .int .u64 ((v.natAbs % b : Nat) : Int)])) []) :
    VCall Tryd.prog 32 [.int .i64 v, .int .u64 (b : Int)] [] K := by
  obtain ⟨v1, v2⟩ := hv
  have td : ∀ n : Nat, Int.tdiv (n : Int) (b : Int) = ((n / b : Nat) : Int) := fun n => rfl
  have tm : ∀ n : Nat, Int.tmod (n : Int) (b : Int) = ((n % b : Nat) : Int) := fun n => rfl
  refine call_fun [] 0 Tryd.func32 (by rfl) (by rfl) ?_; (conv => whnf); (repeat (refine step_go [] ?_; conv => whnf))
  refine two (fun g => ?_) (fun g => ?_)
  · have g : v < 0 := by simpa using g
    (conv => whnf); (repeat (refine step_go [] ?_; conv => whnf))
    have e : IntKind.u64.wrap (IntKind.u64.wrap (IntKind.i64.wrap (0 - IntKind.i64.wrap (v + 1))) + 1) = (v.natAbs : Int) := by
      rw [wrap64 (x := v + 1) (by omega) (by omega), wrap64 (by omega) (by omega), wrapu64 (x := 0 - (v + 1)) (by omega) (by omega), wrapu64 (by omega) (by omega)]; omega
    rw [e]
    (refine ⟨by decide +kernel, ?_⟩; conv => whnf)
    (repeat first | (refine step_go [] ?_; conv => whnf) | (refine And.intro rfl ?_; conv => whnf) | (refine And.intro (by omega) ?_; conv => whnf))
    have hq := Nat.div_le_self v.natAbs b
    rw [td, tm, w64N (by omega)]
    rw [show sgn v = [45] by unfold sgn; rw [if_pos g]] at h
    exact h
  · have g : 0 ≤ v := by simpa using g
    (conv => whnf); (repeat (refine step_go [] ?_; conv => whnf))
    have e : IntKind.u64.wrap v = (v.natAbs : Int) := by rw [wrapu64 (by omega) (by omega)]; omega
    rw [e]
    (refine ⟨by decide +kernel, ?_⟩; conv => whnf)
    (repeat first | (refine step_go [] ?_; conv => whnf) | (refine And.intro rfl ?_; conv => whnf) | (refine And.intro (by omega) ?_; conv => whnf))
    have hq := Nat.div_le_self v.natAbs b
    rw [td, tm, w64N (by omega)]
    rw [show sgn v = [] by unfold sgn; rw [if_neg (by omega)]] at h
    exact h

theorem toBA_of {s : ByteArray} {l : List Int} (h : sB s = l) : s = toBA l := by rw [← h, toBA_sB]
theorem sz_toBA (l : List Int) : (toBA l).size = l.length := toBA_size l

theorem pad_dgw : ∀ (w n : Nat), 0 < w → n < 10 ^ w → List.replicate (w - (dg n).length) 48 ++ dg n = dgw w n
  | w + 1, n, _, h => by
    by_cases h0 : 10 ^ w ≤ n
    · have h1 := dg_len_ge w n h0
      rw [show w + 1 - (dg n).length = 0 by omega, dg_dgw w n h0 h]; rfl
    · by_cases hw : w = 0
      · subst hw; rw [show n = 0 by simp at h0; omega]; simp [dg_small, dgw]
      · have ih := pad_dgw w n (by omega) (by omega)
        have hl := dg_len_le (w - 1) n (by rw [Nat.sub_add_cancel (by omega)]; omega)
        have : dgw (w + 1) n = 48 :: dgw w n := by
          rw [Nat.add_comm, dgw_split, Nat.div_eq_of_lt (by omega)]; rfl
        rw [this, ← ih, show w + 1 - (dg n).length = (w - (dg n).length) + 1 by omega, List.replicate_succ]; rfl

/-- a number of so many digits at least -/
def dgn (n v : Nat) : List Int := List.replicate (n - (dg v).length) 48 ++ dg v
theorem dgn_byte (n v : Nat) : ∀ x ∈ dgn n v, 0 ≤ x ∧ x < 256 := by
  intro x hx
  rcases List.mem_append.1 hx with hx | hx
  · rw [(List.mem_replicate.1 hx).2]; omega
  · exact dg_byte v x hx

theorem c_digits (v n : Nat) (hv : v < 18446744073709551616) (hn : n ≤ 60) (K) (h : K (.ret (.str (toBA (dgn n v)))) []) :
    VCall Tryd.prog 33 [.int .u64 (v : Int), .int .i64 (n : Int)] [] K := by
  have hl := dg_len20 hv
  refine call_fun [] 0 Tryd.func33 (by rfl) (by rfl) ?_; (conv => whnf); (repeat (refine step_go [] ?_; conv => whnf))
  refine c_fuo v hv _ ?_; (conv => whnf); (repeat (refine step_go [] ?_; conv => whnf))
  refine ⟨rfl, ?_⟩
  rw [sz_toBA, show (if (0 : Int) > IntKind.i64.wrap ((n : Int) - ((dg v).length : Int)) then (0 : Int) else IntKind.i64.wrap ((n : Int) - ((dg v).length : Int))) = ((n - (dg v).length : Nat) : Int) by
    rw [wrap64 (by omega) (by omega)]; split <;> omega]
  (conv => whnf); (repeat (refine step_go [] ?_; conv => whnf))
  refine c_repeat _ (by omega) _ ?_; (conv => whnf); (repeat (refine step_go [] ?_; conv => whnf))
  refine ⟨?_, ?_⟩
  · rw [sz_toBA, sz_toBA, List.length_replicate]
    exact Int.le_trans (b := 100) (by omega) (by decide)
  (conv => whnf); (repeat (refine step_go [] ?_; conv => whnf))
  rw [toBA_app]
  exact h

theorem str_le {a b : Nat} (h : a + b < 1000000) : (((a + b : Nat) : Int) ≤ IntKind.i64.max) := Int.le_trans (b := 1000000) (by omega) (by decide)

theorem c_money (v : Int) (hv : I64 v) (K) (h : K (.ret (.str (toBA (moneyS v)))) []) : VCall Tryd.prog 15 [.int .i64 v] [] K := by
  have hn : v.natAbs < 18446744073709551616 := by have := hv.1; have := hv.2; omega
  have hl := dg_len20 (n := v.natAbs / 100) (by omega)
  have hl2 := dg_len20 (n := v.natAbs % 100) (by omega)
  have hs : (sgn v).length ≤ 1 := by unfold sgn; split <;> simp
  have e1 : dgn 1 (v.natAbs / 100) = dg (v.natAbs / 100) := by
    unfold dgn
    have := dg_len_pos (v.natAbs / 100)
    rw [show 1 - (dg (v.natAbs / 100)).length = 0 by omega]; rfl
  have e2 : dgn 2 (v.natAbs % 100) = dgw 2 (v.natAbs % 100) := pad_dgw 2 _ (by omega) (by omega)
  refine call_fun [] 0 Tryd.func15 (by rfl) (by rfl) ?_; (conv => whnf); (repeat (refine step_go [] ?_; conv => whnf))
  refine c_parts v 100 hv (by omega) (by omega) _ ?_; (conv => whnf); (repeat (refine step_go [] ?_; conv => whnf))
  refine c_digits _ 1 (by omega) (by omega) _ ?_; (conv => whnf); (repeat (refine step_go [] ?_; conv => whnf))
  rw [e1]
  refine ⟨by rw [sz_toBA, sz_toBA]; exact str_le (by omega), ?_⟩
  rw [toBA_app]; (conv => whnf); (repeat (refine step_go [] ?_; conv => whnf))
  refine ⟨by rw [sz_toBA]; refine str_le ?_; simp; show _ + 1 < _; omega, ?_⟩
  rw [show (ByteArray.mk #[46]) = toBA [46] from rfl, toBA_app]; (conv => whnf); (repeat (refine step_go [] ?_; conv => whnf))
  refine c_digits _ 2 (by omega) (by omega) _ ?_; (conv => whnf); (repeat (refine step_go [] ?_; conv => whnf))
  rw [e2]
  refine ⟨by rw [sz_toBA, sz_toBA, dgw_len]; refine str_le ?_; simp; omega, ?_⟩
  rw [toBA_app]; (conv => whnf); (repeat (refine step_go [] ?_; conv => whnf))
  exact h

theorem trimZ_len (l : List Int) : (trimZ l).length ≤ l.length := by
  unfold trimZ
  rw [List.length_reverse]
  have := (List.dropWhile_sublist (fun x : Int => x == 48) (l := l.reverse)).length_le
  simpa using this

theorem c_rate (v : Int) (hv : I64 v) (K) (h : K (.ret (.str (toBA (rateS v)))) []) : VCall Tryd.prog 22 [.int .i64 v] [] K := by
  have hn : v.natAbs < 18446744073709551616 := by have := hv.1; have := hv.2; omega
  have hl := dg_len20 (n := v.natAbs / 10000000) (by omega)
  have hs : (sgn v).length ≤ 1 := by unfold sgn; split <;> simp
  have e1 : dgn 1 (v.natAbs / 10000000) = dg (v.natAbs / 10000000) := by
    unfold dgn
    have := dg_len_pos (v.natAbs / 10000000)
    rw [show 1 - (dg (v.natAbs / 10000000)).length = 0 by omega]; rfl
  have e2 : dgn 7 (v.natAbs % 10000000) = dgw 7 (v.natAbs % 10000000) := pad_dgw 7 _ (by omega) (by omega)
  have hb7 := dgw_byte 7 (v.natAbs % 10000000)
  refine call_fun [] 0 Tryd.func22 (by rfl) (by rfl) ?_; (conv => whnf); (repeat (refine step_go [] ?_; conv => whnf))
  refine c_parts v 10000000 hv (by omega) (by omega) _ ?_; (conv => whnf); (repeat (refine step_go [] ?_; conv => whnf))
  refine c_digits _ 1 (by omega) (by omega) _ ?_; (conv => whnf); (repeat (refine step_go [] ?_; conv => whnf))
  rw [e1]
  refine ⟨by rw [sz_toBA, sz_toBA]; exact str_le (by omega), ?_⟩
  rw [toBA_app]; (conv => whnf); (repeat (refine step_go [] ?_; conv => whnf))
  refine two (fun g => ?_) (fun g => ?_)
  · have g : v.natAbs % 10000000 ≠ 0 := by simp at g; omega
    (conv => whnf); (repeat (refine step_go [] ?_; conv => whnf))
    refine c_digits _ 7 (by omega) (by omega) _ ?_; (conv => whnf); (repeat (refine step_go [] ?_; conv => whnf))
    rw [e2]
    refine c_trim _ (by rw [sz_toBA, dgw_len]; omega) _ ?_; (conv => whnf); (repeat (refine step_go [] ?_; conv => whnf))
    rw [sB_toBA hb7]
    have hz := trimZ_len (dgw 7 (v.natAbs % 10000000))
    rw [dgw_len] at hz
    refine ⟨by rw [sz_toBA]; refine str_le ?_; show 1 + _ < _; omega, ?_⟩
    rw [show (ByteArray.mk #[46]) = toBA [46] from rfl, toBA_app]; (conv => whnf); (repeat (refine step_go [] ?_; conv => whnf))
    refine ⟨by rw [sz_toBA, sz_toBA]; refine str_le ?_; simp; omega, ?_⟩
    rw [toBA_app]; (conv => whnf); (repeat (refine step_go [] ?_; conv => whnf))
    refine ⟨by rw [sz_toBA]; refine str_le ?_; simp; show _ + 1 < _; omega, ?_⟩
    rw [show (ByteArray.mk #[37]) = toBA [37] from rfl, toBA_app]; (conv => whnf); (repeat (refine step_go [] ?_; conv => whnf))
    rw [show rateS v = (sgn v ++ dg (v.natAbs / 10000000) ++ ([46] ++ trimZ (dgw 7 (v.natAbs % 10000000)))) ++ [37] by unfold rateS fracS; rw [if_neg g]; rfl] at h
    exact h
  · have g : v.natAbs % 10000000 = 0 := by simp at g; omega
    (conv => whnf); (repeat (refine step_go [] ?_; conv => whnf))
    refine ⟨by rw [sz_toBA]; refine str_le ?_; simp; show _ + 1 < _; omega, ?_⟩
    rw [show (ByteArray.mk #[37]) = toBA [37] from rfl, toBA_app]; (conv => whnf); (repeat (refine step_go [] ?_; conv => whnf))
    rw [show rateS v = (sgn v ++ dg (v.natAbs / 10000000)) ++ [37] by unfold rateS fracS; rw [if_pos g]; simp] at h
    exact h
end B10

namespace B11
open Go Go.Proofs VL B1 D1 B2 B3 B4 B5 B6 B7 B8 B9 B10
set_option pp.maxSteps 300
set_option maxRecDepth 100000
set_option linter.unusedVariables false
set_option linter.unusedSimpArgs false

theorem c_must (b : Bool) (e : Int) (K) (h0 : b = true → K (.ret (.tup [])) []) (h1 : b = false → K (.pan (.ifc 91 (.agg [.int .i64 e]))) []) : VCall Tryd.prog 37 [.bool b, .int .i64 e] [] K := by
  refine call_fun [] 0 Tryd.func37 (by rfl) (by rfl) ?_; (conv => whnf); (repeat (refine step_go [] ?_; conv => whnf))
  refine two (fun g => ?_) (fun g => ?_)
  · (conv => whnf); (repeat (refine step_go [] ?_; conv => whnf))
    exact h1 (by simpa using g)
  · (conv => whnf); (repeat (refine step_go [] ?_; conv => whnf))
    exact h0 (by simpa using g)

theorem c_fits (v : Int) (K) (h : K (.ret (.bool (decide (-1000000000000000 ≤ v ∧ v ≤ 1000000000000000)))) []) : VCall Tryd.prog 40 [.int .i64 v] [] K := by
  refine call_fun [] 0 Tryd.func40 (by rfl) (by rfl) ?_; (conv => whnf); (repeat (refine step_go [] ?_; conv => whnf))
  refine two (fun g => ?_) (fun g => ?_)
  · have g : -1000000000000000 ≤ v := by simpa using g
    (conv => whnf); (repeat (refine step_go [] ?_; conv => whnf))
    rw [show decide (-1000000000000000 ≤ v ∧ v ≤ 1000000000000000) = decide (v ≤ 1000000000000000) by simp [g]] at h
    exact h
  · have g : ¬ -1000000000000000 ≤ v := by simpa using g
    (conv => whnf); (repeat (refine step_go [] ?_; conv => whnf))
    rw [show decide (-1000000000000000 ≤ v ∧ v ≤ 1000000000000000) = false by simp [g]] at h
    exact h

theorem d_caught0 (x y : Int) (K) (h : K false [.cells true 2 [.int .i64 x], .cells true 35 [.int .i64 y]]) : VCallD Tryd.prog 34 [.ptr 0 0, .ptr 1 0] [.cells true 2 [.int .i64 x], .cells true 35 [.int .i64 y]] none K := by
  refine calld_fun [] 2 Tryd.func34 (by rfl) (by rfl) ?_
  conv => whnf
  refine ⟨rfl, ?_⟩
  (conv => whnf); (repeat (refine step_go [] ?_; conv => whnf))
  exact h
theorem d_caught1 (x y e : Int) (K) (h : K true [.cells true 2 [.int .i64 0], .cells true 35 [.int .i64 e]]) : VCallD Tryd.prog 34 [.ptr 0 0, .ptr 1 0] [.cells true 2 [.int .i64 x], .cells true 35 [.int .i64 y]] (some (.ifc 91 (.agg [.int .i64 e]))) K := by
  refine calld_fun [] 2 Tryd.func34 (by rfl) (by rfl) ?_
  conv => whnf
  refine ⟨rfl, ?_⟩
  (conv => whnf); (repeat (refine step_go [] ?_; conv => whnf))
  (refine ⟨by decide +kernel, ?_⟩; conv => whnf)
  (repeat (refine And.intro rfl ?_; conv => whnf))
  exact h

/-- digits, some, and so many at most -/
def numOk (l : List Int) (n : Nat) : Prop := 1 ≤ l.length ∧ l.length ≤ n ∧ ∀ x ∈ l, Dig x
instance (l n) : Decidable (numOk l n) := inferInstanceAs (Decidable (_ ∧ _ ∧ _))
def sat (v : Nat) : Nat := min v 100000000000000000
theorem sat_step (v d : Nat) (hd : d ≤ 9) : min (10 * min (sat v) 10000000000000000 + d) 100000000000000000 = sat (10 * v + d) := by unfold sat; omega
theorem vl_take {l : List Int} {i : Nat} (hi : i < l.length) : vl (l.take (i + 1)) = 10 * vl (l.take i) + (l[i] - 48).toNat := by
  rw [List.take_succ_eq_append_getElem hi, vl_snoc]
theorem wrapu8' {x : Int} (h : 0 ≤ x) (h2 : x < 256) : IntKind.u8.wrap x = x := by rw [wrapu8]; omega

theorem c_number (l : List Int) (hb : ∀ x ∈ l, 0 ≤ x ∧ x < 256) (hl : l.length < 1000000) (n : Nat) (hn : n < 1000) (K) (h0 : numOk l n → K (.ret (.int .i64 (sat (vl l) : Nat))) [])
    (h1 : ¬ numOk l n → K (.pan (.ifc 91 (.agg [.int .i64 4]))) []) : VCall Tryd.prog 39 [.str (toBA l), .int .i64 (n : Int)] [] K := by
  have hbl := bL_len l
  refine call_fun [] 0 Tryd.func39 (by rfl) (by rfl) ?_; (conv => whnf); (repeat (refine step_go [] ?_; conv => whnf))
  refine two (fun g => ?_) (fun g => ?_)
  all_goals have g' := g
  all_goals simp [sz_toBA] at g
  · (conv => whnf); (repeat (refine step_go [] ?_; conv => whnf))
    refine c_must _ _ _ (fun g2 => ?_) (fun g2 => ?_)
    case refine_2 =>
      have g2 : n < l.length := by simp [sz_toBA] at g2; omega
      (conv => whnf); (repeat (refine step_go [] ?_; conv => whnf))
      exact h1 fun h => by have := h.2.1; omega
    have g2 : l.length ≤ n := by simp [sz_toBA] at g2; omega
    (conv => whnf); (repeat (refine step_go [] ?_; conv => whnf))
    rw [← toBA_V hb]
    let S : Nat → St := fun i => ⟨(.str (toBA l) :: .int .i64 (n : Int) :: .undef :: .undef :: .undef :: .int .i64 (sat (vl (l.take i)) : Nat) :: .undef :: .undef :: .undef :: .undef :: .undef :: .undef :: .undef :: .undef :: .undef :: .undef :: .undef :: .undef :: .undef :: .sl (bL l) .no :: .int .i64 l.length :: .int .i64 i :: .undef :: .undef :: .undef :: .undef :: .undef :: .undef :: .undef :: .undef :: .undef :: .undef :: .undef :: .undef :: .undef :: .undef :: .undef :: .undef :: .undef :: .undef :: .undef :: .undef :: []), [], 0, []⟩
    refine VLoop.enter (s' := S 0) (weak_of ?_ .nil rfl rfl rfl) (VLoop.indW S (fun i => l.length - i) (fun i => i ≤ l.length ∧ ∀ j, (h : j < i) → (h' : j < l.length) → Dig l[j]) ?_ 0 ⟨by omega, fun j h => by omega⟩)
    · repeat' first
        | exact VWs.nil
        | refine VWs.cons VW.undef ?_
        | refine VWs.cons (VW.eq rfl) ?_
        | refine VWs.cons (VW.eq (by rw [hbl])) ?_
    rintro i ⟨hi, hd⟩ ih
    refine loop_round [] ?_; (conv => whnf); (repeat (refine step_go [] ?_; conv => whnf))
    refine two (fun g3 => ?_) (fun g3 => ?_)
    · have hil : i < l.length := by simp at g3; omega
      have hget : (bL l)[(i : Int).toNat]? = some (.int .u8 (l[i])) := by rw [Int.toNat_natCast, bL_get, List.getElem?_eq_getElem hil]; rfl
      have hby := hb l[i] (List.getElem_mem hil)
      (conv => whnf); (repeat (refine step_go [] ?_; conv => whnf))
      refine ⟨by omega, _, hget, rfl, ?_⟩; (conv => whnf); (repeat (refine step_go [] ?_; conv => whnf))
      have hbad : ¬ Dig l[i] → K (Out.pan (.ifc 91 (.agg [.int .i64 4]))) [] := fun h => h1 fun hk => h (hk.2.2 _ (List.getElem_mem hil))
      refine two (fun g4 => ?_) (fun g4 => ?_)
      · have g4 : 48 ≤ l[i] := by simpa using g4
        (conv => whnf); (repeat (refine step_go [] ?_; conv => whnf))
        refine c_must _ _ _ (fun g5 => ?_) (fun g5 => ?_)
        case refine_2 =>
          have g5 : 57 < l[i] := by simpa using g5
          (conv => whnf); (repeat (refine step_go [] ?_; conv => whnf))
          exact hbad fun h => by unfold Dig at h; omega
        have g5 : l[i] ≤ 57 := by simpa using g5
        (conv => whnf); (repeat (refine step_go [] ?_; conv => whnf))
        refine ⟨rfl, ?_⟩; (conv => whnf); (repeat (refine step_go [] ?_; conv => whnf))
        refine ⟨rfl, ?_⟩; (conv => whnf); (repeat (refine step_go [] ?_; conv => whnf))
        refine ⟨S (i + 1), weak_of ?_ .nil rfl rfl rfl, ih (i + 1) ⟨by omega, fun j hj hj' => ?_⟩ (by omega)⟩
        · have e : (if (100000000000000000 : Int) < IntKind.i64.wrap (IntKind.i64.wrap (10 * (if (10000000000000000 : Int) < ((sat (vl (l.take i)) : Nat) : Int) then (10000000000000000 : Int) else ((sat (vl (l.take i)) : Nat) : Int))) + IntKind.i64.wrap (IntKind.u8.wrap (l[i] - 48))) then (100000000000000000 : Int) else IntKind.i64.wrap (IntKind.i64.wrap (10 * (if (10000000000000000 : Int) < ((sat (vl (l.take i)) : Nat) : Int) then (10000000000000000 : Int) else ((sat (vl (l.take i)) : Nat) : Int))) + IntKind.i64.wrap (IntKind.u8.wrap (l[i] - 48)))) = ((sat (vl (l.take (i + 1))) : Nat) : Int) := by
            rw [vl_take hil, ← sat_step _ _ (by omega)]
            have hs : sat (vl (l.take i)) ≤ 100000000000000000 := by unfold sat; omega
            generalize sat (vl (l.take i)) = q at hs
            rw [wrapu8' (by omega) (by omega), wrap64 (x := l[i] - 48) (by omega) (by omega)]
            have e1 : (if (10000000000000000 : Int) < ((q : Nat) : Int) then (10000000000000000 : Int) else ((q : Nat) : Int)) = ((min q 10000000000000000 : Nat) : Int) := by split <;> omega
            rw [e1, wrap64 (x := 10 * ((min q 10000000000000000 : Nat) : Int)) (by omega) (by omega), wrap64 (by omega) (by omega)]
            split <;> omega
          repeat' first
            | exact VWs.nil
            | refine VWs.cons VW.undef ?_
            | refine VWs.cons (VW.eq rfl) ?_
            | refine VWs.cons (VW.eq (congrArg (V.int .i64) (by rw [wrap64 (by omega) (by omega)]; omega))) ?_
            | refine VWs.cons (VW.eq (congrArg (V.int .i64) e)) ?_
        · by_cases hji : j < i
          · exact hd j hji hj'
          · have : j = i := by omega
            subst this
            exact ⟨g4, g5⟩
      · have g4 : l[i] < 48 := by simpa using g4
        (conv => whnf); (repeat (refine step_go [] ?_; conv => whnf))
        refine c_must _ _ _ (fun g5 => by cases g5) (fun g5 => ?_)
        (conv => whnf); (repeat (refine step_go [] ?_; conv => whnf))
        exact hbad fun h => by unfold Dig at h; omega
    · have hil : i = l.length := by simp at g3; omega
      subst hil
      (conv => whnf); (repeat (refine step_go [] ?_; conv => whnf))
      refine ⟨_, Weak.refl, ?_⟩; (conv => whnf); (repeat (refine step_go [] ?_; conv => whnf))
      rw [List.take_length]
      refine h0 ⟨by omega, g2, fun x hx => ?_⟩
      obtain ⟨j, hj, rfl⟩ := List.mem_iff_getElem.1 hx
      exact hd j hj hj
  · (conv => whnf); (repeat (refine step_go [] ?_; conv => whnf))
    refine c_must _ _ _ (fun g5 => by cases g5) (fun g5 => ?_)
    (conv => whnf); (repeat (refine step_go [] ?_; conv => whnf))
    exact h1 fun hk => by have := hk.1; omega
end B11

namespace B12
open Go Go.Proofs VL B1 D1 B2 B3 B4 B5 B6 B7 B8 B9 B10 B11
set_option pp.maxSteps 300
set_option maxRecDepth 100000
set_option linter.unusedVariables false
set_option linter.unusedSimpArgs false

def wholeOk (l : List Int) : Prop := numOk l 20 ∧ (l.length = 1 ∨ l.head? ≠ some 48)
instance (l) : Decidable (wholeOk l) := inferInstanceAs (Decidable (_ ∧ _))

theorem c_whole (l : List Int) (hb : ∀ x ∈ l, 0 ≤ x ∧ x < 256) (hl : l.length < 1000000) (K) (h0 : wholeOk l → K (.ret (.int .i64 (sat (vl l) : Nat))) [])
    (h1 : ¬ wholeOk l → K (.pan (.ifc 91 (.agg [.int .i64 4]))) []) : VCall Tryd.prog 38 [.str (toBA l)] [] K := by
  refine call_fun [] 0 Tryd.func38 (by rfl) (by rfl) ?_; (conv => whnf); (repeat (refine step_go [] ?_; conv => whnf))
  refine c_number l hb hl 20 (by omega) _ (fun g => ?_) (fun g => ?_)
  case refine_2 => (conv => whnf); (repeat (refine step_go [] ?_; conv => whnf)); exact h1 fun h => g h.1
  (conv => whnf); (repeat (refine step_go [] ?_; conv => whnf))
  refine two (fun g2 => ?_) (fun g2 => ?_)
  · have g2 : l.length = 1 := by have := beq_iff_eq.1 g2; rw [sz_toBA] at this; omega
    (conv => whnf); (repeat (refine step_go [] ?_; conv => whnf))
    refine c_must _ _ _ (fun g5 => ?_) (fun g5 => by cases g5)
    (conv => whnf); (repeat (refine step_go [] ?_; conv => whnf))
    exact h0 ⟨g, .inl g2⟩
  · have g2 : l.length ≠ 1 := by intro e; rw [sz_toBA, e] at g2; simp at g2
    have hl0 := g.1
    obtain ⟨x, r, rfl⟩ : ∃ x r, l = x :: r := by cases l with | nil => simp at hl0 | cons x r => exact ⟨x, r, rfl⟩
    (conv => whnf); (repeat (refine step_go [] ?_; conv => whnf))
    refine idx_str (x := x) (by omega) (by rw [sB_toBA hb]; rfl) fun c hc => ?_
    rw [hc]; (conv => whnf); (repeat (refine step_go [] ?_; conv => whnf))
    refine c_must _ _ _ (fun g5 => ?_) (fun g5 => ?_)
    · have g5 : x ≠ 48 := by simpa using g5
      (conv => whnf); (repeat (refine step_go [] ?_; conv => whnf))
      exact h0 ⟨g, .inr (by simpa using g5)⟩
    · have g5 : x = 48 := by simpa using g5
      (conv => whnf); (repeat (refine step_go [] ?_; conv => whnf))
      exact h1 fun h => by
        rcases h.2 with h | h
        · exact g2 h
        · simp [g5] at h

def aheadT (t : List Int) : List Int := t.takeWhile (· != 46)
def behind (t : List Int) : List Int := (t.dropWhile (· != 46)).drop 1
def unsg (l : List Int) : List Int := if hasP l [45] then l.drop 1 else l
def moneyOk (t : List Int) : Prop := t.contains 46 = true ∧ (behind t).length = 2 ∧ wholeOk (aheadT t) ∧ numOk (behind t) 2
instance (l) : Decidable (moneyOk l) := inferInstanceAs (Decidable (_ ∧ _ ∧ _ ∧ _))
def moneyN (t : List Int) : Nat := vl (aheadT t) * 100 + vl (behind t)
/-- what money a text is -/
def takeM (l : List Int) : Int × Int :=
  if ¬ moneyOk (unsg l) then (0, 4) else
  if hasP l [45] = true ∧ moneyN (unsg l) = 0 then (0, 4) else
  if 1000000000000000 < moneyN (unsg l) then (0, 3) else
  (if hasP l [45] = true then -(moneyN (unsg l) : Int) else (moneyN (unsg l) : Int), 0)

theorem unsg_byte {l : List Int} (h : ∀ x ∈ l, 0 ≤ x ∧ x < 256) : ∀ x ∈ unsg l, 0 ≤ x ∧ x < 256 := by
  unfold unsg; split
  · exact fun x hx => h x (List.mem_of_mem_drop hx)
  · exact h
theorem unsg_len (l : List Int) : (unsg l).length ≤ l.length := by unfold unsg; split <;> simp
theorem ahead_sub (t : List Int) : ∀ x ∈ aheadT t, x ∈ t := fun x hx => (List.takeWhile_sublist _).subset hx
theorem behind_sub (t : List Int) : ∀ x ∈ behind t, x ∈ t := fun x hx => (List.dropWhile_sublist _).subset (List.mem_of_mem_drop hx)
theorem ahead_len (t : List Int) : (aheadT t).length ≤ t.length := (List.takeWhile_sublist _).length_le
theorem behind_len (t : List Int) : (behind t).length ≤ t.length := by
  unfold behind; rw [List.length_drop]
  have := (List.dropWhile_sublist (fun x : Int => x != 46) (l := t)).length_le
  omega
theorem vl_two {l : List Int} (h : l.length = 2) (hd : ∀ x ∈ l, Dig x) : vl l < 100 := by have := vl_lt l hd; rw [h] at this; omega

set_option maxHeartbeats 4000000 in
theorem c_takeM (s : ByteArray) (hs : s.size < 1000000) (K) (h : K (.ret (.tup [.int .i64 (takeM (sB s)).1, .int .i64 (takeM (sB s)).2])) []) : VCall Tryd.prog 17 [.str s] [] K := by
  have hb := sB_byte s
  have hl := sB_len s
  have hub := unsg_byte hb
  have hul := unsg_len (sB s)
  have hab : ∀ x ∈ aheadT (unsg (sB s)), 0 ≤ x ∧ x < 256 := fun x hx => hub x (ahead_sub _ x hx)
  have hbb : ∀ x ∈ behind (unsg (sB s)), 0 ≤ x ∧ x < 256 := fun x hx => hub x (behind_sub _ x hx)
  have hal := ahead_len (unsg (sB s))
  have hbl := behind_len (unsg (sB s))
  have hfail : ¬ moneyOk (unsg (sB s)) → K (.ret (.tup [.int .i64 0, .int .i64 4])) [] := fun hn => by
    have : takeM (sB s) = (0, 4) := by unfold takeM; rw [if_pos hn]
    rw [this] at h; exact h
  refine VCall.weak (call_fun [] 0 Tryd.func17 (by rfl) (by rfl) ?_)
  (conv => whnf); (repeat (refine step_go [] ?_; conv => whnf))
  refine c_cutP s _ _ ?_; (conv => whnf); (repeat (refine step_go [] ?_; conv => whnf))
  rw [show sB (ByteArray.mk #[45]) = [45] from rfl]
  rw [show (if hasP (sB s) [45] = true then List.drop [(45 : Int)].length (sB s) else sB s) = unsg (sB s) from rfl]
  refine c_cut _ (by rw [sz_toBA]; omega) _ ?_; (conv => whnf); (repeat (refine step_go [] ?_; conv => whnf))
  rw [sB_toBA hub]
  rw [show List.takeWhile (fun x => x != 46) (unsg (sB s)) = aheadT (unsg (sB s)) from rfl, show List.drop 1 (List.dropWhile (fun x => x != 46) (unsg (sB s))) = behind (unsg (sB s)) from rfl]
  refine two (fun g => ?_) (fun g => ?_)
  case refine_2 =>
    (conv => whnf); (repeat (refine step_go [] ?_; conv => whnf))
    refine c_must _ _ _ (fun g5 => by cases g5) (fun g5 => ?_)
    (conv => whnf); (repeat first | (refine step_go [] ?_; conv => whnf) | (refine d_caught1 _ _ _ _ ?_; conv => whnf))
    exact ⟨_, _, Weak.refl, hfail fun hk => by rw [hk.1] at g; cases g⟩
  (conv => whnf); (repeat (refine step_go [] ?_; conv => whnf))
  refine c_must _ _ _ (fun g2 => ?_) (fun g2 => ?_)
  case refine_2 =>
    (conv => whnf); (repeat first | (refine step_go [] ?_; conv => whnf) | (refine d_caught1 _ _ _ _ ?_; conv => whnf))
    exact ⟨_, _, Weak.refl, hfail fun hk => by rw [sz_toBA, hk.2.1] at g2; cases g2⟩
  have g2 : (behind (unsg (sB s))).length = 2 := by have := beq_iff_eq.1 g2; rw [sz_toBA] at this; omega
  (conv => whnf); (repeat (refine step_go [] ?_; conv => whnf))
  refine c_whole _ hab (by omega) _ (fun g3 => ?_) (fun g3 => ?_)
  case refine_2 =>
    (conv => whnf); (repeat first | (refine step_go [] ?_; conv => whnf) | (refine d_caught1 _ _ _ _ ?_; conv => whnf))
    exact ⟨_, _, Weak.refl, hfail fun hk => g3 hk.2.2.1⟩
  (conv => whnf); (repeat (refine step_go [] ?_; conv => whnf))
  refine c_number _ hbb (by omega) 2 (by omega) _ (fun g4 => ?_) (fun g4 => ?_)
  case refine_2 =>
    (conv => whnf); (repeat first | (refine step_go [] ?_; conv => whnf) | (refine d_caught1 _ _ _ _ ?_; conv => whnf))
    exact ⟨_, _, Weak.refl, hfail fun hk => g4 hk.2.2.2⟩
  have hok : moneyOk (unsg (sB s)) := ⟨g, g2, g3, g4⟩
  have hv2 := vl_two g2 g4.2.2
  have hs2 : sat (vl (behind (unsg (sB s)))) = vl (behind (unsg (sB s))) := by unfold sat; omega
  have hs1 : sat (vl (aheadT (unsg (sB s)))) ≤ 100000000000000000 := by unfold sat; omega
  have hN : moneyN (unsg (sB s)) = vl (aheadT (unsg (sB s))) * 100 + vl (behind (unsg (sB s))) := rfl
  rw [hs2]
  have hzero : hasP (sB s) [45] = true → moneyN (unsg (sB s)) = 0 → K (.ret (.tup [.int .i64 0, .int .i64 4])) [] := fun h1 h2 => by
    have : takeM (sB s) = (0, 4) := by unfold takeM; rw [if_neg (by simpa using hok), if_pos ⟨h1, h2⟩]
    rw [this] at h; exact h
  have hbig : (hasP (sB s) [45] = true → moneyN (unsg (sB s)) ≠ 0) → 1000000000000000 < moneyN (unsg (sB s)) → K (.ret (.tup [.int .i64 0, .int .i64 3])) [] := fun h1 h2 => by
    have : takeM (sB s) = (0, 3) := by unfold takeM; rw [if_neg (by simpa using hok), if_neg (fun h => h1 h.1 h.2), if_pos h2]
    rw [this] at h; exact h
  have hgood : (hasP (sB s) [45] = true → moneyN (unsg (sB s)) ≠ 0) → moneyN (unsg (sB s)) ≤ 1000000000000000 → K (.ret (.tup [.int .i64 (if hasP (sB s) [45] = true then -(moneyN (unsg (sB s)) : Int) else (moneyN (unsg (sB s)) : Int)), .int .i64 0])) [] := fun h1 h2 => by
    have : takeM (sB s) = (if hasP (sB s) [45] = true then -(moneyN (unsg (sB s)) : Int) else (moneyN (unsg (sB s)) : Int), 0) := by unfold takeM; rw [if_neg (by simpa using hok), if_neg (fun h => h1 h.1 h.2), if_neg (by omega)]
    rw [this] at h; exact h
  have rest : (hasP (sB s) [45] = true → moneyN (unsg (sB s)) ≠ 0) → True := fun _ => trivial
  clear h hok hfail
  generalize moneyN (unsg (sB s)) = N at *
  generalize hA : vl (aheadT (unsg (sB s))) = A at *
  generalize hB : vl (behind (unsg (sB s))) = B at *
  generalize hasP (sB s) [45] = p at *
  cases p with
  | false =>
    (conv => whnf); (repeat (refine step_go [] ?_; conv => whnf))
    refine c_must _ _ _ (fun g6 => ?_) (fun g6 => by cases g6)
    (conv => whnf); (repeat (refine step_go [] ?_; conv => whnf))
    have hpre : ((false : Bool) = true → N ≠ 0) := fun h => by cases h
    refine c_must _ _ _ (fun g7 => ?_) (fun g7 => ?_)
    case refine_2 =>
      have g7 : 10000000000000 < sat A := by have := of_decide_eq_false g7; omega
      (conv => whnf); (repeat first | (refine step_go [] ?_; conv => whnf) | (refine d_caught1 _ _ _ _ ?_; conv => whnf))
      exact ⟨_, _, Weak.refl, hbig hpre (by unfold sat at g7; omega)⟩
    have g7 : sat A ≤ 10000000000000 := by have := of_decide_eq_true g7; omega
    have hAs : sat A = A := by unfold sat at g7 ⊢; omega
    rw [hAs]; (conv => whnf); (repeat (refine step_go [] ?_; conv => whnf))
    rw [show IntKind.i64.wrap (IntKind.i64.wrap ((A : Int) * 100) + (B : Int)) = (N : Int) by rw [wrap64 (x := (A : Int) * 100) (by omega) (by omega), wrap64 (by omega) (by omega)]; omega]
    refine c_fits _ _ ?_; (conv => whnf); (repeat (refine step_go [] ?_; conv => whnf))
    refine c_must _ _ _ (fun g8 => ?_) (fun g8 => ?_)
    case refine_2 =>
      have g8 := of_decide_eq_false g8
      (conv => whnf); (repeat first | (refine step_go [] ?_; conv => whnf) | (refine d_caught1 _ _ _ _ ?_; conv => whnf))
      exact ⟨_, _, Weak.refl, hbig hpre (by omega)⟩
    have g8 := of_decide_eq_true g8
    (conv => whnf); (repeat first | (refine step_go [] ?_; conv => whnf) | (refine d_caught0 _ _ _ ?_; conv => whnf))
    exact ⟨_, _, Weak.refl, hgood hpre (by omega)⟩
  | true =>
    (conv => whnf); (repeat (refine step_go [] ?_; conv => whnf))
    refine two (fun g5 => ?_) (fun g5 => ?_)
    · have g5 : 0 < sat A := by have := of_decide_eq_true g5; omega
      (conv => whnf); (repeat (refine step_go [] ?_; conv => whnf))
      refine c_must _ _ _ (fun g6 => ?_) (fun g6 => by cases g6)
      (conv => whnf); (repeat (refine step_go [] ?_; conv => whnf))
      have hpre : ((true : Bool) = true → N ≠ 0) := fun _ => by unfold sat at g5; omega
      refine c_must _ _ _ (fun g7 => ?_) (fun g7 => ?_)
      case refine_2 =>
        have g7 : 10000000000000 < sat A := by have := of_decide_eq_false g7; omega
        (conv => whnf); (repeat first | (refine step_go [] ?_; conv => whnf) | (refine d_caught1 _ _ _ _ ?_; conv => whnf))
        exact ⟨_, _, Weak.refl, hbig hpre (by unfold sat at g7; omega)⟩
      have g7 : sat A ≤ 10000000000000 := by have := of_decide_eq_true g7; omega
      have hAs : sat A = A := by unfold sat at g7 ⊢; omega
      rw [hAs]; (conv => whnf); (repeat (refine step_go [] ?_; conv => whnf))
      rw [show IntKind.i64.wrap (IntKind.i64.wrap ((A : Int) * 100) + (B : Int)) = (N : Int) by rw [wrap64 (x := (A : Int) * 100) (by omega) (by omega), wrap64 (by omega) (by omega)]; omega]
      refine c_fits _ _ ?_; (conv => whnf); (repeat (refine step_go [] ?_; conv => whnf))
      refine c_must _ _ _ (fun g8 => ?_) (fun g8 => ?_)
      case refine_2 =>
        have g8 := of_decide_eq_false g8
        (conv => whnf); (repeat first | (refine step_go [] ?_; conv => whnf) | (refine d_caught1 _ _ _ _ ?_; conv => whnf))
        exact ⟨_, _, Weak.refl, hbig hpre (by omega)⟩
      have g8 := of_decide_eq_true g8
      (conv => whnf); (repeat first | (refine step_go [] ?_; conv => whnf) | (refine d_caught0 _ _ _ ?_; conv => whnf))
      rw [show IntKind.i64.wrap (0 - (N : Int)) = -(N : Int) by rw [wrap64 (by omega) (by omega)]; omega]
      exact ⟨_, _, Weak.refl, hgood hpre (by omega)⟩
    · have g5 : sat A = 0 := by have := of_decide_eq_false g5; omega
      (conv => whnf); (repeat (refine step_go [] ?_; conv => whnf))
      refine c_must _ _ _ (fun g6 => ?_) (fun g6 => ?_)
      case refine_2 =>
        have g6 : B = 0 := by have := of_decide_eq_false g6; omega
        (conv => whnf); (repeat first | (refine step_go [] ?_; conv => whnf) | (refine d_caught1 _ _ _ _ ?_; conv => whnf))
        exact ⟨_, _, Weak.refl, hzero rfl (by unfold sat at g5; omega)⟩
      have g6 : 0 < B := by have := of_decide_eq_true g6; omega
      (conv => whnf); (repeat (refine step_go [] ?_; conv => whnf))
      have hpre : ((true : Bool) = true → N ≠ 0) := fun _ => by omega
      refine c_must _ _ _ (fun g7 => ?_) (fun g7 => ?_)
      case refine_2 =>
        have g7 : 10000000000000 < sat A := by have := of_decide_eq_false g7; omega
        (conv => whnf); (repeat first | (refine step_go [] ?_; conv => whnf) | (refine d_caught1 _ _ _ _ ?_; conv => whnf))
        exact ⟨_, _, Weak.refl, hbig hpre (by unfold sat at g7; omega)⟩
      have g7 : sat A ≤ 10000000000000 := by have := of_decide_eq_true g7; omega
      have hAs : sat A = A := by unfold sat at g7 ⊢; omega
      rw [hAs]; (conv => whnf); (repeat (refine step_go [] ?_; conv => whnf))
      rw [show IntKind.i64.wrap (IntKind.i64.wrap ((A : Int) * 100) + (B : Int)) = (N : Int) by rw [wrap64 (x := (A : Int) * 100) (by omega) (by omega), wrap64 (by omega) (by omega)]; omega]
      refine c_fits _ _ ?_; (conv => whnf); (repeat (refine step_go [] ?_; conv => whnf))
      refine c_must _ _ _ (fun g8 => ?_) (fun g8 => ?_)
      case refine_2 =>
        have g8 := of_decide_eq_false g8
        (conv => whnf); (repeat first | (refine step_go [] ?_; conv => whnf) | (refine d_caught1 _ _ _ _ ?_; conv => whnf))
        exact ⟨_, _, Weak.refl, hbig hpre (by omega)⟩
      have g8 := of_decide_eq_true g8
      (conv => whnf); (repeat first | (refine step_go [] ?_; conv => whnf) | (refine d_caught0 _ _ _ ?_; conv => whnf))
      rw [show IntKind.i64.wrap (0 - (N : Int)) = -(N : Int) by rw [wrap64 (by omega) (by omega)]; omega]
      exact ⟨_, _, Weak.refl, hgood hpre (by omega)⟩
end B12

namespace B13
open Go Go.Proofs VL B1 D1 B2 B3 B4 B5 B6 B7 B8 B9 B10 B11 B12
set_option pp.maxSteps 300
set_option maxRecDepth 100000
set_option linter.unusedVariables false
set_option linter.unusedSimpArgs false

def unpc (l : List Int) : List Int := l.take (l.length - 1)
def fracOk (b : List Int) : Prop := 1 ≤ b.length ∧ b.length ≤ 7 ∧ b.getLast? ≠ some 48 ∧ ∀ x ∈ b, Dig x
instance (b) : Decidable (fracOk b) := inferInstanceAs (Decidable (_ ∧ _ ∧ _ ∧ _))
def fracN (b : List Int) : Nat := vl (b ++ List.replicate (7 - b.length) 48)
def rateOk (t : List Int) : Prop := wholeOk (aheadT t) ∧ vl (aheadT t) ≤ 1000 ∧ (t.contains 46 = true → fracOk (behind t))
instance (l) : Decidable (rateOk l) := inferInstanceAs (Decidable (_ ∧ _ ∧ (_ → _)))
def rateN (t : List Int) : Nat := vl (aheadT t) * 10000000 + (if t.contains 46 = true then fracN (behind t) else 0)
/-- what rate a text is -/
def takeR (l : List Int) : Int × Int :=
  if hasS l [37] = true ∧ rateOk (unsg (unpc l)) ∧ rateN (unsg (unpc l)) ≤ 10000000000 ∧ (hasP (unpc l) [45] = true → 0 < rateN (unsg (unpc l))) then
    (if hasP (unpc l) [45] = true then -(rateN (unsg (unpc l)) : Int) else (rateN (unsg (unpc l)) : Int), 0)
  else (0, 4)

theorem unpc_byte {l : List Int} (h : ∀ x ∈ l, 0 ≤ x ∧ x < 256) : ∀ x ∈ unpc l, 0 ≤ x ∧ x < 256 := fun x hx => h x (List.mem_of_mem_take hx)
theorem unpc_len (l : List Int) : (unpc l).length ≤ l.length := by unfold unpc; simp
theorem last_get {b : List Int} {n : Nat} (h : b.length = n + 1) : ∃ x, b[n]? = some x ∧ b.getLast? = some x := by
  refine ⟨b[n], List.getElem?_eq_getElem (by omega), ?_⟩
  rw [List.getLast?_eq_getElem?, show b.length - 1 = n by omega, List.getElem?_eq_getElem (by omega)]

set_option maxHeartbeats 4000000 in
theorem c_takeR (s : ByteArray) (hs : s.size < 1000000) (K) (h : K (.ret (.tup [.int .i64 (takeR (sB s)).1, .int .i64 (takeR (sB s)).2])) []) : VCall Tryd.prog 19 [.str s] [] K := by
  have hb := sB_byte s
  have hl := sB_len s
  have hpb := unpc_byte hb
  have hpl := unpc_len (sB s)
  have hub := unsg_byte hpb
  have hul := unsg_len (unpc (sB s))
  have hfail : ¬ (hasS (sB s) [37] = true ∧ rateOk (unsg (unpc (sB s))) ∧ rateN (unsg (unpc (sB s))) ≤ 10000000000 ∧ (hasP (unpc (sB s)) [45] = true → 0 < rateN (unsg (unpc (sB s))))) → K (.ret (.tup [.int .i64 0, .int .i64 4])) [] := fun hn => by
    have : takeR (sB s) = (0, 4) := by unfold takeR; rw [if_neg hn]
    rw [this] at h; exact h
  have hgood : (hasS (sB s) [37] = true ∧ rateOk (unsg (unpc (sB s))) ∧ rateN (unsg (unpc (sB s))) ≤ 10000000000 ∧ (hasP (unpc (sB s)) [45] = true → 0 < rateN (unsg (unpc (sB s))))) → K (.ret (.tup [.int .i64 (if hasP (unpc (sB s)) [45] = true then -(rateN (unsg (unpc (sB s))) : Int) else (rateN (unsg (unpc (sB s))) : Int)), .int .i64 0])) [] := fun hn => by
    have : takeR (sB s) = (if hasP (unpc (sB s)) [45] = true then -(rateN (unsg (unpc (sB s))) : Int) else (rateN (unsg (unpc (sB s))) : Int), 0) := by unfold takeR; rw [if_pos hn]
    rw [this] at h; exact h
  clear h
  refine VCall.weak (call_fun [] 0 Tryd.func19 (by rfl) (by rfl) ?_)
  (conv => whnf); (repeat (refine step_go [] ?_; conv => whnf))
  refine c_cutS s _ _ (by omega) ?_; (conv => whnf); (repeat (refine step_go [] ?_; conv => whnf))
  rw [show sB (ByteArray.mk #[37]) = [37] from rfl]
  refine c_must _ _ _ (fun g => ?_) (fun g => ?_)
  case refine_2 =>
    (conv => whnf); (repeat first | (refine step_go [] ?_; conv => whnf) | (refine d_caught1 _ _ _ _ ?_; conv => whnf))
    exact ⟨_, _, Weak.refl, hfail fun hk => by rw [hk.1] at g; cases g⟩
  rw [g]
  rw [show (if true = true then List.take (s.size - (ByteArray.mk #[37]).size) (sB s) else sB s) = unpc (sB s) by rw [if_pos rfl]; unfold unpc; rw [hl]; rfl]
  (conv => whnf); (repeat (refine step_go [] ?_; conv => whnf))
  refine c_cutP _ _ _ ?_; (conv => whnf); (repeat (refine step_go [] ?_; conv => whnf))
  rw [sB_toBA hpb, show sB (ByteArray.mk #[45]) = [45] from rfl]
  rw [show (if hasP (unpc (sB s)) [45] = true then List.drop [(45 : Int)].length (unpc (sB s)) else unpc (sB s)) = unsg (unpc (sB s)) from rfl]
  generalize unsg (unpc (sB s)) = t at *
  generalize hasP (unpc (sB s)) [45] = neg at *
  have hab : ∀ x ∈ aheadT t, 0 ≤ x ∧ x < 256 := fun x hx => hub x (ahead_sub _ x hx)
  have hbb : ∀ x ∈ behind t, 0 ≤ x ∧ x < 256 := fun x hx => hub x (behind_sub _ x hx)
  have hal := ahead_len t
  have hbl := behind_len t
  refine c_cut _ (by rw [sz_toBA]; omega) _ ?_; (conv => whnf); (repeat (refine step_go [] ?_; conv => whnf))
  rw [sB_toBA hub]
  rw [show List.takeWhile (fun x => x != 46) t = aheadT t from rfl, show List.drop 1 (List.dropWhile (fun x => x != 46) t) = behind t from rfl]
  refine c_whole _ hab (by omega) _ (fun g3 => ?_) (fun g3 => ?_)
  case refine_2 =>
    (conv => whnf); (repeat first | (refine step_go [] ?_; conv => whnf) | (refine d_caught1 _ _ _ _ ?_; conv => whnf))
    exact ⟨_, _, Weak.refl, hfail fun hk => g3 hk.2.1.1⟩
  (conv => whnf); (repeat (refine step_go [] ?_; conv => whnf))
  refine c_must _ _ _ (fun g4 => ?_) (fun g4 => ?_)
  case refine_2 =>
    have g4 := of_decide_eq_false g4
    (conv => whnf); (repeat first | (refine step_go [] ?_; conv => whnf) | (refine d_caught1 _ _ _ _ ?_; conv => whnf))
    exact ⟨_, _, Weak.refl, hfail fun hk => by have := hk.2.1.2.1; unfold sat at g4; omega⟩
  have g4 : vl (aheadT t) ≤ 1000 := by have := of_decide_eq_true g4; unfold sat at this; omega
  have hsat : sat (vl (aheadT t)) = vl (aheadT t) := by unfold sat; omega
  rw [hsat]; (conv => whnf); (repeat (refine step_go [] ?_; conv => whnf))
  rw [show IntKind.i64.wrap (((vl (aheadT t) : Nat) : Int) * 10000000) = ((vl (aheadT t) * 10000000 : Nat) : Int) by rw [wrap64 (by omega) (by omega)]; omega]
  obtain ⟨W, hW⟩ : ∃ W, vl (aheadT t) * 10000000 = W := ⟨_, rfl⟩
  have hW2 : W ≤ 10000000000 := by omega
  obtain ⟨w, hw⟩ : ∃ w, ((W : Nat) : Int) = w := ⟨_, rfl⟩
  rw [hW, hw]
  refine two (fun hp => ?_) (fun hp => ?_)
  · (conv => whnf); (repeat (refine step_go [] ?_; conv => whnf))
    have hnf : ¬ fracOk (behind t) → K (.ret (.tup [.int .i64 0, .int .i64 4])) [] := fun hn => hfail fun hk => hn (hk.2.1.2.2 hp)
    refine two (fun g5 => ?_) (fun g5 => ?_)
    case refine_2 =>
      have g5 : (behind t).length = 0 := by have := of_decide_eq_false g5; rw [sz_toBA] at this; omega
      (conv => whnf); (repeat (refine step_go [] ?_; conv => whnf))
      refine c_must _ _ _ (fun g7 => by cases g7) (fun g7 => ?_)
      (conv => whnf); (repeat first | (refine step_go [] ?_; conv => whnf) | (refine d_caught1 _ _ _ _ ?_; conv => whnf))
      exact ⟨_, _, Weak.refl, hnf fun hk => by have := hk.1; omega⟩
    have g5 : 1 ≤ (behind t).length := by have := of_decide_eq_true g5; rw [sz_toBA] at this; omega
    (conv => whnf); (repeat (refine step_go [] ?_; conv => whnf))
    refine two (fun g6 => ?_) (fun g6 => ?_)
    case refine_2 =>
      have g6 : 7 < (behind t).length := by have := of_decide_eq_false g6; rw [sz_toBA] at this; omega
      (conv => whnf); (repeat (refine step_go [] ?_; conv => whnf))
      refine c_must _ _ _ (fun g7 => by cases g7) (fun g7 => ?_)
      (conv => whnf); (repeat first | (refine step_go [] ?_; conv => whnf) | (refine d_caught1 _ _ _ _ ?_; conv => whnf))
      exact ⟨_, _, Weak.refl, hnf fun hk => by have := hk.2.1; omega⟩
    have g6 : (behind t).length ≤ 7 := by have := of_decide_eq_true g6; rw [sz_toBA] at this; omega
    obtain ⟨n, hn⟩ : ∃ n, (behind t).length = n + 1 := ⟨(behind t).length - 1, by omega⟩
    obtain ⟨x, hx1, hx2⟩ := last_get hn
    (conv => whnf); (repeat (refine step_go [] ?_; conv => whnf))
    rw [sz_toBA, show IntKind.i64.wrap (((behind t).length : Int) - 1) = (n : Int) by rw [wrap64 (by omega) (by omega)]; omega]
    refine idx_str (x := x) (by omega) (by rw [sB_toBA hbb, Int.toNat_natCast]; exact hx1) fun c hc => ?_
    rw [hc]; (conv => whnf); (repeat (refine step_go [] ?_; conv => whnf))
    refine c_must _ _ _ (fun g7 => ?_) (fun g7 => ?_)
    case refine_2 =>
      have g7 : x = 48 := by simpa using g7
      (conv => whnf); (repeat first | (refine step_go [] ?_; conv => whnf) | (refine d_caught1 _ _ _ _ ?_; conv => whnf))
      exact ⟨_, _, Weak.refl, hnf fun hk => hk.2.2.1 (by rw [hx2, g7])⟩
    have g7 : x ≠ 48 := by simpa using g7
    (conv => whnf); (repeat (refine step_go [] ?_; conv => whnf))
    (refine ⟨by decide +kernel, ?_⟩; conv => whnf)
    rw [sz_toBA, show IntKind.i64.wrap (7 - ((behind t).length : Int)) = ((7 - (behind t).length : Nat) : Int) by rw [wrap64 (by omega) (by omega)]; omega]
    refine c_repeat _ (by omega) _ ?_; conv => whnf
    (repeat (refine And.intro rfl ?_; conv => whnf))
    refine ⟨by rw [sz_toBA, sz_toBA]; refine str_le ?_; simp; omega, ?_⟩
    rw [toBA_app]; conv => whnf
    have hfb : ∀ x ∈ behind t ++ List.replicate (7 - (behind t).length) 48, 0 ≤ x ∧ x < 256 := fun x hx => by
      rcases List.mem_append.1 hx with hx | hx
      · exact hbb x hx
      · rw [(List.mem_replicate.1 hx).2]; omega
    have hfl : (behind t ++ List.replicate (7 - (behind t).length) 48).length = 7 := by simp; omega
    refine c_number _ hfb (by omega) 7 (by omega) _ (fun g8 => ?_) (fun g8 => ?_)
    case refine_2 =>
      (conv => whnf); (repeat first | (refine step_go [] ?_; conv => whnf) | (refine d_caught1 _ _ _ _ ?_; conv => whnf))
      exact ⟨_, _, Weak.refl, hnf fun hk => g8 ⟨by omega, by omega, fun y hy => by
        rcases List.mem_append.1 hy with hy | hy
        · exact hk.2.2.2 y hy
        · rw [(List.mem_replicate.1 hy).2]; unfold Dig; omega⟩⟩
    have hfo : fracOk (behind t) := ⟨g5, g6, fun h => by rw [hx2] at h; exact g7 (Option.some.inj h), fun y hy => g8.2.2 y (List.mem_append_left _ hy)⟩
    have hfn := vl_lt _ g8.2.2
    rw [hfl] at hfn
    have hfs : sat (vl (behind t ++ List.replicate (7 - (behind t).length) 48)) = fracN (behind t) := by unfold sat fracN; omega
    have hfn2 : fracN (behind t) < 10000000 := by unfold fracN; omega
    rw [hfs]; conv => whnf
    (repeat (refine And.intro rfl ?_; conv => whnf))
    have hN : rateN t = W + fracN (behind t) := by unfold rateN; rw [if_pos hp, hW]
    have hok : rateOk t := ⟨g3, g4, fun _ => hfo⟩
    obtain ⟨N, hNW⟩ : ∃ N, W + fracN (behind t) = N := ⟨_, rfl⟩
    rw [hNW] at hN
    rw [show IntKind.i64.wrap (w + ((fracN (behind t) : Nat) : Int)) = ((N : Nat) : Int) by rw [wrap64 (by omega) (by omega)]; omega]
    obtain ⟨w, hw⟩ : ∃ w, ((N : Nat) : Int) = w := ⟨_, rfl⟩
    rw [hw]
    (repeat (refine step_go [] ?_; conv => whnf))
    refine two (fun g6 => ?_) (fun g6 => ?_)
    case refine_2 =>
      have g6 : 10000000000 < N := by have := of_decide_eq_false g6; omega
      (conv => whnf); (repeat (refine step_go [] ?_; conv => whnf))
      refine c_must _ _ _ (fun g7 => by cases g7) (fun g7 => ?_)
      (conv => whnf); (repeat first | (refine step_go [] ?_; conv => whnf) | (refine d_caught1 _ _ _ _ ?_; conv => whnf))
      exact ⟨_, _, Weak.refl, hfail fun hk => by have := hk.2.2.1; omega⟩
    have g6 : N ≤ 10000000000 := by have := of_decide_eq_true g6; omega
    cases neg with
    | false =>
      (conv => whnf); (repeat (refine step_go [] ?_; conv => whnf))
      refine c_must _ _ _ (fun g7 => ?_) (fun g7 => by cases g7)
      (conv => whnf); (repeat first | (refine step_go [] ?_; conv => whnf) | (refine d_caught0 _ _ _ ?_; conv => whnf))
      have := hgood ⟨g, hok, by omega, fun h => by cases h⟩
      rw [hN, hw] at this
      exact ⟨_, _, Weak.refl, this⟩
    | true =>
      (conv => whnf); (repeat (refine step_go [] ?_; conv => whnf))
      refine c_must _ _ _ (fun g7 => ?_) (fun g7 => ?_)
      case refine_2 =>
        have g7 : N = 0 := by have := of_decide_eq_false g7; omega
        (conv => whnf); (repeat first | (refine step_go [] ?_; conv => whnf) | (refine d_caught1 _ _ _ _ ?_; conv => whnf))
        exact ⟨_, _, Weak.refl, hfail fun hk => by have := hk.2.2.2 rfl; omega⟩
      have g7 : 0 < N := by have := of_decide_eq_true g7; omega
      (conv => whnf); (repeat first | (refine step_go [] ?_; conv => whnf) | (refine d_caught0 _ _ _ ?_; conv => whnf))
      rw [show IntKind.i64.wrap (0 - w) = -w by rw [wrap64 (by omega) (by omega)]; omega]
      have := hgood ⟨g, hok, by omega, fun _ => by omega⟩
      rw [hN, hw] at this
      exact ⟨_, _, Weak.refl, this⟩
  · have hN : rateN t = W := by unfold rateN; rw [if_neg (by rw [hp]; decide), hW]; rfl
    have hok : rateOk t := ⟨g3, g4, fun h => by rw [hp] at h; cases h⟩
    obtain ⟨N, hNW⟩ : ∃ N, W = N := ⟨_, rfl⟩
    rw [hNW] at hN hw
    (conv => whnf); (repeat (refine step_go [] ?_; conv => whnf))
    refine two (fun g6 => ?_) (fun g6 => ?_)
    case refine_2 =>
      have g6 : 10000000000 < N := by have := of_decide_eq_false g6; omega
      (conv => whnf); (repeat (refine step_go [] ?_; conv => whnf))
      refine c_must _ _ _ (fun g7 => by cases g7) (fun g7 => ?_)
      (conv => whnf); (repeat first | (refine step_go [] ?_; conv => whnf) | (refine d_caught1 _ _ _ _ ?_; conv => whnf))
      exact ⟨_, _, Weak.refl, hfail fun hk => by have := hk.2.2.1; omega⟩
    have g6 : N ≤ 10000000000 := by have := of_decide_eq_true g6; omega
    cases neg with
    | false =>
      (conv => whnf); (repeat (refine step_go [] ?_; conv => whnf))
      refine c_must _ _ _ (fun g7 => ?_) (fun g7 => by cases g7)
      (conv => whnf); (repeat first | (refine step_go [] ?_; conv => whnf) | (refine d_caught0 _ _ _ ?_; conv => whnf))
      have := hgood ⟨g, hok, by omega, fun h => by cases h⟩
      rw [hN, hw] at this
      exact ⟨_, _, Weak.refl, this⟩
    | true =>
      (conv => whnf); (repeat (refine step_go [] ?_; conv => whnf))
      refine c_must _ _ _ (fun g7 => ?_) (fun g7 => ?_)
      case refine_2 =>
        have g7 : N = 0 := by have := of_decide_eq_false g7; omega
        (conv => whnf); (repeat first | (refine step_go [] ?_; conv => whnf) | (refine d_caught1 _ _ _ _ ?_; conv => whnf))
        exact ⟨_, _, Weak.refl, hfail fun hk => by have := hk.2.2.2 rfl; omega⟩
      have g7 : 0 < N := by have := of_decide_eq_true g7; omega
      (conv => whnf); (repeat first | (refine step_go [] ?_; conv => whnf) | (refine d_caught0 _ _ _ ?_; conv => whnf))
      rw [show IntKind.i64.wrap (0 - w) = -w by rw [wrap64 (by omega) (by omega)]; omega]
      have := hgood ⟨g, hok, by omega, fun _ => by omega⟩
      rw [hN, hw] at this
      exact ⟨_, _, Weak.refl, this⟩
end B13

namespace D2
open Go Go.Proofs VL D1 B7 B8 B10 B11 B12 B13
set_option maxRecDepth 100000
set_option linter.unusedVariables false
set_option linter.unusedSimpArgs false

theorem dig46 {l : List Int} (h : ∀ x ∈ l, Dig x) : ∀ x ∈ l, x ≠ 46 := fun x hx e => by have := h x hx; unfold Dig at this; omega
theorem split46 {a b : List Int} (h : ∀ x ∈ a, x ≠ 46) : aheadT (a ++ 46 :: b) = a ∧ behind (a ++ 46 :: b) = b ∧ (a ++ 46 :: b).contains 46 = true := by
  unfold aheadT behind
  induction a with
  | nil => simp
  | cons x r ih =>
    have hx := h x (by simp)
    obtain ⟨h1, h2, h3⟩ := ih fun y hy => h y (by simp [hy])
    refine ⟨?_, ?_, ?_⟩
    · rw [List.cons_append, List.takeWhile_cons, if_pos (by simpa using hx), h1]
    · rw [List.cons_append, List.dropWhile_cons, if_pos (by simpa using hx), h2]
    · rw [List.cons_append, List.contains_cons, h3]; simp
theorem join46 {t : List Int} (h : t.contains 46 = true) : t = aheadT t ++ 46 :: behind t := by
  unfold aheadT behind
  induction t with
  | nil => simp at h
  | cons x r ih =>
    by_cases hx : x = 46
    · subst hx; simp
    · rw [List.contains_cons] at h
      have h : r.contains 46 = true := by
        rcases Bool.or_eq_true _ _ ▸ h with h | h
        · exact absurd (beq_iff_eq.1 h).symm hx
        · exact h
      rw [List.takeWhile_cons, if_pos (by simpa using hx), List.dropWhile_cons, if_pos (by simpa using hx), List.cons_append, ← ih h]
theorem ahead_not (t : List Int) : ∀ x ∈ aheadT t, x ≠ 46 := fun x hx => by
  unfold aheadT at hx
  have := List.all_takeWhile (p := fun y : Int => y != 46) (l := t)
  rw [List.all_eq_true] at this
  simpa using this x hx
theorem no46 {t : List Int} (h : t.contains 46 = false) : aheadT t = t ∧ behind t = [] := by
  unfold aheadT behind
  induction t with
  | nil => simp
  | cons x r ih =>
    rw [List.contains_cons, Bool.or_eq_false_iff] at h
    have hx : x ≠ 46 := fun e => by subst e; simp at h
    obtain ⟨h1, h2⟩ := ih h.2
    refine ⟨by rw [List.takeWhile_cons, if_pos (by simpa using hx), h1], by rw [List.dropWhile_cons, if_pos (by simpa using hx), h2]⟩
theorem no46' {t : List Int} (h : ∀ x ∈ t, x ≠ 46) : t.contains 46 = false := by
  induction t with
  | nil => rfl
  | cons x r ih =>
    rw [List.contains_cons, ih fun y hy => h y (by simp [hy])]
    have := h x (by simp)
    simpa using fun e => this e.symm

theorem wholeOk_dg {n : Nat} (h : n < 18446744073709551616) : wholeOk (dg n) := by
  refine ⟨⟨dg_len_pos n, B5.dg_len20 h, dg_dig n⟩, ?_⟩
  rcases Nat.eq_zero_or_pos n with rfl | h0
  · left; rw [dg_small (by omega)]; rfl
  · right
    obtain ⟨x, r, e, hx⟩ := dg_head h0
    rw [e]; simpa using hx
theorem hasP_cons (x : Int) (l : List Int) : hasP (x :: l) [45] = decide (x = 45) := by
  unfold hasP
  simp
  exact Bool.eq_iff_iff.2 (by simp)
theorem dg_cons (n : Nat) : ∃ x r, dg n = x :: r ∧ Dig x := by
  cases h : dg n with
  | nil => exact absurd h (dg_ne n)
  | cons x r => exact ⟨x, r, rfl, dg_dig n x (by rw [h]; simp)⟩
/-- the sign aheadT of digits -/
theorem sgn_app (v : Int) (n : Nat) (r : List Int) : unsg (sgn v ++ (dg n ++ r)) = dg n ++ r ∧ hasP (sgn v ++ (dg n ++ r)) [45] = decide (v < 0) := by
  unfold sgn
  by_cases h : v < 0
  · rw [if_pos h]
    refine ⟨?_, ?_⟩
    · unfold unsg; rw [List.singleton_append, hasP_cons]; simp
    · rw [List.singleton_append, hasP_cons]; simp [h]
  · rw [if_neg h, List.nil_append]
    obtain ⟨x, q, e, hd⟩ := dg_cons n
    have hx : ¬ x = 45 := fun h => by unfold Dig at hd; omega
    rw [e]
    refine ⟨?_, ?_⟩
    · unfold unsg; rw [List.cons_append, hasP_cons]; simp [hx]
    · rw [List.cons_append, hasP_cons]; simp [hx, h]

theorem natAbs_lt {v : Int} (h : I64 v) : v.natAbs ≤ 9223372036854775808 := by have := h.1; have := h.2; omega
theorem moneyS_eq (v : Int) : moneyS v = sgn v ++ (dg (v.natAbs / 100) ++ 46 :: dgw 2 (v.natAbs % 100)) := by unfold moneyS; simp
theorem take_money {v : Int} (h : I64 v) : takeM (moneyS v) = if -1000000000000000 ≤ v ∧ v ≤ 1000000000000000 then (v, 0) else (0, 3) := by
  have hn := natAbs_lt h
  rw [moneyS_eq]
  obtain ⟨e1, e2⟩ := sgn_app v (v.natAbs / 100) (46 :: dgw 2 (v.natAbs % 100))
  obtain ⟨s1, s2, s3⟩ := split46 (a := dg (v.natAbs / 100)) (b := dgw 2 (v.natAbs % 100)) (dig46 (dg_dig _))
  have hok : moneyOk (dg (v.natAbs / 100) ++ 46 :: dgw 2 (v.natAbs % 100)) := by
    refine ⟨s3, by rw [s2, dgw_len], by rw [s1]; exact wholeOk_dg (by omega), by rw [s2]; exact ⟨by rw [dgw_len]; omega, by rw [dgw_len]; omega, dgw_dig _ _⟩⟩
  have hN : moneyN (dg (v.natAbs / 100) ++ 46 :: dgw 2 (v.natAbs % 100)) = v.natAbs := by
    unfold moneyN; rw [s1, s2, vl_dg, vl_dgw]; omega
  unfold takeM
  rw [e1, e2, hN, if_neg (by simpa using hok)]
  by_cases hv : v < 0
  · rw [if_neg (by simp [hv]; omega)]
    simp only [hv, decide_true, if_true]
    by_cases hb : 1000000000000000 < v.natAbs
    · rw [if_pos hb, if_neg (by omega)]
    · rw [if_neg hb, if_pos (by omega)]
      congr 1; omega
  · rw [if_neg (by simp [hv])]
    simp only [hv, decide_false, Bool.false_eq_true, if_false]
    by_cases hb : 1000000000000000 < v.natAbs
    · rw [if_pos hb, if_neg (by omega)]
    · rw [if_neg hb, if_pos (by omega)]
      congr 1; omega

theorem dg_whole {l : List Int} (h : wholeOk l) : dg (vl l) = l := dg_vl h.1.2.2 (by intro e; have := h.1.1; rw [e] at this; simp at this) h.2
theorem unsg_split (l : List Int) : l = (if hasP l [45] = true then [45] else []) ++ unsg l := by
  unfold unsg
  by_cases h : hasP l [45] = true
  · rw [if_pos h, if_pos h]
    unfold hasP at h
    have := beq_iff_eq.1 h
    have e : l.take 1 = [45] := this
    exact ((List.take_append_drop 1 l).symm.trans (by rw [e]))
  · rw [if_neg h, if_neg h]; rfl
theorem money_take {l : List Int} {c : Int} (h : takeM l = (c, 0)) : moneyS c = l ∧ -1000000000000000 ≤ c ∧ c ≤ 1000000000000000 := by
  unfold takeM at h
  split at h
  · simp at h
  rename_i hok
  have hok : moneyOk (unsg l) := by simpa using hok
  split at h
  · simp at h
  rename_i hz
  split at h
  · simp at h
  rename_i hb
  simp only [Prod.mk.injEq, and_true] at h
  obtain ⟨o1, o2, o3, o4⟩ := hok
  have ht := join46 o1
  have hv2 := vl_lt _ o4.2.2
  rw [o2] at hv2
  have hN : moneyN (unsg l) = vl (aheadT (unsg l)) * 100 + vl (behind (unsg l)) := rfl
  have hc : c.natAbs = moneyN (unsg l) := by rw [← h]; split <;> omega
  have hd : dgw 2 (vl (behind (unsg l))) = behind (unsg l) := by have := dgw_vl _ o4.2.2; rwa [o2] at this
  refine ⟨?_, by split at h <;> omega, by split at h <;> omega⟩
  rw [moneyS_eq, hc, show moneyN (unsg l) / 100 = vl (aheadT (unsg l)) by omega, show moneyN (unsg l) % 100 = vl (behind (unsg l)) by omega, dg_whole o3, hd, ← ht]
  conv => rhs; rw [unsg_split l]
  congr 1
  unfold sgn
  split at h
  · rename_i hp
    rw [if_pos (by simp [hp] at hz; omega), if_pos hp]
  · rename_i hp
    rw [if_neg (by omega), if_neg hp]

-- rates
theorem unpc_snoc (l : List Int) (x : Int) : unpc (l ++ [x]) = l := by unfold unpc; simp
theorem hasS_snoc (l : List Int) (x : Int) : hasS (l ++ [x]) [37] = decide (x = 37) := by
  unfold hasS
  simp
  exact Bool.eq_iff_iff.2 (by simp)
theorem hasS_split {l : List Int} (h : hasS l [37] = true) : l = unpc l ++ [37] := by
  unfold hasS at h
  simp only [Bool.and_eq_true, decide_eq_true_eq, beq_iff_eq] at h
  unfold unpc
  conv => lhs; rw [← List.take_append_drop (l.length - 1) l]
  have := h.2
  simp only [List.length_singleton] at this
  rw [this]
theorem trimZ_keep {l : List Int} (h : l.getLast? ≠ some 48) (k : Nat) : trimZ (l ++ List.replicate k 48) = l := by
  induction k with
  | zero =>
    rcases List.eq_nil_or_concat l with rfl | ⟨m, x, rfl⟩
    · rfl
    · rw [List.replicate_zero, List.append_nil, List.concat_eq_append, trimZ_snoc, if_neg (by simpa using h)]
  | succ k ih => rw [List.replicate_succ', ← List.append_assoc, trimZ_snoc, if_pos rfl, ih]
theorem trimZ_spec (l : List Int) : ∃ k, l = trimZ l ++ List.replicate k 48 ∧ (trimZ l).getLast? ≠ some 48 := by
  induction h : l.length generalizing l with
  | zero => rw [List.length_eq_zero_iff.1 h]; exact ⟨0, rfl, by simp [trimZ]⟩
  | succ n ih =>
    rcases List.eq_nil_or_concat l with rfl | ⟨m, x, rfl⟩
    · simp at h
    rw [List.concat_eq_append] at h ⊢
    rw [trimZ_snoc]
    by_cases hx : x = 48
    · subst hx
      obtain ⟨k, h1, h2⟩ := ih m (by simpa using h)
      rw [if_pos rfl]
      refine ⟨k + 1, ?_, h2⟩
      conv => lhs; rw [h1]
      rw [List.append_assoc, List.replicate_succ']
    · rw [if_neg hx]
      exact ⟨0, by simp, by simpa using hx⟩
theorem vl_zeros (k : Nat) : vl (List.replicate k 48) = 0 := by
  induction k with
  | zero => rfl
  | succ k ih => rw [List.replicate_succ', vl_snoc, ih]; rfl
theorem vl_snoc_pos {l : List Int} {x : Int} (h : Dig x) (hx : x ≠ 48) (k : Nat) : 0 < vl ((l ++ [x]) ++ List.replicate k 48) := by
  unfold Dig at h
  induction k with
  | zero => rw [List.replicate_zero, List.append_nil, vl_snoc]; omega
  | succ k ih => rw [List.replicate_succ', ← List.append_assoc, vl_snoc]; omega

theorem frac_facts {r : Nat} (h0 : r ≠ 0) (h : r < 10000000) : fracOk (trimZ (dgw 7 r)) ∧ fracN (trimZ (dgw 7 r)) = r := by
  obtain ⟨k, h1, h2⟩ := trimZ_spec (dgw 7 r)
  have hl := congrArg List.length h1
  rw [dgw_len, List.length_append, List.length_replicate] at hl
  have hv : vl (dgw 7 r) = r := by rw [vl_dgw]; omega
  have hk : 7 - (trimZ (dgw 7 r)).length = k := by omega
  refine ⟨⟨?_, by omega, h2, fun x hx => dgw_dig 7 r x (by rw [h1]; exact List.mem_append_left _ hx)⟩, ?_⟩
  · rcases Nat.eq_zero_or_pos (trimZ (dgw 7 r)).length with e | e
    · rw [List.length_eq_zero_iff.1 e, List.nil_append] at h1
      rw [h1, vl_zeros] at hv
      exact absurd hv.symm h0
    · exact e
  · unfold fracN; rw [hk, ← h1, hv]
theorem frac_back {b : List Int} (h : fracOk b) : fracN b < 10000000 ∧ fracN b ≠ 0 ∧ trimZ (dgw 7 (fracN b)) = b := by
  obtain ⟨h1, h2, h3, h4⟩ := h
  have hd : ∀ x ∈ b ++ List.replicate (7 - b.length) 48, Dig x := fun x hx => by
    rcases List.mem_append.1 hx with hx | hx
    · exact h4 x hx
    · rw [(List.mem_replicate.1 hx).2]; unfold Dig; omega
  have hl : (b ++ List.replicate (7 - b.length) 48).length = 7 := by simp; omega
  have hlt := vl_lt _ hd
  have hw := dgw_vl _ hd
  rw [hl] at hlt hw
  refine ⟨hlt, ?_, ?_⟩
  · rcases List.eq_nil_or_concat b with rfl | ⟨m, x, rfl⟩
    · simp at h1
    · rw [List.concat_eq_append] at h3 h4 ⊢
      have := vl_snoc_pos (l := m) (h4 x (by simp)) (by simpa using h3) (7 - (m ++ [x]).length)
      unfold fracN; omega
  · unfold fracN; rw [hw]; exact trimZ_keep h3 _

theorem rateS_eq (v : Int) : rateS v = sgn v ++ (dg (v.natAbs / 10000000) ++ fracS (v.natAbs % 10000000)) ++ [37] := by unfold rateS; simp
theorem take_rate {v : Int} (h : I64 v) : takeR (rateS v) = if -10000000000 ≤ v ∧ v ≤ 10000000000 then (v, 0) else (0, 4) := by
  have hn := natAbs_lt h
  rw [rateS_eq]
  obtain ⟨e1, e2⟩ := sgn_app v (v.natAbs / 10000000) (fracS (v.natAbs % 10000000))
  have hw := wholeOk_dg (n := v.natAbs / 10000000) (by omega)
  have key : rateN (dg (v.natAbs / 10000000) ++ fracS (v.natAbs % 10000000)) = v.natAbs ∧ (v.natAbs / 10000000 ≤ 1000 → rateOk (dg (v.natAbs / 10000000) ++ fracS (v.natAbs % 10000000))) ∧ (rateOk (dg (v.natAbs / 10000000) ++ fracS (v.natAbs % 10000000)) → v.natAbs / 10000000 ≤ 1000) := by
    unfold fracS
    by_cases h0 : v.natAbs % 10000000 = 0
    · rw [if_pos h0, List.append_nil]
      have hc := no46' (dig46 (dg_dig (v.natAbs / 10000000)))
      obtain ⟨n1, n2⟩ := no46 hc
      unfold rateN rateOk
      rw [n1, vl_dg, hc]
      refine ⟨by simp; omega, fun hh => ⟨hw, hh, fun e => by cases e⟩, fun hh => hh.2.1⟩
    · rw [if_neg h0]
      obtain ⟨s1, s2, s3⟩ := split46 (a := dg (v.natAbs / 10000000)) (b := trimZ (dgw 7 (v.natAbs % 10000000))) (dig46 (dg_dig _))
      obtain ⟨f1, f2⟩ := frac_facts h0 (by omega)
      unfold rateN rateOk
      rw [s1, s2, s3, vl_dg, f2]
      refine ⟨by simp; omega, fun hh => ⟨hw, hh, fun _ => f1⟩, fun hh => hh.2.1⟩
  obtain ⟨k1, k2, k3⟩ := key
  unfold takeR
  rw [unpc_snoc, e1, e2, hasS_snoc, k1]
  by_cases hb : v.natAbs ≤ 10000000000
  · rw [if_pos ⟨by simp, k2 (by omega), hb, fun hs => by have := of_decide_eq_true hs; omega⟩, if_pos (c := -10000000000 ≤ v ∧ v ≤ 10000000000) (by omega)]
    by_cases hv : v < 0
    · rw [decide_eq_true hv, if_pos rfl]; congr 1; omega
    · rw [decide_eq_false hv, if_neg (by decide)]; congr 1; omega
  · rw [if_neg (fun hh => hb hh.2.2.1), if_neg (by omega)]
theorem rate_take {l : List Int} {c : Int} (h : takeR l = (c, 0)) : rateS c = l ∧ -10000000000 ≤ c ∧ c ≤ 10000000000 := by
  unfold takeR at h
  split at h
  case isFalse => simp at h
  rename_i hok
  obtain ⟨o1, ⟨o2, o3, o4⟩, o5, o6⟩ := hok
  simp only [Prod.mk.injEq, and_true] at h
  have hc : c.natAbs = rateN (unsg (unpc l)) := by rw [← h]; split <;> omega
  refine ⟨?_, by split at h <;> omega, by split at h <;> omega⟩
  have hq : rateN (unsg (unpc l)) / 10000000 = vl (aheadT (unsg (unpc l))) ∧ aheadT (unsg (unpc l)) ++ fracS (rateN (unsg (unpc l)) % 10000000) = unsg (unpc l) := by
    cases hp : (unsg (unpc l)).contains 46 with
    | true =>
      obtain ⟨f1, f2, f3⟩ := frac_back (o4 hp)
      have hr : rateN (unsg (unpc l)) = vl (aheadT (unsg (unpc l))) * 10000000 + fracN (behind (unsg (unpc l))) := by unfold rateN; rw [if_pos hp]
      refine ⟨by omega, ?_⟩
      rw [show rateN (unsg (unpc l)) % 10000000 = fracN (behind (unsg (unpc l))) by omega]
      unfold fracS
      rw [if_neg f2, f3]
      exact (join46 hp).symm
    | false =>
      have hr : rateN (unsg (unpc l)) = vl (aheadT (unsg (unpc l))) * 10000000 := by unfold rateN; rw [hp]; simp
      refine ⟨by omega, ?_⟩
      rw [show rateN (unsg (unpc l)) % 10000000 = 0 by omega]
      unfold fracS
      rw [if_pos rfl, List.append_nil]
      exact (no46 hp).1
  rw [rateS_eq, hc, hq.1, dg_whole o2, hq.2]
  conv => rhs; rw [hasS_split o1, unsg_split (unpc l)]
  congr 2
  unfold sgn
  split at h
  · rename_i hp
    have := o6 hp
    rw [if_pos (by omega), if_pos hp]
  · rename_i hp
    rw [if_neg (by omega), if_neg hp]
end D2

namespace B14
open Go Go.Proofs VL D1 B5 B7 B8 B10 B11 B12 B13 D2
set_option pp.maxSteps 300
set_option maxRecDepth 100000
set_option linter.unusedVariables false
set_option linter.unusedSimpArgs false

theorem str_eq (l m : List Int) (hl : ∀ x ∈ l, 0 ≤ x ∧ x < 256) (s : ByteArray) : ((toBA l).toList == s.toList) = (l == sB s) := by rw [str_beq, sB_toBA hl]
theorem dgn_small (n : Nat) (h : n < 10) : dg n = [48 + (n : Int)] := dg_small h
theorem money_m5 : moneyS (-5) = [45, 48, 46, 48, 53] := by
  unfold moneyS sgn
  rw [if_pos (by decide), show (-5 : Int).natAbs / 100 = 0 from rfl, show (-5 : Int).natAbs % 100 = 5 from rfl, dg_small (by omega)]; rfl
theorem rate_52 : rateS 52500000 = [53, 46, 50, 53, 37] := by
  unfold rateS sgn fracS
  rw [if_neg (by decide), if_neg (by decide), show (52500000 : Int).natAbs / 10000000 = 5 from rfl, show (52500000 : Int).natAbs % 10000000 = 2500000 from rfl, dg_small (by omega)]; rfl
theorem sgn_len (v : Int) : (sgn v).length ≤ 1 := by unfold sgn; split <;> simp
theorem moneyS_byte (v : Int) : ∀ x ∈ moneyS v, 0 ≤ x ∧ x < 256 := by
  intro x hx
  rw [moneyS_eq] at hx
  rcases List.mem_append.1 hx with hx | hx
  · exact sgn_byte v x hx
  rcases List.mem_append.1 hx with hx | hx
  · exact dg_byte _ x hx
  rcases List.mem_cons.1 hx with rfl | hx
  · omega
  · exact dgw_byte _ _ x hx
theorem moneyS_len {v : Int} (h : I64 v) : (moneyS v).length ≤ 30 := by
  have := natAbs_lt h
  have := dg_len20 (n := v.natAbs / 100) (by omega)
  have := sgn_len v
  rw [moneyS_eq]; simp [dgw_len]; omega
theorem trimZ_sub (l : List Int) : ∀ x ∈ trimZ l, x ∈ l := fun x hx => by
  obtain ⟨k, h1, _⟩ := trimZ_spec l
  rw [h1]; exact List.mem_append_left _ hx
theorem fracS_byte (r : Nat) : ∀ x ∈ fracS r, 0 ≤ x ∧ x < 256 := by
  unfold fracS
  split
  · simp
  · intro x hx
    rcases List.mem_cons.1 hx with rfl | hx
    · omega
    · exact dgw_byte _ _ x (trimZ_sub _ x hx)
theorem fracS_len (r : Nat) : (fracS r).length ≤ 8 := by
  unfold fracS
  split
  · simp
  · have := trimZ_len (dgw 7 r); rw [dgw_len] at this; simp; omega
theorem rateS_byte (v : Int) : ∀ x ∈ rateS v, 0 ≤ x ∧ x < 256 := by
  intro x hx
  unfold rateS at hx
  simp only [List.mem_append] at hx
  rcases hx with ((hx | hx) | hx) | hx
  · exact sgn_byte v x hx
  · exact dg_byte _ x hx
  · exact fracS_byte _ x hx
  · simp at hx; omega
theorem rateS_len {v : Int} (h : I64 v) : (rateS v).length ≤ 40 := by
  have := natAbs_lt h
  have := dg_len20 (n := v.natAbs / 10000000) (by omega)
  have := sgn_len v
  have := fracS_len (v.natAbs % 10000000)
  unfold rateS; simp; omega

theorem c_awake (K) (h : K (.ret (.bool true)) []) : VCall Tryd.prog 16 [] [] K := by
  refine call_fun [] 0 Tryd.func16 (by rfl) (by rfl) ?_; (conv => whnf); (repeat (refine step_go [] ?_; conv => whnf))
  refine c_takeR _ (by decide) _ ?_
  rw [show takeR (sB (ByteArray.mk #[53, 46, 50, 53, 37])) = (52500000, 0) by decide +kernel]
  (conv => whnf); (repeat (refine step_go [] ?_; conv => whnf))
  refine c_money _ ⟨by decide, by decide⟩ _ ?_; (conv => whnf); (repeat (refine step_go [] ?_; conv => whnf))
  rw [str_beq, sB_toBA (moneyS_byte _), money_m5]
  conv => whnf
  refine c_rate _ ⟨by decide, by decide⟩ _ ?_; (conv => whnf); (repeat (refine step_go [] ?_; conv => whnf))
  rw [str_beq, sB_toBA (rateS_byte _), rate_52]
  (conv => whnf); (repeat (refine step_go [] ?_; conv => whnf))
  trace_state
  exact h
end B14

namespace D3
open Go Go.Proofs VL D1 B10 D2 B14
set_option maxRecDepth 100000
set_option linter.unusedVariables false
set_option linter.unusedSimpArgs false

/-- one text stands ahead of another one -/
def lexL : List Int → List Int → Bool
  | _, [] => false
  | [], _ :: _ => true
  | a :: x, b :: y => decide (a < b) || (a == b && lexL x y)
theorem less_lex : ∀ (l m : List UInt8), Op.bytesLess l m = lexL (l.map fun b => (b.toNat : Int)) (m.map fun b => (b.toNat : Int))
  | [], [] => rfl
  | [], _ :: _ => rfl
  | _ :: _, [] => rfl
  | a :: x, b :: y => by
    simp only [Op.bytesLess, List.map_cons, lexL, less_lex x y]
    congr 1
    · rw [decide_eq_decide, UInt8.lt_iff_toNat_lt]; omega
    · congr 1
      rw [Bool.eq_iff_iff]
      simp only [beq_iff_eq]
      constructor
      · intro h; rw [h]
      · intro h; exact UInt8.toNat.inj (by omega)
theorem str_less (a b : ByteArray) : Op.bytesLess a.toList b.toList = lexL (sB a) (sB b) := by
  rw [ba_toList, ba_toList, less_lex]; rfl
theorem lexL_app : ∀ (p l m : List Int), lexL (p ++ l) (p ++ m) = lexL l m
  | [], _, _ => rfl
  | x :: r, l, m => by simp [lexL, lexL_app r]
theorem lexL_lt : ∀ (p q l m : List Int), p.length = q.length → lexL p q = true → lexL (p ++ l) (q ++ m) = true
  | [], [], _, _, _, h => by simp [lexL] at h
  | x :: r, y :: s, l, m, hl, h => by
    simp only [lexL, List.cons_append, Bool.or_eq_true, Bool.and_eq_true] at h ⊢
    rcases h with h | ⟨h1, h2⟩
    · exact .inl h
    · exact .inr ⟨h1, lexL_lt r s l m (by simpa using hl) h2⟩
theorem lexL_irr : ∀ l : List Int, lexL l l = false
  | [] => rfl
  | x :: r => by simp [lexL, lexL_irr r]
theorem dgw_lex : ∀ (w n m : Nat), n < 10 ^ w → m < 10 ^ w → lexL (dgw w n) (dgw w m) = decide (n < m)
  | 0, n, m, h1, h2 => by
    simp at h1 h2; subst h1; subst h2; rfl
  | w + 1, n, m, h1, h2 => by
    rw [Nat.pow_succ] at h1 h2
    have ih := dgw_lex w (n / 10) (m / 10) (by omega) (by omega)
    have ih2 := dgw_lex w (m / 10) (n / 10) (by omega) (by omega)
    rw [dgw, dgw]
    by_cases e : n / 10 = m / 10
    · rw [e, lexL_app]
      simp only [lexL, Bool.and_false, Bool.or_false, decide_eq_decide]
      omega
    · by_cases hlt : n / 10 < m / 10
      · rw [decide_eq_true hlt] at ih
        rw [lexL_lt _ _ _ _ (by rw [dgw_len, dgw_len]) ih, decide_eq_true (by omega)]
      · rw [decide_eq_true (by omega)] at ih2
        have h3 := lexL_lt (dgw w (m / 10)) (dgw w (n / 10)) [48 + ((m % 10 : Nat) : Int)] [48 + ((n % 10 : Nat) : Int)] (by rw [dgw_len, dgw_len]) ih2
        have asym : ∀ (p q : List Int), lexL p q = true → lexL q p = false := by
          intro p
          induction p with
          | nil => intro q h; cases q <;> simp [lexL] at h ⊢
          | cons x r ihp =>
            intro q h
            cases q with
            | nil => simp [lexL] at h
            | cons y s =>
              simp only [lexL, Bool.or_eq_true, Bool.and_eq_true, decide_eq_true_eq, beq_iff_eq] at h
              simp only [lexL, Bool.or_eq_false_iff, decide_eq_false_iff_not, Bool.and_eq_false_iff, beq_eq_false_iff_ne]
              rcases h with h | ⟨h1, h2⟩
              · exact ⟨by omega, .inl (by omega)⟩
              · exact ⟨by omega, .inr (ihp s h2)⟩
        rw [asym _ _ h3, decide_eq_false (by omega)]

theorem dg_len_mono {n m : Nat} (h : n ≤ m) : (dg n).length ≤ (dg m).length := by
  by_cases hn : n = 0
  · subst hn; rw [dg_small (by omega)]; exact dg_len_pos m
  · have h1 := dg_len_pos m
    obtain ⟨k, hk⟩ : ∃ k, (dg m).length = k + 1 := ⟨(dg m).length - 1, by omega⟩
    have h2 : m < 10 ^ (k + 1) := by rw [← hk]; exact B5.dg_pow m
    rw [hk]
    exact dg_len_le k n (by omega)
theorem dg_dgw_len {n k : Nat} (h : (dg n).length = k) : dg n = dgw k n := by rw [← h, B5.dgw_dg]
/-- of two amounts from 0 on: which is the greater one -/
theorem money_less {a b : Int} (ha : 0 ≤ a) (hb : 0 ≤ b) : (decide ((moneyS a).length < (moneyS b).length) || (decide ((moneyS a).length = (moneyS b).length) && lexL (moneyS a) (moneyS b))) = decide (a < b) := by
  obtain ⟨n, rfl⟩ := Int.eq_ofNat_of_zero_le ha
  obtain ⟨m, rfl⟩ := Int.eq_ofNat_of_zero_le hb
  have e : ∀ k : Nat, moneyS (k : Int) = dg (k / 100) ++ 46 :: dgw 2 (k % 100) := fun k => by
    rw [moneyS_eq]; unfold sgn; rw [if_neg (by omega)]; rfl
  have el : ∀ k : Nat, (dg (k / 100) ++ 46 :: dgw 2 (k % 100)).length = (dg (k / 100)).length + 3 := fun k => by simp [dgw_len]
  rw [e, e, el, el]
  have hnm : decide ((n : Int) < (m : Int)) = decide (n < m) := by rw [decide_eq_decide]; omega
  rw [hnm]
  rcases Nat.lt_trichotomy (n / 100) (m / 100) with h | h | h
  · have hl := dg_len_mono (Nat.le_of_lt h)
    rw [show decide (n < m) = true from decide_eq_true (by omega)]
    rcases Nat.lt_or_ge (dg (n / 100)).length (dg (m / 100)).length with h1 | h1
    · rw [decide_eq_true (by omega)]; rfl
    · have hk : (dg (n / 100)).length = (dg (m / 100)).length := by omega
      rw [decide_eq_true (p := (dg (n / 100)).length + 3 = (dg (m / 100)).length + 3) (by omega)]
      have hlex := dgw_lex (dg (m / 100)).length (n / 100) (m / 100) (by rw [← hk]; exact B5.dg_pow _) (B5.dg_pow _)
      rw [B5.dgw_dg, ← dg_dgw_len hk, decide_eq_true h] at hlex
      rw [lexL_lt _ _ _ _ hk hlex]; simp
  · rw [h, lexL_app]
    simp only [Nat.lt_irrefl, decide_false, Bool.false_or, decide_true, Bool.true_and]
    have hlex := dgw_lex 2 (n % 100) (m % 100) (by omega) (by omega)
    simp only [lexL]
    rw [hlex]
    simp only [Int.lt_irrefl, decide_false, Bool.false_or, beq_self_eq_true, Bool.true_and, decide_eq_decide]
    omega
  · have hl := dg_len_mono (Nat.le_of_lt h)
    rw [show decide (n < m) = false from decide_eq_false (by omega), decide_eq_false (by omega)]
    rcases Nat.lt_or_ge (dg (m / 100)).length (dg (n / 100)).length with h1 | h1
    · rw [decide_eq_false (by omega)]; rfl
    · have hk : (dg (n / 100)).length = (dg (m / 100)).length := by omega
      have hlex := dgw_lex (dg (m / 100)).length (m / 100) (n / 100) (B5.dg_pow _) (by rw [← hk]; exact B5.dg_pow _)
      rw [B5.dgw_dg, ← dg_dgw_len hk, decide_eq_true h] at hlex
      have h3 := lexL_lt _ _ (46 :: dgw 2 (m % 100)) (46 :: dgw 2 (n % 100)) hk.symm hlex
      have h4 : lexL (dg (n / 100) ++ 46 :: dgw 2 (n % 100)) (dg (m / 100) ++ 46 :: dgw 2 (m % 100)) = false := by
        have asym : ∀ (p q : List Int), lexL p q = true → lexL q p = false := by
          intro p
          induction p with
          | nil => intro q h; cases q <;> simp [lexL] at h ⊢
          | cons x r ihp =>
            intro q h
            cases q with
            | nil => simp [lexL] at h
            | cons y s =>
              simp only [lexL, Bool.or_eq_true, Bool.and_eq_true, decide_eq_true_eq, beq_iff_eq] at h
              simp only [lexL, Bool.or_eq_false_iff, decide_eq_false_iff_not, Bool.and_eq_false_iff, beq_eq_false_iff_ne]
              rcases h with h | ⟨h1, h2⟩
              · exact ⟨by omega, .inl (by omega)⟩
              · exact ⟨by omega, .inr (ihp s h2)⟩
        exact asym _ _ h3
      rw [h4]; simp
theorem money_inj {a b : Int} (ha : -1000000000000000 ≤ a ∧ a ≤ 1000000000000000) (hb : -1000000000000000 ≤ b ∧ b ≤ 1000000000000000) (h : moneyS a = moneyS b) : a = b := by
  have h1 := take_money (v := a) ⟨by omega, by omega⟩
  have h2 := take_money (v := b) ⟨by omega, by omega⟩
  rw [if_pos ha] at h1
  rw [if_pos hb, ← h, h1] at h2
  exact (Prod.mk.inj h2).1
end D3

namespace B15
open Go Go.Proofs VL D1 B5 B7 B8 B10 B11 B12 B13 D2 B14 D3
set_option pp.maxSteps 300
set_option maxRecDepth 100000
set_option linter.unusedVariables false
set_option linter.unusedSimpArgs false

theorem wrapu64_range (x : Int) : 0 ≤ IntKind.u64.wrap x ∧ IntKind.u64.wrap x < 18446744073709551616 := by
  have : IntKind.u64.wrap x = x % 18446744073709551616 := by unfold IntKind.wrap; simp [IntKind.bits, IntKind.signed]
  omega
/-- a number, brought between 0 and another one -/
theorem rem_range (x : Int) (d : Nat) (h : 0 < d) (h2 : d < 9223372036854775808) : ∃ A : Int, IntKind.i64.wrap (Int.tmod (IntKind.u64.wrap x) (d : Int)) = A ∧ 0 ≤ A ∧ A < d := by
  obtain ⟨h1, _⟩ := wrapu64_range x
  obtain ⟨n, hn⟩ := Int.eq_ofNat_of_zero_le h1
  have e : Int.tmod (n : Int) (d : Int) = ((n % d : Nat) : Int) := rfl
  have := Nat.mod_lt n h
  refine ⟨_, rfl, ?_⟩
  rw [hn, e, wrap64 (by omega) (by omega)]
  omega

theorem order (a b : Int) : VCall Tryd.prog 5 [.int .i64 a, .int .i64 b] [] fun out _ => out = .ret (.bool true) := by
  obtain ⟨A, eA, a1, a2⟩ := rem_range a 1000000000000000 (by omega) (by omega)
  obtain ⟨B, eB, b1, b2⟩ := rem_range b 1000000000000000 (by omega) (by omega)
  have hless := money_less a1 b1
  refine call_fun [] 0 Tryd.func5 (by rfl) (by rfl) ?_; (conv => whnf); (repeat (refine step_go [] ?_; conv => whnf))
  refine ⟨by decide, ?_⟩; conv => whnf
  refine ⟨by decide, ?_⟩; conv => whnf
  rw [show (1000000000000000 : Int) = ((1000000000000000 : Nat) : Int) from rfl, eA, eB]
  (repeat (refine step_go [] ?_; conv => whnf))
  refine c_money _ ⟨by omega, by omega⟩ _ ?_; (conv => whnf); (repeat (refine step_go [] ?_; conv => whnf))
  refine c_money _ ⟨by omega, by omega⟩ _ ?_; (conv => whnf); (repeat (refine step_go [] ?_; conv => whnf))
  have hs : ((toBA (moneyS A)).toList == (toBA (moneyS B)).toList) = (A == B) := by
    rw [str_beq, sB_toBA (moneyS_byte _), sB_toBA (moneyS_byte _), Bool.eq_iff_iff]
    simp only [beq_iff_eq]
    exact ⟨fun h => money_inj (by omega) (by omega) h, fun h => by rw [h]⟩
  have fin : ∀ (less : Bool), less = decide (A < B) → (less == decide (A < B)) = true := fun less h => by rw [h]; simp
  refine two (fun g => ?_) (fun g => ?_)
  · have g := of_decide_eq_true g
    rw [sz_toBA, sz_toBA] at g
    rw [decide_eq_true (p := (moneyS A).length < (moneyS B).length) (by omega), Bool.true_or] at hless
    (conv => whnf); (repeat (refine step_go [] ?_; conv => whnf))
    refine c_awake _ ?_; (conv => whnf); (repeat (refine step_go [] ?_; conv => whnf))
    refine yes (fin _ hless) ?_; (conv => whnf); (repeat (refine step_go [] ?_; conv => whnf))
    rw [hs]; simp
  · have g := of_decide_eq_false g
    rw [sz_toBA, sz_toBA] at g
    rw [decide_eq_false (p := (moneyS A).length < (moneyS B).length) (by omega), Bool.false_or] at hless
    (conv => whnf); (repeat (refine step_go [] ?_; conv => whnf))
    refine two (fun g2 => ?_) (fun g2 => ?_)
    · have g2 := beq_iff_eq.1 g2
      rw [sz_toBA, sz_toBA] at g2
      rw [decide_eq_true (p := (moneyS A).length = (moneyS B).length) (by omega), Bool.true_and] at hless
      (conv => whnf); (repeat (refine step_go [] ?_; conv => whnf))
      rw [str_less, sB_toBA (moneyS_byte _), sB_toBA (moneyS_byte _)]
      refine c_awake _ ?_; (conv => whnf); (repeat (refine step_go [] ?_; conv => whnf))
      refine yes (fin _ hless) ?_; (conv => whnf); (repeat (refine step_go [] ?_; conv => whnf))
      rw [hs]; simp
    · rw [decide_eq_false (p := (moneyS A).length = (moneyS B).length) (fun e => by rw [sz_toBA, sz_toBA, e] at g2; simp at g2), Bool.false_and] at hless
      (conv => whnf); (repeat (refine step_go [] ?_; conv => whnf))
      refine c_awake _ ?_; (conv => whnf); (repeat (refine step_go [] ?_; conv => whnf))
      refine yes (fin _ hless) ?_; (conv => whnf); (repeat (refine step_go [] ?_; conv => whnf))
      rw [hs]; simp
end B15

namespace B16
open Go Go.Proofs VL D1 B5 B7 B8 B10 B11 B12 B13 D2 B14 D3 B15
set_option pp.maxSteps 300
set_option maxRecDepth 100000
set_option linter.unusedVariables false
set_option linter.unusedSimpArgs false

theorem tmod_range (v : Int) (d : Nat) (h : 0 < d) : -(d : Int) < Int.tmod v d ∧ Int.tmod v d < d := by
  rcases Int.lt_or_le v 0 with h1 | h1
  · obtain ⟨n, hn⟩ : ∃ n : Nat, v = -(n : Int) := ⟨(-v).toNat, by omega⟩
    rw [hn, Int.neg_tmod, show Int.tmod (n : Int) (d : Int) = ((n % d : Nat) : Int) from rfl]
    have := Nat.mod_lt n h
    omega
  · obtain ⟨n, rfl⟩ := Int.eq_ofNat_of_zero_le h1
    rw [show Int.tmod (n : Int) (d : Int) = ((n % d : Nat) : Int) from rfl]
    have := Nat.mod_lt n h
    omega

set_option maxHeartbeats 4000000 in
theorem back (v : Int) (hv : I64 v) (s t : ByteArray) (hs0 : s.size < 1000000000000000) (ht0 : t.size < 1000000000000000) : VCall Tryd.prog 7 [.int .i64 v, .str s, .str t] [] fun out _ => out = .ret (.bool true) := by
  refine call_fun [] 0 Tryd.func7 (by rfl) (by rfl) ?_; (conv => whnf); (repeat (refine step_go [] ?_; conv => whnf))
  refine two (fun g => ?_) (fun g => ?_)
  · (conv => whnf); (repeat (refine step_go [] ?_; conv => whnf))
    refine c_awake _ ?_; (conv => whnf); (repeat (refine step_go [] ?_; conv => whnf))
  have g := of_decide_eq_false g
  (conv => whnf); (repeat (refine step_go [] ?_; conv => whnf))
  refine two (fun g2 => ?_) (fun g2 => ?_)
  · (conv => whnf); (repeat (refine step_go [] ?_; conv => whnf))
    refine c_awake _ ?_; (conv => whnf); (repeat (refine step_go [] ?_; conv => whnf))
  have g2 := of_decide_eq_false g2
  (conv => whnf); (repeat (refine step_go [] ?_; conv => whnf))
  refine c_money _ hv _ ?_; (conv => whnf); (repeat (refine step_go [] ?_; conv => whnf))
  refine c_takeM _ (by have := moneyS_len hv; rw [sz_toBA]; omega) _ ?_; (conv => whnf); (repeat (refine step_go [] ?_; conv => whnf))
  rw [sB_toBA (moneyS_byte _), take_money hv]
  refine ⟨by decide, ?_⟩; (conv => whnf); (repeat (refine step_go [] ?_; conv => whnf))
  obtain ⟨r, hr⟩ : ∃ r, Int.tmod v 10000000001 = r := ⟨_, rfl⟩
  have hr2 := tmod_range v 10000000001 (by omega)
  rw [show ((10000000001 : Nat) : Int) = 10000000001 from rfl, hr] at hr2
  have hrI : I64 r := ⟨by omega, by omega⟩
  rw [hr]
  refine c_rate _ hrI _ ?_; (conv => whnf); (repeat (refine step_go [] ?_; conv => whnf))
  refine c_takeR _ (by have := rateS_len hrI; rw [sz_toBA]; omega) _ ?_; (conv => whnf); (repeat (refine step_go [] ?_; conv => whnf))
  rw [sB_toBA (rateS_byte _), take_rate hrI, if_pos (c := -10000000000 ≤ r ∧ r ≤ 10000000000) (by omega)]
  refine c_takeM _ (by omega) _ ?_; (conv => whnf); (repeat (refine step_go [] ?_; conv => whnf))
  refine c_takeR _ (by omega) _ ?_; (conv => whnf); (repeat (refine step_go [] ?_; conv => whnf))
  obtain ⟨c, k, hc⟩ : ∃ c k, takeM (sB s) = (c, k) := ⟨_, _, rfl⟩
  obtain ⟨d, q, hd⟩ : ∃ c k, takeR (sB t) = (c, k) := ⟨_, _, rfl⟩
  rw [hc, hd]
  have hc2 : k = 0 → moneyS c = sB s ∧ I64 c := fun e => by
    subst e
    obtain ⟨h1, h2, h3⟩ := money_take hc
    exact ⟨h1, by unfold I64; omega⟩
  have hd2 : q = 0 → rateS d = sB t ∧ I64 d := fun e => by
    subst e
    obtain ⟨h1, h2, h3⟩ := rate_take hd
    exact ⟨h1, by unfold I64; omega⟩
  have hcS : k = 0 → ((toBA (moneyS c)).toList == s.toList) = true := fun e => by rw [str_beq, sB_toBA (moneyS_byte _), (hc2 e).1]; simp
  have hdS : q = 0 → ((toBA (rateS d)).toList == t.toList) = true := fun e => by rw [str_beq, sB_toBA (rateS_byte _), (hd2 e).1]; simp
  by_cases hf : -1000000000000000 ≤ v ∧ v ≤ 1000000000000000
  · rw [if_pos hf]
    refine yes (decide_eq_true (by omega)) ?_; (conv => whnf); (repeat (refine step_go [] ?_; conv => whnf))
    refine c_awake _ ?_; (conv => whnf); (repeat (refine step_go [] ?_; conv => whnf))
    refine yes (decide_eq_true (by omega)) ?_; (conv => whnf); (repeat (refine step_go [] ?_; conv => whnf))
    refine yes (beq_self_eq_true v) ?_; (conv => whnf); (repeat (refine step_go [] ?_; conv => whnf))
    refine yes (beq_self_eq_true r) ?_; (conv => whnf); (repeat (refine step_go [] ?_; conv => whnf))
    refine two (fun g5 => ?_) (fun g5 => ?_)
    · (conv => whnf); (repeat (refine step_go [] ?_; conv => whnf))
      refine two (fun g6 => ?_) (fun g6 => ?_)
      · (conv => whnf); (repeat (refine step_go [] ?_; conv => whnf))
      · (conv => whnf); (repeat (refine step_go [] ?_; conv => whnf))
        have hq : q = 0 := by simpa using g6
        refine c_rate _ (hd2 hq).2 _ ?_; (conv => whnf); (repeat (refine step_go [] ?_; conv => whnf))
        rw [hdS hq]
    · (conv => whnf); (repeat (refine step_go [] ?_; conv => whnf))
      have hk : k = 0 := by simpa using g5
      refine c_money _ (hc2 hk).2 _ ?_; (conv => whnf); (repeat (refine step_go [] ?_; conv => whnf))
      refine yes (hcS hk) ?_; (conv => whnf); (repeat (refine step_go [] ?_; conv => whnf))
      refine two (fun g6 => ?_) (fun g6 => ?_)
      · (conv => whnf); (repeat (refine step_go [] ?_; conv => whnf))
      · (conv => whnf); (repeat (refine step_go [] ?_; conv => whnf))
        have hq : q = 0 := by simpa using g6
        refine c_rate _ (hd2 hq).2 _ ?_; (conv => whnf); (repeat (refine step_go [] ?_; conv => whnf))
        rw [hdS hq]
  · rw [if_neg hf]
    refine two (fun g3 => ?_) (fun g3 => ?_)
    · have g3 := of_decide_eq_true g3
      (conv => whnf); (repeat (refine step_go [] ?_; conv => whnf))
      refine c_awake _ ?_; (conv => whnf); (repeat (refine step_go [] ?_; conv => whnf))
      refine no (decide_eq_false (by omega)) ?_; (conv => whnf); (repeat (refine step_go [] ?_; conv => whnf))
      refine yes (by rw [decide_eq_false (by omega)]; rfl) ?_; (conv => whnf); (repeat (refine step_go [] ?_; conv => whnf))
      refine yes (beq_self_eq_true r) ?_; (conv => whnf); (repeat (refine step_go [] ?_; conv => whnf))
      refine two (fun g5 => ?_) (fun g5 => ?_)
      · (conv => whnf); (repeat (refine step_go [] ?_; conv => whnf))
        refine two (fun g6 => ?_) (fun g6 => ?_)
        · (conv => whnf); (repeat (refine step_go [] ?_; conv => whnf))
        · (conv => whnf); (repeat (refine step_go [] ?_; conv => whnf))
          have hq : q = 0 := by simpa using g6
          refine c_rate _ (hd2 hq).2 _ ?_; (conv => whnf); (repeat (refine step_go [] ?_; conv => whnf))
          rw [hdS hq]
      · (conv => whnf); (repeat (refine step_go [] ?_; conv => whnf))
        have hk : k = 0 := by simpa using g5
        refine c_money _ (hc2 hk).2 _ ?_; (conv => whnf); (repeat (refine step_go [] ?_; conv => whnf))
        refine yes (hcS hk) ?_; (conv => whnf); (repeat (refine step_go [] ?_; conv => whnf))
        refine two (fun g6 => ?_) (fun g6 => ?_)
        · (conv => whnf); (repeat (refine step_go [] ?_; conv => whnf))
        · (conv => whnf); (repeat (refine step_go [] ?_; conv => whnf))
          have hq : q = 0 := by simpa using g6
          refine c_rate _ (hd2 hq).2 _ ?_; (conv => whnf); (repeat (refine step_go [] ?_; conv => whnf))
          rw [hdS hq]
    · (conv => whnf); (repeat (refine step_go [] ?_; conv => whnf))
      refine c_awake _ ?_; (conv => whnf); (repeat (refine step_go [] ?_; conv => whnf))
      refine yes (beq_self_eq_true r) ?_; (conv => whnf); (repeat (refine step_go [] ?_; conv => whnf))
      refine two (fun g5 => ?_) (fun g5 => ?_)
      · (conv => whnf); (repeat (refine step_go [] ?_; conv => whnf))
        refine two (fun g6 => ?_) (fun g6 => ?_)
        · (conv => whnf); (repeat (refine step_go [] ?_; conv => whnf))
        · (conv => whnf); (repeat (refine step_go [] ?_; conv => whnf))
          have hq : q = 0 := by simpa using g6
          refine c_rate _ (hd2 hq).2 _ ?_; (conv => whnf); (repeat (refine step_go [] ?_; conv => whnf))
          rw [hdS hq]
      · (conv => whnf); (repeat (refine step_go [] ?_; conv => whnf))
        have hk : k = 0 := by simpa using g5
        refine c_money _ (hc2 hk).2 _ ?_; (conv => whnf); (repeat (refine step_go [] ?_; conv => whnf))
        refine yes (hcS hk) ?_; (conv => whnf); (repeat (refine step_go [] ?_; conv => whnf))
        refine two (fun g6 => ?_) (fun g6 => ?_)
        · (conv => whnf); (repeat (refine step_go [] ?_; conv => whnf))
        · (conv => whnf); (repeat (refine step_go [] ?_; conv => whnf))
          have hq : q = 0 := by simpa using g6
          refine c_rate _ (hd2 hq).2 _ ?_; (conv => whnf); (repeat (refine step_go [] ?_; conv => whnf))
          rw [hdS hq]
end B16

namespace B17
open Go Go.Proofs VL D1 B5 B7 B8 B10 B11 B12 B13 D2 B14 D3 B15 B16
set_option pp.maxSteps 300
set_option maxRecDepth 100000
set_option linter.unusedVariables false
set_option linter.unusedSimpArgs false

set_option maxHeartbeats 4000000 in
theorem bounds (v : Int) (b : Bool) : VCall Tryd.prog 9 [.int .i64 v, .bool b] [] fun out _ => out = .ret (.bool true) := by
  obtain ⟨A, eA, a1, a2⟩ := rem_range v 1000 (by omega) (by omega)
  have hM : ∀ m : Int, -1000000000000000 ≤ m → m ≤ 1000000000000000 → takeM (moneyS m) = (m, 0) := fun m h1 h2 => by rw [take_money ⟨by omega, by omega⟩, if_pos ⟨h1, h2⟩]
  have hO : ∀ m : Int, I64 m → ¬ (-1000000000000000 ≤ m ∧ m ≤ 1000000000000000) → takeM (moneyS m) = (0, 3) := fun m h1 h2 => by rw [take_money h1, if_neg h2]
  have hR : ∀ m : Int, -10000000000 ≤ m → m ≤ 10000000000 → takeR (rateS m) = (m, 0) := fun m h1 h2 => by rw [take_rate ⟨by omega, by omega⟩, if_pos ⟨h1, h2⟩]
  have hF : ∀ m : Int, I64 m → ¬ (-10000000000 ≤ m ∧ m ≤ 10000000000) → takeR (rateS m) = (0, 4) := fun m h1 h2 => by rw [take_rate h1, if_neg h2]
  refine call_fun [] 0 Tryd.func9 (by rfl) (by rfl) ?_; (conv => whnf); (repeat (refine step_go [] ?_; conv => whnf))
  refine ⟨by decide, ?_⟩; conv => whnf
  rw [show (1000 : Int) = ((1000 : Nat) : Int) from rfl, eA]
  (repeat (refine step_go [] ?_; conv => whnf))
  have w1 : IntKind.i64.wrap (1000000000000000 - A) = 1000000000000000 - A := wrap64 (by omega) (by omega)
  have w2 : IntKind.i64.wrap (10000000000 - A) = 10000000000 - A := wrap64 (by omega) (by omega)
  have w3 : IntKind.i64.wrap (1000000000000001 + A) = 1000000000000001 + A := wrap64 (by omega) (by omega)
  have w4 : IntKind.i64.wrap (10000000001 + A) = 10000000001 + A := wrap64 (by omega) (by omega)
  rw [w1, w2, w3, w4]
  have key : ∀ (m over r far : Int), -1000000000000000 ≤ m → m ≤ 1000000000000000 → I64 over → ¬ (-1000000000000000 ≤ over ∧ over ≤ 1000000000000000) → -10000000000 ≤ r → r ≤ 10000000000 → I64 far → ¬ (-10000000000 ≤ far ∧ far ≤ 10000000000) → True := fun _ _ _ _ _ _ _ _ _ _ _ _ => trivial
  refine two (fun g => ?_) (fun g => ?_)
  · (conv => whnf); (repeat (refine step_go [] ?_; conv => whnf))
    have u1 : IntKind.i64.wrap (0 - (1000000000000000 - A)) = 0 - (1000000000000000 - A) := wrap64 (by omega) (by omega)
    have u2 : IntKind.i64.wrap (0 - (10000000000 - A)) = 0 - (10000000000 - A) := wrap64 (by omega) (by omega)
    have u3 : IntKind.i64.wrap (0 - (1000000000000001 + A)) = 0 - (1000000000000001 + A) := wrap64 (by omega) (by omega)
    have u4 : IntKind.i64.wrap (0 - (10000000001 + A)) = 0 - (10000000001 + A) := wrap64 (by omega) (by omega)
    rw [u1, u2, u3, u4]
    obtain ⟨m, hm⟩ : ∃ m, 0 - (1000000000000000 - A) = m := ⟨_, rfl⟩
    obtain ⟨r, hr⟩ : ∃ m, 0 - (10000000000 - A) = m := ⟨_, rfl⟩
    obtain ⟨o, ho⟩ : ∃ m, 0 - (1000000000000001 + A) = m := ⟨_, rfl⟩
    obtain ⟨f, hf⟩ : ∃ m, 0 - (10000000001 + A) = m := ⟨_, rfl⟩
    rw [hm, hr, ho, hf]
    have im : I64 m := ⟨by omega, by omega⟩
    have io : I64 o := ⟨by omega, by omega⟩
    have ir : I64 r := ⟨by omega, by omega⟩
    have jf : I64 f := ⟨by omega, by omega⟩
    have l1 := moneyS_len im
    have l2 := moneyS_len io
    have l3 := rateS_len ir
    have l4 := rateS_len jf
    (repeat (refine step_go [] ?_; conv => whnf))
    refine c_money _ im _ ?_; (conv => whnf); (repeat (refine step_go [] ?_; conv => whnf))
    refine c_takeM _ (by rw [sz_toBA]; omega) _ ?_; (conv => whnf); (repeat (refine step_go [] ?_; conv => whnf))
    rw [sB_toBA (moneyS_byte _), hM m (by omega) (by omega)]
    refine c_money _ io _ ?_; (conv => whnf); (repeat (refine step_go [] ?_; conv => whnf))
    refine c_takeM _ (by rw [sz_toBA]; omega) _ ?_; (conv => whnf); (repeat (refine step_go [] ?_; conv => whnf))
    rw [sB_toBA (moneyS_byte _), hO o io (by omega)]
    refine c_rate _ ir _ ?_; (conv => whnf); (repeat (refine step_go [] ?_; conv => whnf))
    refine c_takeR _ (by rw [sz_toBA]; omega) _ ?_; (conv => whnf); (repeat (refine step_go [] ?_; conv => whnf))
    rw [sB_toBA (rateS_byte _), hR r (by omega) (by omega)]
    refine c_rate _ jf _ ?_; (conv => whnf); (repeat (refine step_go [] ?_; conv => whnf))
    refine c_takeR _ (by rw [sz_toBA]; omega) _ ?_; (conv => whnf); (repeat (refine step_go [] ?_; conv => whnf))
    rw [sB_toBA (rateS_byte _), hF f jf (by omega)]
    refine c_awake _ ?_; (conv => whnf); (repeat (refine step_go [] ?_; conv => whnf))
    refine yes (beq_self_eq_true m) ?_; (conv => whnf); (repeat (refine step_go [] ?_; conv => whnf))
    refine yes (beq_self_eq_true r) ?_; (conv => whnf); (repeat (refine step_go [] ?_; conv => whnf))
    rfl
  · (conv => whnf); (repeat (refine step_go [] ?_; conv => whnf))
    obtain ⟨m, hm⟩ : ∃ m, 1000000000000000 - A = m := ⟨_, rfl⟩
    obtain ⟨r, hr⟩ : ∃ m, 10000000000 - A = m := ⟨_, rfl⟩
    obtain ⟨o, ho⟩ : ∃ m, 1000000000000001 + A = m := ⟨_, rfl⟩
    obtain ⟨f, hf⟩ : ∃ m, 10000000001 + A = m := ⟨_, rfl⟩
    rw [hm, hr, ho, hf]
    have im : I64 m := ⟨by omega, by omega⟩
    have io : I64 o := ⟨by omega, by omega⟩
    have ir : I64 r := ⟨by omega, by omega⟩
    have jf : I64 f := ⟨by omega, by omega⟩
    have l1 := moneyS_len im
    have l2 := moneyS_len io
    have l3 := rateS_len ir
    have l4 := rateS_len jf
    (repeat (refine step_go [] ?_; conv => whnf))
    refine c_money _ im _ ?_; (conv => whnf); (repeat (refine step_go [] ?_; conv => whnf))
    refine c_takeM _ (by rw [sz_toBA]; omega) _ ?_; (conv => whnf); (repeat (refine step_go [] ?_; conv => whnf))
    rw [sB_toBA (moneyS_byte _), hM m (by omega) (by omega)]
    refine c_money _ io _ ?_; (conv => whnf); (repeat (refine step_go [] ?_; conv => whnf))
    refine c_takeM _ (by rw [sz_toBA]; omega) _ ?_; (conv => whnf); (repeat (refine step_go [] ?_; conv => whnf))
    rw [sB_toBA (moneyS_byte _), hO o io (by omega)]
    refine c_rate _ ir _ ?_; (conv => whnf); (repeat (refine step_go [] ?_; conv => whnf))
    refine c_takeR _ (by rw [sz_toBA]; omega) _ ?_; (conv => whnf); (repeat (refine step_go [] ?_; conv => whnf))
    rw [sB_toBA (rateS_byte _), hR r (by omega) (by omega)]
    refine c_rate _ jf _ ?_; (conv => whnf); (repeat (refine step_go [] ?_; conv => whnf))
    refine c_takeR _ (by rw [sz_toBA]; omega) _ ?_; (conv => whnf); (repeat (refine step_go [] ?_; conv => whnf))
    rw [sB_toBA (rateS_byte _), hF f jf (by omega)]
    refine c_awake _ ?_; (conv => whnf); (repeat (refine step_go [] ?_; conv => whnf))
    refine yes (beq_self_eq_true m) ?_; (conv => whnf); (repeat (refine step_go [] ?_; conv => whnf))
    refine yes (beq_self_eq_true r) ?_; (conv => whnf); (repeat (refine step_go [] ?_; conv => whnf))
    rfl
end B17

namespace B18
open Go Go.Proofs VL D1 B5 B7 B8 B10 B11 B12 B13 D2 B14 D3 B15 B16
set_option pp.maxSteps 300
set_option maxRecDepth 100000
set_option linter.unusedVariables false
set_option linter.unusedSimpArgs false

/-- texts that are nearly right -/
def badM (m : List Int) : List (List Int) := [43 :: m, 32 :: m, m ++ [32], 48 :: m, m ++ [48], 45 :: 45 :: m, [], [46, 48, 53], [53], [53, 46], [53, 46, 53], [45, 48, 46, 48, 48], [53, 44, 48, 48]]
def badR (r : List Int) : List (List Int) := [43 :: r, 32 :: r, r ++ [32], 48 :: r, r ++ [37], 45 :: 45 :: r, [], [37], [53], [53, 46, 37], [53, 46, 53, 48, 37], [45, 48, 37], [53, 46, 49, 50, 51, 52, 53, 54, 55, 56, 37]]

theorem unsg_no {x : Int} {l : List Int} (h : x ≠ 45) : unsg (x :: l) = x :: l := by
  unfold unsg; rw [hasP_cons, decide_eq_false h]; rfl
theorem unsg_hy (l : List Int) : unsg (45 :: l) = l := by
  unfold unsg; rw [hasP_cons]; rfl
theorem badW_of {x : Int} {l : List Int} (h : ¬ Dig x) (h2 : x ≠ 46) : ¬ wholeOk (aheadT (x :: l)) := fun hw => by
  unfold aheadT at hw
  rw [List.takeWhile_cons, if_pos (by simpa using h2)] at hw
  exact h (hw.1.2.2 x (by simp))
/-- a number from 0 on -/
theorem money_pos {v : Int} (h : 0 ≤ v) : moneyS v = dg (v.natAbs / 100) ++ 46 :: dgw 2 (v.natAbs % 100) := by rw [moneyS_eq]; unfold sgn; rw [if_neg (by omega)]; rfl
theorem rate_pos {v : Int} (h : 0 ≤ v) : rateS v = (dg (v.natAbs / 10000000) ++ fracS (v.natAbs % 10000000)) ++ [37] := by rw [rateS_eq]; unfold sgn; rw [if_neg (by omega)]; rfl
theorem bad_take {l : List Int} (h : ¬ moneyOk (unsg l)) : takeM l = (0, 4) := by unfold takeM; rw [if_pos h]
theorem bad_rate {l : List Int} (h : ¬ (hasS l [37] = true ∧ rateOk (unsg (unpc l)))) : takeR l = (0, 4) := by
  unfold takeR; rw [if_neg fun hh => h ⟨hh.1, hh.2.1⟩]
theorem nought_dg {n : Nat} {l : List Int} (h46 : ∀ x ∈ dg n, x ≠ 46) (hl : l = [] ∨ ∃ r, l = 46 :: r) : ¬ wholeOk (aheadT (48 :: (dg n ++ l))) := fun hw => by
  have e : aheadT (48 :: (dg n ++ l)) = 48 :: dg n := by
    rcases hl with rfl | ⟨r, rfl⟩
    · rw [List.append_nil]
      exact (no46 (no46' fun x hx => by
        rcases List.mem_cons.1 hx with rfl | hx
        · omega
        · exact h46 x hx)).1
    · have := (split46 (a := 48 :: dg n) (b := r) fun x hx => by
        rcases List.mem_cons.1 hx with rfl | hx
        · omega
        · exact h46 x hx).1
      simpa using this
  rw [e] at hw
  rcases hw.2 with h | h
  · have := dg_len_pos n; simp only [List.length_cons] at h; omega
  · simp at h

theorem takeM_bad {v : Int} (h : 0 ≤ v) (hI : I64 v) : ∀ k, k < 13 → ∃ x, (badM (moneyS v))[k]? = some x ∧ takeM x = (0, 4) := by
  have e := money_pos h
  have hd := dig46 (dg_dig (v.natAbs / 100))
  obtain ⟨y, r, hy, hyd⟩ := dg_cons (v.natAbs / 100)
  have hy45 : y ≠ 45 := fun h => by unfold Dig at hyd; omega
  have hs := fun (b : List Int) => split46 (a := dg (v.natAbs / 100)) (b := b) hd
  intro k hk
  have : k = 0 ∨ k = 1 ∨ k = 2 ∨ k = 3 ∨ k = 4 ∨ k = 5 ∨ k = 6 ∨ k = 7 ∨ k = 8 ∨ k = 9 ∨ k = 10 ∨ k = 11 ∨ k = 12 := by omega
  have hu : ∀ b, unsg (dg (v.natAbs / 100) ++ b) = dg (v.natAbs / 100) ++ b := fun b => by rw [hy, List.cons_append, unsg_no hy45]
  rcases this with rfl | rfl | rfl | rfl | rfl | rfl | rfl | rfl | rfl | rfl | rfl | rfl | rfl
  · refine ⟨_, rfl, bad_take ?_⟩
    rw [unsg_no (by decide)]
    exact fun hk => badW_of (by unfold Dig; omega) (by omega) hk.2.2.1
  · refine ⟨_, rfl, bad_take ?_⟩
    rw [unsg_no (by decide)]
    exact fun hk => badW_of (by unfold Dig; omega) (by omega) hk.2.2.1
  · refine ⟨_, rfl, bad_take ?_⟩
    rw [e, List.append_assoc, hu, List.cons_append]
    exact fun hk => by have := hk.2.1; rw [(hs _).2.1] at this; simp [dgw_len] at this
  · refine ⟨_, rfl, bad_take ?_⟩
    rw [unsg_no (by decide), e]
    exact fun hk => nought_dg hd (.inr ⟨_, rfl⟩) hk.2.2.1
  · refine ⟨_, rfl, bad_take ?_⟩
    rw [e, List.append_assoc, hu, List.cons_append]
    exact fun hk => by have := hk.2.1; rw [(hs _).2.1] at this; simp [dgw_len] at this
  · refine ⟨_, rfl, bad_take ?_⟩
    rw [unsg_hy]
    exact fun hk => badW_of (by unfold Dig; omega) (by omega) hk.2.2.1
  all_goals exact ⟨_, rfl, by decide +kernel⟩

theorem not37 {n : Nat} : ∀ x ∈ dg n, x ≠ 37 := fun x hx e => by have := dg_dig n x hx; unfold Dig at this; omega
theorem takeR_bad {v : Int} (h : 0 ≤ v) (hI : I64 v) : ∀ k, k < 13 → ∃ x, (badR (rateS v))[k]? = some x ∧ takeR x = (0, 4) := by
  have e := rate_pos h
  have hd := dig46 (dg_dig (v.natAbs / 10000000))
  obtain ⟨y, r, hy, hyd⟩ := dg_cons (v.natAbs / 10000000)
  have hy45 : y ≠ 45 := fun h => by unfold Dig at hyd; omega
  have hf : fracS (v.natAbs % 10000000) = [] ∨ ∃ r, fracS (v.natAbs % 10000000) = 46 :: r := by
    unfold fracS; split
    · exact .inl rfl
    · exact .inr ⟨_, rfl⟩
  intro k hk
  have : k = 0 ∨ k = 1 ∨ k = 2 ∨ k = 3 ∨ k = 4 ∨ k = 5 ∨ k = 6 ∨ k = 7 ∨ k = 8 ∨ k = 9 ∨ k = 10 ∨ k = 11 ∨ k = 12 := by omega
  have hu : ∀ b, unsg (dg (v.natAbs / 10000000) ++ b) = dg (v.natAbs / 10000000) ++ b := fun b => by rw [hy, List.cons_append, unsg_no hy45]
  have cons_snoc : ∀ (x : Int) (l : List Int), x :: (l ++ [37]) = (x :: l) ++ [37] := fun _ _ => rfl
  rcases this with rfl | rfl | rfl | rfl | rfl | rfl | rfl | rfl | rfl | rfl | rfl | rfl | rfl
  · refine ⟨_, rfl, bad_rate ?_⟩
    rw [e, cons_snoc, unpc_snoc, unsg_no (by decide)]
    exact fun hk => badW_of (by unfold Dig; omega) (by omega) hk.2.1
  · refine ⟨_, rfl, bad_rate ?_⟩
    rw [e, cons_snoc, unpc_snoc, unsg_no (by decide)]
    exact fun hk => badW_of (by unfold Dig; omega) (by omega) hk.2.1
  · refine ⟨_, rfl, bad_rate ?_⟩
    rw [hasS_snoc]
    exact fun hk => by simp at hk
  · refine ⟨_, rfl, bad_rate ?_⟩
    rw [e, cons_snoc, unpc_snoc, unsg_no (by decide)]
    exact fun hk => nought_dg hd hf hk.2.1
  · refine ⟨_, rfl, bad_rate ?_⟩
    rw [unpc_snoc, e]
    intro hk
    have hk := hk.2
    rw [List.append_assoc, hu] at hk
    rcases hf with hf | ⟨b, hf⟩
    · rw [hf, List.nil_append] at hk
      have hc : (dg (v.natAbs / 10000000) ++ [37]).contains 46 = false := no46' fun x hx => by
        rcases List.mem_append.1 hx with hx | hx
        · exact hd x hx
        · simp at hx; omega
      have := hk.1.1.2.2 37 (by rw [(no46 hc).1]; simp)
      unfold Dig at this; omega
    · rw [hf, List.cons_append] at hk
      obtain ⟨s1, s2, s3⟩ := split46 (a := dg (v.natAbs / 10000000)) (b := b ++ [37]) hd
      have := (hk.2.2 s3).2.2.2 37 (by rw [s2]; simp)
      unfold Dig at this; omega
  · refine ⟨_, rfl, bad_rate ?_⟩
    rw [e, cons_snoc, cons_snoc, unpc_snoc, unsg_hy]
    exact fun hk => badW_of (by unfold Dig; omega) (by omega) hk.2.1
  all_goals exact ⟨_, rfl, by decide +kernel⟩

def sL (l : List (List Int)) : List V := l.map fun x => .str (toBA x)
theorem sL_get {l : List (List Int)} {k : Nat} {x : List Int} (h : l[k]? = some x) : (sL l)[k]? = some (.str (toBA x)) := by unfold sL; simp [h]

theorem badM_byte {m : List Int} (h : ∀ x ∈ m, 0 ≤ x ∧ x < 256) (hl : m.length ≤ 50) : ∀ b ∈ badM m, (∀ x ∈ b, 0 ≤ x ∧ x < 256) ∧ b.length ≤ 60 := by
  intro b hb
  simp only [badM, List.mem_cons, List.not_mem_nil, or_false] at hb
  rcases hb with rfl | rfl | rfl | rfl | rfl | rfl | rfl | rfl | rfl | rfl | rfl | rfl | rfl
  case inr.inr.inr.inr.inr.inl => exact ⟨fun x hx => by simp at hx; rcases hx with rfl | hx <;> first | omega | exact h x hx, by simp; omega⟩
  all_goals first
    | exact ⟨fun x hx => by
        rcases List.mem_cons.1 hx with rfl | hx
        · omega
        · exact h x hx, by simp; omega⟩
    | exact ⟨fun x hx => by
        rcases List.mem_append.1 hx with hx | hx
        · exact h x hx
        · simp at hx; omega, by simp; omega⟩
    | exact ⟨by decide, by decide⟩
theorem badR_byte {m : List Int} (h : ∀ x ∈ m, 0 ≤ x ∧ x < 256) (hl : m.length ≤ 50) : ∀ b ∈ badR m, (∀ x ∈ b, 0 ≤ x ∧ x < 256) ∧ b.length ≤ 60 := by
  intro b hb
  simp only [badR, List.mem_cons, List.not_mem_nil, or_false] at hb
  rcases hb with rfl | rfl | rfl | rfl | rfl | rfl | rfl | rfl | rfl | rfl | rfl | rfl | rfl
  case inr.inr.inr.inr.inr.inl => exact ⟨fun x hx => by simp at hx; rcases hx with rfl | hx <;> first | omega | exact h x hx, by simp; omega⟩
  all_goals first
    | exact ⟨fun x hx => by
        rcases List.mem_cons.1 hx with rfl | hx
        · omega
        · exact h x hx, by simp; omega⟩
    | exact ⟨fun x hx => by
        rcases List.mem_append.1 hx with hx | hx
        · exact h x hx
        · simp at hx; omega, by simp; omega⟩
    | exact ⟨by decide, by decide⟩
end B18

namespace B19
open Go Go.Proofs VL D1 B5 B7 B8 B10 B11 B12 B13 D2 B14 D3 B15 B16 B18
set_option pp.maxSteps 300
set_option maxRecDepth 100000
set_option linter.unusedVariables false
set_option linter.unusedSimpArgs false

theorem cat_l {x : ByteArray} {l m : List Int} {P : ByteArray → Prop} (hx : x = toBA l) (h : l.length + m.length < 1000000) (k : P (toBA (l ++ m))) : (((x.size + (toBA m).size : Nat) : Int) ≤ IntKind.i64.max) ∧ P (x ++ toBA m) := by
  subst hx
  exact ⟨by rw [sz_toBA, sz_toBA]; exact str_le h, by rw [toBA_app]; exact k⟩
theorem cat_r {x : ByteArray} {l m : List Int} {P : ByteArray → Prop} (hx : x = toBA m) (h : l.length + m.length < 1000000) (k : P (toBA (l ++ m))) : ((((toBA l).size + x.size : Nat) : Int) ≤ IntKind.i64.max) ∧ P (toBA l ++ x) := by
  subst hx
  exact ⟨by rw [sz_toBA, sz_toBA]; exact str_le h, by rw [toBA_app]; exact k⟩

set_option maxHeartbeats 4000000 in
theorem forms (v : Int) (hv : I64 v) (n : Int) : VCall Tryd.prog 8 [.int .i64 v, .int .i64 n] [] fun out _ => out = .ret (.bool true) := by
  obtain ⟨j, ej, j1, j2⟩ := rem_range n 13 (by omega) (by omega)
  obtain ⟨k, rfl⟩ := Int.eq_ofNat_of_zero_le j1
  have key : ∀ w : Int, 0 ≤ w → w < 9223372036854775808 → ∃ a : Nat, Int.tmod w 100000 = (a : Int) ∧ a < 100000 := fun w h1 h2 => by
    obtain ⟨m, rfl⟩ := Int.eq_ofNat_of_zero_le h1
    exact ⟨m % 100000, rfl, Nat.mod_lt _ (by omega)⟩
  refine call_fun [] 0 Tryd.func8 (by rfl) (by rfl) ?_; (conv => whnf); (repeat (refine step_go [] ?_; conv => whnf))
  have h1 := hv.1
  have h2 := hv.2
  refine two (fun g => ?_) (fun g => ?_)
  · have g := of_decide_eq_true g
    (conv => whnf); (repeat (refine step_go [] ?_; conv => whnf))
    rw [show IntKind.i64.wrap (0 - IntKind.i64.wrap (v + 1)) = -(v + 1) by rw [wrap64 (x := v + 1) (by omega) (by omega), wrap64 (by omega) (by omega)]; omega]
    obtain ⟨a, ha, ha2⟩ := key (-(v + 1)) (by omega) (by omega)
    refine ⟨by decide, ?_⟩
    rw [ha]; (conv => whnf); (repeat (refine step_go [] ?_; conv => whnf))
    have iv : I64 (a : Int) := ⟨by omega, by omega⟩
    refine c_money _ iv _ ?_; (conv => whnf); (repeat (refine step_go [] ?_; conv => whnf))
    rw [show IntKind.i64.wrap ((a : Int) * 1000000) = ((a * 1000000 : Nat) : Int) by rw [wrap64 (by omega) (by omega)]; omega]
    obtain ⟨q, hq⟩ : ∃ q, a * 1000000 = q := ⟨_, rfl⟩
    rw [hq]
    have ir : I64 (q : Int) := ⟨by omega, by omega⟩
    refine c_rate _ ir _ ?_; (conv => whnf); (repeat (refine step_go [] ?_; conv => whnf))
    have l1 := moneyS_len iv
    have l2 := rateS_len ir
    obtain ⟨x, hx, tx⟩ := takeM_bad (v := (a : Int)) (by omega) iv k (by omega)
    obtain ⟨y, hy, ty⟩ := takeR_bad (v := (q : Int)) (by omega) ir k (by omega)
    obtain ⟨xb, xl⟩ := badM_byte (moneyS_byte _) (by omega) x (List.mem_of_getElem? hx)
    obtain ⟨yb, yl⟩ := badR_byte (rateS_byte _) (by omega) y (List.mem_of_getElem? hy)
    refine ⟨by first | (rw [sz_toBA, sz_toBA]; refine str_le ?_; simp; omega) | (rw [sz_toBA]; refine str_le ?_; show 1 + _ < _; omega), ?_⟩; (try rw [show (ByteArray.mk #[43]) = toBA [43] from rfl]); rw [toBA_app]; (conv => whnf); (repeat (refine step_go [] ?_; conv => whnf))
    refine ⟨by first | (rw [sz_toBA, sz_toBA]; refine str_le ?_; simp; omega) | (rw [sz_toBA]; refine str_le ?_; show 1 + _ < _; omega), ?_⟩; (try rw [show (ByteArray.mk #[32]) = toBA [32] from rfl]); rw [toBA_app]; (conv => whnf); (repeat (refine step_go [] ?_; conv => whnf))
    refine ⟨by first | (rw [sz_toBA, sz_toBA]; refine str_le ?_; simp; omega) | (rw [sz_toBA]; refine str_le ?_; show _ + 1 < _; omega), ?_⟩; (try rw [show (ByteArray.mk #[32]) = toBA [32] from rfl]); rw [toBA_app]; (conv => whnf); (repeat (refine step_go [] ?_; conv => whnf))
    refine ⟨by first | (rw [sz_toBA, sz_toBA]; refine str_le ?_; simp; omega) | (rw [sz_toBA]; refine str_le ?_; show 1 + _ < _; omega), ?_⟩; (try rw [show (ByteArray.mk #[48]) = toBA [48] from rfl]); rw [toBA_app]; (conv => whnf); (repeat (refine step_go [] ?_; conv => whnf))
    refine ⟨by first | (rw [sz_toBA, sz_toBA]; refine str_le ?_; simp; omega) | (rw [sz_toBA]; refine str_le ?_; show _ + 1 < _; omega), ?_⟩; (try rw [show (ByteArray.mk #[48]) = toBA [48] from rfl]); rw [toBA_app]; (conv => whnf); (repeat (refine step_go [] ?_; conv => whnf))
    refine ⟨by first | (rw [sz_toBA, sz_toBA]; refine str_le ?_; simp; omega) | (rw [sz_toBA]; refine str_le ?_; show 2 + _ < _; omega), ?_⟩; (try rw [show (ByteArray.mk #[45, 45]) = toBA [45, 45] from rfl]); rw [toBA_app]; (conv => whnf); (repeat (refine step_go [] ?_; conv => whnf))
    refine ⟨by decide, ?_⟩; conv => whnf
    (try rw [show (13 : Int) = ((13 : Nat) : Int) from rfl]); rw [ej]
    refine ⟨by omega, .str (toBA x), sL_get hx, rfl, ?_⟩; (conv => whnf); (repeat (refine step_go [] ?_; conv => whnf))
    refine ⟨by first | (rw [sz_toBA, sz_toBA]; refine str_le ?_; simp; omega) | (rw [sz_toBA]; refine str_le ?_; show 1 + _ < _; omega), ?_⟩; (try rw [show (ByteArray.mk #[43]) = toBA [43] from rfl]); rw [toBA_app]; (conv => whnf); (repeat (refine step_go [] ?_; conv => whnf))
    refine ⟨by first | (rw [sz_toBA, sz_toBA]; refine str_le ?_; simp; omega) | (rw [sz_toBA]; refine str_le ?_; show 1 + _ < _; omega), ?_⟩; (try rw [show (ByteArray.mk #[32]) = toBA [32] from rfl]); rw [toBA_app]; (conv => whnf); (repeat (refine step_go [] ?_; conv => whnf))
    refine ⟨by first | (rw [sz_toBA, sz_toBA]; refine str_le ?_; simp; omega) | (rw [sz_toBA]; refine str_le ?_; show _ + 1 < _; omega), ?_⟩; (try rw [show (ByteArray.mk #[32]) = toBA [32] from rfl]); rw [toBA_app]; (conv => whnf); (repeat (refine step_go [] ?_; conv => whnf))
    refine ⟨by first | (rw [sz_toBA, sz_toBA]; refine str_le ?_; simp; omega) | (rw [sz_toBA]; refine str_le ?_; show 1 + _ < _; omega), ?_⟩; (try rw [show (ByteArray.mk #[48]) = toBA [48] from rfl]); rw [toBA_app]; (conv => whnf); (repeat (refine step_go [] ?_; conv => whnf))
    refine ⟨by first | (rw [sz_toBA, sz_toBA]; refine str_le ?_; simp; omega) | (rw [sz_toBA]; refine str_le ?_; show _ + 1 < _; omega), ?_⟩; (try rw [show (ByteArray.mk #[37]) = toBA [37] from rfl]); rw [toBA_app]; (conv => whnf); (repeat (refine step_go [] ?_; conv => whnf))
    refine ⟨by first | (rw [sz_toBA, sz_toBA]; refine str_le ?_; simp; omega) | (rw [sz_toBA]; refine str_le ?_; show 2 + _ < _; omega), ?_⟩; (try rw [show (ByteArray.mk #[45, 45]) = toBA [45, 45] from rfl]); rw [toBA_app]; (conv => whnf); (repeat (refine step_go [] ?_; conv => whnf))
    refine ⟨by decide, ?_⟩; conv => whnf
    (try rw [show (13 : Int) = ((13 : Nat) : Int) from rfl]); rw [ej]
    refine ⟨by omega, .str (toBA y), sL_get hy, rfl, ?_⟩; (conv => whnf); (repeat (refine step_go [] ?_; conv => whnf))
    refine c_takeM _ (by rw [sz_toBA]; omega) _ ?_; (conv => whnf); (repeat (refine step_go [] ?_; conv => whnf))
    rw [sB_toBA xb, tx]
    refine c_takeR _ (by rw [sz_toBA]; omega) _ ?_; (conv => whnf); (repeat (refine step_go [] ?_; conv => whnf))
    rw [sB_toBA yb, ty]
    refine c_awake _ ?_; (conv => whnf); (repeat (refine step_go [] ?_; conv => whnf))
    rfl
  · have g := of_decide_eq_false g
    (conv => whnf); (repeat (refine step_go [] ?_; conv => whnf))
    obtain ⟨a, ha, ha2⟩ := key v (by omega) (by omega)
    refine ⟨by decide, ?_⟩
    rw [ha]; (conv => whnf); (repeat (refine step_go [] ?_; conv => whnf))
    have iv : I64 (a : Int) := ⟨by omega, by omega⟩
    refine c_money _ iv _ ?_; (conv => whnf); (repeat (refine step_go [] ?_; conv => whnf))
    rw [show IntKind.i64.wrap ((a : Int) * 1000000) = ((a * 1000000 : Nat) : Int) by rw [wrap64 (by omega) (by omega)]; omega]
    obtain ⟨q, hq⟩ : ∃ q, a * 1000000 = q := ⟨_, rfl⟩
    rw [hq]
    have ir : I64 (q : Int) := ⟨by omega, by omega⟩
    refine c_rate _ ir _ ?_; (conv => whnf); (repeat (refine step_go [] ?_; conv => whnf))
    have l1 := moneyS_len iv
    have l2 := rateS_len ir
    obtain ⟨x, hx, tx⟩ := takeM_bad (v := (a : Int)) (by omega) iv k (by omega)
    obtain ⟨y, hy, ty⟩ := takeR_bad (v := (q : Int)) (by omega) ir k (by omega)
    obtain ⟨xb, xl⟩ := badM_byte (moneyS_byte _) (by omega) x (List.mem_of_getElem? hx)
    obtain ⟨yb, yl⟩ := badR_byte (rateS_byte _) (by omega) y (List.mem_of_getElem? hy)
    refine ⟨by first | (rw [sz_toBA, sz_toBA]; refine str_le ?_; simp; omega) | (rw [sz_toBA]; refine str_le ?_; show 1 + _ < _; omega), ?_⟩; (try rw [show (ByteArray.mk #[43]) = toBA [43] from rfl]); rw [toBA_app]; (conv => whnf); (repeat (refine step_go [] ?_; conv => whnf))
    refine ⟨by first | (rw [sz_toBA, sz_toBA]; refine str_le ?_; simp; omega) | (rw [sz_toBA]; refine str_le ?_; show 1 + _ < _; omega), ?_⟩; (try rw [show (ByteArray.mk #[32]) = toBA [32] from rfl]); rw [toBA_app]; (conv => whnf); (repeat (refine step_go [] ?_; conv => whnf))
    refine ⟨by first | (rw [sz_toBA, sz_toBA]; refine str_le ?_; simp; omega) | (rw [sz_toBA]; refine str_le ?_; show _ + 1 < _; omega), ?_⟩; (try rw [show (ByteArray.mk #[32]) = toBA [32] from rfl]); rw [toBA_app]; (conv => whnf); (repeat (refine step_go [] ?_; conv => whnf))
    refine ⟨by first | (rw [sz_toBA, sz_toBA]; refine str_le ?_; simp; omega) | (rw [sz_toBA]; refine str_le ?_; show 1 + _ < _; omega), ?_⟩; (try rw [show (ByteArray.mk #[48]) = toBA [48] from rfl]); rw [toBA_app]; (conv => whnf); (repeat (refine step_go [] ?_; conv => whnf))
    refine ⟨by first | (rw [sz_toBA, sz_toBA]; refine str_le ?_; simp; omega) | (rw [sz_toBA]; refine str_le ?_; show _ + 1 < _; omega), ?_⟩; (try rw [show (ByteArray.mk #[48]) = toBA [48] from rfl]); rw [toBA_app]; (conv => whnf); (repeat (refine step_go [] ?_; conv => whnf))
    refine ⟨by first | (rw [sz_toBA, sz_toBA]; refine str_le ?_; simp; omega) | (rw [sz_toBA]; refine str_le ?_; show 2 + _ < _; omega), ?_⟩; (try rw [show (ByteArray.mk #[45, 45]) = toBA [45, 45] from rfl]); rw [toBA_app]; (conv => whnf); (repeat (refine step_go [] ?_; conv => whnf))
    refine ⟨by decide, ?_⟩; conv => whnf
    (try rw [show (13 : Int) = ((13 : Nat) : Int) from rfl]); rw [ej]
    refine ⟨by omega, .str (toBA x), sL_get hx, rfl, ?_⟩; (conv => whnf); (repeat (refine step_go [] ?_; conv => whnf))
    refine ⟨by first | (rw [sz_toBA, sz_toBA]; refine str_le ?_; simp; omega) | (rw [sz_toBA]; refine str_le ?_; show 1 + _ < _; omega), ?_⟩; (try rw [show (ByteArray.mk #[43]) = toBA [43] from rfl]); rw [toBA_app]; (conv => whnf); (repeat (refine step_go [] ?_; conv => whnf))
    refine ⟨by first | (rw [sz_toBA, sz_toBA]; refine str_le ?_; simp; omega) | (rw [sz_toBA]; refine str_le ?_; show 1 + _ < _; omega), ?_⟩; (try rw [show (ByteArray.mk #[32]) = toBA [32] from rfl]); rw [toBA_app]; (conv => whnf); (repeat (refine step_go [] ?_; conv => whnf))
    refine ⟨by first | (rw [sz_toBA, sz_toBA]; refine str_le ?_; simp; omega) | (rw [sz_toBA]; refine str_le ?_; show _ + 1 < _; omega), ?_⟩; (try rw [show (ByteArray.mk #[32]) = toBA [32] from rfl]); rw [toBA_app]; (conv => whnf); (repeat (refine step_go [] ?_; conv => whnf))
    refine ⟨by first | (rw [sz_toBA, sz_toBA]; refine str_le ?_; simp; omega) | (rw [sz_toBA]; refine str_le ?_; show 1 + _ < _; omega), ?_⟩; (try rw [show (ByteArray.mk #[48]) = toBA [48] from rfl]); rw [toBA_app]; (conv => whnf); (repeat (refine step_go [] ?_; conv => whnf))
    refine ⟨by first | (rw [sz_toBA, sz_toBA]; refine str_le ?_; simp; omega) | (rw [sz_toBA]; refine str_le ?_; show _ + 1 < _; omega), ?_⟩; (try rw [show (ByteArray.mk #[37]) = toBA [37] from rfl]); rw [toBA_app]; (conv => whnf); (repeat (refine step_go [] ?_; conv => whnf))
    refine ⟨by first | (rw [sz_toBA, sz_toBA]; refine str_le ?_; simp; omega) | (rw [sz_toBA]; refine str_le ?_; show 2 + _ < _; omega), ?_⟩; (try rw [show (ByteArray.mk #[45, 45]) = toBA [45, 45] from rfl]); rw [toBA_app]; (conv => whnf); (repeat (refine step_go [] ?_; conv => whnf))
    refine ⟨by decide, ?_⟩; conv => whnf
    (try rw [show (13 : Int) = ((13 : Nat) : Int) from rfl]); rw [ej]
    refine ⟨by omega, .str (toBA y), sL_get hy, rfl, ?_⟩; (conv => whnf); (repeat (refine step_go [] ?_; conv => whnf))
    refine c_takeM _ (by rw [sz_toBA]; omega) _ ?_; (conv => whnf); (repeat (refine step_go [] ?_; conv => whnf))
    rw [sB_toBA xb, tx]
    refine c_takeR _ (by rw [sz_toBA]; omega) _ ?_; (conv => whnf); (repeat (refine step_go [] ?_; conv => whnf))
    rw [sB_toBA yb, ty]
    refine c_awake _ ?_; (conv => whnf); (repeat (refine step_go [] ?_; conv => whnf))
    rfl
end B19
