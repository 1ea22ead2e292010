/- Part Wf of the proof: B1 D1 B2 B3 B4. -/
import Derived.Test.YtplcolaagnpccaaDoorWe
import Derived.Test.YtplcolaagnpccaaDoorRows
namespace B1
open Go Go.Proofs VL
set_option pp.maxSteps 1500
set_option maxRecDepth 100000
set_option linter.unusedVariables false

theorem c_bool2 (b : Bool) (K) (h : K (.ret (.int .i64 (if b then 1 else 0))) []) : VCall Tryd.prog 110 [.bool b] [] K := by
  refine call_fun [] 0 Tryd.func110 (by rfl) (by rfl) ?_
  conv => whnf
  repeat (refine step_go [] ?_; conv => whnf)
  cases b
  · conv => whnf
    repeat (refine step_go [] ?_; conv => whnf)
    exact h
  · conv => whnf
    repeat (refine step_go [] ?_; conv => whnf)
    exact h

theorem c_log10 (x : Int) (h0 : 0 ≤ x) (hx : x ≤ 64) (K) (h : K (.ret (.int .i64 (x * 78913 / 262144))) []) : VCall Tryd.prog 108 [.int .i64 x] [] K := by
  refine call_fun [] 0 Tryd.func108 (by rfl) (by rfl) ?_
  conv => whnf
  repeat (refine step_go [] ?_; conv => whnf)
  have e : shiftV .shr .i64 (IntKind.i64.wrap (x * 78913)) 18 = x * 78913 / 262144 := by
    rw [wrap64 (by omega) (by omega)]
    show (x * 78913).fdiv ((2 : Int) ^ 18) = _
    rw [Int.fdiv_eq_ediv_of_nonneg _ (by decide)]
    rfl
  refine ⟨by omega, ?_⟩
  rw [e]; conv => whnf
  repeat (refine step_go [] ?_; conv => whnf)
  exact h
end B1

namespace D1
open Go VL

/-- a number's digits, as bytes -/
def dg (n : Nat) : List Int := if n < 10 then [48 + (n : Int)] else dg (n / 10) ++ [48 + ((n % 10 : Nat) : Int)]
termination_by n

/-- the last w digits -/
def dgw : Nat → Nat → List Int
  | 0, _ => []
  | w + 1, n => dgw w (n / 10) ++ [48 + ((n % 10 : Nat) : Int)]

/-- digits as a number -/
def vl (l : List Int) : Nat := l.foldl (fun v c => 10 * v + (c - 48).toNat) 0
def Dig (x : Int) : Prop := 48 ≤ x ∧ x ≤ 57
instance (x : Int) : Decidable (Dig x) := inferInstanceAs (Decidable (_ ∧ _))

theorem dg_small {n : Nat} (h : n < 10) : dg n = [48 + (n : Int)] := by rw [dg, if_pos h]
theorem dg_big {n : Nat} (h : 10 ≤ n) : dg n = dg (n / 10) ++ [48 + ((n % 10 : Nat) : Int)] := by rw [dg, if_neg (by omega)]
theorem dgw_len : ∀ (w n : Nat), (dgw w n).length = w
  | 0, _ => rfl
  | w + 1, n => by simp [dgw, dgw_len w]
theorem dgw_dig : ∀ (w n : Nat), ∀ x ∈ dgw w n, Dig x
  | 0, _ => by simp [dgw]
  | w + 1, n => by
    intro x hx
    simp only [dgw, List.mem_append, List.mem_singleton] at hx
    rcases hx with hx | rfl
    · exact dgw_dig w _ x hx
    · unfold Dig; omega
theorem dg_dgw : ∀ (w n : Nat), 10 ^ w ≤ n → n < 10 ^ (w + 1) → dg n = dgw (w + 1) n
  | 0, n, h1, h2 => by rw [dg_small (by simpa using h2)]; simp at h2; simp [dgw]; omega
  | w + 1, n, h1, h2 => by
    have e : (10 : Nat) ^ (w + 1) = 10 ^ w * 10 := Nat.pow_succ ..
    have e2 : (10 : Nat) ^ (w + 1 + 1) = 10 ^ (w + 1) * 10 := Nat.pow_succ ..
    have hp : 1 ≤ (10 : Nat) ^ w := Nat.one_le_pow _ _ (by omega)
    rw [dg_big (by omega), dg_dgw w (n / 10) (by omega) (by omega)]
    rfl
theorem dg_dgw1 {n : Nat} (h : n < 10) : dg n = dgw 1 n := by rw [dg_small h]; simp [dgw]; omega
theorem dg_dig (n : Nat) : ∀ x ∈ dg n, Dig x := by
  induction n using Nat.strongRecOn with
  | _ n ih =>
    by_cases h : n < 10
    · rw [dg_small h]; simp [Dig]; omega
    · rw [dg_big (by omega)]
      intro x hx
      simp only [List.mem_append, List.mem_singleton] at hx
      rcases hx with hx | rfl
      · exact ih _ (by omega) x hx
      · unfold Dig; omega
theorem dg_ne (n : Nat) : dg n ≠ [] := by
  by_cases h : n < 10
  · rw [dg_small h]; simp
  · rw [dg_big (by omega)]; simp
theorem dg_len_pos (n : Nat) : 0 < (dg n).length := List.length_pos_iff.2 (dg_ne n)
theorem dg_len_le : ∀ (w n : Nat), n < 10 ^ (w + 1) → (dg n).length ≤ w + 1
  | 0, n, h => by rw [dg_small (by simpa using h)]; simp
  | w + 1, n, h => by
    by_cases h1 : n < 10
    · rw [dg_small h1]; simp
    · have e2 : (10 : Nat) ^ (w + 1 + 1) = 10 ^ (w + 1) * 10 := Nat.pow_succ ..
      rw [dg_big (by omega)]
      have := dg_len_le w (n / 10) (by omega)
      simp; omega
theorem dg_len_ge : ∀ (w n : Nat), 10 ^ w ≤ n → w + 1 ≤ (dg n).length
  | 0, n, h => dg_len_pos n
  | w + 1, n, h => by
    have e : (10 : Nat) ^ (w + 1) = 10 ^ w * 10 := Nat.pow_succ ..
    have hp : 1 ≤ (10 : Nat) ^ w := Nat.one_le_pow _ _ (by omega)
    rw [dg_big (by omega)]
    have := dg_len_ge w (n / 10) (by omega)
    simp; omega
theorem vl_snoc (l : List Int) (x : Int) : vl (l ++ [x]) = 10 * vl l + (x - 48).toNat := by unfold vl; rw [List.foldl_append]; rfl
theorem vl_nil : vl [] = 0 := rfl
theorem vl_dgw : ∀ (w n : Nat), vl (dgw w n) = n % 10 ^ w
  | 0, n => by simp [dgw, vl_nil]; omega
  | w + 1, n => by
    rw [dgw, vl_snoc, vl_dgw w, Nat.pow_succ, Nat.mul_comm (10 ^ w) 10, Nat.mod_mul]
    omega
theorem vl_dg (n : Nat) : vl (dg n) = n := by
  induction n using Nat.strongRecOn with
  | _ n ih =>
    by_cases h : n < 10
    · rw [dg_small h, ← List.nil_append [_], vl_snoc, vl_nil]; omega
    · rw [dg_big (by omega), vl_snoc, ih _ (by omega)]; omega
theorem dg_head {n : Nat} (h : 0 < n) : ∃ x r, dg n = x :: r ∧ x ≠ 48 := by
  induction n using Nat.strongRecOn with
  | _ n ih =>
    by_cases h1 : n < 10
    · rw [dg_small h1]; exact ⟨_, _, rfl, by omega⟩
    · rw [dg_big (by omega)]
      obtain ⟨x, r, e, hx⟩ := ih (n / 10) (by omega) (by omega)
      rw [e]; exact ⟨x, _, rfl, hx⟩
theorem vl_lt : ∀ (l : List Int), (∀ x ∈ l, Dig x) → vl l < 10 ^ l.length := by
  intro l
  induction h : l.length generalizing l with
  | zero => intro _; rw [List.length_eq_zero_iff.1 h]; simp [vl_nil]
  | succ k ih =>
    intro hd
    obtain ⟨m, x, rfl⟩ : ∃ m x, l = m ++ [x] := ⟨l.dropLast, l.getLast (by intro e; simp [e] at h), (List.dropLast_concat_getLast _).symm⟩
    simp at h
    have := ih m h fun y hy => hd y (by simp [hy])
    have hx := hd x (by simp)
    unfold Dig at hx
    rw [vl_snoc, Nat.pow_succ]
    omega
theorem dgw_vl : ∀ (l : List Int), (∀ x ∈ l, Dig x) → dgw l.length (vl l) = l := by
  intro l
  induction h : l.length generalizing l with
  | zero => intro _; rw [List.length_eq_zero_iff.1 h]; rfl
  | succ k ih =>
    intro hd
    obtain ⟨m, x, rfl⟩ : ∃ m x, l = m ++ [x] := ⟨l.dropLast, l.getLast (by intro e; simp [e] at h), (List.dropLast_concat_getLast _).symm⟩
    simp at h
    have hx := hd x (by simp)
    unfold Dig at hx
    rw [vl_snoc, dgw]
    rw [show (10 * vl m + (x - 48).toNat) / 10 = vl m by omega, ih m h fun y hy => hd y (by simp [hy])]
    congr 2
    omega
theorem vl_pos : ∀ (l : List Int) (x : Int) , x ≠ 48 → Dig x → (∀ y ∈ l, Dig y) → 10 ^ l.length ≤ vl (x :: l) := by
  intro l x hx hd hl
  induction h : l.length generalizing l with
  | zero =>
    rw [List.length_eq_zero_iff.1 h]
    unfold Dig at hd
    rw [← List.nil_append [x], vl_snoc, vl_nil]; simp; omega
  | succ k ih =>
    obtain ⟨m, y, rfl⟩ : ∃ m x, l = m ++ [x] := ⟨l.dropLast, l.getLast (by intro e; simp [e] at h), (List.dropLast_concat_getLast _).symm⟩
    simp at h
    have := ih m (fun y hy => hl y (by simp [hy])) h
    rw [← List.cons_append, vl_snoc, Nat.pow_succ]
    omega
/-- digits without noughts ahead are their number's -/
theorem dg_vl {l : List Int} (hd : ∀ x ∈ l, Dig x) (h0 : l ≠ []) (h1 : l.length = 1 ∨ l.head? ≠ some 48) : dg (vl l) = l := by
  cases l with
  | nil => exact absurd rfl h0
  | cons x r =>
    by_cases hx : x = 48
    · subst hx
      simp at h1
      subst h1
      rw [show vl [48] = 0 from rfl, dg_small (by omega)]; rfl
    · have h2 := vl_pos r x hx (hd x (by simp)) fun y hy => hd y (by simp [hy])
      have h3 := vl_lt _ hd
      rw [dg_dgw r.length _ h2 (by simpa using h3)]
      exact dgw_vl _ hd
theorem dgw_split : ∀ (b a n : Nat), dgw (a + b) n = dgw a (n / 10 ^ b) ++ dgw b n
  | 0, a, n => by simp [dgw]
  | b + 1, a, n => by
    rw [← Nat.add_assoc, dgw, dgw, dgw_split b a, List.append_assoc, Nat.div_div_eq_div_mul, Nat.pow_succ, Nat.mul_comm (10 ^ b) 10]
theorem dgw_mod : ∀ (w n : Nat), dgw w (n % 10 ^ w) = dgw w n
  | 0, n => rfl
  | w + 1, n => by
    rw [dgw, dgw]
    have e : n % 10 ^ (w + 1) / 10 = (n / 10) % 10 ^ w := by rw [Nat.pow_succ, Nat.mul_comm]; exact Nat.mod_mul_right_div_self ..
    have e2 : n % 10 ^ (w + 1) % 10 = n % 10 := by rw [Nat.pow_succ]; exact Nat.mod_mul_left_mod ..
    rw [e, e2, dgw_mod w]
theorem dgw_byte (w n : Nat) : ∀ x ∈ dgw w n, 0 ≤ x ∧ x < 256 := fun x h => by have := dgw_dig w n x h; unfold Dig at this; omega
theorem dg_byte (n : Nat) : ∀ x ∈ dg n, 0 ≤ x ∧ x < 256 := fun x h => by have := dg_dig n x h; unfold Dig at this; omega
end D1

namespace B2
open Go Go.Proofs VL B1 D1
set_option pp.maxSteps 1500
set_option maxRecDepth 100000
set_option linter.unusedVariables false
set_option linter.unusedSimpArgs false

theorem wrapu64 {x : Int} (h1 : 0 ≤ x) (h2 : x < 18446744073709551616) : IntKind.u64.wrap x = x := by
  have : IntKind.u64.wrap x = x % 18446744073709551616 := by unfold IntKind.wrap; simp [IntKind.bits, IntKind.signed]
  omega
theorem wrapu32 {x : Int} (h1 : 0 ≤ x) (h2 : x < 4294967296) : IntKind.u32.wrap x = x := by
  have : IntKind.u32.wrap x = x % 4294967296 := by unfold IntKind.wrap; simp [IntKind.bits, IntKind.signed]
  omega
theorem wrapu8 (x : Int) : IntKind.u8.wrap x = x % 256 := by unfold IntKind.wrap; simp [IntKind.bits, IntKind.signed]
theorem shr64 (n k : Nat) (hk : k ≤ 64) : shiftV .shr .u64 (n : Int) (k : Int) = ((n / 2 ^ k : Nat) : Int) := by
  unfold shiftV
  simp only [Int.toNat_natCast]
  rw [show min k IntKind.u64.bits = k from Nat.min_eq_left hk, Int.fdiv_eq_ediv_of_nonneg _ (Int.pow_nonneg (by omega))]
  rfl
theorem tabs {tab : ByteArray} (N : Nat) (f : Nat → Int) (h : sB tab = (List.range N).map f) (k : Nat) (hk : k < N) : (sB tab)[k]? = some (f k) := by
  rw [h, List.getElem?_map, List.getElem?_range hk]; rfl

/-- how many bits a number has -/
def len8 (n : Nat) : Nat := if n = 0 then 0 else n.log2 + 1
theorem len8_lt (n : Nat) : n < 2 ^ len8 n := by
  unfold len8
  split
  · subst n; simp
  · exact Nat.lt_log2_self
theorem len8_ge (n : Nat) (h : 0 < n) : 2 ^ (len8 n - 1) ≤ n := by
  unfold len8
  rw [if_neg (by omega), Nat.add_sub_cancel]
  exact Nat.log2_self_le (by omega)
theorem len8_div : ∀ (k n : Nat), 2 ^ k ≤ n → len8 (n / 2 ^ k) + k = len8 n
  | 0, n, h => by simp
  | k + 1, n, h => by
    have e : (2 : Nat) ^ (k + 1) = 2 ^ k * 2 := Nat.pow_succ ..
    have hp : 1 ≤ (2 : Nat) ^ k := Nat.one_le_pow _ _ (by omega)
    have ih := len8_div k n (by omega)
    rw [← ih, e, ← Nat.div_div_eq_div_mul]
    have h2 : 2 ≤ n / 2 ^ k := (Nat.le_div_iff_mul_le (by omega)).2 (by omega)
    generalize n / 2 ^ k = q at h2
    have : q.log2 = (q / 2).log2 + 1 := by rw [Nat.log2_def]; simp [h2]
    unfold len8
    rw [if_neg (by omega), if_neg (by omega), this]; omega
theorem len8_le {n k : Nat} (h : n < 2 ^ k) : len8 n ≤ k := by
  unfold len8
  split
  · omega
  · have := (Nat.log2_lt (by assumption)).2 h; omega

theorem shr_32 (n : Nat) : shiftV .shr .u64 (n : Int) 32 = ((n / 4294967296 : Nat) : Int) := shr64 n 32 (by omega)
theorem shr_16 (n : Nat) : shiftV .shr .u64 (n : Int) 16 = ((n / 65536 : Nat) : Int) := shr64 n 16 (by omega)
theorem shr_8 (n : Nat) : shiftV .shr .u64 (n : Int) 8 = ((n / 256 : Nat) : Int) := shr64 n 8 (by omega)

theorem wc : IntKind.i64.wrap (32 + 16) = 48 ∧ IntKind.i64.wrap (48 + 8) = 56 ∧ IntKind.i64.wrap (32 + 8) = 40 ∧ IntKind.i64.wrap (0 + 16) = 16 ∧ IntKind.i64.wrap (0 + 8) = 8 ∧ IntKind.i64.wrap (16 + 8) = 24 := by decide

set_option maxHeartbeats 4000000 in
theorem c_len64 (n : Nat) (h : n < 18446744073709551616) (K) (hk : K (.ret (.int .i64 (len8 n : Nat))) []) : VCall Tryd.prog 109 [.int .u64 (n : Int)] [] K := by
  have fin : ∀ (m : Nat), m < 256 → IntKind.u8.wrap (m : Int) = (m : Int) := fun m h => by rw [wrapu8]; omega
  refine call_fun [] 0 Tryd.func109 (by rfl) (by rfl) ?_
  conv => whnf
  repeat (refine step_go [] ?_; conv => whnf)
  refine two (fun g => ?_) (fun g => ?_)
  all_goals simp at g
  all_goals conv => whnf
  all_goals repeat (refine step_go [] ?_; conv => whnf)
  · refine ⟨by omega, ?_⟩; rw [shr_32]; conv => whnf
    repeat (refine step_go [] ?_; conv => whnf)
    · refine two (fun g => ?_) (fun g => ?_)
      all_goals simp at g
      all_goals conv => whnf
      all_goals repeat (refine step_go [] ?_; conv => whnf)
      · refine ⟨by omega, ?_⟩; rw [shr_16]; conv => whnf
        repeat (refine step_go [] ?_; conv => whnf)
        · refine two (fun g => ?_) (fun g => ?_)
          all_goals simp at g
          all_goals conv => whnf
          all_goals repeat (refine step_go [] ?_; conv => whnf)
          · refine ⟨by omega, ?_⟩; rw [shr_8]; conv => whnf
            repeat (refine step_go [] ?_; conv => whnf)
            · have hm : ((n / 4294967296) / 65536) / 256 < 256 := by omega
              have hk8 := len8_le (n := ((n / 4294967296) / 65536) / 256) (k := 8) (by omega)
              have hdiv : len8 (((n / 4294967296) / 65536) / 256) + 56 = len8 n := by
                have := len8_div 56 n (by omega)
                first | (rw [← this]; done) | (rw [← this]; congr 2; omega)
              refine idx_str (x := (len8 (((n / 4294967296) / 65536) / 256) : Nat)) (by rw [fin _ hm]; omega) (by rw [fin _ hm, Int.toNat_natCast]; exact tabs 256 (fun k => (len8 k : Nat)) (by decide +kernel) _ hm) fun c hc => ?_
              rw [hc]; conv => whnf
              repeat (refine step_go [] ?_; conv => whnf)
              refine Eq.mp (congrArg (fun x => K (Out.ret (V.int .i64 x)) []) ?_) hk
              simp only [wc.1, wc.2.1, wc.2.2.1, wc.2.2.2.1, wc.2.2.2.2.1, wc.2.2.2.2.2, wrap64 (x := ((len8 (((n / 4294967296) / 65536) / 256) : Nat) : Int)) (by omega) (by omega)]
              rw [wrap64 (by omega) (by omega)]; omega
          · have hm : (n / 4294967296) / 65536 < 256 := by omega
            have hk8 := len8_le (n := (n / 4294967296) / 65536) (k := 8) (by omega)
            have hdiv : len8 ((n / 4294967296) / 65536) + 48 = len8 n := by
              have := len8_div 48 n (by omega)
              first | (rw [← this]; done) | (rw [← this]; congr 2; omega)
            refine idx_str (x := (len8 ((n / 4294967296) / 65536) : Nat)) (by rw [fin _ hm]; omega) (by rw [fin _ hm, Int.toNat_natCast]; exact tabs 256 (fun k => (len8 k : Nat)) (by decide +kernel) _ hm) fun c hc => ?_
            rw [hc]; conv => whnf
            repeat (refine step_go [] ?_; conv => whnf)
            refine Eq.mp (congrArg (fun x => K (Out.ret (V.int .i64 x)) []) ?_) hk
            simp only [wc.1, wc.2.1, wc.2.2.1, wc.2.2.2.1, wc.2.2.2.2.1, wc.2.2.2.2.2, wrap64 (x := ((len8 ((n / 4294967296) / 65536) : Nat) : Int)) (by omega) (by omega)]
            rw [wrap64 (by omega) (by omega)]; omega
      · refine two (fun g => ?_) (fun g => ?_)
        all_goals simp at g
        all_goals conv => whnf
        all_goals repeat (refine step_go [] ?_; conv => whnf)
        · refine ⟨by omega, ?_⟩; rw [shr_8]; conv => whnf
          repeat (refine step_go [] ?_; conv => whnf)
          · have hm : (n / 4294967296) / 256 < 256 := by omega
            have hk8 := len8_le (n := (n / 4294967296) / 256) (k := 8) (by omega)
            have hdiv : len8 ((n / 4294967296) / 256) + 40 = len8 n := by
              have := len8_div 40 n (by omega)
              first | (rw [← this]; done) | (rw [← this]; congr 2; omega)
            refine idx_str (x := (len8 ((n / 4294967296) / 256) : Nat)) (by rw [fin _ hm]; omega) (by rw [fin _ hm, Int.toNat_natCast]; exact tabs 256 (fun k => (len8 k : Nat)) (by decide +kernel) _ hm) fun c hc => ?_
            rw [hc]; conv => whnf
            repeat (refine step_go [] ?_; conv => whnf)
            refine Eq.mp (congrArg (fun x => K (Out.ret (V.int .i64 x)) []) ?_) hk
            simp only [wc.1, wc.2.1, wc.2.2.1, wc.2.2.2.1, wc.2.2.2.2.1, wc.2.2.2.2.2, wrap64 (x := ((len8 ((n / 4294967296) / 256) : Nat) : Int)) (by omega) (by omega)]
            rw [wrap64 (by omega) (by omega)]; omega
        · have hm : n / 4294967296 < 256 := by omega
          have hk8 := len8_le (n := n / 4294967296) (k := 8) (by omega)
          have hdiv : len8 (n / 4294967296) + 32 = len8 n := by
            have := len8_div 32 n (by omega)
            first | (rw [← this]; done) | (rw [← this]; congr 2; omega)
          refine idx_str (x := (len8 (n / 4294967296) : Nat)) (by rw [fin _ hm]; omega) (by rw [fin _ hm, Int.toNat_natCast]; exact tabs 256 (fun k => (len8 k : Nat)) (by decide +kernel) _ hm) fun c hc => ?_
          rw [hc]; conv => whnf
          repeat (refine step_go [] ?_; conv => whnf)
          refine Eq.mp (congrArg (fun x => K (Out.ret (V.int .i64 x)) []) ?_) hk
          simp only [wc.1, wc.2.1, wc.2.2.1, wc.2.2.2.1, wc.2.2.2.2.1, wc.2.2.2.2.2, wrap64 (x := ((len8 (n / 4294967296) : Nat) : Int)) (by omega) (by omega)]
          rw [wrap64 (by omega) (by omega)]; omega
  · refine two (fun g => ?_) (fun g => ?_)
    all_goals simp at g
    all_goals conv => whnf
    all_goals repeat (refine step_go [] ?_; conv => whnf)
    · refine ⟨by omega, ?_⟩; rw [shr_16]; conv => whnf
      repeat (refine step_go [] ?_; conv => whnf)
      · refine two (fun g => ?_) (fun g => ?_)
        all_goals simp at g
        all_goals conv => whnf
        all_goals repeat (refine step_go [] ?_; conv => whnf)
        · refine ⟨by omega, ?_⟩; rw [shr_8]; conv => whnf
          repeat (refine step_go [] ?_; conv => whnf)
          · have hm : ((n) / 65536) / 256 < 256 := by omega
            have hk8 := len8_le (n := ((n) / 65536) / 256) (k := 8) (by omega)
            have hdiv : len8 (((n) / 65536) / 256) + 24 = len8 n := by
              have := len8_div 24 n (by omega)
              first | (rw [← this]; done) | (rw [← this]; congr 2; omega)
            refine idx_str (x := (len8 (((n) / 65536) / 256) : Nat)) (by rw [fin _ hm]; omega) (by rw [fin _ hm, Int.toNat_natCast]; exact tabs 256 (fun k => (len8 k : Nat)) (by decide +kernel) _ hm) fun c hc => ?_
            rw [hc]; conv => whnf
            repeat (refine step_go [] ?_; conv => whnf)
            refine Eq.mp (congrArg (fun x => K (Out.ret (V.int .i64 x)) []) ?_) hk
            simp only [wc.1, wc.2.1, wc.2.2.1, wc.2.2.2.1, wc.2.2.2.2.1, wc.2.2.2.2.2, wrap64 (x := ((len8 (((n) / 65536) / 256) : Nat) : Int)) (by omega) (by omega)]
            rw [wrap64 (by omega) (by omega)]; omega
        · have hm : (n) / 65536 < 256 := by omega
          have hk8 := len8_le (n := (n) / 65536) (k := 8) (by omega)
          have hdiv : len8 ((n) / 65536) + 16 = len8 n := by
            have := len8_div 16 n (by omega)
            first | (rw [← this]; done) | (rw [← this]; congr 2; omega)
          refine idx_str (x := (len8 ((n) / 65536) : Nat)) (by rw [fin _ hm]; omega) (by rw [fin _ hm, Int.toNat_natCast]; exact tabs 256 (fun k => (len8 k : Nat)) (by decide +kernel) _ hm) fun c hc => ?_
          rw [hc]; conv => whnf
          repeat (refine step_go [] ?_; conv => whnf)
          refine Eq.mp (congrArg (fun x => K (Out.ret (V.int .i64 x)) []) ?_) hk
          simp only [wc.1, wc.2.1, wc.2.2.1, wc.2.2.2.1, wc.2.2.2.2.1, wc.2.2.2.2.2, wrap64 (x := ((len8 ((n) / 65536) : Nat) : Int)) (by omega) (by omega)]
          rw [wrap64 (by omega) (by omega)]; omega
    · refine two (fun g => ?_) (fun g => ?_)
      all_goals simp at g
      all_goals conv => whnf
      all_goals repeat (refine step_go [] ?_; conv => whnf)
      · refine ⟨by omega, ?_⟩; rw [shr_8]; conv => whnf
        repeat (refine step_go [] ?_; conv => whnf)
        · have hm : (n) / 256 < 256 := by omega
          have hk8 := len8_le (n := (n) / 256) (k := 8) (by omega)
          have hdiv : len8 ((n) / 256) + 8 = len8 n := by
            have := len8_div 8 n (by omega)
            first | (rw [← this]; done) | (rw [← this]; congr 2; omega)
          refine idx_str (x := (len8 ((n) / 256) : Nat)) (by rw [fin _ hm]; omega) (by rw [fin _ hm, Int.toNat_natCast]; exact tabs 256 (fun k => (len8 k : Nat)) (by decide +kernel) _ hm) fun c hc => ?_
          rw [hc]; conv => whnf
          repeat (refine step_go [] ?_; conv => whnf)
          refine Eq.mp (congrArg (fun x => K (Out.ret (V.int .i64 x)) []) ?_) hk
          simp only [wc.1, wc.2.1, wc.2.2.1, wc.2.2.2.1, wc.2.2.2.2.1, wc.2.2.2.2.2, wrap64 (x := ((len8 ((n) / 256) : Nat) : Int)) (by omega) (by omega)]
          rw [wrap64 (by omega) (by omega)]; omega
      · have hm : n < 256 := by omega
        have hk8 := len8_le (n := n) (k := 8) (by omega)
        have hdiv : len8 (n) + 0 = len8 n := by
          rfl
        refine idx_str (x := (len8 (n) : Nat)) (by rw [fin _ hm]; omega) (by rw [fin _ hm, Int.toNat_natCast]; exact tabs 256 (fun k => (len8 k : Nat)) (by decide +kernel) _ hm) fun c hc => ?_
        rw [hc]; conv => whnf
        repeat (refine step_go [] ?_; conv => whnf)
        refine Eq.mp (congrArg (fun x => K (Out.ret (V.int .i64 x)) []) ?_) hk
        simp only [wc.1, wc.2.1, wc.2.2.1, wc.2.2.2.1, wc.2.2.2.2.1, wc.2.2.2.2.2, wrap64 (x := ((len8 (n) : Nat) : Int)) (by omega) (by omega)]
        rw [wrap64 (by omega) (by omega)]; omega
end B2

namespace B3
open Go Go.Proofs VL B1 D1 B2
set_option pp.maxSteps 1500
set_option maxRecDepth 100000
set_option linter.unusedVariables false
set_option linter.unusedSimpArgs false

theorem dropK_of {α : Type} : ∀ {l : List α} {i : Nat} {K : List α → Prop}, i ≤ l.length → K (l.drop i) → dropK l i K
  | l, 0, K, _, h => by simpa [dropK] using h
  | [], i + 1, K, hi, h => absurd hi (by simp)
  | x :: r, i + 1, K, hi, h => by
    rw [dropK]
    exact dropK_of (by simpa using hi) (by simpa using h)

theorem dropK_at {α : Type} {l : List α} {i : Nat} {K : List α → Prop} (x : α) (e : ∃ r, l.drop i = x :: r) (hK : ∀ r, K (x :: r)) : dropK l i K := by
  obtain ⟨r, e⟩ := e
  refine dropK_of ?_ (e ▸ hK r)
  rcases Nat.lt_or_ge l.length i with h | h
  · rw [List.drop_eq_nil_of_le (by omega)] at e; cases e
  · exact h
theorem upto20 {t : Nat} (h : t ≤ 19) : t = 0 ∨ t = 1 ∨ t = 2 ∨ t = 3 ∨ t = 4 ∨ t = 5 ∨ t = 6 ∨ t = 7 ∨ t = 8 ∨ t = 9 ∨ t = 10 ∨ t = 11 ∨ t = 12 ∨ t = 13 ∨ t = 14 ∨ t = 15 ∨ t = 16 ∨ t = 17 ∨ t = 18 ∨ t = 19 := by omega

theorem log_le : ∀ b, b < 65 → b * 78913 / 262144 ≤ 19 := by decide
theorem log_lo : ∀ b, b < 65 → 2 ^ b ≤ 10 ^ (b * 78913 / 262144 + 1) := by decide
theorem log_hi : ∀ b, b < 65 → 1 ≤ b → 10 ^ (b * 78913 / 262144) ≤ 2 ^ (b - 1) * 10 := by decide
theorem nd (n : Nat) (h0 : 0 < n) (h : n < 18446744073709551616) : (dg n).length = len8 n * 78913 / 262144 + (if 10 ^ (len8 n * 78913 / 262144) ≤ n then 1 else 0) := by
  have hb := len8_le (n := n) (k := 64) (by omega)
  have h1 := len8_lt n
  have h2 := len8_ge n h0
  have h3 := log_lo (len8 n) (by omega)
  have hp : 1 ≤ len8 n := by
    rcases Nat.eq_zero_or_pos (len8 n) with e | e
    · rw [e] at h1; simp at h1; omega
    · exact e
  have h4 := log_hi (len8 n) (by omega) hp
  generalize len8 n * 78913 / 262144 = t at *
  split
  · have := dg_len_ge t n (by assumption)
    have := dg_len_le t n (by omega)
    omega
  · cases t with
    | zero => simp at *; omega
    | succ t =>
      have e : (10 : Nat) ^ (t + 1) = 10 ^ t * 10 := Nat.pow_succ ..
      have := dg_len_ge t n (by omega)
      have := dg_len_le t n (by omega)
      omega

theorem c_numDigits (n : Nat) (h0 : 0 < n) (h : n < 18446744073709551616) (K) (hk : K (.ret (.int .i64 ((dg n).length : Nat))) []) : VCall Tryd.prog 91 [.int .u64 (n : Int)] [] K := by
  have hb := len8_le (n := n) (k := 64) (by omega)
  have ht := log_le (len8 n) (by omega)
  have hn := nd n h0 h
  refine call_fun [] 0 Tryd.func91 (by rfl) (by rfl) ?_
  conv => whnf
  repeat (refine step_go [] ?_; conv => whnf)
  refine c_len64 n h _ ?_; conv => whnf
  refine c_log10 _ (by omega) (by omega) _ ?_; conv => whnf
  repeat (refine step_go [] ?_; conv => whnf)
  have e : ((len8 n : Nat) : Int) * 78913 / 262144 = ((len8 n * 78913 / 262144 : Nat) : Int) := by omega
  rw [e]
  generalize hT : len8 n * 78913 / 262144 = t at *
  refine ⟨by omega, by omega, dropK_at (.int .u64 ((10 ^ t : Nat) : Int)) ?_ fun r => ?_⟩
  · rw [Int.toNat_natCast, Nat.mul_one]
    clear hk hn e hT
    rcases upto20 ht with h | h | h | h | h | h | h | h | h | h | h | h | h | h | h | h | h | h | h | h <;> subst h <;> exact ⟨_, rfl⟩
  conv => whnf
  repeat (refine step_go [] ?_; conv => whnf)
  refine c_bool2 _ _ ?_; conv => whnf
  repeat (refine step_go [] ?_; conv => whnf)
  refine Eq.mp (congrArg (fun x => K (Out.ret (V.int .i64 x)) []) ?_) hk
  have hg : (decide ((n : Int) ≥ ((10 ^ t : Nat) : Int))) = decide (10 ^ t ≤ n) := by rw [decide_eq_decide]; omega
  rw [hg, hn]
  by_cases hle : 10 ^ t ≤ n <;> simp only [hle, decide_true, decide_false, if_true, if_false] <;> rw [wrap64 (by first | omega | (simp; omega)) (by first | omega | (simp; omega))] <;> simp
end B3

namespace B4
open Go Go.Proofs VL B1 D1 B2 B3
set_option pp.maxSteps 700
set_option maxRecDepth 100000
set_option linter.unusedVariables false
set_option linter.unusedSimpArgs false

/-- the table of two digits -/
def sm (k : Nat) : Int := 48 + (if k % 2 = 0 then ((k / 2 / 10 : Nat) : Int) else ((k / 2 % 10 : Nat) : Int))
theorem sm_hi (y : Nat) (h : y < 100) : sm (y * 2) = 48 + ((y / 10 % 10 : Nat) : Int) := by unfold sm; rw [if_pos (by omega)]; omega
theorem sm_lo (y : Nat) : sm (y * 2 + 1) = 48 + ((y % 10 : Nat) : Int) := by unfold sm; rw [if_neg (by omega)]; omega

/-- a row, its first p numbers as they were -/
def fr (l : List Int) (p : Nat) (D : List Int) : List Int := l.take p ++ D
theorem fr_set {l : List Int} {p : Nat} {D : List Int} (v o : Int) (hp : p < l.length) : (bL (fr l (p + 1) D)).set p (V.remake (.int .u8 o) [.int .u8 v]) = bL (fr l p (v :: D)) := by
  show (bL (fr l (p + 1) D)).set p (.int .u8 v) = _
  unfold fr bL
  rw [← List.map_set, List.take_succ_eq_append_getElem hp, List.append_assoc]
  rw [List.set_append_right _ _ (by simp; omega)]
  simp [Nat.min_eq_left (Nat.le_of_lt hp)]
theorem fr_get {l : List Int} {p : Nat} {D : List Int} (hp : p < l.length) : (bL (fr l (p + 1) D))[p]? = some (.int .u8 l[p]) := by
  unfold fr
  rw [bL_get, List.getElem?_append_left (by simp; omega), List.getElem?_take_of_lt (by omega), List.getElem?_eq_getElem hp]; rfl
theorem fr_len {l : List Int} {p : Nat} {D : List Int} (hp : p ≤ l.length) : (bL (fr l p D)).length = p + D.length := by unfold fr; rw [bL_len]; simp; omega

theorem tm8 (a : Nat) : Int.tmod (a : Int) 100000000 = ((a % 100000000 : Nat) : Int) := rfl
theorem td8 (a : Nat) : Int.tdiv (a : Int) 100000000 = ((a / 100000000 : Nat) : Int) := rfl
theorem tm4 (a : Nat) : Int.tmod (a : Int) 10000 = ((a % 10000 : Nat) : Int) := rfl
theorem td4 (a : Nat) : Int.tdiv (a : Int) 10000 = ((a / 10000 : Nat) : Int) := rfl
theorem tm2 (a : Nat) : Int.tmod (a : Int) 100 = ((a % 100 : Nat) : Int) := rfl
theorem td2 (a : Nat) : Int.tdiv (a : Int) 100 = ((a / 100 : Nat) : Int) := rfl
theorem w64N {a : Nat} (h : a < 18446744073709551616) : IntKind.u64.wrap (a : Int) = a := wrapu64 (by omega) (by omega)
theorem w32N {a : Nat} (h : a < 4294967296) : IntKind.u32.wrap (a : Int) = a := wrapu32 (by omega) (by omega)
theorem m32N {a : Nat} (h : a < 100000) : IntKind.u32.wrap ((a : Int) * 2) = ((a * 2 : Nat) : Int) := by rw [wrapu32 (by omega) (by omega)]; omega
theorem a32N {a : Nat} (h : a < 100000) : IntKind.u32.wrap ((a : Int) + 1) = ((a + 1 : Nat) : Int) := by rw [wrapu32 (by omega) (by omega)]; omega
theorem s64N {a b : Nat} (h : b ≤ a) (h2 : a < 100000) : IntKind.i64.wrap ((a : Int) - (b : Int)) = ((a - b : Nat) : Int) := by rw [wrap64 (by omega) (by omega)]; omega

theorem s64 {k : Nat} {x d : Int} (h : x - d = (k : Int)) (h2 : k < 100000) : IntKind.i64.wrap (x - d) = (k : Int) := by rw [wrap64 (by omega) (by omega)]; exact h

set_option maxHeartbeats 4000000 in
theorem c_format (l : List Int) (lo n c u : Nat) (hl : lo + n ≤ l.length) (hl2 : l.length < 1000) (hu : u < 18446744073709551616) (hn : n ≤ 20) (hun : u < 10 ^ n) (K)
    (h : K (.ret (.tup [])) [.buf false 1 (bL (l.take lo ++ (dgw n u ++ l.drop (lo + n))))]) : VCall Tryd.prog 92 [.slo 0 1 lo n c, .int .u64 (u : Int)] [.buf false 1 (bL l)] K := by
  refine call_fun [] 1 Tryd.func92 (by rfl) (by rfl) ?_
  conv => whnf
  repeat (refine step_go [] ?_; conv => whnf)
  let S : Nat → St := fun m => ⟨(.slo 0 1 lo n c :: .int .u64 ((u / 10 ^ m : Nat) : Int) :: .undef :: .undef :: .int .i64 ((n - m : Nat) : Int) :: .undef :: .undef :: .undef :: .undef :: .undef :: .undef :: .undef :: .undef :: .undef :: .undef :: .undef :: .undef :: .undef :: .undef :: .undef :: .undef :: .undef :: .undef :: .undef :: .undef :: .undef :: .undef :: .undef :: .undef :: .undef :: .undef :: .undef :: .undef :: .undef :: .undef :: .undef :: .undef :: .undef :: .undef :: .undef :: .undef :: .undef :: .undef :: .undef :: .undef :: .undef :: .undef :: .undef :: .undef :: .undef :: .undef :: .undef :: .undef :: .undef :: .undef :: .undef :: .undef :: .undef :: .undef :: .undef :: .undef :: .undef :: .undef :: .undef :: .undef :: .undef :: .undef :: .undef :: .undef :: .undef :: .undef :: .undef :: .undef :: .undef :: .undef :: .undef :: .undef :: .undef :: .undef :: .undef :: .undef :: .undef :: .undef :: .undef :: .undef :: .undef :: .undef :: .undef :: .undef :: .undef :: .undef :: .undef :: .undef :: .undef :: .undef :: .undef :: .undef :: .undef :: .undef :: .undef :: .undef :: .undef :: .undef :: .undef :: .undef :: .undef :: .undef :: .undef :: .undef :: .undef :: .undef :: .undef :: .undef :: .undef :: .undef :: .undef :: .undef :: .undef :: .undef :: .undef :: .undef :: .undef :: .undef :: .undef :: .undef :: .undef :: .undef :: .undef :: .undef :: .undef :: .undef :: .undef :: .undef :: .undef :: .undef :: .undef :: .undef :: .undef :: .undef :: .undef :: .undef :: .undef :: .undef :: .undef :: .undef :: .undef :: .undef :: .undef :: .undef :: .undef :: .undef :: .undef :: .undef :: .undef :: .undef :: .undef :: .undef :: .undef :: .undef :: .undef :: .undef :: .undef :: .undef :: .undef :: .undef :: .undef :: .undef :: []), [.buf false 1 (bL (fr l (lo + (n - m)) (dgw m u ++ l.drop (lo + n))))], 0, []⟩
  refine VLoop.enter (s' := S 0) (weak_of ?_ (.cons (.eq ?_) .nil) rfl rfl rfl) (VLoop.indW S (fun m => n - m) (fun m => m ≤ n) ?_ 0 (by omega))
  · repeat' first
      | exact VWs.nil
      | refine VWs.cons VW.undef ?_
      | refine VWs.cons (VW.eq rfl) ?_
      | refine VWs.cons (VW.eq (congrArg (V.int .u64) (by simp))) ?_
  · simp [fr, dgw]
  intro m hm ih
  refine loop_round [] ?_; conv => whnf
  repeat (refine step_go [] ?_; conv => whnf)
  refine two (fun g => ?_) (fun g => ?_)
  · obtain ⟨k, hk⟩ : ∃ k, n - m = k + 8 := ⟨n - m - 8, by simp at g; omega⟩
    rw [hk]
    conv => whnf
    repeat (refine step_go [] ?_; conv => whnf)
    generalize hX : u / 10 ^ m = X
    have hX2 : X < 18446744073709551616 := by rw [← hX]; exact Nat.lt_of_le_of_lt (Nat.div_le_self _ _) hu
    refine ⟨by decide, ?_⟩; rw [tm8 X]; conv => whnf
    rw [w32N (a := X % 100000000) (by omega)]
    have hx : X % 100000000 < 100000000 := Nat.mod_lt _ (by omega)
    generalize hx0 : X % 100000000 = x at hx
    repeat (refine step_go [] ?_; conv => whnf)
    refine ⟨by decide, ?_⟩; rw [td8 X, w64N (a := X / 100000000) (by omega)]; conv => whnf
    repeat (refine step_go [] ?_; conv => whnf)
    refine ⟨by decide, ?_⟩; rw [td4 x, w32N (a := x / 10000) (by omega)]; conv => whnf
    refine ⟨by decide, ?_⟩; rw [tm4 x]; conv => whnf
    have hh : x / 10000 < 10000 := by omega
    have hy : x % 10000 < 10000 := by omega
    generalize hh0 : x / 10000 = hi at hh
    generalize hy0 : x % 10000 = y at hy
    repeat (refine step_go [] ?_; conv => whnf)
    refine ⟨by decide, ?_⟩; rw [td2 y, w32N (a := y / 100) (by omega)]; conv => whnf
    rw [m32N (a := y / 100) (by omega)]
    refine ⟨by decide, ?_⟩; rw [tm2 y]; conv => whnf
    rw [m32N (a := y % 100) (by omega)]
    repeat (refine step_go [] ?_; conv => whnf)
    refine ⟨by decide, ?_⟩; rw [td2 hi, w32N (a := hi / 100) (by omega)]; conv => whnf
    rw [m32N (a := hi / 100) (by omega)]
    refine ⟨by decide, ?_⟩; rw [tm2 hi]; conv => whnf
    rw [m32N (a := hi % 100) (by omega)]
    repeat (refine step_go [] ?_; conv => whnf)
    refine ⟨by decide +kernel, ?_⟩; conv => whnf
    refine idx_str (x := 48 + ((X % 10 : Nat) : Int)) (by rw [a32N (a := (y % 100) * 2) (by omega)]; omega) (by rw [a32N (a := (y % 100) * 2) (by omega), Int.toNat_natCast, tabs 200 sm (by decide +kernel) _ (by omega), sm_lo]; congr 2; omega) fun c hc => ?_
    rw [hc]; conv => whnf
    refine idx_str (x := 48 + ((X / 10 % 10 : Nat) : Int)) (by omega) (by rw [Int.toNat_natCast, tabs 200 sm (by decide +kernel) _ (by omega), sm_hi _ (by omega)]; congr 2; omega) fun c hc => ?_
    rw [hc]; conv => whnf
    rw [s64 (k := (k + 6) + 1) (by omega) (by omega)]
    refine ⟨by omega, by omega, ?_⟩; conv => whnf
    rw [Int.toNat_natCast, show fr l (lo + (k + 8)) = fr l (lo + ((k + 6) + 1) + 1) from rfl]
    refine ⟨_, fr_get (l := l) (p := lo + ((k + 6) + 1)) (by omega), ?_⟩; conv => whnf
    rw [fr_set (l := l) (p := lo + ((k + 6) + 1)) _ _ (by omega)]
    refine idx_str (x := 48 + ((X / 10 % 10 : Nat) : Int)) (by omega) (by rw [Int.toNat_natCast, tabs 200 sm (by decide +kernel) _ (by omega), sm_hi _ (by omega)]; congr 2; omega) fun c hc => ?_
    refine And.intro (by rw [hc]) ?_; conv => whnf
    repeat (refine And.intro rfl ?_; conv => whnf)
    rw [s64 (k := (k + 6)) (by omega) (by omega)]
    refine ⟨by omega, by omega, ?_⟩; conv => whnf
    rw [Int.toNat_natCast, show fr l (lo + ((k + 6) + 1)) = fr l (lo + ((k + 6)) + 1) from rfl]
    refine ⟨_, fr_get (l := l) (p := lo + ((k + 6))) (by omega), ?_⟩; conv => whnf
    rw [fr_set (l := l) (p := lo + ((k + 6))) _ _ (by omega)]
    repeat (refine step_go [] ?_; conv => whnf)
    refine ⟨by decide +kernel, ?_⟩; conv => whnf
    refine idx_str (x := 48 + ((X / 100 % 10 : Nat) : Int)) (by rw [a32N (a := (y / 100) * 2) (by omega)]; omega) (by rw [a32N (a := (y / 100) * 2) (by omega), Int.toNat_natCast, tabs 200 sm (by decide +kernel) _ (by omega), sm_lo]; congr 2; omega) fun c hc => ?_
    rw [hc]; conv => whnf
    refine idx_str (x := 48 + ((X / 1000 % 10 : Nat) : Int)) (by omega) (by rw [Int.toNat_natCast, tabs 200 sm (by decide +kernel) _ (by omega), sm_hi _ (by omega)]; congr 2; omega) fun c hc => ?_
    rw [hc]; conv => whnf
    rw [s64 (k := (k + 4) + 1) (by omega) (by omega)]
    refine ⟨by omega, by omega, ?_⟩; conv => whnf
    rw [Int.toNat_natCast, show fr l (lo + (k + 6)) = fr l (lo + ((k + 4) + 1) + 1) from rfl]
    refine ⟨_, fr_get (l := l) (p := lo + ((k + 4) + 1)) (by omega), ?_⟩; conv => whnf
    rw [fr_set (l := l) (p := lo + ((k + 4) + 1)) _ _ (by omega)]
    refine idx_str (x := 48 + ((X / 1000 % 10 : Nat) : Int)) (by omega) (by rw [Int.toNat_natCast, tabs 200 sm (by decide +kernel) _ (by omega), sm_hi _ (by omega)]; congr 2; omega) fun c hc => ?_
    refine And.intro (by rw [hc]) ?_; conv => whnf
    repeat (refine And.intro rfl ?_; conv => whnf)
    rw [s64 (k := (k + 4)) (by omega) (by omega)]
    refine ⟨by omega, by omega, ?_⟩; conv => whnf
    rw [Int.toNat_natCast, show fr l (lo + ((k + 4) + 1)) = fr l (lo + ((k + 4)) + 1) from rfl]
    refine ⟨_, fr_get (l := l) (p := lo + ((k + 4))) (by omega), ?_⟩; conv => whnf
    rw [fr_set (l := l) (p := lo + ((k + 4))) _ _ (by omega)]
    repeat (refine step_go [] ?_; conv => whnf)
    refine ⟨by decide +kernel, ?_⟩; conv => whnf
    refine idx_str (x := 48 + ((X / 10000 % 10 : Nat) : Int)) (by rw [a32N (a := (hi % 100) * 2) (by omega)]; omega) (by rw [a32N (a := (hi % 100) * 2) (by omega), Int.toNat_natCast, tabs 200 sm (by decide +kernel) _ (by omega), sm_lo]; congr 2; omega) fun c hc => ?_
    rw [hc]; conv => whnf
    refine idx_str (x := 48 + ((X / 100000 % 10 : Nat) : Int)) (by omega) (by rw [Int.toNat_natCast, tabs 200 sm (by decide +kernel) _ (by omega), sm_hi _ (by omega)]; congr 2; omega) fun c hc => ?_
    rw [hc]; conv => whnf
    rw [s64 (k := (k + 2) + 1) (by omega) (by omega)]
    refine ⟨by omega, by omega, ?_⟩; conv => whnf
    rw [Int.toNat_natCast, show fr l (lo + (k + 4)) = fr l (lo + ((k + 2) + 1) + 1) from rfl]
    refine ⟨_, fr_get (l := l) (p := lo + ((k + 2) + 1)) (by omega), ?_⟩; conv => whnf
    rw [fr_set (l := l) (p := lo + ((k + 2) + 1)) _ _ (by omega)]
    refine idx_str (x := 48 + ((X / 100000 % 10 : Nat) : Int)) (by omega) (by rw [Int.toNat_natCast, tabs 200 sm (by decide +kernel) _ (by omega), sm_hi _ (by omega)]; congr 2; omega) fun c hc => ?_
    refine And.intro (by rw [hc]) ?_; conv => whnf
    repeat (refine And.intro rfl ?_; conv => whnf)
    rw [s64 (k := (k + 2)) (by omega) (by omega)]
    refine ⟨by omega, by omega, ?_⟩; conv => whnf
    rw [Int.toNat_natCast, show fr l (lo + ((k + 2) + 1)) = fr l (lo + ((k + 2)) + 1) from rfl]
    refine ⟨_, fr_get (l := l) (p := lo + ((k + 2))) (by omega), ?_⟩; conv => whnf
    rw [fr_set (l := l) (p := lo + ((k + 2))) _ _ (by omega)]
    repeat (refine step_go [] ?_; conv => whnf)
    refine ⟨by decide +kernel, ?_⟩; conv => whnf
    refine idx_str (x := 48 + ((X / 1000000 % 10 : Nat) : Int)) (by rw [a32N (a := (hi / 100) * 2) (by omega)]; omega) (by rw [a32N (a := (hi / 100) * 2) (by omega), Int.toNat_natCast, tabs 200 sm (by decide +kernel) _ (by omega), sm_lo]; congr 2; omega) fun c hc => ?_
    rw [hc]; conv => whnf
    refine idx_str (x := 48 + ((X / 10000000 % 10 : Nat) : Int)) (by omega) (by rw [Int.toNat_natCast, tabs 200 sm (by decide +kernel) _ (by omega), sm_hi _ (by omega)]; congr 2; omega) fun c hc => ?_
    rw [hc]; conv => whnf
    rw [s64 (k := k + 1) (by omega) (by omega)]
    refine ⟨by omega, by omega, ?_⟩; conv => whnf
    rw [Int.toNat_natCast, show fr l (lo + (k + 2)) = fr l (lo + (k + 1) + 1) from rfl]
    refine ⟨_, fr_get (l := l) (p := lo + (k + 1)) (by omega), ?_⟩; conv => whnf
    rw [fr_set (l := l) (p := lo + (k + 1)) _ _ (by omega)]
    refine idx_str (x := 48 + ((X / 10000000 % 10 : Nat) : Int)) (by omega) (by rw [Int.toNat_natCast, tabs 200 sm (by decide +kernel) _ (by omega), sm_hi _ (by omega)]; congr 2; omega) fun c hc => ?_
    refine And.intro (by rw [hc]) ?_; conv => whnf
    repeat (refine And.intro rfl ?_; conv => whnf)
    rw [s64 (k := k) (by omega) (by omega)]
    refine ⟨by omega, by omega, ?_⟩; conv => whnf
    rw [Int.toNat_natCast, show fr l (lo + (k + 1)) = fr l (lo + (k) + 1) from rfl]
    refine ⟨_, fr_get (l := l) (p := lo + (k)) (by omega), ?_⟩; conv => whnf
    rw [fr_set (l := l) (p := lo + (k)) _ _ (by omega)]
    repeat (refine step_go [] ?_; conv => whnf)
    rw [s64 (k := k) (by omega) (by omega)]
    refine ⟨S (m + 8), weak_of ?_ (.cons (.eq ?_) .nil) rfl rfl rfl, ih (m + 8) (by omega) (by omega)⟩
    · repeat' first
        | exact VWs.nil
        | refine VWs.cons VW.undef ?_
        | refine VWs.cons (VW.eq rfl) ?_
        | refine VWs.cons (VW.eq (congrArg (V.int .u64) (by rw [← hX, Nat.div_div_eq_div_mul, Nat.pow_add]))) ?_
        | refine VWs.cons (VW.eq (congrArg (V.int .i64) (by omega))) ?_
    · refine congrArg (fun x => VObj.buf false 1 (bL x)) ?_
      rw [show n - (m + 8) = k by omega, Nat.add_comm m 8, dgw_split, hX]
      simp only [dgw, List.nil_append, List.cons_append, List.append_assoc, fr]
      congr 1
      simp only [List.cons.injEq, and_true]
      omega
  have g : n - m < 8 := by simp at g; omega
  clear ih
  conv => whnf
  refine ⟨_, Weak.refl, ?_⟩; conv => whnf
  repeat (refine step_go [] ?_; conv => whnf)
  have hX3 : u / 10 ^ m < 10 ^ (n - m) := by
    refine Nat.div_lt_of_lt_mul ?_
    rw [← Nat.pow_add, show m + (n - m) = n by omega]; exact hun
  have hX4 : u / 10 ^ m < 10000000 := Nat.lt_of_lt_of_le hX3 (Nat.pow_le_pow_right (n := 10) (by omega) (show n - m ≤ 7 by omega))
  generalize hX : u / 10 ^ m = X at *
  rw [w32N (a := X) (by omega)]
  clear S
  refine two (fun g4 => ?_) (fun g4 => ?_)
  · obtain ⟨k, hk⟩ : ∃ k, n - m = k + 4 := ⟨n - m - 4, by simp at g4; omega⟩
    rw [hk]; conv => whnf
    repeat (refine step_go [] ?_; conv => whnf)
    refine ⟨by decide, ?_⟩; rw [tm4 X]; conv => whnf
    repeat (refine step_go [] ?_; conv => whnf)
    refine ⟨by decide, ?_⟩; rw [td4 X, w32N (a := X / 10000) (by omega)]; conv => whnf
    repeat (refine step_go [] ?_; conv => whnf)
    have hy : X % 10000 < 10000 := by omega
    generalize hy0 : X % 10000 = y at hy
    refine ⟨by decide, ?_⟩; rw [td2 y, w32N (a := y / 100) (by omega)]; conv => whnf
    rw [m32N (a := y / 100) (by omega)]
    refine ⟨by decide, ?_⟩; rw [tm2 y]; conv => whnf
    rw [m32N (a := y % 100) (by omega)]
    repeat (refine step_go [] ?_; conv => whnf)
    refine ⟨by decide +kernel, ?_⟩; conv => whnf
    refine idx_str (x := 48 + ((X % 10 : Nat) : Int)) (by rw [a32N (a := (y % 100) * 2) (by omega)]; omega) (by rw [a32N (a := (y % 100) * 2) (by omega), Int.toNat_natCast, tabs 200 sm (by decide +kernel) _ (by omega), sm_lo]; congr 2; omega) fun c hc => ?_
    rw [hc]; conv => whnf
    refine idx_str (x := 48 + ((X / 10 % 10 : Nat) : Int)) (by omega) (by rw [Int.toNat_natCast, tabs 200 sm (by decide +kernel) _ (by omega), sm_hi _ (by omega)]; congr 2; omega) fun c hc => ?_
    rw [hc]; conv => whnf
    rw [s64 (k := (k + 2) + 1) (by omega) (by omega)]
    refine ⟨by omega, by omega, ?_⟩; conv => whnf
    rw [Int.toNat_natCast, show fr l (lo + (k + 4)) = fr l (lo + ((k + 2) + 1) + 1) from rfl]
    refine ⟨_, fr_get (l := l) (p := lo + ((k + 2) + 1)) (by omega), ?_⟩; conv => whnf
    rw [fr_set (l := l) (p := lo + ((k + 2) + 1)) _ _ (by omega)]
    refine idx_str (x := 48 + ((X / 10 % 10 : Nat) : Int)) (by omega) (by rw [Int.toNat_natCast, tabs 200 sm (by decide +kernel) _ (by omega), sm_hi _ (by omega)]; congr 2; omega) fun c hc => ?_
    refine And.intro (by rw [hc]) ?_; conv => whnf
    repeat (refine And.intro rfl ?_; conv => whnf)
    rw [s64 (k := (k + 2)) (by omega) (by omega)]
    refine ⟨by omega, by omega, ?_⟩; conv => whnf
    rw [Int.toNat_natCast, show fr l (lo + ((k + 2) + 1)) = fr l (lo + ((k + 2)) + 1) from rfl]
    refine ⟨_, fr_get (l := l) (p := lo + ((k + 2))) (by omega), ?_⟩; conv => whnf
    rw [fr_set (l := l) (p := lo + ((k + 2))) _ _ (by omega)]
    repeat (refine step_go [] ?_; conv => whnf)
    refine ⟨by decide +kernel, ?_⟩; conv => whnf
    refine idx_str (x := 48 + ((X / 100 % 10 : Nat) : Int)) (by rw [a32N (a := (y / 100) * 2) (by omega)]; omega) (by rw [a32N (a := (y / 100) * 2) (by omega), Int.toNat_natCast, tabs 200 sm (by decide +kernel) _ (by omega), sm_lo]; congr 2; omega) fun c hc => ?_
    rw [hc]; conv => whnf
    refine idx_str (x := 48 + ((X / 1000 % 10 : Nat) : Int)) (by omega) (by rw [Int.toNat_natCast, tabs 200 sm (by decide +kernel) _ (by omega), sm_hi _ (by omega)]; congr 2; omega) fun c hc => ?_
    rw [hc]; conv => whnf
    rw [s64 (k := k + 1) (by omega) (by omega)]
    refine ⟨by omega, by omega, ?_⟩; conv => whnf
    rw [Int.toNat_natCast, show fr l (lo + (k + 2)) = fr l (lo + (k + 1) + 1) from rfl]
    refine ⟨_, fr_get (l := l) (p := lo + (k + 1)) (by omega), ?_⟩; conv => whnf
    rw [fr_set (l := l) (p := lo + (k + 1)) _ _ (by omega)]
    refine idx_str (x := 48 + ((X / 1000 % 10 : Nat) : Int)) (by omega) (by rw [Int.toNat_natCast, tabs 200 sm (by decide +kernel) _ (by omega), sm_hi _ (by omega)]; congr 2; omega) fun c hc => ?_
    refine And.intro (by rw [hc]) ?_; conv => whnf
    repeat (refine And.intro rfl ?_; conv => whnf)
    rw [s64 (k := k) (by omega) (by omega)]
    refine ⟨by omega, by omega, ?_⟩; conv => whnf
    rw [Int.toNat_natCast, show fr l (lo + (k + 1)) = fr l (lo + (k) + 1) from rfl]
    refine ⟨_, fr_get (l := l) (p := lo + (k)) (by omega), ?_⟩; conv => whnf
    rw [fr_set (l := l) (p := lo + (k)) _ _ (by omega)]
    repeat (refine step_go [] ?_; conv => whnf)
    rw [s64 (k := k) (by omega) (by omega)]
    repeat (refine step_go [] ?_; conv => whnf)
    refine two (fun g2 => ?_) (fun g2 => ?_)
    · obtain ⟨k2, hk2⟩ : ∃ k2, k = k2 + 2 := ⟨k - 2, by simp at g2; omega⟩
      rw [hk2]; conv => whnf
      repeat (refine step_go [] ?_; conv => whnf)
      refine ⟨by decide, ?_⟩; rw [tm2 (X / 10000)]; conv => whnf
      rw [m32N (a := X / 10000 % 100) (by omega)]
      repeat (refine step_go [] ?_; conv => whnf)
      refine ⟨by decide, ?_⟩; rw [td2 (X / 10000), w32N (a := X / 10000 / 100) (by omega)]; conv => whnf
      repeat (refine step_go [] ?_; conv => whnf)
      refine ⟨by decide +kernel, ?_⟩; conv => whnf
      refine idx_str (x := 48 + ((X / 10000 % 10 : Nat) : Int)) (by rw [a32N (a := (X / 10000 % 100) * 2) (by omega)]; omega) (by rw [a32N (a := (X / 10000 % 100) * 2) (by omega), Int.toNat_natCast, tabs 200 sm (by decide +kernel) _ (by omega), sm_lo]; congr 2; omega) fun c hc => ?_
      rw [hc]; conv => whnf
      refine idx_str (x := 48 + ((X / 10000 / 10 % 10 : Nat) : Int)) (by omega) (by rw [Int.toNat_natCast, tabs 200 sm (by decide +kernel) _ (by omega), sm_hi _ (by omega)]; congr 2; omega) fun c hc => ?_
      rw [hc]; conv => whnf
      rw [s64 (k := k2 + 1) (by omega) (by omega)]
      refine ⟨by omega, by omega, ?_⟩; conv => whnf
      rw [Int.toNat_natCast, show fr l (lo + (k2 + 2)) = fr l (lo + (k2 + 1) + 1) from rfl]
      refine ⟨_, fr_get (l := l) (p := lo + (k2 + 1)) (by omega), ?_⟩; conv => whnf
      rw [fr_set (l := l) (p := lo + (k2 + 1)) _ _ (by omega)]
      refine idx_str (x := 48 + ((X / 10000 / 10 % 10 : Nat) : Int)) (by omega) (by rw [Int.toNat_natCast, tabs 200 sm (by decide +kernel) _ (by omega), sm_hi _ (by omega)]; congr 2; omega) fun c hc => ?_
      refine And.intro (by rw [hc]) ?_; conv => whnf
      repeat (refine And.intro rfl ?_; conv => whnf)
      rw [s64 (k := k2) (by omega) (by omega)]
      refine ⟨by omega, by omega, ?_⟩; conv => whnf
      rw [Int.toNat_natCast, show fr l (lo + (k2 + 1)) = fr l (lo + (k2) + 1) from rfl]
      refine ⟨_, fr_get (l := l) (p := lo + (k2)) (by omega), ?_⟩; conv => whnf
      rw [fr_set (l := l) (p := lo + (k2)) _ _ (by omega)]
      repeat (refine step_go [] ?_; conv => whnf)
      rw [s64 (k := k2) (by omega) (by omega)]
      repeat (refine step_go [] ?_; conv => whnf)
      refine two (fun g1 => ?_) (fun g1 => ?_)
      · have e1 : k2 = 1 := by simp at g1; omega
        have hX9 : X / 10000 / 100 < 10 := by
          have := hX3
          rw [show n - m = 7 by omega] at this
          omega
        rw [e1]; conv => whnf
        repeat (refine step_go [] ?_; conv => whnf)
        rw [show IntKind.u32.wrap (48 + ((X / 10000 / 100 : Nat) : Int)) = 48 + ((X / 10000 / 100 : Nat) : Int) from wrapu32 (by omega) (by omega), show IntKind.u8.wrap (48 + ((X / 10000 / 100 : Nat) : Int)) = 48 + ((X / 10000 / 100 : Nat) : Int) by rw [wrapu8]; omega]
        refine ⟨by omega, by omega, ?_⟩; conv => whnf
        rw [Int.toNat_zero]
        refine ⟨_, fr_get (l := l) (p := lo + 0) (by omega), ?_⟩; conv => whnf
        rw [show fr l (lo + 1) = fr l (lo + 0 + 1) from rfl, fr_set (l := l) (p := lo + 0) _ _ (by omega)]
        repeat (refine step_go [] ?_; conv => whnf)
        refine Eq.mp (congrArg (fun x => K (Out.ret (V.tup [])) [VObj.buf false 1 (bL x)]) ?_) h
        rw [show n = 7 + m by omega, dgw_split, hX]
        simp only [dgw, List.nil_append, List.cons_append, List.append_assoc, fr]
        congr 1 <;> simp only [List.cons.injEq, and_true] <;> omega
      · have e1 : k2 = 0 := by simp at g1; omega
        rw [e1]; conv => whnf
        repeat (refine step_go [] ?_; conv => whnf)
        refine Eq.mp (congrArg (fun x => K (Out.ret (V.tup [])) [VObj.buf false 1 (bL x)]) ?_) h
        rw [show n = 6 + m by omega, dgw_split, hX]
        simp only [dgw, List.nil_append, List.cons_append, List.append_assoc, fr]
        congr 1 <;> simp only [List.cons.injEq, and_true] <;> omega
    · have g2 : k < 2 := by simp at g2; omega
      conv => whnf
      repeat (refine step_go [] ?_; conv => whnf)
      refine two (fun g1 => ?_) (fun g1 => ?_)
      · have e1 : k = 1 := by simp at g1; omega
        have hX9 : X / 10000 < 10 := by
          have := hX3
          rw [show n - m = 5 by omega] at this
          omega
        rw [e1]; conv => whnf
        repeat (refine step_go [] ?_; conv => whnf)
        rw [show IntKind.u32.wrap (48 + ((X / 10000 : Nat) : Int)) = 48 + ((X / 10000 : Nat) : Int) from wrapu32 (by omega) (by omega), show IntKind.u8.wrap (48 + ((X / 10000 : Nat) : Int)) = 48 + ((X / 10000 : Nat) : Int) by rw [wrapu8]; omega]
        refine ⟨by omega, by omega, ?_⟩; conv => whnf
        rw [Int.toNat_zero]
        refine ⟨_, fr_get (l := l) (p := lo + 0) (by omega), ?_⟩; conv => whnf
        rw [show fr l (lo + 1) = fr l (lo + 0 + 1) from rfl, fr_set (l := l) (p := lo + 0) _ _ (by omega)]
        repeat (refine step_go [] ?_; conv => whnf)
        refine Eq.mp (congrArg (fun x => K (Out.ret (V.tup [])) [VObj.buf false 1 (bL x)]) ?_) h
        rw [show n = 5 + m by omega, dgw_split, hX]
        simp only [dgw, List.nil_append, List.cons_append, List.append_assoc, fr]
        congr 1 <;> simp only [List.cons.injEq, and_true] <;> omega
      · have e1 : k = 0 := by simp at g1; omega
        rw [e1]; conv => whnf
        repeat (refine step_go [] ?_; conv => whnf)
        refine Eq.mp (congrArg (fun x => K (Out.ret (V.tup [])) [VObj.buf false 1 (bL x)]) ?_) h
        rw [show n = 4 + m by omega, dgw_split, hX]
        simp only [dgw, List.nil_append, List.cons_append, List.append_assoc, fr]
        congr 1 <;> simp only [List.cons.injEq, and_true] <;> omega
  · have g4 : n - m < 4 := by simp at g4; omega
    conv => whnf
    repeat (refine step_go [] ?_; conv => whnf)
    refine two (fun g2 => ?_) (fun g2 => ?_)
    · obtain ⟨k2, hk2⟩ : ∃ k2, (n - m) = k2 + 2 := ⟨(n - m) - 2, by simp at g2; omega⟩
      rw [hk2]; conv => whnf
      repeat (refine step_go [] ?_; conv => whnf)
      refine ⟨by decide, ?_⟩; rw [tm2 (X)]; conv => whnf
      rw [m32N (a := X % 100) (by omega)]
      repeat (refine step_go [] ?_; conv => whnf)
      refine ⟨by decide, ?_⟩; rw [td2 (X), w32N (a := X / 100) (by omega)]; conv => whnf
      repeat (refine step_go [] ?_; conv => whnf)
      refine ⟨by decide +kernel, ?_⟩; conv => whnf
      refine idx_str (x := 48 + ((X % 10 : Nat) : Int)) (by rw [a32N (a := (X % 100) * 2) (by omega)]; omega) (by rw [a32N (a := (X % 100) * 2) (by omega), Int.toNat_natCast, tabs 200 sm (by decide +kernel) _ (by omega), sm_lo]; congr 2; omega) fun c hc => ?_
      rw [hc]; conv => whnf
      refine idx_str (x := 48 + ((X / 10 % 10 : Nat) : Int)) (by omega) (by rw [Int.toNat_natCast, tabs 200 sm (by decide +kernel) _ (by omega), sm_hi _ (by omega)]; congr 2; omega) fun c hc => ?_
      rw [hc]; conv => whnf
      rw [s64 (k := k2 + 1) (by omega) (by omega)]
      refine ⟨by omega, by omega, ?_⟩; conv => whnf
      rw [Int.toNat_natCast, show fr l (lo + (k2 + 2)) = fr l (lo + (k2 + 1) + 1) from rfl]
      refine ⟨_, fr_get (l := l) (p := lo + (k2 + 1)) (by omega), ?_⟩; conv => whnf
      rw [fr_set (l := l) (p := lo + (k2 + 1)) _ _ (by omega)]
      refine idx_str (x := 48 + ((X / 10 % 10 : Nat) : Int)) (by omega) (by rw [Int.toNat_natCast, tabs 200 sm (by decide +kernel) _ (by omega), sm_hi _ (by omega)]; congr 2; omega) fun c hc => ?_
      refine And.intro (by rw [hc]) ?_; conv => whnf
      repeat (refine And.intro rfl ?_; conv => whnf)
      rw [s64 (k := k2) (by omega) (by omega)]
      refine ⟨by omega, by omega, ?_⟩; conv => whnf
      rw [Int.toNat_natCast, show fr l (lo + (k2 + 1)) = fr l (lo + (k2) + 1) from rfl]
      refine ⟨_, fr_get (l := l) (p := lo + (k2)) (by omega), ?_⟩; conv => whnf
      rw [fr_set (l := l) (p := lo + (k2)) _ _ (by omega)]
      repeat (refine step_go [] ?_; conv => whnf)
      rw [s64 (k := k2) (by omega) (by omega)]
      repeat (refine step_go [] ?_; conv => whnf)
      refine two (fun g1 => ?_) (fun g1 => ?_)
      · have e1 : k2 = 1 := by simp at g1; omega
        have hX9 : X / 100 < 10 := by
          have := hX3
          rw [show n - m = 3 by omega] at this
          omega
        rw [e1]; conv => whnf
        repeat (refine step_go [] ?_; conv => whnf)
        rw [show IntKind.u32.wrap (48 + ((X / 100 : Nat) : Int)) = 48 + ((X / 100 : Nat) : Int) from wrapu32 (by omega) (by omega), show IntKind.u8.wrap (48 + ((X / 100 : Nat) : Int)) = 48 + ((X / 100 : Nat) : Int) by rw [wrapu8]; omega]
        refine ⟨by omega, by omega, ?_⟩; conv => whnf
        rw [Int.toNat_zero]
        refine ⟨_, fr_get (l := l) (p := lo + 0) (by omega), ?_⟩; conv => whnf
        rw [show fr l (lo + 1) = fr l (lo + 0 + 1) from rfl, fr_set (l := l) (p := lo + 0) _ _ (by omega)]
        repeat (refine step_go [] ?_; conv => whnf)
        refine Eq.mp (congrArg (fun x => K (Out.ret (V.tup [])) [VObj.buf false 1 (bL x)]) ?_) h
        rw [show n = 3 + m by omega, dgw_split, hX]
        simp only [dgw, List.nil_append, List.cons_append, List.append_assoc, fr]
        congr 1 <;> simp only [List.cons.injEq, and_true] <;> omega
      · have e1 : k2 = 0 := by simp at g1; omega
        rw [e1]; conv => whnf
        repeat (refine step_go [] ?_; conv => whnf)
        refine Eq.mp (congrArg (fun x => K (Out.ret (V.tup [])) [VObj.buf false 1 (bL x)]) ?_) h
        rw [show n = 2 + m by omega, dgw_split, hX]
        simp only [dgw, List.nil_append, List.cons_append, List.append_assoc, fr]
        congr 1 <;> simp only [List.cons.injEq, and_true] <;> omega
    · have g2 : (n - m) < 2 := by simp at g2; omega
      conv => whnf
      repeat (refine step_go [] ?_; conv => whnf)
      refine two (fun g1 => ?_) (fun g1 => ?_)
      · have e1 : (n - m) = 1 := by simp at g1; omega
        have hX9 : X < 10 := by
          have := hX3
          rw [show n - m = 1 by omega] at this
          omega
        rw [e1]; conv => whnf
        repeat (refine step_go [] ?_; conv => whnf)
        rw [show IntKind.u32.wrap (48 + ((X : Nat) : Int)) = 48 + ((X : Nat) : Int) from wrapu32 (by omega) (by omega), show IntKind.u8.wrap (48 + ((X : Nat) : Int)) = 48 + ((X : Nat) : Int) by rw [wrapu8]; omega]
        refine ⟨by omega, by omega, ?_⟩; conv => whnf
        rw [Int.toNat_zero]
        refine ⟨_, fr_get (l := l) (p := lo + 0) (by omega), ?_⟩; conv => whnf
        rw [show fr l (lo + 1) = fr l (lo + 0 + 1) from rfl, fr_set (l := l) (p := lo + 0) _ _ (by omega)]
        repeat (refine step_go [] ?_; conv => whnf)
        refine Eq.mp (congrArg (fun x => K (Out.ret (V.tup [])) [VObj.buf false 1 (bL x)]) ?_) h
        rw [show n = 1 + m by omega, dgw_split, hX]
        simp only [dgw, List.nil_append, List.cons_append, List.append_assoc, fr]
        congr 1 <;> simp only [List.cons.injEq, and_true] <;> omega
      · have e1 : (n - m) = 0 := by simp at g1; omega
        rw [e1]; conv => whnf
        repeat (refine step_go [] ?_; conv => whnf)
        refine Eq.mp (congrArg (fun x => K (Out.ret (V.tup [])) [VObj.buf false 1 (bL x)]) ?_) h
        rw [show n = 0 + m by omega, dgw_split, hX]
        simp only [dgw, List.nil_append, List.cons_append, List.append_assoc, fr]
        rfl
end B4
