/- Part Rd of the proof: B4 B5 B6 B7 B8 B9 B10 B11 B12 B13 D2 B14 D3 B15 B16 B17 B18 B19 B20 B21 B22 BB1 BB2 BB3 BB4 BB5 BB6 BB7 BB8 BB9 BB10 BB11 BB12 BB13 BB14 BB15 C1 C2 C3 C5 C6 C7 C8 C9 C10 C11 C12 C13 C14. -/
import Derived.Test.YtdjbfmfkeokfaaaGreatDoorRc
import Derived.Shelf.Strings.Search3
import Derived.Lib.IndexMore
set_option linter.unusedVariables false
set_option linter.unusedSimpArgs false
set_option maxRecDepth 100000
namespace B4
open Go Go.Proofs VL B1 D1 B2 B3
def sm (k : Nat) : Int := 48 + (if k % 2 = 0 then ((k / 2 / 10 : Nat) : Int) else ((k / 2 % 10 : Nat) : Int))
theorem sm_hi (y : Nat) (h : y < 100) : sm (y * 2) = 48 + ((y / 10 % 10 : Nat) : Int) := by unfold sm; rw [if_pos (by omega)]; omega
theorem sm_lo (y : Nat) : sm (y * 2 + 1) = 48 + ((y % 10 : Nat) : Int) := by unfold sm; rw [if_neg (by omega)]; omega
def fr (l : List Int) (p : Nat) (D : List Int) : List Int := l.take p ++ D
theorem fr_set {l : List Int} {p : Nat} {D : List Int} (v o : Int) (hp : p < l.length) : (bL (fr l (p + 1) D)).set p (V.remake (.int .u8 o) [.int .u8 v]) = bL (fr l p (v :: D)) := by
 show (bL (fr l (p + 1) D)).set p (.int .u8 v) = _
 unfold fr bL
 rw [← List.map_set, List.take_succ_eq_append_getElem hp, List.append_assoc]
 rw [List.set_append_right _ _ (by simp; omega)]
 simp [Nat.min_eq_left (Nat.le_of_lt hp)]
theorem fr_get {l : List Int} {p : Nat} {D : List Int} (hp : p < l.length) : (bL (fr l (p + 1) D))[p]? = some (.int .u8 l[p]) := by
 unfold fr
 rw [bL_get, List.getElem?_append_left (by simp; omega), List.getElem?_take_of_lt (by omega), List.getElem?_eq_getElem hp]; rfl
theorem tm8 (a : Nat) : Int.tmod (a : Int) 100000000 = ((a % 100000000 : Nat) : Int) := rfl
theorem td8 (a : Nat) : Int.tdiv (a : Int) 100000000 = ((a / 100000000 : Nat) : Int) := rfl
theorem tm4 (a : Nat) : Int.tmod (a : Int) 10000 = ((a % 10000 : Nat) : Int) := rfl
theorem td4 (a : Nat) : Int.tdiv (a : Int) 10000 = ((a / 10000 : Nat) : Int) := rfl
theorem tm2 (a : Nat) : Int.tmod (a : Int) 100 = ((a % 100 : Nat) : Int) := rfl
theorem td2 (a : Nat) : Int.tdiv (a : Int) 100 = ((a / 100 : Nat) : Int) := rfl
theorem w64N {a : Nat} (h : a < 18446744073709551616) : IntKind.u64.wrap (a : Int) = a := wrapu64 (by omega) (by omega)
theorem w32N {a : Nat} (h : a < 4294967296) : IntKind.u32.wrap (a : Int) = a := wrapu32 (by omega) (by omega)
theorem m32N {a : Nat} (h : a < 100000) : IntKind.u32.wrap ((a : Int) * 2) = ((a * 2 : Nat) : Int) := by rw [wrapu32 (by omega) (by omega)]; omega
theorem a32N {a : Nat} (h : a < 100000) : IntKind.u32.wrap ((a : Int) + 1) = ((a + 1 : Nat) : Int) := by rw [wrapu32 (by omega) (by omega)]; omega
theorem s64 {k : Nat} {x d : Int} (h : x - d = (k : Int)) (h2 : k < 100000) : IntKind.i64.wrap (x - d) = (k : Int) := by rw [wrap64 (by omega) (by omega)]; exact h
set_option maxHeartbeats 4000000 in
theorem c_format (l : List Int) (lo n c u : Nat) (hl : lo + n <= l.length) (hl2 : l.length < 1000) (hu : u < 18446744073709551616) (hn : n <= 20) (hun : u < 10 ^ n) (K)
 (h : K (.ret (.tup [])) [.buf false 1 (bL (l.take lo ++ (dgw n u ++ l.drop (lo + n))))]) : VCall Tryz.prog 136 [.slo 0 1 lo n c, .int .u64 (u : Int)] [.buf false 1 (bL l)] K := by
 refine call_fun [] 1 Tryz.func136 (by rfl) (by rfl) ?_
 conv=>whnf
 repeat (refine step_go [] ?_;conv=>whnf)
 let S : Nat -> St := fun m => ⟨(.slo 0 1 lo n c :: .int .u64 ((u / 10 ^ m : Nat) : Int) :: .undef :: .undef :: .int .i64 ((n - m : Nat) : Int) :: .undef :: .undef :: .undef :: .undef :: .undef :: .undef :: .undef :: .undef :: .undef :: .undef :: .undef :: .undef :: .undef :: .undef :: .undef :: .undef :: .undef :: .undef :: .undef :: .undef :: .undef :: .undef :: .undef :: .undef :: .undef :: .undef :: .undef :: .undef :: .undef :: .undef :: .undef :: .undef :: .undef :: .undef :: .undef :: .undef :: .undef :: .undef :: .undef :: .undef :: .undef :: .undef :: .undef :: .undef :: .undef :: .undef :: .undef :: .undef :: .undef :: .undef :: .undef :: .undef :: .undef :: .undef :: .undef :: .undef :: .undef :: .undef :: .undef :: .undef :: .undef :: .undef :: .undef :: .undef :: .undef :: .undef :: .undef :: .undef :: .undef :: .undef :: .undef :: .undef :: .undef :: .undef :: .undef :: .undef :: .undef :: .undef :: .undef :: .undef :: .undef :: .undef :: .undef :: .undef :: .undef :: .undef :: .undef :: .undef :: .undef :: .undef :: .undef :: .undef :: .undef :: .undef :: .undef :: .undef :: .undef :: .undef :: .undef :: .undef :: .undef :: .undef :: .undef :: .undef :: .undef :: .undef :: .undef :: .undef :: .undef :: .undef :: .undef :: .undef :: .undef :: .undef :: .undef :: .undef :: .undef :: .undef :: .undef :: .undef :: .undef :: .undef :: .undef :: .undef :: .undef :: .undef :: .undef :: .undef :: .undef :: .undef :: .undef :: .undef :: .undef :: .undef :: .undef :: .undef :: .undef :: .undef :: .undef :: .undef :: .undef :: .undef :: .undef :: .undef :: .undef :: .undef :: .undef :: .undef :: .undef :: .undef :: .undef :: .undef :: .undef :: .undef :: .undef :: .undef :: .undef :: .undef :: .undef :: .undef :: .undef :: .undef :: []), [.buf false 1 (bL (fr l (lo + (n - m)) (dgw m u ++ l.drop (lo + n))))], 0, []⟩
 refine VLoop.enter (s' := S 0) (weak_of ?_ (.cons (.eq ?_) .nil) rfl rfl rfl) (VLoop.indW S (fun m => n - m) (fun m => m <= n) ?_ 0 (by omega))
 · repeat' first
    | exact VWs.nil
    | refine VWs.cons VW.undef ?_
    | refine VWs.cons (VW.eq rfl) ?_
    | refine VWs.cons (VW.eq (congrArg (V.int .u64) (by simp))) ?_
 · simp [fr, dgw]
 intro m hm ih
 refine loop_round [] ?_; conv=>whnf
 repeat (refine step_go [] ?_;conv=>whnf)
 refine two (fun g => ?_) (fun g => ?_)
 · obtain ⟨k, hk⟩ : ∃ k, n - m = k + 8 := ⟨n - m - 8, by simp at g; omega⟩
   rw [hk]
   conv=>whnf
   repeat (refine step_go [] ?_;conv=>whnf)
   generalize hX : u / 10 ^ m = X
   have hX2 : X < 18446744073709551616 := by rw [← hX]; exact Nat.lt_of_le_of_lt (Nat.div_le_self _ _) hu
   refine ⟨by decide, ?_⟩; rw [tm8 X]; conv=>whnf
   rw [w32N (a := X % 100000000) (by omega)]
   have hx : X % 100000000 < 100000000 := Nat.mod_lt _ (by omega)
   generalize hx0 : X % 100000000 = x at hx
   repeat (refine step_go [] ?_;conv=>whnf)
   refine ⟨by decide, ?_⟩; rw [td8 X, w64N (a := X / 100000000) (by omega)]; conv=>whnf
   repeat (refine step_go [] ?_;conv=>whnf)
   refine ⟨by decide, ?_⟩; rw [td4 x, w32N (a := x / 10000) (by omega)]; conv=>whnf
   refine ⟨by decide, ?_⟩; rw [tm4 x]; conv=>whnf
   have hh : x / 10000 < 10000 := by omega
   have hy : x % 10000 < 10000 := by omega
   generalize hh0 : x / 10000 = hi at hh
   generalize hy0 : x % 10000 = y at hy
   repeat (refine step_go [] ?_;conv=>whnf)
   refine ⟨by decide, ?_⟩; rw [td2 y, w32N (a := y / 100) (by omega)]; conv=>whnf
   rw [m32N (a := y / 100) (by omega)]
   refine ⟨by decide, ?_⟩; rw [tm2 y]; conv=>whnf
   rw [m32N (a := y % 100) (by omega)]
   repeat (refine step_go [] ?_;conv=>whnf)
   refine ⟨by decide, ?_⟩; rw [td2 hi, w32N (a := hi / 100) (by omega)]; conv=>whnf
   rw [m32N (a := hi / 100) (by omega)]
   refine ⟨by decide, ?_⟩; rw [tm2 hi]; conv=>whnf
   rw [m32N (a := hi % 100) (by omega)]
   repeat (refine step_go [] ?_;conv=>whnf)
   refine ⟨by decide +kernel, ?_⟩; conv=>whnf
   refine idx_str (x := 48 + ((X % 10 : Nat) : Int)) (by rw [a32N (a := (y % 100) * 2) (by omega)]; omega) (by rw [a32N (a := (y % 100) * 2) (by omega), Int.toNat_natCast, tabs 200 sm (by decide +kernel) _ (by omega), sm_lo]; congr 2; omega) fun c hc => ?_
   rw [hc]; conv=>whnf
   refine idx_str (x := 48 + ((X / 10 % 10 : Nat) : Int)) (by omega) (by rw [Int.toNat_natCast, tabs 200 sm (by decide +kernel) _ (by omega), sm_hi _ (by omega)]; congr 2; omega) fun c hc => ?_
   rw [hc]; conv=>whnf
   rw [s64 (k := (k + 6) + 1) (by omega) (by omega)]
   refine ⟨by omega, by omega, ?_⟩; conv=>whnf
   rw [Int.toNat_natCast, show fr l (lo + (k + 8)) = fr l (lo + ((k + 6) + 1) + 1) from rfl]
   refine ⟨_, fr_get (l := l) (p := lo + ((k + 6) + 1)) (by omega), ?_⟩; conv=>whnf
   rw [fr_set (l := l) (p := lo + ((k + 6) + 1)) _ _ (by omega)]
   refine idx_str (x := 48 + ((X / 10 % 10 : Nat) : Int)) (by omega) (by rw [Int.toNat_natCast, tabs 200 sm (by decide +kernel) _ (by omega), sm_hi _ (by omega)]; congr 2; omega) fun c hc => ?_
   refine And.intro (by rw [hc]) ?_; conv=>whnf
   repeat (refine And.intro rfl ?_;conv=>whnf)
   rw [s64 (k := (k + 6)) (by omega) (by omega)]
   refine ⟨by omega, by omega, ?_⟩; conv=>whnf
   rw [Int.toNat_natCast, show fr l (lo + ((k + 6) + 1)) = fr l (lo + ((k + 6)) + 1) from rfl]
   refine ⟨_, fr_get (l := l) (p := lo + ((k + 6))) (by omega), ?_⟩; conv=>whnf
   rw [fr_set (l := l) (p := lo + ((k + 6))) _ _ (by omega)]
   repeat (refine step_go [] ?_;conv=>whnf)
   refine ⟨by decide +kernel, ?_⟩; conv=>whnf
   refine idx_str (x := 48 + ((X / 100 % 10 : Nat) : Int)) (by rw [a32N (a := (y / 100) * 2) (by omega)]; omega) (by rw [a32N (a := (y / 100) * 2) (by omega), Int.toNat_natCast, tabs 200 sm (by decide +kernel) _ (by omega), sm_lo]; congr 2; omega) fun c hc => ?_
   rw [hc]; conv=>whnf
   refine idx_str (x := 48 + ((X / 1000 % 10 : Nat) : Int)) (by omega) (by rw [Int.toNat_natCast, tabs 200 sm (by decide +kernel) _ (by omega), sm_hi _ (by omega)]; congr 2; omega) fun c hc => ?_
   rw [hc]; conv=>whnf
   rw [s64 (k := (k + 4) + 1) (by omega) (by omega)]
   refine ⟨by omega, by omega, ?_⟩; conv=>whnf
   rw [Int.toNat_natCast, show fr l (lo + (k + 6)) = fr l (lo + ((k + 4) + 1) + 1) from rfl]
   refine ⟨_, fr_get (l := l) (p := lo + ((k + 4) + 1)) (by omega), ?_⟩; conv=>whnf
   rw [fr_set (l := l) (p := lo + ((k + 4) + 1)) _ _ (by omega)]
   refine idx_str (x := 48 + ((X / 1000 % 10 : Nat) : Int)) (by omega) (by rw [Int.toNat_natCast, tabs 200 sm (by decide +kernel) _ (by omega), sm_hi _ (by omega)]; congr 2; omega) fun c hc => ?_
   refine And.intro (by rw [hc]) ?_; conv=>whnf
   repeat (refine And.intro rfl ?_;conv=>whnf)
   rw [s64 (k := (k + 4)) (by omega) (by omega)]
   refine ⟨by omega, by omega, ?_⟩; conv=>whnf
   rw [Int.toNat_natCast, show fr l (lo + ((k + 4) + 1)) = fr l (lo + ((k + 4)) + 1) from rfl]
   refine ⟨_, fr_get (l := l) (p := lo + ((k + 4))) (by omega), ?_⟩; conv=>whnf
   rw [fr_set (l := l) (p := lo + ((k + 4))) _ _ (by omega)]
   repeat (refine step_go [] ?_;conv=>whnf)
   refine ⟨by decide +kernel, ?_⟩; conv=>whnf
   refine idx_str (x := 48 + ((X / 10000 % 10 : Nat) : Int)) (by rw [a32N (a := (hi % 100) * 2) (by omega)]; omega) (by rw [a32N (a := (hi % 100) * 2) (by omega), Int.toNat_natCast, tabs 200 sm (by decide +kernel) _ (by omega), sm_lo]; congr 2; omega) fun c hc => ?_
   rw [hc]; conv=>whnf
   refine idx_str (x := 48 + ((X / 100000 % 10 : Nat) : Int)) (by omega) (by rw [Int.toNat_natCast, tabs 200 sm (by decide +kernel) _ (by omega), sm_hi _ (by omega)]; congr 2; omega) fun c hc => ?_
   rw [hc]; conv=>whnf
   rw [s64 (k := (k + 2) + 1) (by omega) (by omega)]
   refine ⟨by omega, by omega, ?_⟩; conv=>whnf
   rw [Int.toNat_natCast, show fr l (lo + (k + 4)) = fr l (lo + ((k + 2) + 1) + 1) from rfl]
   refine ⟨_, fr_get (l := l) (p := lo + ((k + 2) + 1)) (by omega), ?_⟩; conv=>whnf
   rw [fr_set (l := l) (p := lo + ((k + 2) + 1)) _ _ (by omega)]
   refine idx_str (x := 48 + ((X / 100000 % 10 : Nat) : Int)) (by omega) (by rw [Int.toNat_natCast, tabs 200 sm (by decide +kernel) _ (by omega), sm_hi _ (by omega)]; congr 2; omega) fun c hc => ?_
   refine And.intro (by rw [hc]) ?_; conv=>whnf
   repeat (refine And.intro rfl ?_;conv=>whnf)
   rw [s64 (k := (k + 2)) (by omega) (by omega)]
   refine ⟨by omega, by omega, ?_⟩; conv=>whnf
   rw [Int.toNat_natCast, show fr l (lo + ((k + 2) + 1)) = fr l (lo + ((k + 2)) + 1) from rfl]
   refine ⟨_, fr_get (l := l) (p := lo + ((k + 2))) (by omega), ?_⟩; conv=>whnf
   rw [fr_set (l := l) (p := lo + ((k + 2))) _ _ (by omega)]
   repeat (refine step_go [] ?_;conv=>whnf)
   refine ⟨by decide +kernel, ?_⟩; conv=>whnf
   refine idx_str (x := 48 + ((X / 1000000 % 10 : Nat) : Int)) (by rw [a32N (a := (hi / 100) * 2) (by omega)]; omega) (by rw [a32N (a := (hi / 100) * 2) (by omega), Int.toNat_natCast, tabs 200 sm (by decide +kernel) _ (by omega), sm_lo]; congr 2; omega) fun c hc => ?_
   rw [hc]; conv=>whnf
   refine idx_str (x := 48 + ((X / 10000000 % 10 : Nat) : Int)) (by omega) (by rw [Int.toNat_natCast, tabs 200 sm (by decide +kernel) _ (by omega), sm_hi _ (by omega)]; congr 2; omega) fun c hc => ?_
   rw [hc]; conv=>whnf
   rw [s64 (k := k + 1) (by omega) (by omega)]
   refine ⟨by omega, by omega, ?_⟩; conv=>whnf
   rw [Int.toNat_natCast, show fr l (lo + (k + 2)) = fr l (lo + (k + 1) + 1) from rfl]
   refine ⟨_, fr_get (l := l) (p := lo + (k + 1)) (by omega), ?_⟩; conv=>whnf
   rw [fr_set (l := l) (p := lo + (k + 1)) _ _ (by omega)]
   refine idx_str (x := 48 + ((X / 10000000 % 10 : Nat) : Int)) (by omega) (by rw [Int.toNat_natCast, tabs 200 sm (by decide +kernel) _ (by omega), sm_hi _ (by omega)]; congr 2; omega) fun c hc => ?_
   refine And.intro (by rw [hc]) ?_; conv=>whnf
   repeat (refine And.intro rfl ?_;conv=>whnf)
   rw [s64 (k := k) (by omega) (by omega)]
   refine ⟨by omega, by omega, ?_⟩; conv=>whnf
   rw [Int.toNat_natCast, show fr l (lo + (k + 1)) = fr l (lo + (k) + 1) from rfl]
   refine ⟨_, fr_get (l := l) (p := lo + (k)) (by omega), ?_⟩; conv=>whnf
   rw [fr_set (l := l) (p := lo + (k)) _ _ (by omega)]
   repeat (refine step_go [] ?_;conv=>whnf)
   rw [s64 (k := k) (by omega) (by omega)]
   refine ⟨S (m + 8), weak_of ?_ (.cons (.eq ?_) .nil) rfl rfl rfl, ih (m + 8) (by omega) (by omega)⟩
   · repeat' first
      | exact VWs.nil
      | refine VWs.cons VW.undef ?_
      | refine VWs.cons (VW.eq rfl) ?_
      | refine VWs.cons (VW.eq (congrArg (V.int .u64) (by rw [← hX, Nat.div_div_eq_div_mul, Nat.pow_add]))) ?_
      | refine VWs.cons (VW.eq (congrArg (V.int .i64) (by omega))) ?_
   · refine congrArg (fun x => VObj.buf false 1 (bL x)) ?_
     rw [show n - (m + 8) = k by omega, Nat.add_comm m 8, dgw_split, hX]
     simp only [dgw, List.nil_append, List.cons_append, List.append_assoc, fr]
     congr 1
     simp only [List.cons.injEq, and_true]
     omega
 have g : n - m < 8 := by simp at g; omega
 clear ih
 conv=>whnf
 refine ⟨_, Weak.refl, ?_⟩; conv=>whnf
 repeat (refine step_go [] ?_;conv=>whnf)
 have hX3 : u / 10 ^ m < 10 ^ (n - m) := by
  refine Nat.div_lt_of_lt_mul ?_
  rw [← Nat.pow_add, show m + (n - m) = n by omega]; exact hun
 have hX4 : u / 10 ^ m < 10000000 := Nat.lt_of_lt_of_le hX3 (Nat.pow_le_pow_right (n := 10) (by omega) (show n - m <= 7 by omega))
 generalize hX : u / 10 ^ m = X at *
 rw [w32N (a := X) (by omega)]
 clear S
 refine two (fun g4 => ?_) (fun g4 => ?_)
 · obtain ⟨k, hk⟩ : ∃ k, n - m = k + 4 := ⟨n - m - 4, by simp at g4; omega⟩
   rw [hk]; conv=>whnf
   repeat (refine step_go [] ?_;conv=>whnf)
   refine ⟨by decide, ?_⟩; rw [tm4 X]; conv=>whnf
   repeat (refine step_go [] ?_;conv=>whnf)
   refine ⟨by decide, ?_⟩; rw [td4 X, w32N (a := X / 10000) (by omega)]; conv=>whnf
   repeat (refine step_go [] ?_;conv=>whnf)
   have hy : X % 10000 < 10000 := by omega
   generalize hy0 : X % 10000 = y at hy
   refine ⟨by decide, ?_⟩; rw [td2 y, w32N (a := y / 100) (by omega)]; conv=>whnf
   rw [m32N (a := y / 100) (by omega)]
   refine ⟨by decide, ?_⟩; rw [tm2 y]; conv=>whnf
   rw [m32N (a := y % 100) (by omega)]
   repeat (refine step_go [] ?_;conv=>whnf)
   refine ⟨by decide +kernel, ?_⟩; conv=>whnf
   refine idx_str (x := 48 + ((X % 10 : Nat) : Int)) (by rw [a32N (a := (y % 100) * 2) (by omega)]; omega) (by rw [a32N (a := (y % 100) * 2) (by omega), Int.toNat_natCast, tabs 200 sm (by decide +kernel) _ (by omega), sm_lo]; congr 2; omega) fun c hc => ?_
   rw [hc]; conv=>whnf
   refine idx_str (x := 48 + ((X / 10 % 10 : Nat) : Int)) (by omega) (by rw [Int.toNat_natCast, tabs 200 sm (by decide +kernel) _ (by omega), sm_hi _ (by omega)]; congr 2; omega) fun c hc => ?_
   rw [hc]; conv=>whnf
   rw [s64 (k := (k + 2) + 1) (by omega) (by omega)]
   refine ⟨by omega, by omega, ?_⟩; conv=>whnf
   rw [Int.toNat_natCast, show fr l (lo + (k + 4)) = fr l (lo + ((k + 2) + 1) + 1) from rfl]
   refine ⟨_, fr_get (l := l) (p := lo + ((k + 2) + 1)) (by omega), ?_⟩; conv=>whnf
   rw [fr_set (l := l) (p := lo + ((k + 2) + 1)) _ _ (by omega)]
   refine idx_str (x := 48 + ((X / 10 % 10 : Nat) : Int)) (by omega) (by rw [Int.toNat_natCast, tabs 200 sm (by decide +kernel) _ (by omega), sm_hi _ (by omega)]; congr 2; omega) fun c hc => ?_
   refine And.intro (by rw [hc]) ?_; conv=>whnf
   repeat (refine And.intro rfl ?_;conv=>whnf)
   rw [s64 (k := (k + 2)) (by omega) (by omega)]
   refine ⟨by omega, by omega, ?_⟩; conv=>whnf
   rw [Int.toNat_natCast, show fr l (lo + ((k + 2) + 1)) = fr l (lo + ((k + 2)) + 1) from rfl]
   refine ⟨_, fr_get (l := l) (p := lo + ((k + 2))) (by omega), ?_⟩; conv=>whnf
   rw [fr_set (l := l) (p := lo + ((k + 2))) _ _ (by omega)]
   repeat (refine step_go [] ?_;conv=>whnf)
   refine ⟨by decide +kernel, ?_⟩; conv=>whnf
   refine idx_str (x := 48 + ((X / 100 % 10 : Nat) : Int)) (by rw [a32N (a := (y / 100) * 2) (by omega)]; omega) (by rw [a32N (a := (y / 100) * 2) (by omega), Int.toNat_natCast, tabs 200 sm (by decide +kernel) _ (by omega), sm_lo]; congr 2; omega) fun c hc => ?_
   rw [hc]; conv=>whnf
   refine idx_str (x := 48 + ((X / 1000 % 10 : Nat) : Int)) (by omega) (by rw [Int.toNat_natCast, tabs 200 sm (by decide +kernel) _ (by omega), sm_hi _ (by omega)]; congr 2; omega) fun c hc => ?_
   rw [hc]; conv=>whnf
   rw [s64 (k := k + 1) (by omega) (by omega)]
   refine ⟨by omega, by omega, ?_⟩; conv=>whnf
   rw [Int.toNat_natCast, show fr l (lo + (k + 2)) = fr l (lo + (k + 1) + 1) from rfl]
   refine ⟨_, fr_get (l := l) (p := lo + (k + 1)) (by omega), ?_⟩; conv=>whnf
   rw [fr_set (l := l) (p := lo + (k + 1)) _ _ (by omega)]
   refine idx_str (x := 48 + ((X / 1000 % 10 : Nat) : Int)) (by omega) (by rw [Int.toNat_natCast, tabs 200 sm (by decide +kernel) _ (by omega), sm_hi _ (by omega)]; congr 2; omega) fun c hc => ?_
   refine And.intro (by rw [hc]) ?_; conv=>whnf
   repeat (refine And.intro rfl ?_;conv=>whnf)
   rw [s64 (k := k) (by omega) (by omega)]
   refine ⟨by omega, by omega, ?_⟩; conv=>whnf
   rw [Int.toNat_natCast, show fr l (lo + (k + 1)) = fr l (lo + (k) + 1) from rfl]
   refine ⟨_, fr_get (l := l) (p := lo + (k)) (by omega), ?_⟩; conv=>whnf
   rw [fr_set (l := l) (p := lo + (k)) _ _ (by omega)]
   repeat (refine step_go [] ?_;conv=>whnf)
   rw [s64 (k := k) (by omega) (by omega)]
   repeat (refine step_go [] ?_;conv=>whnf)
   refine two (fun g2 => ?_) (fun g2 => ?_)
   · obtain ⟨k2, hk2⟩ : ∃ k2, k = k2 + 2 := ⟨k - 2, by simp at g2; omega⟩
     rw [hk2]; conv=>whnf
     repeat (refine step_go [] ?_;conv=>whnf)
     refine ⟨by decide, ?_⟩; rw [tm2 (X / 10000)]; conv=>whnf
     rw [m32N (a := X / 10000 % 100) (by omega)]
     repeat (refine step_go [] ?_;conv=>whnf)
     refine ⟨by decide, ?_⟩; rw [td2 (X / 10000), w32N (a := X / 10000 / 100) (by omega)]; conv=>whnf
     repeat (refine step_go [] ?_;conv=>whnf)
     refine ⟨by decide +kernel, ?_⟩; conv=>whnf
     refine idx_str (x := 48 + ((X / 10000 % 10 : Nat) : Int)) (by rw [a32N (a := (X / 10000 % 100) * 2) (by omega)]; omega) (by rw [a32N (a := (X / 10000 % 100) * 2) (by omega), Int.toNat_natCast, tabs 200 sm (by decide +kernel) _ (by omega), sm_lo]; congr 2; omega) fun c hc => ?_
     rw [hc]; conv=>whnf
     refine idx_str (x := 48 + ((X / 10000 / 10 % 10 : Nat) : Int)) (by omega) (by rw [Int.toNat_natCast, tabs 200 sm (by decide +kernel) _ (by omega), sm_hi _ (by omega)]; congr 2; omega) fun c hc => ?_
     rw [hc]; conv=>whnf
     rw [s64 (k := k2 + 1) (by omega) (by omega)]
     refine ⟨by omega, by omega, ?_⟩; conv=>whnf
     rw [Int.toNat_natCast, show fr l (lo + (k2 + 2)) = fr l (lo + (k2 + 1) + 1) from rfl]
     refine ⟨_, fr_get (l := l) (p := lo + (k2 + 1)) (by omega), ?_⟩; conv=>whnf
     rw [fr_set (l := l) (p := lo + (k2 + 1)) _ _ (by omega)]
     refine idx_str (x := 48 + ((X / 10000 / 10 % 10 : Nat) : Int)) (by omega) (by rw [Int.toNat_natCast, tabs 200 sm (by decide +kernel) _ (by omega), sm_hi _ (by omega)]; congr 2; omega) fun c hc => ?_
     refine And.intro (by rw [hc]) ?_; conv=>whnf
     repeat (refine And.intro rfl ?_;conv=>whnf)
     rw [s64 (k := k2) (by omega) (by omega)]
     refine ⟨by omega, by omega, ?_⟩; conv=>whnf
     rw [Int.toNat_natCast, show fr l (lo + (k2 + 1)) = fr l (lo + (k2) + 1) from rfl]
     refine ⟨_, fr_get (l := l) (p := lo + (k2)) (by omega), ?_⟩; conv=>whnf
     rw [fr_set (l := l) (p := lo + (k2)) _ _ (by omega)]
     repeat (refine step_go [] ?_;conv=>whnf)
     rw [s64 (k := k2) (by omega) (by omega)]
     repeat (refine step_go [] ?_;conv=>whnf)
     refine two (fun g1 => ?_) (fun g1 => ?_)
     · have e1 : k2 = 1 := by simp at g1; omega
       have hX9 : X / 10000 / 100 < 10 := by
        have := hX3
        rw [show n - m = 7 by omega] at this
        omega
       rw [e1]; conv=>whnf
       repeat (refine step_go [] ?_;conv=>whnf)
       rw [show IntKind.u32.wrap (48 + ((X / 10000 / 100 : Nat) : Int)) = 48 + ((X / 10000 / 100 : Nat) : Int) from wrapu32 (by omega) (by omega), show IntKind.u8.wrap (48 + ((X / 10000 / 100 : Nat) : Int)) = 48 + ((X / 10000 / 100 : Nat) : Int) by rw [wrapu8]; omega]
       refine ⟨by omega, by omega, ?_⟩; conv=>whnf
       rw [Int.toNat_zero]
       refine ⟨_, fr_get (l := l) (p := lo + 0) (by omega), ?_⟩; conv=>whnf
       rw [show fr l (lo + 1) = fr l (lo + 0 + 1) from rfl, fr_set (l := l) (p := lo + 0) _ _ (by omega)]
       repeat (refine step_go [] ?_;conv=>whnf)
       refine Eq.mp (congrArg (fun x => K (Out.ret (V.tup [])) [VObj.buf false 1 (bL x)]) ?_) h
       rw [show n = 7 + m by omega, dgw_split, hX]
       simp only [dgw, List.nil_append, List.cons_append, List.append_assoc, fr]
       congr 1 <;> simp only [List.cons.injEq, and_true] <;> omega
     · have e1 : k2 = 0 := by simp at g1; omega
       rw [e1]; conv=>whnf
       repeat (refine step_go [] ?_;conv=>whnf)
       refine Eq.mp (congrArg (fun x => K (Out.ret (V.tup [])) [VObj.buf false 1 (bL x)]) ?_) h
       rw [show n = 6 + m by omega, dgw_split, hX]
       simp only [dgw, List.nil_append, List.cons_append, List.append_assoc, fr]
       congr 1 <;> simp only [List.cons.injEq, and_true] <;> omega
   · have g2 : k < 2 := by simp at g2; omega
     conv=>whnf
     repeat (refine step_go [] ?_;conv=>whnf)
     refine two (fun g1 => ?_) (fun g1 => ?_)
     · have e1 : k = 1 := by simp at g1; omega
       have hX9 : X / 10000 < 10 := by
        have := hX3
        rw [show n - m = 5 by omega] at this
        omega
       rw [e1]; conv=>whnf
       repeat (refine step_go [] ?_;conv=>whnf)
       rw [show IntKind.u32.wrap (48 + ((X / 10000 : Nat) : Int)) = 48 + ((X / 10000 : Nat) : Int) from wrapu32 (by omega) (by omega), show IntKind.u8.wrap (48 + ((X / 10000 : Nat) : Int)) = 48 + ((X / 10000 : Nat) : Int) by rw [wrapu8]; omega]
       refine ⟨by omega, by omega, ?_⟩; conv=>whnf
       rw [Int.toNat_zero]
       refine ⟨_, fr_get (l := l) (p := lo + 0) (by omega), ?_⟩; conv=>whnf
       rw [show fr l (lo + 1) = fr l (lo + 0 + 1) from rfl, fr_set (l := l) (p := lo + 0) _ _ (by omega)]
       repeat (refine step_go [] ?_;conv=>whnf)
       refine Eq.mp (congrArg (fun x => K (Out.ret (V.tup [])) [VObj.buf false 1 (bL x)]) ?_) h
       rw [show n = 5 + m by omega, dgw_split, hX]
       simp only [dgw, List.nil_append, List.cons_append, List.append_assoc, fr]
       congr 1 <;> simp only [List.cons.injEq, and_true] <;> omega
     · have e1 : k = 0 := by simp at g1; omega
       rw [e1]; conv=>whnf
       repeat (refine step_go [] ?_;conv=>whnf)
       refine Eq.mp (congrArg (fun x => K (Out.ret (V.tup [])) [VObj.buf false 1 (bL x)]) ?_) h
       rw [show n = 4 + m by omega, dgw_split, hX]
       simp only [dgw, List.nil_append, List.cons_append, List.append_assoc, fr]
       congr 1 <;> simp only [List.cons.injEq, and_true] <;> omega
 · have g4 : n - m < 4 := by simp at g4; omega
   conv=>whnf
   repeat (refine step_go [] ?_;conv=>whnf)
   refine two (fun g2 => ?_) (fun g2 => ?_)
   · obtain ⟨k2, hk2⟩ : ∃ k2, (n - m) = k2 + 2 := ⟨(n - m) - 2, by simp at g2; omega⟩
     rw [hk2]; conv=>whnf
     repeat (refine step_go [] ?_;conv=>whnf)
     refine ⟨by decide, ?_⟩; rw [tm2 (X)]; conv=>whnf
     rw [m32N (a := X % 100) (by omega)]
     repeat (refine step_go [] ?_;conv=>whnf)
     refine ⟨by decide, ?_⟩; rw [td2 (X), w32N (a := X / 100) (by omega)]; conv=>whnf
     repeat (refine step_go [] ?_;conv=>whnf)
     refine ⟨by decide +kernel, ?_⟩; conv=>whnf
     refine idx_str (x := 48 + ((X % 10 : Nat) : Int)) (by rw [a32N (a := (X % 100) * 2) (by omega)]; omega) (by rw [a32N (a := (X % 100) * 2) (by omega), Int.toNat_natCast, tabs 200 sm (by decide +kernel) _ (by omega), sm_lo]; congr 2; omega) fun c hc => ?_
     rw [hc]; conv=>whnf
     refine idx_str (x := 48 + ((X / 10 % 10 : Nat) : Int)) (by omega) (by rw [Int.toNat_natCast, tabs 200 sm (by decide +kernel) _ (by omega), sm_hi _ (by omega)]; congr 2; omega) fun c hc => ?_
     rw [hc]; conv=>whnf
     rw [s64 (k := k2 + 1) (by omega) (by omega)]
     refine ⟨by omega, by omega, ?_⟩; conv=>whnf
     rw [Int.toNat_natCast, show fr l (lo + (k2 + 2)) = fr l (lo + (k2 + 1) + 1) from rfl]
     refine ⟨_, fr_get (l := l) (p := lo + (k2 + 1)) (by omega), ?_⟩; conv=>whnf
     rw [fr_set (l := l) (p := lo + (k2 + 1)) _ _ (by omega)]
     refine idx_str (x := 48 + ((X / 10 % 10 : Nat) : Int)) (by omega) (by rw [Int.toNat_natCast, tabs 200 sm (by decide +kernel) _ (by omega), sm_hi _ (by omega)]; congr 2; omega) fun c hc => ?_
     refine And.intro (by rw [hc]) ?_; conv=>whnf
     repeat (refine And.intro rfl ?_;conv=>whnf)
     rw [s64 (k := k2) (by omega) (by omega)]
     refine ⟨by omega, by omega, ?_⟩; conv=>whnf
     rw [Int.toNat_natCast, show fr l (lo + (k2 + 1)) = fr l (lo + (k2) + 1) from rfl]
     refine ⟨_, fr_get (l := l) (p := lo + (k2)) (by omega), ?_⟩; conv=>whnf
     rw [fr_set (l := l) (p := lo + (k2)) _ _ (by omega)]
     repeat (refine step_go [] ?_;conv=>whnf)
     rw [s64 (k := k2) (by omega) (by omega)]
     repeat (refine step_go [] ?_;conv=>whnf)
     refine two (fun g1 => ?_) (fun g1 => ?_)
     · have e1 : k2 = 1 := by simp at g1; omega
       have hX9 : X / 100 < 10 := by
        have := hX3
        rw [show n - m = 3 by omega] at this
        omega
       rw [e1]; conv=>whnf
       repeat (refine step_go [] ?_;conv=>whnf)
       rw [show IntKind.u32.wrap (48 + ((X / 100 : Nat) : Int)) = 48 + ((X / 100 : Nat) : Int) from wrapu32 (by omega) (by omega), show IntKind.u8.wrap (48 + ((X / 100 : Nat) : Int)) = 48 + ((X / 100 : Nat) : Int) by rw [wrapu8]; omega]
       refine ⟨by omega, by omega, ?_⟩; conv=>whnf
       rw [Int.toNat_zero]
       refine ⟨_, fr_get (l := l) (p := lo + 0) (by omega), ?_⟩; conv=>whnf
       rw [show fr l (lo + 1) = fr l (lo + 0 + 1) from rfl, fr_set (l := l) (p := lo + 0) _ _ (by omega)]
       repeat (refine step_go [] ?_;conv=>whnf)
       refine Eq.mp (congrArg (fun x => K (Out.ret (V.tup [])) [VObj.buf false 1 (bL x)]) ?_) h
       rw [show n = 3 + m by omega, dgw_split, hX]
       simp only [dgw, List.nil_append, List.cons_append, List.append_assoc, fr]
       congr 1 <;> simp only [List.cons.injEq, and_true] <;> omega
     · have e1 : k2 = 0 := by simp at g1; omega
       rw [e1]; conv=>whnf
       repeat (refine step_go [] ?_;conv=>whnf)
       refine Eq.mp (congrArg (fun x => K (Out.ret (V.tup [])) [VObj.buf false 1 (bL x)]) ?_) h
       rw [show n = 2 + m by omega, dgw_split, hX]
       simp only [dgw, List.nil_append, List.cons_append, List.append_assoc, fr]
       congr 1 <;> simp only [List.cons.injEq, and_true] <;> omega
   · have g2 : (n - m) < 2 := by simp at g2; omega
     conv=>whnf
     repeat (refine step_go [] ?_;conv=>whnf)
     refine two (fun g1 => ?_) (fun g1 => ?_)
     · have e1 : (n - m) = 1 := by simp at g1; omega
       have hX9 : X < 10 := by
        have := hX3
        rw [show n - m = 1 by omega] at this
        omega
       rw [e1]; conv=>whnf
       repeat (refine step_go [] ?_;conv=>whnf)
       rw [show IntKind.u32.wrap (48 + ((X : Nat) : Int)) = 48 + ((X : Nat) : Int) from wrapu32 (by omega) (by omega), show IntKind.u8.wrap (48 + ((X : Nat) : Int)) = 48 + ((X : Nat) : Int) by rw [wrapu8]; omega]
       refine ⟨by omega, by omega, ?_⟩; conv=>whnf
       rw [Int.toNat_zero]
       refine ⟨_, fr_get (l := l) (p := lo + 0) (by omega), ?_⟩; conv=>whnf
       rw [show fr l (lo + 1) = fr l (lo + 0 + 1) from rfl, fr_set (l := l) (p := lo + 0) _ _ (by omega)]
       repeat (refine step_go [] ?_;conv=>whnf)
       refine Eq.mp (congrArg (fun x => K (Out.ret (V.tup [])) [VObj.buf false 1 (bL x)]) ?_) h
       rw [show n = 1 + m by omega, dgw_split, hX]
       simp only [dgw, List.nil_append, List.cons_append, List.append_assoc, fr]
       congr 1 <;> simp only [List.cons.injEq, and_true] <;> omega
     · have e1 : (n - m) = 0 := by simp at g1; omega
       rw [e1]; conv=>whnf
       repeat (refine step_go [] ?_;conv=>whnf)
       refine Eq.mp (congrArg (fun x => K (Out.ret (V.tup [])) [VObj.buf false 1 (bL x)]) ?_) h
       rw [show n = 0 + m by omega, dgw_split, hX]
       simp only [dgw, List.nil_append, List.cons_append, List.append_assoc, fr]
       rfl
end B4

namespace B5
open Go Go.Proofs VL B1 D1 B2 B3 B4
theorem c_small (n : Nat) (h : n < 100) (K) (hk : K (.ret (.str (toBA (dg n)))) []) : VCall Tryz.prog 134 [.int .i64 (n : Int)] [] K := by
 refine call_fun [] 0 Tryz.func134 (by rfl) (by rfl) ?_
 conv=>whnf
 repeat (refine step_go [] ?_;conv=>whnf)
 refine two (fun g => ?_) (fun g => ?_)
 · have g : n < 10 := by simp at g; omega
   conv=>whnf
   repeat (refine step_go [] ?_;conv=>whnf)
   refine ⟨by omega, by rw [wrap64 (by omega) (by omega)]; omega, ?_, ?_⟩
   · rw [wrap64 (by omega) (by omega)]
     refine Int.le_trans (b := 36) (by omega) ?_
     decide +kernel
   conv=>whnf
   repeat (refine step_go [] ?_;conv=>whnf)
   refine Eq.mp (congrArg (fun x => K (Out.ret (V.str x)) []) ?_) hk
   rw [wrap64 (by omega) (by omega)]
   apply sB_inj
   rw [sB_toBA (dg_byte n), sB_ext, dg_small g]
   have : n = 0 \/ n = 1 \/ n = 2 \/ n = 3 \/ n = 4 \/ n = 5 \/ n = 6 \/ n = 7 \/ n = 8 \/ n = 9 := by omega
   rcases this with rfl | rfl | rfl | rfl | rfl | rfl | rfl | rfl | rfl | rfl <;> decide +kernel
 · have g : 10 <= n := by simp at g; omega
   conv=>whnf
   repeat (refine step_go [] ?_;conv=>whnf)
   have w1 : IntKind.i64.wrap ((n : Int) * 2) = ((n * 2 : Nat) : Int) := by rw [wrap64 (by omega) (by omega)]; omega
   have w2 : IntKind.i64.wrap (((n * 2 : Nat) : Int) + 2) = ((n * 2 + 2 : Nat) : Int) := by rw [wrap64 (by omega) (by omega)]; omega
   rw [w1, w2]
   refine ⟨by omega, by omega, ?_, ?_⟩
   · refine Int.le_trans (b := 200) (by omega) ?_
     decide +kernel
   conv=>whnf
   repeat (refine step_go [] ?_;conv=>whnf)
   refine Eq.mp (congrArg (fun x => K (Out.ret (V.str x)) []) ?_) hk
   apply sB_inj
   rw [sB_toBA (dg_byte n), sB_ext, dg_big g, dg_small (by omega)]
   apply List.ext_getElem?
   intro i
   rw [Int.toNat_natCast, Int.toNat_natCast, List.getElem?_drop, List.getElem?_take]
   match i with
   | 0 =>
     rw [if_pos (by omega), tabs 200 sm (by decide +kernel) _ (by omega), Nat.add_zero, sm_hi n h]
     simp; omega
   | 1 =>
     rw [if_pos (by omega), tabs 200 sm (by decide +kernel) _ (by omega), sm_lo]
     simp
   | i + 2 =>
     rw [if_neg (by omega)]; simp
theorem dg_len20 {n : Nat} (h : n < 18446744073709551616) : (dg n).length <= 20 := dg_len_le 19 n (by omega)
theorem dg_pow (n : Nat) : n < 10 ^ (dg n).length := by
 have := vl_lt (dg n) (dg_dig n)
 rwa [vl_dg] at this
theorem dgw_dg (n : Nat) : dgw (dg n).length n = dg n := by
 have := dgw_vl (dg n) (dg_dig n)
 rwa [vl_dg] at this
theorem c_fu (n : Nat) (h : n < 18446744073709551616) (K) (hk : K (.ret (.str (toBA (dg n)))) []) : VCall Tryz.prog 138 [.int .u64 (n : Int), .int .i64 10] [] K := by
 have hl := dg_len20 h
 refine call_fun [5] 0 Tryz.func138 (by rfl) (by rfl) ?_
 conv=>whnf
 repeat (refine step_go [5] ?_;conv=>whnf)
 refine two (fun g => ?_) (fun g => ?_)
 · have g : n < 100 := by simp at g; omega
   conv=>whnf
   repeat (refine step_go [5] ?_;conv=>whnf)
   rw [wrap64 (by omega) (by omega)]
   refine c_small n g _ ?_; conv=>whnf
   repeat (refine step_go [5] ?_;conv=>whnf)
   exact hk
 · have g : 100 <= n := by simp at g; omega
   conv=>whnf
   repeat (refine step_go [5] ?_;conv=>whnf)
   refine c_numDigits n (by omega) h _ ?_; conv=>whnf
   repeat (refine step_go [5] ?_;conv=>whnf)
   refine ⟨by omega, by omega, ?_⟩; conv=>whnf
   rw [Int.toNat_natCast]
   refine c_format (List.replicate 24 0) 0 (dg n).length 24 n (by simp; omega) (by simp) h hl (dg_pow n) _ ?_; conv=>whnf
   repeat (refine step_go [5] ?_;conv=>whnf)
   refine ⟨by omega, by omega, ?_⟩; conv=>whnf
   rw [Int.toNat_natCast, List.take_zero, List.nil_append]
   refine ⟨by simp [bL_len, dgw_len], toBA (dg n), ?_, ?_⟩
   · rw [← toBA_V (dg_byte n), dgw_dg]
     unfold bL
     rw [List.drop_zero, ← List.map_take, List.take_left]
   conv=>whnf
   repeat (refine step_go [5] ?_;conv=>whnf)
   exact hk
theorem c_fuo (n : Nat) (h : n < 18446744073709551616) (K) (hk : K (.ret (.str (toBA (dg n)))) []) : VCall Tryz.prog 108 [.int .u64 (n : Int), .int .i64 10] [] K := by
 refine call_fun [] 0 Tryz.func108 (by rfl) (by rfl) ?_
 conv=>whnf
 repeat (refine step_go [] ?_;conv=>whnf)
 refine c_fu n h _ ?_; conv=>whnf
 repeat (refine step_go [] ?_;conv=>whnf)
 exact hk
def dgi (v : Int) : List Int := if v < 0 then 45 :: dg (-v).toNat else dg v.toNat
theorem dgi_neg {v : Int} (h : v < 0) : dgi v = 45 :: dg (-v).toNat := by unfold dgi; rw [if_pos h]
theorem dgi_pos {v : Int} (h : 0 <= v) : dgi v = dg v.toNat := by unfold dgi; rw [if_neg (by omega)]
theorem wrapu64_neg {v : Int} (h1 : -9223372036854775808 <= v) (h2 : v < 0) : IntKind.u64.wrap v = v + 18446744073709551616 := by
 have : IntKind.u64.wrap v = v % 18446744073709551616 := by unfold IntKind.wrap; simp [IntKind.bits, IntKind.signed]
 omega
theorem tail_str {n k : Nat} {l : List Int} (hl : l.length = 24) (h : 1 + k <= 24) (hk : k = (dg n).length) (d : Int) :
 List.take (1 + k) (List.drop 0 ((bL (List.take 1 l ++ (dgw k n ++ l.drop (1 + k)))).set 0 (.int .u8 d))) = bL (d :: dg n) := by
 subst hk
 obtain ⟨x, m, rfl⟩ : ∃ x m, l = x :: m := by cases l with | nil => simp at hl | cons x m => exact ⟨x, m, rfl⟩
 rw [dgw_dg]
 simp only [List.take_succ_cons, List.take_zero, List.cons_append, List.nil_append, List.drop_zero, bL, List.map_cons, List.set_cons_zero]
 rw [Nat.add_comm 1, List.take_succ_cons, List.map_append]
 congr 1
 rw [show (dg n).length = (List.map (V.int .u8) (dg n)).length by simp, List.take_left]
theorem tail_str2 {n k : Nat} {l : List Int} (hl : l.length = 24) (h : 1 + k <= 24) (hk : k = (dg n).length) :
 List.take k (List.drop 1 (bL (List.take 1 l ++ (dgw k n ++ l.drop (1 + k))))) = bL (dg n) := by
 subst hk
 obtain ⟨x, m, rfl⟩ : ∃ x m, l = x :: m := by cases l with | nil => simp at hl | cons x m => exact ⟨x, m, rfl⟩
 rw [dgw_dg]
 simp only [List.take_succ_cons, List.take_zero, List.cons_append, List.nil_append, List.drop_succ_cons, List.drop_zero, bL, List.map_cons, List.map_append]
 rw [show (dg n).length = (List.map (V.int .u8) (dg n)).length by simp, List.take_left]
set_option maxHeartbeats 4000000 in
theorem c_fi (v : Int) (h1 : -9223372036854775808 <= v) (h2 : v < 9223372036854775808) (K) (hk : K (.ret (.str (toBA (dgi v)))) []) : VCall Tryz.prog 107 [.int .i64 v, .int .i64 10] [] K := by
 refine call_fun [5] 0 Tryz.func107 (by rfl) (by rfl) ?_; (conv=>whnf); (repeat (refine step_go [5] ?_;conv=>whnf))
 refine two (fun g => ?_) (fun g => ?_)
 · have g : 0 <= v := by simpa using g
   rw [dgi_pos g] at hk
   obtain ⟨n, rfl⟩ := Int.eq_ofNat_of_zero_le g
   rw [Int.toNat_natCast] at hk
   have hl := dg_len20 (n := n) (by omega)
   (conv=>whnf); (repeat (refine step_go [5] ?_;conv=>whnf))
   refine two (fun g2 => ?_) (fun g2 => ?_)
   · have g2 : n < 100 := by simp at g2; omega
     (conv=>whnf); (repeat (refine step_go [5] ?_;conv=>whnf))
     refine c_small n g2 _ ?_; (conv=>whnf); (repeat (refine step_go [5] ?_;conv=>whnf))
     exact hk
   · have g2 : 100 <= n := by simp at g2; omega
     (conv=>whnf); (repeat (refine step_go [5] ?_;conv=>whnf))
     rw [wrapu64 (x := (n : Int)) (by omega) (by omega)]
     refine c_numDigits n (by omega) (by omega) _ ?_; (conv=>whnf); (repeat (refine step_go [5] ?_;conv=>whnf))
     rw [show IntKind.i64.wrap (1 + ((dg n).length : Int)) = ((1 + (dg n).length : Nat) : Int) by rw [wrap64 (by omega) (by omega)]; omega]
     refine ⟨by omega, by omega, by omega, ?_⟩; conv=>whnf
     rw [show Int.toNat 1 = 1 from rfl, Int.toNat_natCast, Nat.add_sub_cancel_left]
     refine c_format (List.replicate 24 0) 1 (dg n).length (24 - 1) n (by simp; omega) (by simp) (by omega) hl (dg_pow n) _ ?_; (conv=>whnf); (repeat (refine step_go [5] ?_;conv=>whnf))
     rw [show IntKind.i64.wrap (1 + ((dg n).length : Int)) = ((1 + (dg n).length : Nat) : Int) by rw [wrap64 (by omega) (by omega)]; omega]
     refine ⟨by omega, by omega, by omega, ?_⟩; conv=>whnf
     rw [show Int.toNat 1 = 1 from rfl, Int.toNat_natCast, Nat.add_sub_cancel_left]
     refine ⟨by simp [bL_len, dgw_len]; omega, toBA (dg n), by rw [← toBA_V (dg_byte n)]; exact tail_str2 rfl (by omega) rfl, ?_⟩; (conv=>whnf); (repeat (refine step_go [5] ?_;conv=>whnf))
     exact hk
 · have g : v < 0 := by simp at g; omega
   rw [dgi_neg g] at hk
   obtain ⟨n, hn⟩ : ∃ n : Nat, v = -(n : Int) := ⟨(-v).toNat, by omega⟩
   have hn' : (-v).toNat = n := by omega
   rw [hn'] at hk
   have hl := dg_len20 (n := n) (by omega)
   (conv=>whnf); (repeat (refine step_go [5] ?_;conv=>whnf))
   rw [wrapu64_neg h1 g]
   refine yes (by simpa using g) ?_; (conv=>whnf); (repeat (refine step_go [5] ?_;conv=>whnf))
   rw [show IntKind.u64.wrap (0 - (v + 18446744073709551616)) = (n : Int) by
    have : ∀ x, IntKind.u64.wrap x = x % 18446744073709551616 := fun x => by unfold IntKind.wrap; simp [IntKind.bits, IntKind.signed]
    rw [this]; omega]
   refine c_numDigits n (by omega) (by omega) _ ?_; (conv=>whnf); (repeat (refine step_go [5] ?_;conv=>whnf))
   rw [show IntKind.i64.wrap (1 + ((dg n).length : Int)) = ((1 + (dg n).length : Nat) : Int) by rw [wrap64 (by omega) (by omega)]; omega]
   refine ⟨by omega, by omega, by omega, ?_⟩; conv=>whnf
   rw [show Int.toNat 1 = 1 from rfl, Int.toNat_natCast, Nat.add_sub_cancel_left]
   refine c_format (List.replicate 24 0) 1 (dg n).length (24 - 1) n (by simp; omega) (by simp) (by omega) hl (dg_pow n) _ ?_; (conv=>whnf); (repeat (refine step_go [5] ?_;conv=>whnf))
   refine yes (by simpa using g) ?_; (conv=>whnf); (repeat (refine step_go [5] ?_;conv=>whnf))
   refine ⟨by omega, by omega, ?_⟩; conv=>whnf
   rw [show Int.toNat 0 = 0 from rfl]
   refine ⟨.int .u8 0, rfl, ?_⟩; (conv=>whnf); (repeat (refine step_go [5] ?_;conv=>whnf))
   rw [show IntKind.i64.wrap (1 + ((dg n).length : Int)) = ((1 + (dg n).length : Nat) : Int) by rw [wrap64 (by omega) (by omega)]; omega]
   refine ⟨by omega, by omega, ?_⟩; conv=>whnf
   rw [Int.toNat_natCast]
   refine ⟨by simp [bL_len, dgw_len]; omega, toBA (45 :: dg n), ?_, ?_⟩
   · rw [← toBA_V (fun x hx => by
      rcases List.mem_cons.1 hx with rfl | hx
      · omega
      · exact dg_byte _ x hx)]
     exact tail_str rfl (by omega) rfl 45
   (conv=>whnf); (repeat (refine step_go [5] ?_;conv=>whnf))
   exact hk
theorem c_itoa (v : Int) (h1 : -9223372036854775808 <= v) (h2 : v < 9223372036854775808) (K) (hk : K (.ret (.str (toBA (dgi v)))) []) : VCall Tryz.prog 57 [.int .i64 v] [] K := by
 refine call_fun [] 0 Tryz.func57 (by rfl) (by rfl) ?_; (conv=>whnf); (repeat (refine step_go [] ?_;conv=>whnf))
 have h : VCall Tryz.prog 86 [.int .i64 v] [] fun o ob => o = .ret (.str (toBA (dgi v))) /\ ob = [] := by
  refine call_fun [] 0 Tryz.func86 (by rfl) (by rfl) ?_; (conv=>whnf); (repeat (refine step_go [] ?_;conv=>whnf))
  refine c_fi v h1 h2 _ ?_; (conv=>whnf); (repeat (refine step_go [] ?_;conv=>whnf))
  exact ⟨rfl, rfl⟩
 refine VCall.mono ?_ h
 rintro _ _ ⟨rfl, rfl⟩
 (conv=>whnf); (repeat (refine step_go [] ?_;conv=>whnf))
 exact hk
end B5

namespace B6
open Go Go.Proofs VL B1 D1 B2 B3 B4 B5
theorem and32 (n : Nat) (h : n < 18446744073709551616) : bitsV .and .u64 (n : Int) 4294967295 = ((n % 4294967296 : Nat) : Int) := by
 unfold bitsV
 simp only
 have e1 : (BitVec.ofInt IntKind.u64.bits (n : Int)).toNat = n := by
  rw [BitVec.toNat_ofInt]; show ((n : Int) % ((2 ^ 64 : Nat) : Int)).toNat = _; omega
 have e2 : (BitVec.ofInt IntKind.u64.bits 4294967295).toNat = 2 ^ 32 - 1 := by decide
 rw [BitVec.toNat_and, e1, e2, Nat.and_two_pow_sub_one_eq_mod]
 rw [w64N (by omega)]
theorem mul_u64 {a b : Nat} (h : a * b < 18446744073709551616) : IntKind.u64.wrap ((a : Int) * (b : Int)) = ((a * b : Nat) : Int) := by
 rw [← Int.natCast_mul, w64N h]
theorem add_u64 {a b : Nat} (h : a + b < 18446744073709551616) : IntKind.u64.wrap ((a : Int) + (b : Int)) = ((a + b : Nat) : Int) := by
 rw [← Int.natCast_add, w64N h]
theorem lo32 {a b : Nat} (ha : a < 4294967296) (hb : b < 4294967296) : a * b <= 18446744065119617025 :=
 Nat.le_trans (Nat.mul_le_mul (show a <= 4294967295 by omega) (show b <= 4294967295 by omega)) (by decide)
theorem mul_hi (a b : Nat) (ha : a < 18446744073709551616) (hb : b < 18446744073709551616) :
 let t := a / 4294967296 * (b % 4294967296) + a % 4294967296 * (b % 4294967296) / 4294967296
 a / 4294967296 * (b / 4294967296) + t / 4294967296 + (t % 4294967296 + a % 4294967296 * (b / 4294967296)) / 4294967296 = a * b / 18446744073709551616 := by
 have e : a * b = a / 4294967296 * (b / 4294967296) * 18446744073709551616 + (a / 4294967296 * (b % 4294967296) + a % 4294967296 * (b / 4294967296)) * 4294967296 + a % 4294967296 * (b % 4294967296) := by
  conv => lhs; rw [← Nat.div_add_mod a 4294967296, ← Nat.div_add_mod b 4294967296]
  generalize a / 4294967296 = x1
  generalize a % 4294967296 = x0
  generalize b / 4294967296 = y1
  generalize b % 4294967296 = y0
  rw [Nat.add_mul, Nat.mul_add, Nat.mul_add, Nat.add_mul]
  rw [show 4294967296 * x1 * (4294967296 * y1) = x1 * y1 * 18446744073709551616 by rw [Nat.mul_mul_mul_comm, Nat.mul_comm]]
  rw [show 4294967296 * x1 * y0 = x1 * y0 * 4294967296 by rw [Nat.mul_assoc, Nat.mul_comm], show x0 * (4294967296 * y1) = x0 * y1 * 4294967296 by rw [Nat.mul_left_comm, Nat.mul_comm]]
  omega
 have b1 := lo32 (a := a / 4294967296) (b := b % 4294967296) (by omega) (by omega)
 have b2 := lo32 (a := a % 4294967296) (b := b / 4294967296) (by omega) (by omega)
 have b3 := lo32 (a := a % 4294967296) (b := b % 4294967296) (by omega) (by omega)
 have b4 := lo32 (a := a / 4294967296) (b := b / 4294967296) (by omega) (by omega)
 rw [e]
 intro t
 show _ = _
 simp only [t]
 generalize a / 4294967296 * (b / 4294967296) = p11 at *
 generalize a / 4294967296 * (b % 4294967296) = p10 at *
 generalize a % 4294967296 * (b / 4294967296) = p01 at *
 generalize a % 4294967296 * (b % 4294967296) = p00 at *
 clear e
 omega
theorem c_mul64 (a b : Nat) (ha : a < 18446744073709551616) (hb : b < 18446744073709551616) (K) (hk : K (.ret (.tup [.int .u64 ((a * b / 18446744073709551616 : Nat) : Int), .int .u64 ((a * b % 18446744073709551616 : Nat) : Int)])) []) :
 VCall Tryz.prog 160 [.int .u64 (a : Int), .int .u64 (b : Int)] [] K := by
 have hh := mul_hi a b ha hb
 simp only at hh
 have b1 := lo32 (a := a / 4294967296) (b := b % 4294967296) (by omega) (by omega)
 have b2 := lo32 (a := a % 4294967296) (b := b / 4294967296) (by omega) (by omega)
 have b3 := lo32 (a := a % 4294967296) (b := b % 4294967296) (by omega) (by omega)
 have b4 := lo32 (a := a / 4294967296) (b := b / 4294967296) (by omega) (by omega)
 have hhl : a * b / 18446744073709551616 < 18446744073709551616 := by
  rw [Nat.div_lt_iff_lt_mul (by omega)]
  exact Nat.lt_of_le_of_lt (Nat.mul_le_mul_right b (show a <= 18446744073709551615 by omega)) (by omega)
 refine call_fun [] 0 Tryz.func160 (by rfl) (by rfl) ?_; (conv=>whnf); (repeat (refine step_go [] ?_;conv=>whnf))
 rw [and32 a ha]
 (repeat (refine step_go [] ?_;conv=>whnf))
 refine ⟨by omega, ?_⟩; rw [shr_32 a]; (conv=>whnf); (repeat (refine step_go [] ?_;conv=>whnf))
 rw [and32 b hb]
 refine ⟨by omega, ?_⟩; rw [shr_32 b]; (conv=>whnf); (repeat (refine step_go [] ?_;conv=>whnf))
 rw [mul_u64 (a := a % 4294967296) (b := b % 4294967296) (by omega)]
 refine ⟨by omega, ?_⟩; rw [shr_32]; (conv=>whnf); (repeat (refine step_go [] ?_;conv=>whnf))
 rw [mul_u64 (a := a / 4294967296) (b := b % 4294967296) (by omega), add_u64 (a := a / 4294967296 * (b % 4294967296)) (by omega)]
 generalize ht : a / 4294967296 * (b % 4294967296) + a % 4294967296 * (b % 4294967296) / 4294967296 = t at *
 have ht2 : t < 18446744073709551616 := by omega
 rw [and32 t ht2]
 rw [shr_32 t]
 refine ⟨by omega, ?_⟩; (conv=>whnf); (repeat (refine step_go [] ?_;conv=>whnf))
 rw [mul_u64 (a := a % 4294967296) (b := b / 4294967296) (by omega), add_u64 (a := t % 4294967296) (by omega)]
 rw [shr_32, mul_u64 (a := a / 4294967296) (b := b / 4294967296) (by omega), add_u64 (a := a / 4294967296 * (b / 4294967296)) (by omega)]
 refine ⟨by omega, ?_⟩
 (conv=>whnf); (repeat (refine step_go [] ?_;conv=>whnf))
 rw [add_u64 (a := a / 4294967296 * (b / 4294967296) + t / 4294967296) (by omega), hh]
 refine Eq.mp (congrArg (fun x => K (Out.ret (V.tup [V.int IntKind.u64 ↑(a * b / 18446744073709551616), V.int .u64 x])) []) ?_) hk
 have : ∀ x, IntKind.u64.wrap x = x % 18446744073709551616 := fun x => by unfold IntKind.wrap; simp [IntKind.bits, IntKind.signed]
 rw [this, ← Int.natCast_mul]; omega
theorem c_mul (a b : Nat) (ha : a < 18446744073709551616) (hb : b < 18446744073709551616) (K) (hk : K (.ret (.tup [.int .u64 ((a * b / 18446744073709551616 : Nat) : Int), .int .u64 ((a * b % 18446744073709551616 : Nat) : Int)])) []) :
 VCall Tryz.prog 139 [.int .u64 (a : Int), .int .u64 (b : Int)] [] K := by
 refine call_fun [] 0 Tryz.func139 (by rfl) (by rfl) ?_; (conv=>whnf); (repeat (refine step_go [] ?_;conv=>whnf))
 refine c_mul64 a b ha hb _ ?_; (conv=>whnf); (repeat (refine step_go [] ?_;conv=>whnf))
 exact hk
end B6

namespace B7
open Go Go.Proofs VL B1 D1 B2 B3 B4 B5 B6
def hasP (s t : List Int) : Bool := s.take t.length == t
theorem hasP_len {s t : List Int} (h : hasP s t = true) : t.length <= s.length := by
 unfold hasP at h
 have := congrArg List.length (beq_iff_eq.1 h)
 simp at this; omega
theorem c_hasP0 (s t : ByteArray) (K) (h : K (.ret (.bool (hasP (sB s) (sB t)))) []) : VCall Tryz.prog 161 [.str s, .str t] [] K := by
 refine call_fun [] 0 Tryz.func161 (by rfl) (by rfl) ?_; (conv=>whnf); (repeat (refine step_go [] ?_;conv=>whnf))
 refine two (fun g => ?_) (fun g => ?_)
 · have g : t.size <= s.size := by simp at g; omega
   conv=>whnf
   refine ⟨by omega, by omega, by omega, ?_⟩; (conv=>whnf); (repeat (refine step_go [] ?_;conv=>whnf))
   rw [str_beq, sB_ext]
   refine Eq.mp (congrArg (fun x => K (Out.ret (V.bool x)) []) ?_) h
   unfold hasP
   rw [sB_len, Int.toNat_natCast]
   simp
 · have g : s.size < t.size := by simp at g; omega
   (conv=>whnf); (repeat (refine step_go [] ?_;conv=>whnf))
   refine Eq.mp (congrArg (fun x => K (Out.ret (V.bool x)) []) ?_) h
   cases e : hasP (sB s) (sB t) with
   | false => rfl
   | true => have := hasP_len e; rw [sB_len, sB_len] at this; omega
theorem c_hasP (s t : ByteArray) (K) (h : K (.ret (.bool (hasP (sB s) (sB t)))) []) : VCall Tryz.prog 140 [.str s, .str t] [] K := by
 refine call_fun [] 0 Tryz.func140 (by rfl) (by rfl) ?_; (conv=>whnf); (repeat (refine step_go [] ?_;conv=>whnf))
 refine c_hasP0 s t _ ?_; (conv=>whnf); (repeat (refine step_go [] ?_;conv=>whnf))
 exact h
theorem ext_str (s : ByteArray) {l : List Int} {i j : Nat} (h : ((sB s).take j).drop i = l) : s.extract i j = toBA l := by
 rw [← h, ← sB_ext, toBA_sB]
theorem c_cutP (s t : ByteArray) (K) (h : K (.ret (.tup [.str (toBA (if hasP (sB s) (sB t) then (sB s).drop (sB t).length else sB s)), .bool (hasP (sB s) (sB t))])) []) : VCall Tryz.prog 172 [.str s, .str t] [] K := by
 refine call_fun [] 0 Tryz.func172 (by rfl) (by rfl) ?_; (conv=>whnf); (repeat (refine step_go [] ?_;conv=>whnf))
 have h' : VCall Tryz.prog 187 [.str s, .str t] [] fun o ob => o = .ret (.tup [.str (toBA (if hasP (sB s) (sB t) then (sB s).drop (sB t).length else sB s)), .bool (hasP (sB s) (sB t))]) /\ ob = [] := by
  refine call_fun [] 0 Tryz.func187 (by rfl) (by rfl) ?_; (conv=>whnf); (repeat (refine step_go [] ?_;conv=>whnf))
  refine c_hasP0 s t _ ?_; (conv=>whnf); (repeat (refine step_go [] ?_;conv=>whnf))
  refine two (fun g => ?_) (fun g => ?_)
  · have g : hasP (sB s) (sB t) = false := by simpa using g
    rw [g]; (conv=>whnf); (repeat (refine step_go [] ?_;conv=>whnf))
    exact ⟨by simp [toBA_sB], rfl⟩
  · have g : hasP (sB s) (sB t) = true := by simpa using g
    have hl := hasP_len g
    rw [sB_len, sB_len] at hl
    rw [g]; (conv=>whnf); (repeat (refine step_go [] ?_;conv=>whnf))
    refine ⟨by omega, by omega, ?_⟩; (conv=>whnf); (repeat (refine step_go [] ?_;conv=>whnf))
    refine ⟨?_, rfl⟩
    rw [if_pos rfl, ext_str s (l := (sB s).drop (sB t).length) (by rw [sB_len, List.take_of_length_le (by rw [sB_len]; omega)]; simp)]
 refine VCall.mono ?_ h'
 rintro _ _ ⟨rfl, rfl⟩
 (conv=>whnf); (repeat (refine step_go [] ?_;conv=>whnf))
 exact h
def hasS (s t : List Int) : Bool := decide (t.length <= s.length) && (s.drop (s.length - t.length) == t)
theorem c_cutS (s t : ByteArray) (K) (hs : s.size < 9223372036854775808) (h : K (.ret (.tup [.str (toBA (if hasS (sB s) (sB t) then (sB s).take (s.size - t.size) else sB s)), .bool (hasS (sB s) (sB t))])) []) : VCall Tryz.prog 170 [.str s, .str t] [] K := by
 refine call_fun [] 0 Tryz.func170 (by rfl) (by rfl) ?_; (conv=>whnf); (repeat (refine step_go [] ?_;conv=>whnf))
 have h0 : VCall Tryz.prog 189 [.str s, .str t] [] fun o ob => o = .ret (.bool (hasS (sB s) (sB t))) /\ ob = [] := by
  refine call_fun [] 0 Tryz.func189 (by rfl) (by rfl) ?_; (conv=>whnf); (repeat (refine step_go [] ?_;conv=>whnf))
  refine two (fun g => ?_) (fun g => ?_)
  · have g : t.size <= s.size := by simp at g; omega
    conv=>whnf
    have e : IntKind.i64.wrap ((s.size : Int) - (t.size : Int)) = ((s.size - t.size : Nat) : Int) := by rw [wrap64 (by omega) (by omega)]; omega
    rw [e]
    refine ⟨by omega, by omega, ?_⟩; (conv=>whnf); (repeat (refine step_go [] ?_;conv=>whnf))
    rw [str_beq, sB_ext]
    refine ⟨?_, rfl⟩
    unfold hasS
    rw [sB_len, sB_len, Int.toNat_natCast, List.take_of_length_le (by rw [sB_len]; omega)]
    simp [g]
  · have g : s.size < t.size := by simp at g; omega
    (conv=>whnf); (repeat (refine step_go [] ?_;conv=>whnf))
    refine ⟨?_, rfl⟩
    unfold hasS
    rw [sB_len, sB_len, decide_eq_false (by omega)]; rfl
 have h' : VCall Tryz.prog 186 [.str s, .str t] [] fun o ob => o = .ret (.tup [.str (toBA (if hasS (sB s) (sB t) then (sB s).take (s.size - t.size) else sB s)), .bool (hasS (sB s) (sB t))]) /\ ob = [] := by
  refine call_fun [] 0 Tryz.func186 (by rfl) (by rfl) ?_; (conv=>whnf); (repeat (refine step_go [] ?_;conv=>whnf))
  refine VCall.mono ?_ h0
  rintro _ _ ⟨rfl, rfl⟩
  (conv=>whnf); (repeat (refine step_go [] ?_;conv=>whnf))
  refine two (fun g => ?_) (fun g => ?_)
  · have g : hasS (sB s) (sB t) = false := by simpa using g
    rw [g]; (conv=>whnf); (repeat (refine step_go [] ?_;conv=>whnf))
    exact ⟨by simp [toBA_sB], rfl⟩
  · have g : hasS (sB s) (sB t) = true := by simpa using g
    have hl : t.size <= s.size := by
     unfold hasS at g
     simp only [Bool.and_eq_true, decide_eq_true_eq, sB_len] at g
     exact g.1
    rw [g]; (conv=>whnf); (repeat (refine step_go [] ?_;conv=>whnf))
    have e : IntKind.i64.wrap ((s.size : Int) - (t.size : Int)) = ((s.size - t.size : Nat) : Int) := by rw [wrap64 (by omega) (by omega)]; omega
    rw [e]
    refine ⟨by omega, by omega, by omega, ?_⟩; (conv=>whnf); (repeat (refine step_go [] ?_;conv=>whnf))
    refine ⟨?_, rfl⟩
    rw [if_pos rfl, ext_str s (l := (sB s).take (s.size - t.size)) (by simp)]
 refine VCall.mono ?_ h'
 rintro _ _ ⟨rfl, rfl⟩
 (conv=>whnf); (repeat (refine step_go [] ?_;conv=>whnf))
 exact h
end B7

namespace B8
open Go Go.Proofs VL B1 D1 B2 B3 B4 B5 B6 B7
theorem get_bang {s : ByteArray} {i : Nat} (h : i < s.size) : (sB s)[i]? = some ((s[i]!).toNat : Int) := by
 obtain ⟨c, h1, h2⟩ := str_get h
 rw [h2]
 have : s[i]! = c := by rw [getElem!_pos s i h]; rw [getElem?_pos s i h] at h1; exact Option.some.inj h1
 rw [this]
theorem tw_at {c : Int} : ∀ {l : List Int} {i : Nat}, l[i]? = some c -> (∀ j, j < i -> l[j]? ≠ some c) -> l.takeWhile (· != c) = l.take i /\ l.dropWhile (· != c) = l.drop i /\ l.contains c = true
 | [], i, h, _ => by simp at h
 | x :: r, 0, h, _ => by simp at h; subst h; simp
 | x :: r, i + 1, h, h2 => by
   have hx : x ≠ c := by have := h2 0 (by omega); simpa using this
   obtain ⟨a, b, d⟩ := tw_at (l := r) (i := i) (by simpa using h) fun j hj => by have := h2 (j + 1) (by omega); simpa using this
   have hx' : ¬ c = x := fun e => hx e.symm
   refine ⟨?_, ?_, ?_⟩
   · simp [hx, a]
   · simp [hx, b]
   · rw [List.contains_cons, d]; simp
theorem tw_no {c : Int} : ∀ {l : List Int}, (∀ x ∈ l, x ≠ c) -> l.takeWhile (· != c) = l /\ l.dropWhile (· != c) = [] /\ l.contains c = false
 | [], _ => by simp
 | x :: r, h => by
   obtain ⟨a, b, d⟩ := tw_no (l := r) fun y hy => h y (by simp [hy])
   have hx := h x (by simp)
   have hx' : ¬ c = x := fun e => hx e.symm
   refine ⟨by simp [hx, a], by simp [hx, b], ?_⟩
   rw [List.contains_cons, d]; simp [hx']
theorem idxB_some {s : ByteArray} {c : UInt8} {i : Nat} (h : (List.range s.size).find? (fun i => s[i]! == c) = some i) : i < s.size /\ (sB s)[i]? = some (c.toNat : Int) /\ ∀ j, j < i -> (sB s)[j]? ≠ some (c.toNat : Int) := by
 rw [List.find?_range_eq_some] at h
 obtain ⟨h1, h2, h3⟩ := h
 have hi : i < s.size := by simpa using h2
 refine ⟨hi, ?_, fun j hj => ?_⟩
 · rw [get_bang hi]; simp at h1; rw [h1]
 · rw [get_bang (by omega)]
   have := h3 j hj
   simp at this ⊢
   intro e
   exact this (UInt8.toNat.inj (by omega))
theorem idxB_none {s : ByteArray} {c : UInt8} (h : (List.range s.size).find? (fun i => s[i]! == c) = none) : ∀ x ∈ sB s, x ≠ (c.toNat : Int) := by
 rw [List.find?_eq_none] at h
 intro x hx e
 obtain ⟨i, hi⟩ := List.mem_iff_getElem?.1 hx
 have hl : i < s.size := by rw [← sB_len]; exact (List.getElem?_eq_some_iff.1 hi).1
 have := h i (by simpa using hl)
 rw [get_bang hl] at hi
 simp at this hi
 exact this (UInt8.toNat.inj (by omega))
theorem c_index1 (s : ByteArray) (K) (h : K (.ret (.int .i64 (idxB s 46))) []) : VCall Tryz.prog 145 [.str s, .str ⟨#[46]⟩] [] K := by
 refine call_fun [] 0 Tryz.func145 (by rfl) (by rfl) ?_; (conv=>whnf); (repeat (refine step_go [] ?_;conv=>whnf))
 (repeat first | (refine step_go [] ?_;conv=>whnf) | (refine no (by rfl) ?_;conv=>whnf) | (refine yes (by rfl) ?_;conv=>whnf))
 refine two (fun g => ?_) (fun g => ?_)
 · (conv=>whnf); (repeat (refine step_go [] ?_;conv=>whnf))
   rw [str_beq] at g
   have e : s = ⟨#[46]⟩ := (sB_inj (beq_iff_eq.1 g)).symm
   subst e
   exact h
 (conv=>whnf); (repeat (refine step_go [] ?_;conv=>whnf))
 (repeat first | (refine step_go [] ?_;conv=>whnf) | (refine no (by rfl) ?_;conv=>whnf) | (refine yes (by rfl) ?_;conv=>whnf))
 refine idx_str (x := 46) (by omega) (by decide +kernel) fun c hc => ?_
 rw [hc]; (conv=>whnf); (repeat (refine step_go [] ?_;conv=>whnf))
 have h' : VCall Tryz.prog 165 [.str s, .int .u8 46] [] fun o ob => o = .ret (.int .i64 (idxB s 46)) /\ ob = [] := by
  refine call_fun [] 0 Tryz.func165 (by rfl) (by rfl) ?_; (conv=>whnf); (repeat (refine step_go [] ?_;conv=>whnf))
  refine c_indexByte (fn := Tryz.f184) (by rfl) (by rfl) (by rfl) (by rfl) (by rfl) ?_; (conv=>whnf); (repeat (refine step_go [] ?_;conv=>whnf))
  exact ⟨rfl, rfl⟩
 refine VCall.mono ?_ h'
 rintro _ _ ⟨rfl, rfl⟩
 (conv=>whnf); (repeat (refine step_go [] ?_;conv=>whnf))
 exact h
theorem c_cut (s : ByteArray) (hs : s.size < 9223372036854775807) (K) (h : K (.ret (.tup [.str (toBA ((sB s).takeWhile (· != 46))), .str (toBA (((sB s).dropWhile (· != 46)).drop 1)), .bool ((sB s).contains 46)])) []) : VCall Tryz.prog 173 [.str s, .str ⟨#[46]⟩] [] K := by
 refine call_fun [] 0 Tryz.func173 (by rfl) (by rfl) ?_; (conv=>whnf); (repeat (refine step_go [] ?_;conv=>whnf))
 have h' : VCall Tryz.prog 188 [.str s, .str ⟨#[46]⟩] [] fun o ob => o = .ret (.tup [.str (toBA ((sB s).takeWhile (· != 46))), .str (toBA (((sB s).dropWhile (· != 46)).drop 1)), .bool ((sB s).contains 46)]) /\ ob = [] := by
  refine call_fun [] 0 Tryz.func188 (by rfl) (by rfl) ?_; (conv=>whnf); (repeat (refine step_go [] ?_;conv=>whnf))
  refine c_index1 s _ ?_; (conv=>whnf); (repeat (refine step_go [] ?_;conv=>whnf))
  cases hf : (List.range s.size).find? (fun i => s[i]! == 46) with
  | none =>
    obtain ⟨e1, e2, e3⟩ := tw_no (idxB_none hf)
    rw [show ((46 : UInt8).toNat : Int) = 46 from rfl] at e1 e2 e3
    rw [show idxB s 46 = -1 by unfold idxB; rw [hf]]
    (conv=>whnf); (repeat (refine step_go [] ?_;conv=>whnf))
    rw [e1, e2, e3]
    exact ⟨by rw [toBA_sB]; rfl, rfl⟩
  | some i =>
    obtain ⟨hi, h1, h2⟩ := idxB_some hf
    obtain ⟨e1, e2, e3⟩ := tw_at h1 h2
    rw [show ((46 : UInt8).toNat : Int) = 46 from rfl] at e1 e2 e3
    rw [show idxB s 46 = (i : Int) by unfold idxB; rw [hf]]
    (conv=>whnf); (repeat (refine step_go [] ?_;conv=>whnf))
    (refine ⟨by decide +kernel, ?_⟩;conv=>whnf)
    have w : IntKind.i64.wrap ((i : Int) + 1) = ((i + 1 : Nat) : Int) := by rw [wrap64 (by omega) (by omega)]; omega
    have w' : IntKind.i64.wrap ((i : Int) + ((ByteArray.mk #[46]).size : Int)) = ((i + 1 : Nat) : Int) := w
    (repeat first | (refine step_go [] ?_;conv=>whnf) | (refine And.intro rfl ?_;conv=>whnf) | (refine And.intro (by omega) ?_;conv=>whnf))
    rw [w']
    (repeat first | (refine step_go [] ?_;conv=>whnf) | (refine And.intro rfl ?_;conv=>whnf) | (refine And.intro (by omega) ?_;conv=>whnf))
    refine ⟨?_, rfl⟩
    rw [ext_str s (l := (sB s).takeWhile (· != 46)) (by rw [e1]; simp), ext_str s (l := ((sB s).dropWhile (· != 46)).drop 1) (by rw [e2, List.take_of_length_le (by rw [sB_len]; omega)]; simp), e3]
 refine VCall.mono ?_ h'
 rintro _ _ ⟨rfl, rfl⟩
 (conv=>whnf); (repeat (refine step_go [] ?_;conv=>whnf))
 exact h
def trimZ (l : List Int) : List Int := (l.reverse.dropWhile (· == 48)).reverse
theorem trimZ_snoc (l : List Int) (x : Int) : trimZ (l ++ [x]) = if x = 48 then trimZ l else l ++ [x] := by
 unfold trimZ
 rw [List.reverse_append, List.reverse_singleton, List.singleton_append, List.dropWhile_cons]
 by_cases h : x = 48 <;> simp [h]
theorem c_trimB (s : ByteArray) (hs : s.size < 1000000) (K) (h : K (.ret (.str (toBA (trimZ (sB s))))) []) : VCall Tryz.prog 110 [.str s, .int .u8 48] [] K := by
 refine call_fun [] 0 Tryz.func110 (by rfl) (by rfl) ?_; (conv=>whnf); (repeat (refine step_go [] ?_;conv=>whnf))
 let S : ByteArray -> St := fun x => ⟨(.str x :: .int .u8 48 :: .undef :: .undef :: .str ⟨#[]⟩ :: .undef :: .undef :: .undef :: .undef :: .undef :: .undef :: .undef :: .undef :: .undef :: .undef :: .undef :: .undef :: .undef :: .undef :: .undef :: .undef :: .undef :: .undef :: []), [], 0, []⟩
 refine VLoop.enter (s' := S s) (weak_of ?_ .nil rfl rfl rfl) (VLoop.indW S (fun x => x.size) (fun x => trimZ (sB x) = trimZ (sB s) /\ x.size <= s.size) ?_ s ⟨rfl, Nat.le_refl _⟩)
 · (repeat' first | exact VWs.nil | refine VWs.cons VW.undef ?_ | refine VWs.cons (VW.eq rfl) ?_)
 intro x ⟨hx, hl⟩ ih
 refine loop_round [] ?_; (conv=>whnf); (repeat (refine step_go [] ?_;conv=>whnf))
 refine two (fun g => ?_) (fun g => ?_)
 · have g : 0 < x.size := by simp at g; omega
   obtain ⟨m, c, hm⟩ : ∃ m c, sB x = m ++ [c] := ⟨(sB x).dropLast, (sB x).getLast (by rw [← List.length_pos_iff, sB_len]; exact g), (List.dropLast_concat_getLast _).symm⟩
   have hml : m.length + 1 = x.size := by rw [← sB_len, hm]; simp
   conv=>whnf
   rw [show IntKind.i64.wrap ((x.size : Int) - 1) = (m.length : Int) by rw [wrap64 (by omega) (by omega)]; omega]
   refine idx_str (x := c) (by omega) (by rw [hm, Int.toNat_natCast]; simp) fun b hb => ?_
   rw [hb]; (conv=>whnf); (repeat (refine step_go [] ?_;conv=>whnf))
   refine two (fun g2 => ?_) (fun g2 => ?_)
   · have g2 : c = 48 := by simpa using g2
     (conv=>whnf); (repeat (refine step_go [] ?_;conv=>whnf))
     rw [show IntKind.i64.wrap ((x.size : Int) - 1) = (m.length : Int) by rw [wrap64 (by omega) (by omega)]; omega]
     (repeat first | (refine step_go [] ?_;conv=>whnf) | (refine And.intro rfl ?_;conv=>whnf) | (refine And.intro (by omega) ?_;conv=>whnf))
     have he : x.extract 0 m.length = toBA m := ext_str x (by rw [hm]; simp)
     have hmb : sB (toBA m) = m := by rw [← he, sB_ext, hm]; simp
     refine ⟨S (toBA m), weak_of ?_ .nil rfl rfl rfl, ih (toBA m) ⟨?_, ?_⟩ ?_⟩
     · repeat' first
        | exact VWs.nil
        | refine VWs.cons VW.undef ?_
        | refine VWs.cons (VW.eq (congrArg V.str he)) ?_
        | refine VWs.cons (VW.eq rfl) ?_
     · rw [hmb, ← hx, hm, trimZ_snoc, if_pos g2]
     · rw [← sB_len, hmb]; omega
     · rw [← sB_len, hmb]; omega
   · have g2 : c ≠ 48 := by simpa using g2
     (conv=>whnf); (repeat (refine step_go [] ?_;conv=>whnf))
     refine ⟨_, Weak.refl, ?_⟩; (conv=>whnf); (repeat (refine step_go [] ?_;conv=>whnf))
     rw [← hx, hm, trimZ_snoc, if_neg g2, ← hm, toBA_sB] at h
     exact h
 · have g : x.size = 0 := by have := of_decide_eq_false g; omega
   have e0 : sB x = [] := List.length_eq_zero_iff.1 (by rw [sB_len]; exact g)
   (conv=>whnf); (repeat (refine step_go [] ?_;conv=>whnf))
   refine ⟨_, Weak.refl, ?_⟩; (conv=>whnf); (repeat (refine step_go [] ?_;conv=>whnf))
   rw [← hx, e0] at h
   have e : x = toBA (trimZ []) := sB_inj (by rw [e0]; rfl)
   rw [e]
   exact h
theorem c_trim (s : ByteArray) (hs : s.size < 1000000) (K) (h : K (.ret (.str (toBA (trimZ (sB s))))) []) : VCall Tryz.prog 89 [.str s, .str ⟨#[48]⟩] [] K := by
 refine call_fun [] 0 Tryz.func89 (by rfl) (by rfl) ?_; (conv=>whnf); (repeat (refine step_go [] ?_;conv=>whnf))
 refine two (fun g => ?_) (fun g => ?_)
 · (conv=>whnf); (repeat (refine step_go [] ?_;conv=>whnf))
   rw [str_beq] at g
   have e : s = ⟨#[]⟩ := sB_inj (beq_iff_eq.1 g)
   subst e
   exact h
 (conv=>whnf); (repeat (refine step_go [] ?_;conv=>whnf))
 refine no (by rw [str_beq]; rfl) ?_; (conv=>whnf); (repeat (refine step_go [] ?_;conv=>whnf))
 (repeat first | (refine step_go [] ?_;conv=>whnf) | (refine no (by rfl) ?_;conv=>whnf) | (refine yes (by rfl) ?_;conv=>whnf))
 refine idx_str (x := 48) (by omega) (by decide +kernel) fun c hc => ?_
 rw [hc]; (conv=>whnf); (repeat (refine step_go [] ?_;conv=>whnf))
 (repeat first | (refine step_go [] ?_;conv=>whnf) | (refine no (by rfl) ?_;conv=>whnf) | (refine yes (by rfl) ?_;conv=>whnf))
 refine idx_str (x := 48) (by omega) (by decide +kernel) fun c hc => ?_
 rw [hc]; (conv=>whnf); (repeat (refine step_go [] ?_;conv=>whnf))
 refine c_trimB s hs _ ?_; (conv=>whnf); (repeat (refine step_go [] ?_;conv=>whnf))
 exact h
end B8

namespace B9
open Go Go.Proofs VL B1 D1 B2 B3 B4 B5 B6 B7 B8
theorem c_repeat (k : Nat) (hk : k <= 60) (K) (h : K (.ret (.str (toBA (List.replicate k 48)))) []) : VCall Tryz.prog 109 [.str ⟨#[48]⟩, .int .i64 (k : Int)] [] K := by
 refine call_fun [] 0 Tryz.func109 (by rfl) (by rfl) ?_; (conv=>whnf); (repeat (refine step_go [] ?_;conv=>whnf))
 refine two (fun g => ?_) (fun g => ?_)
 · have g : k = 0 := by have := beq_iff_eq.1 g; omega
   subst g
   (conv=>whnf); (repeat (refine step_go [] ?_;conv=>whnf))
   exact h
 · have g : k ≠ 0 := by simpa using g
   (conv=>whnf); (repeat (refine step_go [] ?_;conv=>whnf))
   refine two (fun g2 => ?_) (fun g2 => ?_)
   · have g2 : k = 1 := by have := beq_iff_eq.1 g2; omega
     subst g2
     (conv=>whnf); (repeat (refine step_go [] ?_;conv=>whnf))
     exact h
   · have g2 : k ≠ 1 := by intro e; subst e; simp at g2
     (conv=>whnf); (repeat (refine step_go [] ?_;conv=>whnf))
     rw [show IntKind.u64.wrap ((ByteArray.mk #[48]).size : Int) = ((1 : Nat) : Int) from wrapu64 (by decide) (by decide), wrapu64 (x := (k : Int)) (by omega) (by omega)]
     refine c_mul 1 k (by omega) (by omega) _ ?_; (conv=>whnf); (repeat (refine step_go [] ?_;conv=>whnf))
     rw [Nat.one_mul, Nat.div_eq_of_lt (by omega), Nat.mod_eq_of_lt (by omega)]
     (repeat first | (refine step_go [] ?_;conv=>whnf) | (refine no (by rfl) ?_;conv=>whnf) | (refine yes (by rfl) ?_;conv=>whnf))
     refine no (decide_eq_false (by omega)) ?_; (conv=>whnf); (repeat (refine step_go [] ?_;conv=>whnf))
     (repeat first | (refine step_go [] ?_;conv=>whnf) | (refine no (by rfl) ?_;conv=>whnf) | (refine yes (by rfl) ?_;conv=>whnf))
     rw [wrap64 (x := (k : Int)) (by omega) (by omega)]
     (repeat first | (refine step_go [] ?_;conv=>whnf) | (refine no (by rfl) ?_;conv=>whnf) | (refine yes (by rfl) ?_;conv=>whnf))
     refine idx_str (x := 48) (by omega) (by decide +kernel) fun c hc => ?_
     rw [hc]; (conv=>whnf); (repeat (refine step_go [] ?_;conv=>whnf))
     (repeat first | (refine step_go [] ?_;conv=>whnf) | (refine no (by rfl) ?_;conv=>whnf) | (refine yes (by rfl) ?_;conv=>whnf))
     refine yes (decide_eq_true (by omega)) ?_; (conv=>whnf); (repeat (refine step_go [] ?_;conv=>whnf))
     refine c_hasP _ _ _ ?_; (conv=>whnf); (repeat (refine step_go [] ?_;conv=>whnf))
     refine yes (decide_eq_true (by omega)) ?_; (conv=>whnf); (repeat (refine step_go [] ?_;conv=>whnf))
     refine c_hasP _ _ _ ?_; (conv=>whnf); (repeat (refine step_go [] ?_;conv=>whnf))
     refine yes (decide_eq_true (by omega)) ?_; (conv=>whnf); (repeat (refine step_go [] ?_;conv=>whnf))
     refine c_hasP _ _ _ ?_; (conv=>whnf); (repeat (refine step_go [] ?_;conv=>whnf))
     refine ⟨by omega, by omega, Int.le_trans (b := 64) (by omega) (by decide +kernel), ?_⟩; (conv=>whnf); (repeat (refine step_go [] ?_;conv=>whnf))
     rw [ext_str _ (l := List.replicate k 48)]
     · exact h
     · rw [Int.toNat_natCast, show Int.toNat 0 = 0 from rfl, List.drop_zero]
       have e : ∀ (l : List Int), l = List.replicate 64 48 -> l.take k = List.replicate k 48 := fun l e => by rw [e, List.take_replicate, Nat.min_eq_left (by omega)]
       exact e _ (by decide +kernel)
end B9

namespace B10
open Go Go.Proofs VL B1 D1 B2 B3 B4 B5 B6 B7 B8 B9
def sgn (v : Int) : List Int := if v < 0 then [45] else []
def moneyS (v : Int) : List Int := sgn v ++ dg (v.natAbs / 100) ++ [46] ++ dgw 2 (v.natAbs % 100)
def fracS (r : Nat) : List Int := if r = 0 then [] else 46 :: trimZ (dgw 7 r)
def rateS (v : Int) : List Int := sgn v ++ dg (v.natAbs / 10000000) ++ fracS (v.natAbs % 10000000) ++ [37]
def I64 (v : Int) : Prop := -9223372036854775808 <= v /\ v < 9223372036854775808
theorem sgn_byte (v : Int) : ∀ x ∈ sgn v, 0 <= x /\ x < 256 := by unfold sgn; split <;> simp
theorem c_parts (v : Int) (b : Nat) (hv : I64 v) (hb : 0 < b) (hb2 : b < 1000000000) (K) (h : K (.ret (.tup [.str (toBA (sgn v)), .int .u64 ((v.natAbs / b : Nat) : Int), .int .u64 ((v.natAbs % b : Nat) : Int)])) []) :
 VCall Tryz.prog 87 [.int .i64 v, .int .u64 (b : Int)] [] K := by
 obtain ⟨v1, v2⟩ := hv
 have td : ∀ n : Nat, Int.tdiv (n : Int) (b : Int) = ((n / b : Nat) : Int) := fun n => rfl
 have tm : ∀ n : Nat, Int.tmod (n : Int) (b : Int) = ((n % b : Nat) : Int) := fun n => rfl
 refine call_fun [] 0 Tryz.func87 (by rfl) (by rfl) ?_; (conv=>whnf); (repeat (refine step_go [] ?_;conv=>whnf))
 refine two (fun g => ?_) (fun g => ?_)
 · have g : v < 0 := by simpa using g
   (conv=>whnf); (repeat (refine step_go [] ?_;conv=>whnf))
   have e : IntKind.u64.wrap (IntKind.u64.wrap (IntKind.i64.wrap (0 - IntKind.i64.wrap (v + 1))) + 1) = (v.natAbs : Int) := by
    rw [wrap64 (x := v + 1) (by omega) (by omega), wrap64 (by omega) (by omega), wrapu64 (x := 0 - (v + 1)) (by omega) (by omega), wrapu64 (by omega) (by omega)]; omega
   rw [e]
   (refine ⟨by decide +kernel, ?_⟩;conv=>whnf)
   (repeat first | (refine step_go [] ?_;conv=>whnf) | (refine And.intro rfl ?_;conv=>whnf) | (refine And.intro (by omega) ?_;conv=>whnf))
   have hq := Nat.div_le_self v.natAbs b
   rw [td, tm, w64N (by omega)]
   rw [show sgn v = [45] by unfold sgn; rw [if_pos g]] at h
   exact h
 · have g : 0 <= v := by simpa using g
   (conv=>whnf); (repeat (refine step_go [] ?_;conv=>whnf))
   have e : IntKind.u64.wrap v = (v.natAbs : Int) := by rw [wrapu64 (by omega) (by omega)]; omega
   rw [e]
   (refine ⟨by decide +kernel, ?_⟩;conv=>whnf)
   (repeat first | (refine step_go [] ?_;conv=>whnf) | (refine And.intro rfl ?_;conv=>whnf) | (refine And.intro (by omega) ?_;conv=>whnf))
   have hq := Nat.div_le_self v.natAbs b
   rw [td, tm, w64N (by omega)]
   rw [show sgn v = [] by unfold sgn; rw [if_neg (by omega)]] at h
   exact h
theorem sz_toBA (l : List Int) : (toBA l).size = l.length := toBA_size l
theorem pad_dgw : ∀ (w n : Nat), 0 < w -> n < 10 ^ w -> List.replicate (w - (dg n).length) 48 ++ dg n = dgw w n
 | w + 1, n, _, h => by
   by_cases h0 : 10 ^ w <= n
   · have h1 := dg_len_ge w n h0
     rw [show w + 1 - (dg n).length = 0 by omega, dg_dgw w n h0 h]; rfl
   · by_cases hw : w = 0
     · subst hw; rw [show n = 0 by simp at h0; omega]; simp [dg_small, dgw]
     · have ih := pad_dgw w n (by omega) (by omega)
       have hl := dg_len_le (w - 1) n (by rw [Nat.sub_add_cancel (by omega)]; omega)
       have : dgw (w + 1) n = 48 :: dgw w n := by
        rw [Nat.add_comm, dgw_split, Nat.div_eq_of_lt (by omega)]; rfl
       rw [this, ← ih, show w + 1 - (dg n).length = (w - (dg n).length) + 1 by omega, List.replicate_succ]; rfl
def dgn (n v : Nat) : List Int := List.replicate (n - (dg v).length) 48 ++ dg v
theorem c_digits (v n : Nat) (hv : v < 18446744073709551616) (hn : n <= 60) (K) (h : K (.ret (.str (toBA (dgn n v)))) []) :
 VCall Tryz.prog 88 [.int .u64 (v : Int), .int .i64 (n : Int)] [] K := by
 have hl := dg_len20 hv
 refine call_fun [] 0 Tryz.func88 (by rfl) (by rfl) ?_; (conv=>whnf); (repeat (refine step_go [] ?_;conv=>whnf))
 refine c_fuo v hv _ ?_; (conv=>whnf); (repeat (refine step_go [] ?_;conv=>whnf))
 refine ⟨rfl, ?_⟩
 rw [sz_toBA, show (if (0 : Int) > IntKind.i64.wrap ((n : Int) - ((dg v).length : Int)) then (0 : Int) else IntKind.i64.wrap ((n : Int) - ((dg v).length : Int))) = ((n - (dg v).length : Nat) : Int) by
  rw [wrap64 (by omega) (by omega)]; split <;> omega]
 (conv=>whnf); (repeat (refine step_go [] ?_;conv=>whnf))
 refine c_repeat _ (by omega) _ ?_; (conv=>whnf); (repeat (refine step_go [] ?_;conv=>whnf))
 refine ⟨?_, ?_⟩
 · rw [sz_toBA, sz_toBA, List.length_replicate]
   exact Int.le_trans (b := 100) (by omega) (by decide)
 (conv=>whnf); (repeat (refine step_go [] ?_;conv=>whnf))
 rw [toBA_app]
 exact h
theorem str_le {a b : Nat} (h : a + b < 1000000) : (((a + b : Nat) : Int) <= IntKind.i64.max) := Int.le_trans (b := 1000000) (by omega) (by decide)
theorem c_money (v : Int) (hv : I64 v) (K) (h : K (.ret (.str (toBA (moneyS v)))) []) : VCall Tryz.prog 59 [.int .i64 v] [] K := by
 have hn : v.natAbs < 18446744073709551616 := by have := hv.1; have := hv.2; omega
 have hl := dg_len20 (n := v.natAbs / 100) (by omega)
 have hl2 := dg_len20 (n := v.natAbs % 100) (by omega)
 have hs : (sgn v).length <= 1 := by unfold sgn; split <;> simp
 have e1 : dgn 1 (v.natAbs / 100) = dg (v.natAbs / 100) := by
  unfold dgn
  have := dg_len_pos (v.natAbs / 100)
  rw [show 1 - (dg (v.natAbs / 100)).length = 0 by omega]; rfl
 have e2 : dgn 2 (v.natAbs % 100) = dgw 2 (v.natAbs % 100) := pad_dgw 2 _ (by omega) (by omega)
 refine call_fun [] 0 Tryz.func59 (by rfl) (by rfl) ?_; (conv=>whnf); (repeat (refine step_go [] ?_;conv=>whnf))
 refine c_parts v 100 hv (by omega) (by omega) _ ?_; (conv=>whnf); (repeat (refine step_go [] ?_;conv=>whnf))
 refine c_digits _ 1 (by omega) (by omega) _ ?_; (conv=>whnf); (repeat (refine step_go [] ?_;conv=>whnf))
 rw [e1]
 refine ⟨by rw [sz_toBA, sz_toBA]; exact str_le (by omega), ?_⟩
 rw [toBA_app]; (conv=>whnf); (repeat (refine step_go [] ?_;conv=>whnf))
 refine ⟨by rw [sz_toBA]; refine str_le ?_; simp; show _ + 1 < _; omega, ?_⟩
 rw [show (ByteArray.mk #[46]) = toBA [46] from rfl, toBA_app]; (conv=>whnf); (repeat (refine step_go [] ?_;conv=>whnf))
 refine c_digits _ 2 (by omega) (by omega) _ ?_; (conv=>whnf); (repeat (refine step_go [] ?_;conv=>whnf))
 rw [e2]
 refine ⟨by rw [sz_toBA, sz_toBA, dgw_len]; refine str_le ?_; simp; omega, ?_⟩
 rw [toBA_app]; (conv=>whnf); (repeat (refine step_go [] ?_;conv=>whnf))
 exact h
theorem trimZ_len (l : List Int) : (trimZ l).length <= l.length := by
 unfold trimZ
 rw [List.length_reverse]
 have := (List.dropWhile_sublist (fun x : Int => x == 48) (l := l.reverse)).length_le
 simpa using this
theorem c_rate (v : Int) (hv : I64 v) (K) (h : K (.ret (.str (toBA (rateS v)))) []) : VCall Tryz.prog 58 [.int .i64 v] [] K := by
 have hn : v.natAbs < 18446744073709551616 := by have := hv.1; have := hv.2; omega
 have hl := dg_len20 (n := v.natAbs / 10000000) (by omega)
 have hs : (sgn v).length <= 1 := by unfold sgn; split <;> simp
 have e1 : dgn 1 (v.natAbs / 10000000) = dg (v.natAbs / 10000000) := by
  unfold dgn
  have := dg_len_pos (v.natAbs / 10000000)
  rw [show 1 - (dg (v.natAbs / 10000000)).length = 0 by omega]; rfl
 have e2 : dgn 7 (v.natAbs % 10000000) = dgw 7 (v.natAbs % 10000000) := pad_dgw 7 _ (by omega) (by omega)
 have hb7 := dgw_byte 7 (v.natAbs % 10000000)
 refine call_fun [] 0 Tryz.func58 (by rfl) (by rfl) ?_; (conv=>whnf); (repeat (refine step_go [] ?_;conv=>whnf))
 refine c_parts v 10000000 hv (by omega) (by omega) _ ?_; (conv=>whnf); (repeat (refine step_go [] ?_;conv=>whnf))
 refine c_digits _ 1 (by omega) (by omega) _ ?_; (conv=>whnf); (repeat (refine step_go [] ?_;conv=>whnf))
 rw [e1]
 refine ⟨by rw [sz_toBA, sz_toBA]; exact str_le (by omega), ?_⟩
 rw [toBA_app]; (conv=>whnf); (repeat (refine step_go [] ?_;conv=>whnf))
 refine two (fun g => ?_) (fun g => ?_)
 · have g : v.natAbs % 10000000 ≠ 0 := by simp at g; omega
   (conv=>whnf); (repeat (refine step_go [] ?_;conv=>whnf))
   refine c_digits _ 7 (by omega) (by omega) _ ?_; (conv=>whnf); (repeat (refine step_go [] ?_;conv=>whnf))
   rw [e2]
   refine c_trim _ (by rw [sz_toBA, dgw_len]; omega) _ ?_; (conv=>whnf); (repeat (refine step_go [] ?_;conv=>whnf))
   rw [sB_toBA hb7]
   have hz := trimZ_len (dgw 7 (v.natAbs % 10000000))
   rw [dgw_len] at hz
   refine ⟨by rw [sz_toBA]; refine str_le ?_; show 1 + _ < _; omega, ?_⟩
   rw [show (ByteArray.mk #[46]) = toBA [46] from rfl, toBA_app]; (conv=>whnf); (repeat (refine step_go [] ?_;conv=>whnf))
   refine ⟨by rw [sz_toBA, sz_toBA]; refine str_le ?_; simp; omega, ?_⟩
   rw [toBA_app]; (conv=>whnf); (repeat (refine step_go [] ?_;conv=>whnf))
   refine ⟨by rw [sz_toBA]; refine str_le ?_; simp; show _ + 1 < _; omega, ?_⟩
   rw [show (ByteArray.mk #[37]) = toBA [37] from rfl, toBA_app]; (conv=>whnf); (repeat (refine step_go [] ?_;conv=>whnf))
   rw [show rateS v = (sgn v ++ dg (v.natAbs / 10000000) ++ ([46] ++ trimZ (dgw 7 (v.natAbs % 10000000)))) ++ [37] by unfold rateS fracS; rw [if_neg g]; rfl] at h
   exact h
 · have g : v.natAbs % 10000000 = 0 := by simp at g; omega
   (conv=>whnf); (repeat (refine step_go [] ?_;conv=>whnf))
   refine ⟨by rw [sz_toBA]; refine str_le ?_; simp; show _ + 1 < _; omega, ?_⟩
   rw [show (ByteArray.mk #[37]) = toBA [37] from rfl, toBA_app]; (conv=>whnf); (repeat (refine step_go [] ?_;conv=>whnf))
   rw [show rateS v = (sgn v ++ dg (v.natAbs / 10000000)) ++ [37] by unfold rateS fracS; rw [if_pos g]; simp] at h
   exact h
end B10

namespace B11
open Go Go.Proofs VL B1 D1 B2 B3 B4 B5 B6 B7 B8 B9 B10
theorem c_must (b : Bool) (e : Int) (K) (h0 : b = true -> K (.ret (.tup [])) []) (h1 : b = false -> K (.pan (.ifc 206 (.agg [.int .i64 e]))) []) : VCall Tryz.prog 171 [.bool b, .int .i64 e] [] K := by
 refine call_fun [] 0 Tryz.func171 (by rfl) (by rfl) ?_; (conv=>whnf); (repeat (refine step_go [] ?_;conv=>whnf))
 refine two (fun g => ?_) (fun g => ?_)
 · (conv=>whnf); (repeat (refine step_go [] ?_;conv=>whnf))
   exact h1 (by simpa using g)
 · (conv=>whnf); (repeat (refine step_go [] ?_;conv=>whnf))
   exact h0 (by simpa using g)
theorem c_fits (v : Int) (K) (h : K (.ret (.bool (decide (-1000000000000000 <= v /\ v <= 1000000000000000)))) []) : VCall Tryz.prog 176 [.int .i64 v] [] K := by
 refine call_fun [] 0 Tryz.func176 (by rfl) (by rfl) ?_; (conv=>whnf); (repeat (refine step_go [] ?_;conv=>whnf))
 refine two (fun g => ?_) (fun g => ?_)
 · have g : -1000000000000000 <= v := by simpa using g
   (conv=>whnf); (repeat (refine step_go [] ?_;conv=>whnf))
   rw [show decide (-1000000000000000 <= v /\ v <= 1000000000000000) = decide (v <= 1000000000000000) by simp [g]] at h
   exact h
 · have g : ¬ -1000000000000000 <= v := by simpa using g
   (conv=>whnf); (repeat (refine step_go [] ?_;conv=>whnf))
   rw [show decide (-1000000000000000 <= v /\ v <= 1000000000000000) = false by simp [g]] at h
   exact h
theorem d_caught0 (x y : Int) (K) (h : K false [.cells true 2 [.int .i64 x], .cells true 36 [.int .i64 y]]) : VCallD Tryz.prog 169 [.ptr 0 0, .ptr 1 0] [.cells true 2 [.int .i64 x], .cells true 36 [.int .i64 y]] none K := by
 refine calld_fun [] 2 Tryz.func169 (by rfl) (by rfl) ?_
 conv=>whnf
 refine ⟨rfl, ?_⟩
 (conv=>whnf); (repeat (refine step_go [] ?_;conv=>whnf))
 exact h
theorem d_caught1 (x y e : Int) (K) (h : K true [.cells true 2 [.int .i64 0], .cells true 36 [.int .i64 e]]) : VCallD Tryz.prog 169 [.ptr 0 0, .ptr 1 0] [.cells true 2 [.int .i64 x], .cells true 36 [.int .i64 y]] (some (.ifc 206 (.agg [.int .i64 e]))) K := by
 refine calld_fun [] 2 Tryz.func169 (by rfl) (by rfl) ?_
 conv=>whnf
 refine ⟨rfl, ?_⟩
 (conv=>whnf); (repeat (refine step_go [] ?_;conv=>whnf))
 (refine ⟨by decide +kernel, ?_⟩;conv=>whnf)
 (repeat (refine And.intro rfl ?_;conv=>whnf))
 exact h
def numOk (l : List Int) (n : Nat) : Prop := 1 <= l.length /\ l.length <= n /\ ∀ x ∈ l, Dig x
instance (l n) : Decidable (numOk l n) := inferInstanceAs (Decidable (_ /\ _ /\ _))
def sat (v : Nat) : Nat := min v 100000000000000000
theorem sat_step (v d : Nat) (hd : d <= 9) : min (10 * min (sat v) 10000000000000000 + d) 100000000000000000 = sat (10 * v + d) := by unfold sat; omega
theorem vl_take {l : List Int} {i : Nat} (hi : i < l.length) : vl (l.take (i + 1)) = 10 * vl (l.take i) + (l[i] - 48).toNat := by
 rw [List.take_succ_eq_append_getElem hi, vl_snoc]
theorem wrapu8' {x : Int} (h : 0 <= x) (h2 : x < 256) : IntKind.u8.wrap x = x := by rw [wrapu8]; omega
theorem c_number (l : List Int) (hb : ∀ x ∈ l, 0 <= x /\ x < 256) (hl : l.length < 1000000) (n : Nat) (hn : n < 1000) (K) (h0 : numOk l n -> K (.ret (.int .i64 (sat (vl l) : Nat))) [])
 (h1 : ¬ numOk l n -> K (.pan (.ifc 206 (.agg [.int .i64 4]))) []) : VCall Tryz.prog 175 [.str (toBA l), .int .i64 (n : Int)] [] K := by
 have hbl := bL_len l
 refine call_fun [] 0 Tryz.func175 (by rfl) (by rfl) ?_; (conv=>whnf); (repeat (refine step_go [] ?_;conv=>whnf))
 refine two (fun g => ?_) (fun g => ?_)
 all_goals have g' := g
 all_goals simp [sz_toBA] at g
 · (conv=>whnf); (repeat (refine step_go [] ?_;conv=>whnf))
   refine c_must _ _ _ (fun g2 => ?_) (fun g2 => ?_)
   case refine_2 =>
    have g2 : n < l.length := by simp [sz_toBA] at g2; omega
    (conv=>whnf); (repeat (refine step_go [] ?_;conv=>whnf))
    exact h1 fun h => by have := h.2.1; omega
   have g2 : l.length <= n := by simp [sz_toBA] at g2; omega
   (conv=>whnf); (repeat (refine step_go [] ?_;conv=>whnf))
   rw [← toBA_V hb]
   let S : Nat -> St := fun i => ⟨(.str (toBA l) :: .int .i64 (n : Int) :: .undef :: .undef :: .undef :: .int .i64 (sat (vl (l.take i)) : Nat) :: .undef :: .undef :: .undef :: .undef :: .undef :: .undef :: .undef :: .undef :: .undef :: .undef :: .undef :: .undef :: .undef :: .sl (bL l) .no :: .int .i64 l.length :: .int .i64 i :: .undef :: .undef :: .undef :: .undef :: .undef :: .undef :: .undef :: .undef :: .undef :: .undef :: .undef :: .undef :: .undef :: .undef :: .undef :: .undef :: .undef :: .undef :: .undef :: .undef :: []), [], 0, []⟩
   refine VLoop.enter (s' := S 0) (weak_of ?_ .nil rfl rfl rfl) (VLoop.indW S (fun i => l.length - i) (fun i => i <= l.length /\ ∀ j, (h : j < i) -> (h' : j < l.length) -> Dig l[j]) ?_ 0 ⟨by omega, fun j h => by omega⟩)
   · repeat' first
      | exact VWs.nil
      | refine VWs.cons VW.undef ?_
      | refine VWs.cons (VW.eq rfl) ?_
      | refine VWs.cons (VW.eq (by rw [hbl])) ?_
   rintro i ⟨hi, hd⟩ ih
   refine loop_round [] ?_; (conv=>whnf); (repeat (refine step_go [] ?_;conv=>whnf))
   refine two (fun g3 => ?_) (fun g3 => ?_)
   · have hil : i < l.length := by simp at g3; omega
     have hget : (bL l)[(i : Int).toNat]? = some (.int .u8 (l[i])) := by rw [Int.toNat_natCast, bL_get, List.getElem?_eq_getElem hil]; rfl
     have hby := hb l[i] (List.getElem_mem hil)
     (conv=>whnf); (repeat (refine step_go [] ?_;conv=>whnf))
     refine ⟨by omega, _, hget, rfl, ?_⟩; (conv=>whnf); (repeat (refine step_go [] ?_;conv=>whnf))
     have hbad : ¬ Dig l[i] -> K (Out.pan (.ifc 206 (.agg [.int .i64 4]))) [] := fun h => h1 fun hk => h (hk.2.2 _ (List.getElem_mem hil))
     refine two (fun g4 => ?_) (fun g4 => ?_)
     · have g4 : 48 <= l[i] := by simpa using g4
       (conv=>whnf); (repeat (refine step_go [] ?_;conv=>whnf))
       refine c_must _ _ _ (fun g5 => ?_) (fun g5 => ?_)
       case refine_2 =>
        have g5 : 57 < l[i] := by simpa using g5
        (conv=>whnf); (repeat (refine step_go [] ?_;conv=>whnf))
        exact hbad fun h => by unfold Dig at h; omega
       have g5 : l[i] <= 57 := by simpa using g5
       (conv=>whnf); (repeat (refine step_go [] ?_;conv=>whnf))
       refine ⟨rfl, ?_⟩; (conv=>whnf); (repeat (refine step_go [] ?_;conv=>whnf))
       refine ⟨rfl, ?_⟩; (conv=>whnf); (repeat (refine step_go [] ?_;conv=>whnf))
       refine ⟨S (i + 1), weak_of ?_ .nil rfl rfl rfl, ih (i + 1) ⟨by omega, fun j hj hj' => ?_⟩ (by omega)⟩
       · have e : (if (100000000000000000 : Int) < IntKind.i64.wrap (IntKind.i64.wrap (10 * (if (10000000000000000 : Int) < ((sat (vl (l.take i)) : Nat) : Int) then (10000000000000000 : Int) else ((sat (vl (l.take i)) : Nat) : Int))) + IntKind.i64.wrap (IntKind.u8.wrap (l[i] - 48))) then (100000000000000000 : Int) else IntKind.i64.wrap (IntKind.i64.wrap (10 * (if (10000000000000000 : Int) < ((sat (vl (l.take i)) : Nat) : Int) then (10000000000000000 : Int) else ((sat (vl (l.take i)) : Nat) : Int))) + IntKind.i64.wrap (IntKind.u8.wrap (l[i] - 48)))) = ((sat (vl (l.take (i + 1))) : Nat) : Int) := by
          rw [vl_take hil, ← sat_step _ _ (by omega)]
          have hs : sat (vl (l.take i)) <= 100000000000000000 := by unfold sat; omega
          generalize sat (vl (l.take i)) = q at hs
          rw [wrapu8' (by omega) (by omega), wrap64 (x := l[i] - 48) (by omega) (by omega)]
          have e1 : (if (10000000000000000 : Int) < ((q : Nat) : Int) then (10000000000000000 : Int) else ((q : Nat) : Int)) = ((min q 10000000000000000 : Nat) : Int) := by split <;> omega
          rw [e1, wrap64 (x := 10 * ((min q 10000000000000000 : Nat) : Int)) (by omega) (by omega), wrap64 (by omega) (by omega)]
          split <;> omega
         repeat' first
          | exact VWs.nil
          | refine VWs.cons VW.undef ?_
          | refine VWs.cons (VW.eq rfl) ?_
          | refine VWs.cons (VW.eq (congrArg (V.int .i64) (by rw [wrap64 (by omega) (by omega)]; omega))) ?_
          | refine VWs.cons (VW.eq (congrArg (V.int .i64) e)) ?_
       · by_cases hji : j < i
         · exact hd j hji hj'
         · have : j = i := by omega
           subst this
           exact ⟨g4, g5⟩
     · have g4 : l[i] < 48 := by simpa using g4
       (conv=>whnf); (repeat (refine step_go [] ?_;conv=>whnf))
       refine c_must _ _ _ (fun g5 => by cases g5) (fun g5 => ?_)
       (conv=>whnf); (repeat (refine step_go [] ?_;conv=>whnf))
       exact hbad fun h => by unfold Dig at h; omega
   · have hil : i = l.length := by simp at g3; omega
     subst hil
     (conv=>whnf); (repeat (refine step_go [] ?_;conv=>whnf))
     refine ⟨_, Weak.refl, ?_⟩; (conv=>whnf); (repeat (refine step_go [] ?_;conv=>whnf))
     rw [List.take_length]
     refine h0 ⟨by omega, g2, fun x hx => ?_⟩
     obtain ⟨j, hj, rfl⟩ := List.mem_iff_getElem.1 hx
     exact hd j hj hj
 · (conv=>whnf); (repeat (refine step_go [] ?_;conv=>whnf))
   refine c_must _ _ _ (fun g5 => by cases g5) (fun g5 => ?_)
   (conv=>whnf); (repeat (refine step_go [] ?_;conv=>whnf))
   exact h1 fun hk => by have := hk.1; omega
end B11

namespace B12
open Go Go.Proofs VL B1 D1 B2 B3 B4 B5 B6 B7 B8 B9 B10 B11
def wholeOk (l : List Int) : Prop := numOk l 20 /\ (l.length = 1 \/ l.head? ≠ some 48)
instance (l) : Decidable (wholeOk l) := inferInstanceAs (Decidable (_ /\ _))
theorem c_whole (l : List Int) (hb : ∀ x ∈ l, 0 <= x /\ x < 256) (hl : l.length < 1000000) (K) (h0 : wholeOk l -> K (.ret (.int .i64 (sat (vl l) : Nat))) [])
 (h1 : ¬ wholeOk l -> K (.pan (.ifc 206 (.agg [.int .i64 4]))) []) : VCall Tryz.prog 174 [.str (toBA l)] [] K := by
 refine call_fun [] 0 Tryz.func174 (by rfl) (by rfl) ?_; (conv=>whnf); (repeat (refine step_go [] ?_;conv=>whnf))
 refine c_number l hb hl 20 (by omega) _ (fun g => ?_) (fun g => ?_)
 case refine_2 => (conv=>whnf); (repeat (refine step_go [] ?_;conv=>whnf)); exact h1 fun h => g h.1
 (conv=>whnf); (repeat (refine step_go [] ?_;conv=>whnf))
 refine two (fun g2 => ?_) (fun g2 => ?_)
 · have g2 : l.length = 1 := by have := beq_iff_eq.1 g2; rw [sz_toBA] at this; omega
   (conv=>whnf); (repeat (refine step_go [] ?_;conv=>whnf))
   refine c_must _ _ _ (fun g5 => ?_) (fun g5 => by cases g5)
   (conv=>whnf); (repeat (refine step_go [] ?_;conv=>whnf))
   exact h0 ⟨g, .inl g2⟩
 · have g2 : l.length ≠ 1 := by intro e; rw [sz_toBA, e] at g2; simp at g2
   have hl0 := g.1
   obtain ⟨x, r, rfl⟩ : ∃ x r, l = x :: r := by cases l with | nil => simp at hl0 | cons x r => exact ⟨x, r, rfl⟩
   (conv=>whnf); (repeat (refine step_go [] ?_;conv=>whnf))
   refine idx_str (x := x) (by omega) (by rw [sB_toBA hb]; rfl) fun c hc => ?_
   rw [hc]; (conv=>whnf); (repeat (refine step_go [] ?_;conv=>whnf))
   refine c_must _ _ _ (fun g5 => ?_) (fun g5 => ?_)
   · have g5 : x ≠ 48 := by simpa using g5
     (conv=>whnf); (repeat (refine step_go [] ?_;conv=>whnf))
     exact h0 ⟨g, .inr (by simpa using g5)⟩
   · have g5 : x = 48 := by simpa using g5
     (conv=>whnf); (repeat (refine step_go [] ?_;conv=>whnf))
     exact h1 fun h => by
      rcases h.2 with h | h
      · exact g2 h
      · simp [g5] at h
def aheadT (t : List Int) : List Int := t.takeWhile (· != 46)
def behind (t : List Int) : List Int := (t.dropWhile (· != 46)).drop 1
def unsg (l : List Int) : List Int := if hasP l [45] then l.drop 1 else l
def moneyOk (t : List Int) : Prop := t.contains 46 = true /\ (behind t).length = 2 /\ wholeOk (aheadT t) /\ numOk (behind t) 2
instance (l) : Decidable (moneyOk l) := inferInstanceAs (Decidable (_ /\ _ /\ _ /\ _))
def moneyN (t : List Int) : Nat := vl (aheadT t) * 100 + vl (behind t)
def takeM (l : List Int) : Int × Int :=
 if ¬ moneyOk (unsg l) then (0, 4) else
 if hasP l [45] = true /\ moneyN (unsg l) = 0 then (0, 4) else
 if 1000000000000000 < moneyN (unsg l) then (0, 3) else
 (if hasP l [45] = true then -(moneyN (unsg l) : Int) else (moneyN (unsg l) : Int), 0)
theorem unsg_byte {l : List Int} (h : ∀ x ∈ l, 0 <= x /\ x < 256) : ∀ x ∈ unsg l, 0 <= x /\ x < 256 := by
 unfold unsg; split
 · exact fun x hx => h x (List.mem_of_mem_drop hx)
 · exact h
theorem unsg_len (l : List Int) : (unsg l).length <= l.length := by unfold unsg; split <;> simp
theorem ahead_sub (t : List Int) : ∀ x ∈ aheadT t, x ∈ t := fun x hx => (List.takeWhile_sublist _).subset hx
theorem behind_sub (t : List Int) : ∀ x ∈ behind t, x ∈ t := fun x hx => (List.dropWhile_sublist _).subset (List.mem_of_mem_drop hx)
theorem ahead_len (t : List Int) : (aheadT t).length <= t.length := (List.takeWhile_sublist _).length_le
theorem behind_len (t : List Int) : (behind t).length <= t.length := by
 unfold behind; rw [List.length_drop]
 have := (List.dropWhile_sublist (fun x : Int => x != 46) (l := t)).length_le
 omega
theorem vl_two {l : List Int} (h : l.length = 2) (hd : ∀ x ∈ l, Dig x) : vl l < 100 := by have := vl_lt l hd; rw [h] at this; omega
set_option maxHeartbeats 4000000 in
theorem c_takeM (s : ByteArray) (hs : s.size < 1000000) (K) (h : K (.ret (.tup [.int .i64 (takeM (sB s)).1, .int .i64 (takeM (sB s)).2])) []) : VCall Tryz.prog 150 [.str s] [] K := by
 have hb := sB_byte s
 have hl := sB_len s
 have hub := unsg_byte hb
 have hul := unsg_len (sB s)
 have hab : ∀ x ∈ aheadT (unsg (sB s)), 0 <= x /\ x < 256 := fun x hx => hub x (ahead_sub _ x hx)
 have hbb : ∀ x ∈ behind (unsg (sB s)), 0 <= x /\ x < 256 := fun x hx => hub x (behind_sub _ x hx)
 have hal := ahead_len (unsg (sB s))
 have hbl := behind_len (unsg (sB s))
 have hfail : ¬ moneyOk (unsg (sB s)) -> K (.ret (.tup [.int .i64 0, .int .i64 4])) [] := fun hn => by
  have : takeM (sB s) = (0, 4) := by unfold takeM; rw [if_pos hn]
  rw [this] at h; exact h
 refine VCall.weak (call_fun [] 0 Tryz.func150 (by rfl) (by rfl) ?_)
 (conv=>whnf); (repeat (refine step_go [] ?_;conv=>whnf))
 refine c_cutP s _ _ ?_; (conv=>whnf); (repeat (refine step_go [] ?_;conv=>whnf))
 rw [show sB (ByteArray.mk #[45]) = [45] from rfl]
 rw [show (if hasP (sB s) [45] = true then List.drop [(45 : Int)].length (sB s) else sB s) = unsg (sB s) from rfl]
 refine c_cut _ (by rw [sz_toBA]; omega) _ ?_; (conv=>whnf); (repeat (refine step_go [] ?_;conv=>whnf))
 rw [sB_toBA hub]
 rw [show List.takeWhile (fun x => x != 46) (unsg (sB s)) = aheadT (unsg (sB s)) from rfl, show List.drop 1 (List.dropWhile (fun x => x != 46) (unsg (sB s))) = behind (unsg (sB s)) from rfl]
 refine two (fun g => ?_) (fun g => ?_)
 case refine_2 =>
  (conv=>whnf); (repeat (refine step_go [] ?_;conv=>whnf))
  refine c_must _ _ _ (fun g5 => by cases g5) (fun g5 => ?_)
  (conv=>whnf); (repeat first | (refine step_go [] ?_;conv=>whnf) | (refine d_caught1 _ _ _ _ ?_;conv=>whnf))
  exact ⟨_, _, Weak.refl, hfail fun hk => by rw [hk.1] at g; cases g⟩
 (conv=>whnf); (repeat (refine step_go [] ?_;conv=>whnf))
 refine c_must _ _ _ (fun g2 => ?_) (fun g2 => ?_)
 case refine_2 =>
  (conv=>whnf); (repeat first | (refine step_go [] ?_;conv=>whnf) | (refine d_caught1 _ _ _ _ ?_;conv=>whnf))
  exact ⟨_, _, Weak.refl, hfail fun hk => by rw [sz_toBA, hk.2.1] at g2; cases g2⟩
 have g2 : (behind (unsg (sB s))).length = 2 := by have := beq_iff_eq.1 g2; rw [sz_toBA] at this; omega
 (conv=>whnf); (repeat (refine step_go [] ?_;conv=>whnf))
 refine c_whole _ hab (by omega) _ (fun g3 => ?_) (fun g3 => ?_)
 case refine_2 =>
  (conv=>whnf); (repeat first | (refine step_go [] ?_;conv=>whnf) | (refine d_caught1 _ _ _ _ ?_;conv=>whnf))
  exact ⟨_, _, Weak.refl, hfail fun hk => g3 hk.2.2.1⟩
 (conv=>whnf); (repeat (refine step_go [] ?_;conv=>whnf))
 refine c_number _ hbb (by omega) 2 (by omega) _ (fun g4 => ?_) (fun g4 => ?_)
 case refine_2 =>
  (conv=>whnf); (repeat first | (refine step_go [] ?_;conv=>whnf) | (refine d_caught1 _ _ _ _ ?_;conv=>whnf))
  exact ⟨_, _, Weak.refl, hfail fun hk => g4 hk.2.2.2⟩
 have hok : moneyOk (unsg (sB s)) := ⟨g, g2, g3, g4⟩
 have hv2 := vl_two g2 g4.2.2
 have hs2 : sat (vl (behind (unsg (sB s)))) = vl (behind (unsg (sB s))) := by unfold sat; omega
 have hs1 : sat (vl (aheadT (unsg (sB s)))) <= 100000000000000000 := by unfold sat; omega
 have hN : moneyN (unsg (sB s)) = vl (aheadT (unsg (sB s))) * 100 + vl (behind (unsg (sB s))) := rfl
 rw [hs2]
 have hzero : hasP (sB s) [45] = true -> moneyN (unsg (sB s)) = 0 -> K (.ret (.tup [.int .i64 0, .int .i64 4])) [] := fun h1 h2 => by
  have : takeM (sB s) = (0, 4) := by unfold takeM; rw [if_neg (by simpa using hok), if_pos ⟨h1, h2⟩]
  rw [this] at h; exact h
 have hbig : (hasP (sB s) [45] = true -> moneyN (unsg (sB s)) ≠ 0) -> 1000000000000000 < moneyN (unsg (sB s)) -> K (.ret (.tup [.int .i64 0, .int .i64 3])) [] := fun h1 h2 => by
  have : takeM (sB s) = (0, 3) := by unfold takeM; rw [if_neg (by simpa using hok), if_neg (fun h => h1 h.1 h.2), if_pos h2]
  rw [this] at h; exact h
 have hgood : (hasP (sB s) [45] = true -> moneyN (unsg (sB s)) ≠ 0) -> moneyN (unsg (sB s)) <= 1000000000000000 -> K (.ret (.tup [.int .i64 (if hasP (sB s) [45] = true then -(moneyN (unsg (sB s)) : Int) else (moneyN (unsg (sB s)) : Int)), .int .i64 0])) [] := fun h1 h2 => by
  have : takeM (sB s) = (if hasP (sB s) [45] = true then -(moneyN (unsg (sB s)) : Int) else (moneyN (unsg (sB s)) : Int), 0) := by unfold takeM; rw [if_neg (by simpa using hok), if_neg (fun h => h1 h.1 h.2), if_neg (by omega)]
  rw [this] at h; exact h
 have rest : (hasP (sB s) [45] = true -> moneyN (unsg (sB s)) ≠ 0) -> True := fun _ => trivial
 clear h hok hfail
 generalize moneyN (unsg (sB s)) = N at *
 generalize hA : vl (aheadT (unsg (sB s))) = A at *
 generalize hB : vl (behind (unsg (sB s))) = B at *
 generalize hasP (sB s) [45] = p at *
 cases p with
 | false =>
   (conv=>whnf); (repeat (refine step_go [] ?_;conv=>whnf))
   refine c_must _ _ _ (fun g6 => ?_) (fun g6 => by cases g6)
   (conv=>whnf); (repeat (refine step_go [] ?_;conv=>whnf))
   have hpre : ((false : Bool) = true -> N ≠ 0) := fun h => by cases h
   refine c_must _ _ _ (fun g7 => ?_) (fun g7 => ?_)
   case refine_2 =>
    have g7 : 10000000000000 < sat A := by have := of_decide_eq_false g7; omega
    (conv=>whnf); (repeat first | (refine step_go [] ?_;conv=>whnf) | (refine d_caught1 _ _ _ _ ?_;conv=>whnf))
    exact ⟨_, _, Weak.refl, hbig hpre (by unfold sat at g7; omega)⟩
   have g7 : sat A <= 10000000000000 := by have := of_decide_eq_true g7; omega
   have hAs : sat A = A := by unfold sat at g7 ⊢; omega
   rw [hAs]; (conv=>whnf); (repeat (refine step_go [] ?_;conv=>whnf))
   rw [show IntKind.i64.wrap (IntKind.i64.wrap ((A : Int) * 100) + (B : Int)) = (N : Int) by rw [wrap64 (x := (A : Int) * 100) (by omega) (by omega), wrap64 (by omega) (by omega)]; omega]
   refine c_fits _ _ ?_; (conv=>whnf); (repeat (refine step_go [] ?_;conv=>whnf))
   refine c_must _ _ _ (fun g8 => ?_) (fun g8 => ?_)
   case refine_2 =>
    have g8 := of_decide_eq_false g8
    (conv=>whnf); (repeat first | (refine step_go [] ?_;conv=>whnf) | (refine d_caught1 _ _ _ _ ?_;conv=>whnf))
    exact ⟨_, _, Weak.refl, hbig hpre (by omega)⟩
   have g8 := of_decide_eq_true g8
   (conv=>whnf); (repeat first | (refine step_go [] ?_;conv=>whnf) | (refine d_caught0 _ _ _ ?_;conv=>whnf))
   exact ⟨_, _, Weak.refl, hgood hpre (by omega)⟩
 | true =>
   (conv=>whnf); (repeat (refine step_go [] ?_;conv=>whnf))
   refine two (fun g5 => ?_) (fun g5 => ?_)
   · have g5 : 0 < sat A := by have := of_decide_eq_true g5; omega
     (conv=>whnf); (repeat (refine step_go [] ?_;conv=>whnf))
     refine c_must _ _ _ (fun g6 => ?_) (fun g6 => by cases g6)
     (conv=>whnf); (repeat (refine step_go [] ?_;conv=>whnf))
     have hpre : ((true : Bool) = true -> N ≠ 0) := fun _ => by unfold sat at g5; omega
     refine c_must _ _ _ (fun g7 => ?_) (fun g7 => ?_)
     case refine_2 =>
      have g7 : 10000000000000 < sat A := by have := of_decide_eq_false g7; omega
      (conv=>whnf); (repeat first | (refine step_go [] ?_;conv=>whnf) | (refine d_caught1 _ _ _ _ ?_;conv=>whnf))
      exact ⟨_, _, Weak.refl, hbig hpre (by unfold sat at g7; omega)⟩
     have g7 : sat A <= 10000000000000 := by have := of_decide_eq_true g7; omega
     have hAs : sat A = A := by unfold sat at g7 ⊢; omega
     rw [hAs]; (conv=>whnf); (repeat (refine step_go [] ?_;conv=>whnf))
     rw [show IntKind.i64.wrap (IntKind.i64.wrap ((A : Int) * 100) + (B : Int)) = (N : Int) by rw [wrap64 (x := (A : Int) * 100) (by omega) (by omega), wrap64 (by omega) (by omega)]; omega]
     refine c_fits _ _ ?_; (conv=>whnf); (repeat (refine step_go [] ?_;conv=>whnf))
     refine c_must _ _ _ (fun g8 => ?_) (fun g8 => ?_)
     case refine_2 =>
      have g8 := of_decide_eq_false g8
      (conv=>whnf); (repeat first | (refine step_go [] ?_;conv=>whnf) | (refine d_caught1 _ _ _ _ ?_;conv=>whnf))
      exact ⟨_, _, Weak.refl, hbig hpre (by omega)⟩
     have g8 := of_decide_eq_true g8
     (conv=>whnf); (repeat first | (refine step_go [] ?_;conv=>whnf) | (refine d_caught0 _ _ _ ?_;conv=>whnf))
     rw [show IntKind.i64.wrap (0 - (N : Int)) = -(N : Int) by rw [wrap64 (by omega) (by omega)]; omega]
     exact ⟨_, _, Weak.refl, hgood hpre (by omega)⟩
   · have g5 : sat A = 0 := by have := of_decide_eq_false g5; omega
     (conv=>whnf); (repeat (refine step_go [] ?_;conv=>whnf))
     refine c_must _ _ _ (fun g6 => ?_) (fun g6 => ?_)
     case refine_2 =>
      have g6 : B = 0 := by have := of_decide_eq_false g6; omega
      (conv=>whnf); (repeat first | (refine step_go [] ?_;conv=>whnf) | (refine d_caught1 _ _ _ _ ?_;conv=>whnf))
      exact ⟨_, _, Weak.refl, hzero rfl (by unfold sat at g5; omega)⟩
     have g6 : 0 < B := by have := of_decide_eq_true g6; omega
     (conv=>whnf); (repeat (refine step_go [] ?_;conv=>whnf))
     have hpre : ((true : Bool) = true -> N ≠ 0) := fun _ => by omega
     refine c_must _ _ _ (fun g7 => ?_) (fun g7 => ?_)
     case refine_2 =>
      have g7 : 10000000000000 < sat A := by have := of_decide_eq_false g7; omega
      (conv=>whnf); (repeat first | (refine step_go [] ?_;conv=>whnf) | (refine d_caught1 _ _ _ _ ?_;conv=>whnf))
      exact ⟨_, _, Weak.refl, hbig hpre (by unfold sat at g7; omega)⟩
     have g7 : sat A <= 10000000000000 := by have := of_decide_eq_true g7; omega
     have hAs : sat A = A := by unfold sat at g7 ⊢; omega
     rw [hAs]; (conv=>whnf); (repeat (refine step_go [] ?_;conv=>whnf))
     rw [show IntKind.i64.wrap (IntKind.i64.wrap ((A : Int) * 100) + (B : Int)) = (N : Int) by rw [wrap64 (x := (A : Int) * 100) (by omega) (by omega), wrap64 (by omega) (by omega)]; omega]
     refine c_fits _ _ ?_; (conv=>whnf); (repeat (refine step_go [] ?_;conv=>whnf))
     refine c_must _ _ _ (fun g8 => ?_) (fun g8 => ?_)
     case refine_2 =>
      have g8 := of_decide_eq_false g8
      (conv=>whnf); (repeat first | (refine step_go [] ?_;conv=>whnf) | (refine d_caught1 _ _ _ _ ?_;conv=>whnf))
      exact ⟨_, _, Weak.refl, hbig hpre (by omega)⟩
     have g8 := of_decide_eq_true g8
     (conv=>whnf); (repeat first | (refine step_go [] ?_;conv=>whnf) | (refine d_caught0 _ _ _ ?_;conv=>whnf))
     rw [show IntKind.i64.wrap (0 - (N : Int)) = -(N : Int) by rw [wrap64 (by omega) (by omega)]; omega]
     exact ⟨_, _, Weak.refl, hgood hpre (by omega)⟩
end B12

namespace B13
open Go Go.Proofs VL B1 D1 B2 B3 B4 B5 B6 B7 B8 B9 B10 B11 B12
def unpc (l : List Int) : List Int := l.take (l.length - 1)
def fracOk (b : List Int) : Prop := 1 <= b.length /\ b.length <= 7 /\ b.getLast? ≠ some 48 /\ ∀ x ∈ b, Dig x
instance (b) : Decidable (fracOk b) := inferInstanceAs (Decidable (_ /\ _ /\ _ /\ _))
def fracN (b : List Int) : Nat := vl (b ++ List.replicate (7 - b.length) 48)
def rateOk (t : List Int) : Prop := wholeOk (aheadT t) /\ vl (aheadT t) <= 1000 /\ (t.contains 46 = true -> fracOk (behind t))
instance (l) : Decidable (rateOk l) := inferInstanceAs (Decidable (_ /\ _ /\ (_ -> _)))
def rateN (t : List Int) : Nat := vl (aheadT t) * 10000000 + (if t.contains 46 = true then fracN (behind t) else 0)
def takeR (l : List Int) : Int × Int :=
 if hasS l [37] = true /\ rateOk (unsg (unpc l)) /\ rateN (unsg (unpc l)) <= 10000000000 /\ (hasP (unpc l) [45] = true -> 0 < rateN (unsg (unpc l))) then
  (if hasP (unpc l) [45] = true then -(rateN (unsg (unpc l)) : Int) else (rateN (unsg (unpc l)) : Int), 0)
 else (0, 4)
theorem unpc_byte {l : List Int} (h : ∀ x ∈ l, 0 <= x /\ x < 256) : ∀ x ∈ unpc l, 0 <= x /\ x < 256 := fun x hx => h x (List.mem_of_mem_take hx)
theorem unpc_len (l : List Int) : (unpc l).length <= l.length := by unfold unpc; simp
theorem last_get {b : List Int} {n : Nat} (h : b.length = n + 1) : ∃ x, b[n]? = some x /\ b.getLast? = some x := by
 refine ⟨b[n], List.getElem?_eq_getElem (by omega), ?_⟩
 rw [List.getLast?_eq_getElem?, show b.length - 1 = n by omega, List.getElem?_eq_getElem (by omega)]
set_option maxHeartbeats 4000000 in
theorem c_takeR (s : ByteArray) (hs : s.size < 1000000) (K) (h : K (.ret (.tup [.int .i64 (takeR (sB s)).1, .int .i64 (takeR (sB s)).2])) []) : VCall Tryz.prog 149 [.str s] [] K := by
 have hb := sB_byte s
 have hl := sB_len s
 have hpb := unpc_byte hb
 have hpl := unpc_len (sB s)
 have hub := unsg_byte hpb
 have hul := unsg_len (unpc (sB s))
 have hfail : ¬ (hasS (sB s) [37] = true /\ rateOk (unsg (unpc (sB s))) /\ rateN (unsg (unpc (sB s))) <= 10000000000 /\ (hasP (unpc (sB s)) [45] = true -> 0 < rateN (unsg (unpc (sB s))))) -> K (.ret (.tup [.int .i64 0, .int .i64 4])) [] := fun hn => by
  have : takeR (sB s) = (0, 4) := by unfold takeR; rw [if_neg hn]
  rw [this] at h; exact h
 have hgood : (hasS (sB s) [37] = true /\ rateOk (unsg (unpc (sB s))) /\ rateN (unsg (unpc (sB s))) <= 10000000000 /\ (hasP (unpc (sB s)) [45] = true -> 0 < rateN (unsg (unpc (sB s))))) -> K (.ret (.tup [.int .i64 (if hasP (unpc (sB s)) [45] = true then -(rateN (unsg (unpc (sB s))) : Int) else (rateN (unsg (unpc (sB s))) : Int)), .int .i64 0])) [] := fun hn => by
  have : takeR (sB s) = (if hasP (unpc (sB s)) [45] = true then -(rateN (unsg (unpc (sB s))) : Int) else (rateN (unsg (unpc (sB s))) : Int), 0) := by unfold takeR; rw [if_pos hn]
  rw [this] at h; exact h
 clear h
 refine VCall.weak (call_fun [] 0 Tryz.func149 (by rfl) (by rfl) ?_)
 (conv=>whnf); (repeat (refine step_go [] ?_;conv=>whnf))
 refine c_cutS s _ _ (by omega) ?_; (conv=>whnf); (repeat (refine step_go [] ?_;conv=>whnf))
 rw [show sB (ByteArray.mk #[37]) = [37] from rfl]
 refine c_must _ _ _ (fun g => ?_) (fun g => ?_)
 case refine_2 =>
  (conv=>whnf); (repeat first | (refine step_go [] ?_;conv=>whnf) | (refine d_caught1 _ _ _ _ ?_;conv=>whnf))
  exact ⟨_, _, Weak.refl, hfail fun hk => by rw [hk.1] at g; cases g⟩
 rw [g]
 rw [show (if true = true then List.take (s.size - (ByteArray.mk #[37]).size) (sB s) else sB s) = unpc (sB s) by rw [if_pos rfl]; unfold unpc; rw [hl]; rfl]
 (conv=>whnf); (repeat (refine step_go [] ?_;conv=>whnf))
 refine c_cutP _ _ _ ?_; (conv=>whnf); (repeat (refine step_go [] ?_;conv=>whnf))
 rw [sB_toBA hpb, show sB (ByteArray.mk #[45]) = [45] from rfl]
 rw [show (if hasP (unpc (sB s)) [45] = true then List.drop [(45 : Int)].length (unpc (sB s)) else unpc (sB s)) = unsg (unpc (sB s)) from rfl]
 generalize unsg (unpc (sB s)) = t at *
 generalize hasP (unpc (sB s)) [45] = neg at *
 have hab : ∀ x ∈ aheadT t, 0 <= x /\ x < 256 := fun x hx => hub x (ahead_sub _ x hx)
 have hbb : ∀ x ∈ behind t, 0 <= x /\ x < 256 := fun x hx => hub x (behind_sub _ x hx)
 have hal := ahead_len t
 have hbl := behind_len t
 refine c_cut _ (by rw [sz_toBA]; omega) _ ?_; (conv=>whnf); (repeat (refine step_go [] ?_;conv=>whnf))
 rw [sB_toBA hub]
 rw [show List.takeWhile (fun x => x != 46) t = aheadT t from rfl, show List.drop 1 (List.dropWhile (fun x => x != 46) t) = behind t from rfl]
 refine c_whole _ hab (by omega) _ (fun g3 => ?_) (fun g3 => ?_)
 case refine_2 =>
  (conv=>whnf); (repeat first | (refine step_go [] ?_;conv=>whnf) | (refine d_caught1 _ _ _ _ ?_;conv=>whnf))
  exact ⟨_, _, Weak.refl, hfail fun hk => g3 hk.2.1.1⟩
 (conv=>whnf); (repeat (refine step_go [] ?_;conv=>whnf))
 refine c_must _ _ _ (fun g4 => ?_) (fun g4 => ?_)
 case refine_2 =>
  have g4 := of_decide_eq_false g4
  (conv=>whnf); (repeat first | (refine step_go [] ?_;conv=>whnf) | (refine d_caught1 _ _ _ _ ?_;conv=>whnf))
  exact ⟨_, _, Weak.refl, hfail fun hk => by have := hk.2.1.2.1; unfold sat at g4; omega⟩
 have g4 : vl (aheadT t) <= 1000 := by have := of_decide_eq_true g4; unfold sat at this; omega
 have hsat : sat (vl (aheadT t)) = vl (aheadT t) := by unfold sat; omega
 rw [hsat]; (conv=>whnf); (repeat (refine step_go [] ?_;conv=>whnf))
 rw [show IntKind.i64.wrap (((vl (aheadT t) : Nat) : Int) * 10000000) = ((vl (aheadT t) * 10000000 : Nat) : Int) by rw [wrap64 (by omega) (by omega)]; omega]
 obtain ⟨W, hW⟩ : ∃ W, vl (aheadT t) * 10000000 = W := ⟨_, rfl⟩
 have hW2 : W <= 10000000000 := by omega
 obtain ⟨w, hw⟩ : ∃ w, ((W : Nat) : Int) = w := ⟨_, rfl⟩
 rw [hW, hw]
 refine two (fun hp => ?_) (fun hp => ?_)
 · (conv=>whnf); (repeat (refine step_go [] ?_;conv=>whnf))
   have hnf : ¬ fracOk (behind t) -> K (.ret (.tup [.int .i64 0, .int .i64 4])) [] := fun hn => hfail fun hk => hn (hk.2.1.2.2 hp)
   refine two (fun g5 => ?_) (fun g5 => ?_)
   case refine_2 =>
    have g5 : (behind t).length = 0 := by have := of_decide_eq_false g5; rw [sz_toBA] at this; omega
    (conv=>whnf); (repeat (refine step_go [] ?_;conv=>whnf))
    refine c_must _ _ _ (fun g7 => by cases g7) (fun g7 => ?_)
    (conv=>whnf); (repeat first | (refine step_go [] ?_;conv=>whnf) | (refine d_caught1 _ _ _ _ ?_;conv=>whnf))
    exact ⟨_, _, Weak.refl, hnf fun hk => by have := hk.1; omega⟩
   have g5 : 1 <= (behind t).length := by have := of_decide_eq_true g5; rw [sz_toBA] at this; omega
   (conv=>whnf); (repeat (refine step_go [] ?_;conv=>whnf))
   refine two (fun g6 => ?_) (fun g6 => ?_)
   case refine_2 =>
    have g6 : 7 < (behind t).length := by have := of_decide_eq_false g6; rw [sz_toBA] at this; omega
    (conv=>whnf); (repeat (refine step_go [] ?_;conv=>whnf))
    refine c_must _ _ _ (fun g7 => by cases g7) (fun g7 => ?_)
    (conv=>whnf); (repeat first | (refine step_go [] ?_;conv=>whnf) | (refine d_caught1 _ _ _ _ ?_;conv=>whnf))
    exact ⟨_, _, Weak.refl, hnf fun hk => by have := hk.2.1; omega⟩
   have g6 : (behind t).length <= 7 := by have := of_decide_eq_true g6; rw [sz_toBA] at this; omega
   obtain ⟨n, hn⟩ : ∃ n, (behind t).length = n + 1 := ⟨(behind t).length - 1, by omega⟩
   obtain ⟨x, hx1, hx2⟩ := last_get hn
   (conv=>whnf); (repeat (refine step_go [] ?_;conv=>whnf))
   rw [sz_toBA, show IntKind.i64.wrap (((behind t).length : Int) - 1) = (n : Int) by rw [wrap64 (by omega) (by omega)]; omega]
   refine idx_str (x := x) (by omega) (by rw [sB_toBA hbb, Int.toNat_natCast]; exact hx1) fun c hc => ?_
   rw [hc]; (conv=>whnf); (repeat (refine step_go [] ?_;conv=>whnf))
   refine c_must _ _ _ (fun g7 => ?_) (fun g7 => ?_)
   case refine_2 =>
    have g7 : x = 48 := by simpa using g7
    (conv=>whnf); (repeat first | (refine step_go [] ?_;conv=>whnf) | (refine d_caught1 _ _ _ _ ?_;conv=>whnf))
    exact ⟨_, _, Weak.refl, hnf fun hk => hk.2.2.1 (by rw [hx2, g7])⟩
   have g7 : x ≠ 48 := by simpa using g7
   (conv=>whnf); (repeat (refine step_go [] ?_;conv=>whnf))
   (refine ⟨by decide +kernel, ?_⟩;conv=>whnf)
   rw [sz_toBA, show IntKind.i64.wrap (7 - ((behind t).length : Int)) = ((7 - (behind t).length : Nat) : Int) by rw [wrap64 (by omega) (by omega)]; omega]
   refine c_repeat _ (by omega) _ ?_; conv=>whnf
   (repeat (refine And.intro rfl ?_;conv=>whnf))
   refine ⟨by rw [sz_toBA, sz_toBA]; refine str_le ?_; simp; omega, ?_⟩
   rw [toBA_app]; conv=>whnf
   have hfb : ∀ x ∈ behind t ++ List.replicate (7 - (behind t).length) 48, 0 <= x /\ x < 256 := fun x hx => by
    rcases List.mem_append.1 hx with hx | hx
    · exact hbb x hx
    · rw [(List.mem_replicate.1 hx).2]; omega
   have hfl : (behind t ++ List.replicate (7 - (behind t).length) 48).length = 7 := by simp; omega
   refine c_number _ hfb (by omega) 7 (by omega) _ (fun g8 => ?_) (fun g8 => ?_)
   case refine_2 =>
    (conv=>whnf); (repeat first | (refine step_go [] ?_;conv=>whnf) | (refine d_caught1 _ _ _ _ ?_;conv=>whnf))
    exact ⟨_, _, Weak.refl, hnf fun hk => g8 ⟨by omega, by omega, fun y hy => by
     rcases List.mem_append.1 hy with hy | hy
     · exact hk.2.2.2 y hy
     · rw [(List.mem_replicate.1 hy).2]; unfold Dig; omega⟩⟩
   have hfo : fracOk (behind t) := ⟨g5, g6, fun h => by rw [hx2] at h; exact g7 (Option.some.inj h), fun y hy => g8.2.2 y (List.mem_append_left _ hy)⟩
   have hfn := vl_lt _ g8.2.2
   rw [hfl] at hfn
   have hfs : sat (vl (behind t ++ List.replicate (7 - (behind t).length) 48)) = fracN (behind t) := by unfold sat fracN; omega
   have hfn2 : fracN (behind t) < 10000000 := by unfold fracN; omega
   rw [hfs]; conv=>whnf
   (repeat (refine And.intro rfl ?_;conv=>whnf))
   have hN : rateN t = W + fracN (behind t) := by unfold rateN; rw [if_pos hp, hW]
   have hok : rateOk t := ⟨g3, g4, fun _ => hfo⟩
   obtain ⟨N, hNW⟩ : ∃ N, W + fracN (behind t) = N := ⟨_, rfl⟩
   rw [hNW] at hN
   rw [show IntKind.i64.wrap (w + ((fracN (behind t) : Nat) : Int)) = ((N : Nat) : Int) by rw [wrap64 (by omega) (by omega)]; omega]
   obtain ⟨w, hw⟩ : ∃ w, ((N : Nat) : Int) = w := ⟨_, rfl⟩
   rw [hw]
   (repeat (refine step_go [] ?_;conv=>whnf))
   refine two (fun g6 => ?_) (fun g6 => ?_)
   case refine_2 =>
    have g6 : 10000000000 < N := by have := of_decide_eq_false g6; omega
    (conv=>whnf); (repeat (refine step_go [] ?_;conv=>whnf))
    refine c_must _ _ _ (fun g7 => by cases g7) (fun g7 => ?_)
    (conv=>whnf); (repeat first | (refine step_go [] ?_;conv=>whnf) | (refine d_caught1 _ _ _ _ ?_;conv=>whnf))
    exact ⟨_, _, Weak.refl, hfail fun hk => by have := hk.2.2.1; omega⟩
   have g6 : N <= 10000000000 := by have := of_decide_eq_true g6; omega
   cases neg with
   | false =>
     (conv=>whnf); (repeat (refine step_go [] ?_;conv=>whnf))
     refine c_must _ _ _ (fun g7 => ?_) (fun g7 => by cases g7)
     (conv=>whnf); (repeat first | (refine step_go [] ?_;conv=>whnf) | (refine d_caught0 _ _ _ ?_;conv=>whnf))
     have := hgood ⟨g, hok, by omega, fun h => by cases h⟩
     rw [hN, hw] at this
     exact ⟨_, _, Weak.refl, this⟩
   | true =>
     (conv=>whnf); (repeat (refine step_go [] ?_;conv=>whnf))
     refine c_must _ _ _ (fun g7 => ?_) (fun g7 => ?_)
     case refine_2 =>
      have g7 : N = 0 := by have := of_decide_eq_false g7; omega
      (conv=>whnf); (repeat first | (refine step_go [] ?_;conv=>whnf) | (refine d_caught1 _ _ _ _ ?_;conv=>whnf))
      exact ⟨_, _, Weak.refl, hfail fun hk => by have := hk.2.2.2 rfl; omega⟩
     have g7 : 0 < N := by have := of_decide_eq_true g7; omega
     (conv=>whnf); (repeat first | (refine step_go [] ?_;conv=>whnf) | (refine d_caught0 _ _ _ ?_;conv=>whnf))
     rw [show IntKind.i64.wrap (0 - w) = -w by rw [wrap64 (by omega) (by omega)]; omega]
     have := hgood ⟨g, hok, by omega, fun _ => by omega⟩
     rw [hN, hw] at this
     exact ⟨_, _, Weak.refl, this⟩
 · have hN : rateN t = W := by unfold rateN; rw [if_neg (by rw [hp]; decide), hW]; rfl
   have hok : rateOk t := ⟨g3, g4, fun h => by rw [hp] at h; cases h⟩
   obtain ⟨N, hNW⟩ : ∃ N, W = N := ⟨_, rfl⟩
   rw [hNW] at hN hw
   (conv=>whnf); (repeat (refine step_go [] ?_;conv=>whnf))
   refine two (fun g6 => ?_) (fun g6 => ?_)
   case refine_2 =>
    have g6 : 10000000000 < N := by have := of_decide_eq_false g6; omega
    (conv=>whnf); (repeat (refine step_go [] ?_;conv=>whnf))
    refine c_must _ _ _ (fun g7 => by cases g7) (fun g7 => ?_)
    (conv=>whnf); (repeat first | (refine step_go [] ?_;conv=>whnf) | (refine d_caught1 _ _ _ _ ?_;conv=>whnf))
    exact ⟨_, _, Weak.refl, hfail fun hk => by have := hk.2.2.1; omega⟩
   have g6 : N <= 10000000000 := by have := of_decide_eq_true g6; omega
   cases neg with
   | false =>
     (conv=>whnf); (repeat (refine step_go [] ?_;conv=>whnf))
     refine c_must _ _ _ (fun g7 => ?_) (fun g7 => by cases g7)
     (conv=>whnf); (repeat first | (refine step_go [] ?_;conv=>whnf) | (refine d_caught0 _ _ _ ?_;conv=>whnf))
     have := hgood ⟨g, hok, by omega, fun h => by cases h⟩
     rw [hN, hw] at this
     exact ⟨_, _, Weak.refl, this⟩
   | true =>
     (conv=>whnf); (repeat (refine step_go [] ?_;conv=>whnf))
     refine c_must _ _ _ (fun g7 => ?_) (fun g7 => ?_)
     case refine_2 =>
      have g7 : N = 0 := by have := of_decide_eq_false g7; omega
      (conv=>whnf); (repeat first | (refine step_go [] ?_;conv=>whnf) | (refine d_caught1 _ _ _ _ ?_;conv=>whnf))
      exact ⟨_, _, Weak.refl, hfail fun hk => by have := hk.2.2.2 rfl; omega⟩
     have g7 : 0 < N := by have := of_decide_eq_true g7; omega
     (conv=>whnf); (repeat first | (refine step_go [] ?_;conv=>whnf) | (refine d_caught0 _ _ _ ?_;conv=>whnf))
     rw [show IntKind.i64.wrap (0 - w) = -w by rw [wrap64 (by omega) (by omega)]; omega]
     have := hgood ⟨g, hok, by omega, fun _ => by omega⟩
     rw [hN, hw] at this
     exact ⟨_, _, Weak.refl, this⟩
end B13

namespace D2
open Go Go.Proofs VL D1 B7 B8 B10 B11 B12 B13
theorem dig46 {l : List Int} (h : ∀ x ∈ l, Dig x) : ∀ x ∈ l, x ≠ 46 := fun x hx e => by have := h x hx; unfold Dig at this; omega
theorem split46 {a b : List Int} (h : ∀ x ∈ a, x ≠ 46) : aheadT (a ++ 46 :: b) = a /\ behind (a ++ 46 :: b) = b /\ (a ++ 46 :: b).contains 46 = true := by
 unfold aheadT behind
 induction a with
 | nil => simp
 | cons x r ih =>
   have hx := h x (by simp)
   obtain ⟨h1, h2, h3⟩ := ih fun y hy => h y (by simp [hy])
   refine ⟨?_, ?_, ?_⟩
   · rw [List.cons_append, List.takeWhile_cons, if_pos (by simpa using hx), h1]
   · rw [List.cons_append, List.dropWhile_cons, if_pos (by simpa using hx), h2]
   · rw [List.cons_append, List.contains_cons, h3]; simp
theorem no46 {t : List Int} (h : t.contains 46 = false) : aheadT t = t /\ behind t = [] := by
 unfold aheadT behind
 induction t with
 | nil => simp
 | cons x r ih =>
   rw [List.contains_cons, Bool.or_eq_false_iff] at h
   have hx : x ≠ 46 := fun e => by subst e; simp at h
   obtain ⟨h1, h2⟩ := ih h.2
   refine ⟨by rw [List.takeWhile_cons, if_pos (by simpa using hx), h1], by rw [List.dropWhile_cons, if_pos (by simpa using hx), h2]⟩
theorem no46' {t : List Int} (h : ∀ x ∈ t, x ≠ 46) : t.contains 46 = false := by
 induction t with
 | nil => rfl
 | cons x r ih =>
   rw [List.contains_cons, ih fun y hy => h y (by simp [hy])]
   have := h x (by simp)
   simpa using fun e => this e.symm
theorem wholeOk_dg {n : Nat} (h : n < 18446744073709551616) : wholeOk (dg n) := by
 refine ⟨⟨dg_len_pos n, B5.dg_len20 h, dg_dig n⟩, ?_⟩
 rcases Nat.eq_zero_or_pos n with rfl | h0
 · left; rw [dg_small (by omega)]; rfl
 · right
   obtain ⟨x, r, e, hx⟩ := dg_head h0
   rw [e]; simpa using hx
theorem hasP_cons (x : Int) (l : List Int) : hasP (x :: l) [45] = decide (x = 45) := by
 unfold hasP
 simp
 exact Bool.eq_iff_iff.2 (by simp)
theorem dg_cons (n : Nat) : ∃ x r, dg n = x :: r /\ Dig x := by
 cases h : dg n with
 | nil => exact absurd h (dg_ne n)
 | cons x r => exact ⟨x, r, rfl, dg_dig n x (by rw [h]; simp)⟩
theorem sgn_app (v : Int) (n : Nat) (r : List Int) : unsg (sgn v ++ (dg n ++ r)) = dg n ++ r /\ hasP (sgn v ++ (dg n ++ r)) [45] = decide (v < 0) := by
 unfold sgn
 by_cases h : v < 0
 · rw [if_pos h]
   refine ⟨?_, ?_⟩
   · unfold unsg; rw [List.singleton_append, hasP_cons]; simp
   · rw [List.singleton_append, hasP_cons]; simp [h]
 · rw [if_neg h, List.nil_append]
   obtain ⟨x, q, e, hd⟩ := dg_cons n
   have hx : ¬ x = 45 := fun h => by unfold Dig at hd; omega
   rw [e]
   refine ⟨?_, ?_⟩
   · unfold unsg; rw [List.cons_append, hasP_cons]; simp [hx]
   · rw [List.cons_append, hasP_cons]; simp [hx, h]
theorem natAbs_lt {v : Int} (h : I64 v) : v.natAbs <= 9223372036854775808 := by have := h.1; have := h.2; omega
theorem moneyS_eq (v : Int) : moneyS v = sgn v ++ (dg (v.natAbs / 100) ++ 46 :: dgw 2 (v.natAbs % 100)) := by unfold moneyS; simp
theorem take_money {v : Int} (h : I64 v) : takeM (moneyS v) = if -1000000000000000 <= v /\ v <= 1000000000000000 then (v, 0) else (0, 3) := by
 have hn := natAbs_lt h
 rw [moneyS_eq]
 obtain ⟨e1, e2⟩ := sgn_app v (v.natAbs / 100) (46 :: dgw 2 (v.natAbs % 100))
 obtain ⟨s1, s2, s3⟩ := split46 (a := dg (v.natAbs / 100)) (b := dgw 2 (v.natAbs % 100)) (dig46 (dg_dig _))
 have hok : moneyOk (dg (v.natAbs / 100) ++ 46 :: dgw 2 (v.natAbs % 100)) := by
  refine ⟨s3, by rw [s2, dgw_len], by rw [s1]; exact wholeOk_dg (by omega), by rw [s2]; exact ⟨by rw [dgw_len]; omega, by rw [dgw_len]; omega, dgw_dig _ _⟩⟩
 have hN : moneyN (dg (v.natAbs / 100) ++ 46 :: dgw 2 (v.natAbs % 100)) = v.natAbs := by
  unfold moneyN; rw [s1, s2, vl_dg, vl_dgw]; omega
 unfold takeM
 rw [e1, e2, hN, if_neg (by simpa using hok)]
 by_cases hv : v < 0
 · rw [if_neg (by simp [hv]; omega)]
   simp only [hv, decide_true, if_true]
   by_cases hb : 1000000000000000 < v.natAbs
   · rw [if_pos hb, if_neg (by omega)]
   · rw [if_neg hb, if_pos (by omega)]
     congr 1; omega
 · rw [if_neg (by simp [hv])]
   simp only [hv, decide_false, Bool.false_eq_true, if_false]
   by_cases hb : 1000000000000000 < v.natAbs
   · rw [if_pos hb, if_neg (by omega)]
   · rw [if_neg hb, if_pos (by omega)]
     congr 1; omega
theorem unpc_snoc (l : List Int) (x : Int) : unpc (l ++ [x]) = l := by unfold unpc; simp
theorem hasS_snoc (l : List Int) (x : Int) : hasS (l ++ [x]) [37] = decide (x = 37) := by
 unfold hasS
 simp
 exact Bool.eq_iff_iff.2 (by simp)
theorem trimZ_spec (l : List Int) : ∃ k, l = trimZ l ++ List.replicate k 48 /\ (trimZ l).getLast? ≠ some 48 := by
 induction h : l.length generalizing l with
 | zero => rw [List.length_eq_zero_iff.1 h]; exact ⟨0, rfl, by simp [trimZ]⟩
 | succ n ih =>
   rcases List.eq_nil_or_concat l with rfl | ⟨m, x, rfl⟩
   · simp at h
   rw [List.concat_eq_append] at h ⊢
   rw [trimZ_snoc]
   by_cases hx : x = 48
   · subst hx
     obtain ⟨k, h1, h2⟩ := ih m (by simpa using h)
     rw [if_pos rfl]
     refine ⟨k + 1, ?_, h2⟩
     conv => lhs; rw [h1]
     rw [List.append_assoc, List.replicate_succ']
   · rw [if_neg hx]
     exact ⟨0, by simp, by simpa using hx⟩
theorem vl_zeros (k : Nat) : vl (List.replicate k 48) = 0 := by
 induction k with
 | zero => rfl
 | succ k ih => rw [List.replicate_succ', vl_snoc, ih]; rfl
theorem frac_facts {r : Nat} (h0 : r ≠ 0) (h : r < 10000000) : fracOk (trimZ (dgw 7 r)) /\ fracN (trimZ (dgw 7 r)) = r := by
 obtain ⟨k, h1, h2⟩ := trimZ_spec (dgw 7 r)
 have hl := congrArg List.length h1
 rw [dgw_len, List.length_append, List.length_replicate] at hl
 have hv : vl (dgw 7 r) = r := by rw [vl_dgw]; omega
 have hk : 7 - (trimZ (dgw 7 r)).length = k := by omega
 refine ⟨⟨?_, by omega, h2, fun x hx => dgw_dig 7 r x (by rw [h1]; exact List.mem_append_left _ hx)⟩, ?_⟩
 · rcases Nat.eq_zero_or_pos (trimZ (dgw 7 r)).length with e | e
   · rw [List.length_eq_zero_iff.1 e, List.nil_append] at h1
     rw [h1, vl_zeros] at hv
     exact absurd hv.symm h0
   · exact e
 · unfold fracN; rw [hk, ← h1, hv]
theorem rateS_eq (v : Int) : rateS v = sgn v ++ (dg (v.natAbs / 10000000) ++ fracS (v.natAbs % 10000000)) ++ [37] := by unfold rateS; simp
theorem take_rate {v : Int} (h : I64 v) : takeR (rateS v) = if -10000000000 <= v /\ v <= 10000000000 then (v, 0) else (0, 4) := by
 have hn := natAbs_lt h
 rw [rateS_eq]
 obtain ⟨e1, e2⟩ := sgn_app v (v.natAbs / 10000000) (fracS (v.natAbs % 10000000))
 have hw := wholeOk_dg (n := v.natAbs / 10000000) (by omega)
 have key : rateN (dg (v.natAbs / 10000000) ++ fracS (v.natAbs % 10000000)) = v.natAbs /\ (v.natAbs / 10000000 <= 1000 -> rateOk (dg (v.natAbs / 10000000) ++ fracS (v.natAbs % 10000000))) /\ (rateOk (dg (v.natAbs / 10000000) ++ fracS (v.natAbs % 10000000)) -> v.natAbs / 10000000 <= 1000) := by
  unfold fracS
  by_cases h0 : v.natAbs % 10000000 = 0
  · rw [if_pos h0, List.append_nil]
    have hc := no46' (dig46 (dg_dig (v.natAbs / 10000000)))
    obtain ⟨n1, n2⟩ := no46 hc
    unfold rateN rateOk
    rw [n1, vl_dg, hc]
    refine ⟨by simp; omega, fun hh => ⟨hw, hh, fun e => by cases e⟩, fun hh => hh.2.1⟩
  · rw [if_neg h0]
    obtain ⟨s1, s2, s3⟩ := split46 (a := dg (v.natAbs / 10000000)) (b := trimZ (dgw 7 (v.natAbs % 10000000))) (dig46 (dg_dig _))
    obtain ⟨f1, f2⟩ := frac_facts h0 (by omega)
    unfold rateN rateOk
    rw [s1, s2, s3, vl_dg, f2]
    refine ⟨by simp; omega, fun hh => ⟨hw, hh, fun _ => f1⟩, fun hh => hh.2.1⟩
 obtain ⟨k1, k2, k3⟩ := key
 unfold takeR
 rw [unpc_snoc, e1, e2, hasS_snoc, k1]
 by_cases hb : v.natAbs <= 10000000000
 · rw [if_pos ⟨by simp, k2 (by omega), hb, fun hs => by have := of_decide_eq_true hs; omega⟩, if_pos (c := -10000000000 <= v /\ v <= 10000000000) (by omega)]
   by_cases hv : v < 0
   · rw [decide_eq_true hv, if_pos rfl]; congr 1; omega
   · rw [decide_eq_false hv, if_neg (by decide)]; congr 1; omega
 · rw [if_neg (fun hh => hb hh.2.2.1), if_neg (by omega)]
end D2

namespace B14
open Go Go.Proofs VL D1 B5 B7 B8 B10 B11 B12 B13 D2
theorem sgn_len (v : Int) : (sgn v).length <= 1 := by unfold sgn; split <;> simp
theorem moneyS_len {v : Int} (h : I64 v) : (moneyS v).length <= 30 := by
 have := natAbs_lt h
 have := dg_len20 (n := v.natAbs / 100) (by omega)
 have := sgn_len v
 rw [moneyS_eq]; simp [dgw_len]; omega
theorem trimZ_sub (l : List Int) : ∀ x ∈ trimZ l, x ∈ l := fun x hx => by
 obtain ⟨k, h1, _⟩ := trimZ_spec l
 rw [h1]; exact List.mem_append_left _ hx
theorem fracS_byte (r : Nat) : ∀ x ∈ fracS r, 0 <= x /\ x < 256 := by
 unfold fracS
 split
 · simp
 · intro x hx
   rcases List.mem_cons.1 hx with rfl | hx
   · omega
   · exact dgw_byte _ _ x (trimZ_sub _ x hx)
theorem fracS_len (r : Nat) : (fracS r).length <= 8 := by
 unfold fracS
 split
 · simp
 · have := trimZ_len (dgw 7 r); rw [dgw_len] at this; simp; omega
theorem rateS_byte (v : Int) : ∀ x ∈ rateS v, 0 <= x /\ x < 256 := by
 intro x hx
 unfold rateS at hx
 simp only [List.mem_append] at hx
 rcases hx with ((hx | hx) | hx) | hx
 · exact sgn_byte v x hx
 · exact dg_byte _ x hx
 · exact fracS_byte _ x hx
 · simp at hx; omega
theorem rateS_len {v : Int} (h : I64 v) : (rateS v).length <= 40 := by
 have := natAbs_lt h
 have := dg_len20 (n := v.natAbs / 10000000) (by omega)
 have := sgn_len v
 have := fracS_len (v.natAbs % 10000000)
 unfold rateS; simp; omega
end B14

namespace D3
open Go Go.Proofs VL D1 B10 D2 B14
end D3

namespace B15
open Go Go.Proofs VL D1 B5 B7 B8 B10 B11 B12 B13 D2 B14 D3
theorem wrapu64_range (x : Int) : 0 <= IntKind.u64.wrap x /\ IntKind.u64.wrap x < 18446744073709551616 := by
 have : IntKind.u64.wrap x = x % 18446744073709551616 := by unfold IntKind.wrap; simp [IntKind.bits, IntKind.signed]
 omega
end B15

namespace B16
open Go Go.Proofs VL D1 B5 B7 B8 B10 B11 B12 B13 D2 B14 D3 B15
end B16

namespace B17
open Go Go.Proofs VL D1 B5 B7 B8 B10 B11 B12 B13 D2 B14 D3 B15 B16
end B17

namespace B18
open Go Go.Proofs VL D1 B5 B7 B8 B10 B11 B12 B13 D2 B14 D3 B15 B16
def sL (l : List (List Int)) : List V := l.map fun x => .str (toBA x)
end B18

namespace B19
open Go Go.Proofs VL D1 B5 B7 B8 B10 B11 B12 B13 D2 B14 D3 B15 B16 B18
end B19

namespace B20
open Go Go.Proofs VL D1 B2 B4 B5 B7 B8 B10 B11 B12 B13 D2 B14 D3
end B20

namespace B21
open Go Go.Proofs VL D1 B2 B4 B5 B7 B8 B10 B11 B12 B13 D2 B14 D3 B18 B20
end B21

namespace B22
open Go Go.Proofs VL D1 B2 B4 B5 B7 B8 B10 B11 B12 B13 D2 B14 D3 B18 B20 B21
def scan (n : Nat) : Nat -> List Int -> Int × Nat × Int -> Option (Int × Nat × Int)
 | _, [], st => some st
 | i, x :: r, (v, d, p) =>
   if x = 45 /\ i = 0 then scan n (i + 1) r (v, d, p)
   else if x = 37 /\ i + 1 = n then scan n (i + 1) r (v, d, p)
   else if x = 46 /\ p < 0 then scan n (i + 1) r (v, d, (d : Int))
   else if Dig x /\ d < 12 then scan n (i + 1) r (10 * v + (x - 48), d + 1, p)
   else none
end B22

namespace BB1
open Go Go.Proofs VL
theorem c_ne (i off : Nat) (ob : List VObj) (K) (h : K (.ret (.ptr i off)) ob) : VCall Tryz.prog 84 [.ptr i off] ob K :=
 c_noEscape Tryz.func84 (by rfl) (by rfl) (by kernel_rfl) (by kernel_rfl) h
theorem c_mnz (n : Int) (h0 : 0 <= n) (h1 : n <= 140737488355328) (K) (h : ∀ xs : List Int, n.toNat <= xs.length -> K (.ret (.slo 0 1 0 n.toNat xs.length)) [.buf false 1 (xs.map (V.int .u8)) (some 5)]) :
 VCall Tryz.prog 153 [.int .i64 n] [] K :=
 c_makeNoZero (ps := #[3]) (t := 54) (e := 5) Tryz.func153 (by rfl) (by rfl) (by kernel_rfl) (by kernel_rfl) (by kernel_rfl) h0 h1 h
def bO (T : TypeId) (a : V) (n c : Nat) : VObj := .cells true T [a, .slo 1 1 0 n c]
def isB (T : TypeId) : Prop := T = 56 \/ T = 56
theorem uok {T : TypeId} (hT : isB T) (x : V) : unsafeOk (VL.sys Tryz.prog 2 []).P 131 53 (.cells true T [.nilp, x]) 0 = true := by
 rcases hT with rfl | rfl <;> kernel_rfl
theorem uokN {T : TypeId} (hT : isB T) (x : V) : unsafeOk (VL.sys Tryz.prog 1 []).P 131 53 (.cells true T [.nilp, x]) 0 = true := by
 rcases hT with rfl | rfl <;> kernel_rfl
theorem c_cc0 {T : TypeId} (hT : isB T) (mv : Bool) (n c : Nat) (L : List V) (K) (h : K (.ret (.tup [])) [bO T (.ptr 0 0) n c, .buf mv 1 L (some 5)]) :
 VCall Tryz.prog 55 [.ptr 0 0] [bO T .nilp n c, .buf mv 1 L (some 5)] K := by
 cases mv with
 | true =>
   refine call_fun [] 2 Tryz.func55 (by rfl) (by rfl) ?_; (conv=>whnf); (repeat (refine step_go [] ?_;conv=>whnf))
   refine c_ne _ _ _ _ ?_; (conv=>whnf); (repeat (refine step_go [] ?_;conv=>whnf))
   rw [uok hT]; (conv=>whnf); (repeat (refine step_go [] ?_;conv=>whnf))
   exact h
 | false =>
   refine call_fun [] 2 Tryz.func55 (by rfl) (by rfl) ?_; (conv=>whnf); (repeat (refine step_go [] ?_;conv=>whnf))
   refine c_ne _ _ _ _ ?_; (conv=>whnf); (repeat (refine step_go [] ?_;conv=>whnf))
   rw [uok hT]; (conv=>whnf); (repeat (refine step_go [] ?_;conv=>whnf))
   exact h
theorem c_cc1 {T : TypeId} (hT : isB T) (mv : Bool) (n c : Nat) (L : List V) (K) (h : K (.ret (.tup [])) [bO T (.ptr 0 0) n c, .buf mv 1 L (some 5)]) :
 VCall Tryz.prog 55 [.ptr 0 0] [bO T (.ptr 0 0) n c, .buf mv 1 L (some 5)] K := by
 cases mv with
 | true =>
   refine call_fun [] 2 Tryz.func55 (by rfl) (by rfl) ?_; (conv=>whnf); (repeat (refine step_go [] ?_;conv=>whnf))
   exact h
 | false =>
   refine call_fun [] 2 Tryz.func55 (by rfl) (by rfl) ?_; (conv=>whnf); (repeat (refine step_go [] ?_;conv=>whnf))
   exact h
theorem c_ws {T : TypeId} (hT : isB T) (a : V) (ha : a = .nilp \/ a = .ptr 0 0) (mv : Bool) (s : ByteArray) (sp : List V) (u : ByteArray) (hb : s.size + u.size <= 140737488355328) (K)
 (h : ∀ sp' : List V, K (.ret (.tup [.int .i64 (u.size : Int), .nili])) [bO T (.ptr 0 0) (s ++ u).size ((s ++ u).size + sp'.length), .buf true 1 (bytesV (s ++ u) ++ sp') (some 5)]) :
 VCall Tryz.prog 22 [.ptr 0 0, .str u] [bO T a s.size (s.size + sp.length), .buf mv 1 (bytesV s ++ sp) (some 5)] K := by
 have e0 : (bytesV s).length = s.size := bytesV_length s
 have e1 : (bytesV u).length = u.size := bytesV_length u
 have e2 : bytesV (s ++ u) = bytesV s ++ bytesV u := by unfold bytesV; rw [ByteArray.data_append, Array.toList_append, List.map_append]
 have e3 : (s ++ u).size = s.size + u.size := ByteArray.size_append
 rw [e3, e2] at h
 rcases ha with rfl | rfl <;> cases mv
 all_goals
  refine VCall.weak (call_fun [] 2 Tryz.func22 (by rfl) (by rfl) ?_)
  (conv=>whnf); (repeat (refine step_go [] ?_;conv=>whnf))
  first
   | refine c_cc0 hT _ _ _ _ _ ?_
   | refine c_cc1 hT _ _ _ _ _ ?_
  (conv=>whnf); (repeat (refine step_go [] ?_;conv=>whnf))
  refine ⟨by rw [Nat.zero_add, Nat.mul_one, e1]; exact hb, fun x hx => (bytesV_ok u x hx).1, ?_⟩; (conv=>whnf); (repeat (refine step_go [] ?_;conv=>whnf))
  rw [e1]
  refine two (fun g => ?_) (fun g => ?_)
  · have hc := Nat.le_of_ble_eq_true g
    refine ⟨by simp; omega, ?_⟩; (conv=>whnf); (repeat (refine step_go [] ?_;conv=>whnf))
    have h' := h (sp.drop u.size)
    have q1 : List.take (0 + s.size) (bytesV s ++ sp) ++ bytesV u ++ List.drop (0 + s.size + u.size) (bytesV s ++ sp) = bytesV s ++ bytesV u ++ sp.drop u.size := by
     rw [Nat.zero_add, ← e0, List.take_left, List.drop_append]
     simp
    have q2 : s.size + u.size + (sp.drop u.size).length = s.size + sp.length := by simp; omega
    rw [q2, ← q1] at h'
    first
     | exact ⟨_, _, weak_of (.cons (.eq rfl) .nil) (.cons (.eq rfl) (.cons .moved .nil)) rfl rfl rfl, h'⟩
     | exact ⟨_, _, weak_of (.cons (.eq rfl) .nil) (.cons (.eq rfl) (.cons (.eq rfl) .nil)) rfl rfl rfl, h'⟩
  · refine ⟨by simp; omega, fun sp' hsp' => ?_⟩; (conv=>whnf); (repeat (refine step_go [] ?_;conv=>whnf))
    have h' := h sp'
    have q1 : List.take s.size (List.drop 0 (bytesV s ++ sp)) ++ bytesV u ++ sp' = bytesV s ++ bytesV u ++ sp' := by
     rw [List.drop_zero, ← e0, List.take_left]
    rw [q1]
    refine ⟨_, _, ?_, h'⟩
    obtain ⟨s', hw, rfl⟩ := weak_sel (m := 2) (src := [0, 2]) (s := ⟨[.tup [.int .i64 (u.size : Int), .nili]], [.cells true T [.ptr 0 0, .slo 2 1 0 (s.size + u.size) (s.size + u.size + sp'.length)], .buf _ 1 (bytesV s ++ sp) (some 5), .buf false 1 (bytesV s ++ bytesV u ++ sp') (some 5)], 0, []⟩)
     (K := fun s' => s' = ⟨[.tup [.int .i64 (u.size : Int), .nili]], [.cells true T [.ptr 0 0, .slo 1 1 0 (s.size + u.size) (s.size + u.size + sp'.length)], .buf true 1 (bytesV s ++ bytesV u ++ sp') (some 5)], 0, []⟩) rfl
    exact hw
theorem c_str {T : TypeId} (hT : isB T) (mv : Bool) (s : ByteArray) (sp : List V) (h0 : 0 < s.size) (hb : s.size <= 140737488355328) (K)
 (h : K (.ret (.str s)) [bO T (.ptr 0 0) s.size (s.size + sp.length), .buf true 1 []]) :
 VCall Tryz.prog 29 [.ptr 0 0] [bO T (.ptr 0 0) s.size (s.size + sp.length), .buf mv 1 (bytesV s ++ sp) (some 5)] K := by
 have e0 : (bytesV s).length = s.size := bytesV_length s
 refine VCall.weak (call_fun [] 2 Tryz.func29 (by rfl) (by rfl) ?_)
 (conv=>whnf); (repeat (refine step_go [] ?_;conv=>whnf))
 (refine ⟨by decide +kernel, ?_⟩;conv=>whnf)
 (repeat (refine And.intro rfl ?_;conv=>whnf))
 refine ⟨by omega, ?_⟩; (conv=>whnf); (repeat (refine step_go [] ?_;conv=>whnf))
 (repeat (refine And.intro rfl ?_;conv=>whnf))
 refine ⟨by omega, by omega, by simp; omega, s, by rw [Int.toNat_natCast, ← e0, List.take_left], ?_⟩
 refine no (by rw [Int.toNat_natCast]; cases h : Nat.beq s.size 0 with | false => rfl | true => exact absurd (Nat.eq_of_beq_eq_true h) (by omega)) ?_; (conv=>whnf); (repeat (refine step_go [] ?_;conv=>whnf))
 (repeat (refine And.intro rfl ?_;conv=>whnf))
 exact ⟨_, _, Weak.refl, h⟩
theorem c_grow {T : TypeId} (hT : isB T) (mv : Bool) (s : ByteArray) (sp : List V) (n : Nat) (hb : 2 * (s.size + sp.length) + n <= 140737488355328) (K)
 (h : ∀ sp' : List V, K (.ret (.tup [])) [bO T (.ptr 0 0) s.size (s.size + sp'.length), .buf true 1 (bytesV s ++ sp') (some 5)]) :
 VCall Tryz.prog 133 [.ptr 0 0, .int .i64 (n : Int)] [bO T (.ptr 0 0) s.size (s.size + sp.length), .buf mv 1 (bytesV s ++ sp) (some 5)] K := by
 have e0 : (bytesV s).length = s.size := bytesV_length s
 cases mv
 all_goals
  refine VCall.weak (call_fun [] 2 Tryz.func133 (by rfl) (by rfl) ?_)
  (conv=>whnf); (repeat (refine step_go [] ?_;conv=>whnf))
  (refine ⟨by decide +kernel, ?_⟩;conv=>whnf)
  (repeat (refine And.intro rfl ?_;conv=>whnf))
  rw [wrap64 (x := 2 * ((s.size + sp.length : Nat) : Int)) (by omega) (by omega), wrap64 (by omega) (by omega)]
  refine c_mnz _ (by omega) (by omega) _ fun xs hxs => ?_; (conv=>whnf); (repeat (refine step_go [] ?_;conv=>whnf))
  (repeat (refine And.intro rfl ?_;conv=>whnf))
  refine ⟨by omega, by omega, by omega, ?_⟩; (conv=>whnf); (repeat (refine step_go [] ?_;conv=>whnf))
  (repeat (refine And.intro rfl ?_;conv=>whnf))
  have t1 : List.take s.size (List.drop 0 (bytesV s ++ sp)) = bytesV s := by rw [List.drop_zero, ← e0, List.take_left]
  refine ⟨by simp; omega, ?_⟩; (conv=>whnf); (repeat (refine step_go [] ?_;conv=>whnf))
  refine ⟨fun x hx => (bytesV_ok s x (t1 ▸ hx)).1, ?_⟩; (conv=>whnf); (repeat (refine step_go [] ?_;conv=>whnf))
  refine ⟨by simp; omega, ?_⟩; (conv=>whnf); (repeat (refine step_go [] ?_;conv=>whnf))
  have hx : s.size + ((xs.map (V.int .u8)).drop s.size).length = xs.length := by simp; omega
  have t2 : List.take s.size (bytesV s) = bytesV s := by rw [← e0, List.take_length]
  have h' := h ((xs.map (V.int .u8)).drop s.size)
  rw [hx] at h'
  refine ⟨_, _, ?_, h'⟩
  simp only [Int.toNat_natCast, Int.toNat_zero, Nat.zero_add, Nat.add_zero, Nat.sub_zero, t1, t2, e0, Nat.min_self, List.take_zero, List.nil_append]
  obtain ⟨s', hw, rfl⟩ := weak_sel (m := 2) (src := [0, 2]) (s := ⟨[.tup []], [.cells true T [.ptr 0 0, .slo 2 1 0 s.size xs.length], .buf _ 1 (bytesV s ++ sp) (some 5), .buf false 1 (bytesV s ++ (xs.map (V.int .u8)).drop s.size) (some 5)], 0, []⟩)
   (K := fun s' => s' = ⟨[.tup []], [.cells true T [.ptr 0 0, .slo 1 1 0 s.size xs.length], .buf true 1 (bytesV s ++ (xs.map (V.int .u8)).drop s.size) (some 5)], 0, []⟩) rfl
  exact hw
def bN (T : TypeId) : VObj := .cells true T [.nilp, .sl [] .ex]
theorem c_ccN {T : TypeId} (hT : isB T) (K) (h : K (.ret (.tup [])) [bO T (.ptr 0 0) 0 0, .buf false 1 [] (some 5)]) :
 VCall Tryz.prog 55 [.ptr 0 0] [bN T] K := by
 refine VCall.weak (call_fun [] 1 Tryz.func55 (by rfl) (by rfl) ?_)
 (conv=>whnf); (repeat (refine step_go [] ?_;conv=>whnf))
 refine c_ne _ _ _ _ ?_; (conv=>whnf); (repeat (refine step_go [] ?_;conv=>whnf))
 rw [uokN hT]; (conv=>whnf); (repeat (refine step_go [] ?_;conv=>whnf))
 exact ⟨_, _, weak_nil 0 1 1 (some 5) (ob := [.cells true T [.ptr 0 0, .sl [] .ex]]) (wr := true) (T := T) (cs := [.ptr 0 0, .sl [] .ex]) rfl rfl (Nat.le_refl _), h⟩
theorem c_Grow0 {T : TypeId} (hT : isB T) (n : Nat) (hb : n <= 140737488355328) (K)
 (h : ∀ sp' : List V, K (.ret (.tup [])) [bO T (.ptr 0 0) (⟨#[]⟩ : ByteArray).size ((⟨#[]⟩ : ByteArray).size + sp'.length), .buf true 1 (bytesV ⟨#[]⟩ ++ sp') (some 5)]) :
 VCall Tryz.prog 106 [.ptr 0 0, .int .i64 (n : Int)] [bN T] K := by
 refine VCall.weak (call_fun [] 1 Tryz.func106 (by rfl) (by rfl) ?_)
 (conv=>whnf); (repeat (refine step_go [] ?_;conv=>whnf))
 refine c_ccN hT _ ?_
 (conv=>whnf); (repeat (refine step_go [] ?_;conv=>whnf))
 (refine ⟨by decide +kernel, ?_⟩;conv=>whnf)
 (repeat (refine And.intro rfl ?_;conv=>whnf))
 (repeat (refine step_go [] ?_;conv=>whnf))
 refine two (fun g => ?_) (fun g => ?_)
 · (conv=>whnf); (repeat (refine step_go [] ?_;conv=>whnf))
   refine c_grow hT false ⟨#[]⟩ [] n (by show 2 * (0 + 0) + n <= _; omega) _ fun sp' => ?_; (conv=>whnf); (repeat (refine step_go [] ?_;conv=>whnf))
   exact ⟨_, _, Weak.refl, h sp'⟩
 · (conv=>whnf); (repeat (refine step_go [] ?_;conv=>whnf))
   exact ⟨_, _, weak_of (.cons (.eq rfl) .nil) (.cons (.eq rfl) (.cons .moved .nil)) rfl rfl rfl, h []⟩
end BB1

namespace BB2
open Go Go.Proofs VL BB1
def spc : ByteArray := ⟨#[32]⟩
def restB (l : List ByteArray) : ByteArray := l.foldr (fun x r => spc ++ x ++ r) ⟨#[]⟩
def joinB : List ByteArray -> ByteArray
 | [] => ⟨#[]⟩
 | a :: l => a ++ restB l
theorem rest_le : ∀ (l : List ByteArray) (x : ByteArray), x ∈ l -> x.size <= (restB l).size
 | a :: l, x, h => by
   rw [restB, List.foldr_cons, ByteArray.size_append, ByteArray.size_append]
   rcases List.mem_cons.1 h with rfl | h
   · omega
   · have := rest_le l x h
     rw [restB] at this
     omega
theorem join_le {l : List ByteArray} {x : ByteArray} (h : x ∈ l) : x.size <= (joinB l).size := by
 cases l with
 | nil => cases h
 | cons a l =>
   rw [joinB, ByteArray.size_append]
   rcases List.mem_cons.1 h with rfl | h
   · omega
   · have := rest_le l x h; omega
theorem quo_ok (m : Nat) (h1 : 1 <= m) (h2 : m <= 9) : 1 < IntKind.i64.wrap (Int.tdiv 9223372036854775807 (m : Int)) := by
 have : ∀ m : Fin 10, 1 <= m.val -> 1 < IntKind.i64.wrap (Int.tdiv 9223372036854775807 (m.val : Int)) := by decide
 exact this ⟨m, by omega⟩ h1
theorem c_join (a : ByteArray) (l : List ByteArray) (h1 : 1 <= l.length) (h9 : l.length <= 9) (hb : (joinB (a :: l)).size <= 1000000) (K) (h : K (.ret (.str (joinB (a :: l)))) []) :
 VCall Tryz.prog 85 [.sl ((a :: l).map V.str) .no, .str spc] [] K := by
 have hsz : ∀ x ∈ a :: l, x.size <= 1000000 := fun x hx => Nat.le_trans (join_le hx) hb
 obtain ⟨L, hL⟩ : ∃ L, (a :: l).map V.str = L := ⟨_, rfl⟩
 have hlen : L.length = l.length + 1 := by rw [← hL]; simp
 rw [hL]
 refine VCall.weak (call_fun [] 0 Tryz.func85 (by rfl) (by rfl) ?_)
 (conv=>whnf); (repeat (refine step_go [] ?_;conv=>whnf))
 refine two (fun g => ?_) (fun g => ?_)
 · have g := beq_iff_eq.1 g; omega
 (conv=>whnf); (repeat (refine step_go [] ?_;conv=>whnf))
 refine two (fun g2 => ?_) (fun g2 => ?_)
 · have g2 := beq_iff_eq.1 g2; omega
 (conv=>whnf); (repeat (refine step_go [] ?_;conv=>whnf))
 have w1 : IntKind.i64.wrap ((L.length : Int) - 1) = (l.length : Int) := by rw [hlen, wrap64 (by omega) (by omega)]; omega
 rw [w1]
 refine ⟨by omega, ?_⟩; (conv=>whnf); (repeat (refine step_go [] ?_;conv=>whnf))
 refine two (fun g3 => ?_) (fun g3 => ?_)
 · exfalso
   have := of_decide_eq_true g3
   have q := quo_ok l.length h1 h9
   have e : ((spc.size : Nat) : Int) = 1 := rfl
   omega
 (conv=>whnf); (repeat (refine step_go [] ?_;conv=>whnf))
 let S : Nat × Nat -> St := fun x => ⟨(.sl L .no :: .str spc :: .undef :: .undef :: .str ⟨#[]⟩ :: .int .i64 (x.2 : Nat) :: .undef :: .undef :: .undef :: .undef :: .undef :: .undef :: .undef :: .undef :: .undef :: .undef :: .undef :: .undef :: .undef :: .undef :: .undef :: .undef :: .undef :: .undef :: .undef :: .undef :: .undef :: .undef :: .undef :: .undef :: .undef :: .undef :: .undef :: .undef :: .undef :: .undef :: .undef :: .undef :: .undef :: .sl L .no :: .int .i64 (L.length : Nat) :: .int .i64 (x.1 : Nat) :: .undef :: .undef :: .undef :: .undef :: .undef :: .undef :: .undef :: .undef :: .undef :: .undef :: .undef :: .undef :: .undef :: .undef :: .undef :: .undef :: .undef :: .undef :: .undef :: .undef :: .undef :: .undef :: .undef :: .undef :: .undef :: .undef :: .undef :: .undef :: .undef :: .undef :: .undef :: .undef :: .undef :: []), [], 0, []⟩
 refine VLoop.enter (s' := S (0, l.length)) (weak_of ?_ .nil rfl rfl rfl)
  (VLoop.indW S (fun x => l.length + 1 - x.1) (fun x => x.1 <= l.length + 1 /\ x.2 <= 10 + 1000000 * x.1) ?_ (0, l.length) ⟨by omega, by simp; omega⟩)
 · repeat' first
    | exact VWs.nil
    | refine VWs.cons VW.undef ?_
    | refine VWs.cons (VW.eq rfl) ?_
    | refine VWs.cons (VW.eq (congrArg (V.int .i64) (by rw [w1]; show IntKind.i64.wrap (0 + IntKind.i64.wrap (1 * (l.length : Int))) = _; rw [wrap64 (x := 1 * (l.length : Int)) (by omega) (by omega), wrap64 (by omega) (by omega)]; omega))) ?_
 rintro ⟨i, v⟩ ⟨hi, hv⟩ ih
 simp only at hi hv
 refine loop_round [] ?_; (conv=>whnf); (repeat (refine step_go [] ?_;conv=>whnf))
 refine two (fun g4 => ?_) (fun g4 => ?_)
 · have hil : i < l.length + 1 := by simp at g4; omega
   have hx : (a :: l)[i]? = some (a :: l)[i] := List.getElem?_eq_getElem hil
   obtain ⟨x, hxx⟩ : ∃ x, (a :: l)[i] = x := ⟨_, rfl⟩
   rw [hxx] at hx
   have hxs : x.size <= 1000000 := hsz x (List.mem_of_getElem? hx)
   have hget : L[((i : Nat) : Int).toNat]? = some (.str x) := by rw [Int.toNat_natCast, ← hL, List.getElem?_map, hx]; rfl
   (conv=>whnf); (repeat (refine step_go [] ?_;conv=>whnf))
   refine ⟨by omega, _, hget, rfl, ?_⟩; (conv=>whnf); (repeat (refine step_go [] ?_;conv=>whnf))
   have wS : IntKind.i64.wrap (9223372036854775807 - ((v : Nat) : Int)) = 9223372036854775807 - ((v : Nat) : Int) := wrap64 (by omega) (by omega)
   refine two (fun g5 => ?_) (fun g5 => ?_)
   · exfalso
     have g5 := of_decide_eq_true g5
     simp only at g5
     rw [wS] at g5
     omega
   (conv=>whnf); (repeat (refine step_go [] ?_;conv=>whnf))
   refine ⟨S (i + 1, v + x.size), weak_of ?_ .nil rfl rfl rfl, ih (i + 1, v + x.size) ⟨by simp only; omega, by simp only; omega⟩ (by simp only; omega)⟩
   repeat' first
    | exact VWs.nil
    | refine VWs.cons VW.undef ?_
    | refine VWs.cons (VW.eq rfl) ?_
    | refine VWs.cons (VW.eq (congrArg (V.int .i64) (by simp only; rw [wrap64 (by omega) (by omega)]; omega))) ?_
 · refine ⟨_, Weak.refl, ?_⟩; (conv=>whnf); (repeat (refine step_go [] ?_;conv=>whnf))
   refine c_Grow0 (.inl rfl) _ (by simp only; omega) _ fun sp0 => ?_; (conv=>whnf); (repeat (refine step_go [] ?_;conv=>whnf))
   have hget0 : L[Int.toNat 0]? = some (.str a) := by rw [← hL]; rfl
   refine ⟨by decide, _, hget0, rfl, ?_⟩; (conv=>whnf); (repeat (refine step_go [] ?_;conv=>whnf))
   have hae : (⟨#[]⟩ : ByteArray) ++ a = a := by apply ByteArray.ext; simp
   have has : a.size <= 1000000 := hsz a (by simp)
   refine c_ws (.inl rfl) _ (.inr rfl) false ⟨#[]⟩ sp0 a (by show 0 + _ <= _; omega) _ fun sp1 => ?_
   rw [hae]; (conv=>whnf); (repeat (refine step_go [] ?_;conv=>whnf))
   have hcl : ∀ x ∈ L, x.cells.length = 0 + 1 := fun x hx => by
    rw [← hL] at hx
    obtain ⟨y, _, rfl⟩ := List.mem_map.1 hx
    rfl
   refine ⟨by decide, by omega, hcl, ?_⟩; (conv=>whnf); (repeat (refine step_go [] ?_;conv=>whnf))
   clear ih
   have hM : L.drop 1 = l.map V.str := by rw [← hL]; rfl
   let S2 : Nat × ByteArray × List V -> St := fun x => ⟨(.undef :: .str spc :: .undef :: .undef :: .undef :: .undef :: .undef :: .undef :: .ptr 0 0 :: .undef :: .undef :: .undef :: .undef :: .undef :: .undef :: .undef :: .undef :: .undef :: .undef :: .undef :: .undef :: .undef :: .undef :: .undef :: .undef :: .undef :: .undef :: .undef :: .undef :: .undef :: .undef :: .undef :: .undef :: .undef :: .undef :: .undef :: .undef :: .undef :: .undef :: .undef :: .undef :: .undef :: .undef :: .undef :: .undef :: .undef :: .undef :: .undef :: .undef :: .undef :: .undef :: .undef :: .undef :: .undef :: .undef :: .undef :: .undef :: .undef :: .undef :: .undef :: .undef :: .undef :: .undef :: .sl (l.map V.str) .no :: .int .i64 (l.length : Nat) :: .int .i64 (x.1 : Nat) :: .undef :: .undef :: .undef :: .undef :: .undef :: .undef :: .undef :: .undef :: .undef :: []), [bO 56 (.ptr 0 0) x.2.1.size (x.2.1.size + x.2.2.length), .buf true 1 (bytesV x.2.1 ++ x.2.2) (some 5)], 0, []⟩
   refine VLoop.enter (s' := S2 (0, a, sp1)) (weak_of ?_ (.cons (.eq rfl) (.cons (.eq rfl) .nil)) rfl rfl rfl)
    (VLoop.indW S2 (fun x => l.length - x.1) (fun x => x.1 <= l.length /\ x.2.1 ++ restB (l.drop x.1) = joinB (a :: l)) ?_ (0, a, sp1) ⟨by omega, rfl⟩)
   · repeat' first
      | exact VWs.nil
      | refine VWs.cons VW.undef ?_
      | refine VWs.cons (VW.eq rfl) ?_
      | refine VWs.cons (VW.eq (by rw [← hM]; rfl)) ?_
      | refine VWs.cons (VW.eq (congrArg (V.int .i64) (by simp; omega))) ?_
   rintro ⟨i2, s, sp⟩ ⟨hi2, hs⟩ ih
   simp only at hi2 hs
   refine loop_round [] ?_; (conv=>whnf); (repeat (refine step_go [] ?_;conv=>whnf))
   refine two (fun g6 => ?_) (fun g6 => ?_)
   · have hil : i2 < l.length := by simp at g6; omega
     have hx : l[i2]? = some l[i2] := List.getElem?_eq_getElem hil
     have hdr : l.drop i2 = l[i2] :: l.drop (i2 + 1) := (List.drop_eq_getElem_cons hil)
     obtain ⟨x, hxx⟩ : ∃ x, l[i2] = x := ⟨_, rfl⟩
     rw [hxx] at hx hdr
     have hxs : x.size <= 1000000 := hsz x (List.mem_cons_of_mem _ (List.mem_of_getElem? hx))
     have hss : s.size <= 1000000 := by
      have := congrArg ByteArray.size hs
      rw [ByteArray.size_append] at this; omega
     have hget : (l.map V.str)[((i2 : Nat) : Int).toNat]? = some (.str x) := by rw [Int.toNat_natCast, List.getElem?_map, hx]; rfl
     (conv=>whnf); (repeat (refine step_go [] ?_;conv=>whnf))
     refine ⟨by omega, _, hget, rfl, ?_⟩; (conv=>whnf); (repeat (refine step_go [] ?_;conv=>whnf))
     have hsp : spc.size = 1 := rfl
     refine c_ws (.inl rfl) _ (.inr rfl) _ s sp spc (by omega) _ fun sp2 => ?_; (conv=>whnf); (repeat (refine step_go [] ?_;conv=>whnf))
     refine c_ws (.inl rfl) _ (.inr rfl) _ (s ++ spc) sp2 x (by rw [ByteArray.size_append]; omega) _ fun sp3 => ?_; (conv=>whnf); (repeat (refine step_go [] ?_;conv=>whnf))
     refine ⟨S2 (i2 + 1, s ++ spc ++ x, sp3), weak_of ?_ (.cons (.eq rfl) (.cons ?_ .nil)) rfl rfl rfl, ih (i2 + 1, s ++ spc ++ x, sp3) ⟨by simp only; omega, ?_⟩ (by simp only; omega)⟩
     · repeat' first
        | exact VWs.nil
        | refine VWs.cons VW.undef ?_
        | refine VWs.cons (VW.eq rfl) ?_
        | refine VWs.cons (VW.eq (congrArg (V.int .i64) (by simp only; rw [wrap64 (by omega) (by omega)]; omega))) ?_
     · first
        | exact .eq rfl
        | exact .moved
     · simp only
       rw [← hs, hdr]
       show s ++ spc ++ x ++ restB (l.drop (i2 + 1)) = s ++ (spc ++ x ++ restB (l.drop (i2 + 1)))
       simp only [ByteArray.append_assoc]
   · have hi3 : i2 = l.length := by simp at g6; omega
     subst hi3
     have hs' : s = joinB (a :: l) := by
      rw [← hs, List.drop_length]
      apply ByteArray.ext; simp [restB]
     have hpos : 0 < s.size := by
      rw [hs', joinB, ByteArray.size_append]
      match l, h1 with
      | y :: l', _ => simp only [restB, List.foldr_cons, ByteArray.size_append]; have : spc.size = 1 := rfl; omega
     refine ⟨_, Weak.refl, ?_⟩; (conv=>whnf); (repeat (refine step_go [] ?_;conv=>whnf))
     refine c_str (.inl rfl) _ s sp hpos (by rw [hs']; omega) _ ?_; (conv=>whnf); (repeat (refine step_go [] ?_;conv=>whnf))
     exact ⟨_, _, weak_of (.cons (.eq rfl) .nil) .nil rfl rfl rfl, hs' ▸ h⟩
end BB2

namespace BB3
open Go Go.Proofs VL BB1 BB2
end BB3

namespace BB4
open Go Go.Proofs VL
def lng (y : Nat) : Bool := y % 4 == 0 && (y % 100 != 0 || y % 400 == 0)
def mlen (y m : Nat) : Nat := if m = 4 \/ m = 6 \/ m = 9 \/ m = 11 then 30 else if m = 2 then (if lng y then 29 else 28) else 31
theorem tm (y k : Nat) : Int.tmod (y : Int) (k : Int) = ((y % k : Nat) : Int) := by
 rw [Int.tmod_eq_emod_of_nonneg (by omega)]; exact (Int.natCast_emod y k).symm
theorem be (n : Nat) : ((n : Int) == 0) = (n == 0) := by rw [Bool.eq_iff_iff]; simp
theorem bn (n : Nat) : ((n : Int) != 0) = (n != 0) := by simp only [bne, be]
theorem m4 (y : Nat) : Int.tmod (y : Int) 4 = ((y % 4 : Nat) : Int) := tm y 4
theorem m100 (y : Nat) : Int.tmod (y : Int) 100 = ((y % 100 : Nat) : Int) := tm y 100
theorem m400 (y : Nat) : Int.tmod (y : Int) 400 = ((y % 400 : Nat) : Int) := tm y 400
theorem c_clong (y : Nat) (K) (h : K (.ret (.bool (lng y))) []) : VCall Tryz.prog 144 [.int .i64 (y : Int)] [] K := by
 refine call_fun [] 0 Tryz.func144 (by rfl) (by rfl) ?_; (conv=>whnf); (repeat (refine step_go [] ?_;conv=>whnf))
 refine ⟨(by decide : (4 : Int) ≠ 0), ?_⟩; (conv=>whnf); (repeat (refine step_go [] ?_;conv=>whnf))
 refine two (fun g => ?_) (fun g => ?_) <;> rw [m4, be] at g
 · (conv=>whnf); (repeat (refine step_go [] ?_;conv=>whnf))
   refine ⟨(by decide : (100 : Int) ≠ 0), ?_⟩; (conv=>whnf); (repeat (refine step_go [] ?_;conv=>whnf))
   refine two (fun g2 => ?_) (fun g2 => ?_) <;> rw [m100, bn] at g2
   · (conv=>whnf); (repeat (refine step_go [] ?_;conv=>whnf))
     have e : lng y = true := by simp [lng, g, g2]
     exact e ▸ h
   · (conv=>whnf); (repeat (refine step_go [] ?_;conv=>whnf))
     refine ⟨(by decide : (400 : Int) ≠ 0), ?_⟩; (conv=>whnf); (repeat (refine step_go [] ?_;conv=>whnf))
     have e : lng y = (Int.tmod (y : Int) 400 == 0) := by rw [m400, be]; simp [lng, g, g2]
     rw [e] at h; exact h
 · (conv=>whnf); (repeat (refine step_go [] ?_;conv=>whnf))
   have e : lng y = false := by simp [lng, g]
   exact e ▸ h
def opens (y : Nat) : Int := 365 * ((y : Int) - 1) + (((y - 1) / 4 : Nat) : Int) - (((y - 1) / 100 : Nat) : Int) + (((y - 1) / 400 : Nat) : Int) - 719162
theorem td (p k : Nat) : Int.tdiv (p : Int) (k : Int) = ((p / k : Nat) : Int) := by
 rw [Int.tdiv_eq_ediv_of_nonneg (by omega)]; exact (Int.natCast_ediv p k).symm
theorem d4 (p : Nat) (h : p <= 3000) : IntKind.i64.wrap (Int.tdiv (p : Int) 4) = ((p / 4 : Nat) : Int) := by rw [show Int.tdiv (p : Int) 4 = ((p / 4 : Nat) : Int) from td p 4, wrap64 (by omega) (by omega)]
theorem d100 (p : Nat) (h : p <= 3000) : IntKind.i64.wrap (Int.tdiv (p : Int) 100) = ((p / 100 : Nat) : Int) := by rw [show Int.tdiv (p : Int) 100 = ((p / 100 : Nat) : Int) from td p 100, wrap64 (by omega) (by omega)]
theorem d400 (p : Nat) (h : p <= 3000) : IntKind.i64.wrap (Int.tdiv (p : Int) 400) = ((p / 400 : Nat) : Int) := by rw [show Int.tdiv (p : Int) 400 = ((p / 400 : Nat) : Int) from td p 400, wrap64 (by omega) (by omega)]
theorem c_opens (y : Nat) (h0 : 1 <= y) (h1 : y <= 3000) (K) (h : K (.ret (.int .i64 (opens y))) []) : VCall Tryz.prog 114 [.int .i64 (y : Int)] [] K := by
 refine call_fun [] 0 Tryz.func114 (by rfl) (by rfl) ?_; (conv=>whnf); (repeat (refine step_go [] ?_;conv=>whnf))
 have e1 : IntKind.i64.wrap ((y : Int) - 1) = ((y - 1 : Nat) : Int) := by rw [wrap64 (by omega) (by omega)]; omega
 rw [e1]
 obtain ⟨p, hp⟩ : ∃ p, y - 1 = p := ⟨_, rfl⟩
 rw [hp]
 have hp1 : p <= 3000 := by omega
 refine ⟨(by decide : (4 : Int) ≠ 0), ?_⟩; (conv=>whnf); (repeat (refine step_go [] ?_;conv=>whnf))
 refine ⟨(by decide : (100 : Int) ≠ 0), ?_⟩; (conv=>whnf); (repeat (refine step_go [] ?_;conv=>whnf))
 refine ⟨(by decide : (400 : Int) ≠ 0), ?_⟩; (conv=>whnf); (repeat (refine step_go [] ?_;conv=>whnf))
 have b4 : p / 4 <= 3000 := by omega
 have b100 : p / 100 <= 3000 := by omega
 have b400 : p / 400 <= 3000 := by omega
 have hy : (y : Int) - 1 = (p : Int) := by omega
 rw [opens, hp, hy] at h
 rw [d4 p hp1, d100 p hp1, d400 p hp1]
 generalize p / 4 = q4 at *
 generalize p / 100 = q100 at *
 generalize p / 400 = q400 at *
 rw [wrap64 (x := 365 * (p : Int)) (by omega) (by omega), wrap64 (x := 365 * (p : Int) + (q4 : Int)) (by omega) (by omega), wrap64 (x := 365 * (p : Int) + (q4 : Int) - (q100 : Int)) (by omega) (by omega),
  wrap64 (x := 365 * (p : Int) + (q4 : Int) - (q100 : Int) + (q400 : Int)) (by omega) (by omega), wrap64 (by omega) (by omega)]
 exact h
theorem c_month (y m : Nat) (h1 : 1 <= m) (h2 : m <= 12) (K) (h : K (.ret (.int .i64 (mlen y m : Nat))) []) : VCall Tryz.prog 115 [.int .i64 (y : Int), .int .i64 (m : Int)] [] K := by
 obtain rfl | hm : m = 2 \/ m ≠ 2 := by omega
 · refine call_fun [] 0 Tryz.func115 (by rfl) (by rfl) ?_; (conv=>whnf); (repeat (refine step_go [] ?_;conv=>whnf))
   refine c_clong y _ ?_; (conv=>whnf); (repeat (refine step_go [] ?_;conv=>whnf))
   refine two (fun g => ?_) (fun g => ?_)
   · (conv=>whnf); (repeat (refine step_go [] ?_;conv=>whnf))
     rw [show mlen y 2 = 29 by simp [mlen, g]] at h
     exact h
   · (conv=>whnf); (repeat (refine step_go [] ?_;conv=>whnf))
     rw [show mlen y 2 = 28 by simp [mlen, g]] at h
     exact h
 · have hm : m = 1 \/ m = 3 \/ m = 4 \/ m = 5 \/ m = 6 \/ m = 7 \/ m = 8 \/ m = 9 \/ m = 10 \/ m = 11 \/ m = 12 := by omega
   rcases hm with rfl | rfl | rfl | rfl | rfl | rfl | rfl | rfl | rfl | rfl | rfl
   all_goals
    refine call_fun [] 0 Tryz.func115 (by rfl) (by rfl) ?_; (conv=>whnf); (repeat (refine step_go [] ?_;conv=>whnf))
    exact h
end BB4

namespace BB5
open Go Go.Proofs VL BB4
def cum (y : Nat) : Nat -> Nat
 | 0 => 0
 | 1 => 0
 | m + 2 => cum y (m + 1) + mlen y (m + 1)
theorem cum_step {y m : Nat} (h : 1 <= m) : cum y (m + 1) = cum y m + mlen y m := by
 obtain ⟨k, rfl⟩ : ∃ k, m = k + 1 := ⟨m - 1, by omega⟩
 rfl
theorem cum_mono {y a b : Nat} (h1 : 1 <= a) (h : a <= b) : cum y a <= cum y b := by
 obtain ⟨k, rfl⟩ : ∃ k, b = a + k := ⟨b - a, by omega⟩
 clear h
 induction k with
 | zero => exact Nat.le_refl _
 | succ k ih => rw [← Nat.add_assoc, cum_step (by omega)]; omega
theorem mlen12 (y : Nat) : mlen y 12 = 31 := by simp [mlen]
theorem mlen_le (y m : Nat) : mlen y m <= 31 := by
 unfold mlen; split
 · omega
 · split
   · split <;> omega
   · omega
theorem cum12 (y : Nat) : cum y 12 = 334 + (if lng y then 1 else 0) := by
 simp only [cum, mlen]
 cases lng y <;> simp
theorem year_len {y : Nat} (h : 1 <= y) : opens (y + 1) = opens y + cum y 12 + 31 := by
 rw [cum12]
 unfold opens lng
 by_cases h0 : y % 4 = 0 <;> by_cases h1 : y % 100 = 0 <;> by_cases h2 : y % 400 = 0 <;> simp [h0, h1, h2] <;> omega
theorem opens_mono {y z : Nat} (h0 : 1 <= y) (h : y <= z) : opens y <= opens z := by
 unfold opens; omega
structure IsDate (n : Int) (y m d : Nat) : Prop where
 y0 : 1900 <= y
 y1 : y <= 2200
 m0 : 1 <= m
 m1 : m <= 12
 lo : opens y + cum y m <= n
 hi : n < opens y + cum y m + mlen y m
 d : (d : Int) = n - opens y - cum y m + 1
theorem IsDate.year {n : Int} {y m d : Nat} (h : IsDate n y m d) : opens y <= n /\ n < opens (y + 1) := by
 have := h.lo; have := h.hi; have := h.y0
 have := year_len (y := y) (by omega)
 have := cum_mono (y := y) (a := m + 1) (b := 13) (by omega) (by have := h.m1; omega)
 rw [cum_step h.m0] at this
 have e : cum y 13 = cum y 12 + mlen y 12 := rfl
 rw [mlen12] at e
 omega
theorem IsDate.uniq {n : Int} {y m d y' m' d' : Nat} (h : IsDate n y m d) (h' : IsDate n y' m' d') : y = y' /\ m = m' /\ d = d' := by
 have e1 : y = y' := by
  obtain ⟨a1, a2⟩ := h.year
  obtain ⟨b1, b2⟩ := h'.year
  have := h.y0; have := h'.y0
  rcases Nat.lt_trichotomy y y' with g | g | g
  · have := opens_mono (y := y + 1) (z := y') (by omega) g; omega
  · exact g
  · have := opens_mono (y := y' + 1) (z := y) (by omega) g; omega
 subst e1
 have e2 : m = m' := by
  have a1 := h.lo; have a2 := h.hi; have b1 := h'.lo; have b2 := h'.hi
  rcases Nat.lt_trichotomy m m' with g | g | g
  · have := cum_mono (y := y) (a := m + 1) (b := m') (by omega) g
    rw [cum_step h.m0] at this; omega
  · exact g
  · have := cum_mono (y := y) (a := m' + 1) (b := m) (by omega) g
    rw [cum_step h'.m0] at this; omega
 subst e2
 have := h.d; have := h'.d
 exact ⟨rfl, rfl, by omega⟩
theorem IsDate.dle {n : Int} {y m d : Nat} (h : IsDate n y m d) : 1 <= d /\ d <= 31 := by
 have := h.lo; have := h.hi; have := h.d; have := mlen_le y m
 omega
theorem c_cdate (n : Int) (h0 : -25567 <= n) (h1 : n <= 84370) (K) (h : ∀ y m d, IsDate n y m d -> K (.ret (.tup [.agg [.int .i64 (y : Nat), .int .i64 (m : Nat), .int .i64 (d : Nat)], .int .i64 0])) []) :
 VCall Tryz.prog 90 [.int .i64 n] [] K := by
 refine VCall.weak (call_fun [] 0 Tryz.func90 (by rfl) (by rfl) ?_)
 (conv=>whnf); (repeat (refine step_go [] ?_;conv=>whnf))
 refine two (fun g => ?_) (fun g => ?_)
 · exfalso; have := of_decide_eq_true g; omega
 (conv=>whnf); (repeat (refine step_go [] ?_;conv=>whnf))
 refine two (fun g2 => ?_) (fun g2 => ?_)
 · exfalso; have := of_decide_eq_true g2; omega
 (conv=>whnf); (repeat (refine step_go [] ?_;conv=>whnf))
 obtain ⟨a, ha⟩ : ∃ a : Nat, n + 25567 = (a : Int) := ⟨(n + 25567).toNat, by omega⟩
 have w1 : IntKind.i64.wrap (n - -25567) = (a : Int) := by rw [wrap64 (by omega) (by omega)]; omega
 rw [w1]
 refine ⟨(by decide : (366 : Int) ≠ 0), ?_⟩; (conv=>whnf); (repeat (refine step_go [] ?_;conv=>whnf))
 have w2 : IntKind.i64.wrap (Int.tdiv (a : Int) 366) = ((a / 366 : Nat) : Int) := by rw [show Int.tdiv (a : Int) 366 = ((a / 366 : Nat) : Int) from td a 366, wrap64 (by omega) (by omega)]
 rw [w2]
 obtain ⟨k, hk⟩ : ∃ k, a / 366 = k := ⟨_, rfl⟩
 rw [hk]
 have hk1 : 366 * k <= a /\ k <= 300 := by omega
 have hop : opens (1900 + k) <= n := by unfold opens; omega
 let S : Nat -> St := fun z => ⟨(.int .i64 n :: .undef :: .ptr 0 0 :: .int .i64 0 :: .int .i64 (z : Nat) :: .undef :: .undef :: .undef :: .undef :: .undef :: .undef :: .undef :: .undef :: .undef :: .undef :: .undef :: .undef :: .undef :: .undef :: .undef :: .undef :: .undef :: .undef :: .undef :: .undef :: .undef :: .undef :: .undef :: .undef :: .undef :: .undef :: .undef :: .undef :: .undef :: .undef :: .undef :: .undef :: .undef :: .undef :: .undef :: .undef :: .undef :: .undef :: .undef :: .undef :: .undef :: .undef :: .undef :: .undef :: .undef :: []), [.cells true 104 [.int .i64 0, .int .i64 0, .int .i64 0]], 0, []⟩
 refine VLoop.enter (s' := S (1900 + k)) (weak_of ?_ (.cons (.eq rfl) .nil) rfl rfl rfl) (VLoop.indW S (fun z => 2201 - z) (fun z => 1900 <= z /\ z <= 2200 /\ opens z <= n) ?_ (1900 + k) ⟨by omega, by omega, hop⟩)
 · repeat' first
    | exact VWs.nil
    | refine VWs.cons VW.undef ?_
    | refine VWs.cons (VW.eq rfl) ?_
    | refine VWs.cons (VW.eq (congrArg (V.int .i64) (by rw [wrap64 (by omega) (by omega)]; omega))) ?_
 rintro y ⟨hy0, hy1, hyo⟩ ih
 have hob : -30000 <= opens y /\ opens y <= 90000 := by unfold opens; omega
 have fin : ∀ (R : Prop), (n < opens (y + 1) -> R) -> ((y < 2200 /\ opens (y + 1) <= n -> False) -> R) := fun R hR hx => hR (by
  rcases Nat.lt_or_ge y 2200 with h2 | h2
  · rcases Int.lt_or_le n (opens (y + 1)) with h3 | h3
    · exact h3
    · exact (hx ⟨h2, h3⟩).elim
  · have : y = 2200 := by omega
    subst this
    show n < opens 2201
    rw [show opens 2201 = 84371 by decide]; omega)
 refine loop_round [] ?_; (conv=>whnf); (repeat (refine step_go [] ?_;conv=>whnf))
 have wy : IntKind.i64.wrap ((y : Int) + 1) = ((y + 1 : Nat) : Int) := by rw [wrap64 (by omega) (by omega)]; omega
 refine two (fun g3 => ?_) (fun g3 => ?_)
 · have g3 := of_decide_eq_true g3
   (conv=>whnf); (repeat (refine step_go [] ?_;conv=>whnf))
   rw [wy]
   refine c_opens (y + 1) (by omega) (by omega) _ ?_; (conv=>whnf); (repeat (refine step_go [] ?_;conv=>whnf))
   refine two (fun g4 => ?_) (fun g4 => ?_)
   · have g4 := of_decide_eq_true g4
     (conv=>whnf); (repeat (refine step_go [] ?_;conv=>whnf))
     refine ⟨S (y + 1), weak_of ?_ (.cons (.eq rfl) .nil) rfl rfl rfl, ih (y + 1) ⟨by omega, by omega, g4⟩ (by omega)⟩
     repeat' first
      | exact VWs.nil
      | refine VWs.cons VW.undef ?_
      | refine VWs.cons (VW.eq rfl) ?_
      | refine VWs.cons (VW.eq (congrArg (V.int .i64) wy)) ?_
   · have g4 := of_decide_eq_false g4
     have hx : n < opens (y + 1) := by omega
     refine ⟨_, Weak.refl, ?_⟩; (conv=>whnf); (repeat (refine step_go [] ?_;conv=>whnf))
     refine c_opens y (by omega) (by omega) _ ?_; (conv=>whnf); (repeat (refine step_go [] ?_;conv=>whnf))
     let S2 : Nat -> St := fun m => ⟨(.undef :: .undef :: .ptr 0 0 :: .int .i64 0 :: .int .i64 (y : Nat) :: .int .i64 (n - opens y - (cum y m : Nat)) :: .int .i64 (m : Nat) :: .undef :: .undef :: .undef :: .undef :: .undef :: .undef :: .undef :: .undef :: .undef :: .undef :: .undef :: .undef :: .undef :: .undef :: .undef :: .undef :: .undef :: .undef :: .undef :: .undef :: .undef :: .undef :: .undef :: .undef :: .undef :: .undef :: .undef :: .undef :: .undef :: .undef :: .undef :: .undef :: .undef :: .undef :: .undef :: .undef :: .undef :: .undef :: .undef :: .undef :: .undef :: .undef :: .undef :: []), [.cells true 104 [.int .i64 0, .int .i64 0, .int .i64 0]], 0, []⟩
     refine VLoop.enter (s' := S2 1) (weak_of ?_ (.cons (.eq rfl) .nil) rfl rfl rfl) (VLoop.indW S2 (fun m => 13 - m) (fun m => 1 <= m /\ m <= 12 /\ opens y + (cum y m : Nat) <= n) ?_ 1 ⟨by omega, by omega, by show opens y + ((0 : Nat) : Int) <= n; omega⟩)
     · repeat' first
        | exact VWs.nil
        | refine VWs.cons VW.undef ?_
        | refine VWs.cons (VW.eq rfl) ?_
        | refine VWs.cons (VW.eq (congrArg (V.int .i64) (by rw [wrap64 (by omega) (by omega)]; show _ = n - opens y - ((0 : Nat) : Int); omega))) ?_
     rintro m ⟨hm0, hm1, hmo⟩ ih2
     have hc := cum_step (y := y) hm0
     have hml := mlen_le y m
     have hcc : cum y m <= 366 := by
      have := cum_mono (y := y) (a := m) (b := 12) hm0 hm1
      have := cum12 y
      cases hl : lng y <;> simp [hl] at this <;> omega
     refine loop_round [] ?_; (conv=>whnf); (repeat (refine step_go [] ?_;conv=>whnf))
     refine c_month y m hm0 hm1 _ ?_; (conv=>whnf); (repeat (refine step_go [] ?_;conv=>whnf))
     refine two (fun g5 => ?_) (fun g5 => ?_)
     · have g5 := of_decide_eq_true g5
       (conv=>whnf); (repeat (refine step_go [] ?_;conv=>whnf))
       refine c_month y m hm0 hm1 _ ?_; (conv=>whnf); (repeat (refine step_go [] ?_;conv=>whnf))
       have hm12 : m + 1 <= 12 := by
        rcases Nat.lt_or_ge m 12 with q | q
        · omega
        · have : m = 12 := by omega
          subst this
          have := year_len (y := y) (by omega)
          have := mlen12 y
          omega
       refine ⟨S2 (m + 1), weak_of ?_ (.cons (.eq rfl) .nil) rfl rfl rfl, ih2 (m + 1) ⟨by omega, by omega, by omega⟩ (by omega)⟩
       repeat' first
        | exact VWs.nil
        | refine VWs.cons VW.undef ?_
        | refine VWs.cons (VW.eq rfl) ?_
        | refine VWs.cons (VW.eq (congrArg (V.int .i64) (by rw [wrap64 (by omega) (by omega)]; omega))) ?_
     · have g5 := of_decide_eq_false g5
       refine ⟨_, Weak.refl, ?_⟩; (conv=>whnf); (repeat (refine step_go [] ?_;conv=>whnf))
       obtain ⟨d, hd⟩ : ∃ d : Nat, (d : Int) = n - opens y - (cum y m : Nat) + 1 := ⟨(n - opens y - (cum y m : Nat) + 1).toNat, by omega⟩
       have wd : IntKind.i64.wrap (n - opens y - (cum y m : Nat) + 1) = (d : Int) := by rw [wrap64 (by omega) (by omega)]; omega
       rw [wd]; (conv=>whnf); (repeat (refine step_go [] ?_;conv=>whnf))
       refine ⟨_, _, weak_of (.cons (.eq rfl) .nil) .nil rfl rfl rfl, h y m d ⟨by omega, by omega, by omega, by omega, by omega, by omega, by omega⟩⟩
 · have g3 := of_decide_eq_false g3
   have hx : n < opens (y + 1) := fin _ id fun q => by omega
   (conv=>whnf); (repeat (refine step_go [] ?_;conv=>whnf))
   refine ⟨_, Weak.refl, ?_⟩; (conv=>whnf); (repeat (refine step_go [] ?_;conv=>whnf))
   refine c_opens y (by omega) (by omega) _ ?_; (conv=>whnf); (repeat (refine step_go [] ?_;conv=>whnf))
   let S2 : Nat -> St := fun m => ⟨(.undef :: .undef :: .ptr 0 0 :: .int .i64 0 :: .int .i64 (y : Nat) :: .int .i64 (n - opens y - (cum y m : Nat)) :: .int .i64 (m : Nat) :: .undef :: .undef :: .undef :: .undef :: .undef :: .undef :: .undef :: .undef :: .undef :: .undef :: .undef :: .undef :: .undef :: .undef :: .undef :: .undef :: .undef :: .undef :: .undef :: .undef :: .undef :: .undef :: .undef :: .undef :: .undef :: .undef :: .undef :: .undef :: .undef :: .undef :: .undef :: .undef :: .undef :: .undef :: .undef :: .undef :: .undef :: .undef :: .undef :: .undef :: .undef :: .undef :: .undef :: []), [.cells true 104 [.int .i64 0, .int .i64 0, .int .i64 0]], 0, []⟩
   refine VLoop.enter (s' := S2 1) (weak_of ?_ (.cons (.eq rfl) .nil) rfl rfl rfl) (VLoop.indW S2 (fun m => 13 - m) (fun m => 1 <= m /\ m <= 12 /\ opens y + (cum y m : Nat) <= n) ?_ 1 ⟨by omega, by omega, by show opens y + ((0 : Nat) : Int) <= n; omega⟩)
   · repeat' first
      | exact VWs.nil
      | refine VWs.cons VW.undef ?_
      | refine VWs.cons (VW.eq rfl) ?_
      | refine VWs.cons (VW.eq (congrArg (V.int .i64) (by rw [wrap64 (by omega) (by omega)]; show _ = n - opens y - ((0 : Nat) : Int); omega))) ?_
   rintro m ⟨hm0, hm1, hmo⟩ ih2
   have hc := cum_step (y := y) hm0
   have hml := mlen_le y m
   have hcc : cum y m <= 366 := by
    have := cum_mono (y := y) (a := m) (b := 12) hm0 hm1
    have := cum12 y
    cases hl : lng y <;> simp [hl] at this <;> omega
   refine loop_round [] ?_; (conv=>whnf); (repeat (refine step_go [] ?_;conv=>whnf))
   refine c_month y m hm0 hm1 _ ?_; (conv=>whnf); (repeat (refine step_go [] ?_;conv=>whnf))
   refine two (fun g5 => ?_) (fun g5 => ?_)
   · have g5 := of_decide_eq_true g5
     (conv=>whnf); (repeat (refine step_go [] ?_;conv=>whnf))
     refine c_month y m hm0 hm1 _ ?_; (conv=>whnf); (repeat (refine step_go [] ?_;conv=>whnf))
     have hm12 : m + 1 <= 12 := by
      rcases Nat.lt_or_ge m 12 with q | q
      · omega
      · have : m = 12 := by omega
        subst this
        have := year_len (y := y) (by omega)
        have := mlen12 y
        omega
     refine ⟨S2 (m + 1), weak_of ?_ (.cons (.eq rfl) .nil) rfl rfl rfl, ih2 (m + 1) ⟨by omega, by omega, by omega⟩ (by omega)⟩
     repeat' first
      | exact VWs.nil
      | refine VWs.cons VW.undef ?_
      | refine VWs.cons (VW.eq rfl) ?_
      | refine VWs.cons (VW.eq (congrArg (V.int .i64) (by rw [wrap64 (by omega) (by omega)]; omega))) ?_
   · have g5 := of_decide_eq_false g5
     refine ⟨_, Weak.refl, ?_⟩; (conv=>whnf); (repeat (refine step_go [] ?_;conv=>whnf))
     obtain ⟨d, hd⟩ : ∃ d : Nat, (d : Int) = n - opens y - (cum y m : Nat) + 1 := ⟨(n - opens y - (cum y m : Nat) + 1).toNat, by omega⟩
     have wd : IntKind.i64.wrap (n - opens y - (cum y m : Nat) + 1) = (d : Int) := by rw [wrap64 (by omega) (by omega)]; omega
     rw [wd]; (conv=>whnf); (repeat (refine step_go [] ?_;conv=>whnf))
     refine ⟨_, _, weak_of (.cons (.eq rfl) .nil) .nil rfl rfl rfl, h y m d ⟨by omega, by omega, by omega, by omega, by omega, by omega, by omega⟩⟩
end BB5

namespace BB6
open Go Go.Proofs VL BB4 BB5
def dIn (n : Int) : Bool := decide (-25567 <= n) && decide (n <= 84370)
theorem c_is (n : Int) (K) (h : K (.ret (.bool (dIn n))) []) : VCall Tryz.prog 73 [.int .i64 n] [] K := by
 refine call_fun [] 0 Tryz.func73 (by rfl) (by rfl) ?_; (conv=>whnf); (repeat (refine step_go [] ?_;conv=>whnf))
 refine two (fun g => ?_) (fun g => ?_)
 · (conv=>whnf); (repeat (refine step_go [] ?_;conv=>whnf))
   have g := of_decide_eq_true g
   have e : dIn n = decide (n <= 84370) := by simp [dIn]; omega
   rw [e] at h; exact h
 · (conv=>whnf); (repeat (refine step_go [] ?_;conv=>whnf))
   have g := of_decide_eq_false g
   have e : dIn n = false := by simp [dIn]; omega
   rw [e] at h; exact h
end BB6

namespace BB7
open Go Go.Proofs VL D1 B2 B4 B5 B7 B8 B10 B11 B12 B13 D2 B14 D3 B20 BB4 BB5 BB6
theorem c_two (n : Nat) (hn : n < 100) (K) (h : K (.ret (.str (toBA (dgw 2 n)))) []) : VCall Tryz.prog 91 [.int .i64 (n : Int)] [] K := by
 refine call_fun [] 0 Tryz.func91 (by rfl) (by rfl) ?_; (conv=>whnf); (repeat (refine step_go [] ?_;conv=>whnf))
 have td : IntKind.i64.wrap (Int.tdiv (n : Int) 10) = ((n / 10 : Nat) : Int) := by rw [show Int.tdiv (n : Int) 10 = ((n / 10 : Nat) : Int) from BB4.td n 10, wrap64 (by omega) (by omega)]
 have tm : Int.tmod (n : Int) 10 = ((n % 10 : Nat) : Int) := BB4.tm n 10
 have e : ∀ k : Nat, k < 10 -> dgi (k : Int) = [48 + (k : Int)] := fun k hk => by
  unfold dgi
  rw [if_neg (by omega), Int.toNat_natCast, dg_small hk]
 refine ⟨by decide, ?_⟩; (conv=>whnf); (repeat (refine step_go [] ?_;conv=>whnf))
 rw [td]
 refine c_itoa _ (by omega) (by omega) _ ?_; (conv=>whnf); (repeat (refine step_go [] ?_;conv=>whnf))
 refine ⟨by decide, ?_⟩; (conv=>whnf); (repeat (refine step_go [] ?_;conv=>whnf))
 rw [tm]
 refine c_itoa _ (by omega) (by omega) _ ?_; (conv=>whnf); (repeat (refine step_go [] ?_;conv=>whnf))
 rw [e _ (by omega), e _ (by omega)]
 refine ⟨by rw [sz_toBA, sz_toBA]; refine str_le ?_; simp, ?_⟩
 rw [toBA_app]; (conv=>whnf); (repeat (refine step_go [] ?_;conv=>whnf))
 have e2 : dgw 2 n = [48 + ((n / 10 : Nat) : Int)] ++ [48 + ((n % 10 : Nat) : Int)] := by
  simp only [dgw, List.nil_append]
  rw [Nat.mod_eq_of_lt (show n / 10 < 10 by omega)]
 rw [e2] at h
 exact h
end BB7

namespace BB8
open Go Go.Proofs VL D1 B2 B4 B5 B7 B8 B10 B11 B12 B13 D2 B14 D3 B20 BB4 BB5 BB6 BB7
def dtS (y m d : Nat) : List Int := dgw 4 y ++ [45] ++ dgw 2 m ++ [45] ++ dgw 2 d
theorem dt_len (y m d : Nat) : (dtS y m d).length = 10 := by simp [dtS, dgw_len]
theorem dgi_year {y : Nat} (h0 : 1900 <= y) (h1 : y <= 2200) : dgi (y : Int) = dgw 4 y := by
 unfold dgi
 rw [if_neg (by omega), Int.toNat_natCast]
 exact dg_dgw 3 y (by omega) (by omega)
theorem c_ctext (n : Int) (h0 : -25567 <= n) (h1 : n <= 84370) (K) (h : ∀ y m d, IsDate n y m d -> K (.ret (.tup [.str (toBA (dtS y m d)), .int .i64 0])) []) : VCall Tryz.prog 60 [.int .i64 n] [] K := by
 refine VCall.weak (call_fun [] 0 Tryz.func60 (by rfl) (by rfl) ?_)
 (conv=>whnf); (repeat (refine step_go [] ?_;conv=>whnf))
 refine c_cdate n h0 h1 _ fun y m d hD => ?_; (conv=>whnf); (repeat (refine step_go [] ?_;conv=>whnf))
 have := hD.y0
 have := hD.y1
 have := hD.m1
 have := hD.dle
 have := h y m d hD
 (refine ⟨by decide +kernel, ?_⟩;conv=>whnf)
 (repeat (refine And.intro rfl ?_;conv=>whnf))
 refine c_itoa _ (by omega) (by omega) _ ?_; (conv=>whnf); (repeat (refine step_go [] ?_;conv=>whnf))
 (repeat (refine And.intro rfl ?_;conv=>whnf))
 rw [dgi_year (by omega) (by omega)]
 refine ⟨by rw [sz_toBA]; refine str_le ?_; rw [dgw_len]; decide, ?_⟩
 rw [show (ByteArray.mk #[45]) = toBA [45] from rfl, toBA_app]; (conv=>whnf); (repeat (refine step_go [] ?_;conv=>whnf))
 refine c_two m (by omega) _ ?_; (conv=>whnf); (repeat (refine step_go [] ?_;conv=>whnf))
 repeat first
  | (refine And.intro rfl ?_;conv=>whnf)
  | (refine And.intro (by (first | rw [sz_toBA, sz_toBA] | rw [sz_toBA]); refine str_le ?_; simp [dgw_len, sz_toBA]) ?_; (try rw [toBA_app]); (conv=>whnf); (repeat (refine step_go [] ?_;conv=>whnf)))
 refine c_two d (by omega) _ ?_; (conv=>whnf); (repeat (refine step_go [] ?_;conv=>whnf))
 repeat first
  | (refine And.intro rfl ?_;conv=>whnf)
  | (refine And.intro (by (first | rw [sz_toBA, sz_toBA] | rw [sz_toBA]); refine str_le ?_; simp [dgw_len, sz_toBA]) ?_; (try rw [toBA_app]); (conv=>whnf); (repeat (refine step_go [] ?_;conv=>whnf)))
 exact ⟨_, _, weak_of (.cons (.eq rfl) .nil) .nil rfl rfl rfl, this⟩
end BB8

namespace BB9
open Go Go.Proofs VL D1 B2 B4 B5 B7 B8 B10 B11 B12 B13 D2 B14 D3 B20 BB4 BB5 BB6 BB7 BB8
open Classical in
noncomputable def dateT (n : Int) : List Int := if h : ∃ t, ∃ y m d, IsDate n y m d /\ t = dtS y m d then h.choose else [110, 111, 110, 101]
theorem dateT_in {n : Int} {y m d : Nat} (h : IsDate n y m d) : dateT n = dtS y m d := by
 have hx : ∃ t, ∃ y m d, IsDate n y m d /\ t = dtS y m d := ⟨_, y, m, d, h, rfl⟩
 unfold dateT
 rw [dif_pos hx]
 obtain ⟨y', m', d', h1, h2⟩ := hx.choose_spec
 obtain ⟨rfl, rfl, rfl⟩ := h.uniq h1
 exact h2
theorem dateT_len (n : Int) : (dateT n).length <= 10 := by
 unfold dateT
 split
 · rename_i hx
   obtain ⟨y, m, d, _, h2⟩ := hx.choose_spec
   rw [h2, dt_len]; omega
 · decide
end BB9

namespace BB10
open Go Go.Proofs VL D1 B2 B4 B5 B7 B8 B10 B11 B12 B13 D2 B14 D3 B20 BB1 BB2 BB3 BB9
structure Due where
 n : Int
 day : Int
 int : Int
 pri : Int
structure Stm where
 day : Int
 opn : Bool
 cls : Bool
 pri : Int
 acc : Int
 int : Int
 due : Int
 pen : Int
 fee : Int
 una : Int
 dues : List Due
 next : Int
 nday : Int
def Due.ok (d : Due) : Prop := I64 d.n /\ I64 d.day /\ I64 d.int /\ I64 d.pri
structure Stm.ok (s : Stm) : Prop where
 day : I64 s.day
 pri : I64 s.pri
 acc : I64 s.acc
 int : I64 s.int
 due : I64 s.due
 pen : I64 s.pen
 fee : I64 s.fee
 una : I64 s.una
 next : I64 s.next
 nday : I64 s.nday
 dues : ∀ d ∈ s.dues, d.ok
 len : s.dues.length <= 60
end BB10

namespace BB11
open Go Go.Proofs VL D1 B2 B4 B5 B7 B8 B10 B11 B12 B13 D2 B14 D3 B20 BB1 BB2 BB3 BB9 BB10
end BB11

namespace BB12
open Go Go.Proofs VL BB10 BB11
theorem d_eq (a b : Due) : a = b ↔ a.n = b.n /\ a.day = b.day /\ a.int = b.int /\ a.pri = b.pri := by
 constructor
 · rintro rfl; simp
 · cases a; cases b; simp
instance : DecidableEq Due := fun a b => decidable_of_iff _ (d_eq a b).symm
end BB12

namespace BB13
open Go Go.Proofs VL B10 BB10 BB12
structure Mon where
 pri : Int
 acc : Int
 dues : List Due
 pen : Int
 fee : Int
 una : Int
 cash : Int
 ear : Int
 fin : Int
 cha : Int
def mayB (v : Int) : Bool := decide (0 <= v) && decide (v <= 1000000000000000)
def dueBad (p : Option Due) (d : Due) : Prop := ¬ (mayB d.int = true) \/ ¬ (mayB d.pri = true) \/ d.int + d.pri = 0 \/ d.n < 1 \/ ∃ q, p = some q /\ (d.n <= q.n \/ d.day <= q.day)
noncomputable instance (p : Option Due) (d : Due) : Decidable (dueBad p d) := Classical.propDecidable _
structure Mon.ok (m : Mon) : Prop where
 pri : I64 m.pri
 acc : I64 m.acc
 pen : I64 m.pen
 fee : I64 m.fee
 una : I64 m.una
 cash : I64 m.cash
 ear : I64 m.ear
 fin : I64 m.fin
 cha : I64 m.cha
 dues : ∀ d ∈ m.dues, d.ok
 len : m.dues.length < 1000000
def kindS (m : Mon) (x y k : Int) : Int := if k = 1 then m.fee else if k = 2 then m.pen else if k = 3 then x else if k = 4 then y else 0
end BB13

namespace BB14
open Go Go.Proofs VL B10 BB10 BB11 BB12 BB13
structure Sta where
 day : Int
 opn : Bool
 start : Int
 plan : List Int
 next : Int
 rate : Int
 mon : Mon
 lfee : Int
 res : Int
 fine : Int
def iL (l : List Int) : List V := l.map (V.int .i64)
end BB14

namespace BB15
open Go Go.Proofs VL B10 BB10 BB11 BB12 BB13 BB14
theorem sh_str {r : List Ty} {vs : List V} (h : ShTs (.str :: r) vs) : ∃ s b, vs = .str s :: b /\ s.size <= 140737488351232 /\ ShTs r b := by
 simp only [ShTs, ShT] at h
 obtain ⟨a, b, rfl, ⟨n, rfl, hn⟩, hb⟩ := h
 exact ⟨n, b, rfl, hn, hb⟩
theorem sh_sl {e : Ty} {z by_ : Nat} {agg : Bool} {r : List Ty} {vs : List V} (h : ShTs (.sl e z by_ agg :: r) vs) : ∃ l b, vs = .sl l .no :: b /\ l.length * by_ <= 140737488351232 /\ (∀ x ∈ l, (if agg then ∃ cs, x = .agg cs /\ ShT e cs else ShT e [x])) /\ ShTs r b := by
 simp only [ShTs, ShT] at h
 obtain ⟨a, b, rfl, ⟨n, rfl, hn, hm⟩, hb⟩ := h
 exact ⟨n, b, rfl, hn, hm, hb⟩
theorem sh_nil {vs : List V} (h : ShTs [] vs) : vs = [] := by simpa [ShTs] using h
theorem list_of {α : Type} {enc : α -> V} {ok : α -> Prop} : ∀ {l : List V}, (∀ x ∈ l, ∃ a, x = enc a /\ ok a) -> ∃ as1' : List α, l = as1'.map enc /\ ∀ a ∈ as1', ok a
 | [], _ => ⟨[], rfl, by simp⟩
 | x :: r, h => by
   obtain ⟨a, rfl, ha⟩ := h x (by simp)
   obtain ⟨q, rfl, hq⟩ := list_of (l := r) fun y hy => h y (by simp [hy])
   exact ⟨a :: q, rfl, by simpa [ha] using hq⟩
theorem i64_wf {n : Int} (h : (Lit.int .i64 n).wf = true) : I64 n := by
 simp only [Lit.wf, Bool.and_eq_true, decide_eq_true_eq] at h
 have h1 : IntKind.min .i64 = -9223372036854775808 := by decide
 have h2 : IntKind.max .i64 = 9223372036854775807 := by decide
 unfold I64
 omega
end BB15

namespace VL
theorem weak_then {m : Nat} {s s1 : St} {K : St -> Prop} (h : Weak m s s1) (h2 : ∃ s', Weak m s1 s' /\ K s') : ∃ s', Weak m s s' /\ K s' := by
 obtain ⟨s', h3, h4⟩ := h2
 exact ⟨s', h.trans h3, h4⟩
theorem app_in {α : Type} (enc : α -> V) (acc : List α) (t : α) (sp : List V) : List.take (0 + acc.length) (acc.map enc ++ sp) ++ [enc t] ++ List.drop (0 + acc.length + 1) (acc.map enc ++ sp) = (acc ++ [t]).map enc ++ sp.drop 1 := by
 have h : (acc.map enc).length = acc.length := by simp
 have h1 : List.take (0 + acc.length) (acc.map enc ++ sp) = acc.map enc := by rw [Nat.zero_add, ← h, List.take_left]
 have h2 : List.drop (0 + acc.length + 1) (acc.map enc ++ sp) = sp.drop 1 := by rw [Nat.zero_add, ← List.drop_drop, ← h, List.drop_left]
 rw [h1, h2]; simp
theorem app_gr {α : Type} (enc : α -> V) (acc : List α) (t : α) (sp sp' : List V) : List.take acc.length (List.drop 0 (acc.map enc ++ sp)) ++ [enc t] ++ sp' = (acc ++ [t]).map enc ++ sp' := by
 have h : (acc.map enc).length = acc.length := by simp
 rw [List.drop_zero]
 have h1 : List.take acc.length (acc.map enc ++ sp) = acc.map enc := by rw [← h, List.take_left]
 rw [h1]; simp
end VL
namespace C1
open VL
def wT (ws : List (List Int)) : List Int := 32 :: ws.flatMap (· ++ [32])
theorem wT_cons (w : List Int) (r : List (List Int)) : wT (w :: r) = 32 :: (w ++ wT r) := by simp [wT]
def Nb (l : List Int) : Prop := ∀ x ∈ l, x ≠ 32
theorem nb_head : ∀ {s w b c : List Int}, Nb s -> Nb w -> s ++ 32 :: b = w ++ 32 :: c -> s = w /\ b = c
 | [], [], b, c, _, _, h => ⟨rfl, by simpa using h⟩
 | [], y :: w, b, c, _, hw, h => by simp at h; exact absurd h.1.symm (hw y (by simp))
 | x :: s, [], b, c, hs, _, h => by simp at h; exact absurd h.1 (hs x (by simp))
 | x :: s, y :: w, b, c, hs, hw, h => by
   simp only [List.cons_append, List.cons.injEq] at h
   obtain ⟨h1, h2⟩ := nb_head (fun z hz => hs z (by simp [hz])) (fun z hz => hw z (by simp [hz])) h.2
   exact ⟨by rw [h.1, h1], h2⟩
theorem nb_pre : ∀ {w a t u : List Int}, Nb w -> a ++ 32 :: u = w ++ t -> ∃ a', a = w ++ a' /\ a' ++ 32 :: u = t
 | [], a, t, u, _, h => ⟨a, rfl, h⟩
 | y :: w, [], t, u, hw, h => by simp at h; exact absurd h.1.symm (hw y (by simp))
 | y :: w, x :: a, t, u, hw, h => by
   simp only [List.cons_append, List.cons.injEq] at h
   obtain ⟨a', h1, h2⟩ := nb_pre (fun z hz => hw z (by simp [hz])) h.2
   exact ⟨a', by rw [h.1, h1]; rfl, h2⟩
theorem word_in : ∀ {ws : List (List Int)} {s : List Int}, (∀ w ∈ ws, Nb w) -> Nb s -> ((∃ a b, wT ws = a ++ (32 :: s ++ [32]) ++ b) ↔ s ∈ ws)
 | [], s, _, _ => by
   simp only [List.not_mem_nil, iff_false]
   rintro ⟨a, b, h⟩
   have := congrArg List.length h
   simp [wT] at this; omega
 | w :: r, s, hw, hs => by
   rw [List.mem_cons, wT_cons]
   have ih := word_in (ws := r) (s := s) (fun x hx => hw x (by simp [hx])) hs
   have hww := hw w (by simp)
   constructor
   · rintro ⟨a, b, h⟩
     rcases a with _ | ⟨x, a⟩
     · left
       have h' : s ++ 32 :: b = w ++ 32 :: (r.flatMap (· ++ [32])) := by simpa [wT] using h.symm
       exact (nb_head hs hww h').1
     · right
       have h' : a ++ 32 :: (s ++ 32 :: b) = w ++ wT r := by
        have := h.symm
        simp only [List.cons_append, List.cons.injEq] at this
        simpa using this.2
       obtain ⟨a', h1, h2⟩ := nb_pre hww h'
       exact ih.1 ⟨a', b, by rw [← h2]; simp⟩
   · rintro (rfl | h)
     · exact ⟨[], r.flatMap (· ++ [32]), by simp [wT]⟩
     · obtain ⟨a, b, h2⟩ := ih.2 h
       exact ⟨32 :: (w ++ a), b, by rw [h2]; simp⟩
end C1

namespace C2
open Go Go.Proofs VL D1 B10 BB6 BB10 BB14 C1
structure Rs where
 aft : Int
 rate : Int
structure Ti where
 days : Int
 fee : Int
structure Prod where
 name : ByteArray
 count : Int
 rnd : Int
 kind : Int
 every : Int
 times : Int
 grace : Int
 rate : Int
 resets : List Rs
 pen : Int
 o1 : Int
 o2 : Int
 o3 : Int
 o4 : Int
 over : Int
 late : List Ti
 cap : Int
 roll : Int
 hol : List Int
def encR (r : Rs) : V := .agg [.int .i64 r.aft, .int .i64 r.rate]
def rL (l : List Rs) : List V := l.map encR
def encT (r : Ti) : V := .agg [.int .i64 r.days, .int .i64 r.fee]
def tL (l : List Ti) : List V := l.map encT
def cellsP (p : Prod) : List V := [.str p.name, .int .i64 p.count, .int .i64 p.rnd, .int .i64 p.kind, .int .i64 p.every, .int .i64 p.times, .int .i64 p.grace, .int .i64 p.rate, .sl (rL p.resets) .no, .int .i64 p.pen, .int .i64 p.o1, .int .i64 p.o2, .int .i64 p.o3, .int .i64 p.o4, .int .i64 p.over, .sl (tL p.late) .no, .int .i64 p.cap, .int .i64 p.roll, .sl (iL p.hol) .no]
def encP (p : Prod) : V := .agg (cellsP p)
structure Prod.ok (p : Prod) : Prop where
 name : p.name.size < 1000000
 count : I64 p.count
 rnd : I64 p.rnd
 kind : I64 p.kind
 every : I64 p.every
 times : I64 p.times
 grace : I64 p.grace
 rate : I64 p.rate
 pen : I64 p.pen
 o1 : I64 p.o1
 o2 : I64 p.o2
 o3 : I64 p.o3
 o4 : I64 p.o4
 over : I64 p.over
 cap : I64 p.cap
 roll : I64 p.roll
 resets : ∀ x ∈ p.resets, I64 x.aft /\ I64 x.rate
 late : ∀ x ∈ p.late, I64 x.days /\ I64 x.fee
 hol : ∀ x ∈ p.hol, I64 x
 lr : p.resets.length < 1000000
 ll : p.late.length < 1000000
 lh : p.hol.length < 1000000
structure Prod.okW (p : Prod) : Prop where
 name : p.name.size < 200000000000000
 count : I64 p.count
 rnd : I64 p.rnd
 kind : I64 p.kind
 every : I64 p.every
 times : I64 p.times
 grace : I64 p.grace
 rate : I64 p.rate
 pen : I64 p.pen
 o1 : I64 p.o1
 o2 : I64 p.o2
 o3 : I64 p.o3
 o4 : I64 p.o4
 over : I64 p.over
 cap : I64 p.cap
 roll : I64 p.roll
 resets : ∀ x ∈ p.resets, I64 x.aft /\ I64 x.rate
 late : ∀ x ∈ p.late, I64 x.days /\ I64 x.fee
 hol : ∀ x ∈ p.hol, I64 x
 lr : p.resets.length < 200000000000000
 ll : p.late.length < 200000000000000
 lh : p.hol.length < 200000000000000
theorem Prod.ok.w {p : Prod} (h : p.ok) : p.okW := { h with name := Nat.lt_trans h.name (by decide), lr := Nat.lt_trans h.lr (by decide), ll := Nat.lt_trans h.ll (by decide), lh := Nat.lt_trans h.lh (by decide) }
def wordsL : List (List Int) := [
 [112, 114, 111, 100, 117, 99, 116],
 [99, 111, 117, 110, 116],
 [116, 104, 105, 114, 116, 121],
 [102, 105, 120, 101, 100],
 [97, 99, 116, 117, 97, 108],
 [114, 111, 117, 110, 100],
 [104, 97, 108, 102, 45, 117, 112],
 [100, 111, 119, 110],
 [107, 105, 110, 100],
 [97, 110, 110, 117, 105, 116, 121],
 [101, 113, 117, 97, 108],
 [98, 117, 108, 108, 101, 116],
 [101, 118, 101, 114, 121],
 [116, 105, 109, 101, 115],
 [103, 114, 97, 99, 101],
 [114, 97, 116, 101],
 [112, 101, 110, 97, 108, 116, 121],
 [114, 101, 115, 101, 116],
 [108, 97, 116, 101],
 [99, 97, 112],
 [104, 111, 108, 105, 100, 97, 121],
 [111, 114, 100, 101, 114],
 [102, 101, 101, 115],
 [105, 110, 116, 101, 114, 101, 115, 116],
 [112, 114, 105, 110, 99, 105, 112, 97, 108],
 [111, 118, 101, 114],
 [104, 111, 108, 100],
 [112, 114, 101, 112, 97, 121],
 [114, 101, 102, 117, 110, 100],
 [114, 111, 108, 108],
 [115, 116, 97, 121],
 [110, 101, 120, 116],
 [119, 105, 116, 104, 105, 110],
 [112, 114, 101, 118, 105, 111, 117, 115]]
def Small (x : Int) : Prop := 97 <= x /\ x <= 122
def Inner (x : Int) : Prop := Small x \/ Dig x \/ x = 45
instance (x : Int) : Decidable (Small x) := inferInstanceAs (Decidable (_ /\ _))
instance (x : Int) : Decidable (Inner x) := inferInstanceAs (Decidable (_ \/ _))
def nameP (l : List Int) : Prop := (1 <= l.length /\ l.length <= 20 /\ (∀ x, l.head? = some x -> Small x) /\ ∀ x ∈ l, Inner x) /\ l ∉ wordsL
def resetsP (times : Int) : Option Rs -> List Rs -> Prop
 | _, [] => True
 | p, r :: l => (1 <= r.aft /\ r.aft <= times - 1) /\ (0 <= r.rate /\ r.rate <= 1000000000) /\ (∀ q, p = some q -> q.aft < r.aft) /\ resetsP times (some r) l
def tiersP : Option Ti -> List Ti -> Prop
 | _, [] => True
 | p, r :: l => (1 <= r.days /\ r.days <= 365) /\ (0 <= r.fee /\ r.fee <= 10000000000000) /\ (∀ q, p = some q -> q.days < r.days /\ q.fee <= r.fee) /\ tiersP (some r) l
def holP : Option Int -> List Int -> Prop
 | _, [] => True
 | p, r :: l => (-25567 <= r /\ r <= 84370) /\ (∀ q, p = some q -> q < r) /\ holP (some r) l
def orderP (a b c d : Int) : Prop := (1 <= a /\ a <= 4) /\ (1 <= b /\ b <= 4) /\ (1 <= c /\ c <= 4) /\ (1 <= d /\ d <= 4) /\ a ≠ b /\ a ≠ c /\ a ≠ d /\ b ≠ c /\ b ≠ d /\ c ≠ d
def shape1 (p : Prod) : Prop := nameP (sB p.name) /\ (1 <= p.count /\ p.count <= 3) /\ (p.rnd = 1 \/ p.rnd = 3) /\ (1 <= p.kind /\ p.kind <= 3)
def shape2 (p : Prod) : Prop := p.every = 1 \/ p.every = 2 \/ p.every = 3 \/ p.every = 4 \/ p.every = 6 \/ p.every = 12
def shape3 (p : Prod) : Prop := (1 <= p.times /\ p.times <= 600) /\ (0 <= p.grace /\ p.grace <= p.times - 1) /\ (p.kind ≠ 3 \/ p.grace = 0)
def ratesP (p : Prod) : Prop := (0 <= p.rate /\ p.rate <= 1000000000) /\ (0 <= p.pen /\ p.pen <= 1000000000) /\ p.resets.length <= 20 /\ resetsP p.times none p.resets
def overP (p : Prod) : Prop := orderP p.o1 p.o2 p.o3 p.o4 /\ (1 <= p.over /\ p.over <= 3)
def lateP (p : Prod) : Prop := p.late.length <= 8 /\ (0 <= p.cap /\ p.cap <= 10000000000000) /\ (p.late ≠ [] \/ p.cap = 0) /\ tiersP none p.late
def daysP (p : Prod) : Prop := (p.hol.length <= 200 /\ holP none p.hol) /\ (1 <= p.roll /\ p.roll <= 4) /\ (p.roll ≠ 1 \/ p.hol = [])
def checkP (p : Prod) : Prop := (shape1 p /\ shape2 p /\ shape3 p) /\ ratesP p /\ overP p /\ lateP p /\ daysP p
noncomputable instance (p : Prod) : Decidable (checkP p) := Classical.propDecidable _
noncomputable def checkC (p : Prod) : Int := if checkP p then 0 else 9
theorem words_nb : ∀ w ∈ wordsL, Nb w := by unfold Nb; decide +kernel
end C2

namespace C3
open Go Go.Proofs VL D1 B10 C2
structure Tok where
 kind : Int
 at_ : Nat
 text : List Int
def encK (t : Tok) : V := .agg [.int .i64 t.kind, .int .i64 t.at_, .str (toBA t.text)]
def kL (l : List Tok) : List V := l.map encK
def Let (c : Int) : Prop := (97 <= c /\ c <= 122) \/ (65 <= c /\ c <= 90)
instance (c : Int) : Decidable (Let c) := inferInstanceAs (Decidable (_ \/ _))
def letB (c : Int) : Bool := decide (Let c)
def digB (c : Int) : Bool := decide (Dig c)
def wordB (c : Int) : Bool := decide (Let c \/ Dig c \/ c = 45)
def numB (c : Int) : Bool := decide (Dig c \/ c = 46 \/ c = 45 \/ c = 47 \/ c = 37)
def goesB (k : Int) (c : Int) : Bool := if k = 1 then wordB c else if k = 2 then numB c else false
def skipN : Bool -> List Int -> Nat
 | _, [] => 0
 | rem, c :: r => if c = 10 then 1 + skipN false r else if c = 35 then 1 + skipN true r else if rem = false /\ c ≠ 32 /\ c ≠ 9 then 0 else 1 + skipN rem r
def kindS (c : Int) (r : List Int) : Option Int :=
 if Let c then some 1 else if Dig c \/ (c = 45 /\ ∃ d, r.head? = some d /\ Dig d) then some 2 else if c = 123 \/ c = 125 \/ c = 59 then some 3 else none
instance (r : List Int) : Decidable (∃ d, r.head? = some d /\ Dig d) := match r with
 | [] => isFalse (by simp)
 | d :: _ => if h : Dig d then isTrue ⟨d, rfl, h⟩ else isFalse (by simpa using h)
inductive Lx where
 | ok (l : List Tok)
 | bad (p : Nat)
def Lx.cons (t : Tok) : Lx -> Lx
 | .ok l => .ok (t :: l)
 | .bad p => .bad p
def lexF : Nat -> List Int -> Nat -> Lx
 | 0, _, i => .bad i
 | f + 1, l, i => match l.drop (skipN false l) with
   | [] => .ok [⟨0, i + skipN false l, []⟩]
   | c :: r => match kindS c r with
     | none => .bad (i + skipN false l)
     | some k => (lexF f (r.dropWhile (goesB k)) (i + skipN false l + 1 + (r.takeWhile (goesB k)).length)).cons ⟨k, i + skipN false l, c :: r.takeWhile (goesB k)⟩
def lexS (l : List Int) : Except (Nat × Int) (List Tok) := if 20000 < l.length then .error (0, 3) else match lexF (l.length + 1) l 0 with
 | .ok t => .ok t
 | .bad p => .error (p, 6)
theorem skipN_le : ∀ (b : Bool) (l : List Int), skipN b l <= l.length
 | b, [] => by simp [skipN]
 | b, c :: r => by
   have h1 := skipN_le false r
   have h2 := skipN_le true r
   have h3 := skipN_le b r
   unfold skipN
   repeat' split
   all_goals simp
   all_goals omega
theorem takeW_le (p : Int -> Bool) (l : List Int) : (l.takeWhile p).length <= l.length := by
 have := List.takeWhile_append_dropWhile (p := p) (l := l)
 have h2 := congrArg List.length this
 rw [List.length_append] at h2; omega
theorem dropW_eq (p : Int -> Bool) : ∀ (l : List Int), l.dropWhile p = l.drop (l.takeWhile p).length
 | [] => rfl
 | x :: r => by
   cases h : p x
   · simp [List.takeWhile_cons, List.dropWhile_cons, h]
   · simp [List.takeWhile_cons, List.dropWhile_cons, h, dropW_eq p r]
theorem letB_iff (c : Int) : letB c = true ↔ (97 <= c /\ c <= 122) \/ (65 <= c /\ c <= 90) := by unfold letB; rw [decide_eq_true_iff]; rfl
theorem digB_iff (c : Int) : digB c = true ↔ 48 <= c /\ c <= 57 := by unfold digB; rw [decide_eq_true_iff]; rfl
theorem digB_no (c : Int) : digB c = false ↔ ¬ (48 <= c /\ c <= 57) := by rw [← digB_iff]; simp
theorem letB_no (c : Int) : letB c = false ↔ ¬ ((97 <= c /\ c <= 122) \/ (65 <= c /\ c <= 90)) := by rw [← letB_iff]; simp
theorem kind1 {c : Int} (r : List Int) (h : (97 <= c /\ c <= 122) \/ (65 <= c /\ c <= 90)) : kindS c r = some 1 := by unfold kindS; rw [if_pos (show Let c from h)]
theorem kind2 {c : Int} (r : List Int) (h : ¬ ((97 <= c /\ c <= 122) \/ (65 <= c /\ c <= 90))) (h2 : (48 <= c /\ c <= 57) \/ (c = 45 /\ ∃ d, r.head? = some d /\ Dig d)) : kindS c r = some 2 := by
 unfold kindS; rw [if_neg (show ¬ Let c from h)]; split
 · rfl
 · rename_i hn; exact absurd h2 hn
theorem kind3 {c : Int} (r : List Int) (h : c = 123 \/ c = 125 \/ c = 59) : kindS c r = some 3 := by
 unfold kindS
 rw [if_neg (by unfold Let; omega), if_neg (by unfold Dig; omega), if_pos h]
theorem kind0 {c : Int} (r : List Int) (h : ¬ ((97 <= c /\ c <= 122) \/ (65 <= c /\ c <= 90))) (h2 : ¬ ((48 <= c /\ c <= 57) \/ (c = 45 /\ ∃ d, r.head? = some d /\ Dig d))) (h3 : ¬ (c = 123 \/ c = 125 \/ c = 59)) : kindS c r = none := by
 unfold kindS; rw [if_neg (show ¬ Let c from h)]; split
 · rename_i hn; exact absurd hn h2
 · first | rfl | exact if_neg h3
theorem wordB_iff (c : Int) : wordB c = true ↔ letB c = true \/ digB c = true \/ c = 45 := by unfold wordB letB digB; simp
theorem numB_iff (c : Int) : numB c = true ↔ digB c = true \/ c = 46 \/ c = 45 \/ c = 47 \/ c = 37 := by unfold numB digB; simp
end C3

namespace C5
open Go Go.Proofs VL D1 B10 C2 C3
theorem c_letter (c : Int) (K) (h : K (.ret (.bool (letB c))) []) : VCall Tryz.prog 95 [.int .u8 c] [] K := by
 have hfin : ∀ b, letB c = b -> K (.ret (.bool b)) [] := fun b e => by rw [e] at h; exact h
 clear h
 refine call_fun [] 0 Tryz.func95 (by rfl) (by rfl) ?_
 conv=>whnf
 (repeat' first | (refine step_go [] ?_;conv=>whnf) | (refine two ?_ ?_<;>intro g<;>(try simp only[bsx]at g)<;>(conv=>whnf)) | (refine And.intro rfl ?_;conv=>whnf) | fail)
 all_goals (refine hfin _ ?_; rw [Bool.eq_iff_iff, letB_iff]; simp; omega)
theorem c_ldigit (c : Int) (K) (h : K (.ret (.bool (digB c))) []) : VCall Tryz.prog 98 [.int .u8 c] [] K := by
 have hfin : ∀ b, digB c = b -> K (.ret (.bool b)) [] := fun b e => by rw [e] at h; exact h
 clear h
 refine call_fun [] 0 Tryz.func98 (by rfl) (by rfl) ?_
 conv=>whnf
 (repeat' first | (refine step_go [] ?_;conv=>whnf) | (refine two ?_ ?_<;>intro g<;>(try simp only[bsx]at g)<;>(conv=>whnf)) | (refine And.intro rfl ?_;conv=>whnf) | fail)
 all_goals (refine hfin _ ?_; rw [Bool.eq_iff_iff, digB_iff]; simp; omega)
theorem c_inWord (c : Int) (K) (h : K (.ret (.bool (wordB c))) []) : VCall Tryz.prog 97 [.int .u8 c] [] K := by
 have hfin : ∀ b, wordB c = b -> K (.ret (.bool b)) [] := fun b e => by rw [e] at h; exact h
 clear h
 refine call_fun [] 0 Tryz.func97 (by rfl) (by rfl) ?_
 conv=>whnf
 (repeat' first | (refine step_go [] ?_;conv=>whnf) | (refine two ?_ ?_<;>intro g<;>(try simp only[bsx]at g)<;>(conv=>whnf)) | (refine And.intro rfl ?_;conv=>whnf) | (refine c_letter _ _ ?_;conv=>whnf) | (refine c_ldigit _ _ ?_;conv=>whnf) | fail)
 all_goals (refine hfin _ ?_; rw [Bool.eq_iff_iff, wordB_iff]; simp_all)
theorem c_inNumber (c : Int) (K) (h : K (.ret (.bool (numB c))) []) : VCall Tryz.prog 99 [.int .u8 c] [] K := by
 have hfin : ∀ b, numB c = b -> K (.ret (.bool b)) [] := fun b e => by rw [e] at h; exact h
 clear h
 refine call_fun [] 0 Tryz.func99 (by rfl) (by rfl) ?_
 conv=>whnf
 (repeat' first | (refine step_go [] ?_;conv=>whnf) | (refine two ?_ ?_<;>intro g<;>(try simp only[bsx]at g)<;>(conv=>whnf)) | (refine And.intro rfl ?_;conv=>whnf) | (refine c_ldigit _ _ ?_;conv=>whnf) | fail)
 all_goals (refine hfin _ ?_; rw [Bool.eq_iff_iff, numB_iff]; simp_all)
theorem c_never (c : Int) (K) (h : K (.ret (.bool false)) []) : VCall Tryz.prog 100 [.int .u8 c] [] K := by
 refine call_fun [] 0 Tryz.func100 (by rfl) (by rfl) ?_
 conv=>whnf
 (repeat' first | (refine step_go [] ?_;conv=>whnf) | (refine two ?_ ?_<;>intro g<;>(try simp only[bsx]at g)<;>(conv=>whnf)) | (refine And.intro rfl ?_;conv=>whnf) | fail)
 exact h
def lO (s : ByteArray) (i : Nat) : List VObj := [.cells true 120 [.str s, .int .i64 i]]
theorem drop_at {s : ByteArray} {i : Nat} (h : i < s.size) : ∃ c, (sB s)[i]? = some c /\ (sB s).drop i = c :: (sB s).drop (i + 1) := by
 have hl : i < (sB s).length := by rw [sB_len]; exact h
 exact ⟨_, List.getElem?_eq_getElem hl, List.drop_eq_getElem_cons hl⟩
set_option maxHeartbeats 1000000 in
theorem c_pass (s : ByteArray) (hs : s.size < 1000000) (i : Nat) (hi : i <= s.size) (K) (h : K (.ret (.tup [])) (lO s (i + skipN false ((sB s).drop i)))) : VCall Tryz.prog 94 [.ptr 0 0] (lO s i) K := by
 have hsl := sB_len s
 unfold lO
 refine call_fun [] 1 Tryz.func94 (by rfl) (by rfl) ?_
 (conv=>whnf); (repeat (refine step_go [] ?_;conv=>whnf))
 let S : Nat × Bool -> St := fun x => ⟨(.ptr 0 0 :: .undef :: .bool x.2 :: .undef :: .undef :: .undef :: .undef :: .undef :: .undef :: .undef :: .undef :: .undef :: .undef :: .undef :: .undef :: .undef :: .undef :: .undef :: .undef :: .undef :: .undef :: .undef :: .undef :: .undef :: .undef :: .undef :: .undef :: .undef :: .undef :: .undef :: .undef :: .undef :: .undef :: .undef :: .undef :: .undef :: .undef :: .undef :: .undef :: .undef :: .undef :: .undef :: .undef :: .undef :: .undef :: .undef :: .undef :: []), lO s x.1, 0, []⟩
 refine VLoop.enter (s' := S (i, false)) (weak_of ?_ (.cons (.eq rfl) .nil) rfl rfl rfl)
  (VLoop.indW S (fun x => s.size - x.1) (fun x => x.1 <= s.size /\ x.1 + skipN x.2 ((sB s).drop x.1) = i + skipN false ((sB s).drop i)) ?_ (i, false) ⟨hi, rfl⟩)
 · (repeat' first | exact VWs.nil | refine VWs.cons VW.undef ?_ | refine VWs.cons (VW.eq rfl) ?_)
 rintro ⟨j, rem⟩ ⟨hj, hinv⟩ ih
 simp only at hj hinv
 refine loop_round [] ?_
 conv=>whnf
 (repeat' first | (refine step_go [] ?_;conv=>whnf) | (refine two ?_ ?_<;>intro g<;>(try simp only[bsx]at g)<;>(conv=>whnf)) | (refine And.intro rfl ?_;conv=>whnf) | (refine dr_go (by decide +kernel) ?_;conv=>whnf) | fail)
 · have hjl : j < s.size := by omega
   obtain ⟨c, hc, hd⟩ := drop_at hjl
   rw [hd] at hinv
   refine idx_str (x := c) (by omega) (by simpa using hc) fun b hb => ?_
   conv=>whnf
   (repeat (refine step_go [] ?_;conv=>whnf))
   rw [hb]
   have wj : IntKind.i64.wrap ((j : Int) + 1) = ((j + 1 : Nat) : Int) := by rw [wrap64 (by omega) (by omega)]; omega
   (repeat' first | (refine step_go [] ?_;conv=>whnf) | (refine two ?_ ?_<;>intro g<;>(try simp only[bsx]at g)<;>(conv=>whnf)) | (refine And.intro rfl ?_;conv=>whnf) | fail)
   all_goals first
    | (refine ⟨_, Weak.refl, ?_⟩; (conv=>whnf); (repeat (refine step_go [] ?_;conv=>whnf))
       refine Eq.mp (congrArg (fun n : Nat => K (.ret (.tup [])) (lO s n)) ?_) h
       rw [← hinv]; simp_all [skipN]; done)
    | (refine ⟨S (j + 1, false), weak_of ?_ (.cons (.eq (by simp only; rw [wj])) .nil) rfl rfl rfl, ih (j + 1, false) ⟨by simp only; omega, ?_⟩ (by simp only; omega)⟩
       · (repeat' first | exact VWs.nil | refine VWs.cons VW.undef ?_ | refine VWs.cons (VW.eq rfl) ?_)
       · rw [← hinv]; simp only; simp_all [skipN]; omega)
    | (refine ⟨S (j + 1, true), weak_of ?_ (.cons (.eq (by simp only; rw [wj])) .nil) rfl rfl rfl, ih (j + 1, true) ⟨by simp only; omega, ?_⟩ (by simp only; omega)⟩
       · (repeat' first | exact VWs.nil | refine VWs.cons VW.undef ?_ | refine VWs.cons (VW.eq rfl) ?_)
       · rw [← hinv]; simp only; simp_all [skipN]; omega)
    | (refine ⟨S (j + 1, rem), weak_of ?_ (.cons (.eq (by simp only; rw [wj])) .nil) rfl rfl rfl, ih (j + 1, rem) ⟨by simp only; omega, ?_⟩ (by simp only; omega)⟩
       · (repeat' first | exact VWs.nil | refine VWs.cons VW.undef ?_ | refine VWs.cons (VW.eq rfl) ?_)
       · rw [← hinv]; simp only; simp_all [skipN]; omega)
 · have hjl : j = s.size := by omega
   subst hjl
   rw [List.drop_eq_nil_of_le (by omega)] at hinv
   refine ⟨_, Weak.refl, ?_⟩; (conv=>whnf); (repeat (refine step_go [] ?_;conv=>whnf))
   refine Eq.mp (congrArg (fun n : Nat => K (.ret (.tup [])) (lO s n)) ?_) h
   rw [← hinv]; simp [skipN]
set_option maxHeartbeats 1000000 in
theorem c_run (s : ByteArray) (hs : s.size < 1000000) (i : Nat) (hi : i < s.size) (k : Int) (f : FuncId) (go : Int -> Bool) (hf : ∀ (c : Int) (K : Out -> List VObj -> Prop), K (.ret (.bool (go c))) [] -> VCall Tryz.prog f [.int .u8 c] [] K) (K)
 (h : K (.ret (.agg [.int .i64 k, .int .i64 i, .str (toBA (((sB s).drop i).take (1 + (((sB s).drop (i + 1)).takeWhile go).length)))])) (lO s (i + 1 + (((sB s).drop (i + 1)).takeWhile go).length))) :
 VCall Tryz.prog 96 [.ptr 0 0, .int .i64 k, .fn (.func f) [] []] (lO s i) K := by
 have hsl := sB_len s
 unfold lO
 refine call_fun [] 1 Tryz.func96 (by rfl) (by rfl) ?_
 (conv=>whnf); (repeat (refine step_go [] ?_;conv=>whnf))
 have wi : IntKind.i64.wrap ((i : Int) + 1) = ((i + 1 : Nat) : Int) := by rw [wrap64 (by omega) (by omega)]; omega
 let S : Nat -> St := fun x => ⟨(.ptr 0 0 :: .int .i64 k :: .fn (.func f) [] [] :: .undef :: .undef :: .undef :: .ptr 1 0 :: .int .i64 i :: .undef :: .undef :: .undef :: .undef :: .undef :: .undef :: .undef :: .undef :: .undef :: .undef :: .undef :: .undef :: .undef :: .undef :: .undef :: .undef :: .undef :: .undef :: .undef :: .undef :: .undef :: .undef :: .undef :: .undef :: .undef :: .undef :: .undef :: .undef :: .undef :: .undef :: .undef :: .undef :: .undef :: .undef :: .undef :: .undef :: .undef :: .undef :: .undef :: .undef :: .undef :: .undef :: .undef :: .undef :: .undef :: .undef :: .undef :: .undef :: .undef :: .undef :: .undef :: .undef :: .undef :: .undef :: []), lO s x ++ [.cells true 90 [.int .i64 0, .int .i64 0, .str ⟨#[]⟩]], 0, []⟩
 refine VLoop.enter (s' := S (i + 1)) (weak_of ?_ (.cons (.eq (by rw [wi])) (.cons (.eq rfl) .nil)) rfl rfl rfl)
  (VLoop.indW S (fun x => s.size - x) (fun x => i + 1 <= x /\ x <= s.size /\ x + (((sB s).drop x).takeWhile go).length = i + 1 + (((sB s).drop (i + 1)).takeWhile go).length) ?_ (i + 1) ⟨by omega, by omega, rfl⟩)
 · (repeat' first | exact VWs.nil | refine VWs.cons VW.undef ?_ | refine VWs.cons (VW.eq rfl) ?_)
 rintro j ⟨hij, hj, hinv⟩ ih
 refine loop_round [] ?_
 conv=>whnf
 have fin : ((sB s).drop j).takeWhile go = [] -> K (.ret (.agg [.int .i64 k, .int .i64 i, .str (s.extract i j)])) (lO s j) := fun h0 => by
  rw [h0] at hinv
  simp only [List.length_nil, Nat.add_zero] at hinv
  rw [← hinv] at h
  refine Eq.mp (congrArg (fun x => K (.ret (.agg [.int .i64 k, .int .i64 i, .str x])) (lO s j)) ?_) h
  rw [← toBA_sB (s.extract i j), sB_ext, List.drop_take]
  congr 2; omega
 (repeat' first | (refine step_go [] ?_;conv=>whnf) | (refine two ?_ ?_<;>intro g<;>(try simp only[bsx]at g)<;>(conv=>whnf)) | (refine And.intro rfl ?_;conv=>whnf) | (refine dr_go (by decide +kernel) ?_;conv=>whnf) | fail)
 · have hjl : j < s.size := by omega
   obtain ⟨c, hc, hd⟩ := drop_at hjl
   refine idx_str (x := c) (by omega) (by simpa using hc) fun b hb => ?_
   conv=>whnf
   (repeat (refine step_go [] ?_;conv=>whnf))
   rw [hb]
   refine hf c _ ?_
   conv=>whnf
   (repeat' first | (refine step_go [] ?_;conv=>whnf) | (refine two ?_ ?_<;>intro g<;>(try simp only[bsx]at g)<;>(conv=>whnf)) | (refine And.intro rfl ?_;conv=>whnf) | fail)
   · refine ⟨S (j + 1), weak_of ?_ (.cons (.eq (by rw [show IntKind.i64.wrap ((j : Int) + 1) = ((j + 1 : Nat) : Int) by rw [wrap64 (by omega) (by omega)]; omega])) (.cons (.eq rfl) .nil)) rfl rfl rfl, ih (j + 1) ⟨by omega, by omega, ?_⟩ (by omega)⟩
     · (repeat' first | exact VWs.nil | refine VWs.cons VW.undef ?_ | refine VWs.cons (VW.eq rfl) ?_)
     · rw [← hinv, hd, List.takeWhile_cons_of_pos g]; simp; omega
   · have h0 : ((sB s).drop j).takeWhile go = [] := by rw [hd, List.takeWhile_cons_of_neg (by simp [g])]
     refine ⟨_, Weak.refl, ?_⟩
     conv=>whnf
     (repeat' first | (refine step_go [] ?_;conv=>whnf) | (refine two ?_ ?_<;>intro g<;>(try simp only[bsx]at g)<;>(conv=>whnf)) | (refine And.intro rfl ?_;conv=>whnf) | (refine dr_go (by decide +kernel) ?_;conv=>whnf) | fail)
     refine ⟨by omega, by omega, by omega, ?_⟩
     conv=>whnf
     (repeat' first | (refine step_go [] ?_;conv=>whnf) | (refine two ?_ ?_<;>intro g<;>(try simp only[bsx]at g)<;>(conv=>whnf)) | (refine And.intro rfl ?_;conv=>whnf) | (refine dr_go (by decide +kernel) ?_;conv=>whnf) | fail)
     exact fin h0
 · have h0 : ((sB s).drop j).takeWhile go = [] := by rw [List.drop_eq_nil_of_le (by omega)]; rfl
   refine ⟨_, Weak.refl, ?_⟩
   conv=>whnf
   (repeat' first | (refine step_go [] ?_;conv=>whnf) | (refine two ?_ ?_<;>intro g<;>(try simp only[bsx]at g)<;>(conv=>whnf)) | (refine And.intro rfl ?_;conv=>whnf) | (refine dr_go (by decide +kernel) ?_;conv=>whnf) | fail)
   refine ⟨by omega, by omega, by omega, ?_⟩
   conv=>whnf
   (repeat' first | (refine step_go [] ?_;conv=>whnf) | (refine two ?_ ?_<;>intro g<;>(try simp only[bsx]at g)<;>(conv=>whnf)) | (refine And.intro rfl ?_;conv=>whnf) | (refine dr_go (by decide +kernel) ?_;conv=>whnf) | fail)
   exact fin h0
end C5

namespace C6
open Go Go.Proofs VL D1 B10 BB6 BB10 BB14 C1 C2
def pvO {α : Type} (L : List α) (i : Nat) : Option α := if i = 0 then none else L[i - 1]?
theorem pvO_succ {α : Type} {L : List α} {i : Nat} (hi : i < L.length) : pvO L (i + 1) = some L[i] := by
 unfold pvO; rw [if_neg (by omega), Nat.add_sub_cancel, List.getElem?_eq_getElem hi]
theorem prev_ex {α : Type} (enc : α -> V) (L : List α) (i : Nat) (hi : i < L.length) (hl : L.length < 200000000000000) :
 ∃ q, (0 < i -> (L.map enc)[(IntKind.i64.wrap ((i : Int) - 1)).toNat]? = some (enc q)) /\ ∀ x, pvO L i = some x ↔ 0 < i /\ x = q := by
 by_cases h0 : 0 < i
 · refine ⟨L[i - 1], fun _ => ?_, fun x => ?_⟩
   · rw [wrap64 (by omega) (by omega), show ((i : Int) - 1).toNat = i - 1 by omega, List.getElem?_map, List.getElem?_eq_getElem (by omega)]; rfl
   · unfold pvO; rw [if_neg (by omega), List.getElem?_eq_getElem (by omega)]
     constructor
     · intro h; exact ⟨h0, (Option.some.inj h).symm⟩
     · rintro ⟨_, rfl⟩; rfl
 · refine ⟨L[i], fun h => absurd h h0, fun x => ?_⟩
   unfold pvO; rw [if_pos (by omega)]; simp; omega
theorem c_must (b : Bool) (K : Out -> List VObj -> Prop) (h : @Bool.rec (fun _ => Prop) (K (.pan (.ifc 92 (.agg []))) []) (K (.ret (.tup [])) []) b) : VCall Tryz.prog 80 [.bool b] [] K := by
 refine call_fun [] 0 Tryz.func80 (by rfl) (by rfl) ?_
 conv=>whnf
 cases b
 · (repeat' first | (refine step_go [] ?_;conv=>whnf) | (refine two ?_ ?_<;>intro g<;>(try simp only[bsx]at g)<;>(conv=>whnf)) | (refine And.intro rfl ?_;conv=>whnf) | fail)
   exact h
 · (repeat' first | (refine step_go [] ?_;conv=>whnf) | (refine two ?_ ?_<;>intro g<;>(try simp only[bsx]at g)<;>(conv=>whnf)) | (refine And.intro rfl ?_;conv=>whnf) | fail)
   exact h
theorem c_within (v a b : Int) (K) (h : K (.ret (.bool (decide (a <= v /\ v <= b)))) []) : VCall Tryz.prog 81 [.int .i64 v, .int .i64 a, .int .i64 b] [] K := by
 have hfin : ∀ x, decide (a <= v /\ v <= b) = x -> K (.ret (.bool x)) [] := fun x e => by rw [e] at h; exact h
 clear h
 refine call_fun [] 0 Tryz.func81 (by rfl) (by rfl) ?_
 conv=>whnf
 (repeat' first | (refine step_go [] ?_;conv=>whnf) | (refine two ?_ ?_<;>intro g<;>(try simp only[bsx]at g)<;>(conv=>whnf)) | (refine And.intro rfl ?_;conv=>whnf) | fail)
 all_goals (refine hfin _ ?_; simp; omega)
theorem c_within64 (v a b : Int) (K) (h : K (.ret (.bool (decide (a <= v /\ v <= b)))) []) : VCall Tryz.prog 82 [.int .i64 v, .int .i64 a, .int .i64 b] [] K := by
 have hfin : ∀ x, decide (a <= v /\ v <= b) = x -> K (.ret (.bool x)) [] := fun x e => by rw [e] at h; exact h
 clear h
 refine call_fun [] 0 Tryz.func82 (by rfl) (by rfl) ?_
 conv=>whnf
 (repeat' first | (refine step_go [] ?_;conv=>whnf) | (refine two ?_ ?_<;>intro g<;>(try simp only[bsx]at g)<;>(conv=>whnf)) | (refine And.intro rfl ?_;conv=>whnf) | fail)
 all_goals (refine hfin _ ?_; simp; omega)
theorem c_there (v : Int) (K) (h : K (.ret (.bool (decide (-25567 <= v /\ v <= 84370)))) []) : VCall Tryz.prog 104 [.int .i64 v] [] K := by
 have hfin : ∀ x, decide (-25567 <= v /\ v <= 84370) = x -> K (.ret (.bool x)) [] := fun x e => by rw [e] at h; exact h
 clear h
 refine call_fun [] 0 Tryz.func104 (by rfl) (by rfl) ?_
 conv=>whnf
 (repeat' first | (refine step_go [] ?_;conv=>whnf) | (refine two ?_ ?_<;>intro g<;>(try simp only[bsx]at g)<;>(conv=>whnf)) | (refine And.intro rfl ?_;conv=>whnf) | fail)
 all_goals (refine hfin _ ?_; simp; omega)
noncomputable def nameB (l : List Int) : Bool := open Classical in decide (nameP l)
theorem nameB_iff (l : List Int) : nameB l = true ↔ nameP l := by unfold nameB; simp
theorem nameB_no (l : List Int) : nameB l = false ↔ ¬ nameP l := by unfold nameB; simp
set_option maxHeartbeats 2000000 in
theorem c_shape (p : Prod) (hp : p.ok) (hname : ∀ K : Out -> List VObj -> Prop, K (.ret (.bool (nameB (sB p.name)))) [] -> VCall Tryz.prog 77 [.str p.name] [] K) (K : Out -> List VObj -> Prop) (h0 : shape1 p /\ shape2 p /\ shape3 p -> K (.ret (.tup [])) [])
 (h1 : ¬ (shape1 p /\ shape2 p /\ shape3 p) -> K (.pan (.ifc 92 (.agg []))) []) : VCall Tryz.prog 50 [encP p] [] K := by
 have ht := hp.times
 unfold I64 at ht
 unfold encP cellsP
 refine call_fun [] 0 Tryz.func50 (by rfl) (by rfl) ?_
 conv=>whnf
 (repeat' first | (refine step_go [] ?_;conv=>whnf) | (refine two ?_ ?_<;>intro g<;>(try simp only[bsx, nameB_iff, nameB_no]at g)<;>(conv=>whnf)) | (refine And.intro rfl ?_;conv=>whnf) | (refine hname _ ?_;conv=>whnf) | (refine c_within _ _ _ _ ?_;conv=>whnf) | (refine c_must _ _ ?_;conv=>whnf) | fail)
 all_goals first
  | (refine h0 ⟨⟨by assumption, by omega, by omega, by omega⟩, ?_, by omega, ?_, by omega⟩
     · unfold shape2; omega
     · rw [wrap64 (x := p.times - 1) (by omega) (by omega)] at *; omega)
  | (refine h1 fun hh => ?_
     obtain ⟨⟨a1, a2, a3, a4⟩, a5, a6, a7, a8⟩ := hh
     unfold shape2 at a5
     first
      | contradiction
      | omega
      | (rw [wrap64 (x := p.times - 1) (by omega) (by omega)] at *; omega))
set_option maxHeartbeats 2000000 in
theorem c_lrates (p : Prod) (hp : p.ok) (hs : 1 <= p.times /\ p.times <= 600) (K : Out -> List VObj -> Prop) (h0 : ratesP p -> K (.ret (.tup [])) []) (h1 : ¬ ratesP p -> K (.pan (.ifc 92 (.agg []))) []) : VCall Tryz.prog 51 [encP p] [] K := by
 have ht := hp.times
 have hlen := hp.lr
 unfold I64 at ht
 unfold encP cellsP
 obtain ⟨T, hT⟩ : ∃ T, tL p.late = T := ⟨_, rfl⟩
 obtain ⟨H, hH⟩ : ∃ H, iL p.hol = H := ⟨_, rfl⟩
 have hrl : (rL p.resets).length = p.resets.length := by simp [rL]
 rw [hT, hH]
 refine call_fun [] 0 Tryz.func51 (by rfl) (by rfl) ?_
 conv=>whnf
 (repeat' first | (refine step_go [] ?_;conv=>whnf) | (refine two ?_ ?_<;>intro g<;>(try simp only[bsx, hrl]at g)<;>(conv=>whnf)) | (refine And.intro rfl ?_;conv=>whnf) | (refine c_within64 _ _ _ _ ?_;conv=>whnf) | (refine c_must _ _ ?_;conv=>whnf) | fail)
 rotate_left
 · exact h1 fun hh => by unfold ratesP at hh; omega
 · exact h1 fun hh => by unfold ratesP at hh; omega
 · exact h1 fun hh => by unfold ratesP at hh; omega
 have hfin : (resetsP p.times none p.resets -> K (.ret (.tup [])) []) /\ (¬ resetsP p.times none p.resets -> K (.pan (.ifc 92 (.agg []))) []) :=
  ⟨fun hh => h0 ⟨by omega, by omega, by omega, hh⟩, fun hh => h1 fun h => hh h.2.2.2⟩
 clear h0 h1
 obtain ⟨h0, h1⟩ := hfin
 let CC : List V := [.str p.name, .int .i64 p.count, .int .i64 p.rnd, .int .i64 p.kind, .int .i64 p.every, .int .i64 p.times, .int .i64 p.grace, .int .i64 p.rate, .sl (rL p.resets) .no, .int .i64 p.pen, .int .i64 p.o1, .int .i64 p.o2, .int .i64 p.o3, .int .i64 p.o4, .int .i64 p.over, .sl T .no, .int .i64 p.cap, .int .i64 p.roll, .sl H .no]
 let S : Nat -> St := fun i => ⟨(.undef :: .ptr 0 0 :: .ptr 1 0 :: .undef :: .undef :: .undef :: .undef :: .undef :: .undef :: .undef :: .undef :: .undef :: .undef :: .undef :: .undef :: .undef :: .undef :: .undef :: .undef :: .undef :: .undef :: .undef :: .undef :: .sl (rL p.resets) .no :: .int .i64 (p.resets.length : Nat) :: .int .i64 (i : Nat) :: .undef :: .undef :: .undef :: .undef :: .undef :: .undef :: .undef :: .undef :: .undef :: .undef :: .undef :: .undef :: .undef :: .undef :: .undef :: .undef :: .undef :: .undef :: .undef :: .undef :: .undef :: .undef :: .undef :: .undef :: .undef :: .undef :: .undef :: .undef :: .undef :: .undef :: .undef :: .undef :: .undef :: []), [.cells true 94 CC, .cells true 27 CC], 0, []⟩
 refine VLoop.enter (s' := S 0) (weak_of ?_ (.cons (.eq rfl) (.cons (.eq rfl) .nil)) rfl rfl rfl)
  (VLoop.indW S (fun i => p.resets.length - i) (fun i => i <= p.resets.length /\ (resetsP p.times none p.resets ↔ resetsP p.times (pvO p.resets i) (p.resets.drop i))) ?_ 0 ⟨by omega, Iff.rfl⟩)
 · repeat' first
    | exact VWs.nil
    | refine VWs.cons VW.undef ?_
    | refine VWs.cons (VW.eq rfl) ?_
    | refine VWs.cons (VW.eq (by rw [hrl])) ?_
 rintro i ⟨hi, hinv⟩ ih
 refine loop_round [] ?_; conv=>whnf
 (repeat' first | (refine step_go [] ?_;conv=>whnf) | (refine two ?_ ?_<;>intro g<;>(try simp only[bsx]at g)<;>(conv=>whnf)) | (refine And.intro rfl ?_;conv=>whnf) | fail)
 · have hil : i < p.resets.length := by omega
   have hget : (rL p.resets)[((i : Nat) : Int).toNat]? = some (encR p.resets[i]) := by rw [Int.toNat_natCast]; simp [rL, List.getElem?_eq_getElem hil]
   have hdrop : p.resets.drop i = p.resets[i] :: p.resets.drop (i + 1) := List.drop_eq_getElem_cons hil
   obtain ⟨q, hq1, hq2⟩ := prev_ex encR p.resets i hil (by omega)
   have hpv := pvO_succ hil
   obtain ⟨d, hd⟩ : ∃ d, p.resets[i] = d := ⟨_, rfl⟩
   rw [hd] at hget hdrop hpv
   have hI := hp.resets d (by rw [← hd]; exact List.getElem_mem _)
   unfold I64 at hI
   rw [hdrop] at hinv
   conv at hinv => rhs; unfold resetsP
   rw [← hpv] at hinv
   refine ⟨by omega, _, hget, rfl, ?_⟩
   have wt : IntKind.i64.wrap (p.times - 1) = p.times - 1 := wrap64 (by omega) (by omega)
   have wi : IntKind.i64.wrap ((i : Int) + 1) = ((i + 1 : Nat) : Int) := by rw [wrap64 (by omega) (by omega)]; omega
   have hpan : ¬ ((1 <= d.aft /\ d.aft <= p.times - 1) /\ (0 <= d.rate /\ d.rate <= 1000000000) /\ (0 < i -> q.aft < d.aft)) -> K (.pan (.ifc 92 (.agg []))) [] := fun hh => h1 fun h => hh (by
    obtain ⟨a, b, c, _⟩ := hinv.1 h
    exact ⟨a, b, fun h0 => c q ((hq2 q).2 ⟨h0, rfl⟩)⟩)
   have hnext : (1 <= d.aft /\ d.aft <= p.times - 1) /\ (0 <= d.rate /\ d.rate <= 1000000000) /\ (0 < i -> q.aft < d.aft) -> VLoop _ _ _ (S (i + 1)) _ := fun hh => ih (i + 1) ⟨by omega, hinv.trans ⟨fun h => h.2.2.2, fun h => ⟨hh.1, hh.2.1, fun x hx => by obtain ⟨h0, rfl⟩ := (hq2 x).1 hx; exact hh.2.2 h0, h⟩⟩⟩ (by omega)
   conv=>whnf
   (repeat' first | (refine step_go [] ?_;conv=>whnf) | (refine two ?_ ?_<;>intro g<;>(try simp only[bsx, wt]at g)<;>(conv=>whnf)) | (refine And.intro rfl ?_;conv=>whnf) | (refine dr_go (by decide +kernel) ?_;conv=>whnf) | (refine c_within _ _ _ _ ?_;conv=>whnf) | (refine c_within64 _ _ _ _ ?_;conv=>whnf) | (refine c_must _ _ ?_;conv=>whnf) | (refine ⟨by rw [wrap64 (by omega) (by omega)]; omega, _, hq1 (by omega), rfl, ?_⟩;conv=>whnf) | fail)
   all_goals first
    | (refine hpan fun hh => ?_; omega)
    | (refine weak_sel (src := [0, 1]) ?_; conv=>whnf
       refine VLoop.enter (s' := S (i + 1)) (weak_of (by rw [wi]; (repeat' first | exact VWs.nil | refine VWs.cons VW.undef ?_ | refine VWs.cons (VW.eq rfl) ?_)) (.cons (.eq rfl) (.cons (.eq rfl) .nil)) rfl rfl rfl) (hnext (by omega)))
 · have hil : i = p.resets.length := by omega
   subst hil
   rw [List.drop_length] at hinv
   refine ⟨_, Weak.refl, ?_⟩
   conv=>whnf
   (repeat' first | (refine step_go [] ?_;conv=>whnf) | (refine two ?_ ?_<;>intro g<;>(try simp only[bsx]at g)<;>(conv=>whnf)) | (refine And.intro rfl ?_;conv=>whnf) | fail)
   exact h0 (hinv.2 trivial)
end C6

namespace C7
open Go Go.Proofs VL D1 B10 C2 C3 C5
def fltL (p e : Int) : V := .ifc 117 (.agg [.int .i64 p, .int .i64 e])
theorem goes1 : goesB 1 = wordB := by funext c; simp [goesB]
theorem goes2 : goesB 2 = numB := by funext c; simp [goesB]
theorem goes3 : goesB 3 = fun _ => false := by funext c; simp [goesB]
theorem run_txt {l : List Int} {j : Nat} {c : Int} {r : List Int} (h : l.drop j = c :: r) (g : Int -> Bool) : (l.drop j).take (1 + ((l.drop (j + 1)).takeWhile g).length) = c :: r.takeWhile g := by
 have h1 : l.drop (j + 1) = r := by rw [← List.drop_drop, h]; rfl
 rw [h, h1, Nat.add_comm, List.take_succ_cons]
 congr 1
 have : ∀ (l : List Int), l.take (l.takeWhile g).length = l.takeWhile g := fun l => by
  induction l with
  | nil => rfl
  | cons x l ih =>
    cases hx : g x
    · rw [List.takeWhile_cons_of_neg (by simp [hx])]; rfl
    · rw [List.takeWhile_cons_of_pos hx, List.length_cons, List.take_succ_cons, ih]
 exact this r
set_option maxHeartbeats 2000000 in
theorem c_lnext (s : ByteArray) (hs : s.size < 1000000) (i : Nat) (hi : i <= s.size) (K)
 (h0 : (sB s).drop (i + skipN false ((sB s).drop i)) = [] -> K (.ret (encK ⟨0, i + skipN false ((sB s).drop i), []⟩)) (lO s (i + skipN false ((sB s).drop i))))
 (h1 : ∀ c r k, (sB s).drop (i + skipN false ((sB s).drop i)) = c :: r -> kindS c r = some k -> K (.ret (encK ⟨k, i + skipN false ((sB s).drop i), c :: r.takeWhile (goesB k)⟩)) (lO s (i + skipN false ((sB s).drop i) + 1 + (r.takeWhile (goesB k)).length)))
 (h2 : ∀ c r, (sB s).drop (i + skipN false ((sB s).drop i)) = c :: r -> kindS c r = none -> K (.pan (fltL (i + skipN false ((sB s).drop i) : Nat) 6)) (lO s (i + skipN false ((sB s).drop i)))) :
 VCall Tryz.prog 75 [.ptr 0 0] (lO s i) K := by
 have hsl := sB_len s
 have hsk := skipN_le false ((sB s).drop i)
 rw [List.length_drop] at hsk
 refine call_fun [] 1 Tryz.func75 (by rfl) (by rfl) ?_
 (conv=>whnf); (repeat (refine step_go [] ?_;conv=>whnf))
 refine c_pass s hs i hi _ ?_
 obtain ⟨j, hj⟩ : ∃ j, i + skipN false ((sB s).drop i) = j := ⟨_, rfl⟩
 rw [hj] at h0 h1 h2 ⊢
 conv=>whnf
 (repeat' first | (refine step_go [] ?_;conv=>whnf) | (refine two ?_ ?_<;>intro g<;>(try simp only[bsx]at g)<;>(conv=>whnf)) | (refine And.intro rfl ?_;conv=>whnf) | (refine dr_go (by decide +kernel) ?_;conv=>whnf) | fail)
 · have e : j = s.size := by omega
   exact h0 (List.drop_eq_nil_of_le (by omega))
 · have hjl : j < s.size := by omega
   obtain ⟨c, hc, hd⟩ := drop_at hjl
   obtain ⟨r, hr⟩ : ∃ r, (sB s).drop (j + 1) = r := ⟨_, rfl⟩
   rw [hr] at hd
   have wj : IntKind.i64.wrap ((j : Int) + 1) = ((j + 1 : Nat) : Int) := by rw [wrap64 (by omega) (by omega)]; omega
   refine idx_str (x := c) (by omega) (by simpa using hc) fun b hb => ?_
   conv=>whnf
   (repeat (refine step_go [] ?_;conv=>whnf))
   rw [hb]
   clear hb b
   have hret : ∀ k g, kindS c r = some k -> goesB k = g -> K (.ret (.agg [.int .i64 k, .int .i64 j, .str (toBA (((sB s).drop j).take (1 + (((sB s).drop (j + 1)).takeWhile g).length)))])) (lO s (j + 1 + (((sB s).drop (j + 1)).takeWhile g).length)) := fun k g hk hg => by
    have := h1 c r k hd hk
    rw [hg] at this
    rw [run_txt hd, hr]; exact this
   (repeat' first | (refine step_go [] ?_;conv=>whnf) | (refine two ?_ ?_<;>intro g<;>(try simp only[bsx, letB_iff, digB_iff, letB_no, digB_no, wj]at g)<;>(conv=>whnf)) | (refine And.intro rfl ?_;conv=>whnf) | (refine dr_go (by decide +kernel) ?_;conv=>whnf) | (refine c_letter _ _ ?_;conv=>whnf) | (refine c_ldigit _ _ ?_;conv=>whnf) | (refine c_run s hs j hjl 1 _ wordB c_inWord _ ?_;conv=>whnf) | (refine c_run s hs j hjl 2 _ numB c_inNumber _ ?_;conv=>whnf) | (refine c_run s hs j hjl 3 _ (fun _ => false) c_never _ ?_;conv=>whnf) | fail)
   all_goals first
    | exact hret 1 _ (kind1 r g) goes1
    | (exfalso; omega)
    | exact hret 2 _ (kind2 r (by omega) (.inl (by omega))) goes2
    | exact hret 3 _ (kind3 r (by omega)) goes3
    | (refine h2 c r hd (kind0 r (by omega) ?_ (by omega))
       rintro (h | ⟨h, d, hd1, hd2⟩)
       · omega
       · first
          | omega
          | (rw [← hr, List.drop_eq_nil_of_le (by omega)] at hd1; cases hd1))
    | skip
   obtain ⟨d, hd1, hd2⟩ := drop_at (s := s) (i := j + 1) (by rw [wj] at *; omega)
   rw [hr] at hd2
   have hh : r.head? = some d := by rw [hd2]; rfl
   refine idx_str (x := d) (by rw [wj]; omega) (by rw [wj, Int.toNat_natCast]; exact hd1) fun b hb => ?_
   conv=>whnf
   (repeat (refine step_go [] ?_;conv=>whnf))
   rw [hb]
   clear hb b
   (repeat' first | (refine step_go [] ?_;conv=>whnf) | (refine two ?_ ?_<;>intro g<;>(try simp only[bsx, letB_iff, digB_iff, letB_no, digB_no, wj]at g)<;>(conv=>whnf)) | (refine And.intro rfl ?_;conv=>whnf) | (refine dr_go (by decide +kernel) ?_;conv=>whnf) | (refine c_letter _ _ ?_;conv=>whnf) | (refine c_ldigit _ _ ?_;conv=>whnf) | (refine c_run s hs j hjl 1 _ wordB c_inWord _ ?_;conv=>whnf) | (refine c_run s hs j hjl 2 _ numB c_inNumber _ ?_;conv=>whnf) | (refine c_run s hs j hjl 3 _ (fun _ => false) c_never _ ?_;conv=>whnf) | fail)
   all_goals first
    | (exfalso; omega)
    | exact hret 2 _ (kind2 r (by omega) (.inr ⟨by omega, d, hh, by unfold Dig; omega⟩)) goes2
    | exact hret 3 _ (kind3 r (by omega)) goes3
    | (refine h2 c r hd (kind0 r (by omega) ?_ (by omega))
       rintro (h | ⟨h, d', hd1, hd2⟩)
       · omega
       · rw [hh] at hd1; cases hd1; unfold Dig at hd2; omega)
end C7

namespace C8
open Go Go.Proofs VL D1 B10 C2 C3 C5 C7
def aO (a : V) (b c : Int) : List VObj := [.cells true 82 [a], .cells true 3 [.int .i64 b], .cells true 36 [.int .i64 c]]
theorem d_all0 (n k : Nat) (b c : Int) (mv : Bool) (L : List V) (K) (h : K false (aO (.slo 3 3 0 n k) b c ++ [.buf mv 3 L])) :
 VCallD Tryz.prog 74 [.ptr 0 0, .ptr 1 0, .ptr 2 0] (aO (.slo 3 3 0 n k) b c ++ [.buf mv 3 L]) none K := by
 unfold aO at h ⊢
 refine calld_fun [] 4 Tryz.func74 (by rfl) (by rfl) ?_
 conv=>whnf
 refine ⟨rfl, ?_⟩
 conv=>whnf
 (repeat' first | (refine step_go [] ?_;conv=>whnf) | (refine two ?_ ?_<;>intro g<;>(try simp only[bsx]at g)<;>(conv=>whnf)) | (refine And.intro rfl ?_;conv=>whnf) | (refine dr_go (by decide +kernel) ?_;conv=>whnf) | fail)
 exact h
theorem d_all1 (n k : Nat) (b c : Int) (mv : Bool) (L : List V) (p e : Int) (K) (h : K true (aO (.sl [] .ex) p e ++ [.buf mv 3 L])) :
 VCallD Tryz.prog 74 [.ptr 0 0, .ptr 1 0, .ptr 2 0] (aO (.slo 3 3 0 n k) b c ++ [.buf mv 3 L]) (some (fltL p e)) K := by
 unfold fltL
 unfold aO at h ⊢
 refine calld_fun [] 4 Tryz.func74 (by rfl) (by rfl) ?_
 conv=>whnf
 refine ⟨rfl, ?_⟩
 conv=>whnf
 (repeat' first | (refine step_go [] ?_;conv=>whnf) | (refine two ?_ ?_<;>intro g<;>(try simp only[bsx]at g)<;>(conv=>whnf)) | (refine And.intro rfl ?_;conv=>whnf) | (refine dr_go (by decide +kernel) ?_;conv=>whnf) | fail)
 exact h
theorem d_all2 (b c : Int) (p e : Int) (K) (h : K true (aO (.sl [] .ex) p e)) :
 VCallD Tryz.prog 74 [.ptr 0 0, .ptr 1 0, .ptr 2 0] (aO (.sl [] .ex) b c) (some (fltL p e)) K := by
 unfold fltL
 unfold aO at h ⊢
 refine calld_fun [] 3 Tryz.func74 (by rfl) (by rfl) ?_
 conv=>whnf
 refine ⟨rfl, ?_⟩
 conv=>whnf
 (repeat' first | (refine step_go [] ?_;conv=>whnf) | (refine two ?_ ?_<;>intro g<;>(try simp only[bsx]at g)<;>(conv=>whnf)) | (refine And.intro rfl ?_;conv=>whnf) | (refine dr_go (by decide +kernel) ?_;conv=>whnf) | fail)
 exact h
theorem kL_len (l : List Tok) : (kL l).length = l.length := by simp [kL]
theorem V_slo {o z lo n n' c c' : Nat} (h1 : n = n') (h2 : c = c') : V.slo o z lo n c = V.slo o z lo n' c' := by subst h1; subst h2; rfl
theorem kind_in {c : Int} {r : List Int} {k : Int} (h : kindS c r = some k) : k = 1 \/ k = 2 \/ k = 3 := by
 unfold kindS at h
 repeat' split at h
 all_goals simp at h
 all_goals omega
def Lx.pre (a : List Tok) : Lx -> Lx
 | .ok l => .ok (a ++ l)
 | .bad p => .bad p
theorem pre_cons (a : List Tok) (t : Tok) (x : Lx) : Lx.pre a (x.cons t) = Lx.pre (a ++ [t]) x := by cases x <;> simp [Lx.pre, Lx.cons]
theorem lexF_step {f : Nat} {l : List Int} {i : Nat} : lexF (f + 1) l i = match l.drop (skipN false l) with
 | [] => .ok [⟨0, i + skipN false l, []⟩]
 | c :: r => match kindS c r with
   | none => .bad (i + skipN false l)
   | some k => (lexF f (r.dropWhile (goesB k)) (i + skipN false l + 1 + (r.takeWhile (goesB k)).length)).cons ⟨k, i + skipN false l, c :: r.takeWhile (goesB k)⟩ := rfl
theorem end_frz {L : List V} {l : List C3.Tok} {sp : List V} {n c : Nat} {a b : Int} {K : Out -> List VObj -> Prop} (hL : L = kL l ++ sp) (hc : c = l.length + sp.length) (hn : n = l.length) (h : K (.ret (.tup [.sl (kL l) .no, .int .i64 a, .int .i64 b])) []) :
 ∃ v' sub', Weak 0 ⟨[.tup [.slo 0 3 0 n c, .int .i64 a, .int .i64 b]], [.buf false 3 L], 0, []⟩ ⟨[v'], sub', 0, []⟩ /\ K (.ret v') sub' := by
 subst hL hc hn
 obtain ⟨s', hw, hk⟩ := weak_frz (m := 0) 0 false (s := ⟨[.tup [.slo 0 3 0 l.length (l.length + sp.length), .int .i64 a, .int .i64 b]], [.buf false 3 (kL l ++ sp)], 0, []⟩)
  (K := fun s' => Weak 0 s' ⟨[.tup [.sl (kL l) .no, .int .i64 a, .int .i64 b]], [], 0, []⟩) (by
    conv=>whnf
    refine ⟨by simp [kL], ?_⟩
    conv=>whnf
    refine weak_of (.cons (.eq ?_) .nil) .nil rfl rfl rfl
    rw [List.drop_zero, ← kL_len, List.take_left])
 exact ⟨_, _, hw.trans hk, h⟩
set_option maxHeartbeats 2000000 in
theorem c_All (s : ByteArray) (hs : s.size < 1000000) (K)
 (h0 : ∀ l, lexS (sB s) = .ok l -> K (.ret (.tup [.sl (kL l) .no, .int .i64 0, .int .i64 0])) [])
 (h1 : ∀ p e, lexS (sB s) = .error (p, e) -> K (.ret (.tup [.sl [] .no, .int .i64 p, .int .i64 e])) []) : VCall Tryz.prog 46 [.str s] [] K := by
 have hsl := sB_len s
 refine VCall.weak (call_fun [] 0 Tryz.func46 (by rfl) (by rfl) ?_)
 conv=>whnf
 (repeat' first | (refine step_go [] ?_;conv=>whnf) | (refine two ?_ ?_<;>intro g<;>(try simp only[bsx]at g)<;>(conv=>whnf)) | (refine And.intro rfl ?_;conv=>whnf) | (refine dr_go (by decide +kernel) ?_;conv=>whnf) | fail)
 · have hb : lexS (sB s) = .error (0, 3) := by unfold lexS; rw [if_pos (by omega)]
   refine d_all2 0 0 0 3 _ ?_
   conv=>whnf
   (repeat' first | (refine step_go [] ?_;conv=>whnf) | (refine two ?_ ?_<;>intro g<;>(try simp only[bsx]at g)<;>(conv=>whnf)) | (refine And.intro rfl ?_;conv=>whnf) | (refine dr_go (by decide +kernel) ?_;conv=>whnf) | fail)
   exact ⟨_, _, weak_of (.cons (.tup (.cons .no (.cons (.eq rfl) (.cons (.eq rfl) .nil)))) .nil) .nil rfl rfl rfl, h1 0 3 hb⟩
 have hsz : s.size <= 20000 := by omega
 have hok : ∀ l, lexF ((sB s).length + 1) (sB s) 0 = .ok l -> lexS (sB s) = .ok l := fun l e => by unfold lexS; rw [if_neg (by omega), e]
 have hbad : ∀ p, lexF ((sB s).length + 1) (sB s) 0 = .bad p -> lexS (sB s) = .error (p, 6) := fun l e => by unfold lexS; rw [if_neg (by omega), e]
 let OB : Nat -> List Tok -> List V -> List VObj := fun i acc sp => [.cells true 82 [.slo 4 3 0 acc.length (acc.length + sp.length)], .cells true 3 [.int .i64 0], .cells true 36 [.int .i64 0], .cells true 120 [.str s, .int .i64 i], .buf false 3 (kL acc ++ sp)]
 let S : Nat × Nat × List Tok × List V -> St := fun x => ⟨(.str s :: .undef :: .ptr 0 0 :: .ptr 1 0 :: .ptr 2 0 :: .ptr 3 0 :: .undef :: .undef :: .undef :: .undef :: .undef :: .undef :: .undef :: .undef :: .undef :: .undef :: .undef :: .undef :: .undef :: .undef :: .undef :: .undef :: .undef :: .undef :: .undef :: .undef :: []), OB x.2.1 x.2.2.1 x.2.2.2, 0, [(.func 74, [], [.ptr 0 0, .ptr 1 0, .ptr 2 0])]⟩
 refine VLoop.enter (s' := S ((sB s).length + 1, 0, [], [])) (Weak.trans (weak_nil 0 0 3 none rfl rfl (Nat.zero_le _)) (weak_of ?_ (.cons (.eq rfl) (.cons (.eq rfl) (.cons (.eq rfl) (.cons (.eq rfl) (.cons (.eq rfl) .nil))))) rfl rfl rfl))
  (VLoop.indW S (fun x => x.1) (fun x => x.2.1 <= s.size /\ s.size + 1 <= x.1 + x.2.1 /\ x.2.2.1.length <= x.2.1 /\ lexF ((sB s).length + 1) (sB s) 0 = Lx.pre x.2.2.1 (lexF x.1 ((sB s).drop x.2.1) x.2.1)) ?_ ((sB s).length + 1, 0, [], []) ⟨by simp, by simp; omega, by simp, ?_⟩)
 · (repeat' first | exact VWs.nil | refine VWs.cons VW.undef ?_ | refine VWs.cons (VW.eq rfl) ?_)
 rotate_left
 · simp only [List.drop_zero]; cases lexF ((sB s).length + 1) (sB s) 0 <;> rfl
 rintro ⟨f, i, acc, sp⟩ ⟨hi, hf, hac, hinv⟩ ih
 simp only at hi hf hac hinv
 obtain ⟨f, rfl⟩ : ∃ f', f = f' + 1 := ⟨f - 1, by omega⟩
 conv at hinv => rhs; rw [lexF_step]
 rw [List.drop_drop] at hinv
 have hkl := kL_len acc
 refine loop_round [] ?_; conv=>whnf
 (repeat (refine step_go [] ?_;conv=>whnf))
 refine c_lnext s hs i hi _ (fun e => ?_) (fun c r k e hk => ?_) (fun c r e hk => ?_)
 · rw [e] at hinv
   obtain ⟨tk, htk⟩ : ∃ tk : C3.Tok, tk = ⟨0, i + skipN false ((sB s).drop i), []⟩ := ⟨_, rfl⟩
   have hinv : lexF ((sB s).length + 1) (sB s) 0 = .ok (acc ++ [tk]) := by rw [hinv, htk]; rfl
   rw [← htk]
   conv=>whnf
   (repeat' first | (refine step_go [] ?_;conv=>whnf) | (refine two ?_ ?_<;>intro g<;>(try simp only[bsx]at g)<;>(conv=>whnf)) | (refine And.intro rfl ?_;conv=>whnf) | (refine dr_go (by decide +kernel) ?_;conv=>whnf) | fail)
   refine ⟨by simp; omega, by simp [V.cells], ?_⟩
   conv=>whnf
   (repeat' first | (refine step_go [] ?_;conv=>whnf) | (refine two ?_ ?_<;>intro g<;>(try simp only[bsx]at g)<;>(conv=>whnf)) | (refine And.intro rfl ?_;conv=>whnf) | (refine dr_go (by decide +kernel) ?_;conv=>whnf) | fail)
   · have hsp1 : 1 <= sp.length := by have := Nat.le_of_ble_eq_true g; simp at this; omega
     refine ⟨by rw [List.length_append, hkl]; simp, ?_⟩
     conv=>whnf
     (repeat' first | (refine step_go [] ?_;conv=>whnf) | (refine two ?_ ?_<;>intro g<;>(try simp only[bsx]at g)<;>(conv=>whnf)) | (refine And.intro rfl ?_;conv=>whnf) | (refine dr_go (by decide +kernel) ?_;conv=>whnf) | fail)
     rotate_left
     · exfalso; rw [htk] at g; simp at g
     refine ⟨_, Weak.refl, ?_⟩
     conv=>whnf
     (repeat' first | (refine step_go [] ?_;conv=>whnf) | (refine two ?_ ?_<;>intro g<;>(try simp only[bsx]at g)<;>(conv=>whnf)) | (refine And.intro rfl ?_;conv=>whnf) | (refine dr_go (by decide +kernel) ?_;conv=>whnf) | fail)
     refine d_all0 _ _ _ _ _ _ _ ?_
     conv=>whnf
     (repeat' first | (refine step_go [] ?_;conv=>whnf) | (refine two ?_ ?_<;>intro g<;>(try simp only[bsx]at g)<;>(conv=>whnf)) | (refine And.intro rfl ?_;conv=>whnf) | (refine dr_go (by decide +kernel) ?_;conv=>whnf) | fail)
     refine end_frz (sp := sp.drop 1) (app_in encK acc tk sp) (by simp; omega) (by simp) ?_
     exact h0 _ (hok _ hinv)
   · refine ⟨by rw [List.length_append, hkl]; simp, fun sp' hsp => ?_⟩
     conv=>whnf
     (repeat' first | (refine step_go [] ?_;conv=>whnf) | (refine two ?_ ?_<;>intro g<;>(try simp only[bsx]at g)<;>(conv=>whnf)) | (refine And.intro rfl ?_;conv=>whnf) | (refine dr_go (by decide +kernel) ?_;conv=>whnf) | fail)
     rotate_left
     · exfalso; rw [htk] at g; simp at g
     refine ⟨_, Weak.refl, ?_⟩
     conv=>whnf
     (repeat' first | (refine step_go [] ?_;conv=>whnf) | (refine two ?_ ?_<;>intro g<;>(try simp only[bsx]at g)<;>(conv=>whnf)) | (refine And.intro rfl ?_;conv=>whnf) | (refine dr_go (by decide +kernel) ?_;conv=>whnf) | fail)
     refine d_all0 _ _ _ _ _ _ _ ?_
     conv=>whnf
     (repeat' first | (refine step_go [] ?_;conv=>whnf) | (refine two ?_ ?_<;>intro g<;>(try simp only[bsx]at g)<;>(conv=>whnf)) | (refine And.intro rfl ?_;conv=>whnf) | (refine dr_go (by decide +kernel) ?_;conv=>whnf) | fail)
     refine end_frz (sp := sp') (app_gr encK acc tk sp sp') (by simp) (by simp) ?_
     exact h0 _ (hok _ hinv)
 · rw [e] at hinv
   simp only [hk] at hinv
   obtain ⟨tk, htk⟩ : ∃ tk : C3.Tok, tk = ⟨k, i + skipN false ((sB s).drop i), c :: r.takeWhile (goesB k)⟩ := ⟨_, rfl⟩
   obtain ⟨i', hi'⟩ : ∃ i', i' = i + skipN false ((sB s).drop i) + 1 + (r.takeWhile (goesB k)).length := ⟨_, rfl⟩
   have hr : r = (sB s).drop (i + skipN false ((sB s).drop i) + 1) := by rw [← List.drop_drop, e]; rfl
   have hrl : r.length + (i + skipN false ((sB s).drop i) + 1) = s.size := by
    have := congrArg List.length e
    rw [List.length_drop, List.length_cons] at this; omega
   have htw := takeW_le (goesB k) r
   have hdr : r.dropWhile (goesB k) = (sB s).drop i' := by rw [dropW_eq, hi', hr, List.drop_drop]
   rw [hdr, ← hi', ← htk, pre_cons] at hinv
   have hk0 : k = 1 \/ k = 2 \/ k = 3 := kind_in hk
   rw [← htk, ← hi']
   conv=>whnf
   (repeat' first | (refine step_go [] ?_;conv=>whnf) | (refine two ?_ ?_<;>intro g<;>(try simp only[bsx]at g)<;>(conv=>whnf)) | (refine And.intro rfl ?_;conv=>whnf) | (refine dr_go (by decide +kernel) ?_;conv=>whnf) | fail)
   refine ⟨by simp; omega, by simp [V.cells], ?_⟩
   conv=>whnf
   (repeat' first | (refine step_go [] ?_;conv=>whnf) | (refine two ?_ ?_<;>intro g<;>(try simp only[bsx]at g)<;>(conv=>whnf)) | (refine And.intro rfl ?_;conv=>whnf) | (refine dr_go (by decide +kernel) ?_;conv=>whnf) | fail)
   · have hsp1 : 1 <= sp.length := by have := Nat.le_of_ble_eq_true g; simp at this; omega
     refine ⟨by rw [List.length_append, hkl]; simp, ?_⟩
     conv=>whnf
     (repeat' first | (refine step_go [] ?_;conv=>whnf) | (refine two ?_ ?_<;>intro g<;>(try simp only[bsx]at g)<;>(conv=>whnf)) | (refine And.intro rfl ?_;conv=>whnf) | (refine dr_go (by decide +kernel) ?_;conv=>whnf) | fail)
     · exfalso; rw [htk] at g; simp only at g; omega
     refine weak_sel (src := [0, 1, 2, 3, 4]) ?_; conv=>whnf
     refine VLoop.enter (s' := S (f, i', acc ++ [tk], (sp.drop 1))) (weak_of ?_ (.cons (.eq ?_) (.cons (.eq rfl) (.cons (.eq rfl) (.cons (.eq rfl) (.cons (.eq ?_) .nil))))) rfl rfl rfl) (ih (f, i', acc ++ [tk], (sp.drop 1)) ⟨by simp only; omega, by simp only; omega, by simp only [List.length_append, List.length_singleton]; omega, hinv⟩ (by simp only; omega))
     · (repeat' first | exact VWs.nil | refine VWs.cons VW.undef ?_ | refine VWs.cons (VW.eq rfl) ?_)
     · exact congrArg (fun x => VObj.cells true 82 [x]) (V_slo (by simp) (by simp; omega))
     · exact congrArg (fun x => VObj.buf false 3 x none) (app_in encK acc tk sp)
   · refine ⟨by rw [List.length_append, hkl]; simp, fun sp' hsp => ?_⟩
     conv=>whnf
     (repeat' first | (refine step_go [] ?_;conv=>whnf) | (refine two ?_ ?_<;>intro g<;>(try simp only[bsx]at g)<;>(conv=>whnf)) | (refine And.intro rfl ?_;conv=>whnf) | (refine dr_go (by decide +kernel) ?_;conv=>whnf) | fail)
     · exfalso; rw [htk] at g; simp only at g; omega
     refine weak_sel (src := [0, 1, 2, 3, 6]) ?_; conv=>whnf
     refine VLoop.enter (s' := S (f, i', acc ++ [tk], sp')) (weak_of ?_ (.cons (.eq ?_) (.cons (.eq rfl) (.cons (.eq rfl) (.cons (.eq rfl) (.cons (.eq ?_) .nil))))) rfl rfl rfl) (ih (f, i', acc ++ [tk], sp') ⟨by simp only; omega, by simp only; omega, by simp only [List.length_append, List.length_singleton]; omega, hinv⟩ (by simp only; omega))
     · (repeat' first | exact VWs.nil | refine VWs.cons VW.undef ?_ | refine VWs.cons (VW.eq rfl) ?_)
     · exact congrArg (fun x => VObj.cells true 82 [x]) (V_slo (by simp) (by simp))
     · exact congrArg (fun x => VObj.buf false 3 x none) (app_gr encK acc tk sp sp')
 · rw [e] at hinv
   simp only [hk] at hinv
   conv=>whnf
   (repeat' first | (refine step_go [] ?_;conv=>whnf) | (refine two ?_ ?_<;>intro g<;>(try simp only[bsx]at g)<;>(conv=>whnf)) | (refine And.intro rfl ?_;conv=>whnf) | (refine dr_go (by decide +kernel) ?_;conv=>whnf) | fail)
   refine d_all1 acc.length (acc.length + sp.length) 0 0 false (kL acc ++ sp) (i + skipN false ((sB s).drop i) : Nat) 6 _ ?_
   conv=>whnf
   (repeat' first | (refine step_go [] ?_;conv=>whnf) | (refine two ?_ ?_<;>intro g<;>(try simp only[bsx]at g)<;>(conv=>whnf)) | (refine And.intro rfl ?_;conv=>whnf) | (refine dr_go (by decide +kernel) ?_;conv=>whnf) | fail)
   exact ⟨_, _, weak_of (.cons (.tup (.cons .no (.cons (.eq rfl) (.cons (.eq rfl) .nil)))) .nil) .nil rfl rfl rfl, h1 _ 6 (hbad _ hinv)⟩
end C8

namespace C9
open Go Go.Proofs VL D1 B10 C2 C3 C5 C7 C8
end C9

namespace C10
open Go Go.Proofs VL Go.Shelf
def ren : Ren := ⟨fun | 143 => 117 | 144 => 102 | 217 => 165 | 219 => 145 | 224 => 167 | 225 => 166 | 266 => 184 | 267 => 168 | 314 => 185 | n => n,
 fun | 3 => 3 | 4 => 4 | 5 => 5 | 9 => 9 | 46 => 45 | 51 => 175 | 146 => 178 | n => n, fun | 1 => 1 | n => n⟩
theorem lays : Lays.n144 Tryz.prog ren := {
 mixed := by kernel_rfl
 f143 := by kernel_rfl
 f144 := by kernel_rfl
 f217 := by kernel_rfl
 f219 := by kernel_rfl
 f224 := by kernel_rfl
 f225 := by kernel_rfl
 f266 := by kernel_rfl
 f267 := by kernel_rfl
 f314 := by kernel_rfl
 t3 := Tryz.underlying3
 a3 := Tryz.isAgg3
 z3 := Tryz.sizeOf3
 v3 := Tryz.zeroValue3
 t4 := Tryz.underlying4
 a4 := Tryz.isAgg4
 z4 := Tryz.sizeOf4
 v4 := Tryz.zeroValue4
 t5 := Tryz.underlying5
 a5 := Tryz.isAgg5
 z5 := Tryz.sizeOf5
 v5 := Tryz.zeroValue5
 t9 := Tryz.underlying9
 a9 := Tryz.isAgg9
 z9 := Tryz.sizeOf9
 v9 := Tryz.zeroValue9
 t46 := Tryz.underlying45
 a46 := Tryz.isAgg45
 z46 := Tryz.sizeOf45
 v46 := Tryz.zeroValue45
 t51 := Tryz.underlying175
 a51 := Tryz.isAgg175
 z51 := Tryz.sizeOf175
 v51 := Tryz.zeroValue175
 t146 := Tryz.underlying178
 a146 := Tryz.isAgg178
 z146 := Tryz.sizeOf178
 v146 := Tryz.zeroValue178
 g1 := by kernel_rfl }
theorem c_cont (s t : ByteArray) (hs : s.size < 4294967281) (K : Out -> List VObj -> Prop) (h : K (.ret (.bool (Lib.contains s.data.toList t.data.toList))) []) : VCall Tryz.prog 102 [.str s, .str t] [] K := by
 refine calls_ss (P := Tryz.prog) (x := .bool (Lib.contains s.data.toList t.data.toList)) Tryz.func102 (by rfl) (by rfl) (fun _ _ _ _ => .bool) rfl (fun w hw => ?_) h
 obtain ⟨m, hm⟩ := hw 1 rfl
 exact Any.strings_Contains lays s t m w hs hm
end C10

namespace C11
open Go Go.Proofs VL D1 B10 BB6 BB10 BB14 C1 C2 C6 C10
theorem index_ge0 (s sub : List UInt8) : 0 <= Lib.index s sub ↔ ∃ a b, s = a ++ sub ++ b := by
 rcases Lib.index_spec s sub with ⟨h, hn⟩ | ⟨i, h, hi, hocc, _⟩
 · constructor
   · intro h2; omega
   · rintro ⟨a, b, rfl⟩
     have hocc : Lib.occAt (a ++ sub ++ b) sub a.length = true := by
      unfold Lib.occAt
      rw [List.append_assoc, List.drop_left]
      exact List.isPrefixOf_iff_prefix.2 (List.prefix_append _ _)
     rw [hn a.length (by simp)] at hocc
     cases hocc
 · constructor
   · intro _
     unfold Lib.occAt at hocc
     obtain ⟨b, hb⟩ := List.isPrefixOf_iff_prefix.1 hocc
     exact ⟨s.take i, b, by rw [List.append_assoc, hb, List.take_append_drop]⟩
   · intro _; omega
theorem cont_iff (s t : ByteArray) : Lib.contains s.data.toList t.data.toList = true ↔ ∃ a b, sB s = a ++ sB t ++ b := by
 unfold Lib.contains
 rw [decide_eq_true_iff, index_ge0]
 constructor
 · rintro ⟨a, b, h⟩
   exact ⟨a.map fun x => (x.toNat : Int), b.map fun x => (x.toNat : Int), by unfold sB; rw [h]; simp⟩
 · rintro ⟨a, b, h⟩
   have inj : ∀ {l m : List UInt8}, (l.map fun x => (x.toNat : Int)) = m.map (fun x => (x.toNat : Int)) -> l = m := fun {l m} h => by
    refine (List.map_inj_right (fun x y hxy => ?_)).1 h
    exact UInt8.toNat_inj.1 (by omega)
   have h2 : (s.data.toList).map (fun x => (x.toNat : Int)) = a ++ (t.data.toList).map (fun x => (x.toNat : Int)) ++ b := h
   obtain ⟨u, v, hu, hv, hw⟩ := List.map_eq_append_iff.1 h2
   obtain ⟨u1, u2, hu1, hu2, hu3⟩ := List.map_eq_append_iff.1 hv
   refine ⟨u1, v, ?_⟩
   rw [hu, hu1, inj hu3]
theorem wordsT : sB ⟨#[32, 112, 114, 111, 100, 117, 99, 116, 32, 99, 111, 117, 110, 116, 32, 116, 104, 105, 114, 116, 121, 32, 102, 105, 120, 101, 100, 32, 97, 99, 116, 117, 97, 108, 32, 114, 111, 117, 110, 100, 32, 104, 97, 108, 102, 45, 117, 112, 32, 100, 111, 119, 110, 32, 107, 105, 110, 100, 32, 97, 110, 110, 117, 105, 116, 121, 32, 101, 113, 117, 97, 108, 32, 98, 117, 108, 108, 101, 116, 32, 101, 118, 101, 114, 121, 32, 116, 105, 109, 101, 115, 32, 103, 114, 97, 99, 101, 32, 114, 97, 116, 101, 32, 112, 101, 110, 97, 108, 116, 121, 32, 114, 101, 115, 101, 116, 32, 108, 97, 116, 101, 32, 99, 97, 112, 32, 104, 111, 108, 105, 100, 97, 121, 32, 111, 114, 100, 101, 114, 32, 102, 101, 101, 115, 32, 105, 110, 116, 101, 114, 101, 115, 116, 32, 112, 114, 105, 110, 99, 105, 112, 97, 108, 32, 111, 118, 101, 114, 32, 104, 111, 108, 100, 32, 112, 114, 101, 112, 97, 121, 32, 114, 101, 102, 117, 110, 100, 32, 114, 111, 108, 108, 32, 115, 116, 97, 121, 32, 110, 101, 120, 116, 32, 119, 105, 116, 104, 105, 110, 32, 112, 114, 101, 118, 105, 111, 117, 115, 32]⟩ = wT wordsL := by rfl
set_option maxHeartbeats 2000000 in
theorem c_Name (s : ByteArray) (hs : s.size < 1000000) (K : Out -> List VObj -> Prop) (h : K (.ret (.bool (nameB (sB s)))) []) : VCall Tryz.prog 77 [.str s] [] K := by
 have hsl := sB_len s
 have hsz : (s.size : Int) = (sB s).length := by rw [hsl]
 have hyes : nameP (sB s) -> K (.ret (.bool true)) [] := fun e => by rw [(nameB_iff _).2 e] at h; exact h
 have hno : ¬ nameP (sB s) -> K (.ret (.bool false)) [] := fun e => by rw [(nameB_no _).2 e] at h; exact h
 have hfin : ∀ b : Bool, (b = true ↔ nameP (sB s)) -> K (.ret (.bool b)) [] := fun b e => by
  cases b
  · exact hno fun hh => by have := e.2 hh; cases this
  · exact hyes (e.1 rfl)
 clear h
 refine call_fun [] 0 Tryz.func77 (by rfl) (by rfl) ?_
 conv=>whnf
 (repeat' first | (refine step_go [] ?_;conv=>whnf) | (refine two ?_ ?_<;>intro g<;>(try simp only[bsx]at g)<;>(conv=>whnf)) | (refine And.intro rfl ?_;conv=>whnf) | fail)
 · exact hno fun hh => by have := hh.1.1; omega
 · exact hno fun hh => by have := hh.1.2.1; omega
 obtain ⟨c, r, hcr⟩ : ∃ c r, sB s = c :: r := by
  cases hh : sB s with
  | nil => rw [hh] at hsl; simp only [List.length_nil] at hsl; omega
  | cons c r => exact ⟨c, r, rfl⟩
 have hc0 : nameP (sB s) -> 97 <= c /\ c <= 122 := fun hh => by have := hh.1.2.2.1 c (by rw [hcr]; rfl); exact this
 refine idx_str (x := c) (by decide) (by rw [hcr]; rfl) fun b hb => ?_
 conv=>whnf
 (repeat (refine step_go [] ?_;conv=>whnf))
 rw [hb]
 clear hb b
 (repeat' first | (refine step_go [] ?_;conv=>whnf) | (refine two ?_ ?_<;>intro g<;>(try simp only[bsx]at g)<;>(conv=>whnf)) | (refine And.intro rfl ?_;conv=>whnf) | fail)
 · exact hno fun hh => by have := hc0 hh; omega
 refine idx_str (x := c) (by decide) (by rw [hcr]; rfl) fun b hb => ?_
 conv=>whnf
 (repeat (refine step_go [] ?_;conv=>whnf))
 rw [hb]
 clear hb b
 (repeat' first | (refine step_go [] ?_;conv=>whnf) | (refine two ?_ ?_<;>intro g<;>(try simp only[bsx]at g)<;>(conv=>whnf)) | (refine And.intro rfl ?_;conv=>whnf) | fail)
 · exact hno fun hh => by have := hc0 hh; omega
 rw [bytesV_eq]
 let S : Nat -> St := fun i => ⟨(.str s :: .undef :: .bool false :: .undef :: .undef :: .undef :: .undef :: .undef :: .undef :: .undef :: .undef :: .undef :: .undef :: .undef :: .undef :: .undef :: .undef :: .undef :: .undef :: .undef :: .undef :: .undef :: .undef :: .undef :: .sl (bL (sB s)) .no :: .int .i64 ((sB s).length : Nat) :: .int .i64 (i : Nat) :: .undef :: .undef :: .undef :: .undef :: .undef :: .undef :: .undef :: .undef :: .undef :: .undef :: .undef :: .undef :: .undef :: .undef :: .undef :: .undef :: .undef :: .undef :: .undef :: .undef :: .undef :: .undef :: .undef :: .undef :: .undef :: .undef :: .undef :: []), [], 0, []⟩
 refine VLoop.enter (s' := S 0) (weak_of ?_ .nil rfl rfl rfl)
  (VLoop.indW S (fun i => s.size - i) (fun i => i <= s.size /\ ∀ x ∈ (sB s).take i, Inner x) ?_ 0 ⟨by omega, by simp⟩)
 · repeat' first
    | exact VWs.nil
    | refine VWs.cons VW.undef ?_
    | refine VWs.cons (VW.eq rfl) ?_
    | refine VWs.cons VW.no ?_
    | refine VWs.cons (VW.eq (by rw [bL_len])) ?_
 rintro i ⟨hi, hinv⟩ ih
 refine loop_round [] ?_; conv=>whnf
 (repeat' first | (refine step_go [] ?_;conv=>whnf) | (refine two ?_ ?_<;>intro g<;>(try simp only[bsx]at g)<;>(conv=>whnf)) | (refine And.intro rfl ?_;conv=>whnf) | fail)
 · have hil : i < (sB s).length := by omega
   have hx : (sB s)[i]? = some (sB s)[i] := List.getElem?_eq_getElem hil
   have hmem : (sB s)[i] ∈ sB s := List.getElem_mem _
   obtain ⟨x, hxx⟩ : ∃ x, (sB s)[i] = x := ⟨_, rfl⟩
   have htk : (sB s).take (i + 1) = (sB s).take i ++ [x] := by rw [List.take_succ_eq_append_getElem hil, hxx]
   rw [hxx] at hx hmem
   have hget : (bL (sB s))[((i : Nat) : Int).toNat]? = some (.int .u8 x) := by rw [Int.toNat_natCast, bL_get, hx]; rfl
   have wi : IntKind.i64.wrap ((i : Int) + 1) = ((i + 1 : Nat) : Int) := by rw [wrap64 (by omega) (by omega)]; omega
   have hgo : Inner x -> VLoop _ _ _ (S (i + 1)) _ := fun hx => ih (i + 1) ⟨by omega, fun y hy => by
    rw [htk] at hy
    rcases List.mem_append.1 hy with hy | hy
    · exact hinv y hy
    · rw [List.mem_singleton.1 hy]; exact hx⟩ (by omega)
   have hst : ¬ Inner x -> K (.ret (.bool false)) [] := fun hx => hno fun hh => hx (hh.1.2.2.2 x hmem)
   unfold Inner Small Dig at hgo hst
   refine ⟨by omega, _, hget, rfl, ?_⟩
   conv=>whnf
   (repeat' first | (refine step_go [] ?_;conv=>whnf) | (refine two ?_ ?_<;>intro g<;>(try simp only[bsx]at g)<;>(conv=>whnf)) | (refine And.intro rfl ?_;conv=>whnf) | fail)
   all_goals first
    | (refine ⟨_, Weak.refl, ?_⟩; conv=>whnf
       (repeat' first | (refine step_go [] ?_;conv=>whnf) | (refine two ?_ ?_<;>intro g<;>(try simp only[bsx]at g)<;>(conv=>whnf)) | (refine And.intro rfl ?_;conv=>whnf) | fail)
       exact hst (by omega))
    | exact ⟨S (i + 1), weak_of (by rw [wi]; (repeat' first | exact VWs.nil | refine VWs.cons VW.undef ?_ | refine VWs.cons (VW.eq rfl) ?_)) .nil rfl rfl rfl, hgo (by omega)⟩
 · have hil : i = (sB s).length := by omega
   subst hil
   rw [List.take_length] at hinv
   refine ⟨_, Weak.refl, ?_⟩
   conv=>whnf
   (repeat' first | (refine step_go [] ?_;conv=>whnf) | (refine two ?_ ?_<;>intro g<;>(try simp only[bsx]at g)<;>(conv=>whnf)) | (refine And.intro rfl ?_;conv=>whnf) | fail)
   refine ⟨str_le (by show 1 + s.size < _; omega), ?_⟩
   conv=>whnf
   (repeat' first | (refine step_go [] ?_;conv=>whnf) | (refine two ?_ ?_<;>intro g<;>(try simp only[bsx]at g)<;>(conv=>whnf)) | (refine And.intro rfl ?_;conv=>whnf) | fail)
   refine ⟨str_le (by rw [ByteArray.size_append]; show 1 + s.size + 1 < _; omega), ?_⟩
   conv=>whnf
   (repeat' first | (refine step_go [] ?_;conv=>whnf) | (refine two ?_ ?_<;>intro g<;>(try simp only[bsx]at g)<;>(conv=>whnf)) | (refine And.intro rfl ?_;conv=>whnf) | fail)
   refine c_cont _ _ (by decide) _ ?_
   conv=>whnf
   (repeat' first | (refine step_go [] ?_;conv=>whnf) | (refine two ?_ ?_<;>intro g<;>(try simp only[bsx]at g)<;>(conv=>whnf)) | (refine And.intro rfl ?_;conv=>whnf) | fail)
   refine hfin _ ?_
   have e1 : sB (⟨#[32]⟩ ++ s ++ ⟨#[32]⟩) = 32 :: sB s ++ [32] := by rw [sB_app, sB_app]; rfl
   have hnb : Nb (sB s) := fun x hx => by have := hinv x hx; unfold Inner Small Dig at this; omega
   have hw := word_in words_nb hnb
   rw [← e1, ← wordsT, ← cont_iff] at hw
   rw [Bool.not_eq_true', ← Bool.not_eq_true]
   refine Iff.trans (not_congr hw) ?_
   constructor
   · intro hh
     refine ⟨⟨by omega, by omega, fun x hx => ?_, hinv⟩, hh⟩
     rw [hcr] at hx
     cases hx
     exact ⟨by assumption, by assumption⟩
   · exact fun hh => hh.2
end C11

namespace C12
open Go Go.Proofs VL D1 B10 BB6 BB10 BB14 C1 C2 C6 C10 C11
theorem iL_len (l : List Int) : (iL l).length = l.length := by simp [iL]
theorem iL_cells {l : List Int} : ∀ x ∈ iL l, x.cells.length = 1 := by
 intro x hx
 obtain ⟨n, _, rfl⟩ := List.mem_map.1 hx
 rfl
theorem c_Clone (l : List Int) (hl : l.length < 1000000) (K : Out -> List VObj -> Prop) (h : K (.ret (.sl (iL l) .no)) []) : VCall Tryz.prog 105 [.sl (iL l) .no] [] K := by
 refine VCall.weak (call_fun [] 0 Tryz.func105 (by rfl) (by rfl) ?_)
 conv=>whnf
 (repeat' first | (refine step_go [] ?_;conv=>whnf) | (refine two ?_ ?_<;>intro g<;>(try simp only[bsx]at g)<;>(conv=>whnf)) | (refine And.intro rfl ?_;conv=>whnf) | fail)
 intro b hb
 conv=>whnf
 (repeat' first | (refine step_go [] ?_;conv=>whnf) | (refine two ?_ ?_<;>intro g<;>(try simp only[bsx]at g)<;>(conv=>whnf)) | (refine And.intro rfl ?_;conv=>whnf) | fail)
 · have e := hb g
   rw [e] at h
   exact ⟨_, _, weak_of (.cons .no .nil) .nil rfl rfl rfl, h⟩
 · have hil := iL_len l
   refine ⟨by simp; omega, iL_cells, by simp, ?_⟩
   conv=>whnf
   (repeat' first | (refine step_go [] ?_;conv=>whnf) | (refine two ?_ ?_<;>intro g<;>(try simp only[bsx]at g)<;>(conv=>whnf)) | (refine And.intro rfl ?_;conv=>whnf) | fail)
   exact ⟨_, _, weak_of (.cons .no .nil) .nil rfl rfl rfl, h⟩
set_option maxHeartbeats 2000000 in
theorem c_llate (p : Prod) (hp : p.ok) (K : Out -> List VObj -> Prop) (h0 : lateP p -> K (.ret (.tup [])) []) (h1 : ¬ lateP p -> K (.pan (.ifc 92 (.agg []))) []) : VCall Tryz.prog 53 [encP p] [] K := by
 have hlen := hp.ll
 unfold encP cellsP
 obtain ⟨T, hT⟩ : ∃ T, rL p.resets = T := ⟨_, rfl⟩
 obtain ⟨H, hH⟩ : ∃ H, iL p.hol = H := ⟨_, rfl⟩
 have hrl : (tL p.late).length = p.late.length := by simp [tL]
 rw [hT, hH]
 refine call_fun [] 0 Tryz.func53 (by rfl) (by rfl) ?_
 conv=>whnf
 (repeat' first | (refine step_go [] ?_;conv=>whnf) | (refine two ?_ ?_<;>intro g<;>(try simp only[bsx, hrl]at g)<;>(conv=>whnf)) | (refine And.intro rfl ?_;conv=>whnf) | (refine c_within64 _ _ _ _ ?_;conv=>whnf) | (refine c_must _ _ ?_;conv=>whnf) | fail)
 all_goals first
  | (refine h1 fun hh => ?_
     unfold lateP at hh
     obtain ⟨a1, a2, a3, a4⟩ := hh
     first
      | omega
      | (rcases a3 with a3 | a3
         · exact a3 (List.length_eq_zero_iff.1 (by omega))
         · omega))
  | skip
 all_goals
  have hne : p.late ≠ [] \/ p.cap = 0 := by
   first
    | exact .inr g
    | exact .inl fun e => by rw [e] at g; simp at g
  have hfin : (tiersP none p.late -> K (.ret (.tup [])) []) /\ (¬ tiersP none p.late -> K (.pan (.ifc 92 (.agg []))) []) :=
   ⟨fun hh => h0 ⟨by omega, by omega, hne, hh⟩, fun hh => h1 fun h => hh h.2.2.2⟩
  clear h0 h1
  obtain ⟨h0, h1⟩ := hfin
  let CC : List V := [.str p.name, .int .i64 p.count, .int .i64 p.rnd, .int .i64 p.kind, .int .i64 p.every, .int .i64 p.times, .int .i64 p.grace, .int .i64 p.rate, .sl T .no, .int .i64 p.pen, .int .i64 p.o1, .int .i64 p.o2, .int .i64 p.o3, .int .i64 p.o4, .int .i64 p.over, .sl (tL p.late) .no, .int .i64 p.cap, .int .i64 p.roll, .sl H .no]
  let S : Nat -> St := fun i => ⟨(.undef :: .ptr 0 0 :: .ptr 1 0 :: .undef :: .undef :: .undef :: .undef :: .undef :: .undef :: .undef :: .undef :: .undef :: .undef :: .undef :: .undef :: .undef :: .undef :: .undef :: .undef :: .undef :: .undef :: .undef :: .undef :: .undef :: .undef :: .undef :: .undef :: .undef :: .undef :: .sl (tL p.late) .no :: .int .i64 (p.late.length : Nat) :: .int .i64 (i : Nat) :: .undef :: .undef :: .undef :: .undef :: .undef :: .undef :: .undef :: .undef :: .undef :: .undef :: .undef :: .undef :: .undef :: .undef :: .undef :: .undef :: .undef :: .undef :: .undef :: .undef :: .undef :: .undef :: .undef :: .undef :: .undef :: .undef :: .undef :: .undef :: .undef :: .undef :: .undef :: .undef :: .undef :: .undef :: .undef :: .undef :: .undef :: .undef :: .undef :: .undef :: .undef :: []), [.cells true 94 CC, .cells true 27 CC], 0, []⟩
  refine VLoop.enter (s' := S 0) (weak_of ?_ (.cons (.eq rfl) (.cons (.eq rfl) .nil)) rfl rfl rfl)
   (VLoop.indW S (fun i => p.late.length - i) (fun i => i <= p.late.length /\ (tiersP none p.late ↔ tiersP (pvO p.late i) (p.late.drop i))) ?_ 0 ⟨by omega, Iff.rfl⟩)
  · repeat' first
     | exact VWs.nil
     | refine VWs.cons VW.undef ?_
     | refine VWs.cons (VW.eq rfl) ?_
     | refine VWs.cons (VW.eq (by rw [hrl])) ?_
  rintro i ⟨hi, hinv⟩ ih
  refine loop_round [] ?_; conv=>whnf
  (repeat' first | (refine step_go [] ?_;conv=>whnf) | (refine two ?_ ?_<;>intro g<;>(try simp only[bsx]at g)<;>(conv=>whnf)) | (refine And.intro rfl ?_;conv=>whnf) | fail)
  · have hil : i < p.late.length := by omega
    have hget : (tL p.late)[((i : Nat) : Int).toNat]? = some (encT p.late[i]) := by rw [Int.toNat_natCast]; simp [tL, List.getElem?_eq_getElem hil]
    have hdrop : p.late.drop i = p.late[i] :: p.late.drop (i + 1) := List.drop_eq_getElem_cons hil
    obtain ⟨q, hq1, hq2⟩ := prev_ex encT p.late i hil (by omega)
    have hpv := pvO_succ hil
    obtain ⟨d, hd⟩ : ∃ d, p.late[i] = d := ⟨_, rfl⟩
    rw [hd] at hget hdrop hpv
    rw [hdrop] at hinv
    conv at hinv => rhs; unfold tiersP
    rw [← hpv] at hinv
    refine ⟨by omega, _, hget, rfl, ?_⟩
    have wi : IntKind.i64.wrap ((i : Int) + 1) = ((i + 1 : Nat) : Int) := by rw [wrap64 (by omega) (by omega)]; omega
    have hpan : ¬ ((1 <= d.days /\ d.days <= 365) /\ (0 <= d.fee /\ d.fee <= 10000000000000) /\ (0 < i -> q.days < d.days /\ q.fee <= d.fee)) -> K (.pan (.ifc 92 (.agg []))) [] := fun hh => h1 fun h => hh (by
     obtain ⟨a, b, c, _⟩ := hinv.1 h
     exact ⟨a, b, fun h0 => c q ((hq2 q).2 ⟨h0, rfl⟩)⟩)
    have hnext : (1 <= d.days /\ d.days <= 365) /\ (0 <= d.fee /\ d.fee <= 10000000000000) /\ (0 < i -> q.days < d.days /\ q.fee <= d.fee) -> VLoop _ _ _ (S (i + 1)) _ := fun hh => ih (i + 1) ⟨by omega, hinv.trans ⟨fun h => h.2.2.2, fun h => ⟨hh.1, hh.2.1, fun x hx => by obtain ⟨h0, rfl⟩ := (hq2 x).1 hx; exact hh.2.2 h0, h⟩⟩⟩ (by omega)
    conv=>whnf
    (repeat' first | (refine step_go [] ?_;conv=>whnf) | (refine two ?_ ?_<;>intro g<;>(try simp only[bsx]at g)<;>(conv=>whnf)) | (refine And.intro rfl ?_;conv=>whnf) | (refine dr_go (by decide +kernel) ?_;conv=>whnf) | (refine c_within _ _ _ _ ?_;conv=>whnf) | (refine c_within64 _ _ _ _ ?_;conv=>whnf) | (refine c_must _ _ ?_;conv=>whnf) | (refine ⟨by rw [wrap64 (by omega) (by omega)]; omega, _, hq1 (by omega), rfl, ?_⟩;conv=>whnf) | fail)
    all_goals first
     | (refine hpan fun hh => ?_; omega)
     | (refine weak_sel (src := [0, 1]) ?_; conv=>whnf
        refine VLoop.enter (s' := S (i + 1)) (weak_of (by rw [wi]; (repeat' first | exact VWs.nil | refine VWs.cons VW.undef ?_ | refine VWs.cons (VW.eq rfl) ?_)) (.cons (.eq rfl) (.cons (.eq rfl) .nil)) rfl rfl rfl) (hnext (by omega)))
  · have hil : i = p.late.length := by omega
    subst hil
    rw [List.drop_length] at hinv
    refine ⟨_, Weak.refl, ?_⟩
    conv=>whnf
    (repeat' first | (refine step_go [] ?_;conv=>whnf) | (refine two ?_ ?_<;>intro g<;>(try simp only[bsx]at g)<;>(conv=>whnf)) | (refine And.intro rfl ?_;conv=>whnf) | fail)
    exact h0 (hinv.2 trivial)
theorem hol_get {l : List Int} {i : Nat} (hi : i < l.length) : (iL l)[((i : Nat) : Int).toNat]? = some (.int .i64 l[i]) := by rw [Int.toNat_natCast]; simp [iL, List.getElem?_eq_getElem hi]
set_option maxHeartbeats 2000000 in
theorem c_bnew (l : List Int) (hl : l.length < 1000000) (K : Out -> List VObj -> Prop) (h0 : l.length <= 200 /\ holP none l -> K (.ret (.tup [.ptr 0 0, .int .i64 0])) [.cells true 146 [.sl (iL l) .no]])
 (h1 : ¬ (l.length <= 200 /\ holP none l) -> K (.ret (.tup [.nilp, .int .i64 1])) []) : VCall Tryz.prog 83 [.sl (iL l) .no] [] K := by
 have hil := iL_len l
 refine call_fun [] 0 Tryz.func83 (by rfl) (by rfl) ?_
 conv=>whnf
 (repeat' first | (refine step_go [] ?_;conv=>whnf) | (refine two ?_ ?_<;>intro g<;>(try simp only[bsx, hil]at g)<;>(conv=>whnf)) | (refine And.intro rfl ?_;conv=>whnf) | fail)
 · exact h1 (by omega)
 have hfin : (holP none l -> K (.ret (.tup [.ptr 0 0, .int .i64 0])) [.cells true 146 [.sl (iL l) .no]]) /\ (¬ holP none l -> K (.ret (.tup [.nilp, .int .i64 1])) []) :=
  ⟨fun hh => h0 ⟨by omega, hh⟩, fun hh => h1 fun h => hh h.2⟩
 clear h0 h1
 obtain ⟨h0, h1⟩ := hfin
 let S : Nat -> St := fun i => ⟨(.sl (iL l) .no :: .undef :: .nilp :: .int .i64 0 :: .undef :: .undef :: .undef :: .undef :: .undef :: .sl (iL l) .no :: .int .i64 (l.length : Nat) :: .int .i64 (i : Nat) :: .undef :: .undef :: .undef :: .undef :: .undef :: .undef :: .undef :: .undef :: .undef :: .undef :: .undef :: .undef :: .undef :: .undef :: .undef :: .undef :: .undef :: .undef :: .undef :: .undef :: .undef :: .undef :: .undef :: .undef :: .undef :: []), [], 0, []⟩
 refine VLoop.enter (s' := S 0) (weak_of ?_ .nil rfl rfl rfl)
  (VLoop.indW S (fun i => l.length - i) (fun i => i <= l.length /\ (holP none l ↔ holP (pvO l i) (l.drop i))) ?_ 0 ⟨by omega, Iff.rfl⟩)
 · repeat' first
    | exact VWs.nil
    | refine VWs.cons VW.undef ?_
    | refine VWs.cons (VW.eq rfl) ?_
    | refine VWs.cons (VW.eq (by rw [hil])) ?_
 rintro i ⟨hi, hinv⟩ ih
 refine loop_round [] ?_; conv=>whnf
 (repeat' first | (refine step_go [] ?_;conv=>whnf) | (refine two ?_ ?_<;>intro g<;>(try simp only[bsx]at g)<;>(conv=>whnf)) | (refine And.intro rfl ?_;conv=>whnf) | fail)
 · have hil2 : i < l.length := by omega
   have hget := hol_get hil2
   have hdrop : l.drop i = l[i] :: l.drop (i + 1) := List.drop_eq_getElem_cons hil2
   obtain ⟨q, hq1, hq2⟩ := prev_ex (V.int .i64) l i hil2 (by omega)
   have hpv := pvO_succ hil2
   obtain ⟨d, hd⟩ : ∃ d, l[i] = d := ⟨_, rfl⟩
   rw [hd] at hget hdrop hpv
   rw [hdrop] at hinv
   conv at hinv => rhs; unfold holP
   rw [← hpv] at hinv
   refine ⟨by omega, _, hget, rfl, ?_⟩
   have wi : IntKind.i64.wrap ((i : Int) + 1) = ((i + 1 : Nat) : Int) := by rw [wrap64 (by omega) (by omega)]; omega
   have hst : ¬ ((-25567 <= d /\ d <= 84370) /\ (0 < i -> q < d)) -> K (.ret (.tup [.nilp, .int .i64 1])) [] := fun hh => h1 fun h => hh (by
    obtain ⟨a, c, _⟩ := hinv.1 h
    exact ⟨a, fun h0 => c q ((hq2 q).2 ⟨h0, rfl⟩)⟩)
   have hnext : (-25567 <= d /\ d <= 84370) /\ (0 < i -> q < d) -> VLoop _ _ _ (S (i + 1)) _ := fun hh => ih (i + 1) ⟨by omega, hinv.trans ⟨fun h => h.2.2, fun h => ⟨hh.1, fun x hx => by obtain ⟨h0, rfl⟩ := (hq2 x).1 hx; exact hh.2 h0, h⟩⟩⟩ (by omega)
   conv=>whnf
   (repeat' first | (refine step_go [] ?_;conv=>whnf) | (refine two ?_ ?_<;>intro g<;>(try simp only[bsx]at g)<;>(conv=>whnf)) | (refine And.intro rfl ?_;conv=>whnf) | (refine dr_go (by decide +kernel) ?_;conv=>whnf) | (refine c_there _ _ ?_;conv=>whnf) | (refine ⟨by rw [wrap64 (by omega) (by omega)]; omega, _, hq1 (by omega), rfl, ?_⟩;conv=>whnf) | fail)
   all_goals first
    | (refine ⟨_, Weak.refl, ?_⟩; conv=>whnf
       (repeat' first | (refine step_go [] ?_;conv=>whnf) | (refine two ?_ ?_<;>intro g<;>(try simp only[bsx]at g)<;>(conv=>whnf)) | (refine And.intro rfl ?_;conv=>whnf) | fail)
       exact hst (by omega))
    | exact ⟨S (i + 1), weak_of (by rw [wi]; (repeat' first | exact VWs.nil | refine VWs.cons VW.undef ?_ | refine VWs.cons (VW.eq rfl) ?_)) .nil rfl rfl rfl, hnext (by omega)⟩
 · have hil2 : i = l.length := by omega
   subst hil2
   rw [List.drop_length] at hinv
   refine ⟨_, Weak.refl, ?_⟩
   conv=>whnf
   (repeat' first | (refine step_go [] ?_;conv=>whnf) | (refine two ?_ ?_<;>intro g<;>(try simp only[bsx]at g)<;>(conv=>whnf)) | (refine And.intro rfl ?_;conv=>whnf) | fail)
   refine c_Clone l hl _ ?_
   conv=>whnf
   (repeat' first | (refine step_go [] ?_;conv=>whnf) | (refine two ?_ ?_<;>intro g<;>(try simp only[bsx]at g)<;>(conv=>whnf)) | (refine And.intro rfl ?_;conv=>whnf) | fail)
   exact h0 (hinv.2 trivial)
theorem c_ldays (p : Prod) (hp : p.ok) (K : Out -> List VObj -> Prop) (h0 : daysP p -> K (.ret (.tup [])) []) (h1 : ¬ daysP p -> K (.pan (.ifc 92 (.agg []))) []) : VCall Tryz.prog 54 [encP p] [] K := by
 have hlen := hp.lh
 unfold encP cellsP
 obtain ⟨T, hT⟩ : ∃ T, rL p.resets = T := ⟨_, rfl⟩
 obtain ⟨H, hH⟩ : ∃ H, tL p.late = H := ⟨_, rfl⟩
 have hil := iL_len p.hol
 rw [hT, hH]
 refine call_fun [] 0 Tryz.func54 (by rfl) (by rfl) ?_
 conv=>whnf
 (repeat' first | (refine step_go [] ?_;conv=>whnf) | (refine two ?_ ?_<;>intro g<;>(try simp only[bsx]at g)<;>(conv=>whnf)) | (refine And.intro rfl ?_;conv=>whnf) | fail)
 refine c_bnew p.hol hlen _ (fun hh => ?_) (fun hh => ?_)
 · conv=>whnf
   (repeat' first | (refine step_go [] ?_;conv=>whnf) | (refine two ?_ ?_<;>intro g<;>(try simp only[bsx, hil]at g)<;>(conv=>whnf)) | (refine And.intro rfl ?_;conv=>whnf) | (refine c_within _ _ _ _ ?_;conv=>whnf) | (refine c_must _ _ ?_;conv=>whnf) | fail)
   all_goals first
    | (refine h0 ⟨hh, by omega, ?_⟩
       first
        | exact .inl g
        | exact .inr (List.length_eq_zero_iff.1 (by omega)))
    | (refine h1 fun h => ?_
       obtain ⟨_, a2, a3⟩ := h
       first
        | omega
        | (rcases a3 with a3 | a3
           · contradiction
           · rw [a3] at g; simp at g))
 · conv=>whnf
   (repeat' first | (refine step_go [] ?_;conv=>whnf) | (refine two ?_ ?_<;>intro g<;>(try simp only[bsx, hil]at g)<;>(conv=>whnf)) | (refine And.intro rfl ?_;conv=>whnf) | (refine c_within _ _ _ _ ?_;conv=>whnf) | (refine c_must _ _ ?_;conv=>whnf) | fail)
   exact h1 fun h => hh h.1
end C12

namespace C13
open Go Go.Proofs VL D1 B10 BB6 BB10 BB14 C1 C2 C6 C10 C11 C12
set_option maxHeartbeats 2000000 in
theorem c_lorder (p : Prod) (K : Out -> List VObj -> Prop) (h0 : overP p -> K (.ret (.tup [])) []) (h1 : ¬ overP p -> K (.pan (.ifc 92 (.agg []))) []) : VCall Tryz.prog 52 [encP p] [] K := by
 unfold encP cellsP
 obtain ⟨T, hT⟩ : ∃ T, rL p.resets = T := ⟨_, rfl⟩
 obtain ⟨H, hH⟩ : ∃ H, tL p.late = H := ⟨_, rfl⟩
 obtain ⟨I, hI⟩ : ∃ I, iL p.hol = I := ⟨_, rfl⟩
 rw [hT, hH, hI]
 refine call_fun [] 0 Tryz.func52 (by rfl) (by rfl) ?_
 conv=>whnf
 obtain ⟨a, ha⟩ : ∃ a, p.o1 = a := ⟨_, rfl⟩
 obtain ⟨b, hb⟩ : ∃ b, p.o2 = b := ⟨_, rfl⟩
 obtain ⟨c, hc⟩ : ∃ c, p.o3 = c := ⟨_, rfl⟩
 obtain ⟨d, hd⟩ : ∃ d, p.o4 = d := ⟨_, rfl⟩
 have hov : overP p ↔ orderP a b c d /\ (1 <= p.over /\ p.over <= 3) := by unfold overP; rw [ha, hb, hc, hd]
 rw [hov] at h0 h1
 clear hov
 rw [ha, hb, hc, hd]
 clear ha hb hc hd
 (repeat' first | (refine step_go [] ?_;conv=>whnf) | (refine two ?_ ?_<;>intro g<;>(try simp only[bsx]at g)<;>(conv=>whnf)) | (refine And.intro rfl ?_;conv=>whnf) | (refine loop_round [] ?_;conv=>whnf) | (refine c_within _ _ _ _ ?_;conv=>whnf) | (refine c_must _ _ ?_;conv=>whnf) | (refine ⟨_, Weak.refl, ?_⟩;conv=>whnf) | (refine ⟨by decide, by decide, ?_⟩;conv=>whnf) | ((obtain rfl | rfl | rfl | rfl : a = 1 \/ a = 2 \/ a = 3 \/ a = 4 := by omega) <;> (refine ⟨by decide, by decide, ?_⟩;conv=>whnf)) | ((obtain rfl | rfl | rfl | rfl : b = 1 \/ b = 2 \/ b = 3 \/ b = 4 := by omega) <;> (refine ⟨by decide, by decide, ?_⟩;conv=>whnf)) | ((obtain rfl | rfl | rfl | rfl : c = 1 \/ c = 2 \/ c = 3 \/ c = 4 := by omega) <;> (refine ⟨by decide, by decide, ?_⟩;conv=>whnf)) | ((obtain rfl | rfl | rfl | rfl : d = 1 \/ d = 2 \/ d = 3 \/ d = 4 := by omega) <;> (refine ⟨by decide, by decide, ?_⟩;conv=>whnf)) | fail)
 all_goals first
  | (refine h0 ⟨by unfold orderP; omega, by omega⟩)
  | (refine h1 fun hh => ?_
     unfold orderP at hh
     omega)
  | trace_state
 all_goals done
end C13

namespace C14
open Go Go.Proofs VL D1 B10 BB6 BB10 BB14 C1 C2 C6 C10 C11 C12 C13
theorem d_chk0 (x : Int) (K) (h : K false [.cells true 36 [.int .i64 x]]) : VCallD Tryz.prog 49 [.ptr 0 0] [.cells true 36 [.int .i64 x]] none K := by
 refine calld_fun [] 1 Tryz.func49 (by rfl) (by rfl) ?_
 conv=>whnf
 refine ⟨rfl, ?_⟩
 conv=>whnf
 (repeat' first | (refine step_go [] ?_;conv=>whnf) | (refine two ?_ ?_<;>intro g<;>(try simp only[bsx]at g)<;>(conv=>whnf)) | (refine And.intro rfl ?_;conv=>whnf) | (refine dr_go (by decide +kernel) ?_;conv=>whnf) | fail)
 exact h
theorem d_chk1 (x : Int) (K) (h : K true [.cells true 36 [.int .i64 9]]) : VCallD Tryz.prog 49 [.ptr 0 0] [.cells true 36 [.int .i64 x]] (some (.ifc 92 (.agg []))) K := by
 refine calld_fun [] 1 Tryz.func49 (by rfl) (by rfl) ?_
 conv=>whnf
 refine ⟨rfl, ?_⟩
 conv=>whnf
 (repeat' first | (refine step_go [] ?_;conv=>whnf) | (refine two ?_ ?_<;>intro g<;>(try simp only[bsx]at g)<;>(conv=>whnf)) | (refine And.intro rfl ?_;conv=>whnf) | (refine dr_go (by decide +kernel) ?_;conv=>whnf) | fail)
 exact h
set_option maxHeartbeats 4000000 in
theorem c_Check (p : Prod) (hp : p.ok) (K : Out -> List VObj -> Prop) (h : K (.ret (.int .i64 (checkC p))) []) : VCall Tryz.prog 21 [encP p] [] K := by
 have h9 : ¬ checkP p -> K (.ret (.int .i64 9)) [] := fun hh => by unfold checkC at h; rw [if_neg hh] at h; exact h
 have h0 : checkP p -> K (.ret (.int .i64 0)) [] := fun hh => by unfold checkC at h; rw [if_pos hh] at h; exact h
 clear h
 unfold encP cellsP
 refine call_fun [] 0 Tryz.func21 (by rfl) (by rfl) ?_
 conv=>whnf
 (repeat' first | (refine step_go [] ?_;conv=>whnf) | (refine two ?_ ?_<;>intro g<;>(try simp only[bsx]at g)<;>(conv=>whnf)) | (refine And.intro rfl ?_;conv=>whnf) | (refine loop_round [] ?_;conv=>whnf) | (refine ⟨_, Weak.refl, ?_⟩;conv=>whnf) | (refine ⟨by decide, _, rfl, rfl, ?_⟩;conv=>whnf) | fail)
 refine c_shape p hp (fun K h => c_Name p.name hp.name K h) _ (fun a1 => ?_) (fun a1 => ?_)
 rotate_left
 · conv=>whnf
   (repeat' first | (refine step_go [] ?_;conv=>whnf) | (refine two ?_ ?_<;>intro g<;>(try simp only[bsx]at g)<;>(conv=>whnf)) | (refine And.intro rfl ?_;conv=>whnf) | (refine d_chk1 _ _ ?_;conv=>whnf) | fail)
   exact h9 fun hh => a1 hh.1
 conv=>whnf
 (repeat' first | (refine step_go [] ?_;conv=>whnf) | (refine two ?_ ?_<;>intro g<;>(try simp only[bsx]at g)<;>(conv=>whnf)) | (refine And.intro rfl ?_;conv=>whnf) | (refine loop_round [] ?_;conv=>whnf) | (refine ⟨_, Weak.refl, ?_⟩;conv=>whnf) | (refine ⟨by decide, _, rfl, rfl, ?_⟩;conv=>whnf) | fail)
 refine c_lrates p hp a1.2.2.1 _ (fun a2 => ?_) (fun a2 => ?_)
 rotate_left
 · conv=>whnf
   (repeat' first | (refine step_go [] ?_;conv=>whnf) | (refine two ?_ ?_<;>intro g<;>(try simp only[bsx]at g)<;>(conv=>whnf)) | (refine And.intro rfl ?_;conv=>whnf) | (refine d_chk1 _ _ ?_;conv=>whnf) | fail)
   exact h9 fun hh => a2 hh.2.1
 conv=>whnf
 (repeat' first | (refine step_go [] ?_;conv=>whnf) | (refine two ?_ ?_<;>intro g<;>(try simp only[bsx]at g)<;>(conv=>whnf)) | (refine And.intro rfl ?_;conv=>whnf) | (refine loop_round [] ?_;conv=>whnf) | (refine ⟨_, Weak.refl, ?_⟩;conv=>whnf) | (refine ⟨by decide, _, rfl, rfl, ?_⟩;conv=>whnf) | fail)
 refine c_lorder p _ (fun a3 => ?_) (fun a3 => ?_)
 rotate_left
 · conv=>whnf
   (repeat' first | (refine step_go [] ?_;conv=>whnf) | (refine two ?_ ?_<;>intro g<;>(try simp only[bsx]at g)<;>(conv=>whnf)) | (refine And.intro rfl ?_;conv=>whnf) | (refine d_chk1 _ _ ?_;conv=>whnf) | fail)
   exact h9 fun hh => a3 hh.2.2.1
 conv=>whnf
 (repeat' first | (refine step_go [] ?_;conv=>whnf) | (refine two ?_ ?_<;>intro g<;>(try simp only[bsx]at g)<;>(conv=>whnf)) | (refine And.intro rfl ?_;conv=>whnf) | (refine loop_round [] ?_;conv=>whnf) | (refine ⟨_, Weak.refl, ?_⟩;conv=>whnf) | (refine ⟨by decide, _, rfl, rfl, ?_⟩;conv=>whnf) | fail)
 refine c_llate p hp _ (fun a4 => ?_) (fun a4 => ?_)
 rotate_left
 · conv=>whnf
   (repeat' first | (refine step_go [] ?_;conv=>whnf) | (refine two ?_ ?_<;>intro g<;>(try simp only[bsx]at g)<;>(conv=>whnf)) | (refine And.intro rfl ?_;conv=>whnf) | (refine d_chk1 _ _ ?_;conv=>whnf) | fail)
   exact h9 fun hh => a4 hh.2.2.2.1
 conv=>whnf
 (repeat' first | (refine step_go [] ?_;conv=>whnf) | (refine two ?_ ?_<;>intro g<;>(try simp only[bsx]at g)<;>(conv=>whnf)) | (refine And.intro rfl ?_;conv=>whnf) | (refine loop_round [] ?_;conv=>whnf) | (refine ⟨_, Weak.refl, ?_⟩;conv=>whnf) | (refine ⟨by decide, _, rfl, rfl, ?_⟩;conv=>whnf) | fail)
 refine c_ldays p hp _ (fun a5 => ?_) (fun a5 => ?_)
 rotate_left
 · conv=>whnf
   (repeat' first | (refine step_go [] ?_;conv=>whnf) | (refine two ?_ ?_<;>intro g<;>(try simp only[bsx]at g)<;>(conv=>whnf)) | (refine And.intro rfl ?_;conv=>whnf) | (refine d_chk1 _ _ ?_;conv=>whnf) | fail)
   exact h9 fun hh => a5 hh.2.2.2.2
 conv=>whnf
 (repeat' first | (refine step_go [] ?_;conv=>whnf) | (refine two ?_ ?_<;>intro g<;>(try simp only[bsx]at g)<;>(conv=>whnf)) | (refine And.intro rfl ?_;conv=>whnf) | (refine loop_round [] ?_;conv=>whnf) | (refine ⟨_, Weak.refl, ?_⟩;conv=>whnf) | (refine ⟨by decide, _, rfl, rfl, ?_⟩;conv=>whnf) | (refine d_chk0 _ _ ?_;conv=>whnf) | fail)
 exact h0 ⟨a1, a2, a3, a4, a5⟩
end C14

