/- Part Xd of the proof: B8 B9 B10 B11 B12 B13 D2 B14 D3 B15 B16 B17 B18 B19 B20 B21 B22 BB1 BB2 BB3 BB4 BB5 BB6 BB7 BB8 BB9 BB10 BB11 BB12 BB13 BB14 BB15 C1 C2 C3 C5 C6 C7 C8 C9 C10 C11 C12 C13 C14 C15 C16 C17 C18 C19 C20 C21 C4 C22 C23 C24 C25 C26 C27 C28 C28b. -/
import Derived.Test.YtdjbfmfkeokfaaaGreatXc
import Derived.Shelf.Strings.Search3
import Derived.Lib.IndexMore
set_option linter.unusedVariables false
set_option linter.unusedSimpArgs false
namespace B8
open Go Go.Proofs VL B1 D1 B2 B3 B4 B5 B6 B7
set_option maxRecDepth 100000
theorem get_bang {s : ByteArray} {i : Nat} (h : i < s.size) : (sB s)[i]? = some ((s[i]!).toNat : Int) := by
  obtain ⟨c, h1, h2⟩ := str_get h
  rw [h2]
  have : s[i]! = c := by rw [getElem!_pos s i h]; rw [getElem?_pos s i h] at h1; exact Option.some.inj h1
  rw [this]
theorem tw_at {c : Int} : ∀ {l : List Int} {i : Nat}, l[i]? = some c → (∀ j, j < i → l[j]? ≠ some c) → l.takeWhile (· != c) = l.take i ∧ l.dropWhile (· != c) = l.drop i ∧ l.contains c = true
  | [], i, h, _ => by simp at h
  | x :: r, 0, h, _ => by simp at h; subst h; simp
  | x :: r, i + 1, h, h2 => by
    have hx : x ≠ c := by have := h2 0 (by omega); simpa using this
    obtain ⟨a, b, d⟩ := tw_at (l := r) (i := i) (by simpa using h) fun j hj => by have := h2 (j + 1) (by omega); simpa using this
    have hx' : ¬ c = x := fun e => hx e.symm
    refine ⟨?_, ?_, ?_⟩
    · simp [hx, a]
    · simp [hx, b]
    · rw [List.contains_cons, d]; simp
theorem tw_no {c : Int} : ∀ {l : List Int}, (∀ x ∈ l, x ≠ c) → l.takeWhile (· != c) = l ∧ l.dropWhile (· != c) = [] ∧ l.contains c = false
  | [], _ => by simp
  | x :: r, h => by
    obtain ⟨a, b, d⟩ := tw_no (l := r) fun y hy => h y (by simp [hy])
    have hx := h x (by simp)
    have hx' : ¬ c = x := fun e => hx e.symm
    refine ⟨by simp [hx, a], by simp [hx, b], ?_⟩
    rw [List.contains_cons, d]; simp [hx']
theorem idxB_some {s : ByteArray} {c : UInt8} {i : Nat} (h : (List.range s.size).find? (fun i => s[i]! == c) = some i) : i < s.size ∧ (sB s)[i]? = some (c.toNat : Int) ∧ ∀ j, j < i → (sB s)[j]? ≠ some (c.toNat : Int) := by
  rw [List.find?_range_eq_some] at h
  obtain ⟨h1, h2, h3⟩ := h
  have hi : i < s.size := by simpa using h2
  refine ⟨hi, ?_, fun j hj => ?_⟩
  · rw [get_bang hi]; simp at h1; rw [h1]
  · rw [get_bang (by omega)]
    have := h3 j hj
    simp at this ⊢
    intro e
    exact this (UInt8.toNat.inj (by omega))
theorem idxB_none {s : ByteArray} {c : UInt8} (h : (List.range s.size).find? (fun i => s[i]! == c) = none) : ∀ x ∈ sB s, x ≠ (c.toNat : Int) := by
  rw [List.find?_eq_none] at h
  intro x hx e
  obtain ⟨i, hi⟩ := List.mem_iff_getElem?.1 hx
  have hl : i < s.size := by rw [← sB_len]; exact (List.getElem?_eq_some_iff.1 hi).1
  have := h i (by simpa using hl)
  rw [get_bang hl] at hi
  simp at this hi
  exact this (UInt8.toNat.inj (by omega))
theorem c_index1 (s : ByteArray) (K) (h : K (.ret (.int .i64 (idxB s 46))) []) : VCall Tryz.prog 121 [.str s, .str ⟨#[46]⟩] [] K := by
  refine call_fun [] 0 Tryz.func121 (by rfl) (by rfl) ?_; (conv => whnf); (repeat (refine step_go [] ?_; conv => whnf))
  (repeat first | (refine step_go [] ?_; conv => whnf) | (refine no (by rfl) ?_; conv => whnf) | (refine yes (by rfl) ?_; conv => whnf))
  refine two (fun g => ?_) (fun g => ?_)
  · (conv => whnf); (repeat (refine step_go [] ?_; conv => whnf))
    rw [str_beq] at g
    have e : s = ⟨#[46]⟩ := (sB_inj (beq_iff_eq.1 g)).symm
    subst e
    exact h
  (conv => whnf); (repeat (refine step_go [] ?_; conv => whnf))
  (repeat first | (refine step_go [] ?_; conv => whnf) | (refine no (by rfl) ?_; conv => whnf) | (refine yes (by rfl) ?_; conv => whnf))
  refine idx_str (x := 46) (by omega) (by decide +kernel) fun c hc => ?_
  rw [hc]; (conv => whnf); (repeat (refine step_go [] ?_; conv => whnf))
  have h' : VCall Tryz.prog 131 [.str s, .int .u8 46] [] fun o ob => o = .ret (.int .i64 (idxB s 46)) ∧ ob = [] := by
    refine call_fun [] 0 Tryz.func131 (by rfl) (by rfl) ?_; (conv => whnf); (repeat (refine step_go [] ?_; conv => whnf))
    refine c_indexByte (fn := Tryz.f146) (by rfl) (by rfl) (by rfl) (by rfl) (by rfl) ?_; (conv => whnf); (repeat (refine step_go [] ?_; conv => whnf))
    exact ⟨rfl, rfl⟩
  refine VCall.mono ?_ h'
  rintro _ _ ⟨rfl, rfl⟩
  (conv => whnf); (repeat (refine step_go [] ?_; conv => whnf))
  exact h
theorem c_cut (s : ByteArray) (hs : s.size < 9223372036854775807) (K) (h : K (.ret (.tup [.str (toBA ((sB s).takeWhile (· != 46))), .str (toBA (((sB s).dropWhile (· != 46)).drop 1)), .bool ((sB s).contains 46)])) []) : VCall Tryz.prog 139 [.str s, .str ⟨#[46]⟩] [] K := by
  refine call_fun [] 0 Tryz.func139 (by rfl) (by rfl) ?_; (conv => whnf); (repeat (refine step_go [] ?_; conv => whnf))
  have h' : VCall Tryz.prog 150 [.str s, .str ⟨#[46]⟩] [] fun o ob => o = .ret (.tup [.str (toBA ((sB s).takeWhile (· != 46))), .str (toBA (((sB s).dropWhile (· != 46)).drop 1)), .bool ((sB s).contains 46)]) ∧ ob = [] := by
    refine call_fun [] 0 Tryz.func150 (by rfl) (by rfl) ?_; (conv => whnf); (repeat (refine step_go [] ?_; conv => whnf))
    refine c_index1 s _ ?_; (conv => whnf); (repeat (refine step_go [] ?_; conv => whnf))
    cases hf : (List.range s.size).find? (fun i => s[i]! == 46) with
    | none =>
      obtain ⟨e1, e2, e3⟩ := tw_no (idxB_none hf)
      rw [show ((46 : UInt8).toNat : Int) = 46 from rfl] at e1 e2 e3
      rw [show idxB s 46 = -1 by unfold idxB; rw [hf]]
      (conv => whnf); (repeat (refine step_go [] ?_; conv => whnf))
      rw [e1, e2, e3]
      exact ⟨by rw [toBA_sB]; rfl, rfl⟩
    | some i =>
      obtain ⟨hi, h1, h2⟩ := idxB_some hf
      obtain ⟨e1, e2, e3⟩ := tw_at h1 h2
      rw [show ((46 : UInt8).toNat : Int) = 46 from rfl] at e1 e2 e3
      rw [show idxB s 46 = (i : Int) by unfold idxB; rw [hf]]
      (conv => whnf); (repeat (refine step_go [] ?_; conv => whnf))
      (refine ⟨by decide +kernel, ?_⟩; conv => whnf)
      have w : IntKind.i64.wrap ((i : Int) + 1) = ((i + 1 : Nat) : Int) := by rw [wrap64 (by omega) (by omega)]; omega
      have w' : IntKind.i64.wrap ((i : Int) + ((ByteArray.mk #[46]).size : Int)) = ((i + 1 : Nat) : Int) := w
      (repeat first | (refine step_go [] ?_; conv => whnf) | (refine And.intro rfl ?_; conv => whnf) | (refine And.intro (by omega) ?_; conv => whnf))
      rw [w']
      (repeat first | (refine step_go [] ?_; conv => whnf) | (refine And.intro rfl ?_; conv => whnf) | (refine And.intro (by omega) ?_; conv => whnf))
      refine ⟨?_, rfl⟩
      rw [ext_str s (l := (sB s).takeWhile (· != 46)) (by rw [e1]; simp), ext_str s (l := ((sB s).dropWhile (· != 46)).drop 1) (by rw [e2, List.take_of_length_le (by rw [sB_len]; omega)]; simp), e3]
  refine VCall.mono ?_ h'
  rintro _ _ ⟨rfl, rfl⟩
  (conv => whnf); (repeat (refine step_go [] ?_; conv => whnf))
  exact h
end B8

namespace B9
open Go Go.Proofs VL B1 D1 B2 B3 B4 B5 B6 B7 B8
set_option maxRecDepth 100000
theorem c_repeat (k : Nat) (hk : k ≤ 60) (K) (h : K (.ret (.str (toBA (List.replicate k 48)))) []) : VCall Tryz.prog 142 [.str ⟨#[48]⟩, .int .i64 (k : Int)] [] K := by
  refine call_fun [] 0 Tryz.func142 (by rfl) (by rfl) ?_; (conv => whnf); (repeat (refine step_go [] ?_; conv => whnf))
  refine two (fun g => ?_) (fun g => ?_)
  · have g : k = 0 := by have := beq_iff_eq.1 g; omega
    subst g
    (conv => whnf); (repeat (refine step_go [] ?_; conv => whnf))
    exact h
  · have g : k ≠ 0 := by simpa using g
    (conv => whnf); (repeat (refine step_go [] ?_; conv => whnf))
    refine two (fun g2 => ?_) (fun g2 => ?_)
    · have g2 : k = 1 := by have := beq_iff_eq.1 g2; omega
      subst g2
      (conv => whnf); (repeat (refine step_go [] ?_; conv => whnf))
      exact h
    · have g2 : k ≠ 1 := by intro e; subst e; simp at g2
      (conv => whnf); (repeat (refine step_go [] ?_; conv => whnf))
      rw [show IntKind.u64.wrap ((ByteArray.mk #[48]).size : Int) = ((1 : Nat) : Int) from wrapu64 (by decide) (by decide), wrapu64 (x := (k : Int)) (by omega) (by omega)]
      refine c_mul 1 k (by omega) (by omega) _ ?_; (conv => whnf); (repeat (refine step_go [] ?_; conv => whnf))
      rw [Nat.one_mul, Nat.div_eq_of_lt (by omega), Nat.mod_eq_of_lt (by omega)]
      (repeat first | (refine step_go [] ?_; conv => whnf) | (refine no (by rfl) ?_; conv => whnf) | (refine yes (by rfl) ?_; conv => whnf))
      refine no (decide_eq_false (by omega)) ?_; (conv => whnf); (repeat (refine step_go [] ?_; conv => whnf))
      (repeat first | (refine step_go [] ?_; conv => whnf) | (refine no (by rfl) ?_; conv => whnf) | (refine yes (by rfl) ?_; conv => whnf))
      rw [wrap64 (x := (k : Int)) (by omega) (by omega)]
      (repeat first | (refine step_go [] ?_; conv => whnf) | (refine no (by rfl) ?_; conv => whnf) | (refine yes (by rfl) ?_; conv => whnf))
      refine idx_str (x := 48) (by omega) (by decide +kernel) fun c hc => ?_
      rw [hc]; (conv => whnf); (repeat (refine step_go [] ?_; conv => whnf))
      (repeat first | (refine step_go [] ?_; conv => whnf) | (refine no (by rfl) ?_; conv => whnf) | (refine yes (by rfl) ?_; conv => whnf))
      refine yes (decide_eq_true (by omega)) ?_; (conv => whnf); (repeat (refine step_go [] ?_; conv => whnf))
      refine c_hasP _ _ _ ?_; (conv => whnf); (repeat (refine step_go [] ?_; conv => whnf))
      refine yes (decide_eq_true (by omega)) ?_; (conv => whnf); (repeat (refine step_go [] ?_; conv => whnf))
      refine c_hasP _ _ _ ?_; (conv => whnf); (repeat (refine step_go [] ?_; conv => whnf))
      refine yes (decide_eq_true (by omega)) ?_; (conv => whnf); (repeat (refine step_go [] ?_; conv => whnf))
      refine c_hasP _ _ _ ?_; (conv => whnf); (repeat (refine step_go [] ?_; conv => whnf))
      refine ⟨by omega, by omega, Int.le_trans (b := 64) (by omega) (by decide +kernel), ?_⟩; (conv => whnf); (repeat (refine step_go [] ?_; conv => whnf))
      rw [ext_str _ (l := List.replicate k 48)]
      · exact h
      · rw [Int.toNat_natCast, show Int.toNat 0 = 0 from rfl, List.drop_zero]
        have e : ∀ (l : List Int), l = List.replicate 64 48 → l.take k = List.replicate k 48 := fun l e => by rw [e, List.take_replicate, Nat.min_eq_left (by omega)]
        exact e _ (by decide +kernel)
end B9

namespace B10
open Go Go.Proofs VL B1 D1 B2 B3 B4 B5 B6 B7 B8 B9
set_option maxRecDepth 100000
def I64 (v : Int) : Prop := -9223372036854775808 ≤ v ∧ v < 9223372036854775808
theorem sz_toBA (l : List Int) : (toBA l).size = l.length := toBA_size l
theorem pad_dgw : ∀ (w n : Nat), 0 < w → n < 10 ^ w → List.replicate (w - (dg n).length) 48 ++ dg n = dgw w n
  | w + 1, n, _, h => by
    by_cases h0 : 10 ^ w ≤ n
    · have h1 := dg_len_ge w n h0
      rw [show w + 1 - (dg n).length = 0 by omega, dg_dgw w n h0 h]; rfl
    · by_cases hw : w = 0
      · subst hw; rw [show n = 0 by simp at h0; omega]; simp [dg_small, dgw]
      · have ih := pad_dgw w n (by omega) (by omega)
        have hl := dg_len_le (w - 1) n (by rw [Nat.sub_add_cancel (by omega)]; omega)
        have : dgw (w + 1) n = 48 :: dgw w n := by
          rw [Nat.add_comm, dgw_split, Nat.div_eq_of_lt (by omega)]; rfl
        rw [this, ← ih, show w + 1 - (dg n).length = (w - (dg n).length) + 1 by omega, List.replicate_succ]; rfl
def dgn (n v : Nat) : List Int := List.replicate (n - (dg v).length) 48 ++ dg v
theorem str_le {a b : Nat} (h : a + b < 1000000) : (((a + b : Nat) : Int) ≤ IntKind.i64.max) := Int.le_trans (b := 1000000) (by omega) (by decide)
end B10

namespace B11
open Go Go.Proofs VL B1 D1 B2 B3 B4 B5 B6 B7 B8 B9 B10
set_option maxRecDepth 100000
theorem c_must (b : Bool) (e : Int) (K) (h0 : b = true → K (.ret (.tup [])) []) (h1 : b = false → K (.pan (.ifc 166 (.agg [.int .i64 e]))) []) : VCall Tryz.prog 137 [.bool b, .int .i64 e] [] K := by
  refine call_fun [] 0 Tryz.func137 (by rfl) (by rfl) ?_; (conv => whnf); (repeat (refine step_go [] ?_; conv => whnf))
  refine two (fun g => ?_) (fun g => ?_)
  · (conv => whnf); (repeat (refine step_go [] ?_; conv => whnf))
    exact h1 (by simpa using g)
  · (conv => whnf); (repeat (refine step_go [] ?_; conv => whnf))
    exact h0 (by simpa using g)
theorem c_fits (v : Int) (K) (h : K (.ret (.bool (decide (-1000000000000000 ≤ v ∧ v ≤ 1000000000000000)))) []) : VCall Tryz.prog 143 [.int .i64 v] [] K := by
  refine call_fun [] 0 Tryz.func143 (by rfl) (by rfl) ?_; (conv => whnf); (repeat (refine step_go [] ?_; conv => whnf))
  refine two (fun g => ?_) (fun g => ?_)
  · have g : -1000000000000000 ≤ v := by simpa using g
    (conv => whnf); (repeat (refine step_go [] ?_; conv => whnf))
    rw [show decide (-1000000000000000 ≤ v ∧ v ≤ 1000000000000000) = decide (v ≤ 1000000000000000) by simp [g]] at h
    exact h
  · have g : ¬ -1000000000000000 ≤ v := by simpa using g
    (conv => whnf); (repeat (refine step_go [] ?_; conv => whnf))
    rw [show decide (-1000000000000000 ≤ v ∧ v ≤ 1000000000000000) = false by simp [g]] at h
    exact h
theorem d_caught0 (x y : Int) (K) (h : K false [.cells true 2 [.int .i64 x], .cells true 29 [.int .i64 y]]) : VCallD Tryz.prog 135 [.ptr 0 0, .ptr 1 0] [.cells true 2 [.int .i64 x], .cells true 29 [.int .i64 y]] none K := by
  refine calld_fun [] 2 Tryz.func135 (by rfl) (by rfl) ?_
  conv => whnf
  refine ⟨rfl, ?_⟩
  (conv => whnf); (repeat (refine step_go [] ?_; conv => whnf))
  exact h
theorem d_caught1 (x y e : Int) (K) (h : K true [.cells true 2 [.int .i64 0], .cells true 29 [.int .i64 e]]) : VCallD Tryz.prog 135 [.ptr 0 0, .ptr 1 0] [.cells true 2 [.int .i64 x], .cells true 29 [.int .i64 y]] (some (.ifc 166 (.agg [.int .i64 e]))) K := by
  refine calld_fun [] 2 Tryz.func135 (by rfl) (by rfl) ?_
  conv => whnf
  refine ⟨rfl, ?_⟩
  (conv => whnf); (repeat (refine step_go [] ?_; conv => whnf))
  (refine ⟨by decide +kernel, ?_⟩; conv => whnf)
  (repeat (refine And.intro rfl ?_; conv => whnf))
  exact h
def numOk (l : List Int) (n : Nat) : Prop := 1 ≤ l.length ∧ l.length ≤ n ∧ ∀ x ∈ l, Dig x
instance (l n) : Decidable (numOk l n) := inferInstanceAs (Decidable (_ ∧ _ ∧ _))
def sat (v : Nat) : Nat := min v 100000000000000000
theorem sat_step (v d : Nat) (hd : d ≤ 9) : min (10 * min (sat v) 10000000000000000 + d) 100000000000000000 = sat (10 * v + d) := by unfold sat; omega
theorem vl_take {l : List Int} {i : Nat} (hi : i < l.length) : vl (l.take (i + 1)) = 10 * vl (l.take i) + (l[i] - 48).toNat := by
  rw [List.take_succ_eq_append_getElem hi, vl_snoc]
theorem wrapu8' {x : Int} (h : 0 ≤ x) (h2 : x < 256) : IntKind.u8.wrap x = x := by rw [wrapu8]; omega
theorem c_number (l : List Int) (hb : ∀ x ∈ l, 0 ≤ x ∧ x < 256) (hl : l.length < 1000000) (n : Nat) (hn : n < 1000) (K) (h0 : numOk l n → K (.ret (.int .i64 (sat (vl l) : Nat))) [])
    (h1 : ¬ numOk l n → K (.pan (.ifc 166 (.agg [.int .i64 4]))) []) : VCall Tryz.prog 141 [.str (toBA l), .int .i64 (n : Int)] [] K := by
  have hbl := bL_len l
  refine call_fun [] 0 Tryz.func141 (by rfl) (by rfl) ?_; (conv => whnf); (repeat (refine step_go [] ?_; conv => whnf))
  refine two (fun g => ?_) (fun g => ?_)
  all_goals have g' := g
  all_goals simp [sz_toBA] at g
  · (conv => whnf); (repeat (refine step_go [] ?_; conv => whnf))
    refine c_must _ _ _ (fun g2 => ?_) (fun g2 => ?_)
    case refine_2 =>
      have g2 : n < l.length := by simp [sz_toBA] at g2; omega
      (conv => whnf); (repeat (refine step_go [] ?_; conv => whnf))
      exact h1 fun h => by have := h.2.1; omega
    have g2 : l.length ≤ n := by simp [sz_toBA] at g2; omega
    (conv => whnf); (repeat (refine step_go [] ?_; conv => whnf))
    rw [← toBA_V hb]
    let S : Nat → St := fun i => ⟨(.str (toBA l) :: .int .i64 (n : Int) :: .undef :: .undef :: .undef :: .int .i64 (sat (vl (l.take i)) : Nat) :: .undef :: .undef :: .undef :: .undef :: .undef :: .undef :: .undef :: .undef :: .undef :: .undef :: .undef :: .undef :: .undef :: .sl (bL l) .no :: .int .i64 l.length :: .int .i64 i :: .undef :: .undef :: .undef :: .undef :: .undef :: .undef :: .undef :: .undef :: .undef :: .undef :: .undef :: .undef :: .undef :: .undef :: .undef :: .undef :: .undef :: .undef :: .undef :: .undef :: []), [], 0, []⟩
    refine VLoop.enter (s' := S 0) (weak_of ?_ .nil rfl rfl rfl) (VLoop.indW S (fun i => l.length - i) (fun i => i ≤ l.length ∧ ∀ j, (h : j < i) → (h' : j < l.length) → Dig l[j]) ?_ 0 ⟨by omega, fun j h => by omega⟩)
    · repeat' first
        | exact VWs.nil
        | refine VWs.cons VW.undef ?_
        | refine VWs.cons (VW.eq rfl) ?_
        | refine VWs.cons (VW.eq (by rw [hbl])) ?_
    rintro i ⟨hi, hd⟩ ih
    refine loop_round [] ?_; (conv => whnf); (repeat (refine step_go [] ?_; conv => whnf))
    refine two (fun g3 => ?_) (fun g3 => ?_)
    · have hil : i < l.length := by simp at g3; omega
      have hget : (bL l)[(i : Int).toNat]? = some (.int .u8 (l[i])) := by rw [Int.toNat_natCast, bL_get, List.getElem?_eq_getElem hil]; rfl
      have hby := hb l[i] (List.getElem_mem hil)
      (conv => whnf); (repeat (refine step_go [] ?_; conv => whnf))
      refine ⟨by omega, _, hget, rfl, ?_⟩; (conv => whnf); (repeat (refine step_go [] ?_; conv => whnf))
      have hbad : ¬ Dig l[i] → K (Out.pan (.ifc 166 (.agg [.int .i64 4]))) [] := fun h => h1 fun hk => h (hk.2.2 _ (List.getElem_mem hil))
      refine two (fun g4 => ?_) (fun g4 => ?_)
      · have g4 : 48 ≤ l[i] := by simpa using g4
        (conv => whnf); (repeat (refine step_go [] ?_; conv => whnf))
        refine c_must _ _ _ (fun g5 => ?_) (fun g5 => ?_)
        case refine_2 =>
          have g5 : 57 < l[i] := by simpa using g5
          (conv => whnf); (repeat (refine step_go [] ?_; conv => whnf))
          exact hbad fun h => by unfold Dig at h; omega
        have g5 : l[i] ≤ 57 := by simpa using g5
        (conv => whnf); (repeat (refine step_go [] ?_; conv => whnf))
        refine ⟨rfl, ?_⟩; (conv => whnf); (repeat (refine step_go [] ?_; conv => whnf))
        refine ⟨rfl, ?_⟩; (conv => whnf); (repeat (refine step_go [] ?_; conv => whnf))
        refine ⟨S (i + 1), weak_of ?_ .nil rfl rfl rfl, ih (i + 1) ⟨by omega, fun j hj hj' => ?_⟩ (by omega)⟩
        · have e : (if (100000000000000000 : Int) < IntKind.i64.wrap (IntKind.i64.wrap (10 * (if (10000000000000000 : Int) < ((sat (vl (l.take i)) : Nat) : Int) then (10000000000000000 : Int) else ((sat (vl (l.take i)) : Nat) : Int))) + IntKind.i64.wrap (IntKind.u8.wrap (l[i] - 48))) then (100000000000000000 : Int) else IntKind.i64.wrap (IntKind.i64.wrap (10 * (if (10000000000000000 : Int) < ((sat (vl (l.take i)) : Nat) : Int) then (10000000000000000 : Int) else ((sat (vl (l.take i)) : Nat) : Int))) + IntKind.i64.wrap (IntKind.u8.wrap (l[i] - 48)))) = ((sat (vl (l.take (i + 1))) : Nat) : Int) := by
            rw [vl_take hil, ← sat_step _ _ (by omega)]
            have hs : sat (vl (l.take i)) ≤ 100000000000000000 := by unfold sat; omega
            generalize sat (vl (l.take i)) = q at hs
            rw [wrapu8' (by omega) (by omega), wrap64 (x := l[i] - 48) (by omega) (by omega)]
            have e1 : (if (10000000000000000 : Int) < ((q : Nat) : Int) then (10000000000000000 : Int) else ((q : Nat) : Int)) = ((min q 10000000000000000 : Nat) : Int) := by split <;> omega
            rw [e1, wrap64 (x := 10 * ((min q 10000000000000000 : Nat) : Int)) (by omega) (by omega), wrap64 (by omega) (by omega)]
            split <;> omega
          repeat' first
            | exact VWs.nil
            | refine VWs.cons VW.undef ?_
            | refine VWs.cons (VW.eq rfl) ?_
            | refine VWs.cons (VW.eq (congrArg (V.int .i64) (by rw [wrap64 (by omega) (by omega)]; omega))) ?_
            | refine VWs.cons (VW.eq (congrArg (V.int .i64) e)) ?_
        · by_cases hji : j < i
          · exact hd j hji hj'
          · have : j = i := by omega
            subst this
            exact ⟨g4, g5⟩
      · have g4 : l[i] < 48 := by simpa using g4
        (conv => whnf); (repeat (refine step_go [] ?_; conv => whnf))
        refine c_must _ _ _ (fun g5 => by cases g5) (fun g5 => ?_)
        (conv => whnf); (repeat (refine step_go [] ?_; conv => whnf))
        exact hbad fun h => by unfold Dig at h; omega
    · have hil : i = l.length := by simp at g3; omega
      subst hil
      (conv => whnf); (repeat (refine step_go [] ?_; conv => whnf))
      refine ⟨_, Weak.refl, ?_⟩; (conv => whnf); (repeat (refine step_go [] ?_; conv => whnf))
      rw [List.take_length]
      refine h0 ⟨by omega, g2, fun x hx => ?_⟩
      obtain ⟨j, hj, rfl⟩ := List.mem_iff_getElem.1 hx
      exact hd j hj hj
  · (conv => whnf); (repeat (refine step_go [] ?_; conv => whnf))
    refine c_must _ _ _ (fun g5 => by cases g5) (fun g5 => ?_)
    (conv => whnf); (repeat (refine step_go [] ?_; conv => whnf))
    exact h1 fun hk => by have := hk.1; omega
end B11

namespace B12
open Go Go.Proofs VL B1 D1 B2 B3 B4 B5 B6 B7 B8 B9 B10 B11
set_option maxRecDepth 100000
def wholeOk (l : List Int) : Prop := numOk l 20 ∧ (l.length = 1 ∨ l.head? ≠ some 48)
instance (l) : Decidable (wholeOk l) := inferInstanceAs (Decidable (_ ∧ _))
theorem c_whole (l : List Int) (hb : ∀ x ∈ l, 0 ≤ x ∧ x < 256) (hl : l.length < 1000000) (K) (h0 : wholeOk l → K (.ret (.int .i64 (sat (vl l) : Nat))) [])
    (h1 : ¬ wholeOk l → K (.pan (.ifc 166 (.agg [.int .i64 4]))) []) : VCall Tryz.prog 140 [.str (toBA l)] [] K := by
  refine call_fun [] 0 Tryz.func140 (by rfl) (by rfl) ?_; (conv => whnf); (repeat (refine step_go [] ?_; conv => whnf))
  refine c_number l hb hl 20 (by omega) _ (fun g => ?_) (fun g => ?_)
  case refine_2 => (conv => whnf); (repeat (refine step_go [] ?_; conv => whnf)); exact h1 fun h => g h.1
  (conv => whnf); (repeat (refine step_go [] ?_; conv => whnf))
  refine two (fun g2 => ?_) (fun g2 => ?_)
  · have g2 : l.length = 1 := by have := beq_iff_eq.1 g2; rw [sz_toBA] at this; omega
    (conv => whnf); (repeat (refine step_go [] ?_; conv => whnf))
    refine c_must _ _ _ (fun g5 => ?_) (fun g5 => by cases g5)
    (conv => whnf); (repeat (refine step_go [] ?_; conv => whnf))
    exact h0 ⟨g, .inl g2⟩
  · have g2 : l.length ≠ 1 := by intro e; rw [sz_toBA, e] at g2; simp at g2
    have hl0 := g.1
    obtain ⟨x, r, rfl⟩ : ∃ x r, l = x :: r := by cases l with | nil => simp at hl0 | cons x r => exact ⟨x, r, rfl⟩
    (conv => whnf); (repeat (refine step_go [] ?_; conv => whnf))
    refine idx_str (x := x) (by omega) (by rw [sB_toBA hb]; rfl) fun c hc => ?_
    rw [hc]; (conv => whnf); (repeat (refine step_go [] ?_; conv => whnf))
    refine c_must _ _ _ (fun g5 => ?_) (fun g5 => ?_)
    · have g5 : x ≠ 48 := by simpa using g5
      (conv => whnf); (repeat (refine step_go [] ?_; conv => whnf))
      exact h0 ⟨g, .inr (by simpa using g5)⟩
    · have g5 : x = 48 := by simpa using g5
      (conv => whnf); (repeat (refine step_go [] ?_; conv => whnf))
      exact h1 fun h => by
        rcases h.2 with h | h
        · exact g2 h
        · simp [g5] at h
def aheadT (t : List Int) : List Int := t.takeWhile (· != 46)
def behind (t : List Int) : List Int := (t.dropWhile (· != 46)).drop 1
def unsg (l : List Int) : List Int := if hasP l [45] then l.drop 1 else l
def moneyOk (t : List Int) : Prop := t.contains 46 = true ∧ (behind t).length = 2 ∧ wholeOk (aheadT t) ∧ numOk (behind t) 2
instance (l) : Decidable (moneyOk l) := inferInstanceAs (Decidable (_ ∧ _ ∧ _ ∧ _))
def moneyN (t : List Int) : Nat := vl (aheadT t) * 100 + vl (behind t)
def takeM (l : List Int) : Int × Int :=
  if ¬ moneyOk (unsg l) then (0, 4) else
  if hasP l [45] = true ∧ moneyN (unsg l) = 0 then (0, 4) else
  if 1000000000000000 < moneyN (unsg l) then (0, 3) else
  (if hasP l [45] = true then -(moneyN (unsg l) : Int) else (moneyN (unsg l) : Int), 0)
theorem unsg_byte {l : List Int} (h : ∀ x ∈ l, 0 ≤ x ∧ x < 256) : ∀ x ∈ unsg l, 0 ≤ x ∧ x < 256 := by
  unfold unsg; split
  · exact fun x hx => h x (List.mem_of_mem_drop hx)
  · exact h
theorem unsg_len (l : List Int) : (unsg l).length ≤ l.length := by unfold unsg; split <;> simp
theorem ahead_sub (t : List Int) : ∀ x ∈ aheadT t, x ∈ t := fun x hx => (List.takeWhile_sublist _).subset hx
theorem behind_sub (t : List Int) : ∀ x ∈ behind t, x ∈ t := fun x hx => (List.dropWhile_sublist _).subset (List.mem_of_mem_drop hx)
theorem ahead_len (t : List Int) : (aheadT t).length ≤ t.length := (List.takeWhile_sublist _).length_le
theorem behind_len (t : List Int) : (behind t).length ≤ t.length := by
  unfold behind; rw [List.length_drop]
  have := (List.dropWhile_sublist (fun x : Int => x != 46) (l := t)).length_le
  omega
theorem vl_two {l : List Int} (h : l.length = 2) (hd : ∀ x ∈ l, Dig x) : vl l < 100 := by have := vl_lt l hd; rw [h] at this; omega
set_option maxHeartbeats 4000000 in
theorem c_takeM (s : ByteArray) (hs : s.size < 1000000) (K) (h : K (.ret (.tup [.int .i64 (takeM (sB s)).1, .int .i64 (takeM (sB s)).2])) []) : VCall Tryz.prog 126 [.str s] [] K := by
  have hb := sB_byte s
  have hl := sB_len s
  have hub := unsg_byte hb
  have hul := unsg_len (sB s)
  have hab : ∀ x ∈ aheadT (unsg (sB s)), 0 ≤ x ∧ x < 256 := fun x hx => hub x (ahead_sub _ x hx)
  have hbb : ∀ x ∈ behind (unsg (sB s)), 0 ≤ x ∧ x < 256 := fun x hx => hub x (behind_sub _ x hx)
  have hal := ahead_len (unsg (sB s))
  have hbl := behind_len (unsg (sB s))
  have hfail : ¬ moneyOk (unsg (sB s)) → K (.ret (.tup [.int .i64 0, .int .i64 4])) [] := fun hn => by
    have : takeM (sB s) = (0, 4) := by unfold takeM; rw [if_pos hn]
    rw [this] at h; exact h
  refine VCall.weak (call_fun [] 0 Tryz.func126 (by rfl) (by rfl) ?_)
  (conv => whnf); (repeat (refine step_go [] ?_; conv => whnf))
  refine c_cutP s _ _ ?_; (conv => whnf); (repeat (refine step_go [] ?_; conv => whnf))
  rw [show sB (ByteArray.mk #[45]) = [45] from rfl]
  rw [show (if hasP (sB s) [45] = true then List.drop [(45 : Int)].length (sB s) else sB s) = unsg (sB s) from rfl]
  refine c_cut _ (by rw [sz_toBA]; omega) _ ?_; (conv => whnf); (repeat (refine step_go [] ?_; conv => whnf))
  rw [sB_toBA hub]
  rw [show List.takeWhile (fun x => x != 46) (unsg (sB s)) = aheadT (unsg (sB s)) from rfl, show List.drop 1 (List.dropWhile (fun x => x != 46) (unsg (sB s))) = behind (unsg (sB s)) from rfl]
  refine two (fun g => ?_) (fun g => ?_)
  case refine_2 =>
    (conv => whnf); (repeat (refine step_go [] ?_; conv => whnf))
    refine c_must _ _ _ (fun g5 => by cases g5) (fun g5 => ?_)
    (conv => whnf); (repeat first | (refine step_go [] ?_; conv => whnf) | (refine d_caught1 _ _ _ _ ?_; conv => whnf))
    exact ⟨_, _, Weak.refl, hfail fun hk => by rw [hk.1] at g; cases g⟩
  (conv => whnf); (repeat (refine step_go [] ?_; conv => whnf))
  refine c_must _ _ _ (fun g2 => ?_) (fun g2 => ?_)
  case refine_2 =>
    (conv => whnf); (repeat first | (refine step_go [] ?_; conv => whnf) | (refine d_caught1 _ _ _ _ ?_; conv => whnf))
    exact ⟨_, _, Weak.refl, hfail fun hk => by rw [sz_toBA, hk.2.1] at g2; cases g2⟩
  have g2 : (behind (unsg (sB s))).length = 2 := by have := beq_iff_eq.1 g2; rw [sz_toBA] at this; omega
  (conv => whnf); (repeat (refine step_go [] ?_; conv => whnf))
  refine c_whole _ hab (by omega) _ (fun g3 => ?_) (fun g3 => ?_)
  case refine_2 =>
    (conv => whnf); (repeat first | (refine step_go [] ?_; conv => whnf) | (refine d_caught1 _ _ _ _ ?_; conv => whnf))
    exact ⟨_, _, Weak.refl, hfail fun hk => g3 hk.2.2.1⟩
  (conv => whnf); (repeat (refine step_go [] ?_; conv => whnf))
  refine c_number _ hbb (by omega) 2 (by omega) _ (fun g4 => ?_) (fun g4 => ?_)
  case refine_2 =>
    (conv => whnf); (repeat first | (refine step_go [] ?_; conv => whnf) | (refine d_caught1 _ _ _ _ ?_; conv => whnf))
    exact ⟨_, _, Weak.refl, hfail fun hk => g4 hk.2.2.2⟩
  have hok : moneyOk (unsg (sB s)) := ⟨g, g2, g3, g4⟩
  have hv2 := vl_two g2 g4.2.2
  have hs2 : sat (vl (behind (unsg (sB s)))) = vl (behind (unsg (sB s))) := by unfold sat; omega
  have hs1 : sat (vl (aheadT (unsg (sB s)))) ≤ 100000000000000000 := by unfold sat; omega
  have hN : moneyN (unsg (sB s)) = vl (aheadT (unsg (sB s))) * 100 + vl (behind (unsg (sB s))) := rfl
  rw [hs2]
  have hzero : hasP (sB s) [45] = true → moneyN (unsg (sB s)) = 0 → K (.ret (.tup [.int .i64 0, .int .i64 4])) [] := fun h1 h2 => by
    have : takeM (sB s) = (0, 4) := by unfold takeM; rw [if_neg (by simpa using hok), if_pos ⟨h1, h2⟩]
    rw [this] at h; exact h
  have hbig : (hasP (sB s) [45] = true → moneyN (unsg (sB s)) ≠ 0) → 1000000000000000 < moneyN (unsg (sB s)) → K (.ret (.tup [.int .i64 0, .int .i64 3])) [] := fun h1 h2 => by
    have : takeM (sB s) = (0, 3) := by unfold takeM; rw [if_neg (by simpa using hok), if_neg (fun h => h1 h.1 h.2), if_pos h2]
    rw [this] at h; exact h
  have hgood : (hasP (sB s) [45] = true → moneyN (unsg (sB s)) ≠ 0) → moneyN (unsg (sB s)) ≤ 1000000000000000 → K (.ret (.tup [.int .i64 (if hasP (sB s) [45] = true then -(moneyN (unsg (sB s)) : Int) else (moneyN (unsg (sB s)) : Int)), .int .i64 0])) [] := fun h1 h2 => by
    have : takeM (sB s) = (if hasP (sB s) [45] = true then -(moneyN (unsg (sB s)) : Int) else (moneyN (unsg (sB s)) : Int), 0) := by unfold takeM; rw [if_neg (by simpa using hok), if_neg (fun h => h1 h.1 h.2), if_neg (by omega)]
    rw [this] at h; exact h
  have rest : (hasP (sB s) [45] = true → moneyN (unsg (sB s)) ≠ 0) → True := fun _ => trivial
  clear h hok hfail
  generalize moneyN (unsg (sB s)) = N at *
  generalize hA : vl (aheadT (unsg (sB s))) = A at *
  generalize hB : vl (behind (unsg (sB s))) = B at *
  generalize hasP (sB s) [45] = p at *
  cases p with
  | false =>
    (conv => whnf); (repeat (refine step_go [] ?_; conv => whnf))
    refine c_must _ _ _ (fun g6 => ?_) (fun g6 => by cases g6)
    (conv => whnf); (repeat (refine step_go [] ?_; conv => whnf))
    have hpre : ((false : Bool) = true → N ≠ 0) := fun h => by cases h
    refine c_must _ _ _ (fun g7 => ?_) (fun g7 => ?_)
    case refine_2 =>
      have g7 : 10000000000000 < sat A := by have := of_decide_eq_false g7; omega
      (conv => whnf); (repeat first | (refine step_go [] ?_; conv => whnf) | (refine d_caught1 _ _ _ _ ?_; conv => whnf))
      exact ⟨_, _, Weak.refl, hbig hpre (by unfold sat at g7; omega)⟩
    have g7 : sat A ≤ 10000000000000 := by have := of_decide_eq_true g7; omega
    have hAs : sat A = A := by unfold sat at g7 ⊢; omega
    rw [hAs]; (conv => whnf); (repeat (refine step_go [] ?_; conv => whnf))
    rw [show IntKind.i64.wrap (IntKind.i64.wrap ((A : Int) * 100) + (B : Int)) = (N : Int) by rw [wrap64 (x := (A : Int) * 100) (by omega) (by omega), wrap64 (by omega) (by omega)]; omega]
    refine c_fits _ _ ?_; (conv => whnf); (repeat (refine step_go [] ?_; conv => whnf))
    refine c_must _ _ _ (fun g8 => ?_) (fun g8 => ?_)
    case refine_2 =>
      have g8 := of_decide_eq_false g8
      (conv => whnf); (repeat first | (refine step_go [] ?_; conv => whnf) | (refine d_caught1 _ _ _ _ ?_; conv => whnf))
      exact ⟨_, _, Weak.refl, hbig hpre (by omega)⟩
    have g8 := of_decide_eq_true g8
    (conv => whnf); (repeat first | (refine step_go [] ?_; conv => whnf) | (refine d_caught0 _ _ _ ?_; conv => whnf))
    exact ⟨_, _, Weak.refl, hgood hpre (by omega)⟩
  | true =>
    (conv => whnf); (repeat (refine step_go [] ?_; conv => whnf))
    refine two (fun g5 => ?_) (fun g5 => ?_)
    · have g5 : 0 < sat A := by have := of_decide_eq_true g5; omega
      (conv => whnf); (repeat (refine step_go [] ?_; conv => whnf))
      refine c_must _ _ _ (fun g6 => ?_) (fun g6 => by cases g6)
      (conv => whnf); (repeat (refine step_go [] ?_; conv => whnf))
      have hpre : ((true : Bool) = true → N ≠ 0) := fun _ => by unfold sat at g5; omega
      refine c_must _ _ _ (fun g7 => ?_) (fun g7 => ?_)
      case refine_2 =>
        have g7 : 10000000000000 < sat A := by have := of_decide_eq_false g7; omega
        (conv => whnf); (repeat first | (refine step_go [] ?_; conv => whnf) | (refine d_caught1 _ _ _ _ ?_; conv => whnf))
        exact ⟨_, _, Weak.refl, hbig hpre (by unfold sat at g7; omega)⟩
      have g7 : sat A ≤ 10000000000000 := by have := of_decide_eq_true g7; omega
      have hAs : sat A = A := by unfold sat at g7 ⊢; omega
      rw [hAs]; (conv => whnf); (repeat (refine step_go [] ?_; conv => whnf))
      rw [show IntKind.i64.wrap (IntKind.i64.wrap ((A : Int) * 100) + (B : Int)) = (N : Int) by rw [wrap64 (x := (A : Int) * 100) (by omega) (by omega), wrap64 (by omega) (by omega)]; omega]
      refine c_fits _ _ ?_; (conv => whnf); (repeat (refine step_go [] ?_; conv => whnf))
      refine c_must _ _ _ (fun g8 => ?_) (fun g8 => ?_)
      case refine_2 =>
        have g8 := of_decide_eq_false g8
        (conv => whnf); (repeat first | (refine step_go [] ?_; conv => whnf) | (refine d_caught1 _ _ _ _ ?_; conv => whnf))
        exact ⟨_, _, Weak.refl, hbig hpre (by omega)⟩
      have g8 := of_decide_eq_true g8
      (conv => whnf); (repeat first | (refine step_go [] ?_; conv => whnf) | (refine d_caught0 _ _ _ ?_; conv => whnf))
      rw [show IntKind.i64.wrap (0 - (N : Int)) = -(N : Int) by rw [wrap64 (by omega) (by omega)]; omega]
      exact ⟨_, _, Weak.refl, hgood hpre (by omega)⟩
    · have g5 : sat A = 0 := by have := of_decide_eq_false g5; omega
      (conv => whnf); (repeat (refine step_go [] ?_; conv => whnf))
      refine c_must _ _ _ (fun g6 => ?_) (fun g6 => ?_)
      case refine_2 =>
        have g6 : B = 0 := by have := of_decide_eq_false g6; omega
        (conv => whnf); (repeat first | (refine step_go [] ?_; conv => whnf) | (refine d_caught1 _ _ _ _ ?_; conv => whnf))
        exact ⟨_, _, Weak.refl, hzero rfl (by unfold sat at g5; omega)⟩
      have g6 : 0 < B := by have := of_decide_eq_true g6; omega
      (conv => whnf); (repeat (refine step_go [] ?_; conv => whnf))
      have hpre : ((true : Bool) = true → N ≠ 0) := fun _ => by omega
      refine c_must _ _ _ (fun g7 => ?_) (fun g7 => ?_)
      case refine_2 =>
        have g7 : 10000000000000 < sat A := by have := of_decide_eq_false g7; omega
        (conv => whnf); (repeat first | (refine step_go [] ?_; conv => whnf) | (refine d_caught1 _ _ _ _ ?_; conv => whnf))
        exact ⟨_, _, Weak.refl, hbig hpre (by unfold sat at g7; omega)⟩
      have g7 : sat A ≤ 10000000000000 := by have := of_decide_eq_true g7; omega
      have hAs : sat A = A := by unfold sat at g7 ⊢; omega
      rw [hAs]; (conv => whnf); (repeat (refine step_go [] ?_; conv => whnf))
      rw [show IntKind.i64.wrap (IntKind.i64.wrap ((A : Int) * 100) + (B : Int)) = (N : Int) by rw [wrap64 (x := (A : Int) * 100) (by omega) (by omega), wrap64 (by omega) (by omega)]; omega]
      refine c_fits _ _ ?_; (conv => whnf); (repeat (refine step_go [] ?_; conv => whnf))
      refine c_must _ _ _ (fun g8 => ?_) (fun g8 => ?_)
      case refine_2 =>
        have g8 := of_decide_eq_false g8
        (conv => whnf); (repeat first | (refine step_go [] ?_; conv => whnf) | (refine d_caught1 _ _ _ _ ?_; conv => whnf))
        exact ⟨_, _, Weak.refl, hbig hpre (by omega)⟩
      have g8 := of_decide_eq_true g8
      (conv => whnf); (repeat first | (refine step_go [] ?_; conv => whnf) | (refine d_caught0 _ _ _ ?_; conv => whnf))
      rw [show IntKind.i64.wrap (0 - (N : Int)) = -(N : Int) by rw [wrap64 (by omega) (by omega)]; omega]
      exact ⟨_, _, Weak.refl, hgood hpre (by omega)⟩
end B12

namespace B13
open Go Go.Proofs VL B1 D1 B2 B3 B4 B5 B6 B7 B8 B9 B10 B11 B12
set_option maxRecDepth 100000
def unpc (l : List Int) : List Int := l.take (l.length - 1)
def fracOk (b : List Int) : Prop := 1 ≤ b.length ∧ b.length ≤ 7 ∧ b.getLast? ≠ some 48 ∧ ∀ x ∈ b, Dig x
instance (b) : Decidable (fracOk b) := inferInstanceAs (Decidable (_ ∧ _ ∧ _ ∧ _))
def fracN (b : List Int) : Nat := vl (b ++ List.replicate (7 - b.length) 48)
def rateOk (t : List Int) : Prop := wholeOk (aheadT t) ∧ vl (aheadT t) ≤ 1000 ∧ (t.contains 46 = true → fracOk (behind t))
instance (l) : Decidable (rateOk l) := inferInstanceAs (Decidable (_ ∧ _ ∧ (_ → _)))
def rateN (t : List Int) : Nat := vl (aheadT t) * 10000000 + (if t.contains 46 = true then fracN (behind t) else 0)
def takeR (l : List Int) : Int × Int :=
  if hasS l [37] = true ∧ rateOk (unsg (unpc l)) ∧ rateN (unsg (unpc l)) ≤ 10000000000 ∧ (hasP (unpc l) [45] = true → 0 < rateN (unsg (unpc l))) then
    (if hasP (unpc l) [45] = true then -(rateN (unsg (unpc l)) : Int) else (rateN (unsg (unpc l)) : Int), 0)
  else (0, 4)
theorem unpc_byte {l : List Int} (h : ∀ x ∈ l, 0 ≤ x ∧ x < 256) : ∀ x ∈ unpc l, 0 ≤ x ∧ x < 256 := fun x hx => h x (List.mem_of_mem_take hx)
theorem unpc_len (l : List Int) : (unpc l).length ≤ l.length := by unfold unpc; simp
theorem last_get {b : List Int} {n : Nat} (h : b.length = n + 1) : ∃ x, b[n]? = some x ∧ b.getLast? = some x := by
  refine ⟨b[n], List.getElem?_eq_getElem (by omega), ?_⟩
  rw [List.getLast?_eq_getElem?, show b.length - 1 = n by omega, List.getElem?_eq_getElem (by omega)]
set_option maxHeartbeats 4000000 in
theorem c_takeR (s : ByteArray) (hs : s.size < 1000000) (K) (h : K (.ret (.tup [.int .i64 (takeR (sB s)).1, .int .i64 (takeR (sB s)).2])) []) : VCall Tryz.prog 125 [.str s] [] K := by
  have hb := sB_byte s
  have hl := sB_len s
  have hpb := unpc_byte hb
  have hpl := unpc_len (sB s)
  have hub := unsg_byte hpb
  have hul := unsg_len (unpc (sB s))
  have hfail : ¬ (hasS (sB s) [37] = true ∧ rateOk (unsg (unpc (sB s))) ∧ rateN (unsg (unpc (sB s))) ≤ 10000000000 ∧ (hasP (unpc (sB s)) [45] = true → 0 < rateN (unsg (unpc (sB s))))) → K (.ret (.tup [.int .i64 0, .int .i64 4])) [] := fun hn => by
    have : takeR (sB s) = (0, 4) := by unfold takeR; rw [if_neg hn]
    rw [this] at h; exact h
  have hgood : (hasS (sB s) [37] = true ∧ rateOk (unsg (unpc (sB s))) ∧ rateN (unsg (unpc (sB s))) ≤ 10000000000 ∧ (hasP (unpc (sB s)) [45] = true → 0 < rateN (unsg (unpc (sB s))))) → K (.ret (.tup [.int .i64 (if hasP (unpc (sB s)) [45] = true then -(rateN (unsg (unpc (sB s))) : Int) else (rateN (unsg (unpc (sB s))) : Int)), .int .i64 0])) [] := fun hn => by
    have : takeR (sB s) = (if hasP (unpc (sB s)) [45] = true then -(rateN (unsg (unpc (sB s))) : Int) else (rateN (unsg (unpc (sB s))) : Int), 0) := by unfold takeR; rw [if_pos hn]
    rw [this] at h; exact h
  clear h
  refine VCall.weak (call_fun [] 0 Tryz.func125 (by rfl) (by rfl) ?_)
  (conv => whnf); (repeat (refine step_go [] ?_; conv => whnf))
  refine c_cutS s _ _ (by omega) ?_; (conv => whnf); (repeat (refine step_go [] ?_; conv => whnf))
  rw [show sB (ByteArray.mk #[37]) = [37] from rfl]
  refine c_must _ _ _ (fun g => ?_) (fun g => ?_)
  case refine_2 =>
    (conv => whnf); (repeat first | (refine step_go [] ?_; conv => whnf) | (refine d_caught1 _ _ _ _ ?_; conv => whnf))
    exact ⟨_, _, Weak.refl, hfail fun hk => by rw [hk.1] at g; cases g⟩
  rw [g]
  rw [show (if true = true then List.take (s.size - (ByteArray.mk #[37]).size) (sB s) else sB s) = unpc (sB s) by rw [if_pos rfl]; unfold unpc; rw [hl]; rfl]
  (conv => whnf); (repeat (refine step_go [] ?_; conv => whnf))
  refine c_cutP _ _ _ ?_; (conv => whnf); (repeat (refine step_go [] ?_; conv => whnf))
  rw [sB_toBA hpb, show sB (ByteArray.mk #[45]) = [45] from rfl]
  rw [show (if hasP (unpc (sB s)) [45] = true then List.drop [(45 : Int)].length (unpc (sB s)) else unpc (sB s)) = unsg (unpc (sB s)) from rfl]
  generalize unsg (unpc (sB s)) = t at *
  generalize hasP (unpc (sB s)) [45] = neg at *
  have hab : ∀ x ∈ aheadT t, 0 ≤ x ∧ x < 256 := fun x hx => hub x (ahead_sub _ x hx)
  have hbb : ∀ x ∈ behind t, 0 ≤ x ∧ x < 256 := fun x hx => hub x (behind_sub _ x hx)
  have hal := ahead_len t
  have hbl := behind_len t
  refine c_cut _ (by rw [sz_toBA]; omega) _ ?_; (conv => whnf); (repeat (refine step_go [] ?_; conv => whnf))
  rw [sB_toBA hub]
  rw [show List.takeWhile (fun x => x != 46) t = aheadT t from rfl, show List.drop 1 (List.dropWhile (fun x => x != 46) t) = behind t from rfl]
  refine c_whole _ hab (by omega) _ (fun g3 => ?_) (fun g3 => ?_)
  case refine_2 =>
    (conv => whnf); (repeat first | (refine step_go [] ?_; conv => whnf) | (refine d_caught1 _ _ _ _ ?_; conv => whnf))
    exact ⟨_, _, Weak.refl, hfail fun hk => g3 hk.2.1.1⟩
  (conv => whnf); (repeat (refine step_go [] ?_; conv => whnf))
  refine c_must _ _ _ (fun g4 => ?_) (fun g4 => ?_)
  case refine_2 =>
    have g4 := of_decide_eq_false g4
    (conv => whnf); (repeat first | (refine step_go [] ?_; conv => whnf) | (refine d_caught1 _ _ _ _ ?_; conv => whnf))
    exact ⟨_, _, Weak.refl, hfail fun hk => by have := hk.2.1.2.1; unfold sat at g4; omega⟩
  have g4 : vl (aheadT t) ≤ 1000 := by have := of_decide_eq_true g4; unfold sat at this; omega
  have hsat : sat (vl (aheadT t)) = vl (aheadT t) := by unfold sat; omega
  rw [hsat]; (conv => whnf); (repeat (refine step_go [] ?_; conv => whnf))
  rw [show IntKind.i64.wrap (((vl (aheadT t) : Nat) : Int) * 10000000) = ((vl (aheadT t) * 10000000 : Nat) : Int) by rw [wrap64 (by omega) (by omega)]; omega]
  obtain ⟨W, hW⟩ : ∃ W, vl (aheadT t) * 10000000 = W := ⟨_, rfl⟩
  have hW2 : W ≤ 10000000000 := by omega
  obtain ⟨w, hw⟩ : ∃ w, ((W : Nat) : Int) = w := ⟨_, rfl⟩
  rw [hW, hw]
  refine two (fun hp => ?_) (fun hp => ?_)
  · (conv => whnf); (repeat (refine step_go [] ?_; conv => whnf))
    have hnf : ¬ fracOk (behind t) → K (.ret (.tup [.int .i64 0, .int .i64 4])) [] := fun hn => hfail fun hk => hn (hk.2.1.2.2 hp)
    refine two (fun g5 => ?_) (fun g5 => ?_)
    case refine_2 =>
      have g5 : (behind t).length = 0 := by have := of_decide_eq_false g5; rw [sz_toBA] at this; omega
      (conv => whnf); (repeat (refine step_go [] ?_; conv => whnf))
      refine c_must _ _ _ (fun g7 => by cases g7) (fun g7 => ?_)
      (conv => whnf); (repeat first | (refine step_go [] ?_; conv => whnf) | (refine d_caught1 _ _ _ _ ?_; conv => whnf))
      exact ⟨_, _, Weak.refl, hnf fun hk => by have := hk.1; omega⟩
    have g5 : 1 ≤ (behind t).length := by have := of_decide_eq_true g5; rw [sz_toBA] at this; omega
    (conv => whnf); (repeat (refine step_go [] ?_; conv => whnf))
    refine two (fun g6 => ?_) (fun g6 => ?_)
    case refine_2 =>
      have g6 : 7 < (behind t).length := by have := of_decide_eq_false g6; rw [sz_toBA] at this; omega
      (conv => whnf); (repeat (refine step_go [] ?_; conv => whnf))
      refine c_must _ _ _ (fun g7 => by cases g7) (fun g7 => ?_)
      (conv => whnf); (repeat first | (refine step_go [] ?_; conv => whnf) | (refine d_caught1 _ _ _ _ ?_; conv => whnf))
      exact ⟨_, _, Weak.refl, hnf fun hk => by have := hk.2.1; omega⟩
    have g6 : (behind t).length ≤ 7 := by have := of_decide_eq_true g6; rw [sz_toBA] at this; omega
    obtain ⟨n, hn⟩ : ∃ n, (behind t).length = n + 1 := ⟨(behind t).length - 1, by omega⟩
    obtain ⟨x, hx1, hx2⟩ := last_get hn
    (conv => whnf); (repeat (refine step_go [] ?_; conv => whnf))
    rw [sz_toBA, show IntKind.i64.wrap (((behind t).length : Int) - 1) = (n : Int) by rw [wrap64 (by omega) (by omega)]; omega]
    refine idx_str (x := x) (by omega) (by rw [sB_toBA hbb, Int.toNat_natCast]; exact hx1) fun c hc => ?_
    rw [hc]; (conv => whnf); (repeat (refine step_go [] ?_; conv => whnf))
    refine c_must _ _ _ (fun g7 => ?_) (fun g7 => ?_)
    case refine_2 =>
      have g7 : x = 48 := by simpa using g7
      (conv => whnf); (repeat first | (refine step_go [] ?_; conv => whnf) | (refine d_caught1 _ _ _ _ ?_; conv => whnf))
      exact ⟨_, _, Weak.refl, hnf fun hk => hk.2.2.1 (by rw [hx2, g7])⟩
    have g7 : x ≠ 48 := by simpa using g7
    (conv => whnf); (repeat (refine step_go [] ?_; conv => whnf))
    (refine ⟨by decide +kernel, ?_⟩; conv => whnf)
    rw [sz_toBA, show IntKind.i64.wrap (7 - ((behind t).length : Int)) = ((7 - (behind t).length : Nat) : Int) by rw [wrap64 (by omega) (by omega)]; omega]
    refine c_repeat _ (by omega) _ ?_; conv => whnf
    (repeat (refine And.intro rfl ?_; conv => whnf))
    refine ⟨by rw [sz_toBA, sz_toBA]; refine str_le ?_; simp; omega, ?_⟩
    rw [toBA_app]; conv => whnf
    have hfb : ∀ x ∈ behind t ++ List.replicate (7 - (behind t).length) 48, 0 ≤ x ∧ x < 256 := fun x hx => by
      rcases List.mem_append.1 hx with hx | hx
      · exact hbb x hx
      · rw [(List.mem_replicate.1 hx).2]; omega
    have hfl : (behind t ++ List.replicate (7 - (behind t).length) 48).length = 7 := by simp; omega
    refine c_number _ hfb (by omega) 7 (by omega) _ (fun g8 => ?_) (fun g8 => ?_)
    case refine_2 =>
      (conv => whnf); (repeat first | (refine step_go [] ?_; conv => whnf) | (refine d_caught1 _ _ _ _ ?_; conv => whnf))
      exact ⟨_, _, Weak.refl, hnf fun hk => g8 ⟨by omega, by omega, fun y hy => by
        rcases List.mem_append.1 hy with hy | hy
        · exact hk.2.2.2 y hy
        · rw [(List.mem_replicate.1 hy).2]; unfold Dig; omega⟩⟩
    have hfo : fracOk (behind t) := ⟨g5, g6, fun h => by rw [hx2] at h; exact g7 (Option.some.inj h), fun y hy => g8.2.2 y (List.mem_append_left _ hy)⟩
    have hfn := vl_lt _ g8.2.2
    rw [hfl] at hfn
    have hfs : sat (vl (behind t ++ List.replicate (7 - (behind t).length) 48)) = fracN (behind t) := by unfold sat fracN; omega
    have hfn2 : fracN (behind t) < 10000000 := by unfold fracN; omega
    rw [hfs]; conv => whnf
    (repeat (refine And.intro rfl ?_; conv => whnf))
    have hN : rateN t = W + fracN (behind t) := by unfold rateN; rw [if_pos hp, hW]
    have hok : rateOk t := ⟨g3, g4, fun _ => hfo⟩
    obtain ⟨N, hNW⟩ : ∃ N, W + fracN (behind t) = N := ⟨_, rfl⟩
    rw [hNW] at hN
    rw [show IntKind.i64.wrap (w + ((fracN (behind t) : Nat) : Int)) = ((N : Nat) : Int) by rw [wrap64 (by omega) (by omega)]; omega]
    obtain ⟨w, hw⟩ : ∃ w, ((N : Nat) : Int) = w := ⟨_, rfl⟩
    rw [hw]
    (repeat (refine step_go [] ?_; conv => whnf))
    refine two (fun g6 => ?_) (fun g6 => ?_)
    case refine_2 =>
      have g6 : 10000000000 < N := by have := of_decide_eq_false g6; omega
      (conv => whnf); (repeat (refine step_go [] ?_; conv => whnf))
      refine c_must _ _ _ (fun g7 => by cases g7) (fun g7 => ?_)
      (conv => whnf); (repeat first | (refine step_go [] ?_; conv => whnf) | (refine d_caught1 _ _ _ _ ?_; conv => whnf))
      exact ⟨_, _, Weak.refl, hfail fun hk => by have := hk.2.2.1; omega⟩
    have g6 : N ≤ 10000000000 := by have := of_decide_eq_true g6; omega
    cases neg with
    | false =>
      (conv => whnf); (repeat (refine step_go [] ?_; conv => whnf))
      refine c_must _ _ _ (fun g7 => ?_) (fun g7 => by cases g7)
      (conv => whnf); (repeat first | (refine step_go [] ?_; conv => whnf) | (refine d_caught0 _ _ _ ?_; conv => whnf))
      have := hgood ⟨g, hok, by omega, fun h => by cases h⟩
      rw [hN, hw] at this
      exact ⟨_, _, Weak.refl, this⟩
    | true =>
      (conv => whnf); (repeat (refine step_go [] ?_; conv => whnf))
      refine c_must _ _ _ (fun g7 => ?_) (fun g7 => ?_)
      case refine_2 =>
        have g7 : N = 0 := by have := of_decide_eq_false g7; omega
        (conv => whnf); (repeat first | (refine step_go [] ?_; conv => whnf) | (refine d_caught1 _ _ _ _ ?_; conv => whnf))
        exact ⟨_, _, Weak.refl, hfail fun hk => by have := hk.2.2.2 rfl; omega⟩
      have g7 : 0 < N := by have := of_decide_eq_true g7; omega
      (conv => whnf); (repeat first | (refine step_go [] ?_; conv => whnf) | (refine d_caught0 _ _ _ ?_; conv => whnf))
      rw [show IntKind.i64.wrap (0 - w) = -w by rw [wrap64 (by omega) (by omega)]; omega]
      have := hgood ⟨g, hok, by omega, fun _ => by omega⟩
      rw [hN, hw] at this
      exact ⟨_, _, Weak.refl, this⟩
  · have hN : rateN t = W := by unfold rateN; rw [if_neg (by rw [hp]; decide), hW]; rfl
    have hok : rateOk t := ⟨g3, g4, fun h => by rw [hp] at h; cases h⟩
    obtain ⟨N, hNW⟩ : ∃ N, W = N := ⟨_, rfl⟩
    rw [hNW] at hN hw
    (conv => whnf); (repeat (refine step_go [] ?_; conv => whnf))
    refine two (fun g6 => ?_) (fun g6 => ?_)
    case refine_2 =>
      have g6 : 10000000000 < N := by have := of_decide_eq_false g6; omega
      (conv => whnf); (repeat (refine step_go [] ?_; conv => whnf))
      refine c_must _ _ _ (fun g7 => by cases g7) (fun g7 => ?_)
      (conv => whnf); (repeat first | (refine step_go [] ?_; conv => whnf) | (refine d_caught1 _ _ _ _ ?_; conv => whnf))
      exact ⟨_, _, Weak.refl, hfail fun hk => by have := hk.2.2.1; omega⟩
    have g6 : N ≤ 10000000000 := by have := of_decide_eq_true g6; omega
    cases neg with
    | false =>
      (conv => whnf); (repeat (refine step_go [] ?_; conv => whnf))
      refine c_must _ _ _ (fun g7 => ?_) (fun g7 => by cases g7)
      (conv => whnf); (repeat first | (refine step_go [] ?_; conv => whnf) | (refine d_caught0 _ _ _ ?_; conv => whnf))
      have := hgood ⟨g, hok, by omega, fun h => by cases h⟩
      rw [hN, hw] at this
      exact ⟨_, _, Weak.refl, this⟩
    | true =>
      (conv => whnf); (repeat (refine step_go [] ?_; conv => whnf))
      refine c_must _ _ _ (fun g7 => ?_) (fun g7 => ?_)
      case refine_2 =>
        have g7 : N = 0 := by have := of_decide_eq_false g7; omega
        (conv => whnf); (repeat first | (refine step_go [] ?_; conv => whnf) | (refine d_caught1 _ _ _ _ ?_; conv => whnf))
        exact ⟨_, _, Weak.refl, hfail fun hk => by have := hk.2.2.2 rfl; omega⟩
      have g7 : 0 < N := by have := of_decide_eq_true g7; omega
      (conv => whnf); (repeat first | (refine step_go [] ?_; conv => whnf) | (refine d_caught0 _ _ _ ?_; conv => whnf))
      rw [show IntKind.i64.wrap (0 - w) = -w by rw [wrap64 (by omega) (by omega)]; omega]
      have := hgood ⟨g, hok, by omega, fun _ => by omega⟩
      rw [hN, hw] at this
      exact ⟨_, _, Weak.refl, this⟩
end B13

namespace D2
open Go Go.Proofs VL D1 B7 B8 B10 B11 B12 B13
set_option maxRecDepth 100000
end D2

namespace B14
open Go Go.Proofs VL D1 B5 B7 B8 B10 B11 B12 B13 D2
set_option maxRecDepth 100000
end B14

namespace D3
open Go Go.Proofs VL D1 B10 D2 B14
set_option maxRecDepth 100000
end D3

namespace B15
open Go Go.Proofs VL D1 B5 B7 B8 B10 B11 B12 B13 D2 B14 D3
set_option maxRecDepth 100000
end B15

namespace B16
open Go Go.Proofs VL D1 B5 B7 B8 B10 B11 B12 B13 D2 B14 D3 B15
set_option maxRecDepth 100000
end B16

namespace B17
open Go Go.Proofs VL D1 B5 B7 B8 B10 B11 B12 B13 D2 B14 D3 B15 B16
set_option maxRecDepth 100000
end B17

namespace B18
open Go Go.Proofs VL D1 B5 B7 B8 B10 B11 B12 B13 D2 B14 D3 B15 B16
set_option maxRecDepth 100000
def sL (l : List (List Int)) : List V := l.map fun x => .str (toBA x)
end B18

namespace B19
open Go Go.Proofs VL D1 B5 B7 B8 B10 B11 B12 B13 D2 B14 D3 B15 B16 B18
set_option maxRecDepth 100000
end B19

namespace B20
open Go Go.Proofs VL D1 B2 B4 B5 B7 B8 B10 B11 B12 B13 D2 B14 D3
set_option maxRecDepth 100000
theorem dgw_next (n i : Nat) : (48 + ((n / 10 ^ i % 10 : Nat) : Int)) :: dgw i n = dgw (i + 1) n := by
  rw [Nat.add_comm, dgw_split]; rfl
theorem pow20 {n i : Nat} (h : n < 18446744073709551616) (h2 : 0 < n / 10 ^ i) : i < 20 := by
  rcases Nat.lt_or_ge i 20 with h1 | h1
  · exact h1
  · have : (10 : Nat) ^ 20 ≤ 10 ^ i := Nat.pow_le_pow_right (by omega) h1
    rw [Nat.div_eq_of_lt (Nat.lt_of_lt_of_le h (Nat.le_trans (by decide) this))] at h2
    omega
end B20

namespace B21
open Go Go.Proofs VL D1 B2 B4 B5 B7 B8 B10 B11 B12 B13 D2 B14 D3 B18 B20
set_option maxRecDepth 100000
def dgs (t : List Int) (n i : Nat) : List Int := if i ≤ n then t.take i else t.take n ++ (t.drop (n + 1)).take (i - n - 1)
end B21

namespace B22
open Go Go.Proofs VL D1 B2 B4 B5 B7 B8 B10 B11 B12 B13 D2 B14 D3 B18 B20 B21
set_option maxRecDepth 100000
end B22

namespace BB1
open Go Go.Proofs VL
set_option maxRecDepth 100000
end BB1

namespace BB2
open Go Go.Proofs VL BB1
set_option maxRecDepth 100000
end BB2

namespace BB3
open Go Go.Proofs VL BB1 BB2
set_option maxRecDepth 100000
end BB3

namespace BB4
open Go Go.Proofs VL
set_option maxRecDepth 100000
def lng (y : Nat) : Bool := y % 4 == 0 && (y % 100 != 0 || y % 400 == 0)
def mlen (y m : Nat) : Nat := if m = 4 ∨ m = 6 ∨ m = 9 ∨ m = 11 then 30 else if m = 2 then (if lng y then 29 else 28) else 31
theorem tm (y k : Nat) : Int.tmod (y : Int) (k : Int) = ((y % k : Nat) : Int) := by
  rw [Int.tmod_eq_emod_of_nonneg (by omega)]; exact (Int.natCast_emod y k).symm
theorem be (n : Nat) : ((n : Int) == 0) = (n == 0) := by rw [Bool.eq_iff_iff]; simp
theorem bn (n : Nat) : ((n : Int) != 0) = (n != 0) := by simp only [bne, be]
theorem m4 (y : Nat) : Int.tmod (y : Int) 4 = ((y % 4 : Nat) : Int) := tm y 4
theorem m100 (y : Nat) : Int.tmod (y : Int) 100 = ((y % 100 : Nat) : Int) := tm y 100
theorem m400 (y : Nat) : Int.tmod (y : Int) 400 = ((y % 400 : Nat) : Int) := tm y 400
theorem c_clong (y : Nat) (K) (h : K (.ret (.bool (lng y))) []) : VCall Tryz.prog 165 [.int .i64 (y : Int)] [] K := by
  refine call_fun [] 0 Tryz.func165 (by rfl) (by rfl) ?_; (conv => whnf); (repeat (refine step_go [] ?_; conv => whnf))
  refine ⟨(by decide : (4 : Int) ≠ 0), ?_⟩; (conv => whnf); (repeat (refine step_go [] ?_; conv => whnf))
  refine two (fun g => ?_) (fun g => ?_) <;> rw [m4, be] at g
  · (conv => whnf); (repeat (refine step_go [] ?_; conv => whnf))
    refine ⟨(by decide : (100 : Int) ≠ 0), ?_⟩; (conv => whnf); (repeat (refine step_go [] ?_; conv => whnf))
    refine two (fun g2 => ?_) (fun g2 => ?_) <;> rw [m100, bn] at g2
    · (conv => whnf); (repeat (refine step_go [] ?_; conv => whnf))
      have e : lng y = true := by simp [lng, g, g2]
      exact e ▸ h
    · (conv => whnf); (repeat (refine step_go [] ?_; conv => whnf))
      refine ⟨(by decide : (400 : Int) ≠ 0), ?_⟩; (conv => whnf); (repeat (refine step_go [] ?_; conv => whnf))
      have e : lng y = (Int.tmod (y : Int) 400 == 0) := by rw [m400, be]; simp [lng, g, g2]
      rw [e] at h; exact h
  · (conv => whnf); (repeat (refine step_go [] ?_; conv => whnf))
    have e : lng y = false := by simp [lng, g]
    exact e ▸ h
def opens (y : Nat) : Int := 365 * ((y : Int) - 1) + (((y - 1) / 4 : Nat) : Int) - (((y - 1) / 100 : Nat) : Int) + (((y - 1) / 400 : Nat) : Int) - 719162
theorem td (p k : Nat) : Int.tdiv (p : Int) (k : Int) = ((p / k : Nat) : Int) := by
  rw [Int.tdiv_eq_ediv_of_nonneg (by omega)]; exact (Int.natCast_ediv p k).symm
theorem d4 (p : Nat) (h : p ≤ 3000) : IntKind.i64.wrap (Int.tdiv (p : Int) 4) = ((p / 4 : Nat) : Int) := by rw [show Int.tdiv (p : Int) 4 = ((p / 4 : Nat) : Int) from td p 4, wrap64 (by omega) (by omega)]
theorem d100 (p : Nat) (h : p ≤ 3000) : IntKind.i64.wrap (Int.tdiv (p : Int) 100) = ((p / 100 : Nat) : Int) := by rw [show Int.tdiv (p : Int) 100 = ((p / 100 : Nat) : Int) from td p 100, wrap64 (by omega) (by omega)]
theorem d400 (p : Nat) (h : p ≤ 3000) : IntKind.i64.wrap (Int.tdiv (p : Int) 400) = ((p / 400 : Nat) : Int) := by rw [show Int.tdiv (p : Int) 400 = ((p / 400 : Nat) : Int) from td p 400, wrap64 (by omega) (by omega)]
theorem c_opens (y : Nat) (h0 : 1 ≤ y) (h1 : y ≤ 3000) (K) (h : K (.ret (.int .i64 (opens y))) []) : VCall Tryz.prog 158 [.int .i64 (y : Int)] [] K := by
  refine call_fun [] 0 Tryz.func158 (by rfl) (by rfl) ?_; (conv => whnf); (repeat (refine step_go [] ?_; conv => whnf))
  have e1 : IntKind.i64.wrap ((y : Int) - 1) = ((y - 1 : Nat) : Int) := by rw [wrap64 (by omega) (by omega)]; omega
  rw [e1]
  obtain ⟨p, hp⟩ : ∃ p, y - 1 = p := ⟨_, rfl⟩
  rw [hp]
  have hp1 : p ≤ 3000 := by omega
  refine ⟨(by decide : (4 : Int) ≠ 0), ?_⟩; (conv => whnf); (repeat (refine step_go [] ?_; conv => whnf))
  refine ⟨(by decide : (100 : Int) ≠ 0), ?_⟩; (conv => whnf); (repeat (refine step_go [] ?_; conv => whnf))
  refine ⟨(by decide : (400 : Int) ≠ 0), ?_⟩; (conv => whnf); (repeat (refine step_go [] ?_; conv => whnf))
  have b4 : p / 4 ≤ 3000 := by omega
  have b100 : p / 100 ≤ 3000 := by omega
  have b400 : p / 400 ≤ 3000 := by omega
  have hy : (y : Int) - 1 = (p : Int) := by omega
  rw [opens, hp, hy] at h
  rw [d4 p hp1, d100 p hp1, d400 p hp1]
  generalize p / 4 = q4 at *
  generalize p / 100 = q100 at *
  generalize p / 400 = q400 at *
  rw [wrap64 (x := 365 * (p : Int)) (by omega) (by omega), wrap64 (x := 365 * (p : Int) + (q4 : Int)) (by omega) (by omega), wrap64 (x := 365 * (p : Int) + (q4 : Int) - (q100 : Int)) (by omega) (by omega),
    wrap64 (x := 365 * (p : Int) + (q4 : Int) - (q100 : Int) + (q400 : Int)) (by omega) (by omega), wrap64 (by omega) (by omega)]
  exact h
theorem c_month (y m : Nat) (h1 : 1 ≤ m) (h2 : m ≤ 12) (K) (h : K (.ret (.int .i64 (mlen y m : Nat))) []) : VCall Tryz.prog 157 [.int .i64 (y : Int), .int .i64 (m : Int)] [] K := by
  obtain rfl | hm : m = 2 ∨ m ≠ 2 := by omega
  · refine call_fun [] 0 Tryz.func157 (by rfl) (by rfl) ?_; (conv => whnf); (repeat (refine step_go [] ?_; conv => whnf))
    refine c_clong y _ ?_; (conv => whnf); (repeat (refine step_go [] ?_; conv => whnf))
    refine two (fun g => ?_) (fun g => ?_)
    · (conv => whnf); (repeat (refine step_go [] ?_; conv => whnf))
      rw [show mlen y 2 = 29 by simp [mlen, g]] at h
      exact h
    · (conv => whnf); (repeat (refine step_go [] ?_; conv => whnf))
      rw [show mlen y 2 = 28 by simp [mlen, g]] at h
      exact h
  · have hm : m = 1 ∨ m = 3 ∨ m = 4 ∨ m = 5 ∨ m = 6 ∨ m = 7 ∨ m = 8 ∨ m = 9 ∨ m = 10 ∨ m = 11 ∨ m = 12 := by omega
    rcases hm with rfl | rfl | rfl | rfl | rfl | rfl | rfl | rfl | rfl | rfl | rfl
    all_goals
      refine call_fun [] 0 Tryz.func157 (by rfl) (by rfl) ?_; (conv => whnf); (repeat (refine step_go [] ?_; conv => whnf))
      exact h
end BB4

namespace BB5
open Go Go.Proofs VL BB4
set_option maxRecDepth 100000
def cum (y : Nat) : Nat → Nat
  | 0 => 0
  | 1 => 0
  | m + 2 => cum y (m + 1) + mlen y (m + 1)
theorem cum_step {y m : Nat} (h : 1 ≤ m) : cum y (m + 1) = cum y m + mlen y m := by
  obtain ⟨k, rfl⟩ : ∃ k, m = k + 1 := ⟨m - 1, by omega⟩
  rfl
theorem cum_mono {y a b : Nat} (h1 : 1 ≤ a) (h : a ≤ b) : cum y a ≤ cum y b := by
  obtain ⟨k, rfl⟩ : ∃ k, b = a + k := ⟨b - a, by omega⟩
  clear h
  induction k with
  | zero => exact Nat.le_refl _
  | succ k ih => rw [← Nat.add_assoc, cum_step (by omega)]; omega
theorem mlen_le (y m : Nat) : mlen y m ≤ 31 := by
  unfold mlen; split
  · omega
  · split
    · split <;> omega
    · omega
theorem cum12 (y : Nat) : cum y 12 = 334 + (if lng y then 1 else 0) := by
  simp only [cum, mlen]
  cases lng y <;> simp
structure IsDate (n : Int) (y m d : Nat) : Prop where
  y0 : 1900 ≤ y
  y1 : y ≤ 2200
  m0 : 1 ≤ m
  m1 : m ≤ 12
  lo : opens y + cum y m ≤ n
  hi : n < opens y + cum y m + mlen y m
  d : (d : Int) = n - opens y - cum y m + 1
end BB5

namespace BB6
open Go Go.Proofs VL BB4 BB5
set_option maxRecDepth 100000
end BB6

namespace BB7
open Go Go.Proofs VL D1 B2 B4 B5 B7 B8 B10 B11 B12 B13 D2 B14 D3 B20 BB4 BB5 BB6
set_option maxRecDepth 100000
set_option maxHeartbeats 2000000 in
theorem c_hDigits (n least : Nat) (hn : n < 1000000) (hl : 1 ≤ least) (hl2 : least ≤ 50) (K) (h : K (.ret (.str (toBA (dgn least n)))) []) :
    VCall Tryz.prog 15 [.int .i64 (n : Int), .int .i64 (least : Int)] [] K := by
  refine call_fun [] 0 Tryz.func15 (by rfl) (by rfl) ?_; (conv => whnf); (repeat (refine step_go [] ?_; conv => whnf))
  let S : Nat → St := fun i => ⟨(.int .i64 ((n / 10 ^ i : Nat) : Int) :: .int .i64 (least : Int) :: .undef :: .undef :: .str ⟨#[]⟩ :: .str (toBA (dgw i n)) :: .undef :: .undef :: .undef :: .undef :: .undef :: .undef :: .undef :: .undef :: .undef :: .undef :: .undef :: .undef :: .undef :: .undef :: .undef :: .undef :: .undef :: .undef :: .undef :: []), [], 0, []⟩
  refine VLoop.enter (s' := S 0) (weak_of ?_ .nil rfl rfl rfl) (VLoop.indW S (fun i => 60 - i) (fun i => i ≤ 50 ∧ (i ≤ least ∨ 0 < n / 10 ^ (i - 1))) ?_ 0 ⟨by omega, by omega⟩)
  · repeat' first
      | exact VWs.nil
      | refine VWs.cons VW.undef ?_
      | refine VWs.cons (VW.eq rfl) ?_
      | refine VWs.cons (VW.eq (congrArg (V.int .i64) (by simp))) ?_
  rintro i ⟨hi, hd⟩ ih
  have go : (0 < n / 10 ^ i ∨ i < least) → ∃ q, n / 10 ^ i = q ∧ q < 1000000 := fun _ => ⟨_, rfl, Nat.lt_of_le_of_lt (Nat.div_le_self _ _) hn⟩
  have fin : ¬ (0 < n / 10 ^ i) → ¬ i < least → toBA (dgw i n) = toBA (dgn least n) := fun h1 h2 => by
    congr 1
    have h0 : n / 10 ^ i = 0 := Nat.eq_zero_of_not_pos h1
    have hlt : n < 10 ^ i := by
      rcases Nat.lt_or_ge n (10 ^ i) with h | h
      · exact h
      · have := Nat.div_pos h (Nat.pow_pos (by omega)); omega
    by_cases e : i = least
    · subst e; exact (pad_dgw i n (by omega) hlt).symm
    · have hp : 0 < n / 10 ^ (i - 1) := hd.resolve_left (by omega)
      have hge : 10 ^ (i - 1) ≤ n := by
        rcases Nat.lt_or_ge n (10 ^ (i - 1)) with h | h
        · rw [Nat.div_eq_of_lt h] at hp; omega
        · exact h
      have := dg_dgw (i - 1) n hge (by rw [Nat.sub_add_cancel (by omega)]; exact hlt)
      rw [Nat.sub_add_cancel (by omega)] at this
      unfold dgn
      rw [this, dgw_len, show least - i = 0 by omega]; rfl
  have stepp : (0 < n / 10 ^ i ∨ i < least) → True := fun _ => trivial
  refine loop_round [] ?_; (conv => whnf); (repeat (refine step_go [] ?_; conv => whnf))
  refine two (fun g => ?_) (fun g => ?_)
  · have g : 0 < n / 10 ^ i := by have := of_decide_eq_true g; omega
    have h20 := pow20 (Nat.lt_trans hn (by decide)) g
    have hq : n / 10 ^ i < 1000000 := Nat.lt_of_le_of_lt (Nat.div_le_self _ _) hn
    (conv => whnf); (repeat (refine step_go [] ?_; conv => whnf))
    have tm : Int.tmod ((n / 10 ^ i : Nat) : Int) 10 = ((n / 10 ^ i % 10 : Nat) : Int) := rfl
    have td : Int.tdiv ((n / 10 ^ i : Nat) : Int) 10 = ((n / 10 ^ i / 10 : Nat) : Int) := rfl
    refine ⟨by decide, ?_⟩; rw [tm]; (conv => whnf); (repeat (refine step_go [] ?_; conv => whnf))
    have e : IntKind.u8.wrap (IntKind.i64.wrap (48 + ((n / 10 ^ i % 10 : Nat) : Int))) = 48 + ((n / 10 ^ i % 10 : Nat) : Int) := by rw [wrap64 (by omega) (by omega), wrapu8' (by omega) (by omega)]
    rw [e]
    refine ⟨toBA [48 + ((n / 10 ^ i % 10 : Nat) : Int)], ?_, ?_⟩
    · rw [← toBA_V (fun x hx => by simp at hx; omega)]; rfl
    (conv => whnf); (repeat (refine step_go [] ?_; conv => whnf))
    refine ⟨by rw [sz_toBA, sz_toBA, dgw_len]; refine str_le ?_; simp; omega, ?_⟩
    rw [toBA_app]; (conv => whnf); (repeat (refine step_go [] ?_; conv => whnf))
    refine ⟨by decide, ?_⟩; rw [td]; (conv => whnf); (repeat (refine step_go [] ?_; conv => whnf))
    refine ⟨S (i + 1), weak_of ?_ .nil rfl rfl rfl, ih (i + 1) ⟨by omega, by rw [Nat.add_sub_cancel]; omega⟩ (by omega)⟩
    repeat' first
      | exact VWs.nil
      | refine VWs.cons VW.undef ?_
      | refine VWs.cons (VW.eq rfl) ?_
      | refine VWs.cons (VW.eq (congrArg (fun x => V.str (toBA x)) (dgw_next n i))) ?_
      | refine VWs.cons (VW.eq (congrArg (V.int .i64) (by rw [wrap64 (by omega) (by omega), Nat.div_div_eq_div_mul, Nat.pow_succ]))) ?_
  · have g : ¬ 0 < n / 10 ^ i := by have := of_decide_eq_false g; omega
    (conv => whnf); (repeat (refine step_go [] ?_; conv => whnf))
    refine two (fun g2 => ?_) (fun g2 => ?_)
    · have g2 : i < least := by have := of_decide_eq_true g2; rw [sz_toBA, dgw_len] at this; omega
      have hq : n / 10 ^ i < 1000000 := Nat.lt_of_le_of_lt (Nat.div_le_self _ _) hn
      (conv => whnf); (repeat (refine step_go [] ?_; conv => whnf))
      have tm : Int.tmod ((n / 10 ^ i : Nat) : Int) 10 = ((n / 10 ^ i % 10 : Nat) : Int) := rfl
      have td : Int.tdiv ((n / 10 ^ i : Nat) : Int) 10 = ((n / 10 ^ i / 10 : Nat) : Int) := rfl
      refine ⟨by decide, ?_⟩; rw [tm]; (conv => whnf); (repeat (refine step_go [] ?_; conv => whnf))
      have e : IntKind.u8.wrap (IntKind.i64.wrap (48 + ((n / 10 ^ i % 10 : Nat) : Int))) = 48 + ((n / 10 ^ i % 10 : Nat) : Int) := by rw [wrap64 (by omega) (by omega), wrapu8' (by omega) (by omega)]
      rw [e]
      refine ⟨toBA [48 + ((n / 10 ^ i % 10 : Nat) : Int)], ?_, ?_⟩
      · rw [← toBA_V (fun x hx => by simp at hx; omega)]; rfl
      (conv => whnf); (repeat (refine step_go [] ?_; conv => whnf))
      refine ⟨by rw [sz_toBA, sz_toBA, dgw_len]; refine str_le ?_; simp; omega, ?_⟩
      rw [toBA_app]; (conv => whnf); (repeat (refine step_go [] ?_; conv => whnf))
      refine ⟨by decide, ?_⟩; rw [td]; (conv => whnf); (repeat (refine step_go [] ?_; conv => whnf))
      clear go stepp
      have hw : IntKind.i64.wrap ((n / 10 ^ i / 10 : Nat) : Int) = ((n / 10 ^ i / 10 : Nat) : Int) := by
        have hq10 : n / 10 ^ i / 10 < 1000000 := Nat.lt_of_le_of_lt (Nat.div_le_self _ _) hq
        clear td tm
        generalize n / 10 ^ i / 10 = q at hq10
        exact wrap64 (by omega) (by omega)
      refine ⟨S (i + 1), weak_of ?_ .nil rfl rfl rfl, ih (i + 1) ⟨by omega, by rw [Nat.add_sub_cancel]; omega⟩ (by omega)⟩
      repeat' first
        | exact VWs.nil
        | refine VWs.cons VW.undef ?_
        | refine VWs.cons (VW.eq rfl) ?_
        | refine VWs.cons (VW.eq (congrArg (fun x => V.str (toBA x)) (dgw_next n i))) ?_
        | refine VWs.cons (VW.eq (congrArg (V.int .i64) (by rw [hw, Nat.div_div_eq_div_mul, Nat.pow_succ]))) ?_
    · have g2 : ¬ i < least := by have := of_decide_eq_false g2; rw [sz_toBA, dgw_len] at this; omega
      (conv => whnf); (repeat (refine step_go [] ?_; conv => whnf))
      refine ⟨_, Weak.refl, ?_⟩; (conv => whnf); (repeat (refine step_go [] ?_; conv => whnf))
      rw [fin g g2]
      exact h
end BB7

namespace BB8
open Go Go.Proofs VL D1 B2 B4 B5 B7 B8 B10 B11 B12 B13 D2 B14 D3 B20 BB4 BB5 BB6 BB7
set_option maxRecDepth 100000
end BB8

namespace BB9
open Go Go.Proofs VL D1 B2 B4 B5 B7 B8 B10 B11 B12 B13 D2 B14 D3 B20 BB4 BB5 BB6 BB7 BB8
set_option maxRecDepth 100000
end BB9

namespace BB10
open Go Go.Proofs VL D1 B2 B4 B5 B7 B8 B10 B11 B12 B13 D2 B14 D3 B20 BB1 BB2 BB3 BB9
set_option maxRecDepth 100000
structure Due where
  n : Int
  day : Int
  int : Int
  pri : Int
structure Stm where
  day : Int
  opn : Bool
  cls : Bool
  pri : Int
  acc : Int
  int : Int
  due : Int
  pen : Int
  fee : Int
  una : Int
  dues : List Due
  next : Int
  nday : Int
def Due.ok (d : Due) : Prop := I64 d.n ∧ I64 d.day ∧ I64 d.int ∧ I64 d.pri
structure Stm.ok (s : Stm) : Prop where
  day : I64 s.day
  pri : I64 s.pri
  acc : I64 s.acc
  int : I64 s.int
  due : I64 s.due
  pen : I64 s.pen
  fee : I64 s.fee
  una : I64 s.una
  next : I64 s.next
  nday : I64 s.nday
  dues : ∀ d ∈ s.dues, d.ok
  len : s.dues.length ≤ 60
end BB10

namespace BB11
open Go Go.Proofs VL D1 B2 B4 B5 B7 B8 B10 B11 B12 B13 D2 B14 D3 B20 BB1 BB2 BB3 BB9 BB10
set_option maxRecDepth 100000
end BB11

namespace BB12
open Go Go.Proofs VL BB10 BB11
set_option maxRecDepth 100000
theorem d_eq (a b : Due) : a = b ↔ a.n = b.n ∧ a.day = b.day ∧ a.int = b.int ∧ a.pri = b.pri := by
  constructor
  · rintro rfl; simp
  · cases a; cases b; simp
instance : DecidableEq Due := fun a b => decidable_of_iff _ (d_eq a b).symm
end BB12

namespace BB13
open Go Go.Proofs VL B10 BB10 BB12
set_option maxRecDepth 100000
structure Mon where
  pri : Int
  acc : Int
  dues : List Due
  pen : Int
  fee : Int
  una : Int
  cash : Int
  ear : Int
  fin : Int
  cha : Int
def mayB (v : Int) : Bool := decide (0 ≤ v) && decide (v ≤ 1000000000000000)
def dueBad (p : Option Due) (d : Due) : Prop := ¬ (mayB d.int = true) ∨ ¬ (mayB d.pri = true) ∨ d.int + d.pri = 0 ∨ d.n < 1 ∨ ∃ q, p = some q ∧ (d.n ≤ q.n ∨ d.day ≤ q.day)
noncomputable instance (p : Option Due) (d : Due) : Decidable (dueBad p d) := Classical.propDecidable _
structure Mon.ok (m : Mon) : Prop where
  pri : I64 m.pri
  acc : I64 m.acc
  pen : I64 m.pen
  fee : I64 m.fee
  una : I64 m.una
  cash : I64 m.cash
  ear : I64 m.ear
  fin : I64 m.fin
  cha : I64 m.cha
  dues : ∀ d ∈ m.dues, d.ok
  len : m.dues.length < 1000000
def kindS (m : Mon) (x y k : Int) : Int := if k = 1 then m.fee else if k = 2 then m.pen else if k = 3 then x else if k = 4 then y else 0
end BB13

namespace BB14
open Go Go.Proofs VL B10 BB10 BB11 BB12 BB13
set_option maxRecDepth 100000
structure Sta where
  day : Int
  opn : Bool
  start : Int
  plan : List Int
  next : Int
  rate : Int
  mon : Mon
  lfee : Int
  res : Int
  fine : Int
def iL (l : List Int) : List V := l.map (V.int .i64)
end BB14

namespace BB15
open Go Go.Proofs VL B10 BB10 BB11 BB12 BB13 BB14
end BB15

namespace VL
theorem app_in {α : Type} (enc : α → V) (acc : List α) (t : α) (sp : List V) : List.take (0 + acc.length) (acc.map enc ++ sp) ++ [enc t] ++ List.drop (0 + acc.length + 1) (acc.map enc ++ sp) = (acc ++ [t]).map enc ++ sp.drop 1 := by
  have h : (acc.map enc).length = acc.length := by simp
  have h1 : List.take (0 + acc.length) (acc.map enc ++ sp) = acc.map enc := by rw [Nat.zero_add, ← h, List.take_left]
  have h2 : List.drop (0 + acc.length + 1) (acc.map enc ++ sp) = sp.drop 1 := by rw [Nat.zero_add, ← List.drop_drop, ← h, List.drop_left]
  rw [h1, h2]; simp
theorem app_gr {α : Type} (enc : α → V) (acc : List α) (t : α) (sp sp' : List V) : List.take acc.length (List.drop 0 (acc.map enc ++ sp)) ++ [enc t] ++ sp' = (acc ++ [t]).map enc ++ sp' := by
  have h : (acc.map enc).length = acc.length := by simp
  rw [List.drop_zero]
  have h1 : List.take acc.length (acc.map enc ++ sp) = acc.map enc := by rw [← h, List.take_left]
  rw [h1]; simp
end VL
namespace C1
open VL
def wT (ws : List (List Int)) : List Int := 32 :: ws.flatMap (· ++ [32])
theorem wT_cons (w : List Int) (r : List (List Int)) : wT (w :: r) = 32 :: (w ++ wT r) := by simp [wT]
def Nb (l : List Int) : Prop := ∀ x ∈ l, x ≠ 32
theorem nb_head : ∀ {s w b c : List Int}, Nb s → Nb w → s ++ 32 :: b = w ++ 32 :: c → s = w ∧ b = c
  | [], [], b, c, _, _, h => ⟨rfl, by simpa using h⟩
  | [], y :: w, b, c, _, hw, h => by simp at h; exact absurd h.1.symm (hw y (by simp))
  | x :: s, [], b, c, hs, _, h => by simp at h; exact absurd h.1 (hs x (by simp))
  | x :: s, y :: w, b, c, hs, hw, h => by
    simp only [List.cons_append, List.cons.injEq] at h
    obtain ⟨h1, h2⟩ := nb_head (fun z hz => hs z (by simp [hz])) (fun z hz => hw z (by simp [hz])) h.2
    exact ⟨by rw [h.1, h1], h2⟩
theorem nb_pre : ∀ {w a t u : List Int}, Nb w → a ++ 32 :: u = w ++ t → ∃ a', a = w ++ a' ∧ a' ++ 32 :: u = t
  | [], a, t, u, _, h => ⟨a, rfl, h⟩
  | y :: w, [], t, u, hw, h => by simp at h; exact absurd h.1.symm (hw y (by simp))
  | y :: w, x :: a, t, u, hw, h => by
    simp only [List.cons_append, List.cons.injEq] at h
    obtain ⟨a', h1, h2⟩ := nb_pre (fun z hz => hw z (by simp [hz])) h.2
    exact ⟨a', by rw [h.1, h1]; rfl, h2⟩
theorem word_in : ∀ {ws : List (List Int)} {s : List Int}, (∀ w ∈ ws, Nb w) → Nb s → ((∃ a b, wT ws = a ++ (32 :: s ++ [32]) ++ b) ↔ s ∈ ws)
  | [], s, _, _ => by
    simp only [List.not_mem_nil, iff_false]
    rintro ⟨a, b, h⟩
    have := congrArg List.length h
    simp [wT] at this; omega
  | w :: r, s, hw, hs => by
    rw [List.mem_cons, wT_cons]
    have ih := word_in (ws := r) (s := s) (fun x hx => hw x (by simp [hx])) hs
    have hww := hw w (by simp)
    constructor
    · rintro ⟨a, b, h⟩
      rcases a with _ | ⟨x, a⟩
      · left
        have h' : s ++ 32 :: b = w ++ 32 :: (r.flatMap (· ++ [32])) := by simpa [wT] using h.symm
        exact (nb_head hs hww h').1
      · right
        have h' : a ++ 32 :: (s ++ 32 :: b) = w ++ wT r := by
          have := h.symm
          simp only [List.cons_append, List.cons.injEq] at this
          simpa using this.2
        obtain ⟨a', h1, h2⟩ := nb_pre hww h'
        exact ih.1 ⟨a', b, by rw [← h2]; simp⟩
    · rintro (rfl | h)
      · exact ⟨[], r.flatMap (· ++ [32]), by simp [wT]⟩
      · obtain ⟨a, b, h2⟩ := ih.2 h
        exact ⟨32 :: (w ++ a), b, by rw [h2]; simp⟩
end C1

namespace C2
open Go Go.Proofs VL D1 B10 BB6 BB10 BB14 C1
structure Rs where
  aft : Int
  rate : Int
structure Ti where
  days : Int
  fee : Int
structure Prod where
  name : ByteArray
  count : Int
  rnd : Int
  kind : Int
  every : Int
  times : Int
  grace : Int
  rate : Int
  resets : List Rs
  pen : Int
  o1 : Int
  o2 : Int
  o3 : Int
  o4 : Int
  over : Int
  late : List Ti
  cap : Int
  roll : Int
  hol : List Int
def encR (r : Rs) : V := .agg [.int .i64 r.aft, .int .i64 r.rate]
def rL (l : List Rs) : List V := l.map encR
def encT (r : Ti) : V := .agg [.int .i64 r.days, .int .i64 r.fee]
def tL (l : List Ti) : List V := l.map encT
def cellsP (p : Prod) : List V := [.str p.name, .int .i64 p.count, .int .i64 p.rnd, .int .i64 p.kind, .int .i64 p.every, .int .i64 p.times, .int .i64 p.grace, .int .i64 p.rate, .sl (rL p.resets) .no, .int .i64 p.pen, .int .i64 p.o1, .int .i64 p.o2, .int .i64 p.o3, .int .i64 p.o4, .int .i64 p.over, .sl (tL p.late) .no, .int .i64 p.cap, .int .i64 p.roll, .sl (iL p.hol) .no]
def encP (p : Prod) : V := .agg (cellsP p)
structure Prod.ok (p : Prod) : Prop where
  name : p.name.size < 1000000
  count : I64 p.count
  rnd : I64 p.rnd
  kind : I64 p.kind
  every : I64 p.every
  times : I64 p.times
  grace : I64 p.grace
  rate : I64 p.rate
  pen : I64 p.pen
  o1 : I64 p.o1
  o2 : I64 p.o2
  o3 : I64 p.o3
  o4 : I64 p.o4
  over : I64 p.over
  cap : I64 p.cap
  roll : I64 p.roll
  resets : ∀ x ∈ p.resets, I64 x.aft ∧ I64 x.rate
  late : ∀ x ∈ p.late, I64 x.days ∧ I64 x.fee
  hol : ∀ x ∈ p.hol, I64 x
  lr : p.resets.length < 1000000
  ll : p.late.length < 1000000
  lh : p.hol.length < 1000000
def wordsL : List (List Int) := [
  [112, 114, 111, 100, 117, 99, 116],
  [99, 111, 117, 110, 116],
  [116, 104, 105, 114, 116, 121],
  [102, 105, 120, 101, 100],
  [97, 99, 116, 117, 97, 108],
  [114, 111, 117, 110, 100],
  [104, 97, 108, 102, 45, 117, 112],
  [100, 111, 119, 110],
  [107, 105, 110, 100],
  [97, 110, 110, 117, 105, 116, 121],
  [101, 113, 117, 97, 108],
  [98, 117, 108, 108, 101, 116],
  [101, 118, 101, 114, 121],
  [116, 105, 109, 101, 115],
  [103, 114, 97, 99, 101],
  [114, 97, 116, 101],
  [112, 101, 110, 97, 108, 116, 121],
  [114, 101, 115, 101, 116],
  [108, 97, 116, 101],
  [99, 97, 112],
  [104, 111, 108, 105, 100, 97, 121],
  [111, 114, 100, 101, 114],
  [102, 101, 101, 115],
  [105, 110, 116, 101, 114, 101, 115, 116],
  [112, 114, 105, 110, 99, 105, 112, 97, 108],
  [111, 118, 101, 114],
  [104, 111, 108, 100],
  [112, 114, 101, 112, 97, 121],
  [114, 101, 102, 117, 110, 100],
  [114, 111, 108, 108],
  [115, 116, 97, 121],
  [110, 101, 120, 116],
  [119, 105, 116, 104, 105, 110],
  [112, 114, 101, 118, 105, 111, 117, 115]]
def Small (x : Int) : Prop := 97 ≤ x ∧ x ≤ 122
def Inner (x : Int) : Prop := Small x ∨ Dig x ∨ x = 45
instance (x : Int) : Decidable (Small x) := inferInstanceAs (Decidable (_ ∧ _))
instance (x : Int) : Decidable (Inner x) := inferInstanceAs (Decidable (_ ∨ _))
def nameP (l : List Int) : Prop := (1 ≤ l.length ∧ l.length ≤ 20 ∧ (∀ x, l.head? = some x → Small x) ∧ ∀ x ∈ l, Inner x) ∧ l ∉ wordsL
def resetsP (times : Int) : Option Rs → List Rs → Prop
  | _, [] => True
  | p, r :: l => (1 ≤ r.aft ∧ r.aft ≤ times - 1) ∧ (0 ≤ r.rate ∧ r.rate ≤ 1000000000) ∧ (∀ q, p = some q → q.aft < r.aft) ∧ resetsP times (some r) l
def tiersP : Option Ti → List Ti → Prop
  | _, [] => True
  | p, r :: l => (1 ≤ r.days ∧ r.days ≤ 365) ∧ (0 ≤ r.fee ∧ r.fee ≤ 10000000000000) ∧ (∀ q, p = some q → q.days < r.days ∧ q.fee ≤ r.fee) ∧ tiersP (some r) l
def holP : Option Int → List Int → Prop
  | _, [] => True
  | p, r :: l => (-25567 ≤ r ∧ r ≤ 84370) ∧ (∀ q, p = some q → q < r) ∧ holP (some r) l
def orderP (a b c d : Int) : Prop := (1 ≤ a ∧ a ≤ 4) ∧ (1 ≤ b ∧ b ≤ 4) ∧ (1 ≤ c ∧ c ≤ 4) ∧ (1 ≤ d ∧ d ≤ 4) ∧ a ≠ b ∧ a ≠ c ∧ a ≠ d ∧ b ≠ c ∧ b ≠ d ∧ c ≠ d
def shape1 (p : Prod) : Prop := nameP (sB p.name) ∧ (1 ≤ p.count ∧ p.count ≤ 3) ∧ (p.rnd = 1 ∨ p.rnd = 3) ∧ (1 ≤ p.kind ∧ p.kind ≤ 3)
def shape2 (p : Prod) : Prop := p.every = 1 ∨ p.every = 2 ∨ p.every = 3 ∨ p.every = 4 ∨ p.every = 6 ∨ p.every = 12
def shape3 (p : Prod) : Prop := (1 ≤ p.times ∧ p.times ≤ 600) ∧ (0 ≤ p.grace ∧ p.grace ≤ p.times - 1) ∧ (p.kind ≠ 3 ∨ p.grace = 0)
def ratesP (p : Prod) : Prop := (0 ≤ p.rate ∧ p.rate ≤ 1000000000) ∧ (0 ≤ p.pen ∧ p.pen ≤ 1000000000) ∧ p.resets.length ≤ 20 ∧ resetsP p.times none p.resets
def overP (p : Prod) : Prop := orderP p.o1 p.o2 p.o3 p.o4 ∧ (1 ≤ p.over ∧ p.over ≤ 3)
def lateP (p : Prod) : Prop := p.late.length ≤ 8 ∧ (0 ≤ p.cap ∧ p.cap ≤ 10000000000000) ∧ (p.late ≠ [] ∨ p.cap = 0) ∧ tiersP none p.late
def daysP (p : Prod) : Prop := (p.hol.length ≤ 200 ∧ holP none p.hol) ∧ (1 ≤ p.roll ∧ p.roll ≤ 4) ∧ (p.roll ≠ 1 ∨ p.hol = [])
def checkP (p : Prod) : Prop := (shape1 p ∧ shape2 p ∧ shape3 p) ∧ ratesP p ∧ overP p ∧ lateP p ∧ daysP p
noncomputable instance (p : Prod) : Decidable (checkP p) := Classical.propDecidable _
noncomputable def checkC (p : Prod) : Int := if checkP p then 0 else 9
theorem words_nb : ∀ w ∈ wordsL, Nb w := by unfold Nb; decide +kernel
end C2

namespace C3
open Go Go.Proofs VL D1 B10 C2
structure Tok where
  kind : Int
  at_ : Nat
  text : List Int
def encK (t : Tok) : V := .agg [.int .i64 t.kind, .int .i64 t.at_, .str (toBA t.text)]
def kL (l : List Tok) : List V := l.map encK
def Let (c : Int) : Prop := (97 ≤ c ∧ c ≤ 122) ∨ (65 ≤ c ∧ c ≤ 90)
instance (c : Int) : Decidable (Let c) := inferInstanceAs (Decidable (_ ∨ _))
def letB (c : Int) : Bool := decide (Let c)
def digB (c : Int) : Bool := decide (Dig c)
def wordB (c : Int) : Bool := decide (Let c ∨ Dig c ∨ c = 45)
def numB (c : Int) : Bool := decide (Dig c ∨ c = 46 ∨ c = 45 ∨ c = 47 ∨ c = 37)
def goesB (k : Int) (c : Int) : Bool := if k = 1 then wordB c else if k = 2 then numB c else false
def skipN : Bool → List Int → Nat
  | _, [] => 0
  | rem, c :: r => if c = 10 then 1 + skipN false r else if c = 35 then 1 + skipN true r else if rem = false ∧ c ≠ 32 ∧ c ≠ 9 then 0 else 1 + skipN rem r
def kindS (c : Int) (r : List Int) : Option Int :=
  if Let c then some 1 else if Dig c ∨ (c = 45 ∧ ∃ d, r.head? = some d ∧ Dig d) then some 2 else if c = 123 ∨ c = 125 ∨ c = 59 then some 3 else none
instance (r : List Int) : Decidable (∃ d, r.head? = some d ∧ Dig d) := match r with
  | [] => isFalse (by simp)
  | d :: _ => if h : Dig d then isTrue ⟨d, rfl, h⟩ else isFalse (by simpa using h)
inductive Lx where
  | ok (l : List Tok)
  | bad (p : Nat)
def Lx.cons (t : Tok) : Lx → Lx
  | .ok l => .ok (t :: l)
  | .bad p => .bad p
def lexF : Nat → List Int → Nat → Lx
  | 0, _, i => .bad i
  | f + 1, l, i => match l.drop (skipN false l) with
    | [] => .ok [⟨0, i + skipN false l, []⟩]
    | c :: r => match kindS c r with
      | none => .bad (i + skipN false l)
      | some k => (lexF f (r.dropWhile (goesB k)) (i + skipN false l + 1 + (r.takeWhile (goesB k)).length)).cons ⟨k, i + skipN false l, c :: r.takeWhile (goesB k)⟩
def lexS (l : List Int) : Except (Nat × Int) (List Tok) := if 20000 < l.length then .error (0, 3) else match lexF (l.length + 1) l 0 with
  | .ok t => .ok t
  | .bad p => .error (p, 6)
theorem skipN_le : ∀ (b : Bool) (l : List Int), skipN b l ≤ l.length
  | b, [] => by simp [skipN]
  | b, c :: r => by
    have h1 := skipN_le false r
    have h2 := skipN_le true r
    have h3 := skipN_le b r
    unfold skipN
    repeat' split
    all_goals simp
    all_goals omega
theorem takeW_le (p : Int → Bool) (l : List Int) : (l.takeWhile p).length ≤ l.length := by
  have := List.takeWhile_append_dropWhile (p := p) (l := l)
  have h2 := congrArg List.length this
  rw [List.length_append] at h2; omega
theorem dropW_eq (p : Int → Bool) : ∀ (l : List Int), l.dropWhile p = l.drop (l.takeWhile p).length
  | [] => rfl
  | x :: r => by
    cases h : p x
    · simp [List.takeWhile_cons, List.dropWhile_cons, h]
    · simp [List.takeWhile_cons, List.dropWhile_cons, h, dropW_eq p r]
theorem letB_iff (c : Int) : letB c = true ↔ (97 ≤ c ∧ c ≤ 122) ∨ (65 ≤ c ∧ c ≤ 90) := by unfold letB; rw [decide_eq_true_iff]; rfl
theorem digB_iff (c : Int) : digB c = true ↔ 48 ≤ c ∧ c ≤ 57 := by unfold digB; rw [decide_eq_true_iff]; rfl
theorem digB_no (c : Int) : digB c = false ↔ ¬ (48 ≤ c ∧ c ≤ 57) := by rw [← digB_iff]; simp
theorem letB_no (c : Int) : letB c = false ↔ ¬ ((97 ≤ c ∧ c ≤ 122) ∨ (65 ≤ c ∧ c ≤ 90)) := by rw [← letB_iff]; simp
theorem kind1 {c : Int} (r : List Int) (h : (97 ≤ c ∧ c ≤ 122) ∨ (65 ≤ c ∧ c ≤ 90)) : kindS c r = some 1 := by unfold kindS; rw [if_pos (show Let c from h)]
theorem kind2 {c : Int} (r : List Int) (h : ¬ ((97 ≤ c ∧ c ≤ 122) ∨ (65 ≤ c ∧ c ≤ 90))) (h2 : (48 ≤ c ∧ c ≤ 57) ∨ (c = 45 ∧ ∃ d, r.head? = some d ∧ Dig d)) : kindS c r = some 2 := by
  unfold kindS; rw [if_neg (show ¬ Let c from h)]; split
  · rfl
  · rename_i hn; exact absurd h2 hn
theorem kind3 {c : Int} (r : List Int) (h : c = 123 ∨ c = 125 ∨ c = 59) : kindS c r = some 3 := by
  unfold kindS
  rw [if_neg (by unfold Let; omega), if_neg (by unfold Dig; omega), if_pos h]
theorem kind0 {c : Int} (r : List Int) (h : ¬ ((97 ≤ c ∧ c ≤ 122) ∨ (65 ≤ c ∧ c ≤ 90))) (h2 : ¬ ((48 ≤ c ∧ c ≤ 57) ∨ (c = 45 ∧ ∃ d, r.head? = some d ∧ Dig d))) (h3 : ¬ (c = 123 ∨ c = 125 ∨ c = 59)) : kindS c r = none := by
  unfold kindS; rw [if_neg (show ¬ Let c from h)]; split
  · rename_i hn; exact absurd hn h2
  · first | rfl | exact if_neg h3
theorem wordB_iff (c : Int) : wordB c = true ↔ letB c = true ∨ digB c = true ∨ c = 45 := by unfold wordB letB digB; simp
theorem numB_iff (c : Int) : numB c = true ↔ digB c = true ∨ c = 46 ∨ c = 45 ∨ c = 47 ∨ c = 37 := by unfold numB digB; simp
end C3

namespace C5
open Go Go.Proofs VL D1 B10 C2 C3
set_option maxRecDepth 100000
theorem c_letter (c : Int) (K) (h : K (.ret (.bool (letB c))) []) : VCall Tryz.prog 73 [.int .u8 c] [] K := by
  have hfin : ∀ b, letB c = b → K (.ret (.bool b)) [] := fun b e => by rw [e] at h; exact h
  clear h
  refine call_fun [] 0 Tryz.func73 (by rfl) (by rfl) ?_
  conv => whnf
  (repeat' first | (refine step_go [] ?_; conv => whnf) | (refine two (fun g => ?_) (fun g => ?_) <;> (try simp only [bsx] at g) <;> (conv => whnf)) | (refine And.intro rfl ?_; conv => whnf) | fail)
  all_goals (refine hfin _ ?_; rw [Bool.eq_iff_iff, letB_iff]; simp; omega)
theorem c_ldigit (c : Int) (K) (h : K (.ret (.bool (digB c))) []) : VCall Tryz.prog 76 [.int .u8 c] [] K := by
  have hfin : ∀ b, digB c = b → K (.ret (.bool b)) [] := fun b e => by rw [e] at h; exact h
  clear h
  refine call_fun [] 0 Tryz.func76 (by rfl) (by rfl) ?_
  conv => whnf
  (repeat' first | (refine step_go [] ?_; conv => whnf) | (refine two (fun g => ?_) (fun g => ?_) <;> (try simp only [bsx] at g) <;> (conv => whnf)) | (refine And.intro rfl ?_; conv => whnf) | fail)
  all_goals (refine hfin _ ?_; rw [Bool.eq_iff_iff, digB_iff]; simp; omega)
theorem c_inWord (c : Int) (K) (h : K (.ret (.bool (wordB c))) []) : VCall Tryz.prog 75 [.int .u8 c] [] K := by
  have hfin : ∀ b, wordB c = b → K (.ret (.bool b)) [] := fun b e => by rw [e] at h; exact h
  clear h
  refine call_fun [] 0 Tryz.func75 (by rfl) (by rfl) ?_
  conv => whnf
  (repeat' first | (refine step_go [] ?_; conv => whnf) | (refine two (fun g => ?_) (fun g => ?_) <;> (try simp only [bsx] at g) <;> (conv => whnf)) | (refine And.intro rfl ?_; conv => whnf) | (refine c_letter _ _ ?_; conv => whnf) | (refine c_ldigit _ _ ?_; conv => whnf) | fail)
  all_goals (refine hfin _ ?_; rw [Bool.eq_iff_iff, wordB_iff]; simp_all)
theorem c_inNumber (c : Int) (K) (h : K (.ret (.bool (numB c))) []) : VCall Tryz.prog 77 [.int .u8 c] [] K := by
  have hfin : ∀ b, numB c = b → K (.ret (.bool b)) [] := fun b e => by rw [e] at h; exact h
  clear h
  refine call_fun [] 0 Tryz.func77 (by rfl) (by rfl) ?_
  conv => whnf
  (repeat' first | (refine step_go [] ?_; conv => whnf) | (refine two (fun g => ?_) (fun g => ?_) <;> (try simp only [bsx] at g) <;> (conv => whnf)) | (refine And.intro rfl ?_; conv => whnf) | (refine c_ldigit _ _ ?_; conv => whnf) | fail)
  all_goals (refine hfin _ ?_; rw [Bool.eq_iff_iff, numB_iff]; simp_all)
theorem c_never (c : Int) (K) (h : K (.ret (.bool false)) []) : VCall Tryz.prog 78 [.int .u8 c] [] K := by
  refine call_fun [] 0 Tryz.func78 (by rfl) (by rfl) ?_
  conv => whnf
  (repeat' first | (refine step_go [] ?_; conv => whnf) | (refine two (fun g => ?_) (fun g => ?_) <;> (try simp only [bsx] at g) <;> (conv => whnf)) | (refine And.intro rfl ?_; conv => whnf) | fail)
  exact h
def lO (s : ByteArray) (i : Nat) : List VObj := [.cells true 83 [.str s, .int .i64 i]]
theorem drop_at {s : ByteArray} {i : Nat} (h : i < s.size) : ∃ c, (sB s)[i]? = some c ∧ (sB s).drop i = c :: (sB s).drop (i + 1) := by
  have hl : i < (sB s).length := by rw [sB_len]; exact h
  exact ⟨_, List.getElem?_eq_getElem hl, List.drop_eq_getElem_cons hl⟩
set_option maxHeartbeats 1000000 in
theorem c_pass (s : ByteArray) (hs : s.size < 1000000) (i : Nat) (hi : i ≤ s.size) (K) (h : K (.ret (.tup [])) (lO s (i + skipN false ((sB s).drop i)))) : VCall Tryz.prog 72 [.ptr 0 0] (lO s i) K := by
  have hsl := sB_len s
  unfold lO
  refine call_fun [] 1 Tryz.func72 (by rfl) (by rfl) ?_
  (conv => whnf); (repeat (refine step_go [] ?_; conv => whnf))
  let S : Nat × Bool → St := fun x => ⟨(.ptr 0 0 :: .undef :: .bool x.2 :: .undef :: .undef :: .undef :: .undef :: .undef :: .undef :: .undef :: .undef :: .undef :: .undef :: .undef :: .undef :: .undef :: .undef :: .undef :: .undef :: .undef :: .undef :: .undef :: .undef :: .undef :: .undef :: .undef :: .undef :: .undef :: .undef :: .undef :: .undef :: .undef :: .undef :: .undef :: .undef :: .undef :: .undef :: .undef :: .undef :: .undef :: .undef :: .undef :: .undef :: .undef :: .undef :: .undef :: .undef :: []), lO s x.1, 0, []⟩
  refine VLoop.enter (s' := S (i, false)) (weak_of ?_ (.cons (.eq rfl) .nil) rfl rfl rfl)
    (VLoop.indW S (fun x => s.size - x.1) (fun x => x.1 ≤ s.size ∧ x.1 + skipN x.2 ((sB s).drop x.1) = i + skipN false ((sB s).drop i)) ?_ (i, false) ⟨hi, rfl⟩)
  · (repeat' first | exact VWs.nil | refine VWs.cons VW.undef ?_ | refine VWs.cons (VW.eq rfl) ?_)
  rintro ⟨j, rem⟩ ⟨hj, hinv⟩ ih
  simp only at hj hinv
  refine loop_round [] ?_
  conv => whnf
  (repeat' first | (refine step_go [] ?_; conv => whnf) | (refine two (fun g => ?_) (fun g => ?_) <;> (try simp only [bsx] at g) <;> (conv => whnf)) | (refine And.intro rfl ?_; conv => whnf) | (refine dr_go (by decide +kernel) ?_; conv => whnf) | fail)
  · have hjl : j < s.size := by omega
    obtain ⟨c, hc, hd⟩ := drop_at hjl
    rw [hd] at hinv
    refine idx_str (x := c) (by omega) (by simpa using hc) fun b hb => ?_
    conv => whnf
    (repeat (refine step_go [] ?_; conv => whnf))
    rw [hb]
    have wj : IntKind.i64.wrap ((j : Int) + 1) = ((j + 1 : Nat) : Int) := by rw [wrap64 (by omega) (by omega)]; omega
    (repeat' first | (refine step_go [] ?_; conv => whnf) | (refine two (fun g => ?_) (fun g => ?_) <;> (try simp only [bsx] at g) <;> (conv => whnf)) | (refine And.intro rfl ?_; conv => whnf) | fail)
    all_goals first
      | (refine ⟨_, Weak.refl, ?_⟩; (conv => whnf); (repeat (refine step_go [] ?_; conv => whnf))
         refine Eq.mp (congrArg (fun n : Nat => K (.ret (.tup [])) (lO s n)) ?_) h
         rw [← hinv]; simp_all [skipN]; done)
      | (refine ⟨S (j + 1, false), weak_of ?_ (.cons (.eq (by simp only; rw [wj])) .nil) rfl rfl rfl, ih (j + 1, false) ⟨by simp only; omega, ?_⟩ (by simp only; omega)⟩
         · (repeat' first | exact VWs.nil | refine VWs.cons VW.undef ?_ | refine VWs.cons (VW.eq rfl) ?_)
         · rw [← hinv]; simp only; simp_all [skipN]; omega)
      | (refine ⟨S (j + 1, true), weak_of ?_ (.cons (.eq (by simp only; rw [wj])) .nil) rfl rfl rfl, ih (j + 1, true) ⟨by simp only; omega, ?_⟩ (by simp only; omega)⟩
         · (repeat' first | exact VWs.nil | refine VWs.cons VW.undef ?_ | refine VWs.cons (VW.eq rfl) ?_)
         · rw [← hinv]; simp only; simp_all [skipN]; omega)
      | (refine ⟨S (j + 1, rem), weak_of ?_ (.cons (.eq (by simp only; rw [wj])) .nil) rfl rfl rfl, ih (j + 1, rem) ⟨by simp only; omega, ?_⟩ (by simp only; omega)⟩
         · (repeat' first | exact VWs.nil | refine VWs.cons VW.undef ?_ | refine VWs.cons (VW.eq rfl) ?_)
         · rw [← hinv]; simp only; simp_all [skipN]; omega)
  · have hjl : j = s.size := by omega
    subst hjl
    rw [List.drop_eq_nil_of_le (by omega)] at hinv
    refine ⟨_, Weak.refl, ?_⟩; (conv => whnf); (repeat (refine step_go [] ?_; conv => whnf))
    refine Eq.mp (congrArg (fun n : Nat => K (.ret (.tup [])) (lO s n)) ?_) h
    rw [← hinv]; simp [skipN]
set_option maxHeartbeats 1000000 in
theorem c_run (s : ByteArray) (hs : s.size < 1000000) (i : Nat) (hi : i < s.size) (k : Int) (f : FuncId) (go : Int → Bool) (hf : ∀ (c : Int) (K : Out → List VObj → Prop), K (.ret (.bool (go c))) [] → VCall Tryz.prog f [.int .u8 c] [] K) (K)
    (h : K (.ret (.agg [.int .i64 k, .int .i64 i, .str (toBA (((sB s).drop i).take (1 + (((sB s).drop (i + 1)).takeWhile go).length)))])) (lO s (i + 1 + (((sB s).drop (i + 1)).takeWhile go).length))) :
    VCall Tryz.prog 74 [.ptr 0 0, .int .i64 k, .fn (.func f) [] []] (lO s i) K := by
  have hsl := sB_len s
  unfold lO
  refine call_fun [] 1 Tryz.func74 (by rfl) (by rfl) ?_
  (conv => whnf); (repeat (refine step_go [] ?_; conv => whnf))
  have wi : IntKind.i64.wrap ((i : Int) + 1) = ((i + 1 : Nat) : Int) := by rw [wrap64 (by omega) (by omega)]; omega
  let S : Nat → St := fun x => ⟨(.ptr 0 0 :: .int .i64 k :: .fn (.func f) [] [] :: .undef :: .undef :: .undef :: .ptr 1 0 :: .int .i64 i :: .undef :: .undef :: .undef :: .undef :: .undef :: .undef :: .undef :: .undef :: .undef :: .undef :: .undef :: .undef :: .undef :: .undef :: .undef :: .undef :: .undef :: .undef :: .undef :: .undef :: .undef :: .undef :: .undef :: .undef :: .undef :: .undef :: .undef :: .undef :: .undef :: .undef :: .undef :: .undef :: .undef :: .undef :: .undef :: .undef :: .undef :: .undef :: .undef :: .undef :: .undef :: .undef :: .undef :: .undef :: .undef :: .undef :: .undef :: .undef :: .undef :: .undef :: .undef :: .undef :: .undef :: .undef :: []), lO s x ++ [.cells true 57 [.int .i64 0, .int .i64 0, .str ⟨#[]⟩]], 0, []⟩
  refine VLoop.enter (s' := S (i + 1)) (weak_of ?_ (.cons (.eq (by rw [wi])) (.cons (.eq rfl) .nil)) rfl rfl rfl)
    (VLoop.indW S (fun x => s.size - x) (fun x => i + 1 ≤ x ∧ x ≤ s.size ∧ x + (((sB s).drop x).takeWhile go).length = i + 1 + (((sB s).drop (i + 1)).takeWhile go).length) ?_ (i + 1) ⟨by omega, by omega, rfl⟩)
  · (repeat' first | exact VWs.nil | refine VWs.cons VW.undef ?_ | refine VWs.cons (VW.eq rfl) ?_)
  rintro j ⟨hij, hj, hinv⟩ ih
  refine loop_round [] ?_
  conv => whnf
  have fin : ((sB s).drop j).takeWhile go = [] → K (.ret (.agg [.int .i64 k, .int .i64 i, .str (s.extract i j)])) (lO s j) := fun h0 => by
    rw [h0] at hinv
    simp only [List.length_nil, Nat.add_zero] at hinv
    rw [← hinv] at h
    refine Eq.mp (congrArg (fun x => K (.ret (.agg [.int .i64 k, .int .i64 i, .str x])) (lO s j)) ?_) h
    rw [← toBA_sB (s.extract i j), sB_ext, List.drop_take]
    congr 2; omega
  (repeat' first | (refine step_go [] ?_; conv => whnf) | (refine two (fun g => ?_) (fun g => ?_) <;> (try simp only [bsx] at g) <;> (conv => whnf)) | (refine And.intro rfl ?_; conv => whnf) | (refine dr_go (by decide +kernel) ?_; conv => whnf) | fail)
  · have hjl : j < s.size := by omega
    obtain ⟨c, hc, hd⟩ := drop_at hjl
    refine idx_str (x := c) (by omega) (by simpa using hc) fun b hb => ?_
    conv => whnf
    (repeat (refine step_go [] ?_; conv => whnf))
    rw [hb]
    refine hf c _ ?_
    conv => whnf
    (repeat' first | (refine step_go [] ?_; conv => whnf) | (refine two (fun g => ?_) (fun g => ?_) <;> (try simp only [bsx] at g) <;> (conv => whnf)) | (refine And.intro rfl ?_; conv => whnf) | fail)
    · refine ⟨S (j + 1), weak_of ?_ (.cons (.eq (by rw [show IntKind.i64.wrap ((j : Int) + 1) = ((j + 1 : Nat) : Int) by rw [wrap64 (by omega) (by omega)]; omega])) (.cons (.eq rfl) .nil)) rfl rfl rfl, ih (j + 1) ⟨by omega, by omega, ?_⟩ (by omega)⟩
      · (repeat' first | exact VWs.nil | refine VWs.cons VW.undef ?_ | refine VWs.cons (VW.eq rfl) ?_)
      · rw [← hinv, hd, List.takeWhile_cons_of_pos g]; simp; omega
    · have h0 : ((sB s).drop j).takeWhile go = [] := by rw [hd, List.takeWhile_cons_of_neg (by simp [g])]
      refine ⟨_, Weak.refl, ?_⟩
      conv => whnf
      (repeat' first | (refine step_go [] ?_; conv => whnf) | (refine two (fun g => ?_) (fun g => ?_) <;> (try simp only [bsx] at g) <;> (conv => whnf)) | (refine And.intro rfl ?_; conv => whnf) | (refine dr_go (by decide +kernel) ?_; conv => whnf) | fail)
      refine ⟨by omega, by omega, by omega, ?_⟩
      conv => whnf
      (repeat' first | (refine step_go [] ?_; conv => whnf) | (refine two (fun g => ?_) (fun g => ?_) <;> (try simp only [bsx] at g) <;> (conv => whnf)) | (refine And.intro rfl ?_; conv => whnf) | (refine dr_go (by decide +kernel) ?_; conv => whnf) | fail)
      exact fin h0
  · have h0 : ((sB s).drop j).takeWhile go = [] := by rw [List.drop_eq_nil_of_le (by omega)]; rfl
    refine ⟨_, Weak.refl, ?_⟩
    conv => whnf
    (repeat' first | (refine step_go [] ?_; conv => whnf) | (refine two (fun g => ?_) (fun g => ?_) <;> (try simp only [bsx] at g) <;> (conv => whnf)) | (refine And.intro rfl ?_; conv => whnf) | (refine dr_go (by decide +kernel) ?_; conv => whnf) | fail)
    refine ⟨by omega, by omega, by omega, ?_⟩
    conv => whnf
    (repeat' first | (refine step_go [] ?_; conv => whnf) | (refine two (fun g => ?_) (fun g => ?_) <;> (try simp only [bsx] at g) <;> (conv => whnf)) | (refine And.intro rfl ?_; conv => whnf) | (refine dr_go (by decide +kernel) ?_; conv => whnf) | fail)
    exact fin h0
end C5

namespace C6
open Go Go.Proofs VL D1 B10 BB6 BB10 BB14 C1 C2
set_option maxRecDepth 100000
def pvO {α : Type} (L : List α) (i : Nat) : Option α := if i = 0 then none else L[i - 1]?
theorem pvO_succ {α : Type} {L : List α} {i : Nat} (hi : i < L.length) : pvO L (i + 1) = some L[i] := by
  unfold pvO; rw [if_neg (by omega), Nat.add_sub_cancel, List.getElem?_eq_getElem hi]
theorem prev_ex {α : Type} (enc : α → V) (L : List α) (i : Nat) (hi : i < L.length) (hl : L.length < 1000000) :
    ∃ q, (0 < i → (L.map enc)[(IntKind.i64.wrap ((i : Int) - 1)).toNat]? = some (enc q)) ∧ ∀ x, pvO L i = some x ↔ 0 < i ∧ x = q := by
  by_cases h0 : 0 < i
  · refine ⟨L[i - 1], fun _ => ?_, fun x => ?_⟩
    · rw [wrap64 (by omega) (by omega), show ((i : Int) - 1).toNat = i - 1 by omega, List.getElem?_map, List.getElem?_eq_getElem (by omega)]; rfl
    · unfold pvO; rw [if_neg (by omega), List.getElem?_eq_getElem (by omega)]
      constructor
      · intro h; exact ⟨h0, (Option.some.inj h).symm⟩
      · rintro ⟨_, rfl⟩; rfl
  · refine ⟨L[i], fun h => absurd h h0, fun x => ?_⟩
    unfold pvO; rw [if_pos (by omega)]; simp; omega
theorem c_must (b : Bool) (K : Out → List VObj → Prop) (h : @Bool.rec (fun _ => Prop) (K (.pan (.ifc 88 (.agg []))) []) (K (.ret (.tup [])) []) b) : VCall Tryz.prog 82 [.bool b] [] K := by
  refine call_fun [] 0 Tryz.func82 (by rfl) (by rfl) ?_
  conv => whnf
  cases b
  · (repeat' first | (refine step_go [] ?_; conv => whnf) | (refine two (fun g => ?_) (fun g => ?_) <;> (try simp only [bsx] at g) <;> (conv => whnf)) | (refine And.intro rfl ?_; conv => whnf) | fail)
    exact h
  · (repeat' first | (refine step_go [] ?_; conv => whnf) | (refine two (fun g => ?_) (fun g => ?_) <;> (try simp only [bsx] at g) <;> (conv => whnf)) | (refine And.intro rfl ?_; conv => whnf) | fail)
    exact h
theorem c_within (v a b : Int) (K) (h : K (.ret (.bool (decide (a ≤ v ∧ v ≤ b)))) []) : VCall Tryz.prog 83 [.int .i64 v, .int .i64 a, .int .i64 b] [] K := by
  have hfin : ∀ x, decide (a ≤ v ∧ v ≤ b) = x → K (.ret (.bool x)) [] := fun x e => by rw [e] at h; exact h
  clear h
  refine call_fun [] 0 Tryz.func83 (by rfl) (by rfl) ?_
  conv => whnf
  (repeat' first | (refine step_go [] ?_; conv => whnf) | (refine two (fun g => ?_) (fun g => ?_) <;> (try simp only [bsx] at g) <;> (conv => whnf)) | (refine And.intro rfl ?_; conv => whnf) | fail)
  all_goals (refine hfin _ ?_; simp; omega)
theorem c_within64 (v a b : Int) (K) (h : K (.ret (.bool (decide (a ≤ v ∧ v ≤ b)))) []) : VCall Tryz.prog 84 [.int .i64 v, .int .i64 a, .int .i64 b] [] K := by
  have hfin : ∀ x, decide (a ≤ v ∧ v ≤ b) = x → K (.ret (.bool x)) [] := fun x e => by rw [e] at h; exact h
  clear h
  refine call_fun [] 0 Tryz.func84 (by rfl) (by rfl) ?_
  conv => whnf
  (repeat' first | (refine step_go [] ?_; conv => whnf) | (refine two (fun g => ?_) (fun g => ?_) <;> (try simp only [bsx] at g) <;> (conv => whnf)) | (refine And.intro rfl ?_; conv => whnf) | fail)
  all_goals (refine hfin _ ?_; simp; omega)
theorem c_there (v : Int) (K) (h : K (.ret (.bool (decide (-25567 ≤ v ∧ v ≤ 84370)))) []) : VCall Tryz.prog 113 [.int .i64 v] [] K := by
  have hfin : ∀ x, decide (-25567 ≤ v ∧ v ≤ 84370) = x → K (.ret (.bool x)) [] := fun x e => by rw [e] at h; exact h
  clear h
  refine call_fun [] 0 Tryz.func113 (by rfl) (by rfl) ?_
  conv => whnf
  (repeat' first | (refine step_go [] ?_; conv => whnf) | (refine two (fun g => ?_) (fun g => ?_) <;> (try simp only [bsx] at g) <;> (conv => whnf)) | (refine And.intro rfl ?_; conv => whnf) | fail)
  all_goals (refine hfin _ ?_; simp; omega)
noncomputable def nameB (l : List Int) : Bool := open Classical in decide (nameP l)
theorem nameB_iff (l : List Int) : nameB l = true ↔ nameP l := by unfold nameB; simp
theorem nameB_no (l : List Int) : nameB l = false ↔ ¬ nameP l := by unfold nameB; simp
set_option maxHeartbeats 2000000 in
theorem c_shape (p : Prod) (hp : p.ok) (hname : ∀ K : Out → List VObj → Prop, K (.ret (.bool (nameB (sB p.name)))) [] → VCall Tryz.prog 42 [.str p.name] [] K) (K : Out → List VObj → Prop) (h0 : shape1 p ∧ shape2 p ∧ shape3 p → K (.ret (.tup [])) [])
    (h1 : ¬ (shape1 p ∧ shape2 p ∧ shape3 p) → K (.pan (.ifc 88 (.agg []))) []) : VCall Tryz.prog 46 [encP p] [] K := by
  have ht := hp.times
  unfold I64 at ht
  unfold encP cellsP
  refine call_fun [] 0 Tryz.func46 (by rfl) (by rfl) ?_
  conv => whnf
  (repeat' first | (refine step_go [] ?_; conv => whnf) | (refine two (fun g => ?_) (fun g => ?_) <;> (try simp only [bsx, nameB_iff, nameB_no] at g) <;> (conv => whnf)) | (refine And.intro rfl ?_; conv => whnf) | (refine hname _ ?_; conv => whnf) | (refine c_within _ _ _ _ ?_; conv => whnf) | (refine c_must _ _ ?_; conv => whnf) | fail)
  all_goals first
    | (refine h0 ⟨⟨by assumption, by omega, by omega, by omega⟩, ?_, by omega, ?_, by omega⟩
       · unfold shape2; omega
       · rw [wrap64 (x := p.times - 1) (by omega) (by omega)] at *; omega)
    | (refine h1 fun hh => ?_
       obtain ⟨⟨a1, a2, a3, a4⟩, a5, a6, a7, a8⟩ := hh
       unfold shape2 at a5
       first
         | contradiction
         | omega
         | (rw [wrap64 (x := p.times - 1) (by omega) (by omega)] at *; omega))
set_option maxHeartbeats 2000000 in
theorem c_lrates (p : Prod) (hp : p.ok) (hs : 1 ≤ p.times ∧ p.times ≤ 600) (K : Out → List VObj → Prop) (h0 : ratesP p → K (.ret (.tup [])) []) (h1 : ¬ ratesP p → K (.pan (.ifc 88 (.agg []))) []) : VCall Tryz.prog 47 [encP p] [] K := by
  have ht := hp.times
  have hlen := hp.lr
  unfold I64 at ht
  unfold encP cellsP
  obtain ⟨T, hT⟩ : ∃ T, tL p.late = T := ⟨_, rfl⟩
  obtain ⟨H, hH⟩ : ∃ H, iL p.hol = H := ⟨_, rfl⟩
  have hrl : (rL p.resets).length = p.resets.length := by simp [rL]
  rw [hT, hH]
  refine call_fun [] 0 Tryz.func47 (by rfl) (by rfl) ?_
  conv => whnf
  (repeat' first | (refine step_go [] ?_; conv => whnf) | (refine two (fun g => ?_) (fun g => ?_) <;> (try simp only [bsx, hrl] at g) <;> (conv => whnf)) | (refine And.intro rfl ?_; conv => whnf) | (refine c_within64 _ _ _ _ ?_; conv => whnf) | (refine c_must _ _ ?_; conv => whnf) | fail)
  rotate_left
  · exact h1 fun hh => by unfold ratesP at hh; omega
  · exact h1 fun hh => by unfold ratesP at hh; omega
  · exact h1 fun hh => by unfold ratesP at hh; omega
  have hfin : (resetsP p.times none p.resets → K (.ret (.tup [])) []) ∧ (¬ resetsP p.times none p.resets → K (.pan (.ifc 88 (.agg []))) []) :=
    ⟨fun hh => h0 ⟨by omega, by omega, by omega, hh⟩, fun hh => h1 fun h => hh h.2.2.2⟩
  clear h0 h1
  obtain ⟨h0, h1⟩ := hfin
  let CC : List V := [.str p.name, .int .i64 p.count, .int .i64 p.rnd, .int .i64 p.kind, .int .i64 p.every, .int .i64 p.times, .int .i64 p.grace, .int .i64 p.rate, .sl (rL p.resets) .no, .int .i64 p.pen, .int .i64 p.o1, .int .i64 p.o2, .int .i64 p.o3, .int .i64 p.o4, .int .i64 p.over, .sl T .no, .int .i64 p.cap, .int .i64 p.roll, .sl H .no]
  let S : Nat → St := fun i => ⟨(.undef :: .ptr 0 0 :: .ptr 1 0 :: .undef :: .undef :: .undef :: .undef :: .undef :: .undef :: .undef :: .undef :: .undef :: .undef :: .undef :: .undef :: .undef :: .undef :: .undef :: .undef :: .undef :: .undef :: .undef :: .undef :: .sl (rL p.resets) .no :: .int .i64 (p.resets.length : Nat) :: .int .i64 (i : Nat) :: .undef :: .undef :: .undef :: .undef :: .undef :: .undef :: .undef :: .undef :: .undef :: .undef :: .undef :: .undef :: .undef :: .undef :: .undef :: .undef :: .undef :: .undef :: .undef :: .undef :: .undef :: .undef :: .undef :: .undef :: .undef :: .undef :: .undef :: .undef :: .undef :: .undef :: .undef :: .undef :: .undef :: []), [.cells true 90 CC, .cells true 28 CC], 0, []⟩
  refine VLoop.enter (s' := S 0) (weak_of ?_ (.cons (.eq rfl) (.cons (.eq rfl) .nil)) rfl rfl rfl)
    (VLoop.indW S (fun i => p.resets.length - i) (fun i => i ≤ p.resets.length ∧ (resetsP p.times none p.resets ↔ resetsP p.times (pvO p.resets i) (p.resets.drop i))) ?_ 0 ⟨by omega, Iff.rfl⟩)
  · repeat' first
      | exact VWs.nil
      | refine VWs.cons VW.undef ?_
      | refine VWs.cons (VW.eq rfl) ?_
      | refine VWs.cons (VW.eq (by rw [hrl])) ?_
  rintro i ⟨hi, hinv⟩ ih
  refine loop_round [] ?_; conv => whnf
  (repeat' first | (refine step_go [] ?_; conv => whnf) | (refine two (fun g => ?_) (fun g => ?_) <;> (try simp only [bsx] at g) <;> (conv => whnf)) | (refine And.intro rfl ?_; conv => whnf) | fail)
  · have hil : i < p.resets.length := by omega
    have hget : (rL p.resets)[((i : Nat) : Int).toNat]? = some (encR p.resets[i]) := by rw [Int.toNat_natCast]; simp [rL, List.getElem?_eq_getElem hil]
    have hdrop : p.resets.drop i = p.resets[i] :: p.resets.drop (i + 1) := List.drop_eq_getElem_cons hil
    obtain ⟨q, hq1, hq2⟩ := prev_ex encR p.resets i hil (by omega)
    have hpv := pvO_succ hil
    obtain ⟨d, hd⟩ : ∃ d, p.resets[i] = d := ⟨_, rfl⟩
    rw [hd] at hget hdrop hpv
    have hI := hp.resets d (by rw [← hd]; exact List.getElem_mem _)
    unfold I64 at hI
    rw [hdrop] at hinv
    conv at hinv => rhs; unfold resetsP
    rw [← hpv] at hinv
    refine ⟨by omega, _, hget, rfl, ?_⟩
    have wt : IntKind.i64.wrap (p.times - 1) = p.times - 1 := wrap64 (by omega) (by omega)
    have wi : IntKind.i64.wrap ((i : Int) + 1) = ((i + 1 : Nat) : Int) := by rw [wrap64 (by omega) (by omega)]; omega
    have hpan : ¬ ((1 ≤ d.aft ∧ d.aft ≤ p.times - 1) ∧ (0 ≤ d.rate ∧ d.rate ≤ 1000000000) ∧ (0 < i → q.aft < d.aft)) → K (.pan (.ifc 88 (.agg []))) [] := fun hh => h1 fun h => hh (by
      obtain ⟨a, b, c, _⟩ := hinv.1 h
      exact ⟨a, b, fun h0 => c q ((hq2 q).2 ⟨h0, rfl⟩)⟩)
    have hnext : (1 ≤ d.aft ∧ d.aft ≤ p.times - 1) ∧ (0 ≤ d.rate ∧ d.rate ≤ 1000000000) ∧ (0 < i → q.aft < d.aft) → VLoop _ _ _ (S (i + 1)) _ := fun hh => ih (i + 1) ⟨by omega, hinv.trans ⟨fun h => h.2.2.2, fun h => ⟨hh.1, hh.2.1, fun x hx => by obtain ⟨h0, rfl⟩ := (hq2 x).1 hx; exact hh.2.2 h0, h⟩⟩⟩ (by omega)
    conv => whnf
    (repeat' first | (refine step_go [] ?_; conv => whnf) | (refine two (fun g => ?_) (fun g => ?_) <;> (try simp only [bsx, wt] at g) <;> (conv => whnf)) | (refine And.intro rfl ?_; conv => whnf) | (refine dr_go (by decide +kernel) ?_; conv => whnf) | (refine c_within _ _ _ _ ?_; conv => whnf) | (refine c_within64 _ _ _ _ ?_; conv => whnf) | (refine c_must _ _ ?_; conv => whnf) | (refine ⟨by rw [wrap64 (by omega) (by omega)]; omega, _, hq1 (by omega), rfl, ?_⟩; conv => whnf) | fail)
    all_goals first
      | (refine hpan fun hh => ?_; omega)
      | (refine weak_sel (src := [0, 1]) ?_; conv => whnf
         refine VLoop.enter (s' := S (i + 1)) (weak_of (by rw [wi]; (repeat' first | exact VWs.nil | refine VWs.cons VW.undef ?_ | refine VWs.cons (VW.eq rfl) ?_)) (.cons (.eq rfl) (.cons (.eq rfl) .nil)) rfl rfl rfl) (hnext (by omega)))
  · have hil : i = p.resets.length := by omega
    subst hil
    rw [List.drop_length] at hinv
    refine ⟨_, Weak.refl, ?_⟩
    conv => whnf
    (repeat' first | (refine step_go [] ?_; conv => whnf) | (refine two (fun g => ?_) (fun g => ?_) <;> (try simp only [bsx] at g) <;> (conv => whnf)) | (refine And.intro rfl ?_; conv => whnf) | fail)
    exact h0 (hinv.2 trivial)
end C6

namespace C7
open Go Go.Proofs VL D1 B10 C2 C3 C5
set_option maxRecDepth 100000
def fltL (p e : Int) : V := .ifc 80 (.agg [.int .i64 p, .int .i64 e])
theorem goes1 : goesB 1 = wordB := by funext c; simp [goesB]
theorem goes2 : goesB 2 = numB := by funext c; simp [goesB]
theorem goes3 : goesB 3 = fun _ => false := by funext c; simp [goesB]
theorem run_txt {l : List Int} {j : Nat} {c : Int} {r : List Int} (h : l.drop j = c :: r) (g : Int → Bool) : (l.drop j).take (1 + ((l.drop (j + 1)).takeWhile g).length) = c :: r.takeWhile g := by
  have h1 : l.drop (j + 1) = r := by rw [← List.drop_drop, h]; rfl
  rw [h, h1, Nat.add_comm, List.take_succ_cons]
  congr 1
  have : ∀ (l : List Int), l.take (l.takeWhile g).length = l.takeWhile g := fun l => by
    induction l with
    | nil => rfl
    | cons x l ih =>
      cases hx : g x
      · rw [List.takeWhile_cons_of_neg (by simp [hx])]; rfl
      · rw [List.takeWhile_cons_of_pos hx, List.length_cons, List.take_succ_cons, ih]
  exact this r
set_option maxHeartbeats 2000000 in
theorem c_lnext (s : ByteArray) (hs : s.size < 1000000) (i : Nat) (hi : i ≤ s.size) (K)
    (h0 : (sB s).drop (i + skipN false ((sB s).drop i)) = [] → K (.ret (encK ⟨0, i + skipN false ((sB s).drop i), []⟩)) (lO s (i + skipN false ((sB s).drop i))))
    (h1 : ∀ c r k, (sB s).drop (i + skipN false ((sB s).drop i)) = c :: r → kindS c r = some k → K (.ret (encK ⟨k, i + skipN false ((sB s).drop i), c :: r.takeWhile (goesB k)⟩)) (lO s (i + skipN false ((sB s).drop i) + 1 + (r.takeWhile (goesB k)).length)))
    (h2 : ∀ c r, (sB s).drop (i + skipN false ((sB s).drop i)) = c :: r → kindS c r = none → K (.pan (fltL (i + skipN false ((sB s).drop i) : Nat) 6)) (lO s (i + skipN false ((sB s).drop i)))) :
    VCall Tryz.prog 40 [.ptr 0 0] (lO s i) K := by
  have hsl := sB_len s
  have hsk := skipN_le false ((sB s).drop i)
  rw [List.length_drop] at hsk
  refine call_fun [] 1 Tryz.func40 (by rfl) (by rfl) ?_
  (conv => whnf); (repeat (refine step_go [] ?_; conv => whnf))
  refine c_pass s hs i hi _ ?_
  obtain ⟨j, hj⟩ : ∃ j, i + skipN false ((sB s).drop i) = j := ⟨_, rfl⟩
  rw [hj] at h0 h1 h2 ⊢
  conv => whnf
  (repeat' first | (refine step_go [] ?_; conv => whnf) | (refine two (fun g => ?_) (fun g => ?_) <;> (try simp only [bsx] at g) <;> (conv => whnf)) | (refine And.intro rfl ?_; conv => whnf) | (refine dr_go (by decide +kernel) ?_; conv => whnf) | fail)
  · have e : j = s.size := by omega
    exact h0 (List.drop_eq_nil_of_le (by omega))
  · have hjl : j < s.size := by omega
    obtain ⟨c, hc, hd⟩ := drop_at hjl
    obtain ⟨r, hr⟩ : ∃ r, (sB s).drop (j + 1) = r := ⟨_, rfl⟩
    rw [hr] at hd
    have wj : IntKind.i64.wrap ((j : Int) + 1) = ((j + 1 : Nat) : Int) := by rw [wrap64 (by omega) (by omega)]; omega
    refine idx_str (x := c) (by omega) (by simpa using hc) fun b hb => ?_
    conv => whnf
    (repeat (refine step_go [] ?_; conv => whnf))
    rw [hb]
    clear hb b
    have hret : ∀ k g, kindS c r = some k → goesB k = g → K (.ret (.agg [.int .i64 k, .int .i64 j, .str (toBA (((sB s).drop j).take (1 + (((sB s).drop (j + 1)).takeWhile g).length)))])) (lO s (j + 1 + (((sB s).drop (j + 1)).takeWhile g).length)) := fun k g hk hg => by
      have := h1 c r k hd hk
      rw [hg] at this
      rw [run_txt hd, hr]; exact this
    (repeat' first | (refine step_go [] ?_; conv => whnf) | (refine two (fun g => ?_) (fun g => ?_) <;> (try simp only [bsx, letB_iff, digB_iff, letB_no, digB_no, wj] at g) <;> (conv => whnf)) | (refine And.intro rfl ?_; conv => whnf) | (refine dr_go (by decide +kernel) ?_; conv => whnf) | (refine c_letter _ _ ?_; conv => whnf) | (refine c_ldigit _ _ ?_; conv => whnf) | (refine c_run s hs j hjl 1 _ wordB c_inWord _ ?_; conv => whnf) | (refine c_run s hs j hjl 2 _ numB c_inNumber _ ?_; conv => whnf) | (refine c_run s hs j hjl 3 _ (fun _ => false) c_never _ ?_; conv => whnf) | fail)
    all_goals first
      | exact hret 1 _ (kind1 r g) goes1
      | (exfalso; omega)
      | exact hret 2 _ (kind2 r (by omega) (.inl (by omega))) goes2
      | exact hret 3 _ (kind3 r (by omega)) goes3
      | (refine h2 c r hd (kind0 r (by omega) ?_ (by omega))
         rintro (h | ⟨h, d, hd1, hd2⟩)
         · omega
         · first
             | omega
             | (rw [← hr, List.drop_eq_nil_of_le (by omega)] at hd1; cases hd1))
      | skip
    obtain ⟨d, hd1, hd2⟩ := drop_at (s := s) (i := j + 1) (by rw [wj] at *; omega)
    rw [hr] at hd2
    have hh : r.head? = some d := by rw [hd2]; rfl
    refine idx_str (x := d) (by rw [wj]; omega) (by rw [wj, Int.toNat_natCast]; exact hd1) fun b hb => ?_
    conv => whnf
    (repeat (refine step_go [] ?_; conv => whnf))
    rw [hb]
    clear hb b
    (repeat' first | (refine step_go [] ?_; conv => whnf) | (refine two (fun g => ?_) (fun g => ?_) <;> (try simp only [bsx, letB_iff, digB_iff, letB_no, digB_no, wj] at g) <;> (conv => whnf)) | (refine And.intro rfl ?_; conv => whnf) | (refine dr_go (by decide +kernel) ?_; conv => whnf) | (refine c_letter _ _ ?_; conv => whnf) | (refine c_ldigit _ _ ?_; conv => whnf) | (refine c_run s hs j hjl 1 _ wordB c_inWord _ ?_; conv => whnf) | (refine c_run s hs j hjl 2 _ numB c_inNumber _ ?_; conv => whnf) | (refine c_run s hs j hjl 3 _ (fun _ => false) c_never _ ?_; conv => whnf) | fail)
    all_goals first
      | (exfalso; omega)
      | exact hret 2 _ (kind2 r (by omega) (.inr ⟨by omega, d, hh, by unfold Dig; omega⟩)) goes2
      | exact hret 3 _ (kind3 r (by omega)) goes3
      | (refine h2 c r hd (kind0 r (by omega) ?_ (by omega))
         rintro (h | ⟨h, d', hd1, hd2⟩)
         · omega
         · rw [hh] at hd1; cases hd1; unfold Dig at hd2; omega)
end C7

namespace C8
open Go Go.Proofs VL D1 B10 C2 C3 C5 C7
set_option maxRecDepth 100000
def aO (a : V) (b c : Int) : List VObj := [.cells true 48 [a], .cells true 3 [.int .i64 b], .cells true 29 [.int .i64 c]]
theorem d_all0 (n k : Nat) (b c : Int) (mv : Bool) (L : List V) (K) (h : K false (aO (.slo 3 3 0 n k) b c ++ [.buf mv 3 L])) :
    VCallD Tryz.prog 39 [.ptr 0 0, .ptr 1 0, .ptr 2 0] (aO (.slo 3 3 0 n k) b c ++ [.buf mv 3 L]) none K := by
  unfold aO at h ⊢
  refine calld_fun [] 4 Tryz.func39 (by rfl) (by rfl) ?_
  conv => whnf
  refine ⟨rfl, ?_⟩
  conv => whnf
  (repeat' first | (refine step_go [] ?_; conv => whnf) | (refine two (fun g => ?_) (fun g => ?_) <;> (try simp only [bsx] at g) <;> (conv => whnf)) | (refine And.intro rfl ?_; conv => whnf) | (refine dr_go (by decide +kernel) ?_; conv => whnf) | fail)
  exact h
theorem d_all1 (n k : Nat) (b c : Int) (mv : Bool) (L : List V) (p e : Int) (K) (h : K true (aO (.sl [] .ex) p e ++ [.buf mv 3 L])) :
    VCallD Tryz.prog 39 [.ptr 0 0, .ptr 1 0, .ptr 2 0] (aO (.slo 3 3 0 n k) b c ++ [.buf mv 3 L]) (some (fltL p e)) K := by
  unfold fltL
  unfold aO at h ⊢
  refine calld_fun [] 4 Tryz.func39 (by rfl) (by rfl) ?_
  conv => whnf
  refine ⟨rfl, ?_⟩
  conv => whnf
  (repeat' first | (refine step_go [] ?_; conv => whnf) | (refine two (fun g => ?_) (fun g => ?_) <;> (try simp only [bsx] at g) <;> (conv => whnf)) | (refine And.intro rfl ?_; conv => whnf) | (refine dr_go (by decide +kernel) ?_; conv => whnf) | fail)
  exact h
theorem d_all2 (b c : Int) (p e : Int) (K) (h : K true (aO (.sl [] .ex) p e)) :
    VCallD Tryz.prog 39 [.ptr 0 0, .ptr 1 0, .ptr 2 0] (aO (.sl [] .ex) b c) (some (fltL p e)) K := by
  unfold fltL
  unfold aO at h ⊢
  refine calld_fun [] 3 Tryz.func39 (by rfl) (by rfl) ?_
  conv => whnf
  refine ⟨rfl, ?_⟩
  conv => whnf
  (repeat' first | (refine step_go [] ?_; conv => whnf) | (refine two (fun g => ?_) (fun g => ?_) <;> (try simp only [bsx] at g) <;> (conv => whnf)) | (refine And.intro rfl ?_; conv => whnf) | (refine dr_go (by decide +kernel) ?_; conv => whnf) | fail)
  exact h
theorem kL_len (l : List Tok) : (kL l).length = l.length := by simp [kL]
theorem V_slo {o z lo n n' c c' : Nat} (h1 : n = n') (h2 : c = c') : V.slo o z lo n c = V.slo o z lo n' c' := by subst h1; subst h2; rfl
theorem kind_in {c : Int} {r : List Int} {k : Int} (h : kindS c r = some k) : k = 1 ∨ k = 2 ∨ k = 3 := by
  unfold kindS at h
  repeat' split at h
  all_goals simp at h
  all_goals omega
def Lx.pre (a : List Tok) : Lx → Lx
  | .ok l => .ok (a ++ l)
  | .bad p => .bad p
theorem pre_cons (a : List Tok) (t : Tok) (x : Lx) : Lx.pre a (x.cons t) = Lx.pre (a ++ [t]) x := by cases x <;> simp [Lx.pre, Lx.cons]
theorem lexF_step {f : Nat} {l : List Int} {i : Nat} : lexF (f + 1) l i = match l.drop (skipN false l) with
    | [] => .ok [⟨0, i + skipN false l, []⟩]
    | c :: r => match kindS c r with
      | none => .bad (i + skipN false l)
      | some k => (lexF f (r.dropWhile (goesB k)) (i + skipN false l + 1 + (r.takeWhile (goesB k)).length)).cons ⟨k, i + skipN false l, c :: r.takeWhile (goesB k)⟩ := rfl
theorem end_frz {L : List V} {l : List C3.Tok} {sp : List V} {n c : Nat} {a b : Int} {K : Out → List VObj → Prop} (hL : L = kL l ++ sp) (hc : c = l.length + sp.length) (hn : n = l.length) (h : K (.ret (.tup [.sl (kL l) .no, .int .i64 a, .int .i64 b])) []) :
    ∃ v' sub', Weak 0 ⟨[.tup [.slo 0 3 0 n c, .int .i64 a, .int .i64 b]], [.buf false 3 L], 0, []⟩ ⟨[v'], sub', 0, []⟩ ∧ K (.ret v') sub' := by
  subst hL hc hn
  obtain ⟨s', hw, hk⟩ := weak_frz (m := 0) 0 false (s := ⟨[.tup [.slo 0 3 0 l.length (l.length + sp.length), .int .i64 a, .int .i64 b]], [.buf false 3 (kL l ++ sp)], 0, []⟩)
    (K := fun s' => Weak 0 s' ⟨[.tup [.sl (kL l) .no, .int .i64 a, .int .i64 b]], [], 0, []⟩) (by
      conv => whnf
      refine ⟨by simp [kL], ?_⟩
      conv => whnf
      refine weak_of (.cons (.eq ?_) .nil) .nil rfl rfl rfl
      rw [List.drop_zero, ← kL_len, List.take_left])
  exact ⟨_, _, hw.trans hk, h⟩
set_option maxHeartbeats 2000000 in
theorem c_All (s : ByteArray) (hs : s.size < 1000000) (K)
    (h0 : ∀ l, lexS (sB s) = .ok l → K (.ret (.tup [.sl (kL l) .no, .int .i64 0, .int .i64 0])) [])
    (h1 : ∀ p e, lexS (sB s) = .error (p, e) → K (.ret (.tup [.sl [] .no, .int .i64 p, .int .i64 e])) []) : VCall Tryz.prog 18 [.str s] [] K := by
  have hsl := sB_len s
  refine VCall.weak (call_fun [] 0 Tryz.func18 (by rfl) (by rfl) ?_)
  conv => whnf
  (repeat' first | (refine step_go [] ?_; conv => whnf) | (refine two (fun g => ?_) (fun g => ?_) <;> (try simp only [bsx] at g) <;> (conv => whnf)) | (refine And.intro rfl ?_; conv => whnf) | (refine dr_go (by decide +kernel) ?_; conv => whnf) | fail)
  · have hb : lexS (sB s) = .error (0, 3) := by unfold lexS; rw [if_pos (by omega)]
    refine d_all2 0 0 0 3 _ ?_
    conv => whnf
    (repeat' first | (refine step_go [] ?_; conv => whnf) | (refine two (fun g => ?_) (fun g => ?_) <;> (try simp only [bsx] at g) <;> (conv => whnf)) | (refine And.intro rfl ?_; conv => whnf) | (refine dr_go (by decide +kernel) ?_; conv => whnf) | fail)
    exact ⟨_, _, weak_of (.cons (.tup (.cons .no (.cons (.eq rfl) (.cons (.eq rfl) .nil)))) .nil) .nil rfl rfl rfl, h1 0 3 hb⟩
  have hsz : s.size ≤ 20000 := by omega
  have hok : ∀ l, lexF ((sB s).length + 1) (sB s) 0 = .ok l → lexS (sB s) = .ok l := fun l e => by unfold lexS; rw [if_neg (by omega), e]
  have hbad : ∀ p, lexF ((sB s).length + 1) (sB s) 0 = .bad p → lexS (sB s) = .error (p, 6) := fun l e => by unfold lexS; rw [if_neg (by omega), e]
  let OB : Nat → List Tok → List V → List VObj := fun i acc sp => [.cells true 48 [.slo 4 3 0 acc.length (acc.length + sp.length)], .cells true 3 [.int .i64 0], .cells true 29 [.int .i64 0], .cells true 83 [.str s, .int .i64 i], .buf false 3 (kL acc ++ sp)]
  let S : Nat × Nat × List Tok × List V → St := fun x => ⟨(.str s :: .undef :: .ptr 0 0 :: .ptr 1 0 :: .ptr 2 0 :: .ptr 3 0 :: .undef :: .undef :: .undef :: .undef :: .undef :: .undef :: .undef :: .undef :: .undef :: .undef :: .undef :: .undef :: .undef :: .undef :: .undef :: .undef :: .undef :: .undef :: .undef :: .undef :: []), OB x.2.1 x.2.2.1 x.2.2.2, 0, [(.func 39, [], [.ptr 0 0, .ptr 1 0, .ptr 2 0])]⟩
  refine VLoop.enter (s' := S ((sB s).length + 1, 0, [], [])) (Weak.trans (weak_nil 0 0 3 none rfl rfl (Nat.zero_le _)) (weak_of ?_ (.cons (.eq rfl) (.cons (.eq rfl) (.cons (.eq rfl) (.cons (.eq rfl) (.cons (.eq rfl) .nil))))) rfl rfl rfl))
    (VLoop.indW S (fun x => x.1) (fun x => x.2.1 ≤ s.size ∧ s.size + 1 ≤ x.1 + x.2.1 ∧ x.2.2.1.length ≤ x.2.1 ∧ lexF ((sB s).length + 1) (sB s) 0 = Lx.pre x.2.2.1 (lexF x.1 ((sB s).drop x.2.1) x.2.1)) ?_ ((sB s).length + 1, 0, [], []) ⟨by simp, by simp; omega, by simp, ?_⟩)
  · (repeat' first | exact VWs.nil | refine VWs.cons VW.undef ?_ | refine VWs.cons (VW.eq rfl) ?_)
  rotate_left
  · simp only [List.drop_zero]; cases lexF ((sB s).length + 1) (sB s) 0 <;> rfl
  rintro ⟨f, i, acc, sp⟩ ⟨hi, hf, hac, hinv⟩ ih
  simp only at hi hf hac hinv
  obtain ⟨f, rfl⟩ : ∃ f', f = f' + 1 := ⟨f - 1, by omega⟩
  conv at hinv => rhs; rw [lexF_step]
  rw [List.drop_drop] at hinv
  have hkl := kL_len acc
  refine loop_round [] ?_; conv => whnf
  (repeat (refine step_go [] ?_; conv => whnf))
  refine c_lnext s hs i hi _ (fun e => ?_) (fun c r k e hk => ?_) (fun c r e hk => ?_)
  · rw [e] at hinv
    obtain ⟨tk, htk⟩ : ∃ tk : C3.Tok, tk = ⟨0, i + skipN false ((sB s).drop i), []⟩ := ⟨_, rfl⟩
    have hinv : lexF ((sB s).length + 1) (sB s) 0 = .ok (acc ++ [tk]) := by rw [hinv, htk]; rfl
    rw [← htk]
    conv => whnf
    (repeat' first | (refine step_go [] ?_; conv => whnf) | (refine two (fun g => ?_) (fun g => ?_) <;> (try simp only [bsx] at g) <;> (conv => whnf)) | (refine And.intro rfl ?_; conv => whnf) | (refine dr_go (by decide +kernel) ?_; conv => whnf) | fail)
    refine ⟨by simp; omega, by simp [V.cells], ?_⟩
    conv => whnf
    (repeat' first | (refine step_go [] ?_; conv => whnf) | (refine two (fun g => ?_) (fun g => ?_) <;> (try simp only [bsx] at g) <;> (conv => whnf)) | (refine And.intro rfl ?_; conv => whnf) | (refine dr_go (by decide +kernel) ?_; conv => whnf) | fail)
    · have hsp1 : 1 ≤ sp.length := by have := Nat.le_of_ble_eq_true g; simp at this; omega
      refine ⟨by rw [List.length_append, hkl]; simp, ?_⟩
      conv => whnf
      (repeat' first | (refine step_go [] ?_; conv => whnf) | (refine two (fun g => ?_) (fun g => ?_) <;> (try simp only [bsx] at g) <;> (conv => whnf)) | (refine And.intro rfl ?_; conv => whnf) | (refine dr_go (by decide +kernel) ?_; conv => whnf) | fail)
      rotate_left
      · exfalso; rw [htk] at g; simp at g
      refine ⟨_, Weak.refl, ?_⟩
      conv => whnf
      (repeat' first | (refine step_go [] ?_; conv => whnf) | (refine two (fun g => ?_) (fun g => ?_) <;> (try simp only [bsx] at g) <;> (conv => whnf)) | (refine And.intro rfl ?_; conv => whnf) | (refine dr_go (by decide +kernel) ?_; conv => whnf) | fail)
      refine d_all0 _ _ _ _ _ _ _ ?_
      conv => whnf
      (repeat' first | (refine step_go [] ?_; conv => whnf) | (refine two (fun g => ?_) (fun g => ?_) <;> (try simp only [bsx] at g) <;> (conv => whnf)) | (refine And.intro rfl ?_; conv => whnf) | (refine dr_go (by decide +kernel) ?_; conv => whnf) | fail)
      refine end_frz (sp := sp.drop 1) (app_in encK acc tk sp) (by simp; omega) (by simp) ?_
      exact h0 _ (hok _ hinv)
    · refine ⟨by rw [List.length_append, hkl]; simp, fun sp' hsp => ?_⟩
      conv => whnf
      (repeat' first | (refine step_go [] ?_; conv => whnf) | (refine two (fun g => ?_) (fun g => ?_) <;> (try simp only [bsx] at g) <;> (conv => whnf)) | (refine And.intro rfl ?_; conv => whnf) | (refine dr_go (by decide +kernel) ?_; conv => whnf) | fail)
      rotate_left
      · exfalso; rw [htk] at g; simp at g
      refine ⟨_, Weak.refl, ?_⟩
      conv => whnf
      (repeat' first | (refine step_go [] ?_; conv => whnf) | (refine two (fun g => ?_) (fun g => ?_) <;> (try simp only [bsx] at g) <;> (conv => whnf)) | (refine And.intro rfl ?_; conv => whnf) | (refine dr_go (by decide +kernel) ?_; conv => whnf) | fail)
      refine d_all0 _ _ _ _ _ _ _ ?_
      conv => whnf
      (repeat' first | (refine step_go [] ?_; conv => whnf) | (refine two (fun g => ?_) (fun g => ?_) <;> (try simp only [bsx] at g) <;> (conv => whnf)) | (refine And.intro rfl ?_; conv => whnf) | (refine dr_go (by decide +kernel) ?_; conv => whnf) | fail)
      refine end_frz (sp := sp') (app_gr encK acc tk sp sp') (by simp) (by simp) ?_
      exact h0 _ (hok _ hinv)
  · rw [e] at hinv
    simp only [hk] at hinv
    obtain ⟨tk, htk⟩ : ∃ tk : C3.Tok, tk = ⟨k, i + skipN false ((sB s).drop i), c :: r.takeWhile (goesB k)⟩ := ⟨_, rfl⟩
    obtain ⟨i', hi'⟩ : ∃ i', i' = i + skipN false ((sB s).drop i) + 1 + (r.takeWhile (goesB k)).length := ⟨_, rfl⟩
    have hr : r = (sB s).drop (i + skipN false ((sB s).drop i) + 1) := by rw [← List.drop_drop, e]; rfl
    have hrl : r.length + (i + skipN false ((sB s).drop i) + 1) = s.size := by
      have := congrArg List.length e
      rw [List.length_drop, List.length_cons] at this; omega
    have htw := takeW_le (goesB k) r
    have hdr : r.dropWhile (goesB k) = (sB s).drop i' := by rw [dropW_eq, hi', hr, List.drop_drop]
    rw [hdr, ← hi', ← htk, pre_cons] at hinv
    have hk0 : k = 1 ∨ k = 2 ∨ k = 3 := kind_in hk
    rw [← htk, ← hi']
    conv => whnf
    (repeat' first | (refine step_go [] ?_; conv => whnf) | (refine two (fun g => ?_) (fun g => ?_) <;> (try simp only [bsx] at g) <;> (conv => whnf)) | (refine And.intro rfl ?_; conv => whnf) | (refine dr_go (by decide +kernel) ?_; conv => whnf) | fail)
    refine ⟨by simp; omega, by simp [V.cells], ?_⟩
    conv => whnf
    (repeat' first | (refine step_go [] ?_; conv => whnf) | (refine two (fun g => ?_) (fun g => ?_) <;> (try simp only [bsx] at g) <;> (conv => whnf)) | (refine And.intro rfl ?_; conv => whnf) | (refine dr_go (by decide +kernel) ?_; conv => whnf) | fail)
    · have hsp1 : 1 ≤ sp.length := by have := Nat.le_of_ble_eq_true g; simp at this; omega
      refine ⟨by rw [List.length_append, hkl]; simp, ?_⟩
      conv => whnf
      (repeat' first | (refine step_go [] ?_; conv => whnf) | (refine two (fun g => ?_) (fun g => ?_) <;> (try simp only [bsx] at g) <;> (conv => whnf)) | (refine And.intro rfl ?_; conv => whnf) | (refine dr_go (by decide +kernel) ?_; conv => whnf) | fail)
      · exfalso; rw [htk] at g; simp only at g; omega
      refine weak_sel (src := [0, 1, 2, 3, 4]) ?_; conv => whnf
      refine VLoop.enter (s' := S (f, i', acc ++ [tk], (sp.drop 1))) (weak_of ?_ (.cons (.eq ?_) (.cons (.eq rfl) (.cons (.eq rfl) (.cons (.eq rfl) (.cons (.eq ?_) .nil))))) rfl rfl rfl) (ih (f, i', acc ++ [tk], (sp.drop 1)) ⟨by simp only; omega, by simp only; omega, by simp only [List.length_append, List.length_singleton]; omega, hinv⟩ (by simp only; omega))
      · (repeat' first | exact VWs.nil | refine VWs.cons VW.undef ?_ | refine VWs.cons (VW.eq rfl) ?_)
      · exact congrArg (fun x => VObj.cells true 48 [x]) (V_slo (by simp) (by simp; omega))
      · exact congrArg (fun x => VObj.buf false 3 x none) (app_in encK acc tk sp)
    · refine ⟨by rw [List.length_append, hkl]; simp, fun sp' hsp => ?_⟩
      conv => whnf
      (repeat' first | (refine step_go [] ?_; conv => whnf) | (refine two (fun g => ?_) (fun g => ?_) <;> (try simp only [bsx] at g) <;> (conv => whnf)) | (refine And.intro rfl ?_; conv => whnf) | (refine dr_go (by decide +kernel) ?_; conv => whnf) | fail)
      · exfalso; rw [htk] at g; simp only at g; omega
      refine weak_sel (src := [0, 1, 2, 3, 6]) ?_; conv => whnf
      refine VLoop.enter (s' := S (f, i', acc ++ [tk], sp')) (weak_of ?_ (.cons (.eq ?_) (.cons (.eq rfl) (.cons (.eq rfl) (.cons (.eq rfl) (.cons (.eq ?_) .nil))))) rfl rfl rfl) (ih (f, i', acc ++ [tk], sp') ⟨by simp only; omega, by simp only; omega, by simp only [List.length_append, List.length_singleton]; omega, hinv⟩ (by simp only; omega))
      · (repeat' first | exact VWs.nil | refine VWs.cons VW.undef ?_ | refine VWs.cons (VW.eq rfl) ?_)
      · exact congrArg (fun x => VObj.cells true 48 [x]) (V_slo (by simp) (by simp))
      · exact congrArg (fun x => VObj.buf false 3 x none) (app_gr encK acc tk sp sp')
  · rw [e] at hinv
    simp only [hk] at hinv
    conv => whnf
    (repeat' first | (refine step_go [] ?_; conv => whnf) | (refine two (fun g => ?_) (fun g => ?_) <;> (try simp only [bsx] at g) <;> (conv => whnf)) | (refine And.intro rfl ?_; conv => whnf) | (refine dr_go (by decide +kernel) ?_; conv => whnf) | fail)
    refine d_all1 acc.length (acc.length + sp.length) 0 0 false (kL acc ++ sp) (i + skipN false ((sB s).drop i) : Nat) 6 _ ?_
    conv => whnf
    (repeat' first | (refine step_go [] ?_; conv => whnf) | (refine two (fun g => ?_) (fun g => ?_) <;> (try simp only [bsx] at g) <;> (conv => whnf)) | (refine And.intro rfl ?_; conv => whnf) | (refine dr_go (by decide +kernel) ?_; conv => whnf) | fail)
    exact ⟨_, _, weak_of (.cons (.tup (.cons .no (.cons (.eq rfl) (.cons (.eq rfl) .nil)))) .nil) .nil rfl rfl rfl, h1 _ 6 (hbad _ hinv)⟩
end C8

namespace C9
open Go Go.Proofs VL D1 B10 C2 C3 C5 C7 C8
set_option maxRecDepth 100000
end C9

namespace C10
open Go Go.Proofs VL Go.Shelf
set_option maxRecDepth 100000
def ren : Ren := ⟨fun | 143 => 97 | 144 => 80 | 217 => 131 | 219 => 121 | 224 => 133 | 225 => 132 | 266 => 146 | 267 => 134 | 314 => 147 | n => n,
  fun | 3 => 3 | 4 => 4 | 5 => 5 | 9 => 9 | 46 => 36 | 51 => 162 | 146 => 163 | n => n, fun | 1 => 0 | n => n⟩
theorem lays : Lays.n144 Tryz.prog ren := {
  mixed := by kernel_rfl
  f143 := by kernel_rfl
  f144 := by kernel_rfl
  f217 := by kernel_rfl
  f219 := by kernel_rfl
  f224 := by kernel_rfl
  f225 := by kernel_rfl
  f266 := by kernel_rfl
  f267 := by kernel_rfl
  f314 := by kernel_rfl
  t3 := Tryz.underlying3
  a3 := Tryz.isAgg3
  z3 := Tryz.sizeOf3
  v3 := Tryz.zeroValue3
  t4 := Tryz.underlying4
  a4 := Tryz.isAgg4
  z4 := Tryz.sizeOf4
  v4 := Tryz.zeroValue4
  t5 := Tryz.underlying5
  a5 := Tryz.isAgg5
  z5 := Tryz.sizeOf5
  v5 := Tryz.zeroValue5
  t9 := Tryz.underlying9
  a9 := Tryz.isAgg9
  z9 := Tryz.sizeOf9
  v9 := Tryz.zeroValue9
  t46 := Tryz.underlying36
  a46 := Tryz.isAgg36
  z46 := Tryz.sizeOf36
  v46 := Tryz.zeroValue36
  t51 := Tryz.underlying162
  a51 := Tryz.isAgg162
  z51 := Tryz.sizeOf162
  v51 := Tryz.zeroValue162
  t146 := Tryz.underlying163
  a146 := Tryz.isAgg163
  z146 := Tryz.sizeOf163
  v146 := Tryz.zeroValue163
  g1 := by kernel_rfl }
theorem c_cont (s t : ByteArray) (hs : s.size < 4294967281) (K : Out → List VObj → Prop) (h : K (.ret (.bool (Lib.contains s.data.toList t.data.toList))) []) : VCall Tryz.prog 80 [.str s, .str t] [] K := by
  refine calls_ss (P := Tryz.prog) (x := .bool (Lib.contains s.data.toList t.data.toList)) Tryz.func80 (by rfl) (by rfl) (fun _ _ _ _ => .bool) rfl (fun w hw => ?_) h
  obtain ⟨m, hm⟩ := hw 0 rfl
  exact Any.strings_Contains lays s t m w hs hm
end C10

namespace C11
open Go Go.Proofs VL D1 B10 BB6 BB10 BB14 C1 C2 C6 C10
set_option maxRecDepth 100000
theorem index_ge0 (s sub : List UInt8) : 0 ≤ Lib.index s sub ↔ ∃ a b, s = a ++ sub ++ b := by
  rcases Lib.index_spec s sub with ⟨h, hn⟩ | ⟨i, h, hi, hocc, _⟩
  · constructor
    · intro h2; omega
    · rintro ⟨a, b, rfl⟩
      have hocc : Lib.occAt (a ++ sub ++ b) sub a.length = true := by
        unfold Lib.occAt
        rw [List.append_assoc, List.drop_left]
        exact List.isPrefixOf_iff_prefix.2 (List.prefix_append _ _)
      rw [hn a.length (by simp)] at hocc
      cases hocc
  · constructor
    · intro _
      unfold Lib.occAt at hocc
      obtain ⟨b, hb⟩ := List.isPrefixOf_iff_prefix.1 hocc
      exact ⟨s.take i, b, by rw [List.append_assoc, hb, List.take_append_drop]⟩
    · intro _; omega
theorem cont_iff (s t : ByteArray) : Lib.contains s.data.toList t.data.toList = true ↔ ∃ a b, sB s = a ++ sB t ++ b := by
  unfold Lib.contains
  rw [decide_eq_true_iff, index_ge0]
  constructor
  · rintro ⟨a, b, h⟩
    exact ⟨a.map fun x => (x.toNat : Int), b.map fun x => (x.toNat : Int), by unfold sB; rw [h]; simp⟩
  · rintro ⟨a, b, h⟩
    have inj : ∀ {l m : List UInt8}, (l.map fun x => (x.toNat : Int)) = m.map (fun x => (x.toNat : Int)) → l = m := fun {l m} h => by
      refine (List.map_inj_right (fun x y hxy => ?_)).1 h
      exact UInt8.toNat_inj.1 (by omega)
    have h2 : (s.data.toList).map (fun x => (x.toNat : Int)) = a ++ (t.data.toList).map (fun x => (x.toNat : Int)) ++ b := h
    obtain ⟨u, v, hu, hv, hw⟩ := List.map_eq_append_iff.1 h2
    obtain ⟨u1, u2, hu1, hu2, hu3⟩ := List.map_eq_append_iff.1 hv
    refine ⟨u1, v, ?_⟩
    rw [hu, hu1, inj hu3]
theorem wordsT : sB ⟨#[32, 112, 114, 111, 100, 117, 99, 116, 32, 99, 111, 117, 110, 116, 32, 116, 104, 105, 114, 116, 121, 32, 102, 105, 120, 101, 100, 32, 97, 99, 116, 117, 97, 108, 32, 114, 111, 117, 110, 100, 32, 104, 97, 108, 102, 45, 117, 112, 32, 100, 111, 119, 110, 32, 107, 105, 110, 100, 32, 97, 110, 110, 117, 105, 116, 121, 32, 101, 113, 117, 97, 108, 32, 98, 117, 108, 108, 101, 116, 32, 101, 118, 101, 114, 121, 32, 116, 105, 109, 101, 115, 32, 103, 114, 97, 99, 101, 32, 114, 97, 116, 101, 32, 112, 101, 110, 97, 108, 116, 121, 32, 114, 101, 115, 101, 116, 32, 108, 97, 116, 101, 32, 99, 97, 112, 32, 104, 111, 108, 105, 100, 97, 121, 32, 111, 114, 100, 101, 114, 32, 102, 101, 101, 115, 32, 105, 110, 116, 101, 114, 101, 115, 116, 32, 112, 114, 105, 110, 99, 105, 112, 97, 108, 32, 111, 118, 101, 114, 32, 104, 111, 108, 100, 32, 112, 114, 101, 112, 97, 121, 32, 114, 101, 102, 117, 110, 100, 32, 114, 111, 108, 108, 32, 115, 116, 97, 121, 32, 110, 101, 120, 116, 32, 119, 105, 116, 104, 105, 110, 32, 112, 114, 101, 118, 105, 111, 117, 115, 32]⟩ = wT wordsL := by rfl
set_option maxHeartbeats 2000000 in
theorem c_Name (s : ByteArray) (hs : s.size < 1000000) (K : Out → List VObj → Prop) (h : K (.ret (.bool (nameB (sB s)))) []) : VCall Tryz.prog 42 [.str s] [] K := by
  have hsl := sB_len s
  have hsz : (s.size : Int) = (sB s).length := by rw [hsl]
  have hyes : nameP (sB s) → K (.ret (.bool true)) [] := fun e => by rw [(nameB_iff _).2 e] at h; exact h
  have hno : ¬ nameP (sB s) → K (.ret (.bool false)) [] := fun e => by rw [(nameB_no _).2 e] at h; exact h
  have hfin : ∀ b : Bool, (b = true ↔ nameP (sB s)) → K (.ret (.bool b)) [] := fun b e => by
    cases b
    · exact hno fun hh => by have := e.2 hh; cases this
    · exact hyes (e.1 rfl)
  clear h
  refine call_fun [] 0 Tryz.func42 (by rfl) (by rfl) ?_
  conv => whnf
  (repeat' first | (refine step_go [] ?_; conv => whnf) | (refine two (fun g => ?_) (fun g => ?_) <;> (try simp only [bsx] at g) <;> (conv => whnf)) | (refine And.intro rfl ?_; conv => whnf) | fail)
  · exact hno fun hh => by have := hh.1.1; omega
  · exact hno fun hh => by have := hh.1.2.1; omega
  obtain ⟨c, r, hcr⟩ : ∃ c r, sB s = c :: r := by
    cases hh : sB s with
    | nil => rw [hh] at hsl; simp only [List.length_nil] at hsl; omega
    | cons c r => exact ⟨c, r, rfl⟩
  have hc0 : nameP (sB s) → 97 ≤ c ∧ c ≤ 122 := fun hh => by have := hh.1.2.2.1 c (by rw [hcr]; rfl); exact this
  refine idx_str (x := c) (by decide) (by rw [hcr]; rfl) fun b hb => ?_
  conv => whnf
  (repeat (refine step_go [] ?_; conv => whnf))
  rw [hb]
  clear hb b
  (repeat' first | (refine step_go [] ?_; conv => whnf) | (refine two (fun g => ?_) (fun g => ?_) <;> (try simp only [bsx] at g) <;> (conv => whnf)) | (refine And.intro rfl ?_; conv => whnf) | fail)
  · exact hno fun hh => by have := hc0 hh; omega
  refine idx_str (x := c) (by decide) (by rw [hcr]; rfl) fun b hb => ?_
  conv => whnf
  (repeat (refine step_go [] ?_; conv => whnf))
  rw [hb]
  clear hb b
  (repeat' first | (refine step_go [] ?_; conv => whnf) | (refine two (fun g => ?_) (fun g => ?_) <;> (try simp only [bsx] at g) <;> (conv => whnf)) | (refine And.intro rfl ?_; conv => whnf) | fail)
  · exact hno fun hh => by have := hc0 hh; omega
  rw [bytesV_eq]
  let S : Nat → St := fun i => ⟨(.str s :: .undef :: .bool false :: .undef :: .undef :: .undef :: .undef :: .undef :: .undef :: .undef :: .undef :: .undef :: .undef :: .undef :: .undef :: .undef :: .undef :: .undef :: .undef :: .undef :: .undef :: .undef :: .undef :: .undef :: .sl (bL (sB s)) .no :: .int .i64 ((sB s).length : Nat) :: .int .i64 (i : Nat) :: .undef :: .undef :: .undef :: .undef :: .undef :: .undef :: .undef :: .undef :: .undef :: .undef :: .undef :: .undef :: .undef :: .undef :: .undef :: .undef :: .undef :: .undef :: .undef :: .undef :: .undef :: .undef :: .undef :: .undef :: .undef :: .undef :: .undef :: []), [], 0, []⟩
  refine VLoop.enter (s' := S 0) (weak_of ?_ .nil rfl rfl rfl)
    (VLoop.indW S (fun i => s.size - i) (fun i => i ≤ s.size ∧ ∀ x ∈ (sB s).take i, Inner x) ?_ 0 ⟨by omega, by simp⟩)
  · repeat' first
      | exact VWs.nil
      | refine VWs.cons VW.undef ?_
      | refine VWs.cons (VW.eq rfl) ?_
      | refine VWs.cons VW.no ?_
      | refine VWs.cons (VW.eq (by rw [bL_len])) ?_
  rintro i ⟨hi, hinv⟩ ih
  refine loop_round [] ?_; conv => whnf
  (repeat' first | (refine step_go [] ?_; conv => whnf) | (refine two (fun g => ?_) (fun g => ?_) <;> (try simp only [bsx] at g) <;> (conv => whnf)) | (refine And.intro rfl ?_; conv => whnf) | fail)
  · have hil : i < (sB s).length := by omega
    have hx : (sB s)[i]? = some (sB s)[i] := List.getElem?_eq_getElem hil
    have hmem : (sB s)[i] ∈ sB s := List.getElem_mem _
    obtain ⟨x, hxx⟩ : ∃ x, (sB s)[i] = x := ⟨_, rfl⟩
    have htk : (sB s).take (i + 1) = (sB s).take i ++ [x] := by rw [List.take_succ_eq_append_getElem hil, hxx]
    rw [hxx] at hx hmem
    have hget : (bL (sB s))[((i : Nat) : Int).toNat]? = some (.int .u8 x) := by rw [Int.toNat_natCast, bL_get, hx]; rfl
    have wi : IntKind.i64.wrap ((i : Int) + 1) = ((i + 1 : Nat) : Int) := by rw [wrap64 (by omega) (by omega)]; omega
    have hgo : Inner x → VLoop _ _ _ (S (i + 1)) _ := fun hx => ih (i + 1) ⟨by omega, fun y hy => by
      rw [htk] at hy
      rcases List.mem_append.1 hy with hy | hy
      · exact hinv y hy
      · rw [List.mem_singleton.1 hy]; exact hx⟩ (by omega)
    have hst : ¬ Inner x → K (.ret (.bool false)) [] := fun hx => hno fun hh => hx (hh.1.2.2.2 x hmem)
    unfold Inner Small Dig at hgo hst
    refine ⟨by omega, _, hget, rfl, ?_⟩
    conv => whnf
    (repeat' first | (refine step_go [] ?_; conv => whnf) | (refine two (fun g => ?_) (fun g => ?_) <;> (try simp only [bsx] at g) <;> (conv => whnf)) | (refine And.intro rfl ?_; conv => whnf) | fail)
    all_goals first
      | (refine ⟨_, Weak.refl, ?_⟩; conv => whnf
         (repeat' first | (refine step_go [] ?_; conv => whnf) | (refine two (fun g => ?_) (fun g => ?_) <;> (try simp only [bsx] at g) <;> (conv => whnf)) | (refine And.intro rfl ?_; conv => whnf) | fail)
         exact hst (by omega))
      | exact ⟨S (i + 1), weak_of (by rw [wi]; (repeat' first | exact VWs.nil | refine VWs.cons VW.undef ?_ | refine VWs.cons (VW.eq rfl) ?_)) .nil rfl rfl rfl, hgo (by omega)⟩
  · have hil : i = (sB s).length := by omega
    subst hil
    rw [List.take_length] at hinv
    refine ⟨_, Weak.refl, ?_⟩
    conv => whnf
    (repeat' first | (refine step_go [] ?_; conv => whnf) | (refine two (fun g => ?_) (fun g => ?_) <;> (try simp only [bsx] at g) <;> (conv => whnf)) | (refine And.intro rfl ?_; conv => whnf) | fail)
    refine ⟨str_le (by show 1 + s.size < _; omega), ?_⟩
    conv => whnf
    (repeat' first | (refine step_go [] ?_; conv => whnf) | (refine two (fun g => ?_) (fun g => ?_) <;> (try simp only [bsx] at g) <;> (conv => whnf)) | (refine And.intro rfl ?_; conv => whnf) | fail)
    refine ⟨str_le (by rw [ByteArray.size_append]; show 1 + s.size + 1 < _; omega), ?_⟩
    conv => whnf
    (repeat' first | (refine step_go [] ?_; conv => whnf) | (refine two (fun g => ?_) (fun g => ?_) <;> (try simp only [bsx] at g) <;> (conv => whnf)) | (refine And.intro rfl ?_; conv => whnf) | fail)
    refine c_cont _ _ (by decide) _ ?_
    conv => whnf
    (repeat' first | (refine step_go [] ?_; conv => whnf) | (refine two (fun g => ?_) (fun g => ?_) <;> (try simp only [bsx] at g) <;> (conv => whnf)) | (refine And.intro rfl ?_; conv => whnf) | fail)
    refine hfin _ ?_
    have e1 : sB (⟨#[32]⟩ ++ s ++ ⟨#[32]⟩) = 32 :: sB s ++ [32] := by rw [sB_app, sB_app]; rfl
    have hnb : Nb (sB s) := fun x hx => by have := hinv x hx; unfold Inner Small Dig at this; omega
    have hw := word_in words_nb hnb
    rw [← e1, ← wordsT, ← cont_iff] at hw
    rw [Bool.not_eq_true', ← Bool.not_eq_true]
    refine Iff.trans (not_congr hw) ?_
    constructor
    · intro hh
      refine ⟨⟨by omega, by omega, fun x hx => ?_, hinv⟩, hh⟩
      rw [hcr] at hx
      cases hx
      exact ⟨by assumption, by assumption⟩
    · exact fun hh => hh.2
end C11

namespace C12
open Go Go.Proofs VL D1 B10 BB6 BB10 BB14 C1 C2 C6 C10 C11
set_option maxRecDepth 100000
theorem iL_len (l : List Int) : (iL l).length = l.length := by simp [iL]
theorem iL_cells {l : List Int} : ∀ x ∈ iL l, x.cells.length = 1 := by
  intro x hx
  obtain ⟨n, _, rfl⟩ := List.mem_map.1 hx
  rfl
theorem c_Clone (l : List Int) (hl : l.length < 1000000) (K : Out → List VObj → Prop) (h : K (.ret (.sl (iL l) .no)) []) : VCall Tryz.prog 114 [.sl (iL l) .no] [] K := by
  refine VCall.weak (call_fun [] 0 Tryz.func114 (by rfl) (by rfl) ?_)
  conv => whnf
  (repeat' first | (refine step_go [] ?_; conv => whnf) | (refine two (fun g => ?_) (fun g => ?_) <;> (try simp only [bsx] at g) <;> (conv => whnf)) | (refine And.intro rfl ?_; conv => whnf) | fail)
  intro b hb
  conv => whnf
  (repeat' first | (refine step_go [] ?_; conv => whnf) | (refine two (fun g => ?_) (fun g => ?_) <;> (try simp only [bsx] at g) <;> (conv => whnf)) | (refine And.intro rfl ?_; conv => whnf) | fail)
  · have e := hb g
    rw [e] at h
    exact ⟨_, _, weak_of (.cons .no .nil) .nil rfl rfl rfl, h⟩
  · have hil := iL_len l
    refine ⟨by simp; omega, iL_cells, by simp, ?_⟩
    conv => whnf
    (repeat' first | (refine step_go [] ?_; conv => whnf) | (refine two (fun g => ?_) (fun g => ?_) <;> (try simp only [bsx] at g) <;> (conv => whnf)) | (refine And.intro rfl ?_; conv => whnf) | fail)
    exact ⟨_, _, weak_of (.cons .no .nil) .nil rfl rfl rfl, h⟩
set_option maxHeartbeats 2000000 in
theorem c_llate (p : Prod) (hp : p.ok) (K : Out → List VObj → Prop) (h0 : lateP p → K (.ret (.tup [])) []) (h1 : ¬ lateP p → K (.pan (.ifc 88 (.agg []))) []) : VCall Tryz.prog 49 [encP p] [] K := by
  have hlen := hp.ll
  unfold encP cellsP
  obtain ⟨T, hT⟩ : ∃ T, rL p.resets = T := ⟨_, rfl⟩
  obtain ⟨H, hH⟩ : ∃ H, iL p.hol = H := ⟨_, rfl⟩
  have hrl : (tL p.late).length = p.late.length := by simp [tL]
  rw [hT, hH]
  refine call_fun [] 0 Tryz.func49 (by rfl) (by rfl) ?_
  conv => whnf
  (repeat' first | (refine step_go [] ?_; conv => whnf) | (refine two (fun g => ?_) (fun g => ?_) <;> (try simp only [bsx, hrl] at g) <;> (conv => whnf)) | (refine And.intro rfl ?_; conv => whnf) | (refine c_within64 _ _ _ _ ?_; conv => whnf) | (refine c_must _ _ ?_; conv => whnf) | fail)
  all_goals first
    | (refine h1 fun hh => ?_
       unfold lateP at hh
       obtain ⟨a1, a2, a3, a4⟩ := hh
       first
         | omega
         | (rcases a3 with a3 | a3
            · exact a3 (List.length_eq_zero_iff.1 (by omega))
            · omega))
    | skip
  all_goals
    have hne : p.late ≠ [] ∨ p.cap = 0 := by
      first
        | exact .inr g
        | exact .inl fun e => by rw [e] at g; simp at g
    have hfin : (tiersP none p.late → K (.ret (.tup [])) []) ∧ (¬ tiersP none p.late → K (.pan (.ifc 88 (.agg []))) []) :=
      ⟨fun hh => h0 ⟨by omega, by omega, hne, hh⟩, fun hh => h1 fun h => hh h.2.2.2⟩
    clear h0 h1
    obtain ⟨h0, h1⟩ := hfin
    let CC : List V := [.str p.name, .int .i64 p.count, .int .i64 p.rnd, .int .i64 p.kind, .int .i64 p.every, .int .i64 p.times, .int .i64 p.grace, .int .i64 p.rate, .sl T .no, .int .i64 p.pen, .int .i64 p.o1, .int .i64 p.o2, .int .i64 p.o3, .int .i64 p.o4, .int .i64 p.over, .sl (tL p.late) .no, .int .i64 p.cap, .int .i64 p.roll, .sl H .no]
    let S : Nat → St := fun i => ⟨(.undef :: .ptr 0 0 :: .ptr 1 0 :: .undef :: .undef :: .undef :: .undef :: .undef :: .undef :: .undef :: .undef :: .undef :: .undef :: .undef :: .undef :: .undef :: .undef :: .undef :: .undef :: .undef :: .undef :: .undef :: .undef :: .undef :: .undef :: .undef :: .undef :: .undef :: .undef :: .sl (tL p.late) .no :: .int .i64 (p.late.length : Nat) :: .int .i64 (i : Nat) :: .undef :: .undef :: .undef :: .undef :: .undef :: .undef :: .undef :: .undef :: .undef :: .undef :: .undef :: .undef :: .undef :: .undef :: .undef :: .undef :: .undef :: .undef :: .undef :: .undef :: .undef :: .undef :: .undef :: .undef :: .undef :: .undef :: .undef :: .undef :: .undef :: .undef :: .undef :: .undef :: .undef :: .undef :: .undef :: .undef :: .undef :: .undef :: .undef :: .undef :: .undef :: []), [.cells true 90 CC, .cells true 28 CC], 0, []⟩
    refine VLoop.enter (s' := S 0) (weak_of ?_ (.cons (.eq rfl) (.cons (.eq rfl) .nil)) rfl rfl rfl)
      (VLoop.indW S (fun i => p.late.length - i) (fun i => i ≤ p.late.length ∧ (tiersP none p.late ↔ tiersP (pvO p.late i) (p.late.drop i))) ?_ 0 ⟨by omega, Iff.rfl⟩)
    · repeat' first
        | exact VWs.nil
        | refine VWs.cons VW.undef ?_
        | refine VWs.cons (VW.eq rfl) ?_
        | refine VWs.cons (VW.eq (by rw [hrl])) ?_
    rintro i ⟨hi, hinv⟩ ih
    refine loop_round [] ?_; conv => whnf
    (repeat' first | (refine step_go [] ?_; conv => whnf) | (refine two (fun g => ?_) (fun g => ?_) <;> (try simp only [bsx] at g) <;> (conv => whnf)) | (refine And.intro rfl ?_; conv => whnf) | fail)
    · have hil : i < p.late.length := by omega
      have hget : (tL p.late)[((i : Nat) : Int).toNat]? = some (encT p.late[i]) := by rw [Int.toNat_natCast]; simp [tL, List.getElem?_eq_getElem hil]
      have hdrop : p.late.drop i = p.late[i] :: p.late.drop (i + 1) := List.drop_eq_getElem_cons hil
      obtain ⟨q, hq1, hq2⟩ := prev_ex encT p.late i hil (by omega)
      have hpv := pvO_succ hil
      obtain ⟨d, hd⟩ : ∃ d, p.late[i] = d := ⟨_, rfl⟩
      rw [hd] at hget hdrop hpv
      rw [hdrop] at hinv
      conv at hinv => rhs; unfold tiersP
      rw [← hpv] at hinv
      refine ⟨by omega, _, hget, rfl, ?_⟩
      have wi : IntKind.i64.wrap ((i : Int) + 1) = ((i + 1 : Nat) : Int) := by rw [wrap64 (by omega) (by omega)]; omega
      have hpan : ¬ ((1 ≤ d.days ∧ d.days ≤ 365) ∧ (0 ≤ d.fee ∧ d.fee ≤ 10000000000000) ∧ (0 < i → q.days < d.days ∧ q.fee ≤ d.fee)) → K (.pan (.ifc 88 (.agg []))) [] := fun hh => h1 fun h => hh (by
        obtain ⟨a, b, c, _⟩ := hinv.1 h
        exact ⟨a, b, fun h0 => c q ((hq2 q).2 ⟨h0, rfl⟩)⟩)
      have hnext : (1 ≤ d.days ∧ d.days ≤ 365) ∧ (0 ≤ d.fee ∧ d.fee ≤ 10000000000000) ∧ (0 < i → q.days < d.days ∧ q.fee ≤ d.fee) → VLoop _ _ _ (S (i + 1)) _ := fun hh => ih (i + 1) ⟨by omega, hinv.trans ⟨fun h => h.2.2.2, fun h => ⟨hh.1, hh.2.1, fun x hx => by obtain ⟨h0, rfl⟩ := (hq2 x).1 hx; exact hh.2.2 h0, h⟩⟩⟩ (by omega)
      conv => whnf
      (repeat' first | (refine step_go [] ?_; conv => whnf) | (refine two (fun g => ?_) (fun g => ?_) <;> (try simp only [bsx] at g) <;> (conv => whnf)) | (refine And.intro rfl ?_; conv => whnf) | (refine dr_go (by decide +kernel) ?_; conv => whnf) | (refine c_within _ _ _ _ ?_; conv => whnf) | (refine c_within64 _ _ _ _ ?_; conv => whnf) | (refine c_must _ _ ?_; conv => whnf) | (refine ⟨by rw [wrap64 (by omega) (by omega)]; omega, _, hq1 (by omega), rfl, ?_⟩; conv => whnf) | fail)
      all_goals first
        | (refine hpan fun hh => ?_; omega)
        | (refine weak_sel (src := [0, 1]) ?_; conv => whnf
           refine VLoop.enter (s' := S (i + 1)) (weak_of (by rw [wi]; (repeat' first | exact VWs.nil | refine VWs.cons VW.undef ?_ | refine VWs.cons (VW.eq rfl) ?_)) (.cons (.eq rfl) (.cons (.eq rfl) .nil)) rfl rfl rfl) (hnext (by omega)))
    · have hil : i = p.late.length := by omega
      subst hil
      rw [List.drop_length] at hinv
      refine ⟨_, Weak.refl, ?_⟩
      conv => whnf
      (repeat' first | (refine step_go [] ?_; conv => whnf) | (refine two (fun g => ?_) (fun g => ?_) <;> (try simp only [bsx] at g) <;> (conv => whnf)) | (refine And.intro rfl ?_; conv => whnf) | fail)
      exact h0 (hinv.2 trivial)
theorem hol_get {l : List Int} {i : Nat} (hi : i < l.length) : (iL l)[((i : Nat) : Int).toNat]? = some (.int .i64 l[i]) := by rw [Int.toNat_natCast]; simp [iL, List.getElem?_eq_getElem hi]
set_option maxHeartbeats 2000000 in
theorem c_bnew (l : List Int) (hl : l.length < 1000000) (K : Out → List VObj → Prop) (h0 : l.length ≤ 200 ∧ holP none l → K (.ret (.tup [.ptr 0 0, .int .i64 0])) [.cells true 133 [.sl (iL l) .no]])
    (h1 : ¬ (l.length ≤ 200 ∧ holP none l) → K (.ret (.tup [.nilp, .int .i64 1])) []) : VCall Tryz.prog 85 [.sl (iL l) .no] [] K := by
  have hil := iL_len l
  refine call_fun [] 0 Tryz.func85 (by rfl) (by rfl) ?_
  conv => whnf
  (repeat' first | (refine step_go [] ?_; conv => whnf) | (refine two (fun g => ?_) (fun g => ?_) <;> (try simp only [bsx, hil] at g) <;> (conv => whnf)) | (refine And.intro rfl ?_; conv => whnf) | fail)
  · exact h1 (by omega)
  have hfin : (holP none l → K (.ret (.tup [.ptr 0 0, .int .i64 0])) [.cells true 133 [.sl (iL l) .no]]) ∧ (¬ holP none l → K (.ret (.tup [.nilp, .int .i64 1])) []) :=
    ⟨fun hh => h0 ⟨by omega, hh⟩, fun hh => h1 fun h => hh h.2⟩
  clear h0 h1
  obtain ⟨h0, h1⟩ := hfin
  let S : Nat → St := fun i => ⟨(.sl (iL l) .no :: .undef :: .nilp :: .int .i64 0 :: .undef :: .undef :: .undef :: .undef :: .undef :: .sl (iL l) .no :: .int .i64 (l.length : Nat) :: .int .i64 (i : Nat) :: .undef :: .undef :: .undef :: .undef :: .undef :: .undef :: .undef :: .undef :: .undef :: .undef :: .undef :: .undef :: .undef :: .undef :: .undef :: .undef :: .undef :: .undef :: .undef :: .undef :: .undef :: .undef :: .undef :: .undef :: .undef :: []), [], 0, []⟩
  refine VLoop.enter (s' := S 0) (weak_of ?_ .nil rfl rfl rfl)
    (VLoop.indW S (fun i => l.length - i) (fun i => i ≤ l.length ∧ (holP none l ↔ holP (pvO l i) (l.drop i))) ?_ 0 ⟨by omega, Iff.rfl⟩)
  · repeat' first
      | exact VWs.nil
      | refine VWs.cons VW.undef ?_
      | refine VWs.cons (VW.eq rfl) ?_
      | refine VWs.cons (VW.eq (by rw [hil])) ?_
  rintro i ⟨hi, hinv⟩ ih
  refine loop_round [] ?_; conv => whnf
  (repeat' first | (refine step_go [] ?_; conv => whnf) | (refine two (fun g => ?_) (fun g => ?_) <;> (try simp only [bsx] at g) <;> (conv => whnf)) | (refine And.intro rfl ?_; conv => whnf) | fail)
  · have hil2 : i < l.length := by omega
    have hget := hol_get hil2
    have hdrop : l.drop i = l[i] :: l.drop (i + 1) := List.drop_eq_getElem_cons hil2
    obtain ⟨q, hq1, hq2⟩ := prev_ex (V.int .i64) l i hil2 (by omega)
    have hpv := pvO_succ hil2
    obtain ⟨d, hd⟩ : ∃ d, l[i] = d := ⟨_, rfl⟩
    rw [hd] at hget hdrop hpv
    rw [hdrop] at hinv
    conv at hinv => rhs; unfold holP
    rw [← hpv] at hinv
    refine ⟨by omega, _, hget, rfl, ?_⟩
    have wi : IntKind.i64.wrap ((i : Int) + 1) = ((i + 1 : Nat) : Int) := by rw [wrap64 (by omega) (by omega)]; omega
    have hst : ¬ ((-25567 ≤ d ∧ d ≤ 84370) ∧ (0 < i → q < d)) → K (.ret (.tup [.nilp, .int .i64 1])) [] := fun hh => h1 fun h => hh (by
      obtain ⟨a, c, _⟩ := hinv.1 h
      exact ⟨a, fun h0 => c q ((hq2 q).2 ⟨h0, rfl⟩)⟩)
    have hnext : (-25567 ≤ d ∧ d ≤ 84370) ∧ (0 < i → q < d) → VLoop _ _ _ (S (i + 1)) _ := fun hh => ih (i + 1) ⟨by omega, hinv.trans ⟨fun h => h.2.2, fun h => ⟨hh.1, fun x hx => by obtain ⟨h0, rfl⟩ := (hq2 x).1 hx; exact hh.2 h0, h⟩⟩⟩ (by omega)
    conv => whnf
    (repeat' first | (refine step_go [] ?_; conv => whnf) | (refine two (fun g => ?_) (fun g => ?_) <;> (try simp only [bsx] at g) <;> (conv => whnf)) | (refine And.intro rfl ?_; conv => whnf) | (refine dr_go (by decide +kernel) ?_; conv => whnf) | (refine c_there _ _ ?_; conv => whnf) | (refine ⟨by rw [wrap64 (by omega) (by omega)]; omega, _, hq1 (by omega), rfl, ?_⟩; conv => whnf) | fail)
    all_goals first
      | (refine ⟨_, Weak.refl, ?_⟩; conv => whnf
         (repeat' first | (refine step_go [] ?_; conv => whnf) | (refine two (fun g => ?_) (fun g => ?_) <;> (try simp only [bsx] at g) <;> (conv => whnf)) | (refine And.intro rfl ?_; conv => whnf) | fail)
         exact hst (by omega))
      | exact ⟨S (i + 1), weak_of (by rw [wi]; (repeat' first | exact VWs.nil | refine VWs.cons VW.undef ?_ | refine VWs.cons (VW.eq rfl) ?_)) .nil rfl rfl rfl, hnext (by omega)⟩
  · have hil2 : i = l.length := by omega
    subst hil2
    rw [List.drop_length] at hinv
    refine ⟨_, Weak.refl, ?_⟩
    conv => whnf
    (repeat' first | (refine step_go [] ?_; conv => whnf) | (refine two (fun g => ?_) (fun g => ?_) <;> (try simp only [bsx] at g) <;> (conv => whnf)) | (refine And.intro rfl ?_; conv => whnf) | fail)
    refine c_Clone l hl _ ?_
    conv => whnf
    (repeat' first | (refine step_go [] ?_; conv => whnf) | (refine two (fun g => ?_) (fun g => ?_) <;> (try simp only [bsx] at g) <;> (conv => whnf)) | (refine And.intro rfl ?_; conv => whnf) | fail)
    exact h0 (hinv.2 trivial)
theorem c_ldays (p : Prod) (hp : p.ok) (K : Out → List VObj → Prop) (h0 : daysP p → K (.ret (.tup [])) []) (h1 : ¬ daysP p → K (.pan (.ifc 88 (.agg []))) []) : VCall Tryz.prog 50 [encP p] [] K := by
  have hlen := hp.lh
  unfold encP cellsP
  obtain ⟨T, hT⟩ : ∃ T, rL p.resets = T := ⟨_, rfl⟩
  obtain ⟨H, hH⟩ : ∃ H, tL p.late = H := ⟨_, rfl⟩
  have hil := iL_len p.hol
  rw [hT, hH]
  refine call_fun [] 0 Tryz.func50 (by rfl) (by rfl) ?_
  conv => whnf
  (repeat' first | (refine step_go [] ?_; conv => whnf) | (refine two (fun g => ?_) (fun g => ?_) <;> (try simp only [bsx] at g) <;> (conv => whnf)) | (refine And.intro rfl ?_; conv => whnf) | fail)
  refine c_bnew p.hol hlen _ (fun hh => ?_) (fun hh => ?_)
  · conv => whnf
    (repeat' first | (refine step_go [] ?_; conv => whnf) | (refine two (fun g => ?_) (fun g => ?_) <;> (try simp only [bsx, hil] at g) <;> (conv => whnf)) | (refine And.intro rfl ?_; conv => whnf) | (refine c_within _ _ _ _ ?_; conv => whnf) | (refine c_must _ _ ?_; conv => whnf) | fail)
    all_goals first
      | (refine h0 ⟨hh, by omega, ?_⟩
         first
           | exact .inl g
           | exact .inr (List.length_eq_zero_iff.1 (by omega)))
      | (refine h1 fun h => ?_
         obtain ⟨_, a2, a3⟩ := h
         first
           | omega
           | (rcases a3 with a3 | a3
              · contradiction
              · rw [a3] at g; simp at g))
  · conv => whnf
    (repeat' first | (refine step_go [] ?_; conv => whnf) | (refine two (fun g => ?_) (fun g => ?_) <;> (try simp only [bsx, hil] at g) <;> (conv => whnf)) | (refine And.intro rfl ?_; conv => whnf) | (refine c_within _ _ _ _ ?_; conv => whnf) | (refine c_must _ _ ?_; conv => whnf) | fail)
    exact h1 fun h => hh h.1
end C12

namespace C13
open Go Go.Proofs VL D1 B10 BB6 BB10 BB14 C1 C2 C6 C10 C11 C12
set_option maxRecDepth 100000
set_option maxHeartbeats 2000000 in
theorem c_lorder (p : Prod) (K : Out → List VObj → Prop) (h0 : overP p → K (.ret (.tup [])) []) (h1 : ¬ overP p → K (.pan (.ifc 88 (.agg []))) []) : VCall Tryz.prog 48 [encP p] [] K := by
  unfold encP cellsP
  obtain ⟨T, hT⟩ : ∃ T, rL p.resets = T := ⟨_, rfl⟩
  obtain ⟨H, hH⟩ : ∃ H, tL p.late = H := ⟨_, rfl⟩
  obtain ⟨I, hI⟩ : ∃ I, iL p.hol = I := ⟨_, rfl⟩
  rw [hT, hH, hI]
  refine call_fun [] 0 Tryz.func48 (by rfl) (by rfl) ?_
  conv => whnf
  obtain ⟨a, ha⟩ : ∃ a, p.o1 = a := ⟨_, rfl⟩
  obtain ⟨b, hb⟩ : ∃ b, p.o2 = b := ⟨_, rfl⟩
  obtain ⟨c, hc⟩ : ∃ c, p.o3 = c := ⟨_, rfl⟩
  obtain ⟨d, hd⟩ : ∃ d, p.o4 = d := ⟨_, rfl⟩
  have hov : overP p ↔ orderP a b c d ∧ (1 ≤ p.over ∧ p.over ≤ 3) := by unfold overP; rw [ha, hb, hc, hd]
  rw [hov] at h0 h1
  clear hov
  rw [ha, hb, hc, hd]
  clear ha hb hc hd
  (repeat' first | (refine step_go [] ?_; conv => whnf) | (refine two (fun g => ?_) (fun g => ?_) <;> (try simp only [bsx] at g) <;> (conv => whnf)) | (refine And.intro rfl ?_; conv => whnf) | (refine loop_round [] ?_; conv => whnf) | (refine c_within _ _ _ _ ?_; conv => whnf) | (refine c_must _ _ ?_; conv => whnf) | (refine ⟨_, Weak.refl, ?_⟩; conv => whnf) | (refine ⟨by decide, by decide, ?_⟩; conv => whnf) | ((obtain rfl | rfl | rfl | rfl : a = 1 ∨ a = 2 ∨ a = 3 ∨ a = 4 := by omega) <;> (refine ⟨by decide, by decide, ?_⟩; conv => whnf)) | ((obtain rfl | rfl | rfl | rfl : b = 1 ∨ b = 2 ∨ b = 3 ∨ b = 4 := by omega) <;> (refine ⟨by decide, by decide, ?_⟩; conv => whnf)) | ((obtain rfl | rfl | rfl | rfl : c = 1 ∨ c = 2 ∨ c = 3 ∨ c = 4 := by omega) <;> (refine ⟨by decide, by decide, ?_⟩; conv => whnf)) | ((obtain rfl | rfl | rfl | rfl : d = 1 ∨ d = 2 ∨ d = 3 ∨ d = 4 := by omega) <;> (refine ⟨by decide, by decide, ?_⟩; conv => whnf)) | fail)
  all_goals first
    | (refine h0 ⟨by unfold orderP; omega, by omega⟩)
    | (refine h1 fun hh => ?_
       unfold orderP at hh
       omega)
    | trace_state
  all_goals done
end C13

namespace C14
open Go Go.Proofs VL D1 B10 BB6 BB10 BB14 C1 C2 C6 C10 C11 C12 C13
set_option maxRecDepth 100000
theorem d_chk0 (x : Int) (K) (h : K false [.cells true 29 [.int .i64 x]]) : VCallD Tryz.prog 45 [.ptr 0 0] [.cells true 29 [.int .i64 x]] none K := by
  refine calld_fun [] 1 Tryz.func45 (by rfl) (by rfl) ?_
  conv => whnf
  refine ⟨rfl, ?_⟩
  conv => whnf
  (repeat' first | (refine step_go [] ?_; conv => whnf) | (refine two (fun g => ?_) (fun g => ?_) <;> (try simp only [bsx] at g) <;> (conv => whnf)) | (refine And.intro rfl ?_; conv => whnf) | (refine dr_go (by decide +kernel) ?_; conv => whnf) | fail)
  exact h
theorem d_chk1 (x : Int) (K) (h : K true [.cells true 29 [.int .i64 9]]) : VCallD Tryz.prog 45 [.ptr 0 0] [.cells true 29 [.int .i64 x]] (some (.ifc 88 (.agg []))) K := by
  refine calld_fun [] 1 Tryz.func45 (by rfl) (by rfl) ?_
  conv => whnf
  refine ⟨rfl, ?_⟩
  conv => whnf
  (repeat' first | (refine step_go [] ?_; conv => whnf) | (refine two (fun g => ?_) (fun g => ?_) <;> (try simp only [bsx] at g) <;> (conv => whnf)) | (refine And.intro rfl ?_; conv => whnf) | (refine dr_go (by decide +kernel) ?_; conv => whnf) | fail)
  exact h
set_option maxHeartbeats 4000000 in
theorem c_Check (p : Prod) (hp : p.ok) (K : Out → List VObj → Prop) (h : K (.ret (.int .i64 (checkC p))) []) : VCall Tryz.prog 21 [encP p] [] K := by
  have h9 : ¬ checkP p → K (.ret (.int .i64 9)) [] := fun hh => by unfold checkC at h; rw [if_neg hh] at h; exact h
  have h0 : checkP p → K (.ret (.int .i64 0)) [] := fun hh => by unfold checkC at h; rw [if_pos hh] at h; exact h
  clear h
  unfold encP cellsP
  refine call_fun [] 0 Tryz.func21 (by rfl) (by rfl) ?_
  conv => whnf
  (repeat' first | (refine step_go [] ?_; conv => whnf) | (refine two (fun g => ?_) (fun g => ?_) <;> (try simp only [bsx] at g) <;> (conv => whnf)) | (refine And.intro rfl ?_; conv => whnf) | (refine loop_round [] ?_; conv => whnf) | (refine ⟨_, Weak.refl, ?_⟩; conv => whnf) | (refine ⟨by decide, _, rfl, rfl, ?_⟩; conv => whnf) | fail)
  refine c_shape p hp (fun K h => c_Name p.name hp.name K h) _ (fun a1 => ?_) (fun a1 => ?_)
  rotate_left
  · conv => whnf
    (repeat' first | (refine step_go [] ?_; conv => whnf) | (refine two (fun g => ?_) (fun g => ?_) <;> (try simp only [bsx] at g) <;> (conv => whnf)) | (refine And.intro rfl ?_; conv => whnf) | (refine d_chk1 _ _ ?_; conv => whnf) | fail)
    exact h9 fun hh => a1 hh.1
  conv => whnf
  (repeat' first | (refine step_go [] ?_; conv => whnf) | (refine two (fun g => ?_) (fun g => ?_) <;> (try simp only [bsx] at g) <;> (conv => whnf)) | (refine And.intro rfl ?_; conv => whnf) | (refine loop_round [] ?_; conv => whnf) | (refine ⟨_, Weak.refl, ?_⟩; conv => whnf) | (refine ⟨by decide, _, rfl, rfl, ?_⟩; conv => whnf) | fail)
  refine c_lrates p hp a1.2.2.1 _ (fun a2 => ?_) (fun a2 => ?_)
  rotate_left
  · conv => whnf
    (repeat' first | (refine step_go [] ?_; conv => whnf) | (refine two (fun g => ?_) (fun g => ?_) <;> (try simp only [bsx] at g) <;> (conv => whnf)) | (refine And.intro rfl ?_; conv => whnf) | (refine d_chk1 _ _ ?_; conv => whnf) | fail)
    exact h9 fun hh => a2 hh.2.1
  conv => whnf
  (repeat' first | (refine step_go [] ?_; conv => whnf) | (refine two (fun g => ?_) (fun g => ?_) <;> (try simp only [bsx] at g) <;> (conv => whnf)) | (refine And.intro rfl ?_; conv => whnf) | (refine loop_round [] ?_; conv => whnf) | (refine ⟨_, Weak.refl, ?_⟩; conv => whnf) | (refine ⟨by decide, _, rfl, rfl, ?_⟩; conv => whnf) | fail)
  refine c_lorder p _ (fun a3 => ?_) (fun a3 => ?_)
  rotate_left
  · conv => whnf
    (repeat' first | (refine step_go [] ?_; conv => whnf) | (refine two (fun g => ?_) (fun g => ?_) <;> (try simp only [bsx] at g) <;> (conv => whnf)) | (refine And.intro rfl ?_; conv => whnf) | (refine d_chk1 _ _ ?_; conv => whnf) | fail)
    exact h9 fun hh => a3 hh.2.2.1
  conv => whnf
  (repeat' first | (refine step_go [] ?_; conv => whnf) | (refine two (fun g => ?_) (fun g => ?_) <;> (try simp only [bsx] at g) <;> (conv => whnf)) | (refine And.intro rfl ?_; conv => whnf) | (refine loop_round [] ?_; conv => whnf) | (refine ⟨_, Weak.refl, ?_⟩; conv => whnf) | (refine ⟨by decide, _, rfl, rfl, ?_⟩; conv => whnf) | fail)
  refine c_llate p hp _ (fun a4 => ?_) (fun a4 => ?_)
  rotate_left
  · conv => whnf
    (repeat' first | (refine step_go [] ?_; conv => whnf) | (refine two (fun g => ?_) (fun g => ?_) <;> (try simp only [bsx] at g) <;> (conv => whnf)) | (refine And.intro rfl ?_; conv => whnf) | (refine d_chk1 _ _ ?_; conv => whnf) | fail)
    exact h9 fun hh => a4 hh.2.2.2.1
  conv => whnf
  (repeat' first | (refine step_go [] ?_; conv => whnf) | (refine two (fun g => ?_) (fun g => ?_) <;> (try simp only [bsx] at g) <;> (conv => whnf)) | (refine And.intro rfl ?_; conv => whnf) | (refine loop_round [] ?_; conv => whnf) | (refine ⟨_, Weak.refl, ?_⟩; conv => whnf) | (refine ⟨by decide, _, rfl, rfl, ?_⟩; conv => whnf) | fail)
  refine c_ldays p hp _ (fun a5 => ?_) (fun a5 => ?_)
  rotate_left
  · conv => whnf
    (repeat' first | (refine step_go [] ?_; conv => whnf) | (refine two (fun g => ?_) (fun g => ?_) <;> (try simp only [bsx] at g) <;> (conv => whnf)) | (refine And.intro rfl ?_; conv => whnf) | (refine d_chk1 _ _ ?_; conv => whnf) | fail)
    exact h9 fun hh => a5 hh.2.2.2.2
  conv => whnf
  (repeat' first | (refine step_go [] ?_; conv => whnf) | (refine two (fun g => ?_) (fun g => ?_) <;> (try simp only [bsx] at g) <;> (conv => whnf)) | (refine And.intro rfl ?_; conv => whnf) | (refine loop_round [] ?_; conv => whnf) | (refine ⟨_, Weak.refl, ?_⟩; conv => whnf) | (refine ⟨by decide, _, rfl, rfl, ?_⟩; conv => whnf) | (refine d_chk0 _ _ ?_; conv => whnf) | fail)
  exact h0 ⟨a1, a2, a3, a4, a5⟩
end C14

namespace C15
open Go Go.Proofs VL D1 B10 BB6 BB10 BB14 C1 C2 C6 C10 C11 C12 C13 C14
set_option maxRecDepth 100000
def sL (l : List (List Int)) : List V := l.map fun w => .str (toBA w)
end C15

namespace C16
open Go Go.Proofs VL D1 B10 BB6 BB10 BB14 C1 C2 C6 C10 C11 C12 C13 C14 C15
set_option maxRecDepth 100000
end C16

namespace C17
open Go Go.Proofs VL D1 B10 BB6 BB10 BB14 C1 C2 C6 C10 C11 C12 C13 C14 C15 C16
set_option maxRecDepth 100000
end C17

namespace C18
open Go Go.Proofs VL D1 B10 BB6 BB10 BB14 C1 C2 C6 C10 C11 C12 C13 C14 C15 C16 C17
set_option maxRecDepth 100000
end C18

namespace C19
open Go Go.Proofs VL D1 B10 BB4 BB5 BB6 BB10 BB14 C1 C2 C6
set_option maxRecDepth 100000
def DateP (y m d : Nat) : Prop := (1900 ≤ y ∧ y ≤ 2200) ∧ (1 ≤ m ∧ m ≤ 12) ∧ (1 ≤ d ∧ d ≤ mlen y m)
instance (y m d : Nat) : Decidable (DateP y m d) := inferInstanceAs (Decidable (_ ∧ _))
def numberD (y m d : Nat) : Int × Int := if DateP y m d then (opens y + cum y m + d - 1, 0) else (0, 5)
theorem c_month0 (y m : Nat) (h1 : m = 0 ∨ 12 < m) (hm : m ≤ 99) (K) (h : K (.ret (.int .i64 0)) []) : VCall Tryz.prog 157 [.int .i64 (y : Int), .int .i64 (m : Int)] [] K := by
  refine call_fun [] 0 Tryz.func157 (by rfl) (by rfl) ?_
  conv => whnf
  (repeat' first | (refine step_go [] ?_; conv => whnf) | (refine two (fun g => ?_) (fun g => ?_) <;> (try simp only [bsx] at g) <;> (conv => whnf)) | (refine And.intro rfl ?_; conv => whnf) | (refine ⟨_, Weak.refl, ?_⟩; conv => whnf) | fail)
  all_goals first
    | exact h
    | (exfalso; omega)
    | trace_state
set_option maxHeartbeats 2000000 in
theorem c_cnum (y m d : Nat) (hy : y ≤ 9999) (hm : m ≤ 99) (hd : d ≤ 99) (K : Out → List VObj → Prop) (h : K (.ret (.tup [.int .i64 (numberD y m d).1, .int .i64 (numberD y m d).2])) []) :
    VCall Tryz.prog 145 [.agg [.int .i64 (y : Int), .int .i64 (m : Int), .int .i64 (d : Int)]] [] K := by
  have hno : ¬ DateP y m d → K (.ret (.tup [.int .i64 0, .int .i64 5])) [] := fun hh => by unfold numberD at h; rw [if_neg hh] at h; exact h
  have hyes : DateP y m d → K (.ret (.tup [.int .i64 (opens y + cum y m + d - 1), .int .i64 0])) [] := fun hh => by unfold numberD at h; rw [if_pos hh] at h; exact h
  clear h
  have hml := mlen_le y m
  refine call_fun [] 0 Tryz.func145 (by rfl) (by rfl) ?_
  conv => whnf
  by_cases hmr : 1 ≤ m ∧ m ≤ 12
  · (repeat' first | (refine step_go [] ?_; conv => whnf) | (refine two (fun g => ?_) (fun g => ?_) <;> (try simp only [bsx] at g) <;> (conv => whnf)) | (refine And.intro rfl ?_; conv => whnf) | (refine dr_go (by decide +kernel) ?_; conv => whnf) | (refine c_month y m hmr.1 hmr.2 _ ?_; conv => whnf) | fail)
    all_goals first
      | (refine hno fun hh => ?_; unfold DateP at hh; omega)
      | skip
    have ho : -25567 ≤ opens y ∧ opens y ≤ 90000 := by unfold opens; omega
    have hcm : ∀ j, j ≤ m → cum y j ≤ 400 := fun j hj => by
      rcases Nat.eq_zero_or_pos j with rfl | h0
      · simp [cum]
      · have := cum_mono (y := y) h0 (Nat.le_trans hj hmr.2); have h12 := cum12 y; split at h12 <;> omega
    refine c_opens y (by omega) (by omega) _ ?_
    conv => whnf
    (repeat' first | (refine step_go [] ?_; conv => whnf) | (refine two (fun g => ?_) (fun g => ?_) <;> (try simp only [bsx] at g) <;> (conv => whnf)) | (refine And.intro rfl ?_; conv => whnf) | (refine dr_go (by decide +kernel) ?_; conv => whnf) | fail)
    let S : Nat → St := fun j => ⟨(.undef :: .ptr 0 0 :: .int .i64 0 :: .int .i64 0 :: .int .i64 (opens y + (d : Nat) - 1 + (cum y j : Nat)) :: .int .i64 (j : Nat) :: .undef :: .undef :: .undef :: .undef :: .undef :: .undef :: .undef :: .undef :: .undef :: .undef :: .undef :: .undef :: .undef :: .undef :: .undef :: .undef :: .undef :: .undef :: .undef :: .undef :: .undef :: .undef :: .undef :: .undef :: .undef :: .undef :: .undef :: .undef :: .undef :: .undef :: .undef :: .undef :: .undef :: .undef :: .undef :: .undef :: .undef :: .undef :: .undef :: .undef :: .undef :: .undef :: .undef :: []), [.cells true 112 [.int .i64 (y : Int), .int .i64 (m : Int), .int .i64 (d : Int)]], 0, []⟩
    refine VLoop.enter (s' := S 1) (weak_of ?_ (.cons (.eq rfl) .nil) rfl rfl rfl)
      (VLoop.indW S (fun j => m - j) (fun j => 1 ≤ j ∧ j ≤ m) ?_ 1 ⟨by omega, by omega⟩)
    · repeat' first
        | exact VWs.nil
        | refine VWs.cons VW.undef ?_
        | refine VWs.cons (VW.eq rfl) ?_
        | refine VWs.cons (VW.eq (congrArg (V.int .i64) (by rw [wrap64 (x := opens y + (d : Int)) (by omega) (by omega), wrap64 (by omega) (by omega)]; simp [cum]))) ?_
    rintro j ⟨hj1, hj⟩ ih
    have hcj := hcm j hj
    refine loop_round [] ?_; conv => whnf
    (repeat' first | (refine step_go [] ?_; conv => whnf) | (refine two (fun g => ?_) (fun g => ?_) <;> (try simp only [bsx] at g) <;> (conv => whnf)) | (refine And.intro rfl ?_; conv => whnf) | (refine dr_go (by decide +kernel) ?_; conv => whnf) | (refine c_month y j hj1 (by omega) _ ?_; conv => whnf) | fail)
    · have hcs := cum_step (y := y) hj1
      have hmj := mlen_le y j
      have wj : IntKind.i64.wrap ((j : Int) + 1) = ((j + 1 : Nat) : Int) := by rw [wrap64 (by omega) (by omega)]; omega
      have wn : IntKind.i64.wrap (opens y + (d : Nat) - 1 + (cum y j : Nat) + (mlen y j : Nat)) = opens y + (d : Nat) - 1 + (cum y (j + 1) : Nat) := by rw [wrap64 (by omega) (by omega), hcs]; omega
      exact ⟨S (j + 1), weak_of (by rw [wj, wn]; (repeat' first | exact VWs.nil | refine VWs.cons VW.undef ?_ | refine VWs.cons (VW.eq rfl) ?_)) (.cons (.eq rfl) .nil) rfl rfl rfl, ih (j + 1) ⟨by omega, by omega⟩ (by omega)⟩
    · have hjm : j = m := by omega
      subst hjm
      refine ⟨_, Weak.refl, ?_⟩; conv => whnf
      (repeat' first | (refine step_go [] ?_; conv => whnf) | (refine two (fun g => ?_) (fun g => ?_) <;> (try simp only [bsx] at g) <;> (conv => whnf)) | (refine And.intro rfl ?_; conv => whnf) | (refine dr_go (by decide +kernel) ?_; conv => whnf) | fail)
      refine Eq.mp (congrArg (fun v => K (.ret (.tup [.int .i64 v, .int .i64 0])) []) ?_) (hyes ⟨by omega, by omega, by omega⟩)
      omega
  · (repeat' first | (refine step_go [] ?_; conv => whnf) | (refine two (fun g => ?_) (fun g => ?_) <;> (try simp only [bsx] at g) <;> (conv => whnf)) | (refine And.intro rfl ?_; conv => whnf) | (refine dr_go (by decide +kernel) ?_; conv => whnf) | (refine c_month0 y m (by omega) hm _ ?_; conv => whnf) | fail)
    all_goals first
      | (refine hno fun hh => ?_; unfold DateP at hh; omega)
      | (exfalso; omega)
      | trace_state
end C19

namespace C20
open Go Go.Proofs VL D1 B10 BB4 BB5 BB6 BB10 BB14 C1 C2 C6 C19
set_option maxRecDepth 100000
set_option maxHeartbeats 2000000 in
theorem c_digs (s : ByteArray) (hs : s.size < 1000000) (a b : Nat) (hab : a ≤ b) (hb : b ≤ s.size) (h4 : b ≤ a + 4) (K : Out → List VObj → Prop)
    (h0 : (∀ x ∈ ((sB s).take b).drop a, Dig x) → K (.ret (.tup [.int .i64 (vl (((sB s).take b).drop a) : Nat), .bool true])) [])
    (h1 : ¬ (∀ x ∈ ((sB s).take b).drop a, Dig x) → K (.ret (.tup [.int .i64 0, .bool false])) []) :
    VCall Tryz.prog 144 [.agg [.str s], .int .i64 (a : Int), .int .i64 (b : Int)] [] K := by
  have hsl := sB_len s
  refine call_fun [] 0 Tryz.func144 (by rfl) (by rfl) ?_
  conv => whnf
  (repeat' first | (refine step_go [] ?_; conv => whnf) | (refine two (fun g => ?_) (fun g => ?_) <;> (try simp only [bsx] at g) <;> (conv => whnf)) | (refine And.intro rfl ?_; conv => whnf) | (refine dr_go (by decide +kernel) ?_; conv => whnf) | fail)
  refine ⟨by omega, by omega, by omega, ?_⟩
  conv => whnf
  (repeat' first | (refine step_go [] ?_; conv => whnf) | (refine two (fun g => ?_) (fun g => ?_) <;> (try simp only [bsx] at g) <;> (conv => whnf)) | (refine And.intro rfl ?_; conv => whnf) | (refine dr_go (by decide +kernel) ?_; conv => whnf) | fail)
  obtain ⟨l, hl⟩ : ∃ l, ((sB s).take b).drop a = l := ⟨_, rfl⟩
  rw [hl] at h0 h1
  have hll : l.length = b - a := by rw [← hl]; simp; omega
  rw [bytesV_eq, Int.toNat_natCast, Int.toNat_natCast, sB_ext, hl]
  let S : Nat → St := fun i => ⟨(.undef :: .undef :: .undef :: .ptr 0 0 :: .undef :: .undef :: .int .i64 0 :: .bool false :: .int .i64 (vl (l.take i) : Nat) :: .undef :: .undef :: .undef :: .undef :: .undef :: .undef :: .undef :: .sl (bL l) .no :: .int .i64 (l.length : Nat) :: .int .i64 (i : Nat) :: .undef :: .undef :: .undef :: .undef :: .undef :: .undef :: .undef :: .undef :: .undef :: .undef :: .undef :: .undef :: .undef :: .undef :: .undef :: .undef :: .undef :: []), [.cells true 160 [.str s]], 0, []⟩
  refine VLoop.enter (s' := S 0) (weak_of ?_ (.cons (.eq rfl) .nil) rfl rfl rfl)
    (VLoop.indW S (fun i => l.length - i) (fun i => i ≤ l.length ∧ ∀ x ∈ l.take i, Dig x) ?_ 0 ⟨by omega, by simp⟩)
  · repeat' first
      | exact VWs.nil
      | refine VWs.cons VW.undef ?_
      | refine VWs.cons (VW.eq rfl) ?_
      | refine VWs.cons VW.no ?_
      | refine VWs.cons (VW.eq (by rw [bL_len])) ?_
  rintro i ⟨hi, hinv⟩ ih
  refine loop_round [] ?_; conv => whnf
  (repeat' first | (refine step_go [] ?_; conv => whnf) | (refine two (fun g => ?_) (fun g => ?_) <;> (try simp only [bsx] at g) <;> (conv => whnf)) | (refine And.intro rfl ?_; conv => whnf) | fail)
  · have hil : i < l.length := by omega
    have hx : l[i]? = some l[i] := List.getElem?_eq_getElem hil
    have hmem : l[i] ∈ l := List.getElem_mem _
    obtain ⟨x, hxx⟩ : ∃ x, l[i] = x := ⟨_, rfl⟩
    have htk : l.take (i + 1) = l.take i ++ [x] := by rw [List.take_succ_eq_append_getElem hil, hxx]
    rw [hxx] at hx hmem
    have hget : (bL l)[((i : Nat) : Int).toNat]? = some (.int .u8 x) := by rw [Int.toNat_natCast, bL_get, hx]; rfl
    have wi : IntKind.i64.wrap ((i : Int) + 1) = ((i + 1 : Nat) : Int) := by rw [wrap64 (by omega) (by omega)]; omega
    have hbd := vl_lt (l.take i) hinv
    have hp : 10 ^ (l.take i).length ≤ 10 ^ 4 := Nat.pow_le_pow_right (by omega) (by simp; omega)
    have hst : ¬ Dig x → K (.ret (.tup [.int .i64 0, .bool false])) [] := fun hx2 => h1 fun hh => hx2 (hh x hmem)
    unfold Dig at hst
    refine ⟨by omega, _, hget, rfl, ?_⟩
    conv => whnf
    (repeat' first | (refine step_go [] ?_; conv => whnf) | (refine two (fun g => ?_) (fun g => ?_) <;> (try simp only [bsx] at g) <;> (conv => whnf)) | (refine And.intro rfl ?_; conv => whnf) | fail)
    all_goals first
      | (refine ⟨_, Weak.refl, ?_⟩; conv => whnf
         (repeat' first | (refine step_go [] ?_; conv => whnf) | (refine two (fun g => ?_) (fun g => ?_) <;> (try simp only [bsx] at g) <;> (conv => whnf)) | (refine And.intro rfl ?_; conv => whnf) | fail)
         exact hst (by omega))
      | skip
    have wn : IntKind.i64.wrap (IntKind.i64.wrap (10 * ((vl (l.take i) : Nat) : Int)) + IntKind.i64.wrap (IntKind.u8.wrap (x - 48))) = (vl (l.take (i + 1)) : Nat) := by
      rw [show IntKind.u8.wrap (x - 48) = x - 48 by rw [IntKind.wrap_u8]; omega, wrap64 (x := x - 48) (by omega) (by omega), wrap64 (x := 10 * ((vl (l.take i) : Nat) : Int)) (by omega) (by omega), wrap64 (by omega) (by omega), htk, vl_snoc]; omega
    exact ⟨S (i + 1), weak_of (by rw [wi, wn]; (repeat' first | exact VWs.nil | refine VWs.cons VW.undef ?_ | refine VWs.cons (VW.eq rfl) ?_)) (.cons (.eq rfl) .nil) rfl rfl rfl, ih (i + 1) ⟨by omega, fun y hy => by
      rw [htk] at hy
      rcases List.mem_append.1 hy with hy | hy
      · exact hinv y hy
      · rw [List.mem_singleton.1 hy]; unfold Dig; omega⟩ (by omega)⟩
  · have hil : i = l.length := by omega
    subst hil
    rw [List.take_length] at hinv
    have h0 := h0 hinv
    refine ⟨_, Weak.refl, ?_⟩; conv => whnf
    rw [List.take_length]
    (repeat' first | (refine step_go [] ?_; conv => whnf) | (refine two (fun g => ?_) (fun g => ?_) <;> (try simp only [bsx] at g) <;> (conv => whnf)) | (refine And.intro rfl ?_; conv => whnf) | fail)
    exact h0
def dateF (l : List Int) : Prop := (l.length = 10 ∧ l[4]? = some 45 ∧ l[7]? = some 45) ∧ (∀ x ∈ (l.take 4).drop 0, Dig x) ∧ (∀ x ∈ (l.take 7).drop 5, Dig x) ∧ ∀ x ∈ (l.take 10).drop 8, Dig x
noncomputable instance (l : List Int) : Decidable (dateF l) := Classical.propDecidable _
noncomputable def takeD (l : List Int) : Int × Int := if dateF l then numberD (vl ((l.take 4).drop 0)) (vl ((l.take 7).drop 5)) (vl ((l.take 10).drop 8)) else (0, 4)
set_option maxHeartbeats 2000000 in
theorem c_Take (s : ByteArray) (hs : s.size < 1000000) (K : Out → List VObj → Prop) (h : K (.ret (.tup [.int .i64 (takeD (sB s)).1, .int .i64 (takeD (sB s)).2])) []) : VCall Tryz.prog 128 [.str s] [] K := by
  have hsl := sB_len s
  have hno : ¬ dateF (sB s) → K (.ret (.tup [.int .i64 0, .int .i64 4])) [] := fun hh => by unfold takeD at h; rw [if_neg hh] at h; exact h
  have hyes : dateF (sB s) → K (.ret (.tup [.int .i64 (numberD (vl (((sB s).take 4).drop 0)) (vl (((sB s).take 7).drop 5)) (vl (((sB s).take 10).drop 8))).1, .int .i64 (numberD (vl (((sB s).take 4).drop 0)) (vl (((sB s).take 7).drop 5)) (vl (((sB s).take 10).drop 8))).2])) [] := fun hh => by unfold takeD at h; rw [if_pos hh] at h; exact h
  clear h
  refine call_fun [] 0 Tryz.func128 (by rfl) (by rfl) ?_
  conv => whnf
  (repeat' first | (refine step_go [] ?_; conv => whnf) | (refine two (fun g => ?_) (fun g => ?_) <;> (try simp only [bsx] at g) <;> (conv => whnf)) | (refine And.intro rfl ?_; conv => whnf) | fail)
  · exact hno fun hh => by have := hh.1.1; omega
  have hsz : s.size = 10 := by omega
  have hg : ∀ i, i < 10 → (sB s)[i]? = some ((sB s).getD i 0) := fun i hi => by rw [List.getD_eq_getElem?_getD, List.getElem?_eq_getElem (by omega)]; rfl
  have h4 := hg 4 (by omega)
  have h7 := hg 7 (by omega)
  obtain ⟨c, hc⟩ : ∃ c, (sB s).getD 4 0 = c := ⟨_, rfl⟩
  obtain ⟨e, he⟩ : ∃ e, (sB s).getD 7 0 = e := ⟨_, rfl⟩
  rw [hc] at h4
  rw [he] at h7
  refine idx_str (x := c) (by decide) h4 fun b hb => ?_
  conv => whnf
  (repeat (refine step_go [] ?_; conv => whnf))
  rw [hb]
  clear hb b
  (repeat' first | (refine step_go [] ?_; conv => whnf) | (refine two (fun g => ?_) (fun g => ?_) <;> (try simp only [bsx] at g) <;> (conv => whnf)) | (refine And.intro rfl ?_; conv => whnf) | fail)
  · exact hno fun hh => by have := hh.1.2.1; rw [h4] at this; exact g (Option.some.inj this)
  refine idx_str (x := e) (by decide) h7 fun b hb => ?_
  conv => whnf
  (repeat (refine step_go [] ?_; conv => whnf))
  rw [hb]
  clear hb b
  (repeat' first | (refine step_go [] ?_; conv => whnf) | (refine two (fun g => ?_) (fun g => ?_) <;> (try simp only [bsx] at g) <;> (conv => whnf)) | (refine And.intro rfl ?_; conv => whnf) | fail)
  · exact hno fun hh => by have := hh.1.2.2; rw [h7] at this; exact g (Option.some.inj this)
  have l1 : (((sB s).take 4).drop 0).length = 4 := by simp; omega
  have l2 : (((sB s).take 7).drop 5).length = 2 := by simp; omega
  have l3 : (((sB s).take 10).drop 8).length = 2 := by simp; omega
  refine c_digs s hs 0 4 (by omega) (by omega) (by omega) _ (fun a1 => ?_) (fun a1 => ?_)
  all_goals
    conv => whnf
    (repeat' first | (refine step_go [] ?_; conv => whnf) | (refine two (fun g => ?_) (fun g => ?_) <;> (try simp only [bsx] at g) <;> (conv => whnf)) | (refine And.intro rfl ?_; conv => whnf) | fail)
    refine c_digs s hs 5 7 (by omega) (by omega) (by omega) _ (fun a2 => ?_) (fun a2 => ?_)
    all_goals
      conv => whnf
      (repeat' first | (refine step_go [] ?_; conv => whnf) | (refine two (fun g => ?_) (fun g => ?_) <;> (try simp only [bsx] at g) <;> (conv => whnf)) | (refine And.intro rfl ?_; conv => whnf) | fail)
      refine c_digs s hs 8 10 (by omega) (by omega) (by omega) _ (fun a3 => ?_) (fun a3 => ?_)
      all_goals
        conv => whnf
        (repeat' first | (refine step_go [] ?_; conv => whnf) | (refine two (fun g => ?_) (fun g => ?_) <;> (try simp only [bsx] at g) <;> (conv => whnf)) | (refine And.intro rfl ?_; conv => whnf) | fail)
        first
          | exact hno fun hh => a1 hh.2.1
          | exact hno fun hh => a2 hh.2.2.1
          | exact hno fun hh => a3 hh.2.2.2
          | (have b1 := vl_lt _ a1
             have b2 := vl_lt _ a2
             have b3 := vl_lt _ a3
             rw [l1] at b1
             rw [l2] at b2
             rw [l3] at b3
             refine c_cnum _ _ _ (by omega) (by omega) (by omega) _ ?_
             conv => whnf
             (repeat' first | (refine step_go [] ?_; conv => whnf) | (refine two (fun g => ?_) (fun g => ?_) <;> (try simp only [bsx] at g) <;> (conv => whnf)) | (refine And.intro rfl ?_; conv => whnf) | fail)
             exact hyes ⟨⟨by omega, by rw [h4]; congr 1, by rw [h7]; congr 1⟩, a1, a2, a3⟩)
end C20

namespace C21
open Go Go.Proofs VL D1 B10 BB4 BB5 BB6 BB10 BB14 C1 C2 C6 C19 C20
set_option maxRecDepth 100000
end C21

namespace C4
open Go Go.Proofs VL D1 B10 B12 B13 BB4 BB5 BB6 BB9 BB10 BB14 C1 C2 C3 C6 C19 C20
inductive Res (α : Type) where
  | ok (a : α) (r : List C3.Tok)
  | err (p : Nat) (e : Int)
def Res.bind {α β : Type} (x : Res α) (f : α → List C3.Tok → Res β) : Res β := match x with
  | .ok a r => f a r
  | .err p e => .err p e
def nextT : List C3.Tok → C3.Tok × List C3.Tok
  | [] => (⟨0, 0, []⟩, [])
  | t :: r => if t.kind = 0 then (t, t :: r) else (t, r)
def wantS (k : Int) (w : List Int) (l : List C3.Tok) : Res C3.Tok := if (nextT l).1.kind = k ∧ (w = [] ∨ (nextT l).1.text = w) then .ok (nextT l).1 (nextT l).2 else .err (nextT l).1.at_ 7
def numS (l : List Int) : Option Int := if (∀ x ∈ l, Dig x) ∧ l.length ≤ 9 ∧ (2 ≤ l.length → l.head? ≠ some 48) then some (vl l) else none
def numberS (l : List C3.Tok) : Res Int := (wantS 2 [] l).bind fun t r => match numS t.text with
  | some n => .ok n r
  | none => .err t.at_ 7
def takenS (f : List Int → Int × Int) (l : List C3.Tok) : Res Int := (wantS 2 [] l).bind fun t r => if (f t.text).2 = 0 then .ok (f t.text).1 r else .err t.at_ 7
def pickS (ws : List (List Int)) (l : List C3.Tok) : Res Int := (wantS 1 [] l).bind fun t r => if t.text ∈ ws then .ok (ws.idxOf t.text + 1 : Nat) r else .err t.at_ 7
def w_count : List Int := [99, 111, 117, 110, 116]
def w_round : List Int := [114, 111, 117, 110, 100]
def w_kind : List Int := [107, 105, 110, 100]
def w_every : List Int := [101, 118, 101, 114, 121]
def w_times : List Int := [116, 105, 109, 101, 115]
def w_grace : List Int := [103, 114, 97, 99, 101]
def w_rate : List Int := [114, 97, 116, 101]
def w_penalty : List Int := [112, 101, 110, 97, 108, 116, 121]
def w_reset : List Int := [114, 101, 115, 101, 116]
def w_late : List Int := [108, 97, 116, 101]
def w_cap : List Int := [99, 97, 112]
def w_holiday : List Int := [104, 111, 108, 105, 100, 97, 121]
def w_order : List Int := [111, 114, 100, 101, 114]
def w_over : List Int := [111, 118, 101, 114]
def w_roll : List Int := [114, 111, 108, 108]
def w_thirty : List Int := [116, 104, 105, 114, 116, 121]
def w_fixed : List Int := [102, 105, 120, 101, 100]
def w_actual : List Int := [97, 99, 116, 117, 97, 108]
def w_half_up : List Int := [104, 97, 108, 102, 45, 117, 112]
def w_down : List Int := [100, 111, 119, 110]
def w_annuity : List Int := [97, 110, 110, 117, 105, 116, 121]
def w_equal : List Int := [101, 113, 117, 97, 108]
def w_bullet : List Int := [98, 117, 108, 108, 101, 116]
def w_fees : List Int := [102, 101, 101, 115]
def w_interest : List Int := [105, 110, 116, 101, 114, 101, 115, 116]
def w_principal : List Int := [112, 114, 105, 110, 99, 105, 112, 97, 108]
def w_hold : List Int := [104, 111, 108, 100]
def w_prepay : List Int := [112, 114, 101, 112, 97, 121]
def w_refund : List Int := [114, 101, 102, 117, 110, 100]
def w_stay : List Int := [115, 116, 97, 121]
def w_next : List Int := [110, 101, 120, 116]
def w_within : List Int := [119, 105, 116, 104, 105, 110]
def w_previous : List Int := [112, 114, 101, 118, 105, 111, 117, 115]
def w_product : List Int := [112, 114, 111, 100, 117, 99, 116]
def owords : List (List Int) := [w_fees, w_penalty, w_interest, w_principal]
def orderN : Nat → List Int → List C3.Tok → Res (List Int)
  | 0, acc, l => .ok acc l
  | n + 1, acc, l => (pickS owords l).bind fun k r => if k ∈ acc then .err (nextT l).1.at_ 7 else orderN n (acc ++ [k]) r
def manyW (w : List Int) : Bool := w == w_reset || w == w_late || w == w_holiday
noncomputable def clauseS (w : List Int) (p : Prod) (l : List C3.Tok) : Option (Res Prod) :=
  if w = w_count then some ((pickS [w_thirty, w_fixed, w_actual] l).bind fun k r => .ok { p with count := k } r)
  else if w = w_round then some ((pickS [w_half_up, w_down] l).bind fun k r => .ok { p with rnd := if k = 1 then 1 else 3 } r)
  else if w = w_kind then some ((pickS [w_annuity, w_equal, w_bullet] l).bind fun k r => .ok { p with kind := k } r)
  else if w = w_every then some ((numberS l).bind fun k r => .ok { p with every := k } r)
  else if w = w_times then some ((numberS l).bind fun k r => .ok { p with times := k } r)
  else if w = w_grace then some ((numberS l).bind fun k r => .ok { p with grace := k } r)
  else if w = w_rate then some ((takenS takeR l).bind fun k r => .ok { p with rate := k } r)
  else if w = w_penalty then some ((takenS takeR l).bind fun k r => .ok { p with pen := k } r)
  else if w = w_reset then some ((numberS l).bind fun k r => (takenS takeR r).bind fun v r => .ok { p with resets := p.resets ++ [⟨k, v⟩] } r)
  else if w = w_late then some ((numberS l).bind fun k r => (takenS takeM r).bind fun v r => .ok { p with late := p.late ++ [⟨k, v⟩] } r)
  else if w = w_cap then some ((takenS takeM l).bind fun k r => .ok { p with cap := k } r)
  else if w = w_holiday then some ((takenS takeD l).bind fun k r => .ok { p with hol := p.hol ++ [k] } r)
  else if w = w_order then some ((orderN 4 [] l).bind fun o r => .ok { p with o1 := o.getD 0 0, o2 := o.getD 1 0, o3 := o.getD 2 0, o4 := o.getD 3 0 } r)
  else if w = w_over then some ((pickS [w_hold, w_prepay, w_refund] l).bind fun k r => .ok { p with over := k } r)
  else if w = w_roll then some ((pickS [w_stay, w_next, w_within, w_previous] l).bind fun k r => .ok { p with roll := k } r)
  else none
noncomputable def groupS : Nat → Nat → List C3.Tok → Prod → List (List Int) → Res (Prod × List (List Int))
  | 0, _, l, _, _ => .err (nextT l).1.at_ 0
  | f + 1, d, l, p, sn =>
    if (nextT l).1.kind = 3 ∧ (nextT l).1.text = [125] then .ok (p, sn) (nextT l).2
    else if (nextT l).1.kind = 3 ∧ (nextT l).1.text = [123] then
      if 32 ≤ d then .err (nextT l).1.at_ 8 else (groupS f (d + 1) (nextT l).2 p sn).bind fun q r => groupS f d r q.1 q.2
    else if (nextT l).1.kind ≠ 1 then .err (nextT l).1.at_ 7
    else match clauseS (nextT l).1.text p (nextT l).2 with
      | none => .err (nextT l).1.at_ 7
      | some x => if (nextT l).1.text ∈ sn ∧ manyW (nextT l).1.text = false then .err (nextT l).1.at_ 7
        else x.bind fun q r => (wantS 3 [59] r).bind fun _ r => groupS f d r q ((nextT l).1.text :: sn)
def prod0 : Prod := ⟨⟨#[]⟩, 0, 0, 0, 0, 0, 0, 0, [], 0, 0, 0, 0, 0, 0, [], 0, 0, []⟩
noncomputable def textP (l : List C3.Tok) : Res (Prod × List (List Int)) :=
  (wantS 1 w_product l).bind fun _ l => (wantS 1 [] l).bind fun t l =>
    open Classical in if nameP t.text then (wantS 3 [123] l).bind fun _ l => (groupS (l.length + 1) 1 l { prod0 with name := toBA t.text, over := 1, roll := 1 } []).bind fun q l => (wantS 0 [] l).bind fun _ l => .ok q l
    else .err t.at_ 7
def wholeP (sn : List (List Int)) : Prop := w_count ∈ sn ∧ w_round ∈ sn ∧ w_kind ∈ sn ∧ w_every ∈ sn ∧ w_times ∈ sn ∧ w_rate ∈ sn ∧ w_order ∈ sn
noncomputable def parseS (s : List Int) : Prod × Int × Int := match lexS s with
  | .error (p, e) => (prod0, p, e)
  | .ok l => match textP l with
    | .err p e => (prod0, p, e)
    | .ok q _ => open Classical in if wholeP q.2 ∧ checkP q.1 then (q.1, 0, 0) else (prod0, (nextT l).1.at_, 9)
end C4

namespace C22
open Go Go.Proofs VL D1 B10 BB6 BB10 BB14 C1 C2 C3 C4 C6 C15
set_option maxRecDepth 100000
structure PS where
  p : Prod
  s1 : List V
  s2 : List V
  s3 : List V
  sn : List (V × V)
def xO (a b c : Bool) (k : List C3.Tok) (i : Nat) (x : PS) : List VObj :=
  [.cells true 54 [.sl (kL k) .no, .int .i64 i, .str x.p.name, .int .i64 x.p.count, .int .i64 x.p.rnd, .int .i64 x.p.kind, .int .i64 x.p.every, .int .i64 x.p.times, .int .i64 x.p.grace, .int .i64 x.p.rate, .slo 1 2 0 x.p.resets.length (x.p.resets.length + x.s1.length), .int .i64 x.p.pen, .int .i64 x.p.o1, .int .i64 x.p.o2, .int .i64 x.p.o3, .int .i64 x.p.o4, .int .i64 x.p.over, .slo 2 2 0 x.p.late.length (x.p.late.length + x.s2.length), .int .i64 x.p.cap, .int .i64 x.p.roll, .slo 3 1 0 x.p.hol.length (x.p.hol.length + x.s3.length), .mp 4],
   .buf a 2 (rL x.p.resets ++ x.s1), .buf b 2 (tL x.p.late ++ x.s2), .buf c 1 (iL x.p.hol ++ x.s3), .map x.sn]
def endT : List C3.Tok → Prop
  | [] => False
  | [t] => t.kind = 0
  | t :: r => t.kind ≠ 0 ∧ endT r
def fltP (p e : Int) : V := .ifc 47 (.agg [.int .i64 p, .int .i64 e])
theorem c_wrong (t : C3.Tok) (K : Out → List VObj → Prop) (h : K (.pan (fltP t.at_ 7)) []) : VCall Tryz.prog 43 [encK t] [] K := by
  unfold encK
  refine call_fun [] 0 Tryz.func43 (by rfl) (by rfl) ?_
  conv => whnf
  (repeat' first | (refine step_go [] ?_; conv => whnf) | (refine two (fun g => ?_) (fun g => ?_) <;> (try simp only [bsx] at g) <;> (conv => whnf)) | (refine And.intro rfl ?_; conv => whnf) | fail)
  exact h
theorem nextT0 {t : C3.Tok} {r : List C3.Tok} (h : t.kind = 0) : nextT (t :: r) = (t, t :: r) := by show (if t.kind = 0 then _ else _) = _; rw [if_pos h]
theorem nextT1 {t : C3.Tok} {r : List C3.Tok} (h : ¬ t.kind = 0) : nextT (t :: r) = (t, r) := by show (if t.kind = 0 then _ else _) = _; rw [if_neg h]
theorem endT_next {l : List C3.Tok} (h : endT l) : endT (nextT l).2 ∧ ∃ t r, l = t :: r ∧ (nextT l).1 = t ∧ ((t.kind = 0 ∧ (nextT l).2 = t :: r) ∨ (t.kind ≠ 0 ∧ (nextT l).2 = r)) := by
  cases l with
  | nil => exact h.elim
  | cons t r =>
    by_cases h0 : t.kind = 0
    · rw [nextT0 h0]
      exact ⟨h, t, r, rfl, rfl, .inl ⟨h0, rfl⟩⟩
    · rw [nextT1 h0]
      cases r with
      | nil => exact absurd h h0
      | cons u r => exact ⟨h.2, t, _, rfl, rfl, .inr ⟨h0, rfl⟩⟩
theorem toBA_eq {a b : List Int} (ha : ∀ x ∈ a, 0 ≤ x ∧ x < 256) (hb : ∀ x ∈ b, 0 ≤ x ∧ x < 256) : (toBA a).toList = (toBA b).toList ↔ a = b := by
  have h := str_beq (toBA a) (toBA b)
  rw [sB_toBA ha, sB_toBA hb, Bool.eq_iff_iff, beq_iff_eq, beq_iff_eq] at h
  exact h
set_option maxHeartbeats 2000000 in
theorem c_next (k : List C3.Tok) (i : Nat) (hk : endT (k.drop i)) (hl : k.length < 1000000) (x : PS) (K : Out → List VObj → Prop)
    (h : ∀ i', k.drop i' = (nextT (k.drop i)).2 → K (.ret (encK (nextT (k.drop i)).1)) (xO false false false k i' x)) : VCall Tryz.prog 79 [.ptr 0 0] (xO false false false k i x) K := by
  obtain ⟨_, t, r, hd, e1, e2⟩ := endT_next hk
  rw [e1] at h
  have hil : i < k.length := by
    have := congrArg List.length hd
    rw [List.length_drop, List.length_cons] at this; omega
  have hget : (kL k)[((i : Nat) : Int).toNat]? = some (encK t) := by
    have : k[i]? = some t := by
      have := congrArg (fun l => l[0]?) hd
      simpa using this
    rw [Int.toNat_natCast]; simp [kL, this]
  have wi : IntKind.i64.wrap ((i : Int) + 1) = ((i + 1 : Nat) : Int) := by rw [wrap64 (by omega) (by omega)]; omega
  unfold xO at h ⊢
  refine call_fun [] 5 Tryz.func79 (by rfl) (by rfl) ?_
  conv => whnf
  (repeat' first | (refine step_go [] ?_; conv => whnf) | (refine two (fun g => ?_) (fun g => ?_) <;> (try simp only [bsx] at g) <;> (conv => whnf)) | (refine And.intro rfl ?_; conv => whnf) | (refine dr_go (by decide +kernel) ?_; conv => whnf) | (refine ⟨by omega, _, hget, rfl, ?_⟩; conv => whnf) | fail)
  · rcases e2 with ⟨e2, e3⟩ | ⟨e2, e3⟩
    · exact absurd e2 g
    · rw [wi]
      exact h (i + 1) (by rw [e3, ← List.drop_drop, hd]; rfl)
  · rcases e2 with ⟨e2, e3⟩ | ⟨e2, e3⟩
    · exact h i (by rw [e3, hd])
    · exact absurd g e2
def okT (k : List C3.Tok) : Prop := k.length < 1000000 ∧ ∀ t ∈ k, (∀ x ∈ t.text, 0 ≤ x ∧ x < 256) ∧ t.text.length < 1000000
theorem next_mem {k : List C3.Tok} {i : Nat} (hk : endT (k.drop i)) : (nextT (k.drop i)).1 ∈ k := by
  obtain ⟨_, t, r, hd, e1, _⟩ := endT_next hk
  rw [e1]
  exact List.mem_of_mem_drop (by rw [hd]; simp)
set_option maxHeartbeats 2000000 in
theorem c_want (k : List C3.Tok) (i : Nat) (hk : endT (k.drop i)) (hl : okT k) (x : PS) (kd : Int) (w : List Int) (hw : ∀ x ∈ w, 0 ≤ x ∧ x < 256) (K : Out → List VObj → Prop)
    (h0 : ∀ t r i', wantS kd w (k.drop i) = .ok t r → k.drop i' = r → endT r → t ∈ k → K (.ret (encK t)) (xO false false false k i' x)) (h1 : ∀ p e i', wantS kd w (k.drop i) = .err p e → K (.pan (fltP p e)) (xO false false false k i' x)) :
    VCall Tryz.prog 41 [.ptr 0 0, .int .i64 kd, .str (toBA w)] (xO false false false k i x) K := by
  have hn := endT_next hk
  have hm := next_mem hk
  obtain ⟨t, ht⟩ : ∃ t, (nextT (k.drop i)).1 = t := ⟨_, rfl⟩
  have hb := hl.2 t (by rw [← ht]; exact hm)
  have hyes : t.kind = kd ∧ (w = [] ∨ t.text = w) → ∀ i', k.drop i' = (nextT (k.drop i)).2 → K (.ret (encK t)) (xO false false false k i' x) := fun hh i' hi => h0 t _ i' (by unfold wantS; rw [ht, if_pos hh]) hi hn.1 (by rw [← ht]; exact hm)
  have hno : ¬ (t.kind = kd ∧ (w = [] ∨ t.text = w)) → ∀ i', K (.pan (fltP t.at_ 7)) (xO false false false k i' x) := fun hh i' => h1 _ _ i' (by unfold wantS; rw [ht, if_neg hh])
  clear h0 h1
  have hn2 := @c_next k i hk hl.1 x
  rw [ht] at hn2
  unfold xO at hyes hno hn2 ⊢
  refine call_fun [] 5 Tryz.func41 (by rfl) (by rfl) ?_
  conv => whnf
  have eqw : (toBA t.text).toList = (toBA w).toList ↔ t.text = w := toBA_eq hb.1 hw
  have eq0 : (toBA w).toList = (⟨#[]⟩ : ByteArray).toList ↔ w = [] := toBA_eq (b := []) hw (by simp)
  (repeat' first | (refine step_go [] ?_; conv => whnf) | (refine two (fun g => ?_) (fun g => ?_) <;> (try simp only [bsx] at g) <;> (conv => whnf)) | (refine And.intro rfl ?_; conv => whnf) | fail)
  refine hn2 _ fun i' hi => ?_
  conv => whnf
  (repeat' first | (refine step_go [] ?_; conv => whnf) | (refine two (fun g => ?_) (fun g => ?_) <;> (try simp only [bsx, eqw, eq0] at g) <;> (conv => whnf)) | (refine And.intro rfl ?_; conv => whnf) | (refine c_wrong t _ ?_; conv => whnf) | fail)
  · exact hno (fun hh => g hh.1) i'
  · exact hno (fun hh => by rcases hh.2 with e | e <;> contradiction) i'
  · exact hyes ⟨by assumption, .inr g⟩ i' hi
  · exact hyes ⟨by assumption, .inl g⟩ i' hi
def bytesOk (l : List (List Int)) : Prop := ∀ w ∈ l, ∀ x ∈ w, 0 ≤ x ∧ x < 256
set_option maxHeartbeats 2000000 in
theorem c_pick (k : List C3.Tok) (i : Nat) (hk : endT (k.drop i)) (hl : okT k) (x : PS) (ws : List (List Int)) (hws : bytesOk ws) (hn : ws.length < 1000) (K : Out → List VObj → Prop)
    (h0 : ∀ n r i', pickS ws (k.drop i) = .ok n r → k.drop i' = r → endT r → K (.ret (.int .i64 n)) (xO false false false k i' x)) (h1 : ∀ p e i', pickS ws (k.drop i) = .err p e → K (.pan (fltP p e)) (xO false false false k i' x)) :
    VCall Tryz.prog 122 [.ptr 0 0, .sl (sL ws) .no] (xO false false false k i x) K := by
  have hw := @c_want k i hk hl x 1 [] (by simp)
  have hsl : (sL ws).length = ws.length := by simp [sL]
  unfold xO at h0 h1 hw ⊢
  refine call_fun [] 5 Tryz.func122 (by rfl) (by rfl) ?_
  conv => whnf
  (repeat' first | (refine step_go [] ?_; conv => whnf) | (refine two (fun g => ?_) (fun g => ?_) <;> (try simp only [bsx] at g) <;> (conv => whnf)) | (refine And.intro rfl ?_; conv => whnf) | fail)
  refine hw _ (fun t r i' e hd he hm => ?_) (fun p e i' he => ?_)
  rotate_left
  · conv => whnf
    (repeat' first | (refine step_go [] ?_; conv => whnf) | (refine two (fun g => ?_) (fun g => ?_) <;> (try simp only [bsx] at g) <;> (conv => whnf)) | (refine And.intro rfl ?_; conv => whnf) | fail)
    exact h1 p e i' (by unfold pickS; rw [he]; rfl)
  have hb := hl.2 t hm
  have hyes : t.text ∈ ws → pickS ws (k.drop i) = .ok (ws.idxOf t.text + 1 : Nat) r := fun hh => by unfold pickS; rw [e]; show (if _ then _ else _) = _; rw [if_pos hh]
  have hno : t.text ∉ ws → pickS ws (k.drop i) = .err t.at_ 7 := fun hh => by unfold pickS; rw [e]; show (if _ then _ else _) = _; rw [if_neg hh]
  conv => whnf
  (repeat' first | (refine step_go [] ?_; conv => whnf) | (refine two (fun g => ?_) (fun g => ?_) <;> (try simp only [bsx] at g) <;> (conv => whnf)) | (refine And.intro rfl ?_; conv => whnf) | fail)
  let S : Nat → St := fun j => ⟨(.ptr 0 0 :: .sl (sL ws) .no :: .undef :: .undef :: .int .i64 0 :: .ptr 5 0 :: .undef :: .undef :: .undef :: .undef :: .sl (sL ws) .no :: .int .i64 (ws.length : Nat) :: .int .i64 (j : Nat) :: .undef :: .undef :: .undef :: .undef :: .undef :: .undef :: .undef :: .undef :: .undef :: .undef :: .undef :: .undef :: .undef :: []), xO false false false k i' x ++ [.cells true 57 [.int .i64 t.kind, .int .i64 t.at_, .str (toBA t.text)]], 0, []⟩
  refine VLoop.enter (s' := S 0) (weak_of ?_ (.cons (.eq rfl) (.cons (.eq rfl) (.cons (.eq rfl) (.cons (.eq rfl) (.cons (.eq rfl) (.cons (.eq rfl) .nil)))))) rfl rfl rfl)
    (VLoop.indW S (fun j => ws.length - j) (fun j => j ≤ ws.length ∧ t.text ∉ ws.take j) ?_ 0 ⟨by omega, by simp⟩)
  · repeat' first
      | exact VWs.nil
      | refine VWs.cons VW.undef ?_
      | refine VWs.cons (VW.eq rfl) ?_
      | refine VWs.cons (VW.eq (by rw [hsl])) ?_
  rintro j ⟨hj, hinv⟩ ih
  refine loop_round [] ?_; conv => whnf
  (repeat' first | (refine step_go [] ?_; conv => whnf) | (refine two (fun g => ?_) (fun g => ?_) <;> (try simp only [bsx] at g) <;> (conv => whnf)) | (refine And.intro rfl ?_; conv => whnf) | fail)
  · have hjl : j < ws.length := by omega
    have hget : (sL ws)[((j : Nat) : Int).toNat]? = some (.str (toBA ws[j])) := by rw [Int.toNat_natCast]; simp [sL, List.getElem?_eq_getElem hjl]
    have hmem : ws[j] ∈ ws := List.getElem_mem _
    have hdr : ws.drop j = ws[j] :: ws.drop (j + 1) := List.drop_eq_getElem_cons hjl
    obtain ⟨w, hw2⟩ : ∃ w, ws[j] = w := ⟨_, rfl⟩
    have htk : ws.take (j + 1) = ws.take j ++ [w] := by rw [List.take_succ_eq_append_getElem hjl, hw2]
    rw [hw2] at hget hmem hdr
    have wj : IntKind.i64.wrap ((j : Int) + 1) = ((j + 1 : Nat) : Int) := by rw [wrap64 (by omega) (by omega)]; omega
    have eqw : (toBA w).toList = (toBA t.text).toList ↔ w = t.text := toBA_eq (hws w hmem) hb.1
    refine ⟨by omega, _, hget, rfl, ?_⟩
    conv => whnf
    (repeat' first | (refine step_go [] ?_; conv => whnf) | (refine two (fun g => ?_) (fun g => ?_) <;> (try simp only [bsx, eqw] at g) <;> (conv => whnf)) | (refine And.intro rfl ?_; conv => whnf) | fail)
    · refine ⟨_, Weak.refl, ?_⟩; conv => whnf
      (repeat' first | (refine step_go [] ?_; conv => whnf) | (refine two (fun g => ?_) (fun g => ?_) <;> (try simp only [bsx] at g) <;> (conv => whnf)) | (refine And.intro rfl ?_; conv => whnf) | fail)
      rw [wj]
      have hidx : ws.idxOf t.text = j := by
        conv => lhs; rw [← List.take_append_drop j ws, hdr, g]
        rw [List.idxOf_append, if_neg hinv, List.idxOf_cons_self, List.length_take]; omega
      have hin : t.text ∈ ws := by rw [← g]; exact hmem
      have hh := hyes hin
      rw [hidx] at hh
      exact h0 _ r i' hh hd he
    · exact ⟨S (j + 1), weak_of (by rw [wj]; (repeat' first | exact VWs.nil | refine VWs.cons VW.undef ?_ | refine VWs.cons (VW.eq rfl) ?_)) (.cons (.eq rfl) (.cons (.eq rfl) (.cons (.eq rfl) (.cons (.eq rfl) (.cons (.eq rfl) (.cons (.eq rfl) .nil)))))) rfl rfl rfl, ih (j + 1) ⟨by omega, by rw [htk]; simp only [List.mem_append, List.mem_singleton, not_or]; exact ⟨hinv, fun e => g e.symm⟩⟩ (by omega)⟩
  · have hjl : j = ws.length := by omega
    subst hjl
    rw [List.take_length] at hinv
    refine ⟨_, Weak.refl, ?_⟩; conv => whnf
    (repeat' first | (refine step_go [] ?_; conv => whnf) | (refine two (fun g => ?_) (fun g => ?_) <;> (try simp only [bsx] at g) <;> (conv => whnf)) | (refine And.intro rfl ?_; conv => whnf) | (refine c_wrong t _ ?_; conv => whnf) | fail)
    exact h1 _ _ i' (hno hinv)
end C22

namespace C23
open Go Go.Proofs VL D1 B10 B12 B13 BB6 BB10 BB14 C1 C2 C3 C4 C6 C15 C20 C22
set_option maxRecDepth 100000
set_option maxHeartbeats 2000000 in
theorem c_tk64 (k : List C3.Tok) (i : Nat) (hk : endT (k.drop i)) (hl : okT k) (x : PS) (f : FuncId) (sp : List Int → Int × Int)
    (hf : ∀ (s : ByteArray) (K : Out → List VObj → Prop), s.size < 1000000 → K (.ret (.tup [.int .i64 (sp (sB s)).1, .int .i64 (sp (sB s)).2])) [] → VCall Tryz.prog f [.str s] [] K) (K : Out → List VObj → Prop)
    (h0 : ∀ n r i', takenS sp (k.drop i) = .ok n r → k.drop i' = r → endT r → K (.ret (.int .i64 n)) (xO false false false k i' x)) (h1 : ∀ p e i', takenS sp (k.drop i) = .err p e → K (.pan (fltP p e)) (xO false false false k i' x)) :
    VCall Tryz.prog 124 [.ptr 0 0, .fn (.func f) [] []] (xO false false false k i x) K := by
  have hw := @c_want k i hk hl x 2 [] (by simp)
  unfold xO at h0 h1 hw ⊢
  refine call_fun [] 5 Tryz.func124 (by rfl) (by rfl) ?_
  conv => whnf
  (repeat' first | (refine step_go [] ?_; conv => whnf) | (refine two (fun g => ?_) (fun g => ?_) <;> (try simp only [bsx] at g) <;> (conv => whnf)) | (refine And.intro rfl ?_; conv => whnf) | fail)
  refine hw _ (fun t r i' e hd he hm => ?_) (fun p e i' he => ?_)
  rotate_left
  · conv => whnf
    (repeat' first | (refine step_go [] ?_; conv => whnf) | (refine two (fun g => ?_) (fun g => ?_) <;> (try simp only [bsx] at g) <;> (conv => whnf)) | (refine And.intro rfl ?_; conv => whnf) | fail)
    exact h1 p e i' (by unfold takenS; rw [he]; rfl)
  have hb := hl.2 t hm
  have hyes : (sp t.text).2 = 0 → takenS sp (k.drop i) = .ok (sp t.text).1 r := fun hh => by unfold takenS; rw [e]; show (if _ then _ else _) = _; rw [if_pos hh]
  have hno : ¬ (sp t.text).2 = 0 → takenS sp (k.drop i) = .err t.at_ 7 := fun hh => by unfold takenS; rw [e]; show (if _ then _ else _) = _; rw [if_neg hh]
  conv => whnf
  (repeat' first | (refine step_go [] ?_; conv => whnf) | (refine two (fun g => ?_) (fun g => ?_) <;> (try simp only [bsx] at g) <;> (conv => whnf)) | (refine And.intro rfl ?_; conv => whnf) | fail)
  refine hf (toBA t.text) _ (by rw [toBA_size]; exact hb.2) ?_
  rw [sB_toBA hb.1]
  conv => whnf
  (repeat' first | (refine step_go [] ?_; conv => whnf) | (refine two (fun g => ?_) (fun g => ?_) <;> (try simp only [bsx] at g) <;> (conv => whnf)) | (refine And.intro rfl ?_; conv => whnf) | (refine c_wrong t _ ?_; conv => whnf) | fail)
  · exact h1 _ _ i' (hno g)
  · exact h0 _ r i' (hyes g) hd he
set_option maxHeartbeats 2000000 in
theorem c_tkI (k : List C3.Tok) (i : Nat) (hk : endT (k.drop i)) (hl : okT k) (x : PS) (f : FuncId) (sp : List Int → Int × Int)
    (hf : ∀ (s : ByteArray) (K : Out → List VObj → Prop), s.size < 1000000 → K (.ret (.tup [.int .i64 (sp (sB s)).1, .int .i64 (sp (sB s)).2])) [] → VCall Tryz.prog f [.str s] [] K) (K : Out → List VObj → Prop)
    (h0 : ∀ n r i', takenS sp (k.drop i) = .ok n r → k.drop i' = r → endT r → K (.ret (.int .i64 n)) (xO false false false k i' x)) (h1 : ∀ p e i', takenS sp (k.drop i) = .err p e → K (.pan (fltP p e)) (xO false false false k i' x)) :
    VCall Tryz.prog 127 [.ptr 0 0, .fn (.func f) [] []] (xO false false false k i x) K := by
  have hw := @c_want k i hk hl x 2 [] (by simp)
  unfold xO at h0 h1 hw ⊢
  refine call_fun [] 5 Tryz.func127 (by rfl) (by rfl) ?_
  conv => whnf
  (repeat' first | (refine step_go [] ?_; conv => whnf) | (refine two (fun g => ?_) (fun g => ?_) <;> (try simp only [bsx] at g) <;> (conv => whnf)) | (refine And.intro rfl ?_; conv => whnf) | fail)
  refine hw _ (fun t r i' e hd he hm => ?_) (fun p e i' he => ?_)
  rotate_left
  · conv => whnf
    (repeat' first | (refine step_go [] ?_; conv => whnf) | (refine two (fun g => ?_) (fun g => ?_) <;> (try simp only [bsx] at g) <;> (conv => whnf)) | (refine And.intro rfl ?_; conv => whnf) | fail)
    exact h1 p e i' (by unfold takenS; rw [he]; rfl)
  have hb := hl.2 t hm
  have hyes : (sp t.text).2 = 0 → takenS sp (k.drop i) = .ok (sp t.text).1 r := fun hh => by unfold takenS; rw [e]; show (if _ then _ else _) = _; rw [if_pos hh]
  have hno : ¬ (sp t.text).2 = 0 → takenS sp (k.drop i) = .err t.at_ 7 := fun hh => by unfold takenS; rw [e]; show (if _ then _ else _) = _; rw [if_neg hh]
  conv => whnf
  (repeat' first | (refine step_go [] ?_; conv => whnf) | (refine two (fun g => ?_) (fun g => ?_) <;> (try simp only [bsx] at g) <;> (conv => whnf)) | (refine And.intro rfl ?_; conv => whnf) | fail)
  refine hf (toBA t.text) _ (by rw [toBA_size]; exact hb.2) ?_
  rw [sB_toBA hb.1]
  conv => whnf
  (repeat' first | (refine step_go [] ?_; conv => whnf) | (refine two (fun g => ?_) (fun g => ?_) <;> (try simp only [bsx] at g) <;> (conv => whnf)) | (refine And.intro rfl ?_; conv => whnf) | (refine c_wrong t _ ?_; conv => whnf) | fail)
  · exact h1 _ _ i' (hno g)
  · exact h0 _ r i' (hyes g) hd he
set_option maxHeartbeats 4000000 in
theorem c_number (k : List C3.Tok) (i : Nat) (hk : endT (k.drop i)) (hl : okT k) (x : PS) (K : Out → List VObj → Prop)
    (h0 : ∀ n r i', numberS (k.drop i) = .ok n r → k.drop i' = r → endT r → K (.ret (.int .i64 n)) (xO false false false k i' x)) (h1 : ∀ p e i', numberS (k.drop i) = .err p e → K (.pan (fltP p e)) (xO false false false k i' x)) :
    VCall Tryz.prog 123 [.ptr 0 0] (xO false false false k i x) K := by
  have hw := @c_want k i hk hl x 2 [] (by simp)
  unfold xO at h0 h1 hw ⊢
  refine call_fun [] 5 Tryz.func123 (by rfl) (by rfl) ?_
  conv => whnf
  (repeat' first | (refine step_go [] ?_; conv => whnf) | (refine two (fun g => ?_) (fun g => ?_) <;> (try simp only [bsx] at g) <;> (conv => whnf)) | (refine And.intro rfl ?_; conv => whnf) | fail)
  refine hw _ (fun t r i' e hd he hm => ?_) (fun p e i' he => ?_)
  rotate_left
  · conv => whnf
    (repeat' first | (refine step_go [] ?_; conv => whnf) | (refine two (fun g => ?_) (fun g => ?_) <;> (try simp only [bsx] at g) <;> (conv => whnf)) | (refine And.intro rfl ?_; conv => whnf) | fail)
    exact h1 p e i' (by unfold numberS; rw [he]; rfl)
  obtain ⟨tk, ta, l⟩ := t
  have hb : (∀ x ∈ l, 0 ≤ x ∧ x < 256) ∧ l.length < 1000000 := hl.2 _ hm
  have hsb := sB_toBA hb.1
  have hsz := toBA_size l
  have hyes : ((∀ x ∈ l, Dig x) ∧ l.length ≤ 9 ∧ (2 ≤ l.length → l.head? ≠ some 48)) → numberS (k.drop i) = .ok (vl l) r := fun hh => by unfold numberS; rw [e]; show (match numS l with | some n => _ | none => _) = _; unfold numS; rw [if_pos hh]
  have hno : ¬ ((∀ x ∈ l, Dig x) ∧ l.length ≤ 9 ∧ (2 ≤ l.length → l.head? ≠ some 48)) → numberS (k.drop i) = .err ta 7 := fun hh => by unfold numberS; rw [e]; show (match numS l with | some n => _ | none => _) = _; unfold numS; rw [if_neg hh]
  conv => whnf
  (repeat' first | (refine step_go [] ?_; conv => whnf) | (refine two (fun g => ?_) (fun g => ?_) <;> (try simp only [bsx] at g) <;> (conv => whnf)) | (refine And.intro rfl ?_; conv => whnf) | fail)
  rw [bytesV_eq, hsb]
  let S : Nat → St := fun j => ⟨(.ptr 0 0 :: .undef :: .int .i64 0 :: .ptr 5 0 :: .int .i64 (vl (l.take j) : Nat) :: .undef :: .undef :: .undef :: .undef :: .undef :: .undef :: .sl (bL l) .no :: .int .i64 (l.length : Nat) :: .int .i64 (j : Nat) :: .undef :: .undef :: .undef :: .undef :: .undef :: .undef :: .undef :: .undef :: .undef :: .undef :: .undef :: .undef :: .undef :: .undef :: .undef :: .undef :: .undef :: .undef :: .undef :: .undef :: .undef :: .undef :: .undef :: .undef :: .undef :: .undef :: .undef :: .undef :: .undef :: .undef :: .undef :: .undef :: .undef :: .undef :: .undef :: .undef :: .undef :: []), xO false false false k i' x ++ [.cells true 57 [.int .i64 tk, .int .i64 ta, .str (toBA l)]], 0, []⟩
  refine VLoop.enter (s' := S 0) (weak_of ?_ (.cons (.eq rfl) (.cons (.eq rfl) (.cons (.eq rfl) (.cons (.eq rfl) (.cons (.eq rfl) (.cons (.eq rfl) .nil)))))) rfl rfl rfl)
    (VLoop.indW S (fun j => l.length - j) (fun j => j ≤ l.length ∧ (∀ x ∈ l.take j, Dig x) ∧ (0 < j → l.length ≤ 9 ∧ (2 ≤ l.length → l.head? ≠ some 48))) ?_ 0 ⟨by omega, by simp, fun h => absurd h (by omega)⟩)
  · repeat' first
      | exact VWs.nil
      | refine VWs.cons VW.undef ?_
      | refine VWs.cons (VW.eq rfl) ?_
      | refine VWs.cons VW.no ?_
      | refine VWs.cons (VW.eq (by rw [bL_len])) ?_
  rintro j ⟨hj, hinv, hinv2⟩ ih
  refine loop_round [] ?_; conv => whnf
  (repeat' first | (refine step_go [] ?_; conv => whnf) | (refine two (fun g => ?_) (fun g => ?_) <;> (try simp only [bsx] at g) <;> (conv => whnf)) | (refine And.intro rfl ?_; conv => whnf) | fail)
  · have hjl : j < l.length := by omega
    have hx : l[j]? = some l[j] := List.getElem?_eq_getElem hjl
    have hmem : l[j] ∈ l := List.getElem_mem _
    obtain ⟨y, hxx⟩ : ∃ y, l[j] = y := ⟨_, rfl⟩
    have htk : l.take (j + 1) = l.take j ++ [y] := by rw [List.take_succ_eq_append_getElem hjl, hxx]
    rw [hxx] at hx hmem
    have hget : (bL l)[((j : Nat) : Int).toNat]? = some (.int .u8 y) := by rw [Int.toNat_natCast, bL_get, hx]; rfl
    have wj : IntKind.i64.wrap ((j : Int) + 1) = ((j + 1 : Nat) : Int) := by rw [wrap64 (by omega) (by omega)]; omega
    obtain ⟨z, hz⟩ : ∃ z, l.head? = some z := by cases l with
      | nil => simp at hjl
      | cons z _ => exact ⟨z, rfl⟩
    have hz0 : l[0]? = some z := by rw [← List.head?_eq_getElem?]; exact hz
    have hbd := vl_lt (l.take j) hinv
    have hst : ¬ (Dig y ∧ l.length ≤ 9 ∧ (2 ≤ l.length → z ≠ 48)) → numberS (k.drop i) = .err ta 7 := fun hh => hno fun ⟨a, b, c⟩ => hh ⟨a y hmem, b, fun h2 e => c h2 (by rw [hz, e])⟩
    unfold Dig at hst
    refine ⟨by omega, _, hget, rfl, ?_⟩
    conv => whnf
    (repeat' first | (refine step_go [] ?_; conv => whnf) | (refine two (fun g => ?_) (fun g => ?_) <;> (try simp only [bsx, hsz] at g) <;> (conv => whnf)) | (refine And.intro rfl ?_; conv => whnf) | (refine c_wrong ⟨tk, ta, l⟩ _ ?_; conv => whnf) | (refine idx_str (x := z) (by decide) (by rw [hsb]; exact hz0) fun b hb => ?_; (conv => whnf); (repeat (refine step_go [] ?_; conv => whnf)); rw [hb]; clear hb b) | fail)
    all_goals first
      | exact h1 _ _ i' (hst (by omega))
      | (have hp : 10 ^ (l.take j).length ≤ 10 ^ 9 := Nat.pow_le_pow_right (by omega) (by simp; omega)
         have wn : IntKind.i64.wrap (IntKind.i64.wrap (10 * ((vl (l.take j) : Nat) : Int)) + IntKind.i64.wrap (IntKind.u8.wrap (y - 48))) = (vl (l.take (j + 1)) : Nat) := by
           rw [show IntKind.u8.wrap (y - 48) = y - 48 by rw [IntKind.wrap_u8]; omega, wrap64 (x := y - 48) (by omega) (by omega), wrap64 (x := 10 * ((vl (l.take j) : Nat) : Int)) (by omega) (by omega), wrap64 (by omega) (by omega), htk, vl_snoc]; omega
         exact ⟨S (j + 1), weak_of (by rw [wj, wn]; (repeat' first | exact VWs.nil | refine VWs.cons VW.undef ?_ | refine VWs.cons (VW.eq rfl) ?_)) (.cons (.eq rfl) (.cons (.eq rfl) (.cons (.eq rfl) (.cons (.eq rfl) (.cons (.eq rfl) (.cons (.eq rfl) .nil)))))) rfl rfl rfl, ih (j + 1) ⟨by omega, fun v hv => by
           rw [htk] at hv
           rcases List.mem_append.1 hv with hv | hv
           · exact hinv v hv
           · rw [List.mem_singleton.1 hv]; unfold Dig; omega, fun _ => ⟨by omega, fun h2 => by rw [hz]; intro e; cases e; omega⟩⟩ (by omega)⟩)
  · have hjl : j = l.length := by omega
    subst hjl
    rw [List.take_length] at hinv
    refine ⟨_, Weak.refl, ?_⟩; conv => whnf
    rw [List.take_length]
    (repeat' first | (refine step_go [] ?_; conv => whnf) | (refine two (fun g => ?_) (fun g => ?_) <;> (try simp only [bsx] at g) <;> (conv => whnf)) | (refine And.intro rfl ?_; conv => whnf) | fail)
    refine h0 _ r i' (hyes ⟨hinv, ?_, ?_⟩) hd he
    · rcases Nat.eq_zero_or_pos l.length with h | h
      · omega
      · exact (hinv2 h).1
    · intro h2; exact (hinv2 (by omega)).2 h2
end C23

namespace C24
open Go Go.Proofs VL D1 B10 B12 B13 BB6 BB10 BB14 C1 C2 C3 C4 C6 C15 C20 C22 C23
set_option maxRecDepth 100000
set_option maxHeartbeats 2000000 in
theorem c_cl_count (k : List C3.Tok) (i : Nat) (hk : endT (k.drop i)) (hl : okT k) (x : PS) (K : Out → List VObj → Prop)
    (h0 : ∀ n r i', pickS [w_thirty, w_fixed, w_actual] (k.drop i) = .ok n r → k.drop i' = r → endT r → K (.ret (.tup [])) (xO false false false k i' { x with p := { x.p with count := n } })) (h1 : ∀ p e i', pickS [w_thirty, w_fixed, w_actual] (k.drop i) = .err p e → K (.pan (fltP p e)) (xO false false false k i' x)) :
    VCall Tryz.prog 98 [.ptr 0 0] (xO false false false k i x) K := by
  have hw := @c_pick k i hk hl x [w_thirty, w_fixed, w_actual] (by unfold bytesOk; decide) (by decide)
  unfold xO at h0 h1 hw ⊢
  refine call_fun [] 5 Tryz.func98 (by rfl) (by rfl) ?_
  conv => whnf
  (repeat' first | (refine step_go [] ?_; conv => whnf) | (refine two (fun g => ?_) (fun g => ?_) <;> (try simp only [bsx] at g) <;> (conv => whnf)) | (refine And.intro rfl ?_; conv => whnf) | fail)
  refine VCall.args (args' := [.ptr 0 0, .sl (sL [w_thirty, w_fixed, w_actual]) .no]) (.cons (.eq rfl) (.cons .no .nil)) rfl (hw _ (fun n r i' e hd he => ?_) (fun p e i' he => ?_))
  · conv => whnf
    (repeat' first | (refine step_go [] ?_; conv => whnf) | (refine two (fun g => ?_) (fun g => ?_) <;> (try simp only [bsx] at g) <;> (conv => whnf)) | (refine And.intro rfl ?_; conv => whnf) | fail)
    exact h0 n r i' e hd he
  · conv => whnf
    (repeat' first | (refine step_go [] ?_; conv => whnf) | (refine two (fun g => ?_) (fun g => ?_) <;> (try simp only [bsx] at g) <;> (conv => whnf)) | (refine And.intro rfl ?_; conv => whnf) | fail)
    exact h1 p e i' he
set_option maxHeartbeats 2000000 in
theorem c_cl_kind (k : List C3.Tok) (i : Nat) (hk : endT (k.drop i)) (hl : okT k) (x : PS) (K : Out → List VObj → Prop)
    (h0 : ∀ n r i', pickS [w_annuity, w_equal, w_bullet] (k.drop i) = .ok n r → k.drop i' = r → endT r → K (.ret (.tup [])) (xO false false false k i' { x with p := { x.p with kind := n } })) (h1 : ∀ p e i', pickS [w_annuity, w_equal, w_bullet] (k.drop i) = .err p e → K (.pan (fltP p e)) (xO false false false k i' x)) :
    VCall Tryz.prog 100 [.ptr 0 0] (xO false false false k i x) K := by
  have hw := @c_pick k i hk hl x [w_annuity, w_equal, w_bullet] (by unfold bytesOk; decide) (by decide)
  unfold xO at h0 h1 hw ⊢
  refine call_fun [] 5 Tryz.func100 (by rfl) (by rfl) ?_
  conv => whnf
  (repeat' first | (refine step_go [] ?_; conv => whnf) | (refine two (fun g => ?_) (fun g => ?_) <;> (try simp only [bsx] at g) <;> (conv => whnf)) | (refine And.intro rfl ?_; conv => whnf) | fail)
  refine VCall.args (args' := [.ptr 0 0, .sl (sL [w_annuity, w_equal, w_bullet]) .no]) (.cons (.eq rfl) (.cons .no .nil)) rfl (hw _ (fun n r i' e hd he => ?_) (fun p e i' he => ?_))
  · conv => whnf
    (repeat' first | (refine step_go [] ?_; conv => whnf) | (refine two (fun g => ?_) (fun g => ?_) <;> (try simp only [bsx] at g) <;> (conv => whnf)) | (refine And.intro rfl ?_; conv => whnf) | fail)
    exact h0 n r i' e hd he
  · conv => whnf
    (repeat' first | (refine step_go [] ?_; conv => whnf) | (refine two (fun g => ?_) (fun g => ?_) <;> (try simp only [bsx] at g) <;> (conv => whnf)) | (refine And.intro rfl ?_; conv => whnf) | fail)
    exact h1 p e i' he
set_option maxHeartbeats 2000000 in
theorem c_cl_over (k : List C3.Tok) (i : Nat) (hk : endT (k.drop i)) (hl : okT k) (x : PS) (K : Out → List VObj → Prop)
    (h0 : ∀ n r i', pickS [w_hold, w_prepay, w_refund] (k.drop i) = .ok n r → k.drop i' = r → endT r → K (.ret (.tup [])) (xO false false false k i' { x with p := { x.p with over := n } })) (h1 : ∀ p e i', pickS [w_hold, w_prepay, w_refund] (k.drop i) = .err p e → K (.pan (fltP p e)) (xO false false false k i' x)) :
    VCall Tryz.prog 111 [.ptr 0 0] (xO false false false k i x) K := by
  have hw := @c_pick k i hk hl x [w_hold, w_prepay, w_refund] (by unfold bytesOk; decide) (by decide)
  unfold xO at h0 h1 hw ⊢
  refine call_fun [] 5 Tryz.func111 (by rfl) (by rfl) ?_
  conv => whnf
  (repeat' first | (refine step_go [] ?_; conv => whnf) | (refine two (fun g => ?_) (fun g => ?_) <;> (try simp only [bsx] at g) <;> (conv => whnf)) | (refine And.intro rfl ?_; conv => whnf) | fail)
  refine VCall.args (args' := [.ptr 0 0, .sl (sL [w_hold, w_prepay, w_refund]) .no]) (.cons (.eq rfl) (.cons .no .nil)) rfl (hw _ (fun n r i' e hd he => ?_) (fun p e i' he => ?_))
  · conv => whnf
    (repeat' first | (refine step_go [] ?_; conv => whnf) | (refine two (fun g => ?_) (fun g => ?_) <;> (try simp only [bsx] at g) <;> (conv => whnf)) | (refine And.intro rfl ?_; conv => whnf) | fail)
    exact h0 n r i' e hd he
  · conv => whnf
    (repeat' first | (refine step_go [] ?_; conv => whnf) | (refine two (fun g => ?_) (fun g => ?_) <;> (try simp only [bsx] at g) <;> (conv => whnf)) | (refine And.intro rfl ?_; conv => whnf) | fail)
    exact h1 p e i' he
set_option maxHeartbeats 2000000 in
theorem c_cl_roll (k : List C3.Tok) (i : Nat) (hk : endT (k.drop i)) (hl : okT k) (x : PS) (K : Out → List VObj → Prop)
    (h0 : ∀ n r i', pickS [w_stay, w_next, w_within, w_previous] (k.drop i) = .ok n r → k.drop i' = r → endT r → K (.ret (.tup [])) (xO false false false k i' { x with p := { x.p with roll := n } })) (h1 : ∀ p e i', pickS [w_stay, w_next, w_within, w_previous] (k.drop i) = .err p e → K (.pan (fltP p e)) (xO false false false k i' x)) :
    VCall Tryz.prog 112 [.ptr 0 0] (xO false false false k i x) K := by
  have hw := @c_pick k i hk hl x [w_stay, w_next, w_within, w_previous] (by unfold bytesOk; decide) (by decide)
  unfold xO at h0 h1 hw ⊢
  refine call_fun [] 5 Tryz.func112 (by rfl) (by rfl) ?_
  conv => whnf
  (repeat' first | (refine step_go [] ?_; conv => whnf) | (refine two (fun g => ?_) (fun g => ?_) <;> (try simp only [bsx] at g) <;> (conv => whnf)) | (refine And.intro rfl ?_; conv => whnf) | fail)
  refine VCall.args (args' := [.ptr 0 0, .sl (sL [w_stay, w_next, w_within, w_previous]) .no]) (.cons (.eq rfl) (.cons .no .nil)) rfl (hw _ (fun n r i' e hd he => ?_) (fun p e i' he => ?_))
  · conv => whnf
    (repeat' first | (refine step_go [] ?_; conv => whnf) | (refine two (fun g => ?_) (fun g => ?_) <;> (try simp only [bsx] at g) <;> (conv => whnf)) | (refine And.intro rfl ?_; conv => whnf) | fail)
    exact h0 n r i' e hd he
  · conv => whnf
    (repeat' first | (refine step_go [] ?_; conv => whnf) | (refine two (fun g => ?_) (fun g => ?_) <;> (try simp only [bsx] at g) <;> (conv => whnf)) | (refine And.intro rfl ?_; conv => whnf) | fail)
    exact h1 p e i' he
set_option maxHeartbeats 2000000 in
theorem c_cl_every (k : List C3.Tok) (i : Nat) (hk : endT (k.drop i)) (hl : okT k) (x : PS) (K : Out → List VObj → Prop)
    (h0 : ∀ n r i', numberS (k.drop i) = .ok n r → k.drop i' = r → endT r → K (.ret (.tup [])) (xO false false false k i' { x with p := { x.p with every := n } })) (h1 : ∀ p e i', numberS (k.drop i) = .err p e → K (.pan (fltP p e)) (xO false false false k i' x)) :
    VCall Tryz.prog 101 [.ptr 0 0] (xO false false false k i x) K := by
  have hw := @c_number k i hk hl x
  unfold xO at h0 h1 hw ⊢
  refine call_fun [] 5 Tryz.func101 (by rfl) (by rfl) ?_
  conv => whnf
  (repeat' first | (refine step_go [] ?_; conv => whnf) | (refine two (fun g => ?_) (fun g => ?_) <;> (try simp only [bsx] at g) <;> (conv => whnf)) | (refine And.intro rfl ?_; conv => whnf) | fail)
  refine (hw _ (fun n r i' e hd he => ?_) (fun p e i' he => ?_))
  · conv => whnf
    (repeat' first | (refine step_go [] ?_; conv => whnf) | (refine two (fun g => ?_) (fun g => ?_) <;> (try simp only [bsx] at g) <;> (conv => whnf)) | (refine And.intro rfl ?_; conv => whnf) | fail)
    exact h0 n r i' e hd he
  · conv => whnf
    (repeat' first | (refine step_go [] ?_; conv => whnf) | (refine two (fun g => ?_) (fun g => ?_) <;> (try simp only [bsx] at g) <;> (conv => whnf)) | (refine And.intro rfl ?_; conv => whnf) | fail)
    exact h1 p e i' he
set_option maxHeartbeats 2000000 in
theorem c_cl_times (k : List C3.Tok) (i : Nat) (hk : endT (k.drop i)) (hl : okT k) (x : PS) (K : Out → List VObj → Prop)
    (h0 : ∀ n r i', numberS (k.drop i) = .ok n r → k.drop i' = r → endT r → K (.ret (.tup [])) (xO false false false k i' { x with p := { x.p with times := n } })) (h1 : ∀ p e i', numberS (k.drop i) = .err p e → K (.pan (fltP p e)) (xO false false false k i' x)) :
    VCall Tryz.prog 102 [.ptr 0 0] (xO false false false k i x) K := by
  have hw := @c_number k i hk hl x
  unfold xO at h0 h1 hw ⊢
  refine call_fun [] 5 Tryz.func102 (by rfl) (by rfl) ?_
  conv => whnf
  (repeat' first | (refine step_go [] ?_; conv => whnf) | (refine two (fun g => ?_) (fun g => ?_) <;> (try simp only [bsx] at g) <;> (conv => whnf)) | (refine And.intro rfl ?_; conv => whnf) | fail)
  refine (hw _ (fun n r i' e hd he => ?_) (fun p e i' he => ?_))
  · conv => whnf
    (repeat' first | (refine step_go [] ?_; conv => whnf) | (refine two (fun g => ?_) (fun g => ?_) <;> (try simp only [bsx] at g) <;> (conv => whnf)) | (refine And.intro rfl ?_; conv => whnf) | fail)
    exact h0 n r i' e hd he
  · conv => whnf
    (repeat' first | (refine step_go [] ?_; conv => whnf) | (refine two (fun g => ?_) (fun g => ?_) <;> (try simp only [bsx] at g) <;> (conv => whnf)) | (refine And.intro rfl ?_; conv => whnf) | fail)
    exact h1 p e i' he
set_option maxHeartbeats 2000000 in
theorem c_cl_grace (k : List C3.Tok) (i : Nat) (hk : endT (k.drop i)) (hl : okT k) (x : PS) (K : Out → List VObj → Prop)
    (h0 : ∀ n r i', numberS (k.drop i) = .ok n r → k.drop i' = r → endT r → K (.ret (.tup [])) (xO false false false k i' { x with p := { x.p with grace := n } })) (h1 : ∀ p e i', numberS (k.drop i) = .err p e → K (.pan (fltP p e)) (xO false false false k i' x)) :
    VCall Tryz.prog 103 [.ptr 0 0] (xO false false false k i x) K := by
  have hw := @c_number k i hk hl x
  unfold xO at h0 h1 hw ⊢
  refine call_fun [] 5 Tryz.func103 (by rfl) (by rfl) ?_
  conv => whnf
  (repeat' first | (refine step_go [] ?_; conv => whnf) | (refine two (fun g => ?_) (fun g => ?_) <;> (try simp only [bsx] at g) <;> (conv => whnf)) | (refine And.intro rfl ?_; conv => whnf) | fail)
  refine (hw _ (fun n r i' e hd he => ?_) (fun p e i' he => ?_))
  · conv => whnf
    (repeat' first | (refine step_go [] ?_; conv => whnf) | (refine two (fun g => ?_) (fun g => ?_) <;> (try simp only [bsx] at g) <;> (conv => whnf)) | (refine And.intro rfl ?_; conv => whnf) | fail)
    exact h0 n r i' e hd he
  · conv => whnf
    (repeat' first | (refine step_go [] ?_; conv => whnf) | (refine two (fun g => ?_) (fun g => ?_) <;> (try simp only [bsx] at g) <;> (conv => whnf)) | (refine And.intro rfl ?_; conv => whnf) | fail)
    exact h1 p e i' he
set_option maxHeartbeats 2000000 in
theorem c_cl_rate (k : List C3.Tok) (i : Nat) (hk : endT (k.drop i)) (hl : okT k) (x : PS) (K : Out → List VObj → Prop)
    (h0 : ∀ n r i', takenS takeR (k.drop i) = .ok n r → k.drop i' = r → endT r → K (.ret (.tup [])) (xO false false false k i' { x with p := { x.p with rate := n } })) (h1 : ∀ p e i', takenS takeR (k.drop i) = .err p e → K (.pan (fltP p e)) (xO false false false k i' x)) :
    VCall Tryz.prog 104 [.ptr 0 0] (xO false false false k i x) K := by
  have hw := @c_tk64 k i hk hl x 125 takeR (fun s K hs h => c_takeR s hs K h)
  unfold xO at h0 h1 hw ⊢
  refine call_fun [] 5 Tryz.func104 (by rfl) (by rfl) ?_
  conv => whnf
  (repeat' first | (refine step_go [] ?_; conv => whnf) | (refine two (fun g => ?_) (fun g => ?_) <;> (try simp only [bsx] at g) <;> (conv => whnf)) | (refine And.intro rfl ?_; conv => whnf) | fail)
  refine (hw _ (fun n r i' e hd he => ?_) (fun p e i' he => ?_))
  · conv => whnf
    (repeat' first | (refine step_go [] ?_; conv => whnf) | (refine two (fun g => ?_) (fun g => ?_) <;> (try simp only [bsx] at g) <;> (conv => whnf)) | (refine And.intro rfl ?_; conv => whnf) | fail)
    exact h0 n r i' e hd he
  · conv => whnf
    (repeat' first | (refine step_go [] ?_; conv => whnf) | (refine two (fun g => ?_) (fun g => ?_) <;> (try simp only [bsx] at g) <;> (conv => whnf)) | (refine And.intro rfl ?_; conv => whnf) | fail)
    exact h1 p e i' he
set_option maxHeartbeats 2000000 in
theorem c_cl_pen (k : List C3.Tok) (i : Nat) (hk : endT (k.drop i)) (hl : okT k) (x : PS) (K : Out → List VObj → Prop)
    (h0 : ∀ n r i', takenS takeR (k.drop i) = .ok n r → k.drop i' = r → endT r → K (.ret (.tup [])) (xO false false false k i' { x with p := { x.p with pen := n } })) (h1 : ∀ p e i', takenS takeR (k.drop i) = .err p e → K (.pan (fltP p e)) (xO false false false k i' x)) :
    VCall Tryz.prog 105 [.ptr 0 0] (xO false false false k i x) K := by
  have hw := @c_tk64 k i hk hl x 125 takeR (fun s K hs h => c_takeR s hs K h)
  unfold xO at h0 h1 hw ⊢
  refine call_fun [] 5 Tryz.func105 (by rfl) (by rfl) ?_
  conv => whnf
  (repeat' first | (refine step_go [] ?_; conv => whnf) | (refine two (fun g => ?_) (fun g => ?_) <;> (try simp only [bsx] at g) <;> (conv => whnf)) | (refine And.intro rfl ?_; conv => whnf) | fail)
  refine (hw _ (fun n r i' e hd he => ?_) (fun p e i' he => ?_))
  · conv => whnf
    (repeat' first | (refine step_go [] ?_; conv => whnf) | (refine two (fun g => ?_) (fun g => ?_) <;> (try simp only [bsx] at g) <;> (conv => whnf)) | (refine And.intro rfl ?_; conv => whnf) | fail)
    exact h0 n r i' e hd he
  · conv => whnf
    (repeat' first | (refine step_go [] ?_; conv => whnf) | (refine two (fun g => ?_) (fun g => ?_) <;> (try simp only [bsx] at g) <;> (conv => whnf)) | (refine And.intro rfl ?_; conv => whnf) | fail)
    exact h1 p e i' he
set_option maxHeartbeats 2000000 in
theorem c_cl_cap (k : List C3.Tok) (i : Nat) (hk : endT (k.drop i)) (hl : okT k) (x : PS) (K : Out → List VObj → Prop)
    (h0 : ∀ n r i', takenS takeM (k.drop i) = .ok n r → k.drop i' = r → endT r → K (.ret (.tup [])) (xO false false false k i' { x with p := { x.p with cap := n } })) (h1 : ∀ p e i', takenS takeM (k.drop i) = .err p e → K (.pan (fltP p e)) (xO false false false k i' x)) :
    VCall Tryz.prog 108 [.ptr 0 0] (xO false false false k i x) K := by
  have hw := @c_tk64 k i hk hl x 126 takeM (fun s K hs h => c_takeM s hs K h)
  unfold xO at h0 h1 hw ⊢
  refine call_fun [] 5 Tryz.func108 (by rfl) (by rfl) ?_
  conv => whnf
  (repeat' first | (refine step_go [] ?_; conv => whnf) | (refine two (fun g => ?_) (fun g => ?_) <;> (try simp only [bsx] at g) <;> (conv => whnf)) | (refine And.intro rfl ?_; conv => whnf) | fail)
  refine (hw _ (fun n r i' e hd he => ?_) (fun p e i' he => ?_))
  · conv => whnf
    (repeat' first | (refine step_go [] ?_; conv => whnf) | (refine two (fun g => ?_) (fun g => ?_) <;> (try simp only [bsx] at g) <;> (conv => whnf)) | (refine And.intro rfl ?_; conv => whnf) | fail)
    exact h0 n r i' e hd he
  · conv => whnf
    (repeat' first | (refine step_go [] ?_; conv => whnf) | (refine two (fun g => ?_) (fun g => ?_) <;> (try simp only [bsx] at g) <;> (conv => whnf)) | (refine And.intro rfl ?_; conv => whnf) | fail)
    exact h1 p e i' he
end C24

namespace C25
open Go Go.Proofs VL D1 B10 B12 B13 C8 BB6 BB10 BB14 C1 C2 C3 C4 C6 C15 C20 C22 C23
set_option maxRecDepth 100000
theorem end_sel {m : Nat} {v : V} {ob : List VObj} (src : List Nat) {K : V → List VObj → Prop} (h : St.selK m src ⟨[v], ob, 0, []⟩ fun s' => ∃ v' sub', Weak m s' ⟨[v'], sub', 0, []⟩ ∧ K v' sub') : ∃ v' sub', Weak m ⟨[v], ob, 0, []⟩ ⟨[v'], sub', 0, []⟩ ∧ K v' sub' := by
  obtain ⟨s', hw, v', sub', hw2, hk⟩ := weak_sel h
  exact ⟨_, _, hw.trans hw2, hk⟩
theorem buf_mv {z : Nat} {l l' : List V} {ty : Option TypeId} (h : l = l') : OW (.buf false z l ty) (.buf true z l' ty) := by subst h; exact .moved
theorem pick_range {ws : List (List Int)} {l : List C3.Tok} {n : Int} {r : List C3.Tok} (h : pickS ws l = .ok n r) : 1 ≤ n ∧ n ≤ ws.length := by
  unfold pickS Res.bind at h
  split at h
  · simp only at h
    split at h
    · rename_i hm
      injection h with h1 h2
      have := List.idxOf_lt_length_iff.2 hm
      omega
    · cases h
  · cases h
set_option maxHeartbeats 2000000 in
theorem c_cl_round (k : List C3.Tok) (i : Nat) (hk : endT (k.drop i)) (hl : okT k) (x : PS) (K : Out → List VObj → Prop)
    (h0 : ∀ n r i', pickS [w_half_up, w_down] (k.drop i) = .ok n r → k.drop i' = r → endT r → K (.ret (.tup [])) (xO false false false k i' { x with p := { x.p with rnd := if n = 1 then 1 else 3 } })) (h1 : ∀ p e i', pickS [w_half_up, w_down] (k.drop i) = .err p e → K (.pan (fltP p e)) (xO false false false k i' x)) :
    VCall Tryz.prog 99 [.ptr 0 0] (xO false false false k i x) K := by
  have hw := @c_pick k i hk hl x [w_half_up, w_down] (by unfold bytesOk; decide) (by decide)
  unfold xO at h0 h1 hw ⊢
  refine call_fun [] 5 Tryz.func99 (by rfl) (by rfl) ?_
  conv => whnf
  (repeat' first | (refine step_go [] ?_; conv => whnf) | (refine two (fun g => ?_) (fun g => ?_) <;> (try simp only [bsx] at g) <;> (conv => whnf)) | (refine And.intro rfl ?_; conv => whnf) | fail)
  refine VCall.args (args' := [.ptr 0 0, .sl (sL [w_half_up, w_down]) .no]) (.cons (.eq rfl) (.cons .no .nil)) rfl (hw _ (fun n r i' e hd he => ?_) (fun p e i' he => ?_))
  · have hr := pick_range e
    have hn : n = 1 ∨ n = 2 := by simp at hr; omega
    have h0 := h0 n r i' e hd he
    rcases hn with rfl | rfl
    · conv => whnf
      (repeat' first | (refine step_go [] ?_; conv => whnf) | (refine two (fun g => ?_) (fun g => ?_) <;> (try simp only [bsx] at g) <;> (conv => whnf)) | (refine And.intro rfl ?_; conv => whnf) | (refine ⟨by decide, _, rfl, rfl, ?_⟩; conv => whnf) | fail)
      exact h0
    · conv => whnf
      (repeat' first | (refine step_go [] ?_; conv => whnf) | (refine two (fun g => ?_) (fun g => ?_) <;> (try simp only [bsx] at g) <;> (conv => whnf)) | (refine And.intro rfl ?_; conv => whnf) | (refine ⟨by decide, _, rfl, rfl, ?_⟩; conv => whnf) | fail)
      exact h0
  · conv => whnf
    (repeat' first | (refine step_go [] ?_; conv => whnf) | (refine two (fun g => ?_) (fun g => ?_) <;> (try simp only [bsx] at g) <;> (conv => whnf)) | (refine And.intro rfl ?_; conv => whnf) | fail)
    exact h1 p e i' he
set_option maxHeartbeats 2000000 in
theorem c_cl_reset (k : List C3.Tok) (i : Nat) (hk : endT (k.drop i)) (hl : okT k) (x : PS) (hx : x.p.resets.length < 1000000) (K : Out → List VObj → Prop)
    (h0 : ∀ n v r r' i' s1, numberS (k.drop i) = .ok n r → takenS takeR r = .ok v r' → k.drop i' = r' → endT r' → K (.ret (.tup [])) (xO true true true k i' { x with p := { x.p with resets := x.p.resets ++ [⟨n, v⟩] }, s1 := s1 }))
    (h1 : ∀ p e i', numberS (k.drop i) = .err p e → K (.pan (fltP p e)) (xO false false false k i' x))
    (h2 : ∀ n r p e i', numberS (k.drop i) = .ok n r → takenS takeR r = .err p e → K (.pan (fltP p e)) (xO false false false k i' x)) :
    VCall Tryz.prog 106 [.ptr 0 0] (xO false false false k i x) K := by
  have hrl : (rL x.p.resets).length = x.p.resets.length := by simp [rL]
  refine VCall.weak (call_fun [] 5 Tryz.func106 (by rfl) (by rfl) ?_)
  conv => whnf
  (repeat' first | (refine step_go [] ?_; conv => whnf) | (refine two (fun g => ?_) (fun g => ?_) <;> (try simp only [bsx] at g) <;> (conv => whnf)) | (refine And.intro rfl ?_; conv => whnf) | fail)
  refine c_number k i hk hl x _ (fun n r i' e hd he => ?_) (fun p e i' he => ?_)
  rotate_left
  · conv => whnf
    (repeat' first | (refine step_go [] ?_; conv => whnf) | (refine two (fun g => ?_) (fun g => ?_) <;> (try simp only [bsx] at g) <;> (conv => whnf)) | (refine And.intro rfl ?_; conv => whnf) | fail)
    exact h1 p e i' he
  conv => whnf
  (repeat' first | (refine step_go [] ?_; conv => whnf) | (refine two (fun g => ?_) (fun g => ?_) <;> (try simp only [bsx] at g) <;> (conv => whnf)) | (refine And.intro rfl ?_; conv => whnf) | fail)
  refine c_tk64 k i' (by rw [hd]; exact he) hl x 125 takeR (fun s K hs h => c_takeR s hs K h) _ (fun v r' i2 e2 hd2 he2 => ?_) (fun p e2 i2 he2 => ?_)
  rotate_left
  · rw [hd] at he2
    conv => whnf
    (repeat' first | (refine step_go [] ?_; conv => whnf) | (refine two (fun g => ?_) (fun g => ?_) <;> (try simp only [bsx] at g) <;> (conv => whnf)) | (refine And.intro rfl ?_; conv => whnf) | fail)
    exact h2 n r p e2 i2 e he2
  rw [hd] at e2
  conv => whnf
  (repeat' first | (refine step_go [] ?_; conv => whnf) | (refine two (fun g => ?_) (fun g => ?_) <;> (try simp only [bsx] at g) <;> (conv => whnf)) | (refine And.intro rfl ?_; conv => whnf) | (refine dr_go (by decide +kernel) ?_; conv => whnf) | fail)
  refine ⟨by simp; omega, by simp [V.cells], ?_⟩
  conv => whnf
  (repeat' first | (refine step_go [] ?_; conv => whnf) | (refine two (fun g => ?_) (fun g => ?_) <;> (try simp only [bsx] at g) <;> (conv => whnf)) | (refine And.intro rfl ?_; conv => whnf) | (refine dr_go (by decide +kernel) ?_; conv => whnf) | fail)
  · have hs1 : 1 ≤ x.s1.length := by have := Nat.le_of_ble_eq_true g; simp at this; omega
    refine ⟨by simp [rL], ?_⟩
    conv => whnf
    (repeat' first | (refine step_go [] ?_; conv => whnf) | (refine two (fun g => ?_) (fun g => ?_) <;> (try simp only [bsx] at g) <;> (conv => whnf)) | (refine And.intro rfl ?_; conv => whnf) | (refine dr_go (by decide +kernel) ?_; conv => whnf) | fail)
    have hap := app_in encR x.p.resets ⟨n, v⟩ x.s1
    refine ⟨_, _, weak_of (.cons (.eq rfl) .nil) (.cons (.cells ?_) (.cons (buf_mv hap) (.cons .moved (.cons .moved (.cons (.eq rfl) .nil))))) rfl rfl rfl, h0 n v r r' i2 (x.s1.drop 1) e e2 hd2 he2⟩
    repeat' first
      | exact VWs.nil
      | refine VWs.cons (VW.eq rfl) ?_
      | refine VWs.cons (VW.eq (V_slo (by simp) (by simp; omega))) ?_
  · refine ⟨by simp [rL], fun sp hsp => ?_⟩
    conv => whnf
    (repeat' first | (refine step_go [] ?_; conv => whnf) | (refine two (fun g => ?_) (fun g => ?_) <;> (try simp only [bsx] at g) <;> (conv => whnf)) | (refine And.intro rfl ?_; conv => whnf) | (refine dr_go (by decide +kernel) ?_; conv => whnf) | fail)
    have hap := app_gr encR x.p.resets ⟨n, v⟩ x.s1 sp
    refine end_sel [0, 5, 2, 3, 4] ?_
    conv => whnf
    refine ⟨_, _, weak_of (.cons (.eq rfl) .nil) (.cons (.cells ?_) (.cons (.eq (congrArg (fun l => VObj.buf true 2 l none) hap)) (.cons .moved (.cons .moved (.cons (.eq rfl) .nil))))) rfl rfl rfl, h0 n v r r' i2 sp e e2 hd2 he2⟩
    repeat' first
      | exact VWs.nil
      | refine VWs.cons (VW.eq rfl) ?_
      | refine VWs.cons (VW.eq (V_slo (by simp) (by simp))) ?_
set_option maxHeartbeats 2000000 in
theorem c_cl_late (k : List C3.Tok) (i : Nat) (hk : endT (k.drop i)) (hl : okT k) (x : PS) (hx : x.p.late.length < 1000000) (K : Out → List VObj → Prop)
    (h0 : ∀ n v r r' i' s2, numberS (k.drop i) = .ok n r → takenS takeM r = .ok v r' → k.drop i' = r' → endT r' → K (.ret (.tup [])) (xO true true true k i' { x with p := { x.p with late := x.p.late ++ [⟨n, v⟩] }, s2 := s2 }))
    (h1 : ∀ p e i', numberS (k.drop i) = .err p e → K (.pan (fltP p e)) (xO false false false k i' x))
    (h2 : ∀ n r p e i', numberS (k.drop i) = .ok n r → takenS takeM r = .err p e → K (.pan (fltP p e)) (xO false false false k i' x)) :
    VCall Tryz.prog 107 [.ptr 0 0] (xO false false false k i x) K := by
  have hrl : (tL x.p.late).length = x.p.late.length := by simp [tL]
  refine VCall.weak (call_fun [] 5 Tryz.func107 (by rfl) (by rfl) ?_)
  conv => whnf
  (repeat' first | (refine step_go [] ?_; conv => whnf) | (refine two (fun g => ?_) (fun g => ?_) <;> (try simp only [bsx] at g) <;> (conv => whnf)) | (refine And.intro rfl ?_; conv => whnf) | fail)
  refine c_number k i hk hl x _ (fun n r i' e hd he => ?_) (fun p e i' he => ?_)
  rotate_left
  · conv => whnf
    (repeat' first | (refine step_go [] ?_; conv => whnf) | (refine two (fun g => ?_) (fun g => ?_) <;> (try simp only [bsx] at g) <;> (conv => whnf)) | (refine And.intro rfl ?_; conv => whnf) | fail)
    exact h1 p e i' he
  conv => whnf
  (repeat' first | (refine step_go [] ?_; conv => whnf) | (refine two (fun g => ?_) (fun g => ?_) <;> (try simp only [bsx] at g) <;> (conv => whnf)) | (refine And.intro rfl ?_; conv => whnf) | fail)
  refine c_tk64 k i' (by rw [hd]; exact he) hl x 126 takeM (fun s K hs h => c_takeM s hs K h) _ (fun v r' i2 e2 hd2 he2 => ?_) (fun p e2 i2 he2 => ?_)
  rotate_left
  · rw [hd] at he2
    conv => whnf
    (repeat' first | (refine step_go [] ?_; conv => whnf) | (refine two (fun g => ?_) (fun g => ?_) <;> (try simp only [bsx] at g) <;> (conv => whnf)) | (refine And.intro rfl ?_; conv => whnf) | fail)
    exact h2 n r p e2 i2 e he2
  rw [hd] at e2
  conv => whnf
  (repeat' first | (refine step_go [] ?_; conv => whnf) | (refine two (fun g => ?_) (fun g => ?_) <;> (try simp only [bsx] at g) <;> (conv => whnf)) | (refine And.intro rfl ?_; conv => whnf) | (refine dr_go (by decide +kernel) ?_; conv => whnf) | fail)
  refine ⟨by simp; omega, by simp [V.cells], ?_⟩
  conv => whnf
  (repeat' first | (refine step_go [] ?_; conv => whnf) | (refine two (fun g => ?_) (fun g => ?_) <;> (try simp only [bsx] at g) <;> (conv => whnf)) | (refine And.intro rfl ?_; conv => whnf) | (refine dr_go (by decide +kernel) ?_; conv => whnf) | fail)
  · have hs1 : 1 ≤ x.s2.length := by have := Nat.le_of_ble_eq_true g; simp at this; omega
    refine ⟨by simp [tL], ?_⟩
    conv => whnf
    (repeat' first | (refine step_go [] ?_; conv => whnf) | (refine two (fun g => ?_) (fun g => ?_) <;> (try simp only [bsx] at g) <;> (conv => whnf)) | (refine And.intro rfl ?_; conv => whnf) | (refine dr_go (by decide +kernel) ?_; conv => whnf) | fail)
    have hap := app_in encT x.p.late ⟨n, v⟩ x.s2
    refine ⟨_, _, weak_of (.cons (.eq rfl) .nil) (.cons (.cells ?_) (.cons .moved (.cons (buf_mv hap) (.cons .moved (.cons (.eq rfl) .nil))))) rfl rfl rfl, h0 n v r r' i2 (x.s2.drop 1) e e2 hd2 he2⟩
    repeat' first
      | exact VWs.nil
      | refine VWs.cons (VW.eq rfl) ?_
      | refine VWs.cons (VW.eq (V_slo (by simp) (by simp; omega))) ?_
  · refine ⟨by simp [tL], fun sp hsp => ?_⟩
    conv => whnf
    (repeat' first | (refine step_go [] ?_; conv => whnf) | (refine two (fun g => ?_) (fun g => ?_) <;> (try simp only [bsx] at g) <;> (conv => whnf)) | (refine And.intro rfl ?_; conv => whnf) | (refine dr_go (by decide +kernel) ?_; conv => whnf) | fail)
    have hap := app_gr encT x.p.late ⟨n, v⟩ x.s2 sp
    refine end_sel [0, 1, 5, 3, 4] ?_
    conv => whnf
    refine ⟨_, _, weak_of (.cons (.eq rfl) .nil) (.cons (.cells ?_) (.cons .moved (.cons (.eq (congrArg (fun l => VObj.buf true 2 l none) hap)) (.cons .moved (.cons (.eq rfl) .nil))))) rfl rfl rfl, h0 n v r r' i2 sp e e2 hd2 he2⟩
    repeat' first
      | exact VWs.nil
      | refine VWs.cons (VW.eq rfl) ?_
      | refine VWs.cons (VW.eq (V_slo (by simp) (by simp))) ?_
set_option maxHeartbeats 2000000 in
theorem c_cl_hol (k : List C3.Tok) (i : Nat) (hk : endT (k.drop i)) (hl : okT k) (x : PS) (hx : x.p.hol.length < 1000000) (K : Out → List VObj → Prop)
    (h0 : ∀ v r' i' s3, takenS takeD (k.drop i) = .ok v r' → k.drop i' = r' → endT r' → K (.ret (.tup [])) (xO true true true k i' { x with p := { x.p with hol := x.p.hol ++ [v] }, s3 := s3 }))
    (h1 : ∀ p e i', takenS takeD (k.drop i) = .err p e → K (.pan (fltP p e)) (xO false false false k i' x)) :
    VCall Tryz.prog 109 [.ptr 0 0] (xO false false false k i x) K := by
  have hrl : (iL x.p.hol).length = x.p.hol.length := by simp [iL]
  refine VCall.weak (call_fun [] 5 Tryz.func109 (by rfl) (by rfl) ?_)
  conv => whnf
  (repeat' first | (refine step_go [] ?_; conv => whnf) | (refine two (fun g => ?_) (fun g => ?_) <;> (try simp only [bsx] at g) <;> (conv => whnf)) | (refine And.intro rfl ?_; conv => whnf) | (refine dr_go (by decide +kernel) ?_; conv => whnf) | fail)
  refine c_tkI k i hk hl x 128 takeD (fun s K hs h => c_Take s hs K h) _ (fun v r' i2 e2 hd2 he2 => ?_) (fun p e2 i2 he2 => ?_)
  rotate_left
  · conv => whnf
    (repeat' first | (refine step_go [] ?_; conv => whnf) | (refine two (fun g => ?_) (fun g => ?_) <;> (try simp only [bsx] at g) <;> (conv => whnf)) | (refine And.intro rfl ?_; conv => whnf) | fail)
    exact h1 p e2 i2 he2
  conv => whnf
  (repeat' first | (refine step_go [] ?_; conv => whnf) | (refine two (fun g => ?_) (fun g => ?_) <;> (try simp only [bsx] at g) <;> (conv => whnf)) | (refine And.intro rfl ?_; conv => whnf) | (refine dr_go (by decide +kernel) ?_; conv => whnf) | fail)
  refine ⟨by simp; omega, by simp [V.cells], ?_⟩
  conv => whnf
  (repeat' first | (refine step_go [] ?_; conv => whnf) | (refine two (fun g => ?_) (fun g => ?_) <;> (try simp only [bsx] at g) <;> (conv => whnf)) | (refine And.intro rfl ?_; conv => whnf) | (refine dr_go (by decide +kernel) ?_; conv => whnf) | fail)
  · have hs1 : 1 ≤ x.s3.length := by have := Nat.le_of_ble_eq_true g; simp at this; omega
    refine ⟨by simp [iL], ?_⟩
    conv => whnf
    (repeat' first | (refine step_go [] ?_; conv => whnf) | (refine two (fun g => ?_) (fun g => ?_) <;> (try simp only [bsx] at g) <;> (conv => whnf)) | (refine And.intro rfl ?_; conv => whnf) | (refine dr_go (by decide +kernel) ?_; conv => whnf) | fail)
    have hap := app_in (V.int .i64) x.p.hol v x.s3
    refine ⟨_, _, weak_of (.cons (.eq rfl) .nil) (.cons (.cells ?_) (.cons .moved (.cons .moved (.cons (buf_mv hap) (.cons (.eq rfl) .nil))))) rfl rfl rfl, h0 v r' i2 (x.s3.drop 1) e2 hd2 he2⟩
    repeat' first
      | exact VWs.nil
      | refine VWs.cons (VW.eq rfl) ?_
      | refine VWs.cons (VW.eq (V_slo (by simp) (by simp; omega))) ?_
  · refine ⟨by simp [iL], fun sp hsp => ?_⟩
    conv => whnf
    (repeat' first | (refine step_go [] ?_; conv => whnf) | (refine two (fun g => ?_) (fun g => ?_) <;> (try simp only [bsx] at g) <;> (conv => whnf)) | (refine And.intro rfl ?_; conv => whnf) | (refine dr_go (by decide +kernel) ?_; conv => whnf) | fail)
    have hap := app_gr (V.int .i64) x.p.hol v x.s3 sp
    refine end_sel [0, 1, 2, 5, 4] ?_
    conv => whnf
    refine ⟨_, _, weak_of (.cons (.eq rfl) .nil) (.cons (.cells ?_) (.cons .moved (.cons .moved (.cons (.eq (congrArg (fun l => VObj.buf true 1 l none) hap)) (.cons (.eq rfl) .nil))))) rfl rfl rfl, h0 v r' i2 sp e2 hd2 he2⟩
    repeat' first
      | exact VWs.nil
      | refine VWs.cons (VW.eq rfl) ?_
      | refine VWs.cons (VW.eq (V_slo (by simp) (by simp))) ?_
end C25

namespace C26
open Go Go.Proofs VL D1 B10 B12 B13 C8 BB6 BB10 BB14 C1 C2 C3 C4 C6 C15 C20 C22 C23 C25
set_option maxRecDepth 100000
def ordP (p : Prod) (a : List Int) : Prod := { p with o1 := a.getD 0 p.o1, o2 := a.getD 1 p.o2, o3 := a.getD 2 p.o3, o4 := a.getD 3 p.o4 }
theorem orderN_len : ∀ (n : Nat) (a : List Int) (l : List C3.Tok) (o : List Int) (r : List C3.Tok), orderN n a l = .ok o r → o.length = a.length + n
  | 0, a, l, o, r, h => by
    unfold orderN at h
    injection h with h1 h2
    rw [← h1]; rfl
  | n + 1, a, l, o, r, h => by
    unfold orderN Res.bind at h
    split at h
    · simp only at h
      split at h
      · cases h
      · have := orderN_len n _ _ _ _ h
        rw [List.length_append] at this
        simp at this
        omega
    · cases h
theorem orderN_step {n : Nat} {a : List Int} {l : List C3.Tok} : orderN (n + 1) a l = (pickS owords l).bind fun k r => if k ∈ a then .err (nextT l).1.at_ 7 else orderN n (a ++ [k]) r := rfl
set_option maxHeartbeats 4000000 in
theorem c_cl_order (k : List C3.Tok) (i : Nat) (hk : endT (k.drop i)) (hl : okT k) (x : PS) (K : Out → List VObj → Prop)
    (h0 : ∀ o r i', orderN 4 [] (k.drop i) = .ok o r → k.drop i' = r → endT r → K (.ret (.tup [])) (xO false false false k i' { x with p := ordP x.p o })) (h1 : ∀ p e i' x', orderN 4 [] (k.drop i) = .err p e → K (.pan (fltP p e)) (xO false false false k i' { x with p := x' })) :
    VCall Tryz.prog 110 [.ptr 0 0] (xO false false false k i x) K := by
  have hp := fun i hk x => @c_pick k i hk hl x owords (by unfold bytesOk; decide) (by decide)
  let S : Nat × List Int × Nat → St := fun q => ⟨(.ptr 0 0 :: .undef :: .ptr 5 0 :: .undef :: .undef :: .undef :: .int .i64 (q.1 : Nat) :: .undef :: .undef :: .undef :: .undef :: .undef :: .undef :: .undef :: .undef :: .undef :: .undef :: .undef :: .undef :: .undef :: .undef :: .undef :: .undef :: .undef :: .undef :: .undef :: .undef :: .undef :: .undef :: .undef :: .undef :: .undef :: .undef :: .undef :: .undef :: .undef :: .undef :: []), xO false false false k q.2.2 { x with p := ordP x.p q.2.1 } ++ [.cells true 121 [.bool false, .bool (decide (1 ∈ q.2.1)), .bool (decide (2 ∈ q.2.1)), .bool (decide (3 ∈ q.2.1)), .bool (decide (4 ∈ q.2.1))]], 0, []⟩
  unfold xO
  refine call_fun [] 5 Tryz.func110 (by rfl) (by rfl) ?_
  conv => whnf
  (repeat' first | (refine step_go [] ?_; conv => whnf) | (refine two (fun g => ?_) (fun g => ?_) <;> (try simp only [bsx] at g) <;> (conv => whnf)) | (refine And.intro rfl ?_; conv => whnf) | fail)
  refine VLoop.enter (s' := S (0, [], i)) (weak_of ?_ (.cons (.eq rfl) (.cons (.eq rfl) (.cons (.eq rfl) (.cons (.eq rfl) (.cons (.eq rfl) (.cons (.eq rfl) .nil)))))) rfl rfl rfl)
    (VLoop.indW S (fun q => 4 - q.1) (fun q => q.1 ≤ 4 ∧ q.2.1.length = q.1 ∧ endT (k.drop q.2.2) ∧ orderN 4 [] (k.drop i) = orderN (4 - q.1) q.2.1 (k.drop q.2.2)) ?_ (0, [], i) ⟨by omega, rfl, hk, rfl⟩)
  · (repeat' first | exact VWs.nil | refine VWs.cons VW.undef ?_ | refine VWs.cons (VW.eq rfl) ?_ | refine VWs.cons (VW.eq (congrArg (V.int .i64) (by (try simp only); rw [wrap64 (by omega) (by omega)]; (try omega)))) ?_)
  rintro ⟨j, acc, i1⟩ ⟨hj, ha, hk1, he⟩ ih
  simp only at hj ha hk1 he
  have hn := endT_next hk1
  obtain ⟨_, t, r, hd, e1, e2⟩ := hn
  have hil : i1 < k.length := by
    have := congrArg List.length hd
    rw [List.length_drop, List.length_cons] at this; omega
  have hget : (kL k)[((i1 : Nat) : Int).toNat]? = some (encK t) := by
    have : k[i1]? = some t := by
      have := congrArg (fun l => l[0]?) hd
      simpa using this
    rw [Int.toNat_natCast]; simp [kL, this]
  have hbig := hl.1
  have hkl : (kL k).length = k.length := by simp [kL]
  have hj : j = 4 ∨ j = 0 ∨ j = 1 ∨ j = 2 ∨ j = 3 := by omega
  have hout : ∀ n r2, pickS owords (k.drop i1) = .ok n r2 → n = 1 ∨ n = 2 ∨ n = 3 ∨ n = 4 := fun n r2 e => by
    have := pick_range e
    simp [owords] at this
    omega
  have hs : j < 4 → orderN 4 [] (k.drop i) = orderN (4 - (j + 1) + 1) acc (k.drop i1) := fun h => by rw [he]; congr 1; omega
  have hb : j < 4 → ∀ n r2, pickS owords (k.drop i1) = .ok n r2 → orderN 4 [] (k.drop i) = if n ∈ acc then .err t.at_ 7 else orderN (4 - (j + 1)) (acc ++ [n]) r2 := fun h n r2 e => by rw [hs h, orderN_step, e, e1]; rfl
  have hbe : j < 4 → ∀ p e2, pickS owords (k.drop i1) = .err p e2 → orderN 4 [] (k.drop i) = .err p e2 := fun h p e2 e => by rw [hs h, orderN_step, e]; rfl
  clear hs
  obtain ⟨j1, hj1⟩ : ∃ j1, j1 = j + 1 := ⟨_, rfl⟩
  rcases hj with rfl | rfl | rfl | rfl | rfl
  · refine loop_round [] ?_; conv => whnf
    (repeat' first | (refine step_go [] ?_; conv => whnf) | (refine two (fun g => ?_) (fun g => ?_) <;> (try simp only [bsx] at g) <;> (conv => whnf)) | (refine And.intro rfl ?_; conv => whnf) | fail)
    refine ⟨_, Weak.refl, ?_⟩; conv => whnf
    (repeat' first | (refine step_go [] ?_; conv => whnf) | (refine two (fun g => ?_) (fun g => ?_) <;> (try simp only [bsx] at g) <;> (conv => whnf)) | (refine And.intro rfl ?_; conv => whnf) | fail)
    exact h0 acc _ i1 he rfl hk1
  all_goals
    dsimp only [S]
    refine loop_round [] ?_; conv => whnf
    (repeat' first | (refine step_go [] ?_; conv => whnf) | (refine two (fun g => ?_) (fun g => ?_) <;> (try simp only [bsx] at g) <;> (conv => whnf)) | (refine And.intro rfl ?_; conv => whnf) | fail)
    refine VCall.args (args' := [.ptr 0 0, .sl (sL owords) .no]) (.cons (.eq rfl) (.cons .no .nil)) rfl (hp i1 hk1 _ _ (fun n r2 i2 e hd2 he2 => ?_) (fun p e i2 hee => ?_))
    rotate_left
    · conv => whnf
      (repeat' first | (refine step_go [] ?_; conv => whnf) | (refine two (fun g => ?_) (fun g => ?_) <;> (try simp only [bsx] at g) <;> (conv => whnf)) | (refine And.intro rfl ?_; conv => whnf) | fail)
      exact h1 _ _ _ _ (hbe (by decide) _ _ hee)
    have hb := hb (by decide) n r2 e
    clear hbe
    obtain ⟨n1, hn1⟩ : ∃ n1, n1 = n := ⟨_, rfl⟩
    rcases hout n r2 e with rfl | rfl | rfl | rfl
    all_goals
      conv => whnf
      (repeat' first | (refine step_go [] ?_; conv => whnf) | (refine two (fun g => ?_) (fun g => ?_) <;> (try simp only [bsx] at g) <;> (conv => whnf)) | (refine And.intro rfl ?_; conv => whnf) | (refine ⟨by decide, _, rfl, rfl, ?_⟩; conv => whnf) | (refine ⟨by omega, _, hget, rfl, ?_⟩; conv => whnf) | (refine c_wrong t _ ?_; conv => whnf) | (refine ⟨by decide, by decide, ?_⟩; conv => whnf) | fail)
      · rename_i g
        exact h1 _ _ i2 (ordP x.p acc) (by rw [hb, if_pos g])
      · rename_i g
        rw [if_neg g] at hb
        have hinv : j1 ≤ 4 ∧ (acc ++ [n1]).length = j1 ∧ endT (k.drop i2) ∧ orderN 4 [] (k.drop i) = orderN (4 - j1) (acc ++ [n1]) (k.drop i2) := ⟨by omega, by rw [List.length_append, ha, hj1]; rfl, by rw [hd2]; exact he2, by rw [hd2, hj1, hn1]; exact hb⟩
        refine ⟨S (j1, acc ++ [n1], i2), weak_of ?_ (.cons (.cells ?_) (.cons (.eq rfl) (.cons (.eq rfl) (.cons (.eq rfl) (.cons (.eq rfl) (.cons (.cells ?_) .nil)))))) rfl rfl rfl, ih (j1, acc ++ [n1], i2) hinv (by show 4 - j1 < _; omega)⟩
        all_goals
          subst hj1 hn1
          rcases acc with _ | ⟨a1, _ | ⟨a2, _ | ⟨a3, _ | ⟨a4, acc⟩⟩⟩⟩
          all_goals first
            | (exfalso; revert ha; simp; done)
            | skip
          (repeat' first | exact VWs.nil | refine VWs.cons VW.undef ?_ | refine VWs.cons (VW.eq rfl) ?_ | (refine VWs.cons (VW.eq (congrArg V.bool ?_)) ?_; exact (by simp)) | refine VWs.cons (VW.eq (congrArg (V.int .i64) (wrap64 (by omega) (by omega)))) ?_)
end C26

namespace C27
open Go Go.Proofs VL D1 B10 B12 B13 C8 BB6 BB10 BB14 C1 C2 C3 C4 C6 C15 C20 C22 C23 C25
set_option maxRecDepth 100000
set_option maxHeartbeats 4000000 in
theorem c_clause (w : List Int) (hw : ∀ x ∈ w, 0 ≤ x ∧ x < 256) (k : List C3.Tok) (i : Nat) (x : PS) (K : Out → List VObj → Prop)
    (h_count : w = w_count → K (.ret (.tup [.fn (.func 98) [.ptr 0 0] [], .bool false]))  (xO false false false k i x))
    (h_round : w = w_round → K (.ret (.tup [.fn (.func 99) [.ptr 0 0] [], .bool false]))  (xO false false false k i x))
    (h_kind : w = w_kind → K (.ret (.tup [.fn (.func 100) [.ptr 0 0] [], .bool false]))  (xO false false false k i x))
    (h_every : w = w_every → K (.ret (.tup [.fn (.func 101) [.ptr 0 0] [], .bool false]))  (xO false false false k i x))
    (h_times : w = w_times → K (.ret (.tup [.fn (.func 102) [.ptr 0 0] [], .bool false]))  (xO false false false k i x))
    (h_grace : w = w_grace → K (.ret (.tup [.fn (.func 103) [.ptr 0 0] [], .bool false]))  (xO false false false k i x))
    (h_rate : w = w_rate → K (.ret (.tup [.fn (.func 104) [.ptr 0 0] [], .bool false]))  (xO false false false k i x))
    (h_penalty : w = w_penalty → K (.ret (.tup [.fn (.func 105) [.ptr 0 0] [], .bool false]))  (xO false false false k i x))
    (h_reset : w = w_reset → K (.ret (.tup [.fn (.func 106) [.ptr 0 0] [], .bool true]))  (xO false false false k i x))
    (h_late : w = w_late → K (.ret (.tup [.fn (.func 107) [.ptr 0 0] [], .bool true]))  (xO false false false k i x))
    (h_cap : w = w_cap → K (.ret (.tup [.fn (.func 108) [.ptr 0 0] [], .bool false]))  (xO false false false k i x))
    (h_holiday : w = w_holiday → K (.ret (.tup [.fn (.func 109) [.ptr 0 0] [], .bool true]))  (xO false false false k i x))
    (h_order : w = w_order → K (.ret (.tup [.fn (.func 110) [.ptr 0 0] [], .bool false]))  (xO false false false k i x))
    (h_over : w = w_over → K (.ret (.tup [.fn (.func 111) [.ptr 0 0] [], .bool false]))  (xO false false false k i x))
    (h_roll : w = w_roll → K (.ret (.tup [.fn (.func 112) [.ptr 0 0] [], .bool false]))  (xO false false false k i x))
    (h_none : w ≠ w_count → w ≠ w_round → w ≠ w_kind → w ≠ w_every → w ≠ w_times → w ≠ w_grace → w ≠ w_rate → w ≠ w_penalty → w ≠ w_reset → w ≠ w_late → w ≠ w_cap → w ≠ w_holiday → w ≠ w_order → w ≠ w_over → w ≠ w_roll → K (.ret (.tup [.niln, .bool false]))  (xO false false false k i x)) :
    VCall Tryz.prog 81 [.ptr 0 0, .str (toBA w)] (xO false false false k i x) K := by
  have e_count : (toBA w).toList = (⟨#[99, 111, 117, 110, 116]⟩ : ByteArray).toList ↔ w = w_count := toBA_eq hw (b := w_count) (by decide)
  have e_round : (toBA w).toList = (⟨#[114, 111, 117, 110, 100]⟩ : ByteArray).toList ↔ w = w_round := toBA_eq hw (b := w_round) (by decide)
  have e_kind : (toBA w).toList = (⟨#[107, 105, 110, 100]⟩ : ByteArray).toList ↔ w = w_kind := toBA_eq hw (b := w_kind) (by decide)
  have e_every : (toBA w).toList = (⟨#[101, 118, 101, 114, 121]⟩ : ByteArray).toList ↔ w = w_every := toBA_eq hw (b := w_every) (by decide)
  have e_times : (toBA w).toList = (⟨#[116, 105, 109, 101, 115]⟩ : ByteArray).toList ↔ w = w_times := toBA_eq hw (b := w_times) (by decide)
  have e_grace : (toBA w).toList = (⟨#[103, 114, 97, 99, 101]⟩ : ByteArray).toList ↔ w = w_grace := toBA_eq hw (b := w_grace) (by decide)
  have e_rate : (toBA w).toList = (⟨#[114, 97, 116, 101]⟩ : ByteArray).toList ↔ w = w_rate := toBA_eq hw (b := w_rate) (by decide)
  have e_penalty : (toBA w).toList = (⟨#[112, 101, 110, 97, 108, 116, 121]⟩ : ByteArray).toList ↔ w = w_penalty := toBA_eq hw (b := w_penalty) (by decide)
  have e_reset : (toBA w).toList = (⟨#[114, 101, 115, 101, 116]⟩ : ByteArray).toList ↔ w = w_reset := toBA_eq hw (b := w_reset) (by decide)
  have e_late : (toBA w).toList = (⟨#[108, 97, 116, 101]⟩ : ByteArray).toList ↔ w = w_late := toBA_eq hw (b := w_late) (by decide)
  have e_cap : (toBA w).toList = (⟨#[99, 97, 112]⟩ : ByteArray).toList ↔ w = w_cap := toBA_eq hw (b := w_cap) (by decide)
  have e_holiday : (toBA w).toList = (⟨#[104, 111, 108, 105, 100, 97, 121]⟩ : ByteArray).toList ↔ w = w_holiday := toBA_eq hw (b := w_holiday) (by decide)
  have e_order : (toBA w).toList = (⟨#[111, 114, 100, 101, 114]⟩ : ByteArray).toList ↔ w = w_order := toBA_eq hw (b := w_order) (by decide)
  have e_over : (toBA w).toList = (⟨#[111, 118, 101, 114]⟩ : ByteArray).toList ↔ w = w_over := toBA_eq hw (b := w_over) (by decide)
  have e_roll : (toBA w).toList = (⟨#[114, 111, 108, 108]⟩ : ByteArray).toList ↔ w = w_roll := toBA_eq hw (b := w_roll) (by decide)
  unfold xO at *
  refine call_fun [] 5 Tryz.func81 (by rfl) (by rfl) ?_
  conv => whnf
  (repeat' first | (refine step_go [] ?_; conv => whnf) | (refine two (fun g => ?_) (fun g => ?_) <;> (try simp only [bsx, e_count, e_round, e_kind, e_every, e_times, e_grace, e_rate, e_penalty, e_reset, e_late, e_cap, e_holiday, e_order, e_over, e_roll] at g) <;> (conv => whnf)) | (refine And.intro rfl ?_; conv => whnf) | fail)
  · exact h_count (by assumption)
  · exact h_round (by assumption)
  · exact h_kind (by assumption)
  · exact h_every (by assumption)
  · exact h_times (by assumption)
  · exact h_grace (by assumption)
  · exact h_rate (by assumption)
  · exact h_penalty (by assumption)
  · exact h_reset (by assumption)
  · exact h_late (by assumption)
  · exact h_cap (by assumption)
  · exact h_holiday (by assumption)
  · exact h_order (by assumption)
  · exact h_over (by assumption)
  · exact h_roll (by assumption)
  · apply h_none <;> assumption
end C27

namespace C28
open Go Go.Proofs VL D1 B10 C1 C2 C3 C4 C6 C22
set_option maxRecDepth 100000
def mapW (l : List (List Int)) : List (V × V) := l.map fun w => (.str (toBA w), .bool true)
def Byt (w : List Int) : Prop := ∀ x ∈ w, 0 ≤ x ∧ x < 256
def SnR (e : List (V × V)) (sn : List (List Int)) : Prop := ∃ l, e = mapW l ∧ (∀ w, w ∈ l ↔ w ∈ sn) ∧ ∀ w ∈ l, Byt w
theorem SnR_nil : SnR [] [] := ⟨[], rfl, fun _ => Iff.rfl, by simp⟩
theorem keyW {a b : List Int} (ha : Byt a) (hb : Byt b) : keyB (.str (toBA a)) (.str (toBA b)) = decide (a = b) := by
  show ((toBA a) == (toBA b)) = _
  have h := toBA_eq ha hb
  have e1 : (toBA a == toBA b) = ((toBA a).data == (toBA b).data) := rfl
  rw [e1, Bool.eq_iff_iff, decide_eq_true_iff, beq_iff_eq, ← h]
  exact ⟨fun h2 => by rw [ByteArray.ext h2], fun h2 => by rw [h.1 h2]⟩
theorem mapW_find {l : List (List Int)} {w : List Int} (hl : ∀ w ∈ l, Byt w) (hw : Byt w) : (mapW l).find? (fun e => keyB (.str (toBA w)) e.1) = if w ∈ l then some (.str (toBA w), .bool true) else none := by
  induction l with
  | nil => rfl
  | cons a l ih =>
    have iha := ih fun w h => hl w (.tail _ h)
    simp only [mapW, List.map_cons, List.find?_cons]
    rw [keyW hw (hl a (.head _))]
    by_cases e : w = a
    · subst e; simp
    · simp only [e, decide_false, List.mem_cons, false_or]
      exact iha
theorem mapW_upd {l : List (List Int)} {w : List Int} (hl : ∀ w ∈ l, Byt w) (hw : Byt w) : updV (.str (toBA w)) (.bool true) (mapW l) = mapW (if w ∈ l then l else l ++ [w]) := by
  induction l with
  | nil => rfl
  | cons a l ih =>
    have iha := ih fun w h => hl w (.tail _ h)
    simp only [mapW, List.map_cons] at iha ⊢
    unfold updV
    simp only
    rw [keyW hw (hl a (.head _))]
    by_cases e : w = a
    · subst e; simp
    · simp only [e, decide_false, Bool.false_eq_true, if_false, List.mem_cons, false_or]
      rw [iha]
      split <;> simp
theorem SnR_upd {e : List (V × V)} {sn : List (List Int)} {w : List Int} (h : SnR e sn) (hw : Byt w) : SnR (updV (.str (toBA w)) (.bool true) e) (w :: sn) := by
  obtain ⟨l, rfl, h1, h2⟩ := h
  refine ⟨_, mapW_upd h2 hw, fun u => ?_, fun u hu => ?_⟩
  · split
    · rw [h1, List.mem_cons]
      constructor
      · exact .inr
      · rintro (rfl | h)
        · exact (h1 _).1 (by assumption)
        · exact h
    · simp [h1, or_comm]
  · split at hu
    · exact h2 u hu
    · rcases List.mem_append.1 hu with h | h
      · exact h2 u h
      · simp at h; subst h; exact hw
theorem SnR_find {e : List (V × V)} {sn : List (List Int)} {w : List Int} (h : SnR e sn) (hw : Byt w) : e.find? (fun e => keyB (.str (toBA w)) e.1) = if w ∈ sn then some (.str (toBA w), .bool true) else none := by
  obtain ⟨l, rfl, h1, h2⟩ := h
  rw [mapW_find h2 hw]
  simp only [h1]
end C28

namespace C28b
open Go Go.Proofs VL D1 B10 C1 C2 C3 C4 C6 C22
set_option maxRecDepth 100000
theorem bind_ok {α β : Type} {x : Res α} {f : α → List C3.Tok → Res β} {b : β} {r : List C3.Tok} (h : x.bind f = .ok b r) : ∃ a s, x = .ok a s ∧ f a s = .ok b r := by
  cases x with
  | ok a s => exact ⟨a, s, rfl, h⟩
  | err p e => cases h
theorem nextT_le (l : List C3.Tok) : (nextT l).2.length ≤ l.length := by
  cases l with
  | nil => exact Nat.le_refl _
  | cons t r =>
    show (if t.kind = 0 then (t, t :: r) else (t, r)).2.length ≤ _
    split
    · exact Nat.le_refl _
    · exact Nat.le_succ _
theorem wantS_le {k : Int} {w : List Int} {l r : List C3.Tok} {t : C3.Tok} (h : wantS k w l = .ok t r) : r.length ≤ l.length := by
  unfold wantS at h
  split at h
  · injection h with h1 h2
    rw [← h2]; exact nextT_le l
  · cases h
theorem numberS_le {l r : List C3.Tok} {n : Int} (h : numberS l = .ok n r) : r.length ≤ l.length := by
  obtain ⟨t, s, h1, h2⟩ := bind_ok h
  have := wantS_le h1
  split at h2
  · injection h2 with a b
    rw [← b]; exact this
  · cases h2
theorem takenS_le {f : List Int → Int × Int} {l r : List C3.Tok} {n : Int} (h : takenS f l = .ok n r) : r.length ≤ l.length := by
  obtain ⟨t, s, h1, h2⟩ := bind_ok h
  have := wantS_le h1
  split at h2
  · injection h2 with a b
    rw [← b]; exact this
  · cases h2
theorem pickS_le {ws : List (List Int)} {l r : List C3.Tok} {n : Int} (h : pickS ws l = .ok n r) : r.length ≤ l.length := by
  obtain ⟨t, s, h1, h2⟩ := bind_ok h
  have := wantS_le h1
  split at h2
  · injection h2 with a b
    rw [← b]; exact this
  · cases h2
theorem orderN_le : ∀ (n : Nat) {a : List Int} {l r : List C3.Tok} {o : List Int}, orderN n a l = .ok o r → r.length ≤ l.length
  | 0, a, l, r, o, h => by
    unfold orderN at h
    injection h with h1 h2
    rw [h2]
    exact Nat.le_refl _
  | n + 1, a, l, r, o, h => by
    unfold orderN at h
    obtain ⟨t, s, h1, h2⟩ := bind_ok h
    have := pickS_le h1
    split at h2
    · cases h2
    · exact Nat.le_trans (orderN_le n h2) this
theorem ite_or {α : Type} {c : Prop} [Decidable c] {a b : Option α} {x : α} (h : (if c then a else b) = some x) : a = some x ∨ b = some x := by
  by_cases hc : c
  · rw [if_pos hc] at h; exact .inl h
  · rw [if_neg hc] at h; exact .inr h
theorem clauseS_le {w : List Int} {p q : Prod} {l r : List C3.Tok} {x : Res Prod} (hx : clauseS w p l = some x) (h : x = .ok q r) : r.length ≤ l.length ∧ q.resets.length + q.late.length + q.hol.length ≤ p.resets.length + p.late.length + p.hol.length + 1 := by
  subst h
  unfold clauseS at hx
  rcases ite_or hx with hx | hx
  · injection hx with hx
    obtain ⟨a, s, h1, h2⟩ := bind_ok hx
    injection h2 with ha hb; subst ha hb
    exact ⟨pickS_le h1, Nat.le_succ _⟩
  rcases ite_or hx with hx | hx
  · injection hx with hx
    obtain ⟨a, s, h1, h2⟩ := bind_ok hx
    injection h2 with ha hb; subst ha hb
    exact ⟨pickS_le h1, Nat.le_succ _⟩
  rcases ite_or hx with hx | hx
  · injection hx with hx
    obtain ⟨a, s, h1, h2⟩ := bind_ok hx
    injection h2 with ha hb; subst ha hb
    exact ⟨pickS_le h1, Nat.le_succ _⟩
  rcases ite_or hx with hx | hx
  · injection hx with hx
    obtain ⟨a, s, h1, h2⟩ := bind_ok hx
    injection h2 with ha hb; subst ha hb
    exact ⟨numberS_le h1, Nat.le_succ _⟩
  rcases ite_or hx with hx | hx
  · injection hx with hx
    obtain ⟨a, s, h1, h2⟩ := bind_ok hx
    injection h2 with ha hb; subst ha hb
    exact ⟨numberS_le h1, Nat.le_succ _⟩
  rcases ite_or hx with hx | hx
  · injection hx with hx
    obtain ⟨a, s, h1, h2⟩ := bind_ok hx
    injection h2 with ha hb; subst ha hb
    exact ⟨numberS_le h1, Nat.le_succ _⟩
  rcases ite_or hx with hx | hx
  · injection hx with hx
    obtain ⟨a, s, h1, h2⟩ := bind_ok hx
    injection h2 with ha hb; subst ha hb
    exact ⟨takenS_le h1, Nat.le_succ _⟩
  rcases ite_or hx with hx | hx
  · injection hx with hx
    obtain ⟨a, s, h1, h2⟩ := bind_ok hx
    injection h2 with ha hb; subst ha hb
    exact ⟨takenS_le h1, Nat.le_succ _⟩
  rcases ite_or hx with hx | hx
  · injection hx with hx
    obtain ⟨a, s, h1, h2⟩ := bind_ok hx
    obtain ⟨a2, s2, h3, h4⟩ := bind_ok h2
    injection h4 with ha hb; subst ha hb
    refine ⟨Nat.le_trans (takenS_le h3) (numberS_le h1), ?_⟩
    simp; try omega
  rcases ite_or hx with hx | hx
  · injection hx with hx
    obtain ⟨a, s, h1, h2⟩ := bind_ok hx
    obtain ⟨a2, s2, h3, h4⟩ := bind_ok h2
    injection h4 with ha hb; subst ha hb
    refine ⟨Nat.le_trans (takenS_le h3) (numberS_le h1), ?_⟩
    simp; try omega
  rcases ite_or hx with hx | hx
  · injection hx with hx
    obtain ⟨a, s, h1, h2⟩ := bind_ok hx
    injection h2 with ha hb; subst ha hb
    exact ⟨takenS_le h1, Nat.le_succ _⟩
  rcases ite_or hx with hx | hx
  · injection hx with hx
    obtain ⟨a, s, h1, h2⟩ := bind_ok hx
    injection h2 with ha hb; subst ha hb
    refine ⟨takenS_le h1, ?_⟩
    simp; try omega
  rcases ite_or hx with hx | hx
  · injection hx with hx
    obtain ⟨a, s, h1, h2⟩ := bind_ok hx
    injection h2 with ha hb; subst ha hb
    exact ⟨orderN_le _ h1, Nat.le_succ _⟩
  rcases ite_or hx with hx | hx
  · injection hx with hx
    obtain ⟨a, s, h1, h2⟩ := bind_ok hx
    injection h2 with ha hb; subst ha hb
    exact ⟨pickS_le h1, Nat.le_succ _⟩
  rcases ite_or hx with hx | hx
  · injection hx with hx
    obtain ⟨a, s, h1, h2⟩ := bind_ok hx
    injection h2 with ha hb; subst ha hb
    exact ⟨pickS_le h1, Nat.le_succ _⟩
  cases hx
theorem groupS_le : ∀ (f : Nat) {d : Nat} {l : List C3.Tok} {p : Prod} {sn : List (List Int)} {q : Prod × List (List Int)} {r : List C3.Tok}, groupS f d l p sn = .ok q r → r.length ≤ l.length
  | 0, d, l, p, sn, q, r, h => by cases h
  | f + 1, d, l, p, sn, q, r, h => by
    have hn := nextT_le l
    unfold groupS at h
    split at h
    · injection h with a b
      rw [← b]; exact hn
    · split at h
      · split at h
        · cases h
        · obtain ⟨a, s, h1, h2⟩ := bind_ok h
          exact Nat.le_trans (groupS_le f h2) (Nat.le_trans (groupS_le f h1) hn)
      · split at h
        · cases h
        · split at h
          · cases h
          · rename_i x hx
            split at h
            · cases h
            · obtain ⟨a, s, h1, h2⟩ := bind_ok h
              obtain ⟨a2, s2, h3, h4⟩ := bind_ok h2
              exact Nat.le_trans (groupS_le f h4) (Nat.le_trans (wantS_le h3) (Nat.le_trans (clauseS_le hx h1).1 hn))
end C28b

