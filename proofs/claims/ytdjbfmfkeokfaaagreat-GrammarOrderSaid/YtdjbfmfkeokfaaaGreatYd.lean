/- Part Yd of the proof: B11 B12 B13 D2 B14 D3 B15 B16 B17 B18 B19 B20 B21 B22 BB1 BB2 BB3 BB4 BB5 BB6 BB7 BB8 BB9 BB10 BB11 BB12 BB13 BB14 BB15 C1 C2 C3 C5 C6 C7 C8 C9 C10 C11 C12 C13 C14 C15. -/
import Derived.Test.YtdjbfmfkeokfaaaGreatYc
import Derived.Shelf.Strings.Search3
import Derived.Lib.IndexMore
set_option linter.unusedVariables false
set_option linter.unusedSimpArgs false
set_option maxRecDepth 100000
namespace B11
open Go Go.Proofs VL B1 D1 B2 B3 B4 B5 B6 B7 B8 B9 B10
theorem c_must (b : Bool) (e : Int) (K) (h0 : b = true -> K (.ret (.tup [])) []) (h1 : b = false -> K (.pan (.ifc 166 (.agg [.int .i64 e]))) []) : VCall Tryz.prog 137 [.bool b, .int .i64 e] [] K := by
 refine call_fun [] 0 Tryz.func137 (by rfl) (by rfl) ?_; (conv=>whnf); (repeat (refine step_go [] ?_;conv=>whnf))
 refine two (fun g => ?_) (fun g => ?_)
 · (conv=>whnf); (repeat (refine step_go [] ?_;conv=>whnf))
   exact h1 (by simpa using g)
 · (conv=>whnf); (repeat (refine step_go [] ?_;conv=>whnf))
   exact h0 (by simpa using g)
theorem c_fits (v : Int) (K) (h : K (.ret (.bool (decide (-1000000000000000 <= v /\ v <= 1000000000000000)))) []) : VCall Tryz.prog 143 [.int .i64 v] [] K := by
 refine call_fun [] 0 Tryz.func143 (by rfl) (by rfl) ?_; (conv=>whnf); (repeat (refine step_go [] ?_;conv=>whnf))
 refine two (fun g => ?_) (fun g => ?_)
 · have g : -1000000000000000 <= v := by simpa using g
   (conv=>whnf); (repeat (refine step_go [] ?_;conv=>whnf))
   rw [show decide (-1000000000000000 <= v /\ v <= 1000000000000000) = decide (v <= 1000000000000000) by simp [g]] at h
   exact h
 · have g : ¬ -1000000000000000 <= v := by simpa using g
   (conv=>whnf); (repeat (refine step_go [] ?_;conv=>whnf))
   rw [show decide (-1000000000000000 <= v /\ v <= 1000000000000000) = false by simp [g]] at h
   exact h
theorem d_caught0 (x y : Int) (K) (h : K false [.cells true 2 [.int .i64 x], .cells true 29 [.int .i64 y]]) : VCallD Tryz.prog 135 [.ptr 0 0, .ptr 1 0] [.cells true 2 [.int .i64 x], .cells true 29 [.int .i64 y]] none K := by
 refine calld_fun [] 2 Tryz.func135 (by rfl) (by rfl) ?_
 conv=>whnf
 refine ⟨rfl, ?_⟩
 (conv=>whnf); (repeat (refine step_go [] ?_;conv=>whnf))
 exact h
theorem d_caught1 (x y e : Int) (K) (h : K true [.cells true 2 [.int .i64 0], .cells true 29 [.int .i64 e]]) : VCallD Tryz.prog 135 [.ptr 0 0, .ptr 1 0] [.cells true 2 [.int .i64 x], .cells true 29 [.int .i64 y]] (some (.ifc 166 (.agg [.int .i64 e]))) K := by
 refine calld_fun [] 2 Tryz.func135 (by rfl) (by rfl) ?_
 conv=>whnf
 refine ⟨rfl, ?_⟩
 (conv=>whnf); (repeat (refine step_go [] ?_;conv=>whnf))
 (refine ⟨by decide +kernel, ?_⟩;conv=>whnf)
 (repeat (refine And.intro rfl ?_;conv=>whnf))
 exact h
def numOk (l : List Int) (n : Nat) : Prop := 1 <= l.length /\ l.length <= n /\ ∀ x ∈ l, Dig x
instance (l n) : Decidable (numOk l n) := inferInstanceAs (Decidable (_ /\ _ /\ _))
def sat (v : Nat) : Nat := min v 100000000000000000
theorem sat_step (v d : Nat) (hd : d <= 9) : min (10 * min (sat v) 10000000000000000 + d) 100000000000000000 = sat (10 * v + d) := by unfold sat; omega
theorem vl_take {l : List Int} {i : Nat} (hi : i < l.length) : vl (l.take (i + 1)) = 10 * vl (l.take i) + (l[i] - 48).toNat := by
 rw [List.take_succ_eq_append_getElem hi, vl_snoc]
theorem wrapu8' {x : Int} (h : 0 <= x) (h2 : x < 256) : IntKind.u8.wrap x = x := by rw [wrapu8]; omega
theorem c_number (l : List Int) (hb : ∀ x ∈ l, 0 <= x /\ x < 256) (hl : l.length < 1000000) (n : Nat) (hn : n < 1000) (K) (h0 : numOk l n -> K (.ret (.int .i64 (sat (vl l) : Nat))) [])
 (h1 : ¬ numOk l n -> K (.pan (.ifc 166 (.agg [.int .i64 4]))) []) : VCall Tryz.prog 141 [.str (toBA l), .int .i64 (n : Int)] [] K := by
 have hbl := bL_len l
 refine call_fun [] 0 Tryz.func141 (by rfl) (by rfl) ?_; (conv=>whnf); (repeat (refine step_go [] ?_;conv=>whnf))
 refine two (fun g => ?_) (fun g => ?_)
 all_goals have g' := g
 all_goals simp [sz_toBA] at g
 · (conv=>whnf); (repeat (refine step_go [] ?_;conv=>whnf))
   refine c_must _ _ _ (fun g2 => ?_) (fun g2 => ?_)
   case refine_2 =>
    have g2 : n < l.length := by simp [sz_toBA] at g2; omega
    (conv=>whnf); (repeat (refine step_go [] ?_;conv=>whnf))
    exact h1 fun h => by have := h.2.1; omega
   have g2 : l.length <= n := by simp [sz_toBA] at g2; omega
   (conv=>whnf); (repeat (refine step_go [] ?_;conv=>whnf))
   rw [← toBA_V hb]
   let S : Nat -> St := fun i => ⟨(.str (toBA l) :: .int .i64 (n : Int) :: .undef :: .undef :: .undef :: .int .i64 (sat (vl (l.take i)) : Nat) :: .undef :: .undef :: .undef :: .undef :: .undef :: .undef :: .undef :: .undef :: .undef :: .undef :: .undef :: .undef :: .undef :: .sl (bL l) .no :: .int .i64 l.length :: .int .i64 i :: .undef :: .undef :: .undef :: .undef :: .undef :: .undef :: .undef :: .undef :: .undef :: .undef :: .undef :: .undef :: .undef :: .undef :: .undef :: .undef :: .undef :: .undef :: .undef :: .undef :: []), [], 0, []⟩
   refine VLoop.enter (s' := S 0) (weak_of ?_ .nil rfl rfl rfl) (VLoop.indW S (fun i => l.length - i) (fun i => i <= l.length /\ ∀ j, (h : j < i) -> (h' : j < l.length) -> Dig l[j]) ?_ 0 ⟨by omega, fun j h => by omega⟩)
   · repeat' first
      | exact VWs.nil
      | refine VWs.cons VW.undef ?_
      | refine VWs.cons (VW.eq rfl) ?_
      | refine VWs.cons (VW.eq (by rw [hbl])) ?_
   rintro i ⟨hi, hd⟩ ih
   refine loop_round [] ?_; (conv=>whnf); (repeat (refine step_go [] ?_;conv=>whnf))
   refine two (fun g3 => ?_) (fun g3 => ?_)
   · have hil : i < l.length := by simp at g3; omega
     have hget : (bL l)[(i : Int).toNat]? = some (.int .u8 (l[i])) := by rw [Int.toNat_natCast, bL_get, List.getElem?_eq_getElem hil]; rfl
     have hby := hb l[i] (List.getElem_mem hil)
     (conv=>whnf); (repeat (refine step_go [] ?_;conv=>whnf))
     refine ⟨by omega, _, hget, rfl, ?_⟩; (conv=>whnf); (repeat (refine step_go [] ?_;conv=>whnf))
     have hbad : ¬ Dig l[i] -> K (Out.pan (.ifc 166 (.agg [.int .i64 4]))) [] := fun h => h1 fun hk => h (hk.2.2 _ (List.getElem_mem hil))
     refine two (fun g4 => ?_) (fun g4 => ?_)
     · have g4 : 48 <= l[i] := by simpa using g4
       (conv=>whnf); (repeat (refine step_go [] ?_;conv=>whnf))
       refine c_must _ _ _ (fun g5 => ?_) (fun g5 => ?_)
       case refine_2 =>
        have g5 : 57 < l[i] := by simpa using g5
        (conv=>whnf); (repeat (refine step_go [] ?_;conv=>whnf))
        exact hbad fun h => by unfold Dig at h; omega
       have g5 : l[i] <= 57 := by simpa using g5
       (conv=>whnf); (repeat (refine step_go [] ?_;conv=>whnf))
       refine ⟨rfl, ?_⟩; (conv=>whnf); (repeat (refine step_go [] ?_;conv=>whnf))
       refine ⟨rfl, ?_⟩; (conv=>whnf); (repeat (refine step_go [] ?_;conv=>whnf))
       refine ⟨S (i + 1), weak_of ?_ .nil rfl rfl rfl, ih (i + 1) ⟨by omega, fun j hj hj' => ?_⟩ (by omega)⟩
       · have e : (if (100000000000000000 : Int) < IntKind.i64.wrap (IntKind.i64.wrap (10 * (if (10000000000000000 : Int) < ((sat (vl (l.take i)) : Nat) : Int) then (10000000000000000 : Int) else ((sat (vl (l.take i)) : Nat) : Int))) + IntKind.i64.wrap (IntKind.u8.wrap (l[i] - 48))) then (100000000000000000 : Int) else IntKind.i64.wrap (IntKind.i64.wrap (10 * (if (10000000000000000 : Int) < ((sat (vl (l.take i)) : Nat) : Int) then (10000000000000000 : Int) else ((sat (vl (l.take i)) : Nat) : Int))) + IntKind.i64.wrap (IntKind.u8.wrap (l[i] - 48)))) = ((sat (vl (l.take (i + 1))) : Nat) : Int) := by
          rw [vl_take hil, ← sat_step _ _ (by omega)]
          have hs : sat (vl (l.take i)) <= 100000000000000000 := by unfold sat; omega
          generalize sat (vl (l.take i)) = q at hs
          rw [wrapu8' (by omega) (by omega), wrap64 (x := l[i] - 48) (by omega) (by omega)]
          have e1 : (if (10000000000000000 : Int) < ((q : Nat) : Int) then (10000000000000000 : Int) else ((q : Nat) : Int)) = ((min q 10000000000000000 : Nat) : Int) := by split <;> omega
          rw [e1, wrap64 (x := 10 * ((min q 10000000000000000 : Nat) : Int)) (by omega) (by omega), wrap64 (by omega) (by omega)]
          split <;> omega
         repeat' first
          | exact VWs.nil
          | refine VWs.cons VW.undef ?_
          | refine VWs.cons (VW.eq rfl) ?_
          | refine VWs.cons (VW.eq (congrArg (V.int .i64) (by rw [wrap64 (by omega) (by omega)]; omega))) ?_
          | refine VWs.cons (VW.eq (congrArg (V.int .i64) e)) ?_
       · by_cases hji : j < i
         · exact hd j hji hj'
         · have : j = i := by omega
           subst this
           exact ⟨g4, g5⟩
     · have g4 : l[i] < 48 := by simpa using g4
       (conv=>whnf); (repeat (refine step_go [] ?_;conv=>whnf))
       refine c_must _ _ _ (fun g5 => by cases g5) (fun g5 => ?_)
       (conv=>whnf); (repeat (refine step_go [] ?_;conv=>whnf))
       exact hbad fun h => by unfold Dig at h; omega
   · have hil : i = l.length := by simp at g3; omega
     subst hil
     (conv=>whnf); (repeat (refine step_go [] ?_;conv=>whnf))
     refine ⟨_, Weak.refl, ?_⟩; (conv=>whnf); (repeat (refine step_go [] ?_;conv=>whnf))
     rw [List.take_length]
     refine h0 ⟨by omega, g2, fun x hx => ?_⟩
     obtain ⟨j, hj, rfl⟩ := List.mem_iff_getElem.1 hx
     exact hd j hj hj
 · (conv=>whnf); (repeat (refine step_go [] ?_;conv=>whnf))
   refine c_must _ _ _ (fun g5 => by cases g5) (fun g5 => ?_)
   (conv=>whnf); (repeat (refine step_go [] ?_;conv=>whnf))
   exact h1 fun hk => by have := hk.1; omega
end B11

namespace B12
open Go Go.Proofs VL B1 D1 B2 B3 B4 B5 B6 B7 B8 B9 B10 B11
def wholeOk (l : List Int) : Prop := numOk l 20 /\ (l.length = 1 \/ l.head? ≠ some 48)
instance (l) : Decidable (wholeOk l) := inferInstanceAs (Decidable (_ /\ _))
theorem c_whole (l : List Int) (hb : ∀ x ∈ l, 0 <= x /\ x < 256) (hl : l.length < 1000000) (K) (h0 : wholeOk l -> K (.ret (.int .i64 (sat (vl l) : Nat))) [])
 (h1 : ¬ wholeOk l -> K (.pan (.ifc 166 (.agg [.int .i64 4]))) []) : VCall Tryz.prog 140 [.str (toBA l)] [] K := by
 refine call_fun [] 0 Tryz.func140 (by rfl) (by rfl) ?_; (conv=>whnf); (repeat (refine step_go [] ?_;conv=>whnf))
 refine c_number l hb hl 20 (by omega) _ (fun g => ?_) (fun g => ?_)
 case refine_2 => (conv=>whnf); (repeat (refine step_go [] ?_;conv=>whnf)); exact h1 fun h => g h.1
 (conv=>whnf); (repeat (refine step_go [] ?_;conv=>whnf))
 refine two (fun g2 => ?_) (fun g2 => ?_)
 · have g2 : l.length = 1 := by have := beq_iff_eq.1 g2; rw [sz_toBA] at this; omega
   (conv=>whnf); (repeat (refine step_go [] ?_;conv=>whnf))
   refine c_must _ _ _ (fun g5 => ?_) (fun g5 => by cases g5)
   (conv=>whnf); (repeat (refine step_go [] ?_;conv=>whnf))
   exact h0 ⟨g, .inl g2⟩
 · have g2 : l.length ≠ 1 := by intro e; rw [sz_toBA, e] at g2; simp at g2
   have hl0 := g.1
   obtain ⟨x, r, rfl⟩ : ∃ x r, l = x :: r := by cases l with | nil => simp at hl0 | cons x r => exact ⟨x, r, rfl⟩
   (conv=>whnf); (repeat (refine step_go [] ?_;conv=>whnf))
   refine idx_str (x := x) (by omega) (by rw [sB_toBA hb]; rfl) fun c hc => ?_
   rw [hc]; (conv=>whnf); (repeat (refine step_go [] ?_;conv=>whnf))
   refine c_must _ _ _ (fun g5 => ?_) (fun g5 => ?_)
   · have g5 : x ≠ 48 := by simpa using g5
     (conv=>whnf); (repeat (refine step_go [] ?_;conv=>whnf))
     exact h0 ⟨g, .inr (by simpa using g5)⟩
   · have g5 : x = 48 := by simpa using g5
     (conv=>whnf); (repeat (refine step_go [] ?_;conv=>whnf))
     exact h1 fun h => by
      rcases h.2 with h | h
      · exact g2 h
      · simp [g5] at h
def aheadT (t : List Int) : List Int := t.takeWhile (· != 46)
def behind (t : List Int) : List Int := (t.dropWhile (· != 46)).drop 1
def unsg (l : List Int) : List Int := if hasP l [45] then l.drop 1 else l
def moneyOk (t : List Int) : Prop := t.contains 46 = true /\ (behind t).length = 2 /\ wholeOk (aheadT t) /\ numOk (behind t) 2
instance (l) : Decidable (moneyOk l) := inferInstanceAs (Decidable (_ /\ _ /\ _ /\ _))
def moneyN (t : List Int) : Nat := vl (aheadT t) * 100 + vl (behind t)
def takeM (l : List Int) : Int × Int :=
 if ¬ moneyOk (unsg l) then (0, 4) else
 if hasP l [45] = true /\ moneyN (unsg l) = 0 then (0, 4) else
 if 1000000000000000 < moneyN (unsg l) then (0, 3) else
 (if hasP l [45] = true then -(moneyN (unsg l) : Int) else (moneyN (unsg l) : Int), 0)
theorem unsg_byte {l : List Int} (h : ∀ x ∈ l, 0 <= x /\ x < 256) : ∀ x ∈ unsg l, 0 <= x /\ x < 256 := by
 unfold unsg; split
 · exact fun x hx => h x (List.mem_of_mem_drop hx)
 · exact h
theorem unsg_len (l : List Int) : (unsg l).length <= l.length := by unfold unsg; split <;> simp
theorem ahead_sub (t : List Int) : ∀ x ∈ aheadT t, x ∈ t := fun x hx => (List.takeWhile_sublist _).subset hx
theorem behind_sub (t : List Int) : ∀ x ∈ behind t, x ∈ t := fun x hx => (List.dropWhile_sublist _).subset (List.mem_of_mem_drop hx)
theorem ahead_len (t : List Int) : (aheadT t).length <= t.length := (List.takeWhile_sublist _).length_le
theorem behind_len (t : List Int) : (behind t).length <= t.length := by
 unfold behind; rw [List.length_drop]
 have := (List.dropWhile_sublist (fun x : Int => x != 46) (l := t)).length_le
 omega
theorem vl_two {l : List Int} (h : l.length = 2) (hd : ∀ x ∈ l, Dig x) : vl l < 100 := by have := vl_lt l hd; rw [h] at this; omega
set_option maxHeartbeats 4000000 in
theorem c_takeM (s : ByteArray) (hs : s.size < 1000000) (K) (h : K (.ret (.tup [.int .i64 (takeM (sB s)).1, .int .i64 (takeM (sB s)).2])) []) : VCall Tryz.prog 126 [.str s] [] K := by
 have hb := sB_byte s
 have hl := sB_len s
 have hub := unsg_byte hb
 have hul := unsg_len (sB s)
 have hab : ∀ x ∈ aheadT (unsg (sB s)), 0 <= x /\ x < 256 := fun x hx => hub x (ahead_sub _ x hx)
 have hbb : ∀ x ∈ behind (unsg (sB s)), 0 <= x /\ x < 256 := fun x hx => hub x (behind_sub _ x hx)
 have hal := ahead_len (unsg (sB s))
 have hbl := behind_len (unsg (sB s))
 have hfail : ¬ moneyOk (unsg (sB s)) -> K (.ret (.tup [.int .i64 0, .int .i64 4])) [] := fun hn => by
  have : takeM (sB s) = (0, 4) := by unfold takeM; rw [if_pos hn]
  rw [this] at h; exact h
 refine VCall.weak (call_fun [] 0 Tryz.func126 (by rfl) (by rfl) ?_)
 (conv=>whnf); (repeat (refine step_go [] ?_;conv=>whnf))
 refine c_cutP s _ _ ?_; (conv=>whnf); (repeat (refine step_go [] ?_;conv=>whnf))
 rw [show sB (ByteArray.mk #[45]) = [45] from rfl]
 rw [show (if hasP (sB s) [45] = true then List.drop [(45 : Int)].length (sB s) else sB s) = unsg (sB s) from rfl]
 refine c_cut _ (by rw [sz_toBA]; omega) _ ?_; (conv=>whnf); (repeat (refine step_go [] ?_;conv=>whnf))
 rw [sB_toBA hub]
 rw [show List.takeWhile (fun x => x != 46) (unsg (sB s)) = aheadT (unsg (sB s)) from rfl, show List.drop 1 (List.dropWhile (fun x => x != 46) (unsg (sB s))) = behind (unsg (sB s)) from rfl]
 refine two (fun g => ?_) (fun g => ?_)
 case refine_2 =>
  (conv=>whnf); (repeat (refine step_go [] ?_;conv=>whnf))
  refine c_must _ _ _ (fun g5 => by cases g5) (fun g5 => ?_)
  (conv=>whnf); (repeat first | (refine step_go [] ?_;conv=>whnf) | (refine d_caught1 _ _ _ _ ?_;conv=>whnf))
  exact ⟨_, _, Weak.refl, hfail fun hk => by rw [hk.1] at g; cases g⟩
 (conv=>whnf); (repeat (refine step_go [] ?_;conv=>whnf))
 refine c_must _ _ _ (fun g2 => ?_) (fun g2 => ?_)
 case refine_2 =>
  (conv=>whnf); (repeat first | (refine step_go [] ?_;conv=>whnf) | (refine d_caught1 _ _ _ _ ?_;conv=>whnf))
  exact ⟨_, _, Weak.refl, hfail fun hk => by rw [sz_toBA, hk.2.1] at g2; cases g2⟩
 have g2 : (behind (unsg (sB s))).length = 2 := by have := beq_iff_eq.1 g2; rw [sz_toBA] at this; omega
 (conv=>whnf); (repeat (refine step_go [] ?_;conv=>whnf))
 refine c_whole _ hab (by omega) _ (fun g3 => ?_) (fun g3 => ?_)
 case refine_2 =>
  (conv=>whnf); (repeat first | (refine step_go [] ?_;conv=>whnf) | (refine d_caught1 _ _ _ _ ?_;conv=>whnf))
  exact ⟨_, _, Weak.refl, hfail fun hk => g3 hk.2.2.1⟩
 (conv=>whnf); (repeat (refine step_go [] ?_;conv=>whnf))
 refine c_number _ hbb (by omega) 2 (by omega) _ (fun g4 => ?_) (fun g4 => ?_)
 case refine_2 =>
  (conv=>whnf); (repeat first | (refine step_go [] ?_;conv=>whnf) | (refine d_caught1 _ _ _ _ ?_;conv=>whnf))
  exact ⟨_, _, Weak.refl, hfail fun hk => g4 hk.2.2.2⟩
 have hok : moneyOk (unsg (sB s)) := ⟨g, g2, g3, g4⟩
 have hv2 := vl_two g2 g4.2.2
 have hs2 : sat (vl (behind (unsg (sB s)))) = vl (behind (unsg (sB s))) := by unfold sat; omega
 have hs1 : sat (vl (aheadT (unsg (sB s)))) <= 100000000000000000 := by unfold sat; omega
 have hN : moneyN (unsg (sB s)) = vl (aheadT (unsg (sB s))) * 100 + vl (behind (unsg (sB s))) := rfl
 rw [hs2]
 have hzero : hasP (sB s) [45] = true -> moneyN (unsg (sB s)) = 0 -> K (.ret (.tup [.int .i64 0, .int .i64 4])) [] := fun h1 h2 => by
  have : takeM (sB s) = (0, 4) := by unfold takeM; rw [if_neg (by simpa using hok), if_pos ⟨h1, h2⟩]
  rw [this] at h; exact h
 have hbig : (hasP (sB s) [45] = true -> moneyN (unsg (sB s)) ≠ 0) -> 1000000000000000 < moneyN (unsg (sB s)) -> K (.ret (.tup [.int .i64 0, .int .i64 3])) [] := fun h1 h2 => by
  have : takeM (sB s) = (0, 3) := by unfold takeM; rw [if_neg (by simpa using hok), if_neg (fun h => h1 h.1 h.2), if_pos h2]
  rw [this] at h; exact h
 have hgood : (hasP (sB s) [45] = true -> moneyN (unsg (sB s)) ≠ 0) -> moneyN (unsg (sB s)) <= 1000000000000000 -> K (.ret (.tup [.int .i64 (if hasP (sB s) [45] = true then -(moneyN (unsg (sB s)) : Int) else (moneyN (unsg (sB s)) : Int)), .int .i64 0])) [] := fun h1 h2 => by
  have : takeM (sB s) = (if hasP (sB s) [45] = true then -(moneyN (unsg (sB s)) : Int) else (moneyN (unsg (sB s)) : Int), 0) := by unfold takeM; rw [if_neg (by simpa using hok), if_neg (fun h => h1 h.1 h.2), if_neg (by omega)]
  rw [this] at h; exact h
 have rest : (hasP (sB s) [45] = true -> moneyN (unsg (sB s)) ≠ 0) -> True := fun _ => trivial
 clear h hok hfail
 generalize moneyN (unsg (sB s)) = N at *
 generalize hA : vl (aheadT (unsg (sB s))) = A at *
 generalize hB : vl (behind (unsg (sB s))) = B at *
 generalize hasP (sB s) [45] = p at *
 cases p with
 | false =>
   (conv=>whnf); (repeat (refine step_go [] ?_;conv=>whnf))
   refine c_must _ _ _ (fun g6 => ?_) (fun g6 => by cases g6)
   (conv=>whnf); (repeat (refine step_go [] ?_;conv=>whnf))
   have hpre : ((false : Bool) = true -> N ≠ 0) := fun h => by cases h
   refine c_must _ _ _ (fun g7 => ?_) (fun g7 => ?_)
   case refine_2 =>
    have g7 : 10000000000000 < sat A := by have := of_decide_eq_false g7; omega
    (conv=>whnf); (repeat first | (refine step_go [] ?_;conv=>whnf) | (refine d_caught1 _ _ _ _ ?_;conv=>whnf))
    exact ⟨_, _, Weak.refl, hbig hpre (by unfold sat at g7; omega)⟩
   have g7 : sat A <= 10000000000000 := by have := of_decide_eq_true g7; omega
   have hAs : sat A = A := by unfold sat at g7 ⊢; omega
   rw [hAs]; (conv=>whnf); (repeat (refine step_go [] ?_;conv=>whnf))
   rw [show IntKind.i64.wrap (IntKind.i64.wrap ((A : Int) * 100) + (B : Int)) = (N : Int) by rw [wrap64 (x := (A : Int) * 100) (by omega) (by omega), wrap64 (by omega) (by omega)]; omega]
   refine c_fits _ _ ?_; (conv=>whnf); (repeat (refine step_go [] ?_;conv=>whnf))
   refine c_must _ _ _ (fun g8 => ?_) (fun g8 => ?_)
   case refine_2 =>
    have g8 := of_decide_eq_false g8
    (conv=>whnf); (repeat first | (refine step_go [] ?_;conv=>whnf) | (refine d_caught1 _ _ _ _ ?_;conv=>whnf))
    exact ⟨_, _, Weak.refl, hbig hpre (by omega)⟩
   have g8 := of_decide_eq_true g8
   (conv=>whnf); (repeat first | (refine step_go [] ?_;conv=>whnf) | (refine d_caught0 _ _ _ ?_;conv=>whnf))
   exact ⟨_, _, Weak.refl, hgood hpre (by omega)⟩
 | true =>
   (conv=>whnf); (repeat (refine step_go [] ?_;conv=>whnf))
   refine two (fun g5 => ?_) (fun g5 => ?_)
   · have g5 : 0 < sat A := by have := of_decide_eq_true g5; omega
     (conv=>whnf); (repeat (refine step_go [] ?_;conv=>whnf))
     refine c_must _ _ _ (fun g6 => ?_) (fun g6 => by cases g6)
     (conv=>whnf); (repeat (refine step_go [] ?_;conv=>whnf))
     have hpre : ((true : Bool) = true -> N ≠ 0) := fun _ => by unfold sat at g5; omega
     refine c_must _ _ _ (fun g7 => ?_) (fun g7 => ?_)
     case refine_2 =>
      have g7 : 10000000000000 < sat A := by have := of_decide_eq_false g7; omega
      (conv=>whnf); (repeat first | (refine step_go [] ?_;conv=>whnf) | (refine d_caught1 _ _ _ _ ?_;conv=>whnf))
      exact ⟨_, _, Weak.refl, hbig hpre (by unfold sat at g7; omega)⟩
     have g7 : sat A <= 10000000000000 := by have := of_decide_eq_true g7; omega
     have hAs : sat A = A := by unfold sat at g7 ⊢; omega
     rw [hAs]; (conv=>whnf); (repeat (refine step_go [] ?_;conv=>whnf))
     rw [show IntKind.i64.wrap (IntKind.i64.wrap ((A : Int) * 100) + (B : Int)) = (N : Int) by rw [wrap64 (x := (A : Int) * 100) (by omega) (by omega), wrap64 (by omega) (by omega)]; omega]
     refine c_fits _ _ ?_; (conv=>whnf); (repeat (refine step_go [] ?_;conv=>whnf))
     refine c_must _ _ _ (fun g8 => ?_) (fun g8 => ?_)
     case refine_2 =>
      have g8 := of_decide_eq_false g8
      (conv=>whnf); (repeat first | (refine step_go [] ?_;conv=>whnf) | (refine d_caught1 _ _ _ _ ?_;conv=>whnf))
      exact ⟨_, _, Weak.refl, hbig hpre (by omega)⟩
     have g8 := of_decide_eq_true g8
     (conv=>whnf); (repeat first | (refine step_go [] ?_;conv=>whnf) | (refine d_caught0 _ _ _ ?_;conv=>whnf))
     rw [show IntKind.i64.wrap (0 - (N : Int)) = -(N : Int) by rw [wrap64 (by omega) (by omega)]; omega]
     exact ⟨_, _, Weak.refl, hgood hpre (by omega)⟩
   · have g5 : sat A = 0 := by have := of_decide_eq_false g5; omega
     (conv=>whnf); (repeat (refine step_go [] ?_;conv=>whnf))
     refine c_must _ _ _ (fun g6 => ?_) (fun g6 => ?_)
     case refine_2 =>
      have g6 : B = 0 := by have := of_decide_eq_false g6; omega
      (conv=>whnf); (repeat first | (refine step_go [] ?_;conv=>whnf) | (refine d_caught1 _ _ _ _ ?_;conv=>whnf))
      exact ⟨_, _, Weak.refl, hzero rfl (by unfold sat at g5; omega)⟩
     have g6 : 0 < B := by have := of_decide_eq_true g6; omega
     (conv=>whnf); (repeat (refine step_go [] ?_;conv=>whnf))
     have hpre : ((true : Bool) = true -> N ≠ 0) := fun _ => by omega
     refine c_must _ _ _ (fun g7 => ?_) (fun g7 => ?_)
     case refine_2 =>
      have g7 : 10000000000000 < sat A := by have := of_decide_eq_false g7; omega
      (conv=>whnf); (repeat first | (refine step_go [] ?_;conv=>whnf) | (refine d_caught1 _ _ _ _ ?_;conv=>whnf))
      exact ⟨_, _, Weak.refl, hbig hpre (by unfold sat at g7; omega)⟩
     have g7 : sat A <= 10000000000000 := by have := of_decide_eq_true g7; omega
     have hAs : sat A = A := by unfold sat at g7 ⊢; omega
     rw [hAs]; (conv=>whnf); (repeat (refine step_go [] ?_;conv=>whnf))
     rw [show IntKind.i64.wrap (IntKind.i64.wrap ((A : Int) * 100) + (B : Int)) = (N : Int) by rw [wrap64 (x := (A : Int) * 100) (by omega) (by omega), wrap64 (by omega) (by omega)]; omega]
     refine c_fits _ _ ?_; (conv=>whnf); (repeat (refine step_go [] ?_;conv=>whnf))
     refine c_must _ _ _ (fun g8 => ?_) (fun g8 => ?_)
     case refine_2 =>
      have g8 := of_decide_eq_false g8
      (conv=>whnf); (repeat first | (refine step_go [] ?_;conv=>whnf) | (refine d_caught1 _ _ _ _ ?_;conv=>whnf))
      exact ⟨_, _, Weak.refl, hbig hpre (by omega)⟩
     have g8 := of_decide_eq_true g8
     (conv=>whnf); (repeat first | (refine step_go [] ?_;conv=>whnf) | (refine d_caught0 _ _ _ ?_;conv=>whnf))
     rw [show IntKind.i64.wrap (0 - (N : Int)) = -(N : Int) by rw [wrap64 (by omega) (by omega)]; omega]
     exact ⟨_, _, Weak.refl, hgood hpre (by omega)⟩
end B12

namespace B13
open Go Go.Proofs VL B1 D1 B2 B3 B4 B5 B6 B7 B8 B9 B10 B11 B12
def unpc (l : List Int) : List Int := l.take (l.length - 1)
def fracOk (b : List Int) : Prop := 1 <= b.length /\ b.length <= 7 /\ b.getLast? ≠ some 48 /\ ∀ x ∈ b, Dig x
instance (b) : Decidable (fracOk b) := inferInstanceAs (Decidable (_ /\ _ /\ _ /\ _))
def fracN (b : List Int) : Nat := vl (b ++ List.replicate (7 - b.length) 48)
def rateOk (t : List Int) : Prop := wholeOk (aheadT t) /\ vl (aheadT t) <= 1000 /\ (t.contains 46 = true -> fracOk (behind t))
instance (l) : Decidable (rateOk l) := inferInstanceAs (Decidable (_ /\ _ /\ (_ -> _)))
def rateN (t : List Int) : Nat := vl (aheadT t) * 10000000 + (if t.contains 46 = true then fracN (behind t) else 0)
def takeR (l : List Int) : Int × Int :=
 if hasS l [37] = true /\ rateOk (unsg (unpc l)) /\ rateN (unsg (unpc l)) <= 10000000000 /\ (hasP (unpc l) [45] = true -> 0 < rateN (unsg (unpc l))) then
  (if hasP (unpc l) [45] = true then -(rateN (unsg (unpc l)) : Int) else (rateN (unsg (unpc l)) : Int), 0)
 else (0, 4)
theorem unpc_byte {l : List Int} (h : ∀ x ∈ l, 0 <= x /\ x < 256) : ∀ x ∈ unpc l, 0 <= x /\ x < 256 := fun x hx => h x (List.mem_of_mem_take hx)
theorem unpc_len (l : List Int) : (unpc l).length <= l.length := by unfold unpc; simp
theorem last_get {b : List Int} {n : Nat} (h : b.length = n + 1) : ∃ x, b[n]? = some x /\ b.getLast? = some x := by
 refine ⟨b[n], List.getElem?_eq_getElem (by omega), ?_⟩
 rw [List.getLast?_eq_getElem?, show b.length - 1 = n by omega, List.getElem?_eq_getElem (by omega)]
set_option maxHeartbeats 4000000 in
theorem c_takeR (s : ByteArray) (hs : s.size < 1000000) (K) (h : K (.ret (.tup [.int .i64 (takeR (sB s)).1, .int .i64 (takeR (sB s)).2])) []) : VCall Tryz.prog 125 [.str s] [] K := by
 have hb := sB_byte s
 have hl := sB_len s
 have hpb := unpc_byte hb
 have hpl := unpc_len (sB s)
 have hub := unsg_byte hpb
 have hul := unsg_len (unpc (sB s))
 have hfail : ¬ (hasS (sB s) [37] = true /\ rateOk (unsg (unpc (sB s))) /\ rateN (unsg (unpc (sB s))) <= 10000000000 /\ (hasP (unpc (sB s)) [45] = true -> 0 < rateN (unsg (unpc (sB s))))) -> K (.ret (.tup [.int .i64 0, .int .i64 4])) [] := fun hn => by
  have : takeR (sB s) = (0, 4) := by unfold takeR; rw [if_neg hn]
  rw [this] at h; exact h
 have hgood : (hasS (sB s) [37] = true /\ rateOk (unsg (unpc (sB s))) /\ rateN (unsg (unpc (sB s))) <= 10000000000 /\ (hasP (unpc (sB s)) [45] = true -> 0 < rateN (unsg (unpc (sB s))))) -> K (.ret (.tup [.int .i64 (if hasP (unpc (sB s)) [45] = true then -(rateN (unsg (unpc (sB s))) : Int) else (rateN (unsg (unpc (sB s))) : Int)), .int .i64 0])) [] := fun hn => by
  have : takeR (sB s) = (if hasP (unpc (sB s)) [45] = true then -(rateN (unsg (unpc (sB s))) : Int) else (rateN (unsg (unpc (sB s))) : Int), 0) := by unfold takeR; rw [if_pos hn]
  rw [this] at h; exact h
 clear h
 refine VCall.weak (call_fun [] 0 Tryz.func125 (by rfl) (by rfl) ?_)
 (conv=>whnf); (repeat (refine step_go [] ?_;conv=>whnf))
 refine c_cutS s _ _ (by omega) ?_; (conv=>whnf); (repeat (refine step_go [] ?_;conv=>whnf))
 rw [show sB (ByteArray.mk #[37]) = [37] from rfl]
 refine c_must _ _ _ (fun g => ?_) (fun g => ?_)
 case refine_2 =>
  (conv=>whnf); (repeat first | (refine step_go [] ?_;conv=>whnf) | (refine d_caught1 _ _ _ _ ?_;conv=>whnf))
  exact ⟨_, _, Weak.refl, hfail fun hk => by rw [hk.1] at g; cases g⟩
 rw [g]
 rw [show (if true = true then List.take (s.size - (ByteArray.mk #[37]).size) (sB s) else sB s) = unpc (sB s) by rw [if_pos rfl]; unfold unpc; rw [hl]; rfl]
 (conv=>whnf); (repeat (refine step_go [] ?_;conv=>whnf))
 refine c_cutP _ _ _ ?_; (conv=>whnf); (repeat (refine step_go [] ?_;conv=>whnf))
 rw [sB_toBA hpb, show sB (ByteArray.mk #[45]) = [45] from rfl]
 rw [show (if hasP (unpc (sB s)) [45] = true then List.drop [(45 : Int)].length (unpc (sB s)) else unpc (sB s)) = unsg (unpc (sB s)) from rfl]
 generalize unsg (unpc (sB s)) = t at *
 generalize hasP (unpc (sB s)) [45] = neg at *
 have hab : ∀ x ∈ aheadT t, 0 <= x /\ x < 256 := fun x hx => hub x (ahead_sub _ x hx)
 have hbb : ∀ x ∈ behind t, 0 <= x /\ x < 256 := fun x hx => hub x (behind_sub _ x hx)
 have hal := ahead_len t
 have hbl := behind_len t
 refine c_cut _ (by rw [sz_toBA]; omega) _ ?_; (conv=>whnf); (repeat (refine step_go [] ?_;conv=>whnf))
 rw [sB_toBA hub]
 rw [show List.takeWhile (fun x => x != 46) t = aheadT t from rfl, show List.drop 1 (List.dropWhile (fun x => x != 46) t) = behind t from rfl]
 refine c_whole _ hab (by omega) _ (fun g3 => ?_) (fun g3 => ?_)
 case refine_2 =>
  (conv=>whnf); (repeat first | (refine step_go [] ?_;conv=>whnf) | (refine d_caught1 _ _ _ _ ?_;conv=>whnf))
  exact ⟨_, _, Weak.refl, hfail fun hk => g3 hk.2.1.1⟩
 (conv=>whnf); (repeat (refine step_go [] ?_;conv=>whnf))
 refine c_must _ _ _ (fun g4 => ?_) (fun g4 => ?_)
 case refine_2 =>
  have g4 := of_decide_eq_false g4
  (conv=>whnf); (repeat first | (refine step_go [] ?_;conv=>whnf) | (refine d_caught1 _ _ _ _ ?_;conv=>whnf))
  exact ⟨_, _, Weak.refl, hfail fun hk => by have := hk.2.1.2.1; unfold sat at g4; omega⟩
 have g4 : vl (aheadT t) <= 1000 := by have := of_decide_eq_true g4; unfold sat at this; omega
 have hsat : sat (vl (aheadT t)) = vl (aheadT t) := by unfold sat; omega
 rw [hsat]; (conv=>whnf); (repeat (refine step_go [] ?_;conv=>whnf))
 rw [show IntKind.i64.wrap (((vl (aheadT t) : Nat) : Int) * 10000000) = ((vl (aheadT t) * 10000000 : Nat) : Int) by rw [wrap64 (by omega) (by omega)]; omega]
 obtain ⟨W, hW⟩ : ∃ W, vl (aheadT t) * 10000000 = W := ⟨_, rfl⟩
 have hW2 : W <= 10000000000 := by omega
 obtain ⟨w, hw⟩ : ∃ w, ((W : Nat) : Int) = w := ⟨_, rfl⟩
 rw [hW, hw]
 refine two (fun hp => ?_) (fun hp => ?_)
 · (conv=>whnf); (repeat (refine step_go [] ?_;conv=>whnf))
   have hnf : ¬ fracOk (behind t) -> K (.ret (.tup [.int .i64 0, .int .i64 4])) [] := fun hn => hfail fun hk => hn (hk.2.1.2.2 hp)
   refine two (fun g5 => ?_) (fun g5 => ?_)
   case refine_2 =>
    have g5 : (behind t).length = 0 := by have := of_decide_eq_false g5; rw [sz_toBA] at this; omega
    (conv=>whnf); (repeat (refine step_go [] ?_;conv=>whnf))
    refine c_must _ _ _ (fun g7 => by cases g7) (fun g7 => ?_)
    (conv=>whnf); (repeat first | (refine step_go [] ?_;conv=>whnf) | (refine d_caught1 _ _ _ _ ?_;conv=>whnf))
    exact ⟨_, _, Weak.refl, hnf fun hk => by have := hk.1; omega⟩
   have g5 : 1 <= (behind t).length := by have := of_decide_eq_true g5; rw [sz_toBA] at this; omega
   (conv=>whnf); (repeat (refine step_go [] ?_;conv=>whnf))
   refine two (fun g6 => ?_) (fun g6 => ?_)
   case refine_2 =>
    have g6 : 7 < (behind t).length := by have := of_decide_eq_false g6; rw [sz_toBA] at this; omega
    (conv=>whnf); (repeat (refine step_go [] ?_;conv=>whnf))
    refine c_must _ _ _ (fun g7 => by cases g7) (fun g7 => ?_)
    (conv=>whnf); (repeat first | (refine step_go [] ?_;conv=>whnf) | (refine d_caught1 _ _ _ _ ?_;conv=>whnf))
    exact ⟨_, _, Weak.refl, hnf fun hk => by have := hk.2.1; omega⟩
   have g6 : (behind t).length <= 7 := by have := of_decide_eq_true g6; rw [sz_toBA] at this; omega
   obtain ⟨n, hn⟩ : ∃ n, (behind t).length = n + 1 := ⟨(behind t).length - 1, by omega⟩
   obtain ⟨x, hx1, hx2⟩ := last_get hn
   (conv=>whnf); (repeat (refine step_go [] ?_;conv=>whnf))
   rw [sz_toBA, show IntKind.i64.wrap (((behind t).length : Int) - 1) = (n : Int) by rw [wrap64 (by omega) (by omega)]; omega]
   refine idx_str (x := x) (by omega) (by rw [sB_toBA hbb, Int.toNat_natCast]; exact hx1) fun c hc => ?_
   rw [hc]; (conv=>whnf); (repeat (refine step_go [] ?_;conv=>whnf))
   refine c_must _ _ _ (fun g7 => ?_) (fun g7 => ?_)
   case refine_2 =>
    have g7 : x = 48 := by simpa using g7
    (conv=>whnf); (repeat first | (refine step_go [] ?_;conv=>whnf) | (refine d_caught1 _ _ _ _ ?_;conv=>whnf))
    exact ⟨_, _, Weak.refl, hnf fun hk => hk.2.2.1 (by rw [hx2, g7])⟩
   have g7 : x ≠ 48 := by simpa using g7
   (conv=>whnf); (repeat (refine step_go [] ?_;conv=>whnf))
   (refine ⟨by decide +kernel, ?_⟩;conv=>whnf)
   rw [sz_toBA, show IntKind.i64.wrap (7 - ((behind t).length : Int)) = ((7 - (behind t).length : Nat) : Int) by rw [wrap64 (by omega) (by omega)]; omega]
   refine c_repeat _ (by omega) _ ?_; conv=>whnf
   (repeat (refine And.intro rfl ?_;conv=>whnf))
   refine ⟨by rw [sz_toBA, sz_toBA]; refine str_le ?_; simp; omega, ?_⟩
   rw [toBA_app]; conv=>whnf
   have hfb : ∀ x ∈ behind t ++ List.replicate (7 - (behind t).length) 48, 0 <= x /\ x < 256 := fun x hx => by
    rcases List.mem_append.1 hx with hx | hx
    · exact hbb x hx
    · rw [(List.mem_replicate.1 hx).2]; omega
   have hfl : (behind t ++ List.replicate (7 - (behind t).length) 48).length = 7 := by simp; omega
   refine c_number _ hfb (by omega) 7 (by omega) _ (fun g8 => ?_) (fun g8 => ?_)
   case refine_2 =>
    (conv=>whnf); (repeat first | (refine step_go [] ?_;conv=>whnf) | (refine d_caught1 _ _ _ _ ?_;conv=>whnf))
    exact ⟨_, _, Weak.refl, hnf fun hk => g8 ⟨by omega, by omega, fun y hy => by
     rcases List.mem_append.1 hy with hy | hy
     · exact hk.2.2.2 y hy
     · rw [(List.mem_replicate.1 hy).2]; unfold Dig; omega⟩⟩
   have hfo : fracOk (behind t) := ⟨g5, g6, fun h => by rw [hx2] at h; exact g7 (Option.some.inj h), fun y hy => g8.2.2 y (List.mem_append_left _ hy)⟩
   have hfn := vl_lt _ g8.2.2
   rw [hfl] at hfn
   have hfs : sat (vl (behind t ++ List.replicate (7 - (behind t).length) 48)) = fracN (behind t) := by unfold sat fracN; omega
   have hfn2 : fracN (behind t) < 10000000 := by unfold fracN; omega
   rw [hfs]; conv=>whnf
   (repeat (refine And.intro rfl ?_;conv=>whnf))
   have hN : rateN t = W + fracN (behind t) := by unfold rateN; rw [if_pos hp, hW]
   have hok : rateOk t := ⟨g3, g4, fun _ => hfo⟩
   obtain ⟨N, hNW⟩ : ∃ N, W + fracN (behind t) = N := ⟨_, rfl⟩
   rw [hNW] at hN
   rw [show IntKind.i64.wrap (w + ((fracN (behind t) : Nat) : Int)) = ((N : Nat) : Int) by rw [wrap64 (by omega) (by omega)]; omega]
   obtain ⟨w, hw⟩ : ∃ w, ((N : Nat) : Int) = w := ⟨_, rfl⟩
   rw [hw]
   (repeat (refine step_go [] ?_;conv=>whnf))
   refine two (fun g6 => ?_) (fun g6 => ?_)
   case refine_2 =>
    have g6 : 10000000000 < N := by have := of_decide_eq_false g6; omega
    (conv=>whnf); (repeat (refine step_go [] ?_;conv=>whnf))
    refine c_must _ _ _ (fun g7 => by cases g7) (fun g7 => ?_)
    (conv=>whnf); (repeat first | (refine step_go [] ?_;conv=>whnf) | (refine d_caught1 _ _ _ _ ?_;conv=>whnf))
    exact ⟨_, _, Weak.refl, hfail fun hk => by have := hk.2.2.1; omega⟩
   have g6 : N <= 10000000000 := by have := of_decide_eq_true g6; omega
   cases neg with
   | false =>
     (conv=>whnf); (repeat (refine step_go [] ?_;conv=>whnf))
     refine c_must _ _ _ (fun g7 => ?_) (fun g7 => by cases g7)
     (conv=>whnf); (repeat first | (refine step_go [] ?_;conv=>whnf) | (refine d_caught0 _ _ _ ?_;conv=>whnf))
     have := hgood ⟨g, hok, by omega, fun h => by cases h⟩
     rw [hN, hw] at this
     exact ⟨_, _, Weak.refl, this⟩
   | true =>
     (conv=>whnf); (repeat (refine step_go [] ?_;conv=>whnf))
     refine c_must _ _ _ (fun g7 => ?_) (fun g7 => ?_)
     case refine_2 =>
      have g7 : N = 0 := by have := of_decide_eq_false g7; omega
      (conv=>whnf); (repeat first | (refine step_go [] ?_;conv=>whnf) | (refine d_caught1 _ _ _ _ ?_;conv=>whnf))
      exact ⟨_, _, Weak.refl, hfail fun hk => by have := hk.2.2.2 rfl; omega⟩
     have g7 : 0 < N := by have := of_decide_eq_true g7; omega
     (conv=>whnf); (repeat first | (refine step_go [] ?_;conv=>whnf) | (refine d_caught0 _ _ _ ?_;conv=>whnf))
     rw [show IntKind.i64.wrap (0 - w) = -w by rw [wrap64 (by omega) (by omega)]; omega]
     have := hgood ⟨g, hok, by omega, fun _ => by omega⟩
     rw [hN, hw] at this
     exact ⟨_, _, Weak.refl, this⟩
 · have hN : rateN t = W := by unfold rateN; rw [if_neg (by rw [hp]; decide), hW]; rfl
   have hok : rateOk t := ⟨g3, g4, fun h => by rw [hp] at h; cases h⟩
   obtain ⟨N, hNW⟩ : ∃ N, W = N := ⟨_, rfl⟩
   rw [hNW] at hN hw
   (conv=>whnf); (repeat (refine step_go [] ?_;conv=>whnf))
   refine two (fun g6 => ?_) (fun g6 => ?_)
   case refine_2 =>
    have g6 : 10000000000 < N := by have := of_decide_eq_false g6; omega
    (conv=>whnf); (repeat (refine step_go [] ?_;conv=>whnf))
    refine c_must _ _ _ (fun g7 => by cases g7) (fun g7 => ?_)
    (conv=>whnf); (repeat first | (refine step_go [] ?_;conv=>whnf) | (refine d_caught1 _ _ _ _ ?_;conv=>whnf))
    exact ⟨_, _, Weak.refl, hfail fun hk => by have := hk.2.2.1; omega⟩
   have g6 : N <= 10000000000 := by have := of_decide_eq_true g6; omega
   cases neg with
   | false =>
     (conv=>whnf); (repeat (refine step_go [] ?_;conv=>whnf))
     refine c_must _ _ _ (fun g7 => ?_) (fun g7 => by cases g7)
     (conv=>whnf); (repeat first | (refine step_go [] ?_;conv=>whnf) | (refine d_caught0 _ _ _ ?_;conv=>whnf))
     have := hgood ⟨g, hok, by omega, fun h => by cases h⟩
     rw [hN, hw] at this
     exact ⟨_, _, Weak.refl, this⟩
   | true =>
     (conv=>whnf); (repeat (refine step_go [] ?_;conv=>whnf))
     refine c_must _ _ _ (fun g7 => ?_) (fun g7 => ?_)
     case refine_2 =>
      have g7 : N = 0 := by have := of_decide_eq_false g7; omega
      (conv=>whnf); (repeat first | (refine step_go [] ?_;conv=>whnf) | (refine d_caught1 _ _ _ _ ?_;conv=>whnf))
      exact ⟨_, _, Weak.refl, hfail fun hk => by have := hk.2.2.2 rfl; omega⟩
     have g7 : 0 < N := by have := of_decide_eq_true g7; omega
     (conv=>whnf); (repeat first | (refine step_go [] ?_;conv=>whnf) | (refine d_caught0 _ _ _ ?_;conv=>whnf))
     rw [show IntKind.i64.wrap (0 - w) = -w by rw [wrap64 (by omega) (by omega)]; omega]
     have := hgood ⟨g, hok, by omega, fun _ => by omega⟩
     rw [hN, hw] at this
     exact ⟨_, _, Weak.refl, this⟩
end B13

namespace D2
open Go Go.Proofs VL D1 B7 B8 B10 B11 B12 B13
theorem dig46 {l : List Int} (h : ∀ x ∈ l, Dig x) : ∀ x ∈ l, x ≠ 46 := fun x hx e => by have := h x hx; unfold Dig at this; omega
theorem split46 {a b : List Int} (h : ∀ x ∈ a, x ≠ 46) : aheadT (a ++ 46 :: b) = a /\ behind (a ++ 46 :: b) = b /\ (a ++ 46 :: b).contains 46 = true := by
 unfold aheadT behind
 induction a with
 | nil => simp
 | cons x r ih =>
   have hx := h x (by simp)
   obtain ⟨h1, h2, h3⟩ := ih fun y hy => h y (by simp [hy])
   refine ⟨?_, ?_, ?_⟩
   · rw [List.cons_append, List.takeWhile_cons, if_pos (by simpa using hx), h1]
   · rw [List.cons_append, List.dropWhile_cons, if_pos (by simpa using hx), h2]
   · rw [List.cons_append, List.contains_cons, h3]; simp
theorem join46 {t : List Int} (h : t.contains 46 = true) : t = aheadT t ++ 46 :: behind t := by
 unfold aheadT behind
 induction t with
 | nil => simp at h
 | cons x r ih =>
   by_cases hx : x = 46
   · subst hx; simp
   · rw [List.contains_cons] at h
     have h : r.contains 46 = true := by
      rcases Bool.or_eq_true _ _ ▸ h with h | h
      · exact absurd (beq_iff_eq.1 h).symm hx
      · exact h
     rw [List.takeWhile_cons, if_pos (by simpa using hx), List.dropWhile_cons, if_pos (by simpa using hx), List.cons_append, ← ih h]
theorem no46 {t : List Int} (h : t.contains 46 = false) : aheadT t = t /\ behind t = [] := by
 unfold aheadT behind
 induction t with
 | nil => simp
 | cons x r ih =>
   rw [List.contains_cons, Bool.or_eq_false_iff] at h
   have hx : x ≠ 46 := fun e => by subst e; simp at h
   obtain ⟨h1, h2⟩ := ih h.2
   refine ⟨by rw [List.takeWhile_cons, if_pos (by simpa using hx), h1], by rw [List.dropWhile_cons, if_pos (by simpa using hx), h2]⟩
theorem no46' {t : List Int} (h : ∀ x ∈ t, x ≠ 46) : t.contains 46 = false := by
 induction t with
 | nil => rfl
 | cons x r ih =>
   rw [List.contains_cons, ih fun y hy => h y (by simp [hy])]
   have := h x (by simp)
   simpa using fun e => this e.symm
theorem wholeOk_dg {n : Nat} (h : n < 18446744073709551616) : wholeOk (dg n) := by
 refine ⟨⟨dg_len_pos n, B5.dg_len20 h, dg_dig n⟩, ?_⟩
 rcases Nat.eq_zero_or_pos n with rfl | h0
 · left; rw [dg_small (by omega)]; rfl
 · right
   obtain ⟨x, r, e, hx⟩ := dg_head h0
   rw [e]; simpa using hx
theorem hasP_cons (x : Int) (l : List Int) : hasP (x :: l) [45] = decide (x = 45) := by
 unfold hasP
 simp
 exact Bool.eq_iff_iff.2 (by simp)
theorem dg_cons (n : Nat) : ∃ x r, dg n = x :: r /\ Dig x := by
 cases h : dg n with
 | nil => exact absurd h (dg_ne n)
 | cons x r => exact ⟨x, r, rfl, dg_dig n x (by rw [h]; simp)⟩
theorem sgn_app (v : Int) (n : Nat) (r : List Int) : unsg (sgn v ++ (dg n ++ r)) = dg n ++ r /\ hasP (sgn v ++ (dg n ++ r)) [45] = decide (v < 0) := by
 unfold sgn
 by_cases h : v < 0
 · rw [if_pos h]
   refine ⟨?_, ?_⟩
   · unfold unsg; rw [List.singleton_append, hasP_cons]; simp
   · rw [List.singleton_append, hasP_cons]; simp [h]
 · rw [if_neg h, List.nil_append]
   obtain ⟨x, q, e, hd⟩ := dg_cons n
   have hx : ¬ x = 45 := fun h => by unfold Dig at hd; omega
   rw [e]
   refine ⟨?_, ?_⟩
   · unfold unsg; rw [List.cons_append, hasP_cons]; simp [hx]
   · rw [List.cons_append, hasP_cons]; simp [hx, h]
theorem natAbs_lt {v : Int} (h : I64 v) : v.natAbs <= 9223372036854775808 := by have := h.1; have := h.2; omega
theorem dg_whole {l : List Int} (h : wholeOk l) : dg (vl l) = l := dg_vl h.1.2.2 (by intro e; have := h.1.1; rw [e] at this; simp at this) h.2
theorem unsg_split (l : List Int) : l = (if hasP l [45] = true then [45] else []) ++ unsg l := by
 unfold unsg
 by_cases h : hasP l [45] = true
 · rw [if_pos h, if_pos h]
   unfold hasP at h
   have := beq_iff_eq.1 h
   have e : l.take 1 = [45] := this
   exact ((List.take_append_drop 1 l).symm.trans (by rw [e]))
 · rw [if_neg h, if_neg h]; rfl
theorem unpc_snoc (l : List Int) (x : Int) : unpc (l ++ [x]) = l := by unfold unpc; simp
theorem hasS_snoc (l : List Int) (x : Int) : hasS (l ++ [x]) [37] = decide (x = 37) := by
 unfold hasS
 simp
 exact Bool.eq_iff_iff.2 (by simp)
theorem hasS_split {l : List Int} (h : hasS l [37] = true) : l = unpc l ++ [37] := by
 unfold hasS at h
 simp only [Bool.and_eq_true, decide_eq_true_eq, beq_iff_eq] at h
 unfold unpc
 conv => lhs; rw [← List.take_append_drop (l.length - 1) l]
 have := h.2
 simp only [List.length_singleton] at this
 rw [this]
theorem trimZ_keep {l : List Int} (h : l.getLast? ≠ some 48) (k : Nat) : trimZ (l ++ List.replicate k 48) = l := by
 induction k with
 | zero =>
   rcases List.eq_nil_or_concat l with rfl | ⟨m, x, rfl⟩
   · rfl
   · rw [List.replicate_zero, List.append_nil, List.concat_eq_append, trimZ_snoc, if_neg (by simpa using h)]
 | succ k ih => rw [List.replicate_succ', ← List.append_assoc, trimZ_snoc, if_pos rfl, ih]
theorem trimZ_spec (l : List Int) : ∃ k, l = trimZ l ++ List.replicate k 48 /\ (trimZ l).getLast? ≠ some 48 := by
 induction h : l.length generalizing l with
 | zero => rw [List.length_eq_zero_iff.1 h]; exact ⟨0, rfl, by simp [trimZ]⟩
 | succ n ih =>
   rcases List.eq_nil_or_concat l with rfl | ⟨m, x, rfl⟩
   · simp at h
   rw [List.concat_eq_append] at h ⊢
   rw [trimZ_snoc]
   by_cases hx : x = 48
   · subst hx
     obtain ⟨k, h1, h2⟩ := ih m (by simpa using h)
     rw [if_pos rfl]
     refine ⟨k + 1, ?_, h2⟩
     conv => lhs; rw [h1]
     rw [List.append_assoc, List.replicate_succ']
   · rw [if_neg hx]
     exact ⟨0, by simp, by simpa using hx⟩
theorem vl_zeros (k : Nat) : vl (List.replicate k 48) = 0 := by
 induction k with
 | zero => rfl
 | succ k ih => rw [List.replicate_succ', vl_snoc, ih]; rfl
theorem vl_snoc_pos {l : List Int} {x : Int} (h : Dig x) (hx : x ≠ 48) (k : Nat) : 0 < vl ((l ++ [x]) ++ List.replicate k 48) := by
 unfold Dig at h
 induction k with
 | zero => rw [List.replicate_zero, List.append_nil, vl_snoc]; omega
 | succ k ih => rw [List.replicate_succ', ← List.append_assoc, vl_snoc]; omega
theorem frac_facts {r : Nat} (h0 : r ≠ 0) (h : r < 10000000) : fracOk (trimZ (dgw 7 r)) /\ fracN (trimZ (dgw 7 r)) = r := by
 obtain ⟨k, h1, h2⟩ := trimZ_spec (dgw 7 r)
 have hl := congrArg List.length h1
 rw [dgw_len, List.length_append, List.length_replicate] at hl
 have hv : vl (dgw 7 r) = r := by rw [vl_dgw]; omega
 have hk : 7 - (trimZ (dgw 7 r)).length = k := by omega
 refine ⟨⟨?_, by omega, h2, fun x hx => dgw_dig 7 r x (by rw [h1]; exact List.mem_append_left _ hx)⟩, ?_⟩
 · rcases Nat.eq_zero_or_pos (trimZ (dgw 7 r)).length with e | e
   · rw [List.length_eq_zero_iff.1 e, List.nil_append] at h1
     rw [h1, vl_zeros] at hv
     exact absurd hv.symm h0
   · exact e
 · unfold fracN; rw [hk, ← h1, hv]
theorem frac_back {b : List Int} (h : fracOk b) : fracN b < 10000000 /\ fracN b ≠ 0 /\ trimZ (dgw 7 (fracN b)) = b := by
 obtain ⟨h1, h2, h3, h4⟩ := h
 have hd : ∀ x ∈ b ++ List.replicate (7 - b.length) 48, Dig x := fun x hx => by
  rcases List.mem_append.1 hx with hx | hx
  · exact h4 x hx
  · rw [(List.mem_replicate.1 hx).2]; unfold Dig; omega
 have hl : (b ++ List.replicate (7 - b.length) 48).length = 7 := by simp; omega
 have hlt := vl_lt _ hd
 have hw := dgw_vl _ hd
 rw [hl] at hlt hw
 refine ⟨hlt, ?_, ?_⟩
 · rcases List.eq_nil_or_concat b with rfl | ⟨m, x, rfl⟩
   · simp at h1
   · rw [List.concat_eq_append] at h3 h4 ⊢
     have := vl_snoc_pos (l := m) (h4 x (by simp)) (by simpa using h3) (7 - (m ++ [x]).length)
     unfold fracN; omega
 · unfold fracN; rw [hw]; exact trimZ_keep h3 _
theorem rateS_eq (v : Int) : rateS v = sgn v ++ (dg (v.natAbs / 10000000) ++ fracS (v.natAbs % 10000000)) ++ [37] := by unfold rateS; simp
theorem take_rate {v : Int} (h : I64 v) : takeR (rateS v) = if -10000000000 <= v /\ v <= 10000000000 then (v, 0) else (0, 4) := by
 have hn := natAbs_lt h
 rw [rateS_eq]
 obtain ⟨e1, e2⟩ := sgn_app v (v.natAbs / 10000000) (fracS (v.natAbs % 10000000))
 have hw := wholeOk_dg (n := v.natAbs / 10000000) (by omega)
 have key : rateN (dg (v.natAbs / 10000000) ++ fracS (v.natAbs % 10000000)) = v.natAbs /\ (v.natAbs / 10000000 <= 1000 -> rateOk (dg (v.natAbs / 10000000) ++ fracS (v.natAbs % 10000000))) /\ (rateOk (dg (v.natAbs / 10000000) ++ fracS (v.natAbs % 10000000)) -> v.natAbs / 10000000 <= 1000) := by
  unfold fracS
  by_cases h0 : v.natAbs % 10000000 = 0
  · rw [if_pos h0, List.append_nil]
    have hc := no46' (dig46 (dg_dig (v.natAbs / 10000000)))
    obtain ⟨n1, n2⟩ := no46 hc
    unfold rateN rateOk
    rw [n1, vl_dg, hc]
    refine ⟨by simp; omega, fun hh => ⟨hw, hh, fun e => by cases e⟩, fun hh => hh.2.1⟩
  · rw [if_neg h0]
    obtain ⟨s1, s2, s3⟩ := split46 (a := dg (v.natAbs / 10000000)) (b := trimZ (dgw 7 (v.natAbs % 10000000))) (dig46 (dg_dig _))
    obtain ⟨f1, f2⟩ := frac_facts h0 (by omega)
    unfold rateN rateOk
    rw [s1, s2, s3, vl_dg, f2]
    refine ⟨by simp; omega, fun hh => ⟨hw, hh, fun _ => f1⟩, fun hh => hh.2.1⟩
 obtain ⟨k1, k2, k3⟩ := key
 unfold takeR
 rw [unpc_snoc, e1, e2, hasS_snoc, k1]
 by_cases hb : v.natAbs <= 10000000000
 · rw [if_pos ⟨by simp, k2 (by omega), hb, fun hs => by have := of_decide_eq_true hs; omega⟩, if_pos (c := -10000000000 <= v /\ v <= 10000000000) (by omega)]
   by_cases hv : v < 0
   · rw [decide_eq_true hv, if_pos rfl]; congr 1; omega
   · rw [decide_eq_false hv, if_neg (by decide)]; congr 1; omega
 · rw [if_neg (fun hh => hb hh.2.2.1), if_neg (by omega)]
theorem rate_take {l : List Int} {c : Int} (h : takeR l = (c, 0)) : rateS c = l /\ -10000000000 <= c /\ c <= 10000000000 := by
 unfold takeR at h
 split at h
 case isFalse => simp at h
 rename_i hok
 obtain ⟨o1, ⟨o2, o3, o4⟩, o5, o6⟩ := hok
 simp only [Prod.mk.injEq, and_true] at h
 have hc : c.natAbs = rateN (unsg (unpc l)) := by rw [← h]; split <;> omega
 refine ⟨?_, by split at h <;> omega, by split at h <;> omega⟩
 have hq : rateN (unsg (unpc l)) / 10000000 = vl (aheadT (unsg (unpc l))) /\ aheadT (unsg (unpc l)) ++ fracS (rateN (unsg (unpc l)) % 10000000) = unsg (unpc l) := by
  cases hp : (unsg (unpc l)).contains 46 with
  | true =>
    obtain ⟨f1, f2, f3⟩ := frac_back (o4 hp)
    have hr : rateN (unsg (unpc l)) = vl (aheadT (unsg (unpc l))) * 10000000 + fracN (behind (unsg (unpc l))) := by unfold rateN; rw [if_pos hp]
    refine ⟨by omega, ?_⟩
    rw [show rateN (unsg (unpc l)) % 10000000 = fracN (behind (unsg (unpc l))) by omega]
    unfold fracS
    rw [if_neg f2, f3]
    exact (join46 hp).symm
  | false =>
    have hr : rateN (unsg (unpc l)) = vl (aheadT (unsg (unpc l))) * 10000000 := by unfold rateN; rw [hp]; simp
    refine ⟨by omega, ?_⟩
    rw [show rateN (unsg (unpc l)) % 10000000 = 0 by omega]
    unfold fracS
    rw [if_pos rfl, List.append_nil]
    exact (no46 hp).1
 rw [rateS_eq, hc, hq.1, dg_whole o2, hq.2]
 conv => rhs; rw [hasS_split o1, unsg_split (unpc l)]
 congr 2
 unfold sgn
 split at h
 · rename_i hp
   have := o6 hp
   rw [if_pos (by omega), if_pos hp]
 · rename_i hp
   rw [if_neg (by omega), if_neg hp]
end D2

namespace B14
open Go Go.Proofs VL D1 B5 B7 B8 B10 B11 B12 B13 D2
theorem sgn_len (v : Int) : (sgn v).length <= 1 := by unfold sgn; split <;> simp
theorem trimZ_sub (l : List Int) : ∀ x ∈ trimZ l, x ∈ l := fun x hx => by
 obtain ⟨k, h1, _⟩ := trimZ_spec l
 rw [h1]; exact List.mem_append_left _ hx
theorem fracS_byte (r : Nat) : ∀ x ∈ fracS r, 0 <= x /\ x < 256 := by
 unfold fracS
 split
 · simp
 · intro x hx
   rcases List.mem_cons.1 hx with rfl | hx
   · omega
   · exact dgw_byte _ _ x (trimZ_sub _ x hx)
theorem rateS_byte (v : Int) : ∀ x ∈ rateS v, 0 <= x /\ x < 256 := by
 intro x hx
 unfold rateS at hx
 simp only [List.mem_append] at hx
 rcases hx with ((hx | hx) | hx) | hx
 · exact sgn_byte v x hx
 · exact dg_byte _ x hx
 · exact fracS_byte _ x hx
 · simp at hx; omega
end B14

namespace D3
open Go Go.Proofs VL D1 B10 D2 B14
end D3

namespace B15
open Go Go.Proofs VL D1 B5 B7 B8 B10 B11 B12 B13 D2 B14 D3
end B15

namespace B16
open Go Go.Proofs VL D1 B5 B7 B8 B10 B11 B12 B13 D2 B14 D3 B15
end B16

namespace B17
open Go Go.Proofs VL D1 B5 B7 B8 B10 B11 B12 B13 D2 B14 D3 B15 B16
end B17

namespace B18
open Go Go.Proofs VL D1 B5 B7 B8 B10 B11 B12 B13 D2 B14 D3 B15 B16
theorem unsg_no {x : Int} {l : List Int} (h : x ≠ 45) : unsg (x :: l) = x :: l := by
 unfold unsg; rw [hasP_cons, decide_eq_false h]; rfl
theorem unsg_hy (l : List Int) : unsg (45 :: l) = l := by
 unfold unsg; rw [hasP_cons]; rfl
def sL (l : List (List Int)) : List V := l.map fun x => .str (toBA x)
end B18

namespace B19
open Go Go.Proofs VL D1 B5 B7 B8 B10 B11 B12 B13 D2 B14 D3 B15 B16 B18
end B19

namespace B20
open Go Go.Proofs VL D1 B2 B4 B5 B7 B8 B10 B11 B12 B13 D2 B14 D3
theorem dgw_next (n i : Nat) : (48 + ((n / 10 ^ i % 10 : Nat) : Int)) :: dgw i n = dgw (i + 1) n := by
 rw [Nat.add_comm, dgw_split]; rfl
theorem pow20 {n i : Nat} (h : n < 18446744073709551616) (h2 : 0 < n / 10 ^ i) : i < 20 := by
 rcases Nat.lt_or_ge i 20 with h1 | h1
 · exact h1
 · have : (10 : Nat) ^ 20 <= 10 ^ i := Nat.pow_le_pow_right (by omega) h1
   rw [Nat.div_eq_of_lt (Nat.lt_of_lt_of_le h (Nat.le_trans (by decide) this))] at h2
   omega
set_option maxHeartbeats 2000000 in
theorem c_Digits (n least : Nat) (hn : n < 18446744073709551616) (hl : 1 <= least) (hl2 : least <= 50) (K) (h : K (.ret (.str (toBA (dgn least n)))) []) :
 VCall Tryz.prog 70 [.int .u64 (n : Int), .int .i64 (least : Int)] [] K := by
 refine call_fun [] 0 Tryz.func70 (by rfl) (by rfl) ?_; (conv=>whnf); (repeat (refine step_go [] ?_;conv=>whnf))
 let S : Nat -> St := fun i => ⟨(.int .u64 ((n / 10 ^ i : Nat) : Int) :: .int .i64 (least : Int) :: .undef :: .undef :: .str ⟨#[]⟩ :: .str (toBA (dgw i n)) :: .undef :: .undef :: .undef :: .undef :: .undef :: .undef :: .undef :: .undef :: .undef :: .undef :: .undef :: .undef :: .undef :: .undef :: .undef :: .undef :: .undef :: .undef :: .undef :: []), [], 0, []⟩
 refine VLoop.enter (s' := S 0) (weak_of ?_ .nil rfl rfl rfl) (VLoop.indW S (fun i => 60 - i) (fun i => i <= 50 /\ (i <= least \/ 0 < n / 10 ^ (i - 1))) ?_ 0 ⟨by omega, by omega⟩)
 · repeat' first
    | exact VWs.nil
    | refine VWs.cons VW.undef ?_
    | refine VWs.cons (VW.eq rfl) ?_
    | refine VWs.cons (VW.eq (congrArg (V.int .u64) (by simp))) ?_
 rintro i ⟨hi, hd⟩ ih
 have go : (0 < n / 10 ^ i \/ i < least) -> ∃ q, n / 10 ^ i = q /\ q < 18446744073709551616 := fun _ => ⟨_, rfl, Nat.lt_of_le_of_lt (Nat.div_le_self _ _) hn⟩
 have fin : ¬ (0 < n / 10 ^ i) -> ¬ i < least -> toBA (dgw i n) = toBA (dgn least n) := fun h1 h2 => by
  congr 1
  have h0 : n / 10 ^ i = 0 := Nat.eq_zero_of_not_pos h1
  have hlt : n < 10 ^ i := by
   rcases Nat.lt_or_ge n (10 ^ i) with h | h
   · exact h
   · have := Nat.div_pos h (Nat.pow_pos (by omega)); omega
  by_cases e : i = least
  · subst e; exact (pad_dgw i n (by omega) hlt).symm
  · have hp : 0 < n / 10 ^ (i - 1) := hd.resolve_left (by omega)
    have hge : 10 ^ (i - 1) <= n := by
     rcases Nat.lt_or_ge n (10 ^ (i - 1)) with h | h
     · rw [Nat.div_eq_of_lt h] at hp; omega
     · exact h
    have := dg_dgw (i - 1) n hge (by rw [Nat.sub_add_cancel (by omega)]; exact hlt)
    rw [Nat.sub_add_cancel (by omega)] at this
    unfold dgn
    rw [this, dgw_len, show least - i = 0 by omega]; rfl
 have stepp : (0 < n / 10 ^ i \/ i < least) -> True := fun _ => trivial
 refine loop_round [] ?_; (conv=>whnf); (repeat (refine step_go [] ?_;conv=>whnf))
 refine two (fun g => ?_) (fun g => ?_)
 · have g : 0 < n / 10 ^ i := by have := of_decide_eq_true g; omega
   have h20 := pow20 hn g
   have hq : n / 10 ^ i < 18446744073709551616 := Nat.lt_of_le_of_lt (Nat.div_le_self _ _) hn
   (conv=>whnf); (repeat (refine step_go [] ?_;conv=>whnf))
   have tm : Int.tmod ((n / 10 ^ i : Nat) : Int) 10 = ((n / 10 ^ i % 10 : Nat) : Int) := rfl
   have td : Int.tdiv ((n / 10 ^ i : Nat) : Int) 10 = ((n / 10 ^ i / 10 : Nat) : Int) := rfl
   refine ⟨by decide, ?_⟩; rw [tm]; (conv=>whnf); (repeat (refine step_go [] ?_;conv=>whnf))
   have e : IntKind.u8.wrap (IntKind.u64.wrap (48 + ((n / 10 ^ i % 10 : Nat) : Int))) = 48 + ((n / 10 ^ i % 10 : Nat) : Int) := by rw [wrapu64 (by omega) (by omega), wrapu8' (by omega) (by omega)]
   rw [e]
   refine ⟨toBA [48 + ((n / 10 ^ i % 10 : Nat) : Int)], ?_, ?_⟩
   · rw [← toBA_V (fun x hx => by simp at hx; omega)]; rfl
   (conv=>whnf); (repeat (refine step_go [] ?_;conv=>whnf))
   refine ⟨by rw [sz_toBA, sz_toBA, dgw_len]; refine str_le ?_; simp; omega, ?_⟩
   rw [toBA_app]; (conv=>whnf); (repeat (refine step_go [] ?_;conv=>whnf))
   refine ⟨by decide, ?_⟩; rw [td]; (conv=>whnf); (repeat (refine step_go [] ?_;conv=>whnf))
   refine ⟨S (i + 1), weak_of ?_ .nil rfl rfl rfl, ih (i + 1) ⟨by omega, by rw [Nat.add_sub_cancel]; omega⟩ (by omega)⟩
   repeat' first
    | exact VWs.nil
    | refine VWs.cons VW.undef ?_
    | refine VWs.cons (VW.eq rfl) ?_
    | refine VWs.cons (VW.eq (congrArg (fun x => V.str (toBA x)) (dgw_next n i))) ?_
    | refine VWs.cons (VW.eq (congrArg (V.int .u64) (by rw [w64N (by omega), Nat.div_div_eq_div_mul, Nat.pow_succ]))) ?_
 · have g : ¬ 0 < n / 10 ^ i := by have := of_decide_eq_false g; omega
   (conv=>whnf); (repeat (refine step_go [] ?_;conv=>whnf))
   refine two (fun g2 => ?_) (fun g2 => ?_)
   · have g2 : i < least := by have := of_decide_eq_true g2; rw [sz_toBA, dgw_len] at this; omega
     have hq : n / 10 ^ i < 18446744073709551616 := Nat.lt_of_le_of_lt (Nat.div_le_self _ _) hn
     (conv=>whnf); (repeat (refine step_go [] ?_;conv=>whnf))
     have tm : Int.tmod ((n / 10 ^ i : Nat) : Int) 10 = ((n / 10 ^ i % 10 : Nat) : Int) := rfl
     have td : Int.tdiv ((n / 10 ^ i : Nat) : Int) 10 = ((n / 10 ^ i / 10 : Nat) : Int) := rfl
     refine ⟨by decide, ?_⟩; rw [tm]; (conv=>whnf); (repeat (refine step_go [] ?_;conv=>whnf))
     have e : IntKind.u8.wrap (IntKind.u64.wrap (48 + ((n / 10 ^ i % 10 : Nat) : Int))) = 48 + ((n / 10 ^ i % 10 : Nat) : Int) := by rw [wrapu64 (by omega) (by omega), wrapu8' (by omega) (by omega)]
     rw [e]
     refine ⟨toBA [48 + ((n / 10 ^ i % 10 : Nat) : Int)], ?_, ?_⟩
     · rw [← toBA_V (fun x hx => by simp at hx; omega)]; rfl
     (conv=>whnf); (repeat (refine step_go [] ?_;conv=>whnf))
     refine ⟨by rw [sz_toBA, sz_toBA, dgw_len]; refine str_le ?_; simp; omega, ?_⟩
     rw [toBA_app]; (conv=>whnf); (repeat (refine step_go [] ?_;conv=>whnf))
     refine ⟨by decide, ?_⟩; rw [td]; (conv=>whnf); (repeat (refine step_go [] ?_;conv=>whnf))
     refine ⟨S (i + 1), weak_of ?_ .nil rfl rfl rfl, ih (i + 1) ⟨by omega, by rw [Nat.add_sub_cancel]; omega⟩ (by omega)⟩
     repeat' first
      | exact VWs.nil
      | refine VWs.cons VW.undef ?_
      | refine VWs.cons (VW.eq rfl) ?_
      | refine VWs.cons (VW.eq (congrArg (fun x => V.str (toBA x)) (dgw_next n i))) ?_
      | refine VWs.cons (VW.eq (congrArg (V.int .u64) (by rw [w64N (by omega), Nat.div_div_eq_div_mul, Nat.pow_succ]))) ?_
   · have g2 : ¬ i < least := by have := of_decide_eq_false g2; rw [sz_toBA, dgw_len] at this; omega
     (conv=>whnf); (repeat (refine step_go [] ?_;conv=>whnf))
     refine ⟨_, Weak.refl, ?_⟩; (conv=>whnf); (repeat (refine step_go [] ?_;conv=>whnf))
     rw [fin g g2]
     exact h
theorem c_size (v : Int) (hv : I64 v) (K) (h : K (.ret (.tup [.int .u64 (v.natAbs : Int), .str (toBA (sgn v))])) []) : VCall Tryz.prog 69 [.int .i64 v] [] K := by
 obtain ⟨v1, v2⟩ := hv
 refine call_fun [] 0 Tryz.func69 (by rfl) (by rfl) ?_; (conv=>whnf); (repeat (refine step_go [] ?_;conv=>whnf))
 refine two (fun g => ?_) (fun g => ?_)
 · have g : v < 0 := of_decide_eq_true g
   (conv=>whnf); (repeat (refine step_go [] ?_;conv=>whnf))
   have e : IntKind.u64.wrap (IntKind.u64.wrap (IntKind.i64.wrap (0 - IntKind.i64.wrap (v + 1))) + 1) = (v.natAbs : Int) := by
    rw [wrap64 (x := v + 1) (by omega) (by omega), wrap64 (by omega) (by omega), wrapu64 (x := 0 - (v + 1)) (by omega) (by omega), wrapu64 (by omega) (by omega)]; omega
   rw [e]
   rw [show sgn v = [45] by unfold sgn; rw [if_pos g]] at h
   exact h
 · have g := of_decide_eq_false g
   (conv=>whnf); (repeat (refine step_go [] ?_;conv=>whnf))
   have e : IntKind.u64.wrap v = (v.natAbs : Int) := by rw [wrapu64 (by omega) (by omega)]; omega
   rw [e]
   rw [show sgn v = [] by unfold sgn; rw [if_neg (by omega)]] at h
   exact h
theorem dgn1 (n : Nat) : dgn 1 n = dg n := by
 unfold dgn
 have := dg_len_pos n
 rw [show 1 - (dg n).length = 0 by omega]; rfl
theorem trim_nil {r : Nat} (h : r < 10000000) : trimZ (dgw 7 r) = [] ↔ r = 0 := by
 constructor
 · intro e
   rcases Nat.eq_zero_or_pos r with h0 | h0
   · exact h0
   · have := (frac_facts (Nat.ne_of_gt h0) h).1.1
     rw [e] at this; simp at this
 · rintro rfl; decide +kernel
set_option maxHeartbeats 2000000 in
theorem c_rrate (v : Int) (hv : I64 v) (K) (h : K (.ret (.str (toBA (rateS v)))) []) : VCall Tryz.prog 35 [.int .i64 v] [] K := by
 have hn := natAbs_lt hv
 have hl := dg_len20 (n := v.natAbs / 10000000) (by omega)
 have hs := sgn_len v
 have e2 : dgn 7 (v.natAbs % 10000000) = dgw 7 (v.natAbs % 10000000) := pad_dgw 7 _ (by omega) (by omega)
 have td : Int.tdiv (v.natAbs : Int) 10000000 = ((v.natAbs / 10000000 : Nat) : Int) := rfl
 have tm : Int.tmod (v.natAbs : Int) 10000000 = ((v.natAbs % 10000000 : Nat) : Int) := rfl
 refine call_fun [] 0 Tryz.func35 (by rfl) (by rfl) ?_; (conv=>whnf); (repeat (refine step_go [] ?_;conv=>whnf))
 refine c_size v hv _ ?_; (conv=>whnf); (repeat (refine step_go [] ?_;conv=>whnf))
 refine ⟨by decide, ?_⟩; rw [td, w64N (a := v.natAbs / 10000000) (by omega)]; (conv=>whnf); (repeat (refine step_go [] ?_;conv=>whnf))
 refine c_Digits _ 1 (by omega) (by omega) (by omega) _ ?_; (conv=>whnf); (repeat (refine step_go [] ?_;conv=>whnf))
 rw [dgn1]
 refine ⟨by rw [sz_toBA, sz_toBA]; exact str_le (by omega), ?_⟩
 rw [toBA_app]; (conv=>whnf); (repeat (refine step_go [] ?_;conv=>whnf))
 refine ⟨by decide, ?_⟩; rw [tm]; (conv=>whnf); (repeat (refine step_go [] ?_;conv=>whnf))
 refine c_Digits _ 7 (by omega) (by omega) (by omega) _ ?_; (conv=>whnf); (repeat (refine step_go [] ?_;conv=>whnf))
 rw [e2]
 have hr : v.natAbs % 10000000 < 10000000 := Nat.mod_lt _ (by omega)
 have hR : rateS v = sgn v ++ dg (v.natAbs / 10000000) ++ fracS (v.natAbs % 10000000) ++ [37] := rfl
 have hA : (sgn v ++ dg (v.natAbs / 10000000)).length <= 30 := by simp; omega
 obtain ⟨A, eA⟩ : ∃ A, sgn v ++ dg (v.natAbs / 10000000) = A := ⟨_, rfl⟩
 obtain ⟨r, er⟩ : ∃ r, v.natAbs % 10000000 = r := ⟨_, rfl⟩
 rw [eA, er] at hR
 rw [er] at hr
 rw [eA] at hA
 rw [eA, er]
 have hb7 := dgw_byte 7 r
 let S : ByteArray -> St := fun x => ⟨(.undef :: .undef :: .str ⟨#[]⟩ :: .undef :: .undef :: .str (toBA A) :: .str x :: .undef :: .undef :: .undef :: .undef :: .undef :: .undef :: .undef :: .undef :: .undef :: .undef :: .undef :: .undef :: .undef :: .undef :: .undef :: .undef :: .undef :: .undef :: .undef :: .undef :: .undef :: .undef :: .undef :: .undef :: .undef :: .undef :: .undef :: .undef :: .undef :: .undef :: .undef :: .undef :: .undef :: .undef :: .undef :: .undef :: .undef :: []), [], 0, []⟩
 refine VLoop.enter (s' := S (toBA (dgw 7 r))) (weak_of ?_ .nil rfl rfl rfl) (VLoop.indW S (fun x => x.size) (fun x => trimZ (sB x) = trimZ (dgw 7 r) /\ x.size <= 7) ?_ (toBA (dgw 7 r)) ⟨by rw [sB_toBA hb7], by rw [sz_toBA, dgw_len]; omega⟩)
 · (repeat' first | exact VWs.nil | refine VWs.cons VW.undef ?_ | refine VWs.cons (VW.eq rfl) ?_)
 rintro x ⟨hx, hl⟩ ih
 have done : sB x = trimZ (dgw 7 r) -> ∀ R : Prop, (x = toBA (trimZ (dgw 7 r)) -> R) -> R := fun e R k => k (by rw [← e, toBA_sB])
 refine loop_round [] ?_; (conv=>whnf); (repeat (refine step_go [] ?_;conv=>whnf))
 refine two (fun g => ?_) (fun g => ?_)
 · have g : 0 < x.size := by have := of_decide_eq_true g; omega
   obtain ⟨m, c, hm⟩ : ∃ m c, sB x = m ++ [c] := ⟨(sB x).dropLast, (sB x).getLast (by rw [← List.length_pos_iff, sB_len]; exact g), (List.dropLast_concat_getLast _).symm⟩
   have hml : m.length + 1 = x.size := by rw [← sB_len, hm]; simp
   conv=>whnf
   rw [show IntKind.i64.wrap ((x.size : Int) - 1) = (m.length : Int) by rw [wrap64 (by omega) (by omega)]; omega]
   refine idx_str (x := c) (by omega) (by rw [hm, Int.toNat_natCast]; simp) fun b hb => ?_
   rw [hb]; (conv=>whnf); (repeat (refine step_go [] ?_;conv=>whnf))
   refine two (fun g2 => ?_) (fun g2 => ?_)
   · have g2 : c = 48 := by simpa using g2
     (conv=>whnf); (repeat (refine step_go [] ?_;conv=>whnf))
     rw [show IntKind.i64.wrap ((x.size : Int) - 1) = (m.length : Int) by rw [wrap64 (by omega) (by omega)]; omega]
     (repeat first | (refine step_go [] ?_;conv=>whnf) | (refine And.intro rfl ?_;conv=>whnf) | (refine And.intro (by omega) ?_;conv=>whnf))
     have he : x.extract 0 m.length = toBA m := ext_str x (by rw [hm]; simp)
     have hmb : sB (toBA m) = m := by rw [← he, sB_ext, hm]; simp
     refine ⟨S (toBA m), weak_of ?_ .nil rfl rfl rfl, ih (toBA m) ⟨?_, ?_⟩ ?_⟩
     · repeat' first
        | exact VWs.nil
        | refine VWs.cons VW.undef ?_
        | refine VWs.cons (VW.eq (congrArg V.str he)) ?_
        | refine VWs.cons (VW.eq rfl) ?_
     · rw [hmb, ← hx, hm, trimZ_snoc, if_pos g2]
     · rw [← sB_len, hmb]; omega
     · rw [← sB_len, hmb]; omega
   · have g2 : c ≠ 48 := by simpa using g2
     (conv=>whnf); (repeat (refine step_go [] ?_;conv=>whnf))
     refine ⟨_, Weak.refl, ?_⟩; (conv=>whnf); (repeat (refine step_go [] ?_;conv=>whnf))
     have e : sB x = trimZ (dgw 7 r) := by rw [← hx, hm, trimZ_snoc, if_neg g2]
     have hr0 : r ≠ 0 := fun h0 => by rw [(trim_nil hr).2 h0] at e; rw [← sB_len, e] at g; simp at g
     refine yes ?_ ?_
     · rw [str_beq, e]
       have : (trimZ (dgw 7 r) == sB (ByteArray.mk #[])) = false := by
        rw [beq_eq_false_iff_ne]; exact fun h => hr0 ((trim_nil hr).1 h)
       rw [this]; rfl
     have ex := toBA_of e
     have hz : (trimZ (dgw 7 r)).length <= 7 := by have := trimZ_len (dgw 7 r); rwa [dgw_len] at this
     subst ex
     (conv=>whnf); (repeat (refine step_go [] ?_;conv=>whnf))
     refine ⟨by rw [sz_toBA]; refine str_le ?_; show _ + 1 < _; omega, ?_⟩
     rw [show (ByteArray.mk #[46]) = toBA [46] from rfl, toBA_app]; (conv=>whnf); (repeat (refine step_go [] ?_;conv=>whnf))
     refine ⟨by rw [sz_toBA, sz_toBA]; refine str_le ?_; simp; omega, ?_⟩
     rw [toBA_app]; (conv=>whnf); (repeat (refine step_go [] ?_;conv=>whnf))
     refine ⟨by rw [sz_toBA]; refine str_le ?_; simp; show _ + 1 < _; omega, ?_⟩
     rw [show (ByteArray.mk #[37]) = toBA [37] from rfl, toBA_app]; (conv=>whnf); (repeat (refine step_go [] ?_;conv=>whnf))
     rw [hR, show fracS r = [46] ++ trimZ (dgw 7 r) by unfold fracS; rw [if_neg hr0]; rfl] at h
     rw [List.append_assoc A]
     exact h
 · have g : x.size = 0 := by have := of_decide_eq_false g; omega
   have e0 : sB x = [] := List.length_eq_zero_iff.1 (by rw [sB_len]; exact g)
   have ex : x = toBA [] := toBA_of e0
   have hr0 : r = 0 := (trim_nil hr).1 (by rw [← hx, e0]; rfl)
   subst ex
   (conv=>whnf); (repeat (refine step_go [] ?_;conv=>whnf))
   refine ⟨_, Weak.refl, ?_⟩; (conv=>whnf); (repeat (refine step_go [] ?_;conv=>whnf))
   refine no (by rw [str_beq]; rfl) ?_; (conv=>whnf); (repeat (refine step_go [] ?_;conv=>whnf))
   refine ⟨by rw [sz_toBA]; refine str_le ?_; show _ + 1 < _; omega, ?_⟩
   rw [show (ByteArray.mk #[37]) = toBA [37] from rfl, toBA_app]; (conv=>whnf); (repeat (refine step_go [] ?_;conv=>whnf))
   rw [hR, show fracS r = [] by unfold fracS; rw [if_pos hr0], List.append_nil] at h
   exact h
theorem c_digit (c : Int) (K) (h : K (.ret (.bool (decide (Dig c)))) []) : VCall Tryz.prog 129 [.int .u8 c] [] K := by
 refine call_fun [] 0 Tryz.func129 (by rfl) (by rfl) ?_; (conv=>whnf); (repeat (refine step_go [] ?_;conv=>whnf))
 refine two (fun g => ?_) (fun g => ?_)
 · have g : 48 <= c := of_decide_eq_true g
   (conv=>whnf); (repeat (refine step_go [] ?_;conv=>whnf))
   rw [show decide (Dig c) = decide (c <= 57) by rw [decide_eq_decide]; unfold Dig; omega] at h
   exact h
 · have g : ¬ 48 <= c := of_decide_eq_false g
   (conv=>whnf); (repeat (refine step_go [] ?_;conv=>whnf))
   rw [show decide (Dig c) = false from decide_eq_false (by unfold Dig; omega)] at h
   exact h
end B20

namespace B21
open Go Go.Proofs VL D1 B2 B4 B5 B7 B8 B10 B11 B12 B13 D2 B14 D3 B18 B20
theorem hasP_head {l : List Int} : hasP l [45] = true ↔ l.head? = some 45 := by
 cases l with
 | nil => simp [hasP]
 | cons x r => rw [hasP_cons]; simp
theorem moneyOk_facts {t : List Int} (h : moneyOk t) : ∃ n, t.length = n + 3 /\ 1 <= n /\ n <= 20 /\ t[n]? = some 46 /\ (n = 1 \/ t.head? ≠ some 48) /\ ∀ i x, i ≠ n -> t[i]? = some x -> Dig x := by
 obtain ⟨h1, h2, h3, h4⟩ := h
 have hj := join46 h1
 have hl : t.length = (aheadT t).length + 3 := by
  have := congrArg List.length hj
  rw [List.length_append, List.length_cons, h2] at this; omega
 refine ⟨(aheadT t).length, hl, h3.1.1, h3.1.2.1, ?_, ?_, fun i x hi hx => ?_⟩
 · rw [hj, List.getElem?_append_right (by rw [← hj]; omega)]
   rw [← hj]; simp
 · rcases h3.2 with h | h
   · exact .inl h
   · refine .inr fun e => h ?_
     have h0 := h3.1.1
     cases ha : aheadT t with
     | nil => rw [ha] at h0; simp at h0
     | cons a r =>
       rw [hj, ha] at e
       simpa using e
 · rw [hj] at hx
   rcases Nat.lt_or_ge i (aheadT t).length with h | h
   · rw [List.getElem?_append_left h] at hx
     exact h3.1.2.2 x (List.mem_of_getElem? hx)
   · rw [List.getElem?_append_right h] at hx
     obtain ⟨k, hk⟩ : ∃ k, i - (aheadT t).length = k + 1 := ⟨i - (aheadT t).length - 1, by omega⟩
     rw [hk, List.getElem?_cons_succ] at hx
     exact h4.2.2 x (List.mem_of_getElem? hx)
theorem moneyOk_of {t : List Int} {n : Nat} (hl : t.length = n + 3) (h1 : 1 <= n) (h20 : n <= 20) (hp : t[n]? = some 46) (h0 : n = 1 \/ t.head? ≠ some 48) (hd : ∀ (i : Nat) x, i ≠ n -> t[i]? = some x -> Dig x) :
 moneyOk t /\ moneyN t = vl (t.take n ++ t.drop (n + 1)) := by
 have hn : n < t.length := by omega
 have ht : t = t.take n ++ 46 :: t.drop (n + 1) := by
  have hx : t[n] = 46 := by rw [List.getElem?_eq_getElem hn] at hp; exact Option.some.inj hp
  rw [← hx, ← List.drop_eq_getElem_cons hn, List.take_append_drop]
 have hdig : ∀ x ∈ t.take n, Dig x := fun x hx => by
  obtain ⟨i, hi⟩ := List.mem_iff_getElem?.1 hx
  rw [List.getElem?_take] at hi
  split at hi
  · exact hd i x (by omega) hi
  · cases hi
 have hdig2 : ∀ x ∈ t.drop (n + 1), Dig x := fun x hx => by
  obtain ⟨i, hi⟩ := List.mem_iff_getElem?.1 hx
  rw [List.getElem?_drop] at hi
  exact hd (n + 1 + i) x (by omega) hi
 obtain ⟨s1, s2, s3⟩ := split46 (a := t.take n) (b := t.drop (n + 1)) (dig46 hdig)
 rw [← ht] at s1 s2 s3
 have hlen : (t.take n).length = n := by simp; omega
 have hlen2 : (t.drop (n + 1)).length = 2 := by simp; omega
 refine ⟨⟨s3, by rw [s2, hlen2], ⟨⟨by rw [s1]; omega, by rw [s1]; omega, by rw [s1]; exact hdig⟩, ?_⟩, by rw [s2]; exact ⟨by omega, by omega, hdig2⟩⟩, ?_⟩
 · rw [s1]
   rcases h0 with h | h
   · exact .inl (by omega)
   · refine .inr fun e => h ?_
     cases t with
     | nil => simp at hl
     | cons x r =>
       cases n with
       | zero => omega
       | succ n => simpa using e
 · unfold moneyN
   rw [s1, s2]
   obtain ⟨a, b, hab⟩ : ∃ a b, t.drop (n + 1) = [a, b] := by
    match h : t.drop (n + 1), hlen2 with
    | [a, b], _ => exact ⟨a, b, rfl⟩
   rw [hab]
   have e1 : vl [a, b] = 10 * (a - 48).toNat + (b - 48).toNat := by show 10 * (10 * 0 + (a - 48).toNat) + (b - 48).toNat = _; omega
   have e2 : vl (t.take n ++ [a, b]) = 10 * (10 * vl (t.take n) + (a - 48).toNat) + (b - 48).toNat := by
    rw [show t.take n ++ [a, b] = (t.take n ++ [a]) ++ [b] by simp, vl_snoc, vl_snoc]
   rw [e1, e2]; omega
def dgs (t : List Int) (n i : Nat) : List Int := if i <= n then t.take i else t.take n ++ (t.drop (n + 1)).take (i - n - 1)
theorem dgs_step {t : List Int} {n i : Nat} {x : Int} (hi : i ≠ n) (hx : t[i]? = some x) : dgs t n (i + 1) = dgs t n i ++ [x] := by
 unfold dgs
 rcases Nat.lt_or_ge i n with h | h
 · rw [if_pos (by omega), if_pos (by omega), List.take_add_one, hx]; rfl
 · rw [if_neg (by omega), if_neg (by omega), List.append_assoc, show i + 1 - n - 1 = (i - n - 1) + 1 by omega, List.take_add_one, List.getElem?_drop, show n + 1 + (i - n - 1) = i by omega, hx]; rfl
theorem dgs_skip (t : List Int) (n : Nat) : dgs t n (n + 1) = dgs t n n := by
 unfold dgs; rw [if_neg (by omega), if_pos (by omega)]; simp
theorem dgs_all {t : List Int} {n : Nat} (h : t.length = n + 3) : dgs t n t.length = t.take n ++ t.drop (n + 1) := by
 unfold dgs; rw [if_neg (by omega), List.take_of_length_le (l := t.drop (n + 1)) (by simp; omega)]
set_option maxHeartbeats 4000000 in
theorem c_rtakeM (s : ByteArray) (hs : s.size < 1000000) (K) (h : K (.ret (.tup [.int .i64 (takeM (sB s)).1, .int .i64 (takeM (sB s)).2])) []) : VCall Tryz.prog 118 [.str s] [] K := by
 have hb := sB_byte s
 have hl := sB_len s
 have hub := unsg_byte hb
 have hul := unsg_len (sB s)
 have hfail : ¬ moneyOk (unsg (sB s)) -> K (.ret (.tup [.int .i64 0, .int .i64 4])) [] := fun hn => by
  have : takeM (sB s) = (0, 4) := by unfold takeM; rw [if_pos hn]
  rw [this] at h; exact h
 refine call_fun [] 0 Tryz.func118 (by rfl) (by rfl) ?_; (conv=>whnf); (repeat (refine step_go [] ?_;conv=>whnf))
 have key : ∀ (R G : Prop), ((Unit -> R) -> G) -> R -> G := fun R G h1 h2 => h1 fun _ => h2
 let Sm : St := ⟨(.str s :: .undef :: .int .i64 0 :: .int .i64 0 :: .str (toBA (unsg (sB s))) :: .undef :: .undef :: .undef :: .undef :: .undef :: .undef :: .undef :: .undef :: .undef :: .undef :: .undef :: .undef :: .undef :: .undef :: .undef :: .undef :: .undef :: .undef :: .undef :: .undef :: .undef :: .undef :: .undef :: .undef :: .undef :: .undef :: .undef :: .undef :: .undef :: .undef :: .undef :: .undef :: .undef :: .undef :: .undef :: .undef :: .undef :: .undef :: .undef :: .undef :: .undef :: .undef :: .undef :: .undef :: .undef :: .undef :: .undef :: .undef :: .undef :: .undef :: .undef :: .undef :: .undef :: .undef :: .undef :: .undef :: .undef :: .undef :: .undef :: .undef :: .undef :: .undef :: .undef :: .undef :: .undef :: .undef :: .undef :: .undef :: .undef :: .undef :: .undef :: .undef :: .undef :: .undef :: .undef :: .undef :: .undef :: .undef :: .undef :: .undef :: .undef :: .undef :: .undef :: .undef :: .undef :: .undef :: []), [], 0, []⟩
 refine key ?R _ ?h ?r
 case h =>
  intro rest
  refine two (fun g => ?_) (fun g => ?_)
  · have g : 0 < s.size := by have := of_decide_eq_true g; omega
    obtain ⟨x, r, hx⟩ : ∃ x r, sB s = x :: r := by
     cases hc : sB s with
     | nil => rw [hc] at hl; simp at hl; omega
     | cons x r => exact ⟨x, r, rfl⟩
    conv=>whnf
    refine idx_str (x := x) (by omega) (by rw [hx]; rfl) fun c hc => ?_
    rw [hc]; (conv=>whnf); (repeat (refine step_go [] ?_;conv=>whnf))
    refine two (fun g2 => ?_) (fun g2 => ?_)
    · have g2 : x = 45 := by simpa using g2
      conv=>whnf
      refine ⟨by omega, by omega, ?_⟩; conv=>whnf
      rw [ext_str s (l := unsg (sB s)) (by rw [List.take_of_length_le (by omega), hx, g2, unsg_hy]; rfl)]
      refine VStep.weak (s' := Sm) (weak_of ?_ .nil rfl rfl rfl) ?_
      · (repeat' first | exact VWs.nil | refine VWs.cons VW.undef ?_ | refine VWs.cons (VW.eq rfl) ?_)
      exact rest ()
    · have g2 : x ≠ 45 := by simpa using g2
      conv=>whnf
      have e : s = toBA (unsg (sB s)) := by rw [hx, unsg_no g2, ← hx, toBA_sB]
      refine VStep.weak (s' := Sm) (weak_of ?_ .nil rfl rfl rfl) ?_
      · repeat' first
         | exact VWs.nil
         | refine VWs.cons VW.undef ?_
         | refine VWs.cons (VW.eq (congrArg V.str e)) ?_
         | refine VWs.cons (VW.eq rfl) ?_
      exact rest ()
  · have g : s.size = 0 := by have := of_decide_eq_false g; omega
    have e0 : sB s = [] := List.length_eq_zero_iff.1 (by rw [sB_len]; exact g)
    have e : s = toBA (unsg (sB s)) := by rw [e0]; exact toBA_of e0
    conv=>whnf
    refine step_go [] ?_; conv=>whnf
    refine VStep.weak (s' := Sm) (weak_of ?_ .nil rfl rfl rfl) ?_
    · repeat' first
       | exact VWs.nil
       | refine VWs.cons VW.undef ?_
       | refine VWs.cons (VW.eq (congrArg V.str e)) ?_
       | refine VWs.cons (VW.eq rfl) ?_
    exact rest ()
 case r =>
 (conv=>whnf); (repeat (refine step_go [] ?_;conv=>whnf))
 have ht0 : ∃ t, unsg (sB s) = t := ⟨_, rfl⟩
 obtain ⟨t, ht⟩ := ht0
 rw [ht] at hub hul hfail
 rw [ht]
 have hlw : IntKind.i64.wrap (((toBA t).size : Int) - 3) = (t.length : Int) - 3 := by rw [sz_toBA, wrap64 (by omega) (by omega)]
 rw [hlw]
 refine two (fun g => ?_) (fun g => ?_)
 · have g := of_decide_eq_true g
   (conv=>whnf); (repeat (refine step_go [] ?_;conv=>whnf))
   exact hfail fun hk => by obtain ⟨n, f1, f2, _⟩ := moneyOk_facts hk; omega
 have g := of_decide_eq_false g
 obtain ⟨n, hn⟩ : ∃ n, t.length = n + 3 := ⟨t.length - 3, by omega⟩
 rw [show (t.length : Int) - 3 = (n : Int) by omega]
 (conv=>whnf); (repeat (refine step_go [] ?_;conv=>whnf))
 refine two (fun g2 => ?_) (fun g2 => ?_)
 · have g2 := of_decide_eq_true g2
   (conv=>whnf); (repeat (refine step_go [] ?_;conv=>whnf))
   exact hfail fun hk => by obtain ⟨n, f1, f2, f3, _⟩ := moneyOk_facts hk; omega
 have g2 := of_decide_eq_false g2
 (conv=>whnf); (repeat (refine step_go [] ?_;conv=>whnf))
 obtain ⟨p, hp⟩ : ∃ p, t[n]? = some p := ⟨_, List.getElem?_eq_getElem (by omega)⟩
 refine idx_str (x := p) (by omega) (by rw [sB_toBA hub, Int.toNat_natCast]; exact hp) fun c hc => ?_
 rw [hc]; (conv=>whnf); (repeat (refine step_go [] ?_;conv=>whnf))
 refine two (fun g3 => ?_) (fun g3 => ?_)
 · have g3 : p ≠ 46 := by simpa using g3
   (conv=>whnf); (repeat (refine step_go [] ?_;conv=>whnf))
   exact hfail fun hk => by
    obtain ⟨m, f1, f2, f3, f4, _⟩ := moneyOk_facts hk
    rw [show m = n by omega, hp] at f4
    exact g3 (Option.some.inj f4)
 have g3 : p = 46 := by simpa using g3
 subst g3
 (conv=>whnf); (repeat (refine step_go [] ?_;conv=>whnf))
 have key : ∀ (R G : Prop), ((Unit -> R) -> G) -> R -> G := fun R G h1 h2 => h1 fun _ => h2
 let Sm : St := ⟨(.str s :: .undef :: .int .i64 0 :: .int .i64 0 :: .str (toBA t) :: .int .i64 n :: .undef :: .undef :: .undef :: .undef :: .undef :: .undef :: .undef :: .undef :: .undef :: .undef :: .undef :: .undef :: .undef :: .undef :: .undef :: .undef :: .undef :: .undef :: .undef :: .undef :: .undef :: .undef :: .undef :: .undef :: .undef :: .undef :: .undef :: .undef :: .undef :: .undef :: .undef :: .undef :: .undef :: .undef :: .undef :: .undef :: .undef :: .undef :: .undef :: .undef :: .undef :: .undef :: .undef :: .undef :: .undef :: .undef :: .undef :: .undef :: .undef :: .undef :: .undef :: .undef :: .undef :: .undef :: .undef :: .undef :: .undef :: .undef :: .undef :: .undef :: .undef :: .undef :: .undef :: .undef :: .undef :: .undef :: .undef :: .undef :: .undef :: .undef :: .undef :: .undef :: .undef :: .undef :: .undef :: .undef :: .undef :: .undef :: .undef :: .undef :: .undef :: .undef :: .undef :: .undef :: .undef :: []), [], 0, []⟩
 refine key (n = 1 \/ t.head? ≠ some 48 -> ?R2) _ ?h2 ?r2
 case h2 =>
  intro rest
  refine two (fun g4 => ?_) (fun g4 => ?_)
  · have g4 := of_decide_eq_true g4
    obtain ⟨x, r, hx⟩ : ∃ x r, t = x :: r := by
     cases hc : t with
     | nil => rw [hc] at hn; simp at hn
     | cons x r => exact ⟨x, r, rfl⟩
    conv=>whnf
    refine idx_str (x := x) (by omega) (by rw [sB_toBA hub, hx]; rfl) fun c hc => ?_
    rw [hc]; (conv=>whnf); (repeat (refine step_go [] ?_;conv=>whnf))
    refine two (fun g5 => ?_) (fun g5 => ?_)
    · have g5 : x = 48 := by simpa using g5
      (conv=>whnf); (repeat (refine step_go [] ?_;conv=>whnf))
      exact hfail fun hk => by
       obtain ⟨m, f1, f2, f3, f4, f5, _⟩ := moneyOk_facts hk
       rcases f5 with f5 | f5
       · omega
       · rw [hx, g5] at f5; simp at f5
    · have g5 : x ≠ 48 := by simpa using g5
      conv=>whnf
      refine VStep.weak (s' := Sm) (weak_of ?_ .nil rfl rfl rfl) ?_
      · (repeat' first | exact VWs.nil | refine VWs.cons VW.undef ?_ | refine VWs.cons (VW.eq rfl) ?_)
      exact rest () (.inr (by rw [hx]; simpa using g5))
  · have g4 := of_decide_eq_false g4
    conv=>whnf
    refine step_go [] ?_; conv=>whnf
    refine VStep.weak (s' := Sm) (weak_of ?_ .nil rfl rfl rfl) ?_
    · (repeat' first | exact VWs.nil | refine VWs.cons VW.undef ?_ | refine VWs.cons (VW.eq rfl) ?_)
    exact rest () (.inl (by omega))
 case r2 =>
 intro h0
 (conv=>whnf); (repeat (refine step_go [] ?_;conv=>whnf))
 let S : Nat × Int × Bool -> St := fun ⟨i, w, o⟩ => ⟨(.str s :: .undef :: .int .i64 0 :: .int .i64 0 :: .str (toBA t) :: .int .i64 n :: .int .i64 w :: .bool o :: .int .i64 i :: .undef :: .undef :: .undef :: .undef :: .undef :: .undef :: .undef :: .undef :: .undef :: .undef :: .undef :: .undef :: .undef :: .undef :: .undef :: .undef :: .undef :: .undef :: .undef :: .undef :: .undef :: .undef :: .undef :: .undef :: .undef :: .undef :: .undef :: .undef :: .undef :: .undef :: .undef :: .undef :: .undef :: .undef :: .undef :: .undef :: .undef :: .undef :: .undef :: .undef :: .undef :: .undef :: .undef :: .undef :: .undef :: .undef :: .undef :: .undef :: .undef :: .undef :: .undef :: .undef :: .undef :: .undef :: .undef :: .undef :: .undef :: .undef :: .undef :: .undef :: .undef :: .undef :: .undef :: .undef :: .undef :: .undef :: .undef :: .undef :: .undef :: .undef :: .undef :: .undef :: .undef :: .undef :: .undef :: .undef :: .undef :: .undef :: .undef :: .undef :: .undef :: .undef :: []), [], 0, []⟩
 refine VLoop.enter (s' := S (0, 0, false)) (weak_of ?_ .nil rfl rfl rfl)
  (VLoop.indW S (fun x => n + 3 - x.1) (fun x => x.1 <= n + 3 /\ (∀ (j : Nat) y, j < x.1 -> j ≠ n -> t[j]? = some y -> Dig y) /\ ((x.2.2 = false /\ x.2.1 = (vl (dgs t n x.1) : Int) /\ x.2.1 <= 10000000000000009) \/ (x.2.2 = true /\ 1000000000000000 < vl (dgs t n x.1)))) ?_ (0, 0, false) ⟨by simp, fun j y hj => absurd hj (by simp), .inl ⟨rfl, by simp [dgs, vl_nil], by simp⟩⟩)
 · (repeat' first | exact VWs.nil | refine VWs.cons VW.undef ?_ | refine VWs.cons (VW.eq rfl) ?_)
 rintro ⟨i, w, o⟩ ⟨hi, hd, hw⟩ ih
 simp only at hi hd hw
 refine loop_round [] ?_; (conv=>whnf); (repeat (refine step_go [] ?_;conv=>whnf))
 refine two (fun g => ?_) (fun g => ?_)
 · have g : i < n + 3 := by have := of_decide_eq_true g; rw [sz_toBA] at this; omega
   (conv=>whnf); (repeat (refine step_go [] ?_;conv=>whnf))
   refine two (fun g4 => ?_) (fun g4 => ?_)
   · have g4 : i = n := by have := beq_iff_eq.1 g4; omega
     (conv=>whnf); (repeat (refine step_go [] ?_;conv=>whnf))
     refine ⟨S (i + 1, w, o), weak_of ?_ .nil rfl rfl rfl, ih (i + 1, w, o) ⟨by simp only; omega, fun j y hj hjn hy => hd j y (by simp only at hj; omega) hjn hy, ?_⟩ (by simp only; omega)⟩
     · repeat' first
        | exact VWs.nil
        | refine VWs.cons VW.undef ?_
        | refine VWs.cons (VW.eq rfl) ?_
        | refine VWs.cons (VW.eq (congrArg (V.int .i64) (by rw [wrap64 (by omega) (by omega)]; omega))) ?_
     · have e : dgs t n (i + 1) = dgs t n i := by rw [g4, dgs_skip]
       simp only; rw [e]; exact hw
   · have g4 : i ≠ n := by intro e; rw [e] at g4; simp at g4
     obtain ⟨x, hx⟩ : ∃ x, t[i]? = some x := ⟨_, List.getElem?_eq_getElem (by omega)⟩
     have hxb := hub x (List.mem_of_getElem? hx)
     have hst := dgs_step g4 hx
     (conv=>whnf); (repeat (refine step_go [] ?_;conv=>whnf))
     refine idx_str (x := x) (by omega) (by rw [sB_toBA hub, Int.toNat_natCast]; exact hx) fun c hc => ?_
     rw [hc]; (conv=>whnf); (repeat (refine step_go [] ?_;conv=>whnf))
     refine c_digit x _ ?_; (conv=>whnf); (repeat (refine step_go [] ?_;conv=>whnf))
     refine two (fun g5 => ?_) (fun g5 => ?_)
     · have g5 : ¬ Dig x := by simpa using g5
       (conv=>whnf); (repeat (refine step_go [] ?_;conv=>whnf))
       refine ⟨_, Weak.refl, ?_⟩; (conv=>whnf); (repeat (refine step_go [] ?_;conv=>whnf))
       exact hfail fun hk => by
        obtain ⟨m, f1, f2, f3, f4, f5, f6⟩ := moneyOk_facts hk
        exact g5 (f6 i x (by omega) hx)
     have g5 : Dig x := by simpa using g5
     have hdn : ∀ (j : Nat) y, j < i + 1 -> j ≠ n -> t[j]? = some y -> Dig y := fun j y hj hjn hy => by
      by_cases e : j = i
      · subst e; rw [hx] at hy; cases hy; exact g5
      · exact hd j y (by omega) hjn hy
     have hvs : vl (dgs t n (i + 1)) = 10 * vl (dgs t n i) + (x - 48).toNat := by rw [hst, vl_snoc]
     unfold Dig at g5
     (conv=>whnf); (repeat (refine step_go [] ?_;conv=>whnf))
     cases o with
     | true =>
       (conv=>whnf); (repeat (refine step_go [] ?_;conv=>whnf))
       refine ⟨S (i + 1, w, true), weak_of ?_ .nil rfl rfl rfl, ih (i + 1, w, true) ⟨by simp only; omega, hdn, .inr ⟨rfl, ?_⟩⟩ (by simp only; omega)⟩
       · repeat' first
          | exact VWs.nil
          | refine VWs.cons VW.undef ?_
          | refine VWs.cons (VW.eq rfl) ?_
          | refine VWs.cons (VW.eq (congrArg (V.int .i64) (by rw [wrap64 (by omega) (by omega)]; omega))) ?_
       · simp only
         rcases hw with ⟨h1, _⟩ | ⟨_, h2⟩
         · cases h1
         · omega
     | false =>
       obtain ⟨hw1, hw2⟩ : w = (vl (dgs t n i) : Int) /\ w <= 10000000000000009 := by
        rcases hw with ⟨_, h2⟩ | ⟨h1, _⟩
        · exact h2
        · cases h1
       (conv=>whnf); (repeat (refine step_go [] ?_;conv=>whnf))
       refine two (fun g6 => ?_) (fun g6 => ?_)
       · have g6 : ¬ w > 1000000000000000 := by simpa using g6
         (conv=>whnf); (repeat (refine step_go [] ?_;conv=>whnf))
         refine idx_str (x := x) (by omega) (by rw [sB_toBA hub, Int.toNat_natCast]; exact hx) fun c hc => ?_
         rw [hc]; (conv=>whnf); (repeat (refine step_go [] ?_;conv=>whnf))
         have e : IntKind.i64.wrap (IntKind.i64.wrap (10 * w) + IntKind.i64.wrap (IntKind.u8.wrap (x - 48))) = 10 * w + (x - 48) := by
          rw [wrapu8' (by omega) (by omega), wrap64 (x := 10 * w) (by omega) (by omega), wrap64 (x := x - 48) (by omega) (by omega), wrap64 (by omega) (by omega)]
         have e2 : (decide (w > 1000000000000000)) = false := decide_eq_false g6
         rw [e2]
         refine ⟨S (i + 1, 10 * w + (x - 48), false), weak_of ?_ .nil rfl rfl rfl, ih (i + 1, 10 * w + (x - 48), false) ⟨by simp only; omega, hdn, .inl ⟨rfl, ?_⟩⟩ (by simp only; omega)⟩
         · repeat' first
            | exact VWs.nil
            | refine VWs.cons VW.undef ?_
            | refine VWs.cons (VW.eq rfl) ?_
            | refine VWs.cons (VW.eq (congrArg (V.int .i64) (by rw [wrap64 (by omega) (by omega)]; omega))) ?_
            | refine VWs.cons (VW.eq (congrArg (V.int .i64) e)) ?_
         · simp only; rw [hvs]; omega
       · have g6 : w > 1000000000000000 := by simpa using g6
         (conv=>whnf); (repeat (refine step_go [] ?_;conv=>whnf))
         have e2 : (decide (w > 1000000000000000)) = true := decide_eq_true g6
         rw [e2]
         refine ⟨S (i + 1, w, true), weak_of ?_ .nil rfl rfl rfl, ih (i + 1, w, true) ⟨by simp only; omega, hdn, .inr ⟨rfl, ?_⟩⟩ (by simp only; omega)⟩
         · repeat' first
            | exact VWs.nil
            | refine VWs.cons VW.undef ?_
            | refine VWs.cons (VW.eq rfl) ?_
            | refine VWs.cons (VW.eq (congrArg (V.int .i64) (by rw [wrap64 (by omega) (by omega)]; omega))) ?_
            | refine VWs.cons (VW.eq (congrArg (V.int .i64) e)) ?_
         · simp only; rw [hvs]; omega
 · have g : i = n + 3 := by have := of_decide_eq_false g; rw [sz_toBA] at this; omega
   clear ih
   subst g
   rw [← hn] at hd hw
   obtain ⟨hok, hN⟩ := moneyOk_of hn (by omega) (by omega) hp h0 fun i x hi hx => hd i x (List.getElem?_eq_some_iff.1 hx).1 hi hx
   rw [dgs_all hn, ← hN] at hw
   have hneg : hasP (sB s) [45] = true ↔ (sB s).head? = some 45 := hasP_head
   obtain ⟨x, r, hx⟩ : ∃ x r, sB s = x :: r := by
    cases hc : sB s with
    | nil => rw [hc, List.length_nil] at hul; omega
    | cons x r => exact ⟨x, r, rfl⟩
   have hneg2 : hasP (sB s) [45] = decide (x = 45) := by rw [hx, hasP_cons]
   have hbig : 1000000000000000 < moneyN t -> K (.ret (.tup [.int .i64 0, .int .i64 3])) [] := fun h2 => by
    have : takeM (sB s) = (0, 3) := by unfold takeM; rw [ht, if_neg (by simpa using hok), if_neg (fun h => by omega), if_pos h2]
    rw [this] at h; exact h
   (conv=>whnf); (repeat (refine step_go [] ?_;conv=>whnf))
   refine ⟨_, Weak.refl, ?_⟩; (conv=>whnf); (repeat (refine step_go [] ?_;conv=>whnf))
   cases o with
   | true =>
     (conv=>whnf); (repeat (refine step_go [] ?_;conv=>whnf))
     exact hbig (by rcases hw with ⟨h1, _⟩ | ⟨_, h2⟩ <;> first | cases h1 | exact h2)
   | false =>
     obtain ⟨hw1, hw2⟩ : w = (moneyN t : Int) /\ w <= 10000000000000009 := by
      rcases hw with ⟨_, h2⟩ | ⟨h1, _⟩
      · exact h2
      · cases h1
     (conv=>whnf); (repeat (refine step_go [] ?_;conv=>whnf))
     refine two (fun g6 => ?_) (fun g6 => ?_)
     · have g6 := of_decide_eq_true g6
       (conv=>whnf); (repeat (refine step_go [] ?_;conv=>whnf))
       exact hbig (by omega)
     have g6 := of_decide_eq_false g6
     (conv=>whnf); (repeat (refine step_go [] ?_;conv=>whnf))
     refine idx_str (x := x) (by omega) (by rw [hx]; rfl) fun c hc => ?_
     rw [hc]; (conv=>whnf); (repeat (refine step_go [] ?_;conv=>whnf))
     refine two (fun g7 => ?_) (fun g7 => ?_)
     · have g7 : x = 45 := by simpa using g7
       have hp1 : hasP (sB s) [45] = true := by rw [hneg2, g7]; rfl
       (conv=>whnf); (repeat (refine step_go [] ?_;conv=>whnf))
       refine two (fun g8 => ?_) (fun g8 => ?_)
       · have g8 : w = 0 := by simpa using g8
         (conv=>whnf); (repeat (refine step_go [] ?_;conv=>whnf))
         have : takeM (sB s) = (0, 4) := by unfold takeM; rw [ht, if_neg (by simpa using hok), if_pos ⟨hp1, by omega⟩]
         rw [this] at h; exact h
       · have g8 : w ≠ 0 := by simpa using g8
         (conv=>whnf); (repeat (refine step_go [] ?_;conv=>whnf))
         refine idx_str (x := x) (by omega) (by rw [hx]; rfl) fun c hc => ?_
         rw [hc]; (conv=>whnf); (repeat (refine step_go [] ?_;conv=>whnf))
         refine yes (by simpa using g7) ?_; (conv=>whnf); (repeat (refine step_go [] ?_;conv=>whnf))
         rw [show IntKind.i64.wrap (0 - w) = -w by rw [wrap64 (by omega) (by omega)]; omega]
         have : takeM (sB s) = (-w, 0) := by unfold takeM; rw [ht, if_neg (by simpa using hok), if_neg (fun h => by omega), if_neg (by omega), if_pos hp1, hw1]
         rw [this] at h; exact h
     · have g7 : x ≠ 45 := by simpa using g7
       have hp1 : ¬ hasP (sB s) [45] = true := by rw [hneg2]; simpa using g7
       (conv=>whnf); (repeat (refine step_go [] ?_;conv=>whnf))
       refine idx_str (x := x) (by omega) (by rw [hx]; rfl) fun c hc => ?_
       rw [hc]; (conv=>whnf); (repeat (refine step_go [] ?_;conv=>whnf))
       refine no (by simpa using g7) ?_; (conv=>whnf); (repeat (refine step_go [] ?_;conv=>whnf))
       have : takeM (sB s) = (w, 0) := by unfold takeM; rw [ht, if_neg (by simpa using hok), if_neg (fun h => hp1 h.1), if_neg (by omega), if_neg hp1, hw1]
       rw [this] at h; exact h
end B21

namespace B22
open Go Go.Proofs VL D1 B2 B4 B5 B7 B8 B10 B11 B12 B13 D2 B14 D3 B18 B20 B21
def scan (n : Nat) : Nat -> List Int -> Int × Nat × Int -> Option (Int × Nat × Int)
 | _, [], st => some st
 | i, x :: r, (v, d, p) =>
   if x = 45 /\ i = 0 then scan n (i + 1) r (v, d, p)
   else if x = 37 /\ i + 1 = n then scan n (i + 1) r (v, d, p)
   else if x = 46 /\ p < 0 then scan n (i + 1) r (v, d, (d : Int))
   else if Dig x /\ d < 12 then scan n (i + 1) r (10 * v + (x - 48), d + 1, p)
   else none
def mul10 : Nat -> Int -> Int
 | 0, v => v
 | k + 1, v => mul10 k (IntKind.i64.wrap (10 * v))
theorem mul10_eq : ∀ (k : Nat) (v : Nat), v * 10 ^ k < 9223372036854775808 -> mul10 k (v : Int) = ((v * 10 ^ k : Nat) : Int)
 | 0, v, h => by simp [mul10]
 | k + 1, v, h => by
   have e : v * 10 ^ (k + 1) = v * 10 * 10 ^ k := by rw [Nat.pow_succ, Nat.mul_comm (10 ^ k), Nat.mul_assoc]
   have hp : 1 <= 10 ^ k := Nat.one_le_pow _ _ (by omega)
   have h1 : v * 10 <= v * 10 * 10 ^ k := Nat.le_mul_of_pos_right _ hp
   rw [mul10, show (10 : Int) * (v : Int) = ((v * 10 : Nat) : Int) by omega, wrap64 (by omega) (by omega), mul10_eq k (v * 10) (by rw [← e]; exact h), e]
theorem mul10_I64 : ∀ (k : Nat) (v : Int), I64 v -> I64 (mul10 k v)
 | 0, v, h => h
 | k + 1, v, h => mul10_I64 k _ (by
   have : IntKind.i64.wrap (10 * v) = (10 * v + 9223372036854775808) % 18446744073709551616 - 9223372036854775808 := IntKind.wrap_i64 _
   unfold I64; omega)
theorem scan_digs (n : Nat) : ∀ (l : List Int) (i : Nat) (r : List Int) (v d : Nat) (p : Int), (∀ x ∈ l, Dig x) -> d + l.length <= 12 -> scan n i (l ++ r) ((v : Int), d, p) = scan n (i + l.length) r (((l.foldl (fun v c => 10 * v + (c - 48).toNat) v : Nat) : Int), d + l.length, p)
 | [], i, r, v, d, p, _, _ => by simp
 | x :: l, i, r, v, d, p, h, hl => by
   have hx := h x (by simp)
   have hx' := hx
   unfold Dig at hx'
   simp only [List.length_cons] at hl
   rw [List.cons_append, scan, if_neg (fun e => by omega), if_neg (fun e => by omega), if_neg (fun e => by omega), if_pos ⟨hx, by omega⟩]
   rw [show (10 * (v : Int) + (x - 48)) = ((10 * v + (x - 48).toNat : Nat) : Int) by omega, scan_digs n l (i + 1) r _ (d + 1) p (fun y hy => h y (by simp [hy])) (by omega)]
   rw [List.foldl_cons, List.length_cons]
   congr 1
   · omega
   · congr 2; omega
theorem fold_vl (l : List Int) (v : Nat) : l.foldl (fun v c => 10 * v + (c - 48).toNat) v = v * 10 ^ l.length + vl l := by
 induction h : l.length generalizing l with
 | zero => rw [List.length_eq_zero_iff.1 h]; simp [vl_nil]
 | succ k ih =>
   rcases List.eq_nil_or_concat l with rfl | ⟨m, x, rfl⟩
   · simp at h
   rw [List.concat_eq_append] at h ⊢
   rw [List.foldl_append, ih m (by simpa using h), vl_snoc, Nat.pow_succ]
   simp only [List.foldl_cons, List.foldl_nil]
   rw [← Nat.mul_assoc, Nat.mul_add]
   have : 10 * (v * 10 ^ k) = v * 10 ^ k * 10 := Nat.mul_comm _ _
   omega
theorem vl_zeros_app (l : List Int) (k : Nat) : vl (l ++ List.replicate k 48) = vl l * 10 ^ k := by
 induction k with
 | zero => simp
 | succ k ih => rw [List.replicate_succ', ← List.append_assoc, vl_snoc, ih, Nat.pow_succ, ← Nat.mul_assoc (vl l)]; omega
theorem scan_end {n i : Nat} {v : Int} {d : Nat} {p : Int} (h : i + 1 = n) (h0 : 0 < i) : scan n i [37] (v, d, p) = some (v, d, p) := by
 rw [scan, if_neg (fun e => by omega), if_pos ⟨rfl, h⟩, scan]
theorem scan_rate {c : Int} (h : -10000000000 <= c /\ c <= 10000000000) : ∃ (v d : Nat) (p : Int) (e : Nat), scan (rateS c).length 0 (rateS c) (0, 0, -1) = some ((v : Int), d, p) /\
 (d : Int) - (if p < 0 then (d : Int) else p) = e /\ e <= 7 /\ v * 10 ^ (7 - e) = c.natAbs /\ p <= d /\ -1 <= p := by
 have hq : c.natAbs / 10000000 <= 1000 := by omega
 have hl4 : (dg (c.natAbs / 10000000)).length <= 4 := dg_len_le 3 _ (by omega)
 have hpos := dg_len_pos (c.natAbs / 10000000)
 have hs : ∃ i0, i0 + (dg (c.natAbs / 10000000) ++ (fracS (c.natAbs % 10000000) ++ [37])).length = (rateS c).length /\ scan (rateS c).length 0 (rateS c) (0, 0, -1) = scan (rateS c).length i0 (dg (c.natAbs / 10000000) ++ (fracS (c.natAbs % 10000000) ++ [37])) (0, 0, -1) := by
  have hR : rateS c = sgn c ++ (dg (c.natAbs / 10000000) ++ (fracS (c.natAbs % 10000000) ++ [37])) := by unfold rateS; simp
  by_cases hc : c < 0
  · have : sgn c = [45] := by unfold sgn; rw [if_pos hc]
    refine ⟨1, by rw [hR, this]; simp; omega, ?_⟩
    conv => lhs; rw [hR, this]
    rw [List.singleton_append, scan, if_pos ⟨rfl, rfl⟩, hR, this]; rfl
  · have : sgn c = [] := by unfold sgn; rw [if_neg hc]
    refine ⟨0, by rw [hR, this]; simp, ?_⟩
    conv => lhs; rw [hR, this]
    rw [hR, this]; rfl
 obtain ⟨i0, hi, hsc⟩ := hs
 rw [hsc]
 have h1 := scan_digs (rateS c).length (dg (c.natAbs / 10000000)) i0 (fracS (c.natAbs % 10000000) ++ [37]) 0 0 (-1) (dg_dig _) (by omega)
 rw [show ((0 : Nat) : Int) = 0 from rfl] at h1
 rw [h1, fold_vl, vl_dg, Nat.zero_mul, Nat.zero_add, Nat.zero_add]
 obtain ⟨q, eq⟩ : ∃ q, c.natAbs / 10000000 = q := ⟨_, rfl⟩
 obtain ⟨r, er⟩ : ∃ r, c.natAbs % 10000000 = r := ⟨_, rfl⟩
 rw [eq] at hl4 hpos
 rw [eq, er] at hi
 rw [eq, er]
 unfold fracS at hi ⊢
 by_cases h0 : r = 0
 · rw [if_pos h0] at hi ⊢
   rw [List.nil_append] at hi ⊢
   rw [scan_end (by simp at hi; omega) (by omega)]
   refine ⟨q, (dg q).length, -1, 0, rfl, by simp, by omega, by simp; omega, by omega, by omega⟩
 · rw [if_neg h0] at hi ⊢
   obtain ⟨f1, f2⟩ := frac_facts h0 (by omega)
   obtain ⟨T, eT⟩ : ∃ T, trimZ (dgw 7 r) = T := ⟨_, rfl⟩
   rw [eT] at f1 f2 hi
   rw [eT, List.cons_append, scan, if_neg (fun e => by omega), if_neg (fun e => by omega), if_pos ⟨rfl, by omega⟩]
   have h2 := scan_digs (rateS c).length T (i0 + (dg q).length + 1) [37] q (dg q).length ((dg q).length : Int) f1.2.2.2 (by have := f1.2.1; omega)
   rw [h2, fold_vl, scan_end (by simp at hi; omega) (by omega)]
   refine ⟨_, _, _, T.length, rfl, ?_, f1.2.1, ?_, by omega, by omega⟩
   · rw [if_neg (by omega)]; omega
   · have hT := f1.2.1
     unfold fracN at f2
     rw [vl_zeros_app] at f2
     rw [Nat.add_mul, f2, Nat.mul_assoc, ← Nat.pow_add, show T.length + (7 - T.length) = 7 by omega]
     omega
theorem takeR_two (l : List Int) : (∃ c, takeR l = (c, 0)) \/ takeR l = (0, 4) := by
 unfold takeR
 split
 · exact .inl ⟨_, rfl⟩
 · exact .inr rfl
theorem pow10_12 {d : Nat} (h : d <= 12) : (10 : Int) ^ d <= 1000000000000 := by
 have h1 : (10 : Nat) ^ d <= 1000000000000 := Nat.le_trans (Nat.pow_le_pow_right (by omega) h) (by decide)
 rw [show (10 : Int) ^ d = ((10 ^ d : Nat) : Int) from (Int.natCast_pow 10 d).symm]
 omega
set_option maxHeartbeats 4000000 in
theorem c_rtakeR (s : ByteArray) (hs : s.size < 1000000) (K) (h : K (.ret (.tup [.int .i64 (takeR (sB s)).1, .int .i64 (takeR (sB s)).2])) []) : VCall Tryz.prog 117 [.str s] [] K := by
 have hb0 := sB_byte s
 have hl := sB_len s
 have hrate : ∀ c, takeR (sB s) = (c, 0) -> rateS c = sB s /\ -10000000000 <= c /\ c <= 10000000000 := fun c hc => rate_take hc
 have hfail : scan (sB s).length 0 (sB s) (0, 0, -1) = none -> K (.ret (.tup [.int .i64 0, .int .i64 4])) [] := fun hn => by
  rcases takeR_two (sB s) with ⟨c, hc⟩ | hc
  · obtain ⟨h1, h2⟩ := hrate c hc
    obtain ⟨v, d, p, e, h3, _⟩ := scan_rate h2
    rw [h1, hn] at h3; cases h3
  · rw [hc] at h; exact h
 refine call_fun [] 0 Tryz.func117 (by rfl) (by rfl) ?_; (conv=>whnf); (repeat (refine step_go [] ?_;conv=>whnf))
 let S : Nat × Int × Nat × Int -> St := fun ⟨i, v, d, p⟩ => ⟨(.str s :: .undef :: .int .i64 0 :: .int .i64 0 :: .int .i64 v :: .int .i64 d :: .int .i64 p :: .int .i64 i :: .undef :: .undef :: .undef :: .undef :: .undef :: .undef :: .undef :: .undef :: .undef :: .undef :: .undef :: .undef :: .undef :: .undef :: .undef :: .undef :: .undef :: .undef :: .undef :: .undef :: .undef :: .undef :: .undef :: .undef :: .undef :: .undef :: .undef :: .undef :: .undef :: .undef :: .undef :: .undef :: .undef :: .undef :: .undef :: .undef :: .undef :: .undef :: .undef :: .undef :: .undef :: .undef :: .undef :: .undef :: .undef :: .undef :: .undef :: .undef :: .undef :: .undef :: .undef :: .undef :: .undef :: .undef :: .undef :: .undef :: .undef :: .undef :: .undef :: .undef :: .undef :: .undef :: .undef :: .undef :: .undef :: .undef :: .undef :: .undef :: .undef :: .undef :: .undef :: .undef :: .undef :: .undef :: .undef :: .undef :: .undef :: .undef :: .undef :: .undef :: .undef :: .undef :: .undef :: .undef :: .undef :: .undef :: .undef :: .undef :: .undef :: .undef :: .undef :: .undef :: .undef :: .undef :: .undef :: .undef :: .undef :: .undef :: []), [], 0, []⟩
 refine VLoop.enter (s' := S (0, 0, 0, -1)) (weak_of ?_ .nil rfl rfl rfl)
  (VLoop.indW S (fun x => s.size - x.1) (fun x => x.1 <= s.size /\ scan (sB s).length x.1 ((sB s).drop x.1) (x.2.1, x.2.2.1, x.2.2.2) = scan (sB s).length 0 (sB s) (0, 0, -1) /\ (0 <= x.2.1 /\ x.2.1 < 10 ^ x.2.2.1 /\ x.2.2.1 <= 12 /\ x.2.2.2 <= x.2.2.1 /\ -1 <= x.2.2.2)) ?_ (0, 0, 0, -1) ⟨by simp, by simp, by simp⟩)
 · (repeat' first | exact VWs.nil | refine VWs.cons VW.undef ?_ | refine VWs.cons (VW.eq rfl) ?_)
 rintro ⟨i, v, d, p⟩ ⟨hi, hsc, hb⟩ ih
 simp only at hi hsc hb
 have hp12 := pow10_12 hb.2.2.1
 refine loop_round [] ?_; (conv=>whnf); (repeat (refine step_go [] ?_;conv=>whnf))
 refine two (fun g => ?_) (fun g => ?_)
 · have g : i < s.size := by have := of_decide_eq_true g; omega
   obtain ⟨x, hx⟩ : ∃ x, (sB s)[i]? = some x := ⟨_, List.getElem?_eq_getElem (by omega)⟩
   have hxb := hb0 x (List.mem_of_getElem? hx)
   have hdrop : (sB s).drop i = x :: (sB s).drop (i + 1) := by
    rw [List.drop_eq_getElem_cons (by omega)]
    congr 1
    rw [List.getElem?_eq_getElem (by omega)] at hx; exact Option.some.inj hx
   (conv=>whnf); (repeat (refine step_go [] ?_;conv=>whnf))
   refine idx_str (x := x) (by omega) (by rw [Int.toNat_natCast]; exact hx) fun c hc => ?_
   rw [hc]; (conv=>whnf); (repeat (refine step_go [] ?_;conv=>whnf))
   refine two (fun g1 => ?_) (fun g1 => ?_)
   · have g1 : x = 45 := by simpa using g1
     subst g1
     (conv=>whnf); (repeat (refine step_go [] ?_;conv=>whnf))
     refine two (fun g2 => ?_) (fun g2 => ?_)
     · have g2 : i = 0 := by have := beq_iff_eq.1 g2; omega
       (conv=>whnf); (repeat (refine step_go [] ?_;conv=>whnf))
       refine ⟨S (i + 1, v, d, p), weak_of ?_ .nil rfl rfl rfl, ih (i + 1, v, d, p) ⟨by simp only; omega, ?_, ⟨hb.1, hb.2.1, hb.2.2.1, hb.2.2.2.1, hb.2.2.2.2⟩⟩ (by simp only; omega)⟩
       · repeat' first
          | exact VWs.nil
          | refine VWs.cons VW.undef ?_
          | refine VWs.cons (VW.eq rfl) ?_
          | refine VWs.cons (VW.eq (congrArg (V.int .i64) (by rw [wrap64 (by omega) (by omega)]; omega))) ?_
          | refine VWs.cons (VW.eq (congrArg (V.int .i64) e)) ?_
       · simp only; rw [← hsc, hdrop, scan, if_pos ⟨rfl, g2⟩]
     · have g2 : i ≠ 0 := by intro e; rw [e] at g2; simp at g2
       (conv=>whnf); (repeat (refine step_go [] ?_;conv=>whnf))
       refine idx_str (x := 45) (by omega) (by rw [Int.toNat_natCast]; exact hx) fun c hc => ?_
       rw [hc]; (conv=>whnf); (repeat (refine step_go [] ?_;conv=>whnf))
       refine idx_str (x := 45) (by omega) (by rw [Int.toNat_natCast]; exact hx) fun c hc => ?_
       rw [hc]; (conv=>whnf); (repeat (refine step_go [] ?_;conv=>whnf))
       refine idx_str (x := 45) (by omega) (by rw [Int.toNat_natCast]; exact hx) fun c hc => ?_
       rw [hc]; (conv=>whnf); (repeat (refine step_go [] ?_;conv=>whnf))
       refine c_digit 45 _ ?_; (conv=>whnf); (repeat (refine step_go [] ?_;conv=>whnf))
       refine ⟨_, Weak.refl, ?_⟩; (conv=>whnf); (repeat (refine step_go [] ?_;conv=>whnf))
       exact hfail (by rw [← hsc, hdrop, scan, if_neg (fun e => g2 e.2), if_neg (fun e => by omega), if_neg (fun e => by omega), if_neg (fun e => by have := e.1; unfold Dig at this; omega)])
   · have g1 : x ≠ 45 := by simpa using g1
     (conv=>whnf); (repeat (refine step_go [] ?_;conv=>whnf))
     refine idx_str (x := x) (by omega) (by rw [Int.toNat_natCast]; exact hx) fun c hc => ?_
     rw [hc]; (conv=>whnf); (repeat (refine step_go [] ?_;conv=>whnf))
     refine two (fun g2 => ?_) (fun g2 => ?_)
     · have g2 : x = 37 := by simpa using g2
       subst g2
       (conv=>whnf); (repeat (refine step_go [] ?_;conv=>whnf))
       have hw : IntKind.i64.wrap ((s.size : Int) - 1) = (s.size : Int) - 1 := wrap64 (by omega) (by omega)
       rw [hw]
       refine two (fun g3 => ?_) (fun g3 => ?_)
       · have g3 : i + 1 = (sB s).length := by have := beq_iff_eq.1 g3; omega
         (conv=>whnf); (repeat (refine step_go [] ?_;conv=>whnf))
         refine ⟨S (i + 1, v, d, p), weak_of ?_ .nil rfl rfl rfl, ih (i + 1, v, d, p) ⟨by simp only; omega, ?_, ⟨hb.1, hb.2.1, hb.2.2.1, hb.2.2.2.1, hb.2.2.2.2⟩⟩ (by simp only; omega)⟩
         · repeat' first
            | exact VWs.nil
            | refine VWs.cons VW.undef ?_
            | refine VWs.cons (VW.eq rfl) ?_
            | refine VWs.cons (VW.eq (congrArg (V.int .i64) (by rw [wrap64 (by omega) (by omega)]; omega))) ?_
            | refine VWs.cons (VW.eq (congrArg (V.int .i64) e)) ?_
         · simp only; rw [← hsc, hdrop, scan, if_neg (fun e => by omega), if_pos ⟨rfl, g3⟩]
       · have g3 : ¬ i + 1 = (sB s).length := by intro e; rw [show (i : Int) = (s.size : Int) - 1 by omega] at g3; simp at g3
         (conv=>whnf); (repeat (refine step_go [] ?_;conv=>whnf))
         refine idx_str (x := 37) (by omega) (by rw [Int.toNat_natCast]; exact hx) fun c hc => ?_
         rw [hc]; (conv=>whnf); (repeat (refine step_go [] ?_;conv=>whnf))
         refine idx_str (x := 37) (by omega) (by rw [Int.toNat_natCast]; exact hx) fun c hc => ?_
         rw [hc]; (conv=>whnf); (repeat (refine step_go [] ?_;conv=>whnf))
         refine c_digit 37 _ ?_; (conv=>whnf); (repeat (refine step_go [] ?_;conv=>whnf))
         refine ⟨_, Weak.refl, ?_⟩; (conv=>whnf); (repeat (refine step_go [] ?_;conv=>whnf))
         exact hfail (by rw [← hsc, hdrop, scan, if_neg (fun e => by omega), if_neg (fun e => g3 e.2), if_neg (fun e => by omega), if_neg (fun e => by have := e.1; unfold Dig at this; omega)])
     · have g2 : x ≠ 37 := by simpa using g2
       (conv=>whnf); (repeat (refine step_go [] ?_;conv=>whnf))
       refine idx_str (x := x) (by omega) (by rw [Int.toNat_natCast]; exact hx) fun c hc => ?_
       rw [hc]; (conv=>whnf); (repeat (refine step_go [] ?_;conv=>whnf))
       refine two (fun g3 => ?_) (fun g3 => ?_)
       · have g3 : x = 46 := by simpa using g3
         subst g3
         (conv=>whnf); (repeat (refine step_go [] ?_;conv=>whnf))
         refine two (fun g4 => ?_) (fun g4 => ?_)
         · have g4 := of_decide_eq_true g4
           (conv=>whnf); (repeat (refine step_go [] ?_;conv=>whnf))
           refine ⟨S (i + 1, v, d, (d : Int)), weak_of ?_ .nil rfl rfl rfl, ih (i + 1, v, d, (d : Int)) ⟨by simp only; omega, ?_, ⟨hb.1, hb.2.1, hb.2.2.1, by simp only; omega, by simp only; omega⟩⟩ (by simp only; omega)⟩
           · repeat' first
              | exact VWs.nil
              | refine VWs.cons VW.undef ?_
              | refine VWs.cons (VW.eq rfl) ?_
              | refine VWs.cons (VW.eq (congrArg (V.int .i64) (by rw [wrap64 (by omega) (by omega)]; omega))) ?_
              | refine VWs.cons (VW.eq (congrArg (V.int .i64) e)) ?_
           · simp only; rw [← hsc, hdrop, scan, if_neg (fun e => by omega), if_neg (fun e => by omega), if_pos ⟨rfl, g4⟩]
         · have g4 := of_decide_eq_false g4
           (conv=>whnf); (repeat (refine step_go [] ?_;conv=>whnf))
           refine idx_str (x := 46) (by omega) (by rw [Int.toNat_natCast]; exact hx) fun c hc => ?_
           rw [hc]; (conv=>whnf); (repeat (refine step_go [] ?_;conv=>whnf))
           refine c_digit 46 _ ?_; (conv=>whnf); (repeat (refine step_go [] ?_;conv=>whnf))
           refine ⟨_, Weak.refl, ?_⟩; (conv=>whnf); (repeat (refine step_go [] ?_;conv=>whnf))
           exact hfail (by rw [← hsc, hdrop, scan, if_neg (fun e => by omega), if_neg (fun e => by omega), if_neg (fun e => g4 e.2), if_neg (fun e => by have := e.1; unfold Dig at this; omega)])
       · have g3 : x ≠ 46 := by simpa using g3
         (conv=>whnf); (repeat (refine step_go [] ?_;conv=>whnf))
         refine idx_str (x := x) (by omega) (by rw [Int.toNat_natCast]; exact hx) fun c hc => ?_
         rw [hc]; (conv=>whnf); (repeat (refine step_go [] ?_;conv=>whnf))
         refine c_digit x _ ?_; (conv=>whnf); (repeat (refine step_go [] ?_;conv=>whnf))
         refine two (fun g4 => ?_) (fun g4 => ?_)
         · have g4 := of_decide_eq_true g4
           (conv=>whnf); (repeat (refine step_go [] ?_;conv=>whnf))
           refine two (fun g5 => ?_) (fun g5 => ?_)
           · have g5 := of_decide_eq_true g5
             (conv=>whnf); (repeat (refine step_go [] ?_;conv=>whnf))
             refine idx_str (x := x) (by omega) (by rw [Int.toNat_natCast]; exact hx) fun c hc => ?_
             rw [hc]; (conv=>whnf); (repeat (refine step_go [] ?_;conv=>whnf))
             have g4' := g4
             unfold Dig at g4'
             have hp11 := pow10_12 (d := d + 1) (by omega)
             have hpw : (10 : Int) ^ (d + 1) = 10 ^ d * 10 := Int.pow_succ ..
             have e : IntKind.i64.wrap (IntKind.i64.wrap (10 * v) + IntKind.i64.wrap (IntKind.u8.wrap (x - 48))) = 10 * v + (x - 48) := by
              rw [wrapu8' (by omega) (by omega), wrap64 (x := 10 * v) (by omega) (by omega), wrap64 (x := x - 48) (by omega) (by omega), wrap64 (by omega) (by omega)]
             refine ⟨S (i + 1, 10 * v + (x - 48), d + 1, p), weak_of ?_ .nil rfl rfl rfl, ih (i + 1, 10 * v + (x - 48), d + 1, p) ⟨by simp only; omega, ?_, ⟨by simp only; omega, by simp only; omega, by simp only; omega, by simp only; omega, hb.2.2.2.2⟩⟩ (by simp only; omega)⟩
             · repeat' first
                | exact VWs.nil
                | refine VWs.cons VW.undef ?_
                | refine VWs.cons (VW.eq rfl) ?_
                | refine VWs.cons (VW.eq (congrArg (V.int .i64) (by rw [wrap64 (by omega) (by omega)]; omega))) ?_
                | refine VWs.cons (VW.eq (congrArg (V.int .i64) e)) ?_
             · simp only; rw [← hsc, hdrop, scan, if_neg (fun e => g1 e.1), if_neg (fun e => g2 e.1), if_neg (fun e => g3 e.1), if_pos ⟨g4, by omega⟩]
           · have g5 := of_decide_eq_false g5
             (conv=>whnf); (repeat (refine step_go [] ?_;conv=>whnf))
             refine ⟨_, Weak.refl, ?_⟩; (conv=>whnf); (repeat (refine step_go [] ?_;conv=>whnf))
             exact hfail (by rw [← hsc, hdrop, scan, if_neg (fun e => g1 e.1), if_neg (fun e => g2 e.1), if_neg (fun e => g3 e.1), if_neg (fun e => by omega)])
         · have g4 := of_decide_eq_false g4
           (conv=>whnf); (repeat (refine step_go [] ?_;conv=>whnf))
           refine ⟨_, Weak.refl, ?_⟩; (conv=>whnf); (repeat (refine step_go [] ?_;conv=>whnf))
           exact hfail (by rw [← hsc, hdrop, scan, if_neg (fun e => g1 e.1), if_neg (fun e => g2 e.1), if_neg (fun e => g3 e.1), if_neg (fun e => g4 e.1)])
 · have g : i = s.size := by have := of_decide_eq_false g; omega
   clear ih
   subst g
   rw [List.drop_of_length_le (by omega), scan] at hsc
   have key : ∀ (R G : Prop), ((Unit -> R) -> G) -> R -> G := fun R G h1 h2 => h1 fun _ => h2
   (conv=>whnf); (repeat (refine step_go [] ?_;conv=>whnf))
   refine ⟨_, Weak.refl, ?_⟩; (conv=>whnf); (repeat (refine step_go [] ?_;conv=>whnf))
   obtain ⟨q, hq⟩ : ∃ q, (if p < 0 then (d : Int) else p) = q := ⟨_, rfl⟩
   have hq2 : 0 <= q /\ q <= d := by
    rw [← hq]; split <;> omega
   obtain ⟨e0, he0⟩ : ∃ e0 : Nat, (d : Int) - q = e0 := ⟨((d : Int) - q).toNat, by omega⟩
   let Sm : St := ⟨(.str s :: .undef :: .int .i64 0 :: .int .i64 0 :: .int .i64 v :: .int .i64 d :: .int .i64 q :: .undef :: .undef :: .undef :: .undef :: .undef :: .undef :: .undef :: .undef :: .undef :: .undef :: .undef :: .undef :: .undef :: .undef :: .undef :: .undef :: .undef :: .undef :: .undef :: .undef :: .undef :: .undef :: .undef :: .undef :: .undef :: .undef :: .undef :: .undef :: .undef :: .undef :: .undef :: .undef :: .undef :: .undef :: .undef :: .undef :: .undef :: .undef :: .undef :: .undef :: .undef :: .undef :: .undef :: .undef :: .undef :: .undef :: .undef :: .undef :: .undef :: .undef :: .undef :: .undef :: .undef :: .undef :: .undef :: .undef :: .undef :: .undef :: .undef :: .undef :: .undef :: .undef :: .undef :: .undef :: .undef :: .undef :: .undef :: .undef :: .undef :: .undef :: .undef :: .undef :: .undef :: .undef :: .undef :: .undef :: .undef :: .undef :: .undef :: .undef :: .undef :: .undef :: .undef :: .undef :: .undef :: .undef :: .undef :: .undef :: .undef :: .undef :: .undef :: .undef :: .undef :: .undef :: .undef :: .undef :: .undef :: .undef :: .undef :: []), [], 0, []⟩
   refine key ?GoR _ ?GoH ?GoT
   case GoH =>
    intro rest
    refine two (fun g => ?_) (fun g => ?_)
    · have g := of_decide_eq_true g
      conv=>whnf
      have e : (d : Int) = q := by rw [← hq, if_pos g]
      refine VStep.weak (s' := Sm) (weak_of ?_ .nil rfl rfl rfl) ?_
      · repeat' first
         | exact VWs.nil
         | refine VWs.cons VW.undef ?_
         | refine VWs.cons (VW.eq rfl) ?_
         | refine VWs.cons (VW.eq (congrArg (V.int .i64) e)) ?_
      exact rest ()
    · have g := of_decide_eq_false g
      conv=>whnf
      have e : p = q := by rw [← hq, if_neg g]
      refine VStep.weak (s' := Sm) (weak_of ?_ .nil rfl rfl rfl) ?_
      · repeat' first
         | exact VWs.nil
         | refine VWs.cons VW.undef ?_
         | refine VWs.cons (VW.eq rfl) ?_
         | refine VWs.cons (VW.eq (congrArg (V.int .i64) e)) ?_
      exact rest ()
   case GoT =>
   (conv=>whnf); (repeat (refine step_go [] ?_;conv=>whnf))
   rw [show IntKind.i64.wrap ((d : Int) - q) = (e0 : Int) by rw [wrap64 (by omega) (by omega)]; exact he0]
   have hvI : I64 v := ⟨by omega, by omega⟩
   let S2 : Nat × Int -> St := fun ⟨j, w⟩ => ⟨(.str s :: .undef :: .int .i64 0 :: .int .i64 0 :: .int .i64 w :: .int .i64 d :: .int .i64 q :: .undef :: .int .i64 j :: .undef :: .undef :: .undef :: .undef :: .undef :: .undef :: .undef :: .undef :: .undef :: .undef :: .undef :: .undef :: .undef :: .undef :: .undef :: .undef :: .undef :: .undef :: .undef :: .undef :: .undef :: .undef :: .undef :: .undef :: .undef :: .undef :: .undef :: .undef :: .undef :: .undef :: .undef :: .undef :: .undef :: .undef :: .undef :: .undef :: .undef :: .undef :: .undef :: .undef :: .undef :: .undef :: .undef :: .undef :: .undef :: .undef :: .undef :: .undef :: .undef :: .undef :: .undef :: .undef :: .undef :: .undef :: .undef :: .undef :: .undef :: .undef :: .undef :: .undef :: .undef :: .undef :: .undef :: .undef :: .undef :: .undef :: .undef :: .undef :: .undef :: .undef :: .undef :: .undef :: .undef :: .undef :: .undef :: .undef :: .undef :: .undef :: .undef :: .undef :: .undef :: .undef :: .undef :: .undef :: .undef :: .undef :: .undef :: .undef :: .undef :: .undef :: .undef :: .undef :: .undef :: .undef :: .undef :: .undef :: .undef :: []), [], 0, []⟩
   refine VLoop.enter (s' := S2 (e0, v)) (weak_of ?_ .nil rfl rfl rfl)
    (VLoop.indW S2 (fun x => 20 - x.1) (fun x => x.1 <= 12 /\ mul10 (7 - x.1) x.2 = mul10 (7 - e0) v /\ (x.1 <= 7 \/ x.1 = e0)) ?_ (e0, v) ⟨by simp only; omega, rfl, .inr rfl⟩)
   · (repeat' first | exact VWs.nil | refine VWs.cons VW.undef ?_ | refine VWs.cons (VW.eq rfl) ?_)
   rintro ⟨j, w⟩ ⟨hj, hm, hj7⟩ ih
   simp only at hj hm hj7
   refine loop_round [] ?_; (conv=>whnf); (repeat (refine step_go [] ?_;conv=>whnf))
   refine two (fun g => ?_) (fun g => ?_)
   · have g : j < 7 := by have := of_decide_eq_true g; omega
     (conv=>whnf); (repeat (refine step_go [] ?_;conv=>whnf))
     refine ⟨S2 (j + 1, IntKind.i64.wrap (10 * w)), weak_of ?_ .nil rfl rfl rfl, ih (j + 1, IntKind.i64.wrap (10 * w)) ⟨by simp only; omega, ?_, .inl (by simp only; omega)⟩ (by simp only; omega)⟩
     · repeat' first
        | exact VWs.nil
        | refine VWs.cons VW.undef ?_
        | refine VWs.cons (VW.eq rfl) ?_
        | refine VWs.cons (VW.eq (congrArg (V.int .i64) (by rw [wrap64 (x := (j : Int) + 1) (by omega) (by omega)]; omega))) ?_
     · simp only
       rw [← hm, show 7 - j = (7 - (j + 1)) + 1 by omega, mul10]
   have g : 7 <= j := by have := of_decide_eq_false g; omega
   clear ih
   rw [show 7 - j = 0 by omega, mul10] at hm
   have hwI : I64 w := by rw [hm]; exact mul10_I64 _ _ hvI
   have good : ∀ c, takeR (sB s) = (c, 0) -> e0 <= 7 /\ w = c.natAbs /\ ((sB s).head? = some 45 ↔ c < 0) := fun c hc => by
    obtain ⟨h1, h2⟩ := hrate c hc
    obtain ⟨v', d', p', e', q1, q2, q3, q4, q5, q6⟩ := scan_rate h2
    rw [h1, ← hsc] at q1
    simp only [Option.some.injEq, Prod.mk.injEq] at q1
    obtain ⟨r1, r2, r3⟩ := q1
    subst r2; subst r3
    rw [hq] at q2
    have hee : e' = e0 := by omega
    subst hee
    refine ⟨q3, ?_, ?_⟩
    · rw [hm, r1, mul10_eq _ _ (by rw [q4]; omega), q4]
    · rw [← h1]
      unfold rateS
      by_cases hc0 : c < 0
      · unfold sgn; rw [if_pos hc0]; simp [hc0]
      · unfold sgn
        rw [if_neg hc0]
        obtain ⟨y, r, hy, hyd⟩ := dg_cons (c.natAbs / 10000000)
        rw [hy]
        unfold Dig at hyd
        simp [hc0]; omega
   (conv=>whnf); (repeat (refine step_go [] ?_;conv=>whnf))
   refine ⟨_, Weak.refl, ?_⟩; (conv=>whnf); (repeat (refine step_go [] ?_;conv=>whnf))
   have fail4 : (∀ c, takeR (sB s) = (c, 0) -> False) -> K (.ret (.tup [.int .i64 0, .int .i64 4])) [] := fun hn => by
    rcases takeR_two (sB s) with ⟨c, hc⟩ | hc
    · exact (hn c hc).elim
    · rw [hc] at h; exact h
   obtain ⟨V, hV⟩ : ∃ V, (if (sB s).head? = some 45 then IntKind.i64.wrap (0 - w) else w) = V := ⟨_, rfl⟩
   have hwr : ∀ y : Int, I64 (IntKind.i64.wrap y) := fun y => by
    have : IntKind.i64.wrap y = (y + 9223372036854775808) % 18446744073709551616 - 9223372036854775808 := IntKind.wrap_i64 _
    unfold I64; omega
   have hVI : I64 V := by
    rw [← hV]; split
    · exact hwr _
    · exact hwI
   have good2 : ∀ c, takeR (sB s) = (c, 0) -> e0 <= 7 /\ V = c /\ rateS c = sB s /\ -10000000000 <= c /\ c <= 10000000000 := fun c hc => by
    obtain ⟨h1, h2, h3⟩ := good c hc
    obtain ⟨h4, h5⟩ := hrate c hc
    refine ⟨h1, ?_, h4, h5⟩
    rw [← hV]
    by_cases hc0 : c < 0
    · rw [if_pos (h3.2 hc0), wrap64 (by omega) (by omega)]; omega
    · rw [if_neg (fun e => hc0 (h3.1 e))]; omega
   let Sn : St := ⟨(.str s :: .undef :: .int .i64 0 :: .int .i64 0 :: .int .i64 V :: .int .i64 d :: .int .i64 q :: .undef :: .undef :: .undef :: .undef :: .undef :: .undef :: .undef :: .undef :: .undef :: .undef :: .undef :: .undef :: .undef :: .undef :: .undef :: .undef :: .undef :: .undef :: .undef :: .undef :: .undef :: .undef :: .undef :: .undef :: .undef :: .undef :: .undef :: .undef :: .undef :: .undef :: .undef :: .undef :: .undef :: .undef :: .undef :: .undef :: .undef :: .undef :: .undef :: .undef :: .undef :: .undef :: .undef :: .undef :: .undef :: .undef :: .undef :: .undef :: .undef :: .undef :: .undef :: .undef :: .undef :: .undef :: .undef :: .undef :: .undef :: .undef :: .undef :: .undef :: .undef :: .undef :: .undef :: .undef :: .undef :: .undef :: .undef :: .undef :: .undef :: .undef :: .undef :: .undef :: .undef :: .undef :: .undef :: .undef :: .undef :: .undef :: .undef :: .undef :: .undef :: .undef :: .undef :: .undef :: .undef :: .undef :: .undef :: .undef :: .undef :: .undef :: .undef :: .undef :: .undef :: .undef :: .undef :: .undef :: .undef :: .undef :: .undef :: []), [], 0, []⟩
   refine key ?GoR2 _ ?GoH2 ?GoT2
   case GoH2 =>
    intro rest
    refine two (fun g => ?_) (fun g => ?_)
    · have g : 0 < s.size := by have := of_decide_eq_true g; omega
      obtain ⟨x, r, hx⟩ : ∃ x r, sB s = x :: r := by
       cases hc : sB s with
       | nil => rw [hc] at hl; simp at hl; omega
       | cons x r => exact ⟨x, r, rfl⟩
      conv=>whnf
      refine idx_str (x := x) (by omega) (by rw [hx]; rfl) fun c hc => ?_
      rw [hc]; (conv=>whnf); (repeat (refine step_go [] ?_;conv=>whnf))
      refine two (fun g2 => ?_) (fun g2 => ?_)
      · have g2 : x = 45 := by simpa using g2
        conv=>whnf
        have e : IntKind.i64.wrap (0 - w) = V := by rw [← hV, if_pos (by rw [hx, g2]; rfl)]
        rw [e]
        refine VStep.weak (s' := Sn) (weak_of ?_ .nil rfl rfl rfl) ?_
        · (repeat' first | exact VWs.nil | refine VWs.cons VW.undef ?_ | refine VWs.cons (VW.eq rfl) ?_)
        exact rest ()
      · have g2 : x ≠ 45 := by simpa using g2
        conv=>whnf
        have e : w = V := by rw [← hV, if_neg (by rw [hx]; simpa using g2)]
        rw [e]
        refine VStep.weak (s' := Sn) (weak_of ?_ .nil rfl rfl rfl) ?_
        · (repeat' first | exact VWs.nil | refine VWs.cons VW.undef ?_ | refine VWs.cons (VW.eq rfl) ?_)
        exact rest ()
    · have g : s.size = 0 := by have := of_decide_eq_false g; omega
      conv=>whnf
      refine step_go [] ?_; conv=>whnf
      have e : w = V := by rw [← hV, if_neg (by rw [List.length_eq_zero_iff.1 (show (sB s).length = 0 by omega)]; simp)]
      rw [e]
      refine VStep.weak (s' := Sn) (weak_of ?_ .nil rfl rfl rfl) ?_
      · (repeat' first | exact VWs.nil | refine VWs.cons VW.undef ?_ | refine VWs.cons (VW.eq rfl) ?_)
      exact rest ()
   case GoT2 =>
   (conv=>whnf); (repeat (refine step_go [] ?_;conv=>whnf))
   rw [show IntKind.i64.wrap ((d : Int) - q) = (e0 : Int) by rw [wrap64 (by omega) (by omega)]; exact he0]
   refine two (fun g1 => ?_) (fun g1 => ?_)
   · have g1 := of_decide_eq_true g1
     (conv=>whnf); (repeat (refine step_go [] ?_;conv=>whnf))
     exact fail4 fun c hc => by have := (good2 c hc).1; omega
   have g1 := of_decide_eq_false g1
   (conv=>whnf); (repeat (refine step_go [] ?_;conv=>whnf))
   refine two (fun g2 => ?_) (fun g2 => ?_)
   · have g2 := of_decide_eq_true g2
     (conv=>whnf); (repeat (refine step_go [] ?_;conv=>whnf))
     exact fail4 fun c hc => by have := good2 c hc; omega
   have g2 := of_decide_eq_false g2
   (conv=>whnf); (repeat (refine step_go [] ?_;conv=>whnf))
   refine two (fun g3 => ?_) (fun g3 => ?_)
   · have g3 := of_decide_eq_true g3
     (conv=>whnf); (repeat (refine step_go [] ?_;conv=>whnf))
     exact fail4 fun c hc => by have := good2 c hc; omega
   have g3 := of_decide_eq_false g3
   (conv=>whnf); (repeat (refine step_go [] ?_;conv=>whnf))
   refine c_rrate V hVI _ ?_; (conv=>whnf); (repeat (refine step_go [] ?_;conv=>whnf))
   rw [str_beq, sB_toBA (B14.rateS_byte V)]
   refine two (fun g4 => ?_) (fun g4 => ?_)
   · have g4 : rateS V ≠ sB s := by simpa using g4
     (conv=>whnf); (repeat (refine step_go [] ?_;conv=>whnf))
     exact fail4 fun c hc => by
      obtain ⟨_, h2, h3, _⟩ := good2 c hc
      rw [h2] at g4; exact g4 h3
   · have g4 : rateS V = sB s := by simpa using g4
     (conv=>whnf); (repeat (refine step_go [] ?_;conv=>whnf))
     have ht := take_rate hVI
     rw [g4, if_pos (by omega)] at ht
     rw [ht] at h
     exact h
end B22

namespace BB1
open Go Go.Proofs VL
end BB1

namespace BB2
open Go Go.Proofs VL BB1
end BB2

namespace BB3
open Go Go.Proofs VL BB1 BB2
end BB3

namespace BB4
open Go Go.Proofs VL
def lng (y : Nat) : Bool := y % 4 == 0 && (y % 100 != 0 || y % 400 == 0)
def mlen (y m : Nat) : Nat := if m = 4 \/ m = 6 \/ m = 9 \/ m = 11 then 30 else if m = 2 then (if lng y then 29 else 28) else 31
theorem tm (y k : Nat) : Int.tmod (y : Int) (k : Int) = ((y % k : Nat) : Int) := by
 rw [Int.tmod_eq_emod_of_nonneg (by omega)]; exact (Int.natCast_emod y k).symm
theorem be (n : Nat) : ((n : Int) == 0) = (n == 0) := by rw [Bool.eq_iff_iff]; simp
theorem bn (n : Nat) : ((n : Int) != 0) = (n != 0) := by simp only [bne, be]
theorem m4 (y : Nat) : Int.tmod (y : Int) 4 = ((y % 4 : Nat) : Int) := tm y 4
theorem m100 (y : Nat) : Int.tmod (y : Int) 100 = ((y % 100 : Nat) : Int) := tm y 100
theorem m400 (y : Nat) : Int.tmod (y : Int) 400 = ((y % 400 : Nat) : Int) := tm y 400
theorem c_clong (y : Nat) (K) (h : K (.ret (.bool (lng y))) []) : VCall Tryz.prog 165 [.int .i64 (y : Int)] [] K := by
 refine call_fun [] 0 Tryz.func165 (by rfl) (by rfl) ?_; (conv=>whnf); (repeat (refine step_go [] ?_;conv=>whnf))
 refine ⟨(by decide : (4 : Int) ≠ 0), ?_⟩; (conv=>whnf); (repeat (refine step_go [] ?_;conv=>whnf))
 refine two (fun g => ?_) (fun g => ?_) <;> rw [m4, be] at g
 · (conv=>whnf); (repeat (refine step_go [] ?_;conv=>whnf))
   refine ⟨(by decide : (100 : Int) ≠ 0), ?_⟩; (conv=>whnf); (repeat (refine step_go [] ?_;conv=>whnf))
   refine two (fun g2 => ?_) (fun g2 => ?_) <;> rw [m100, bn] at g2
   · (conv=>whnf); (repeat (refine step_go [] ?_;conv=>whnf))
     have e : lng y = true := by simp [lng, g, g2]
     exact e ▸ h
   · (conv=>whnf); (repeat (refine step_go [] ?_;conv=>whnf))
     refine ⟨(by decide : (400 : Int) ≠ 0), ?_⟩; (conv=>whnf); (repeat (refine step_go [] ?_;conv=>whnf))
     have e : lng y = (Int.tmod (y : Int) 400 == 0) := by rw [m400, be]; simp [lng, g, g2]
     rw [e] at h; exact h
 · (conv=>whnf); (repeat (refine step_go [] ?_;conv=>whnf))
   have e : lng y = false := by simp [lng, g]
   exact e ▸ h
theorem c_rlong (y : Nat) (K) (h : K (.ret (.bool (lng y))) []) : VCall Tryz.prog 120 [.int .i64 (y : Int)] [] K := by
 refine call_fun [] 0 Tryz.func120 (by rfl) (by rfl) ?_; (conv=>whnf); (repeat (refine step_go [] ?_;conv=>whnf))
 refine ⟨(by decide : (400 : Int) ≠ 0), ?_⟩; (conv=>whnf); (repeat (refine step_go [] ?_;conv=>whnf))
 refine two (fun g => ?_) (fun g => ?_) <;> rw [m400, be] at g
 · (conv=>whnf); (repeat (refine step_go [] ?_;conv=>whnf))
   have g' : y % 400 = 0 := by simpa using g
   have e : lng y = true := by simp [lng, g']; omega
   exact e ▸ h
 · (conv=>whnf); (repeat (refine step_go [] ?_;conv=>whnf))
   refine ⟨(by decide : (4 : Int) ≠ 0), ?_⟩; (conv=>whnf); (repeat (refine step_go [] ?_;conv=>whnf))
   refine two (fun g2 => ?_) (fun g2 => ?_) <;> rw [m4, be] at g2
   · (conv=>whnf); (repeat (refine step_go [] ?_;conv=>whnf))
     refine ⟨(by decide : (100 : Int) ≠ 0), ?_⟩; (conv=>whnf); (repeat (refine step_go [] ?_;conv=>whnf))
     have e : lng y = (Int.tmod (y : Int) 100 != 0) := by rw [m100, bn]; simp [lng, g, g2]
     rw [e] at h; exact h
   · (conv=>whnf); (repeat (refine step_go [] ?_;conv=>whnf))
     have e : lng y = false := by simp [lng, g2]
     exact e ▸ h
def opens (y : Nat) : Int := 365 * ((y : Int) - 1) + (((y - 1) / 4 : Nat) : Int) - (((y - 1) / 100 : Nat) : Int) + (((y - 1) / 400 : Nat) : Int) - 719162
theorem td (p k : Nat) : Int.tdiv (p : Int) (k : Int) = ((p / k : Nat) : Int) := by
 rw [Int.tdiv_eq_ediv_of_nonneg (by omega)]; exact (Int.natCast_ediv p k).symm
theorem d4 (p : Nat) (h : p <= 3000) : IntKind.i64.wrap (Int.tdiv (p : Int) 4) = ((p / 4 : Nat) : Int) := by rw [show Int.tdiv (p : Int) 4 = ((p / 4 : Nat) : Int) from td p 4, wrap64 (by omega) (by omega)]
theorem d100 (p : Nat) (h : p <= 3000) : IntKind.i64.wrap (Int.tdiv (p : Int) 100) = ((p / 100 : Nat) : Int) := by rw [show Int.tdiv (p : Int) 100 = ((p / 100 : Nat) : Int) from td p 100, wrap64 (by omega) (by omega)]
theorem d400 (p : Nat) (h : p <= 3000) : IntKind.i64.wrap (Int.tdiv (p : Int) 400) = ((p / 400 : Nat) : Int) := by rw [show Int.tdiv (p : Int) 400 = ((p / 400 : Nat) : Int) from td p 400, wrap64 (by omega) (by omega)]
theorem c_opens (y : Nat) (h0 : 1 <= y) (h1 : y <= 3000) (K) (h : K (.ret (.int .i64 (opens y))) []) : VCall Tryz.prog 158 [.int .i64 (y : Int)] [] K := by
 refine call_fun [] 0 Tryz.func158 (by rfl) (by rfl) ?_; (conv=>whnf); (repeat (refine step_go [] ?_;conv=>whnf))
 have e1 : IntKind.i64.wrap ((y : Int) - 1) = ((y - 1 : Nat) : Int) := by rw [wrap64 (by omega) (by omega)]; omega
 rw [e1]
 obtain ⟨p, hp⟩ : ∃ p, y - 1 = p := ⟨_, rfl⟩
 rw [hp]
 have hp1 : p <= 3000 := by omega
 refine ⟨(by decide : (4 : Int) ≠ 0), ?_⟩; (conv=>whnf); (repeat (refine step_go [] ?_;conv=>whnf))
 refine ⟨(by decide : (100 : Int) ≠ 0), ?_⟩; (conv=>whnf); (repeat (refine step_go [] ?_;conv=>whnf))
 refine ⟨(by decide : (400 : Int) ≠ 0), ?_⟩; (conv=>whnf); (repeat (refine step_go [] ?_;conv=>whnf))
 have b4 : p / 4 <= 3000 := by omega
 have b100 : p / 100 <= 3000 := by omega
 have b400 : p / 400 <= 3000 := by omega
 have hy : (y : Int) - 1 = (p : Int) := by omega
 rw [opens, hp, hy] at h
 rw [d4 p hp1, d100 p hp1, d400 p hp1]
 generalize p / 4 = q4 at *
 generalize p / 100 = q100 at *
 generalize p / 400 = q400 at *
 rw [wrap64 (x := 365 * (p : Int)) (by omega) (by omega), wrap64 (x := 365 * (p : Int) + (q4 : Int)) (by omega) (by omega), wrap64 (x := 365 * (p : Int) + (q4 : Int) - (q100 : Int)) (by omega) (by omega),
  wrap64 (x := 365 * (p : Int) + (q4 : Int) - (q100 : Int) + (q400 : Int)) (by omega) (by omega), wrap64 (by omega) (by omega)]
 exact h
theorem c_month (y m : Nat) (h1 : 1 <= m) (h2 : m <= 12) (K) (h : K (.ret (.int .i64 (mlen y m : Nat))) []) : VCall Tryz.prog 157 [.int .i64 (y : Int), .int .i64 (m : Int)] [] K := by
 obtain rfl | hm : m = 2 \/ m ≠ 2 := by omega
 · refine call_fun [] 0 Tryz.func157 (by rfl) (by rfl) ?_; (conv=>whnf); (repeat (refine step_go [] ?_;conv=>whnf))
   refine c_clong y _ ?_; (conv=>whnf); (repeat (refine step_go [] ?_;conv=>whnf))
   refine two (fun g => ?_) (fun g => ?_)
   · (conv=>whnf); (repeat (refine step_go [] ?_;conv=>whnf))
     rw [show mlen y 2 = 29 by simp [mlen, g]] at h
     exact h
   · (conv=>whnf); (repeat (refine step_go [] ?_;conv=>whnf))
     rw [show mlen y 2 = 28 by simp [mlen, g]] at h
     exact h
 · have hm : m = 1 \/ m = 3 \/ m = 4 \/ m = 5 \/ m = 6 \/ m = 7 \/ m = 8 \/ m = 9 \/ m = 10 \/ m = 11 \/ m = 12 := by omega
   rcases hm with rfl | rfl | rfl | rfl | rfl | rfl | rfl | rfl | rfl | rfl | rfl
   all_goals
    refine call_fun [] 0 Tryz.func157 (by rfl) (by rfl) ?_; (conv=>whnf); (repeat (refine step_go [] ?_;conv=>whnf))
    exact h
theorem c_rmonth (y m : Nat) (h1 : 1 <= m) (h2 : m <= 12) (K) (h : K (.ret (.int .i64 (mlen y m : Nat))) []) : VCall Tryz.prog 96 [.int .i64 (y : Int), .int .i64 (m : Int)] [] K := by
 obtain rfl | hm : m = 2 \/ m ≠ 2 := by omega
 · refine call_fun [] 0 Tryz.func96 (by rfl) (by rfl) ?_; (conv=>whnf); (repeat (refine step_go [] ?_;conv=>whnf))
   (repeat (refine step_go [] ?_;conv=>whnf))
   refine ⟨by decide, by decide, ?_⟩; (conv=>whnf); (repeat (refine step_go [] ?_;conv=>whnf))
   refine c_rlong y _ ?_; (conv=>whnf); (repeat (refine step_go [] ?_;conv=>whnf))
   refine two (fun g => ?_) (fun g => ?_)
   · (conv=>whnf); (repeat (refine step_go [] ?_;conv=>whnf))
     rw [show mlen y 2 = 29 by simp [mlen, g]] at h
     exact h
   · (conv=>whnf); (repeat (refine step_go [] ?_;conv=>whnf))
     rw [show mlen y 2 = 28 by simp [mlen, g]] at h
     exact h
 · have hm : m = 1 \/ m = 3 \/ m = 4 \/ m = 5 \/ m = 6 \/ m = 7 \/ m = 8 \/ m = 9 \/ m = 10 \/ m = 11 \/ m = 12 := by omega
   rcases hm with rfl | rfl | rfl | rfl | rfl | rfl | rfl | rfl | rfl | rfl | rfl
   all_goals
    refine call_fun [] 0 Tryz.func96 (by rfl) (by rfl) ?_; (conv=>whnf); (repeat (refine step_go [] ?_;conv=>whnf))
    (repeat (refine step_go [] ?_;conv=>whnf))
    refine ⟨by decide, by decide, ?_⟩; (conv=>whnf); (repeat (refine step_go [] ?_;conv=>whnf))
    exact h
def lc (y : Nat) : Int := (((y - 1) / 4 : Nat) : Int) - (((y - 1) / 100 : Nat) : Int) + (((y - 1) / 400 : Nat) : Int)
theorem lc_step {y : Nat} (h0 : 1 <= y) (h : y % 4 = 0) : lc (y + 4) = lc y + (if lng y then 1 else 0) := by
 unfold lc lng
 by_cases h1 : y % 100 = 0 <;> by_cases h2 : y % 400 = 0 <;> simp [h, h1, h2] <;> omega
theorem lc_end {y z : Nat} (h0 : 1 <= y) (h : z % 4 = 0) (h1 : y <= z) (h2 : z < y + 4) : lc z = lc y := by
 unfold lc; omega
theorem c_before (y : Nat) (h0 : 1900 <= y) (h1 : y <= 2300) (K) (h : K (.ret (.int .i64 (opens y + 25567))) []) : VCall Tryz.prog 95 [.int .i64 (y : Int)] [] K := by
 refine call_fun [] 0 Tryz.func95 (by rfl) (by rfl) ?_; (conv=>whnf); (repeat (refine step_go [] ?_;conv=>whnf))
 let S : Nat -> St := fun z => ⟨(.int .i64 (y : Int) :: .undef :: .undef :: .int .i64 (365 * ((y : Int) - 1900) + (lc z - 460)) :: .int .i64 (z : Int) :: .undef :: .undef :: .undef :: .undef :: .undef :: .undef :: .undef :: .undef :: .undef :: .undef :: .undef :: .undef :: .undef :: []), [], 0, []⟩
 refine VLoop.enter (s' := S 1900) (weak_of ?_ .nil rfl rfl rfl) (VLoop.indW S (fun z => y + 4 - z) (fun z => 1900 <= z /\ z % 4 = 0 /\ z < y + 4) ?_ 1900 ⟨by omega, by omega, by omega⟩)
 · repeat' first
    | exact VWs.nil
    | refine VWs.cons VW.undef ?_
    | refine VWs.cons (VW.eq rfl) ?_
    | refine VWs.cons (VW.eq (congrArg (V.int .i64) (by rw [wrap64 (x := (y : Int) - 1900) (by omega) (by omega), wrap64 (by omega) (by omega)]; show _ = _ + (lc 1900 - 460); rw [show lc 1900 = 460 by decide]; omega))) ?_
 rintro z ⟨hz, hz4, hzy⟩ ih
 have hlc : lc z <= 10000 /\ 0 <= lc z := by unfold lc; omega
 refine loop_round [] ?_; (conv=>whnf); (repeat (refine step_go [] ?_;conv=>whnf))
 refine two (fun g => ?_) (fun g => ?_)
 · have g' : z < y := by have := of_decide_eq_true g; omega
   (conv=>whnf); (repeat (refine step_go [] ?_;conv=>whnf))
   refine c_rlong z _ ?_; (conv=>whnf); (repeat (refine step_go [] ?_;conv=>whnf))
   have hst := lc_step (y := z) (by omega) hz4
   refine two (fun g2 => ?_) (fun g2 => ?_)
   · (conv=>whnf); (repeat (refine step_go [] ?_;conv=>whnf))
     rw [g2, if_pos rfl] at hst
     refine ⟨S (z + 4), weak_of ?_ .nil rfl rfl rfl, ih (z + 4) ⟨by omega, by omega, by omega⟩ (by omega)⟩
     repeat' first
      | exact VWs.nil
      | refine VWs.cons VW.undef ?_
      | refine VWs.cons (VW.eq rfl) ?_
      | refine VWs.cons (VW.eq (congrArg (V.int .i64) (by rw [wrap64 (by omega) (by omega)]; first | omega | (rw [hst]; omega)))) ?_
   · (conv=>whnf); (repeat (refine step_go [] ?_;conv=>whnf))
     rw [g2] at hst
     simp at hst
     refine ⟨S (z + 4), weak_of ?_ .nil rfl rfl rfl, ih (z + 4) ⟨by omega, by omega, by omega⟩ (by omega)⟩
     repeat' first
      | exact VWs.nil
      | refine VWs.cons VW.undef ?_
      | refine VWs.cons (VW.eq rfl) ?_
      | refine VWs.cons (VW.eq (congrArg (V.int .i64) (by first | (rw [wrap64 (by omega) (by omega)]; omega) | (rw [hst]))) ) ?_
 · have g' : y <= z := by have := of_decide_eq_false g; omega
   refine ⟨_, Weak.refl, ?_⟩; (conv=>whnf); (repeat (refine step_go [] ?_;conv=>whnf))
   have e : opens y + 25567 = 365 * ((y : Int) - 1900) + (lc z - 460) := by
    rw [lc_end (y := y) (by omega) hz4 g' hzy]
    unfold opens lc; omega
   rw [e] at h
   exact h
end BB4

namespace BB5
open Go Go.Proofs VL BB4
def cum (y : Nat) : Nat -> Nat
 | 0 => 0
 | 1 => 0
 | m + 2 => cum y (m + 1) + mlen y (m + 1)
theorem cum_step {y m : Nat} (h : 1 <= m) : cum y (m + 1) = cum y m + mlen y m := by
 obtain ⟨k, rfl⟩ : ∃ k, m = k + 1 := ⟨m - 1, by omega⟩
 rfl
theorem cum_mono {y a b : Nat} (h1 : 1 <= a) (h : a <= b) : cum y a <= cum y b := by
 obtain ⟨k, rfl⟩ : ∃ k, b = a + k := ⟨b - a, by omega⟩
 clear h
 induction k with
 | zero => exact Nat.le_refl _
 | succ k ih => rw [← Nat.add_assoc, cum_step (by omega)]; omega
theorem mlen_le (y m : Nat) : mlen y m <= 31 := by
 unfold mlen; split
 · omega
 · split
   · split <;> omega
   · omega
theorem cum12 (y : Nat) : cum y 12 = 334 + (if lng y then 1 else 0) := by
 simp only [cum, mlen]
 cases lng y <;> simp
structure IsDate (n : Int) (y m d : Nat) : Prop where
 y0 : 1900 <= y
 y1 : y <= 2200
 m0 : 1 <= m
 m1 : m <= 12
 lo : opens y + cum y m <= n
 hi : n < opens y + cum y m + mlen y m
 d : (d : Int) = n - opens y - cum y m + 1
end BB5

namespace BB6
open Go Go.Proofs VL BB4 BB5
def dIn (n : Int) : Bool := decide (-25567 <= n) && decide (n <= 84370)
theorem c_is (n : Int) (K) (h : K (.ret (.bool (dIn n))) []) : VCall Tryz.prog 94 [.int .i64 n] [] K := by
 refine call_fun [] 0 Tryz.func94 (by rfl) (by rfl) ?_; (conv=>whnf); (repeat (refine step_go [] ?_;conv=>whnf))
 refine two (fun g => ?_) (fun g => ?_)
 · (conv=>whnf); (repeat (refine step_go [] ?_;conv=>whnf))
   have g := of_decide_eq_true g
   have e : dIn n = decide (n <= 84370) := by simp [dIn]; omega
   rw [e] at h; exact h
 · (conv=>whnf); (repeat (refine step_go [] ?_;conv=>whnf))
   have g := of_decide_eq_false g
   have e : dIn n = false := by simp [dIn]; omega
   rw [e] at h; exact h
end BB6

namespace BB7
open Go Go.Proofs VL D1 B2 B4 B5 B7 B8 B10 B11 B12 B13 D2 B14 D3 B20 BB4 BB5 BB6
end BB7

namespace BB8
open Go Go.Proofs VL D1 B2 B4 B5 B7 B8 B10 B11 B12 B13 D2 B14 D3 B20 BB4 BB5 BB6 BB7
end BB8

namespace BB9
open Go Go.Proofs VL D1 B2 B4 B5 B7 B8 B10 B11 B12 B13 D2 B14 D3 B20 BB4 BB5 BB6 BB7 BB8
end BB9

namespace BB10
open Go Go.Proofs VL D1 B2 B4 B5 B7 B8 B10 B11 B12 B13 D2 B14 D3 B20 BB1 BB2 BB3 BB9
structure Due where
 n : Int
 day : Int
 int : Int
 pri : Int
structure Stm where
 day : Int
 opn : Bool
 cls : Bool
 pri : Int
 acc : Int
 int : Int
 due : Int
 pen : Int
 fee : Int
 una : Int
 dues : List Due
 next : Int
 nday : Int
def Due.ok (d : Due) : Prop := I64 d.n /\ I64 d.day /\ I64 d.int /\ I64 d.pri
structure Stm.ok (s : Stm) : Prop where
 day : I64 s.day
 pri : I64 s.pri
 acc : I64 s.acc
 int : I64 s.int
 due : I64 s.due
 pen : I64 s.pen
 fee : I64 s.fee
 una : I64 s.una
 next : I64 s.next
 nday : I64 s.nday
 dues : ∀ d ∈ s.dues, d.ok
 len : s.dues.length <= 60
end BB10

namespace BB11
open Go Go.Proofs VL D1 B2 B4 B5 B7 B8 B10 B11 B12 B13 D2 B14 D3 B20 BB1 BB2 BB3 BB9 BB10
end BB11

namespace BB12
open Go Go.Proofs VL BB10 BB11
theorem d_eq (a b : Due) : a = b ↔ a.n = b.n /\ a.day = b.day /\ a.int = b.int /\ a.pri = b.pri := by
 constructor
 · rintro rfl; simp
 · cases a; cases b; simp
instance : DecidableEq Due := fun a b => decidable_of_iff _ (d_eq a b).symm
end BB12

namespace BB13
open Go Go.Proofs VL B10 BB10 BB12
structure Mon where
 pri : Int
 acc : Int
 dues : List Due
 pen : Int
 fee : Int
 una : Int
 cash : Int
 ear : Int
 fin : Int
 cha : Int
def mayB (v : Int) : Bool := decide (0 <= v) && decide (v <= 1000000000000000)
def dueBad (p : Option Due) (d : Due) : Prop := ¬ (mayB d.int = true) \/ ¬ (mayB d.pri = true) \/ d.int + d.pri = 0 \/ d.n < 1 \/ ∃ q, p = some q /\ (d.n <= q.n \/ d.day <= q.day)
noncomputable instance (p : Option Due) (d : Due) : Decidable (dueBad p d) := Classical.propDecidable _
structure Mon.ok (m : Mon) : Prop where
 pri : I64 m.pri
 acc : I64 m.acc
 pen : I64 m.pen
 fee : I64 m.fee
 una : I64 m.una
 cash : I64 m.cash
 ear : I64 m.ear
 fin : I64 m.fin
 cha : I64 m.cha
 dues : ∀ d ∈ m.dues, d.ok
 len : m.dues.length < 1000000
def kindS (m : Mon) (x y k : Int) : Int := if k = 1 then m.fee else if k = 2 then m.pen else if k = 3 then x else if k = 4 then y else 0
end BB13

namespace BB14
open Go Go.Proofs VL B10 BB10 BB11 BB12 BB13
structure Sta where
 day : Int
 opn : Bool
 start : Int
 plan : List Int
 next : Int
 rate : Int
 mon : Mon
 lfee : Int
 res : Int
 fine : Int
def iL (l : List Int) : List V := l.map (V.int .i64)
end BB14

namespace BB15
open Go Go.Proofs VL B10 BB10 BB11 BB12 BB13 BB14
end BB15

namespace VL
theorem app_in {α : Type} (enc : α -> V) (acc : List α) (t : α) (sp : List V) : List.take (0 + acc.length) (acc.map enc ++ sp) ++ [enc t] ++ List.drop (0 + acc.length + 1) (acc.map enc ++ sp) = (acc ++ [t]).map enc ++ sp.drop 1 := by
 have h : (acc.map enc).length = acc.length := by simp
 have h1 : List.take (0 + acc.length) (acc.map enc ++ sp) = acc.map enc := by rw [Nat.zero_add, ← h, List.take_left]
 have h2 : List.drop (0 + acc.length + 1) (acc.map enc ++ sp) = sp.drop 1 := by rw [Nat.zero_add, ← List.drop_drop, ← h, List.drop_left]
 rw [h1, h2]; simp
theorem app_gr {α : Type} (enc : α -> V) (acc : List α) (t : α) (sp sp' : List V) : List.take acc.length (List.drop 0 (acc.map enc ++ sp)) ++ [enc t] ++ sp' = (acc ++ [t]).map enc ++ sp' := by
 have h : (acc.map enc).length = acc.length := by simp
 rw [List.drop_zero]
 have h1 : List.take acc.length (acc.map enc ++ sp) = acc.map enc := by rw [← h, List.take_left]
 rw [h1]; simp
end VL
namespace C1
open VL
def wT (ws : List (List Int)) : List Int := 32 :: ws.flatMap (· ++ [32])
theorem wT_cons (w : List Int) (r : List (List Int)) : wT (w :: r) = 32 :: (w ++ wT r) := by simp [wT]
def Nb (l : List Int) : Prop := ∀ x ∈ l, x ≠ 32
theorem nb_head : ∀ {s w b c : List Int}, Nb s -> Nb w -> s ++ 32 :: b = w ++ 32 :: c -> s = w /\ b = c
 | [], [], b, c, _, _, h => ⟨rfl, by simpa using h⟩
 | [], y :: w, b, c, _, hw, h => by simp at h; exact absurd h.1.symm (hw y (by simp))
 | x :: s, [], b, c, hs, _, h => by simp at h; exact absurd h.1 (hs x (by simp))
 | x :: s, y :: w, b, c, hs, hw, h => by
   simp only [List.cons_append, List.cons.injEq] at h
   obtain ⟨h1, h2⟩ := nb_head (fun z hz => hs z (by simp [hz])) (fun z hz => hw z (by simp [hz])) h.2
   exact ⟨by rw [h.1, h1], h2⟩
theorem nb_pre : ∀ {w a t u : List Int}, Nb w -> a ++ 32 :: u = w ++ t -> ∃ a', a = w ++ a' /\ a' ++ 32 :: u = t
 | [], a, t, u, _, h => ⟨a, rfl, h⟩
 | y :: w, [], t, u, hw, h => by simp at h; exact absurd h.1.symm (hw y (by simp))
 | y :: w, x :: a, t, u, hw, h => by
   simp only [List.cons_append, List.cons.injEq] at h
   obtain ⟨a', h1, h2⟩ := nb_pre (fun z hz => hw z (by simp [hz])) h.2
   exact ⟨a', by rw [h.1, h1]; rfl, h2⟩
theorem word_in : ∀ {ws : List (List Int)} {s : List Int}, (∀ w ∈ ws, Nb w) -> Nb s -> ((∃ a b, wT ws = a ++ (32 :: s ++ [32]) ++ b) ↔ s ∈ ws)
 | [], s, _, _ => by
   simp only [List.not_mem_nil, iff_false]
   rintro ⟨a, b, h⟩
   have := congrArg List.length h
   simp [wT] at this; omega
 | w :: r, s, hw, hs => by
   rw [List.mem_cons, wT_cons]
   have ih := word_in (ws := r) (s := s) (fun x hx => hw x (by simp [hx])) hs
   have hww := hw w (by simp)
   constructor
   · rintro ⟨a, b, h⟩
     rcases a with _ | ⟨x, a⟩
     · left
       have h' : s ++ 32 :: b = w ++ 32 :: (r.flatMap (· ++ [32])) := by simpa [wT] using h.symm
       exact (nb_head hs hww h').1
     · right
       have h' : a ++ 32 :: (s ++ 32 :: b) = w ++ wT r := by
        have := h.symm
        simp only [List.cons_append, List.cons.injEq] at this
        simpa using this.2
       obtain ⟨a', h1, h2⟩ := nb_pre hww h'
       exact ih.1 ⟨a', b, by rw [← h2]; simp⟩
   · rintro (rfl | h)
     · exact ⟨[], r.flatMap (· ++ [32]), by simp [wT]⟩
     · obtain ⟨a, b, h2⟩ := ih.2 h
       exact ⟨32 :: (w ++ a), b, by rw [h2]; simp⟩
end C1

namespace C2
open Go Go.Proofs VL D1 B10 BB6 BB10 BB14 C1
structure Rs where
 aft : Int
 rate : Int
structure Ti where
 days : Int
 fee : Int
structure Prod where
 name : ByteArray
 count : Int
 rnd : Int
 kind : Int
 every : Int
 times : Int
 grace : Int
 rate : Int
 resets : List Rs
 pen : Int
 o1 : Int
 o2 : Int
 o3 : Int
 o4 : Int
 over : Int
 late : List Ti
 cap : Int
 roll : Int
 hol : List Int
def encR (r : Rs) : V := .agg [.int .i64 r.aft, .int .i64 r.rate]
def rL (l : List Rs) : List V := l.map encR
def encT (r : Ti) : V := .agg [.int .i64 r.days, .int .i64 r.fee]
def tL (l : List Ti) : List V := l.map encT
def cellsP (p : Prod) : List V := [.str p.name, .int .i64 p.count, .int .i64 p.rnd, .int .i64 p.kind, .int .i64 p.every, .int .i64 p.times, .int .i64 p.grace, .int .i64 p.rate, .sl (rL p.resets) .no, .int .i64 p.pen, .int .i64 p.o1, .int .i64 p.o2, .int .i64 p.o3, .int .i64 p.o4, .int .i64 p.over, .sl (tL p.late) .no, .int .i64 p.cap, .int .i64 p.roll, .sl (iL p.hol) .no]
def encP (p : Prod) : V := .agg (cellsP p)
structure Prod.ok (p : Prod) : Prop where
 name : p.name.size < 1000000
 count : I64 p.count
 rnd : I64 p.rnd
 kind : I64 p.kind
 every : I64 p.every
 times : I64 p.times
 grace : I64 p.grace
 rate : I64 p.rate
 pen : I64 p.pen
 o1 : I64 p.o1
 o2 : I64 p.o2
 o3 : I64 p.o3
 o4 : I64 p.o4
 over : I64 p.over
 cap : I64 p.cap
 roll : I64 p.roll
 resets : ∀ x ∈ p.resets, I64 x.aft /\ I64 x.rate
 late : ∀ x ∈ p.late, I64 x.days /\ I64 x.fee
 hol : ∀ x ∈ p.hol, I64 x
 lr : p.resets.length < 1000000
 ll : p.late.length < 1000000
 lh : p.hol.length < 1000000
def wordsL : List (List Int) := [
 [112, 114, 111, 100, 117, 99, 116],
 [99, 111, 117, 110, 116],
 [116, 104, 105, 114, 116, 121],
 [102, 105, 120, 101, 100],
 [97, 99, 116, 117, 97, 108],
 [114, 111, 117, 110, 100],
 [104, 97, 108, 102, 45, 117, 112],
 [100, 111, 119, 110],
 [107, 105, 110, 100],
 [97, 110, 110, 117, 105, 116, 121],
 [101, 113, 117, 97, 108],
 [98, 117, 108, 108, 101, 116],
 [101, 118, 101, 114, 121],
 [116, 105, 109, 101, 115],
 [103, 114, 97, 99, 101],
 [114, 97, 116, 101],
 [112, 101, 110, 97, 108, 116, 121],
 [114, 101, 115, 101, 116],
 [108, 97, 116, 101],
 [99, 97, 112],
 [104, 111, 108, 105, 100, 97, 121],
 [111, 114, 100, 101, 114],
 [102, 101, 101, 115],
 [105, 110, 116, 101, 114, 101, 115, 116],
 [112, 114, 105, 110, 99, 105, 112, 97, 108],
 [111, 118, 101, 114],
 [104, 111, 108, 100],
 [112, 114, 101, 112, 97, 121],
 [114, 101, 102, 117, 110, 100],
 [114, 111, 108, 108],
 [115, 116, 97, 121],
 [110, 101, 120, 116],
 [119, 105, 116, 104, 105, 110],
 [112, 114, 101, 118, 105, 111, 117, 115]]
def Small (x : Int) : Prop := 97 <= x /\ x <= 122
def Inner (x : Int) : Prop := Small x \/ Dig x \/ x = 45
instance (x : Int) : Decidable (Small x) := inferInstanceAs (Decidable (_ /\ _))
instance (x : Int) : Decidable (Inner x) := inferInstanceAs (Decidable (_ \/ _))
def nameP (l : List Int) : Prop := (1 <= l.length /\ l.length <= 20 /\ (∀ x, l.head? = some x -> Small x) /\ ∀ x ∈ l, Inner x) /\ l ∉ wordsL
def resetsP (times : Int) : Option Rs -> List Rs -> Prop
 | _, [] => True
 | p, r :: l => (1 <= r.aft /\ r.aft <= times - 1) /\ (0 <= r.rate /\ r.rate <= 1000000000) /\ (∀ q, p = some q -> q.aft < r.aft) /\ resetsP times (some r) l
def tiersP : Option Ti -> List Ti -> Prop
 | _, [] => True
 | p, r :: l => (1 <= r.days /\ r.days <= 365) /\ (0 <= r.fee /\ r.fee <= 10000000000000) /\ (∀ q, p = some q -> q.days < r.days /\ q.fee <= r.fee) /\ tiersP (some r) l
def holP : Option Int -> List Int -> Prop
 | _, [] => True
 | p, r :: l => (-25567 <= r /\ r <= 84370) /\ (∀ q, p = some q -> q < r) /\ holP (some r) l
def orderP (a b c d : Int) : Prop := (1 <= a /\ a <= 4) /\ (1 <= b /\ b <= 4) /\ (1 <= c /\ c <= 4) /\ (1 <= d /\ d <= 4) /\ a ≠ b /\ a ≠ c /\ a ≠ d /\ b ≠ c /\ b ≠ d /\ c ≠ d
def shape1 (p : Prod) : Prop := nameP (sB p.name) /\ (1 <= p.count /\ p.count <= 3) /\ (p.rnd = 1 \/ p.rnd = 3) /\ (1 <= p.kind /\ p.kind <= 3)
def shape2 (p : Prod) : Prop := p.every = 1 \/ p.every = 2 \/ p.every = 3 \/ p.every = 4 \/ p.every = 6 \/ p.every = 12
def shape3 (p : Prod) : Prop := (1 <= p.times /\ p.times <= 600) /\ (0 <= p.grace /\ p.grace <= p.times - 1) /\ (p.kind ≠ 3 \/ p.grace = 0)
def ratesP (p : Prod) : Prop := (0 <= p.rate /\ p.rate <= 1000000000) /\ (0 <= p.pen /\ p.pen <= 1000000000) /\ p.resets.length <= 20 /\ resetsP p.times none p.resets
def overP (p : Prod) : Prop := orderP p.o1 p.o2 p.o3 p.o4 /\ (1 <= p.over /\ p.over <= 3)
def lateP (p : Prod) : Prop := p.late.length <= 8 /\ (0 <= p.cap /\ p.cap <= 10000000000000) /\ (p.late ≠ [] \/ p.cap = 0) /\ tiersP none p.late
def daysP (p : Prod) : Prop := (p.hol.length <= 200 /\ holP none p.hol) /\ (1 <= p.roll /\ p.roll <= 4) /\ (p.roll ≠ 1 \/ p.hol = [])
def checkP (p : Prod) : Prop := (shape1 p /\ shape2 p /\ shape3 p) /\ ratesP p /\ overP p /\ lateP p /\ daysP p
noncomputable instance (p : Prod) : Decidable (checkP p) := Classical.propDecidable _
noncomputable def checkC (p : Prod) : Int := if checkP p then 0 else 9
theorem words_nb : ∀ w ∈ wordsL, Nb w := by unfold Nb; decide +kernel
end C2

namespace C3
open Go Go.Proofs VL D1 B10 C2
structure Tok where
 kind : Int
 at_ : Nat
 text : List Int
def encK (t : Tok) : V := .agg [.int .i64 t.kind, .int .i64 t.at_, .str (toBA t.text)]
def kL (l : List Tok) : List V := l.map encK
def Let (c : Int) : Prop := (97 <= c /\ c <= 122) \/ (65 <= c /\ c <= 90)
instance (c : Int) : Decidable (Let c) := inferInstanceAs (Decidable (_ \/ _))
def letB (c : Int) : Bool := decide (Let c)
def digB (c : Int) : Bool := decide (Dig c)
def wordB (c : Int) : Bool := decide (Let c \/ Dig c \/ c = 45)
def numB (c : Int) : Bool := decide (Dig c \/ c = 46 \/ c = 45 \/ c = 47 \/ c = 37)
def goesB (k : Int) (c : Int) : Bool := if k = 1 then wordB c else if k = 2 then numB c else false
def skipN : Bool -> List Int -> Nat
 | _, [] => 0
 | rem, c :: r => if c = 10 then 1 + skipN false r else if c = 35 then 1 + skipN true r else if rem = false /\ c ≠ 32 /\ c ≠ 9 then 0 else 1 + skipN rem r
def kindS (c : Int) (r : List Int) : Option Int :=
 if Let c then some 1 else if Dig c \/ (c = 45 /\ ∃ d, r.head? = some d /\ Dig d) then some 2 else if c = 123 \/ c = 125 \/ c = 59 then some 3 else none
instance (r : List Int) : Decidable (∃ d, r.head? = some d /\ Dig d) := match r with
 | [] => isFalse (by simp)
 | d :: _ => if h : Dig d then isTrue ⟨d, rfl, h⟩ else isFalse (by simpa using h)
inductive Lx where
 | ok (l : List Tok)
 | bad (p : Nat)
def Lx.cons (t : Tok) : Lx -> Lx
 | .ok l => .ok (t :: l)
 | .bad p => .bad p
def lexF : Nat -> List Int -> Nat -> Lx
 | 0, _, i => .bad i
 | f + 1, l, i => match l.drop (skipN false l) with
   | [] => .ok [⟨0, i + skipN false l, []⟩]
   | c :: r => match kindS c r with
     | none => .bad (i + skipN false l)
     | some k => (lexF f (r.dropWhile (goesB k)) (i + skipN false l + 1 + (r.takeWhile (goesB k)).length)).cons ⟨k, i + skipN false l, c :: r.takeWhile (goesB k)⟩
def lexS (l : List Int) : Except (Nat × Int) (List Tok) := if 20000 < l.length then .error (0, 3) else match lexF (l.length + 1) l 0 with
 | .ok t => .ok t
 | .bad p => .error (p, 6)
theorem skipN_le : ∀ (b : Bool) (l : List Int), skipN b l <= l.length
 | b, [] => by simp [skipN]
 | b, c :: r => by
   have h1 := skipN_le false r
   have h2 := skipN_le true r
   have h3 := skipN_le b r
   unfold skipN
   repeat' split
   all_goals simp
   all_goals omega
theorem takeW_le (p : Int -> Bool) (l : List Int) : (l.takeWhile p).length <= l.length := by
 have := List.takeWhile_append_dropWhile (p := p) (l := l)
 have h2 := congrArg List.length this
 rw [List.length_append] at h2; omega
theorem dropW_eq (p : Int -> Bool) : ∀ (l : List Int), l.dropWhile p = l.drop (l.takeWhile p).length
 | [] => rfl
 | x :: r => by
   cases h : p x
   · simp [List.takeWhile_cons, List.dropWhile_cons, h]
   · simp [List.takeWhile_cons, List.dropWhile_cons, h, dropW_eq p r]
theorem letB_iff (c : Int) : letB c = true ↔ (97 <= c /\ c <= 122) \/ (65 <= c /\ c <= 90) := by unfold letB; rw [decide_eq_true_iff]; rfl
theorem digB_iff (c : Int) : digB c = true ↔ 48 <= c /\ c <= 57 := by unfold digB; rw [decide_eq_true_iff]; rfl
theorem digB_no (c : Int) : digB c = false ↔ ¬ (48 <= c /\ c <= 57) := by rw [← digB_iff]; simp
theorem letB_no (c : Int) : letB c = false ↔ ¬ ((97 <= c /\ c <= 122) \/ (65 <= c /\ c <= 90)) := by rw [← letB_iff]; simp
theorem kind1 {c : Int} (r : List Int) (h : (97 <= c /\ c <= 122) \/ (65 <= c /\ c <= 90)) : kindS c r = some 1 := by unfold kindS; rw [if_pos (show Let c from h)]
theorem kind2 {c : Int} (r : List Int) (h : ¬ ((97 <= c /\ c <= 122) \/ (65 <= c /\ c <= 90))) (h2 : (48 <= c /\ c <= 57) \/ (c = 45 /\ ∃ d, r.head? = some d /\ Dig d)) : kindS c r = some 2 := by
 unfold kindS; rw [if_neg (show ¬ Let c from h)]; split
 · rfl
 · rename_i hn; exact absurd h2 hn
theorem kind3 {c : Int} (r : List Int) (h : c = 123 \/ c = 125 \/ c = 59) : kindS c r = some 3 := by
 unfold kindS
 rw [if_neg (by unfold Let; omega), if_neg (by unfold Dig; omega), if_pos h]
theorem kind0 {c : Int} (r : List Int) (h : ¬ ((97 <= c /\ c <= 122) \/ (65 <= c /\ c <= 90))) (h2 : ¬ ((48 <= c /\ c <= 57) \/ (c = 45 /\ ∃ d, r.head? = some d /\ Dig d))) (h3 : ¬ (c = 123 \/ c = 125 \/ c = 59)) : kindS c r = none := by
 unfold kindS; rw [if_neg (show ¬ Let c from h)]; split
 · rename_i hn; exact absurd hn h2
 · first | rfl | exact if_neg h3
theorem wordB_iff (c : Int) : wordB c = true ↔ letB c = true \/ digB c = true \/ c = 45 := by unfold wordB letB digB; simp
theorem numB_iff (c : Int) : numB c = true ↔ digB c = true \/ c = 46 \/ c = 45 \/ c = 47 \/ c = 37 := by unfold numB digB; simp
end C3

namespace C5
open Go Go.Proofs VL D1 B10 C2 C3
theorem c_letter (c : Int) (K) (h : K (.ret (.bool (letB c))) []) : VCall Tryz.prog 73 [.int .u8 c] [] K := by
 have hfin : ∀ b, letB c = b -> K (.ret (.bool b)) [] := fun b e => by rw [e] at h; exact h
 clear h
 refine call_fun [] 0 Tryz.func73 (by rfl) (by rfl) ?_
 conv=>whnf
 (repeat' first | (refine step_go [] ?_;conv=>whnf) | (refine two ?_ ?_<;>intro g<;>(try simp only[bsx]at g)<;>(conv=>whnf)) | (refine And.intro rfl ?_;conv=>whnf) | fail)
 all_goals (refine hfin _ ?_; rw [Bool.eq_iff_iff, letB_iff]; simp; omega)
theorem c_ldigit (c : Int) (K) (h : K (.ret (.bool (digB c))) []) : VCall Tryz.prog 76 [.int .u8 c] [] K := by
 have hfin : ∀ b, digB c = b -> K (.ret (.bool b)) [] := fun b e => by rw [e] at h; exact h
 clear h
 refine call_fun [] 0 Tryz.func76 (by rfl) (by rfl) ?_
 conv=>whnf
 (repeat' first | (refine step_go [] ?_;conv=>whnf) | (refine two ?_ ?_<;>intro g<;>(try simp only[bsx]at g)<;>(conv=>whnf)) | (refine And.intro rfl ?_;conv=>whnf) | fail)
 all_goals (refine hfin _ ?_; rw [Bool.eq_iff_iff, digB_iff]; simp; omega)
theorem c_inWord (c : Int) (K) (h : K (.ret (.bool (wordB c))) []) : VCall Tryz.prog 75 [.int .u8 c] [] K := by
 have hfin : ∀ b, wordB c = b -> K (.ret (.bool b)) [] := fun b e => by rw [e] at h; exact h
 clear h
 refine call_fun [] 0 Tryz.func75 (by rfl) (by rfl) ?_
 conv=>whnf
 (repeat' first | (refine step_go [] ?_;conv=>whnf) | (refine two ?_ ?_<;>intro g<;>(try simp only[bsx]at g)<;>(conv=>whnf)) | (refine And.intro rfl ?_;conv=>whnf) | (refine c_letter _ _ ?_;conv=>whnf) | (refine c_ldigit _ _ ?_;conv=>whnf) | fail)
 all_goals (refine hfin _ ?_; rw [Bool.eq_iff_iff, wordB_iff]; simp_all)
theorem c_inNumber (c : Int) (K) (h : K (.ret (.bool (numB c))) []) : VCall Tryz.prog 77 [.int .u8 c] [] K := by
 have hfin : ∀ b, numB c = b -> K (.ret (.bool b)) [] := fun b e => by rw [e] at h; exact h
 clear h
 refine call_fun [] 0 Tryz.func77 (by rfl) (by rfl) ?_
 conv=>whnf
 (repeat' first | (refine step_go [] ?_;conv=>whnf) | (refine two ?_ ?_<;>intro g<;>(try simp only[bsx]at g)<;>(conv=>whnf)) | (refine And.intro rfl ?_;conv=>whnf) | (refine c_ldigit _ _ ?_;conv=>whnf) | fail)
 all_goals (refine hfin _ ?_; rw [Bool.eq_iff_iff, numB_iff]; simp_all)
theorem c_never (c : Int) (K) (h : K (.ret (.bool false)) []) : VCall Tryz.prog 78 [.int .u8 c] [] K := by
 refine call_fun [] 0 Tryz.func78 (by rfl) (by rfl) ?_
 conv=>whnf
 (repeat' first | (refine step_go [] ?_;conv=>whnf) | (refine two ?_ ?_<;>intro g<;>(try simp only[bsx]at g)<;>(conv=>whnf)) | (refine And.intro rfl ?_;conv=>whnf) | fail)
 exact h
def lO (s : ByteArray) (i : Nat) : List VObj := [.cells true 83 [.str s, .int .i64 i]]
theorem drop_at {s : ByteArray} {i : Nat} (h : i < s.size) : ∃ c, (sB s)[i]? = some c /\ (sB s).drop i = c :: (sB s).drop (i + 1) := by
 have hl : i < (sB s).length := by rw [sB_len]; exact h
 exact ⟨_, List.getElem?_eq_getElem hl, List.drop_eq_getElem_cons hl⟩
set_option maxHeartbeats 1000000 in
theorem c_pass (s : ByteArray) (hs : s.size < 1000000) (i : Nat) (hi : i <= s.size) (K) (h : K (.ret (.tup [])) (lO s (i + skipN false ((sB s).drop i)))) : VCall Tryz.prog 72 [.ptr 0 0] (lO s i) K := by
 have hsl := sB_len s
 unfold lO
 refine call_fun [] 1 Tryz.func72 (by rfl) (by rfl) ?_
 (conv=>whnf); (repeat (refine step_go [] ?_;conv=>whnf))
 let S : Nat × Bool -> St := fun x => ⟨(.ptr 0 0 :: .undef :: .bool x.2 :: .undef :: .undef :: .undef :: .undef :: .undef :: .undef :: .undef :: .undef :: .undef :: .undef :: .undef :: .undef :: .undef :: .undef :: .undef :: .undef :: .undef :: .undef :: .undef :: .undef :: .undef :: .undef :: .undef :: .undef :: .undef :: .undef :: .undef :: .undef :: .undef :: .undef :: .undef :: .undef :: .undef :: .undef :: .undef :: .undef :: .undef :: .undef :: .undef :: .undef :: .undef :: .undef :: .undef :: .undef :: []), lO s x.1, 0, []⟩
 refine VLoop.enter (s' := S (i, false)) (weak_of ?_ (.cons (.eq rfl) .nil) rfl rfl rfl)
  (VLoop.indW S (fun x => s.size - x.1) (fun x => x.1 <= s.size /\ x.1 + skipN x.2 ((sB s).drop x.1) = i + skipN false ((sB s).drop i)) ?_ (i, false) ⟨hi, rfl⟩)
 · (repeat' first | exact VWs.nil | refine VWs.cons VW.undef ?_ | refine VWs.cons (VW.eq rfl) ?_)
 rintro ⟨j, rem⟩ ⟨hj, hinv⟩ ih
 simp only at hj hinv
 refine loop_round [] ?_
 conv=>whnf
 (repeat' first | (refine step_go [] ?_;conv=>whnf) | (refine two ?_ ?_<;>intro g<;>(try simp only[bsx]at g)<;>(conv=>whnf)) | (refine And.intro rfl ?_;conv=>whnf) | (refine dr_go (by decide +kernel) ?_;conv=>whnf) | fail)
 · have hjl : j < s.size := by omega
   obtain ⟨c, hc, hd⟩ := drop_at hjl
   rw [hd] at hinv
   refine idx_str (x := c) (by omega) (by simpa using hc) fun b hb => ?_
   conv=>whnf
   (repeat (refine step_go [] ?_;conv=>whnf))
   rw [hb]
   have wj : IntKind.i64.wrap ((j : Int) + 1) = ((j + 1 : Nat) : Int) := by rw [wrap64 (by omega) (by omega)]; omega
   (repeat' first | (refine step_go [] ?_;conv=>whnf) | (refine two ?_ ?_<;>intro g<;>(try simp only[bsx]at g)<;>(conv=>whnf)) | (refine And.intro rfl ?_;conv=>whnf) | fail)
   all_goals first
    | (refine ⟨_, Weak.refl, ?_⟩; (conv=>whnf); (repeat (refine step_go [] ?_;conv=>whnf))
       refine Eq.mp (congrArg (fun n : Nat => K (.ret (.tup [])) (lO s n)) ?_) h
       rw [← hinv]; simp_all [skipN]; done)
    | (refine ⟨S (j + 1, false), weak_of ?_ (.cons (.eq (by simp only; rw [wj])) .nil) rfl rfl rfl, ih (j + 1, false) ⟨by simp only; omega, ?_⟩ (by simp only; omega)⟩
       · (repeat' first | exact VWs.nil | refine VWs.cons VW.undef ?_ | refine VWs.cons (VW.eq rfl) ?_)
       · rw [← hinv]; simp only; simp_all [skipN]; omega)
    | (refine ⟨S (j + 1, true), weak_of ?_ (.cons (.eq (by simp only; rw [wj])) .nil) rfl rfl rfl, ih (j + 1, true) ⟨by simp only; omega, ?_⟩ (by simp only; omega)⟩
       · (repeat' first | exact VWs.nil | refine VWs.cons VW.undef ?_ | refine VWs.cons (VW.eq rfl) ?_)
       · rw [← hinv]; simp only; simp_all [skipN]; omega)
    | (refine ⟨S (j + 1, rem), weak_of ?_ (.cons (.eq (by simp only; rw [wj])) .nil) rfl rfl rfl, ih (j + 1, rem) ⟨by simp only; omega, ?_⟩ (by simp only; omega)⟩
       · (repeat' first | exact VWs.nil | refine VWs.cons VW.undef ?_ | refine VWs.cons (VW.eq rfl) ?_)
       · rw [← hinv]; simp only; simp_all [skipN]; omega)
 · have hjl : j = s.size := by omega
   subst hjl
   rw [List.drop_eq_nil_of_le (by omega)] at hinv
   refine ⟨_, Weak.refl, ?_⟩; (conv=>whnf); (repeat (refine step_go [] ?_;conv=>whnf))
   refine Eq.mp (congrArg (fun n : Nat => K (.ret (.tup [])) (lO s n)) ?_) h
   rw [← hinv]; simp [skipN]
set_option maxHeartbeats 1000000 in
theorem c_run (s : ByteArray) (hs : s.size < 1000000) (i : Nat) (hi : i < s.size) (k : Int) (f : FuncId) (go : Int -> Bool) (hf : ∀ (c : Int) (K : Out -> List VObj -> Prop), K (.ret (.bool (go c))) [] -> VCall Tryz.prog f [.int .u8 c] [] K) (K)
 (h : K (.ret (.agg [.int .i64 k, .int .i64 i, .str (toBA (((sB s).drop i).take (1 + (((sB s).drop (i + 1)).takeWhile go).length)))])) (lO s (i + 1 + (((sB s).drop (i + 1)).takeWhile go).length))) :
 VCall Tryz.prog 74 [.ptr 0 0, .int .i64 k, .fn (.func f) [] []] (lO s i) K := by
 have hsl := sB_len s
 unfold lO
 refine call_fun [] 1 Tryz.func74 (by rfl) (by rfl) ?_
 (conv=>whnf); (repeat (refine step_go [] ?_;conv=>whnf))
 have wi : IntKind.i64.wrap ((i : Int) + 1) = ((i + 1 : Nat) : Int) := by rw [wrap64 (by omega) (by omega)]; omega
 let S : Nat -> St := fun x => ⟨(.ptr 0 0 :: .int .i64 k :: .fn (.func f) [] [] :: .undef :: .undef :: .undef :: .ptr 1 0 :: .int .i64 i :: .undef :: .undef :: .undef :: .undef :: .undef :: .undef :: .undef :: .undef :: .undef :: .undef :: .undef :: .undef :: .undef :: .undef :: .undef :: .undef :: .undef :: .undef :: .undef :: .undef :: .undef :: .undef :: .undef :: .undef :: .undef :: .undef :: .undef :: .undef :: .undef :: .undef :: .undef :: .undef :: .undef :: .undef :: .undef :: .undef :: .undef :: .undef :: .undef :: .undef :: .undef :: .undef :: .undef :: .undef :: .undef :: .undef :: .undef :: .undef :: .undef :: .undef :: .undef :: .undef :: .undef :: .undef :: []), lO s x ++ [.cells true 57 [.int .i64 0, .int .i64 0, .str ⟨#[]⟩]], 0, []⟩
 refine VLoop.enter (s' := S (i + 1)) (weak_of ?_ (.cons (.eq (by rw [wi])) (.cons (.eq rfl) .nil)) rfl rfl rfl)
  (VLoop.indW S (fun x => s.size - x) (fun x => i + 1 <= x /\ x <= s.size /\ x + (((sB s).drop x).takeWhile go).length = i + 1 + (((sB s).drop (i + 1)).takeWhile go).length) ?_ (i + 1) ⟨by omega, by omega, rfl⟩)
 · (repeat' first | exact VWs.nil | refine VWs.cons VW.undef ?_ | refine VWs.cons (VW.eq rfl) ?_)
 rintro j ⟨hij, hj, hinv⟩ ih
 refine loop_round [] ?_
 conv=>whnf
 have fin : ((sB s).drop j).takeWhile go = [] -> K (.ret (.agg [.int .i64 k, .int .i64 i, .str (s.extract i j)])) (lO s j) := fun h0 => by
  rw [h0] at hinv
  simp only [List.length_nil, Nat.add_zero] at hinv
  rw [← hinv] at h
  refine Eq.mp (congrArg (fun x => K (.ret (.agg [.int .i64 k, .int .i64 i, .str x])) (lO s j)) ?_) h
  rw [← toBA_sB (s.extract i j), sB_ext, List.drop_take]
  congr 2; omega
 (repeat' first | (refine step_go [] ?_;conv=>whnf) | (refine two ?_ ?_<;>intro g<;>(try simp only[bsx]at g)<;>(conv=>whnf)) | (refine And.intro rfl ?_;conv=>whnf) | (refine dr_go (by decide +kernel) ?_;conv=>whnf) | fail)
 · have hjl : j < s.size := by omega
   obtain ⟨c, hc, hd⟩ := drop_at hjl
   refine idx_str (x := c) (by omega) (by simpa using hc) fun b hb => ?_
   conv=>whnf
   (repeat (refine step_go [] ?_;conv=>whnf))
   rw [hb]
   refine hf c _ ?_
   conv=>whnf
   (repeat' first | (refine step_go [] ?_;conv=>whnf) | (refine two ?_ ?_<;>intro g<;>(try simp only[bsx]at g)<;>(conv=>whnf)) | (refine And.intro rfl ?_;conv=>whnf) | fail)
   · refine ⟨S (j + 1), weak_of ?_ (.cons (.eq (by rw [show IntKind.i64.wrap ((j : Int) + 1) = ((j + 1 : Nat) : Int) by rw [wrap64 (by omega) (by omega)]; omega])) (.cons (.eq rfl) .nil)) rfl rfl rfl, ih (j + 1) ⟨by omega, by omega, ?_⟩ (by omega)⟩
     · (repeat' first | exact VWs.nil | refine VWs.cons VW.undef ?_ | refine VWs.cons (VW.eq rfl) ?_)
     · rw [← hinv, hd, List.takeWhile_cons_of_pos g]; simp; omega
   · have h0 : ((sB s).drop j).takeWhile go = [] := by rw [hd, List.takeWhile_cons_of_neg (by simp [g])]
     refine ⟨_, Weak.refl, ?_⟩
     conv=>whnf
     (repeat' first | (refine step_go [] ?_;conv=>whnf) | (refine two ?_ ?_<;>intro g<;>(try simp only[bsx]at g)<;>(conv=>whnf)) | (refine And.intro rfl ?_;conv=>whnf) | (refine dr_go (by decide +kernel) ?_;conv=>whnf) | fail)
     refine ⟨by omega, by omega, by omega, ?_⟩
     conv=>whnf
     (repeat' first | (refine step_go [] ?_;conv=>whnf) | (refine two ?_ ?_<;>intro g<;>(try simp only[bsx]at g)<;>(conv=>whnf)) | (refine And.intro rfl ?_;conv=>whnf) | (refine dr_go (by decide +kernel) ?_;conv=>whnf) | fail)
     exact fin h0
 · have h0 : ((sB s).drop j).takeWhile go = [] := by rw [List.drop_eq_nil_of_le (by omega)]; rfl
   refine ⟨_, Weak.refl, ?_⟩
   conv=>whnf
   (repeat' first | (refine step_go [] ?_;conv=>whnf) | (refine two ?_ ?_<;>intro g<;>(try simp only[bsx]at g)<;>(conv=>whnf)) | (refine And.intro rfl ?_;conv=>whnf) | (refine dr_go (by decide +kernel) ?_;conv=>whnf) | fail)
   refine ⟨by omega, by omega, by omega, ?_⟩
   conv=>whnf
   (repeat' first | (refine step_go [] ?_;conv=>whnf) | (refine two ?_ ?_<;>intro g<;>(try simp only[bsx]at g)<;>(conv=>whnf)) | (refine And.intro rfl ?_;conv=>whnf) | (refine dr_go (by decide +kernel) ?_;conv=>whnf) | fail)
   exact fin h0
end C5

namespace C6
open Go Go.Proofs VL D1 B10 BB6 BB10 BB14 C1 C2
def pvO {α : Type} (L : List α) (i : Nat) : Option α := if i = 0 then none else L[i - 1]?
theorem pvO_succ {α : Type} {L : List α} {i : Nat} (hi : i < L.length) : pvO L (i + 1) = some L[i] := by
 unfold pvO; rw [if_neg (by omega), Nat.add_sub_cancel, List.getElem?_eq_getElem hi]
theorem prev_ex {α : Type} (enc : α -> V) (L : List α) (i : Nat) (hi : i < L.length) (hl : L.length < 1000000) :
 ∃ q, (0 < i -> (L.map enc)[(IntKind.i64.wrap ((i : Int) - 1)).toNat]? = some (enc q)) /\ ∀ x, pvO L i = some x ↔ 0 < i /\ x = q := by
 by_cases h0 : 0 < i
 · refine ⟨L[i - 1], fun _ => ?_, fun x => ?_⟩
   · rw [wrap64 (by omega) (by omega), show ((i : Int) - 1).toNat = i - 1 by omega, List.getElem?_map, List.getElem?_eq_getElem (by omega)]; rfl
   · unfold pvO; rw [if_neg (by omega), List.getElem?_eq_getElem (by omega)]
     constructor
     · intro h; exact ⟨h0, (Option.some.inj h).symm⟩
     · rintro ⟨_, rfl⟩; rfl
 · refine ⟨L[i], fun h => absurd h h0, fun x => ?_⟩
   unfold pvO; rw [if_pos (by omega)]; simp; omega
theorem c_must (b : Bool) (K : Out -> List VObj -> Prop) (h : @Bool.rec (fun _ => Prop) (K (.pan (.ifc 88 (.agg []))) []) (K (.ret (.tup [])) []) b) : VCall Tryz.prog 82 [.bool b] [] K := by
 refine call_fun [] 0 Tryz.func82 (by rfl) (by rfl) ?_
 conv=>whnf
 cases b
 · (repeat' first | (refine step_go [] ?_;conv=>whnf) | (refine two ?_ ?_<;>intro g<;>(try simp only[bsx]at g)<;>(conv=>whnf)) | (refine And.intro rfl ?_;conv=>whnf) | fail)
   exact h
 · (repeat' first | (refine step_go [] ?_;conv=>whnf) | (refine two ?_ ?_<;>intro g<;>(try simp only[bsx]at g)<;>(conv=>whnf)) | (refine And.intro rfl ?_;conv=>whnf) | fail)
   exact h
theorem c_within (v a b : Int) (K) (h : K (.ret (.bool (decide (a <= v /\ v <= b)))) []) : VCall Tryz.prog 83 [.int .i64 v, .int .i64 a, .int .i64 b] [] K := by
 have hfin : ∀ x, decide (a <= v /\ v <= b) = x -> K (.ret (.bool x)) [] := fun x e => by rw [e] at h; exact h
 clear h
 refine call_fun [] 0 Tryz.func83 (by rfl) (by rfl) ?_
 conv=>whnf
 (repeat' first | (refine step_go [] ?_;conv=>whnf) | (refine two ?_ ?_<;>intro g<;>(try simp only[bsx]at g)<;>(conv=>whnf)) | (refine And.intro rfl ?_;conv=>whnf) | fail)
 all_goals (refine hfin _ ?_; simp; omega)
theorem c_within64 (v a b : Int) (K) (h : K (.ret (.bool (decide (a <= v /\ v <= b)))) []) : VCall Tryz.prog 84 [.int .i64 v, .int .i64 a, .int .i64 b] [] K := by
 have hfin : ∀ x, decide (a <= v /\ v <= b) = x -> K (.ret (.bool x)) [] := fun x e => by rw [e] at h; exact h
 clear h
 refine call_fun [] 0 Tryz.func84 (by rfl) (by rfl) ?_
 conv=>whnf
 (repeat' first | (refine step_go [] ?_;conv=>whnf) | (refine two ?_ ?_<;>intro g<;>(try simp only[bsx]at g)<;>(conv=>whnf)) | (refine And.intro rfl ?_;conv=>whnf) | fail)
 all_goals (refine hfin _ ?_; simp; omega)
theorem c_there (v : Int) (K) (h : K (.ret (.bool (decide (-25567 <= v /\ v <= 84370)))) []) : VCall Tryz.prog 113 [.int .i64 v] [] K := by
 have hfin : ∀ x, decide (-25567 <= v /\ v <= 84370) = x -> K (.ret (.bool x)) [] := fun x e => by rw [e] at h; exact h
 clear h
 refine call_fun [] 0 Tryz.func113 (by rfl) (by rfl) ?_
 conv=>whnf
 (repeat' first | (refine step_go [] ?_;conv=>whnf) | (refine two ?_ ?_<;>intro g<;>(try simp only[bsx]at g)<;>(conv=>whnf)) | (refine And.intro rfl ?_;conv=>whnf) | fail)
 all_goals (refine hfin _ ?_; simp; omega)
noncomputable def nameB (l : List Int) : Bool := open Classical in decide (nameP l)
theorem nameB_iff (l : List Int) : nameB l = true ↔ nameP l := by unfold nameB; simp
theorem nameB_no (l : List Int) : nameB l = false ↔ ¬ nameP l := by unfold nameB; simp
set_option maxHeartbeats 2000000 in
theorem c_shape (p : Prod) (hp : p.ok) (hname : ∀ K : Out -> List VObj -> Prop, K (.ret (.bool (nameB (sB p.name)))) [] -> VCall Tryz.prog 42 [.str p.name] [] K) (K : Out -> List VObj -> Prop) (h0 : shape1 p /\ shape2 p /\ shape3 p -> K (.ret (.tup [])) [])
 (h1 : ¬ (shape1 p /\ shape2 p /\ shape3 p) -> K (.pan (.ifc 88 (.agg []))) []) : VCall Tryz.prog 46 [encP p] [] K := by
 have ht := hp.times
 unfold I64 at ht
 unfold encP cellsP
 refine call_fun [] 0 Tryz.func46 (by rfl) (by rfl) ?_
 conv=>whnf
 (repeat' first | (refine step_go [] ?_;conv=>whnf) | (refine two ?_ ?_<;>intro g<;>(try simp only[bsx, nameB_iff, nameB_no]at g)<;>(conv=>whnf)) | (refine And.intro rfl ?_;conv=>whnf) | (refine hname _ ?_;conv=>whnf) | (refine c_within _ _ _ _ ?_;conv=>whnf) | (refine c_must _ _ ?_;conv=>whnf) | fail)
 all_goals first
  | (refine h0 ⟨⟨by assumption, by omega, by omega, by omega⟩, ?_, by omega, ?_, by omega⟩
     · unfold shape2; omega
     · rw [wrap64 (x := p.times - 1) (by omega) (by omega)] at *; omega)
  | (refine h1 fun hh => ?_
     obtain ⟨⟨a1, a2, a3, a4⟩, a5, a6, a7, a8⟩ := hh
     unfold shape2 at a5
     first
      | contradiction
      | omega
      | (rw [wrap64 (x := p.times - 1) (by omega) (by omega)] at *; omega))
set_option maxHeartbeats 2000000 in
theorem c_lrates (p : Prod) (hp : p.ok) (hs : 1 <= p.times /\ p.times <= 600) (K : Out -> List VObj -> Prop) (h0 : ratesP p -> K (.ret (.tup [])) []) (h1 : ¬ ratesP p -> K (.pan (.ifc 88 (.agg []))) []) : VCall Tryz.prog 47 [encP p] [] K := by
 have ht := hp.times
 have hlen := hp.lr
 unfold I64 at ht
 unfold encP cellsP
 obtain ⟨T, hT⟩ : ∃ T, tL p.late = T := ⟨_, rfl⟩
 obtain ⟨H, hH⟩ : ∃ H, iL p.hol = H := ⟨_, rfl⟩
 have hrl : (rL p.resets).length = p.resets.length := by simp [rL]
 rw [hT, hH]
 refine call_fun [] 0 Tryz.func47 (by rfl) (by rfl) ?_
 conv=>whnf
 (repeat' first | (refine step_go [] ?_;conv=>whnf) | (refine two ?_ ?_<;>intro g<;>(try simp only[bsx, hrl]at g)<;>(conv=>whnf)) | (refine And.intro rfl ?_;conv=>whnf) | (refine c_within64 _ _ _ _ ?_;conv=>whnf) | (refine c_must _ _ ?_;conv=>whnf) | fail)
 rotate_left
 · exact h1 fun hh => by unfold ratesP at hh; omega
 · exact h1 fun hh => by unfold ratesP at hh; omega
 · exact h1 fun hh => by unfold ratesP at hh; omega
 have hfin : (resetsP p.times none p.resets -> K (.ret (.tup [])) []) /\ (¬ resetsP p.times none p.resets -> K (.pan (.ifc 88 (.agg []))) []) :=
  ⟨fun hh => h0 ⟨by omega, by omega, by omega, hh⟩, fun hh => h1 fun h => hh h.2.2.2⟩
 clear h0 h1
 obtain ⟨h0, h1⟩ := hfin
 let CC : List V := [.str p.name, .int .i64 p.count, .int .i64 p.rnd, .int .i64 p.kind, .int .i64 p.every, .int .i64 p.times, .int .i64 p.grace, .int .i64 p.rate, .sl (rL p.resets) .no, .int .i64 p.pen, .int .i64 p.o1, .int .i64 p.o2, .int .i64 p.o3, .int .i64 p.o4, .int .i64 p.over, .sl T .no, .int .i64 p.cap, .int .i64 p.roll, .sl H .no]
 let S : Nat -> St := fun i => ⟨(.undef :: .ptr 0 0 :: .ptr 1 0 :: .undef :: .undef :: .undef :: .undef :: .undef :: .undef :: .undef :: .undef :: .undef :: .undef :: .undef :: .undef :: .undef :: .undef :: .undef :: .undef :: .undef :: .undef :: .undef :: .undef :: .sl (rL p.resets) .no :: .int .i64 (p.resets.length : Nat) :: .int .i64 (i : Nat) :: .undef :: .undef :: .undef :: .undef :: .undef :: .undef :: .undef :: .undef :: .undef :: .undef :: .undef :: .undef :: .undef :: .undef :: .undef :: .undef :: .undef :: .undef :: .undef :: .undef :: .undef :: .undef :: .undef :: .undef :: .undef :: .undef :: .undef :: .undef :: .undef :: .undef :: .undef :: .undef :: .undef :: []), [.cells true 90 CC, .cells true 28 CC], 0, []⟩
 refine VLoop.enter (s' := S 0) (weak_of ?_ (.cons (.eq rfl) (.cons (.eq rfl) .nil)) rfl rfl rfl)
  (VLoop.indW S (fun i => p.resets.length - i) (fun i => i <= p.resets.length /\ (resetsP p.times none p.resets ↔ resetsP p.times (pvO p.resets i) (p.resets.drop i))) ?_ 0 ⟨by omega, Iff.rfl⟩)
 · repeat' first
    | exact VWs.nil
    | refine VWs.cons VW.undef ?_
    | refine VWs.cons (VW.eq rfl) ?_
    | refine VWs.cons (VW.eq (by rw [hrl])) ?_
 rintro i ⟨hi, hinv⟩ ih
 refine loop_round [] ?_; conv=>whnf
 (repeat' first | (refine step_go [] ?_;conv=>whnf) | (refine two ?_ ?_<;>intro g<;>(try simp only[bsx]at g)<;>(conv=>whnf)) | (refine And.intro rfl ?_;conv=>whnf) | fail)
 · have hil : i < p.resets.length := by omega
   have hget : (rL p.resets)[((i : Nat) : Int).toNat]? = some (encR p.resets[i]) := by rw [Int.toNat_natCast]; simp [rL, List.getElem?_eq_getElem hil]
   have hdrop : p.resets.drop i = p.resets[i] :: p.resets.drop (i + 1) := List.drop_eq_getElem_cons hil
   obtain ⟨q, hq1, hq2⟩ := prev_ex encR p.resets i hil (by omega)
   have hpv := pvO_succ hil
   obtain ⟨d, hd⟩ : ∃ d, p.resets[i] = d := ⟨_, rfl⟩
   rw [hd] at hget hdrop hpv
   have hI := hp.resets d (by rw [← hd]; exact List.getElem_mem _)
   unfold I64 at hI
   rw [hdrop] at hinv
   conv at hinv => rhs; unfold resetsP
   rw [← hpv] at hinv
   refine ⟨by omega, _, hget, rfl, ?_⟩
   have wt : IntKind.i64.wrap (p.times - 1) = p.times - 1 := wrap64 (by omega) (by omega)
   have wi : IntKind.i64.wrap ((i : Int) + 1) = ((i + 1 : Nat) : Int) := by rw [wrap64 (by omega) (by omega)]; omega
   have hpan : ¬ ((1 <= d.aft /\ d.aft <= p.times - 1) /\ (0 <= d.rate /\ d.rate <= 1000000000) /\ (0 < i -> q.aft < d.aft)) -> K (.pan (.ifc 88 (.agg []))) [] := fun hh => h1 fun h => hh (by
    obtain ⟨a, b, c, _⟩ := hinv.1 h
    exact ⟨a, b, fun h0 => c q ((hq2 q).2 ⟨h0, rfl⟩)⟩)
   have hnext : (1 <= d.aft /\ d.aft <= p.times - 1) /\ (0 <= d.rate /\ d.rate <= 1000000000) /\ (0 < i -> q.aft < d.aft) -> VLoop _ _ _ (S (i + 1)) _ := fun hh => ih (i + 1) ⟨by omega, hinv.trans ⟨fun h => h.2.2.2, fun h => ⟨hh.1, hh.2.1, fun x hx => by obtain ⟨h0, rfl⟩ := (hq2 x).1 hx; exact hh.2.2 h0, h⟩⟩⟩ (by omega)
   conv=>whnf
   (repeat' first | (refine step_go [] ?_;conv=>whnf) | (refine two ?_ ?_<;>intro g<;>(try simp only[bsx, wt]at g)<;>(conv=>whnf)) | (refine And.intro rfl ?_;conv=>whnf) | (refine dr_go (by decide +kernel) ?_;conv=>whnf) | (refine c_within _ _ _ _ ?_;conv=>whnf) | (refine c_within64 _ _ _ _ ?_;conv=>whnf) | (refine c_must _ _ ?_;conv=>whnf) | (refine ⟨by rw [wrap64 (by omega) (by omega)]; omega, _, hq1 (by omega), rfl, ?_⟩;conv=>whnf) | fail)
   all_goals first
    | (refine hpan fun hh => ?_; omega)
    | (refine weak_sel (src := [0, 1]) ?_; conv=>whnf
       refine VLoop.enter (s' := S (i + 1)) (weak_of (by rw [wi]; (repeat' first | exact VWs.nil | refine VWs.cons VW.undef ?_ | refine VWs.cons (VW.eq rfl) ?_)) (.cons (.eq rfl) (.cons (.eq rfl) .nil)) rfl rfl rfl) (hnext (by omega)))
 · have hil : i = p.resets.length := by omega
   subst hil
   rw [List.drop_length] at hinv
   refine ⟨_, Weak.refl, ?_⟩
   conv=>whnf
   (repeat' first | (refine step_go [] ?_;conv=>whnf) | (refine two ?_ ?_<;>intro g<;>(try simp only[bsx]at g)<;>(conv=>whnf)) | (refine And.intro rfl ?_;conv=>whnf) | fail)
   exact h0 (hinv.2 trivial)
end C6

namespace C7
open Go Go.Proofs VL D1 B10 C2 C3 C5
def fltL (p e : Int) : V := .ifc 80 (.agg [.int .i64 p, .int .i64 e])
theorem goes1 : goesB 1 = wordB := by funext c; simp [goesB]
theorem goes2 : goesB 2 = numB := by funext c; simp [goesB]
theorem goes3 : goesB 3 = fun _ => false := by funext c; simp [goesB]
theorem run_txt {l : List Int} {j : Nat} {c : Int} {r : List Int} (h : l.drop j = c :: r) (g : Int -> Bool) : (l.drop j).take (1 + ((l.drop (j + 1)).takeWhile g).length) = c :: r.takeWhile g := by
 have h1 : l.drop (j + 1) = r := by rw [← List.drop_drop, h]; rfl
 rw [h, h1, Nat.add_comm, List.take_succ_cons]
 congr 1
 have : ∀ (l : List Int), l.take (l.takeWhile g).length = l.takeWhile g := fun l => by
  induction l with
  | nil => rfl
  | cons x l ih =>
    cases hx : g x
    · rw [List.takeWhile_cons_of_neg (by simp [hx])]; rfl
    · rw [List.takeWhile_cons_of_pos hx, List.length_cons, List.take_succ_cons, ih]
 exact this r
set_option maxHeartbeats 2000000 in
theorem c_lnext (s : ByteArray) (hs : s.size < 1000000) (i : Nat) (hi : i <= s.size) (K)
 (h0 : (sB s).drop (i + skipN false ((sB s).drop i)) = [] -> K (.ret (encK ⟨0, i + skipN false ((sB s).drop i), []⟩)) (lO s (i + skipN false ((sB s).drop i))))
 (h1 : ∀ c r k, (sB s).drop (i + skipN false ((sB s).drop i)) = c :: r -> kindS c r = some k -> K (.ret (encK ⟨k, i + skipN false ((sB s).drop i), c :: r.takeWhile (goesB k)⟩)) (lO s (i + skipN false ((sB s).drop i) + 1 + (r.takeWhile (goesB k)).length)))
 (h2 : ∀ c r, (sB s).drop (i + skipN false ((sB s).drop i)) = c :: r -> kindS c r = none -> K (.pan (fltL (i + skipN false ((sB s).drop i) : Nat) 6)) (lO s (i + skipN false ((sB s).drop i)))) :
 VCall Tryz.prog 40 [.ptr 0 0] (lO s i) K := by
 have hsl := sB_len s
 have hsk := skipN_le false ((sB s).drop i)
 rw [List.length_drop] at hsk
 refine call_fun [] 1 Tryz.func40 (by rfl) (by rfl) ?_
 (conv=>whnf); (repeat (refine step_go [] ?_;conv=>whnf))
 refine c_pass s hs i hi _ ?_
 obtain ⟨j, hj⟩ : ∃ j, i + skipN false ((sB s).drop i) = j := ⟨_, rfl⟩
 rw [hj] at h0 h1 h2 ⊢
 conv=>whnf
 (repeat' first | (refine step_go [] ?_;conv=>whnf) | (refine two ?_ ?_<;>intro g<;>(try simp only[bsx]at g)<;>(conv=>whnf)) | (refine And.intro rfl ?_;conv=>whnf) | (refine dr_go (by decide +kernel) ?_;conv=>whnf) | fail)
 · have e : j = s.size := by omega
   exact h0 (List.drop_eq_nil_of_le (by omega))
 · have hjl : j < s.size := by omega
   obtain ⟨c, hc, hd⟩ := drop_at hjl
   obtain ⟨r, hr⟩ : ∃ r, (sB s).drop (j + 1) = r := ⟨_, rfl⟩
   rw [hr] at hd
   have wj : IntKind.i64.wrap ((j : Int) + 1) = ((j + 1 : Nat) : Int) := by rw [wrap64 (by omega) (by omega)]; omega
   refine idx_str (x := c) (by omega) (by simpa using hc) fun b hb => ?_
   conv=>whnf
   (repeat (refine step_go [] ?_;conv=>whnf))
   rw [hb]
   clear hb b
   have hret : ∀ k g, kindS c r = some k -> goesB k = g -> K (.ret (.agg [.int .i64 k, .int .i64 j, .str (toBA (((sB s).drop j).take (1 + (((sB s).drop (j + 1)).takeWhile g).length)))])) (lO s (j + 1 + (((sB s).drop (j + 1)).takeWhile g).length)) := fun k g hk hg => by
    have := h1 c r k hd hk
    rw [hg] at this
    rw [run_txt hd, hr]; exact this
   (repeat' first | (refine step_go [] ?_;conv=>whnf) | (refine two ?_ ?_<;>intro g<;>(try simp only[bsx, letB_iff, digB_iff, letB_no, digB_no, wj]at g)<;>(conv=>whnf)) | (refine And.intro rfl ?_;conv=>whnf) | (refine dr_go (by decide +kernel) ?_;conv=>whnf) | (refine c_letter _ _ ?_;conv=>whnf) | (refine c_ldigit _ _ ?_;conv=>whnf) | (refine c_run s hs j hjl 1 _ wordB c_inWord _ ?_;conv=>whnf) | (refine c_run s hs j hjl 2 _ numB c_inNumber _ ?_;conv=>whnf) | (refine c_run s hs j hjl 3 _ (fun _ => false) c_never _ ?_;conv=>whnf) | fail)
   all_goals first
    | exact hret 1 _ (kind1 r g) goes1
    | (exfalso; omega)
    | exact hret 2 _ (kind2 r (by omega) (.inl (by omega))) goes2
    | exact hret 3 _ (kind3 r (by omega)) goes3
    | (refine h2 c r hd (kind0 r (by omega) ?_ (by omega))
       rintro (h | ⟨h, d, hd1, hd2⟩)
       · omega
       · first
          | omega
          | (rw [← hr, List.drop_eq_nil_of_le (by omega)] at hd1; cases hd1))
    | skip
   obtain ⟨d, hd1, hd2⟩ := drop_at (s := s) (i := j + 1) (by rw [wj] at *; omega)
   rw [hr] at hd2
   have hh : r.head? = some d := by rw [hd2]; rfl
   refine idx_str (x := d) (by rw [wj]; omega) (by rw [wj, Int.toNat_natCast]; exact hd1) fun b hb => ?_
   conv=>whnf
   (repeat (refine step_go [] ?_;conv=>whnf))
   rw [hb]
   clear hb b
   (repeat' first | (refine step_go [] ?_;conv=>whnf) | (refine two ?_ ?_<;>intro g<;>(try simp only[bsx, letB_iff, digB_iff, letB_no, digB_no, wj]at g)<;>(conv=>whnf)) | (refine And.intro rfl ?_;conv=>whnf) | (refine dr_go (by decide +kernel) ?_;conv=>whnf) | (refine c_letter _ _ ?_;conv=>whnf) | (refine c_ldigit _ _ ?_;conv=>whnf) | (refine c_run s hs j hjl 1 _ wordB c_inWord _ ?_;conv=>whnf) | (refine c_run s hs j hjl 2 _ numB c_inNumber _ ?_;conv=>whnf) | (refine c_run s hs j hjl 3 _ (fun _ => false) c_never _ ?_;conv=>whnf) | fail)
   all_goals first
    | (exfalso; omega)
    | exact hret 2 _ (kind2 r (by omega) (.inr ⟨by omega, d, hh, by unfold Dig; omega⟩)) goes2
    | exact hret 3 _ (kind3 r (by omega)) goes3
    | (refine h2 c r hd (kind0 r (by omega) ?_ (by omega))
       rintro (h | ⟨h, d', hd1, hd2⟩)
       · omega
       · rw [hh] at hd1; cases hd1; unfold Dig at hd2; omega)
end C7

namespace C8
open Go Go.Proofs VL D1 B10 C2 C3 C5 C7
def aO (a : V) (b c : Int) : List VObj := [.cells true 48 [a], .cells true 3 [.int .i64 b], .cells true 29 [.int .i64 c]]
theorem d_all0 (n k : Nat) (b c : Int) (mv : Bool) (L : List V) (K) (h : K false (aO (.slo 3 3 0 n k) b c ++ [.buf mv 3 L])) :
 VCallD Tryz.prog 39 [.ptr 0 0, .ptr 1 0, .ptr 2 0] (aO (.slo 3 3 0 n k) b c ++ [.buf mv 3 L]) none K := by
 unfold aO at h ⊢
 refine calld_fun [] 4 Tryz.func39 (by rfl) (by rfl) ?_
 conv=>whnf
 refine ⟨rfl, ?_⟩
 conv=>whnf
 (repeat' first | (refine step_go [] ?_;conv=>whnf) | (refine two ?_ ?_<;>intro g<;>(try simp only[bsx]at g)<;>(conv=>whnf)) | (refine And.intro rfl ?_;conv=>whnf) | (refine dr_go (by decide +kernel) ?_;conv=>whnf) | fail)
 exact h
theorem d_all1 (n k : Nat) (b c : Int) (mv : Bool) (L : List V) (p e : Int) (K) (h : K true (aO (.sl [] .ex) p e ++ [.buf mv 3 L])) :
 VCallD Tryz.prog 39 [.ptr 0 0, .ptr 1 0, .ptr 2 0] (aO (.slo 3 3 0 n k) b c ++ [.buf mv 3 L]) (some (fltL p e)) K := by
 unfold fltL
 unfold aO at h ⊢
 refine calld_fun [] 4 Tryz.func39 (by rfl) (by rfl) ?_
 conv=>whnf
 refine ⟨rfl, ?_⟩
 conv=>whnf
 (repeat' first | (refine step_go [] ?_;conv=>whnf) | (refine two ?_ ?_<;>intro g<;>(try simp only[bsx]at g)<;>(conv=>whnf)) | (refine And.intro rfl ?_;conv=>whnf) | (refine dr_go (by decide +kernel) ?_;conv=>whnf) | fail)
 exact h
theorem d_all2 (b c : Int) (p e : Int) (K) (h : K true (aO (.sl [] .ex) p e)) :
 VCallD Tryz.prog 39 [.ptr 0 0, .ptr 1 0, .ptr 2 0] (aO (.sl [] .ex) b c) (some (fltL p e)) K := by
 unfold fltL
 unfold aO at h ⊢
 refine calld_fun [] 3 Tryz.func39 (by rfl) (by rfl) ?_
 conv=>whnf
 refine ⟨rfl, ?_⟩
 conv=>whnf
 (repeat' first | (refine step_go [] ?_;conv=>whnf) | (refine two ?_ ?_<;>intro g<;>(try simp only[bsx]at g)<;>(conv=>whnf)) | (refine And.intro rfl ?_;conv=>whnf) | (refine dr_go (by decide +kernel) ?_;conv=>whnf) | fail)
 exact h
theorem kL_len (l : List Tok) : (kL l).length = l.length := by simp [kL]
theorem V_slo {o z lo n n' c c' : Nat} (h1 : n = n') (h2 : c = c') : V.slo o z lo n c = V.slo o z lo n' c' := by subst h1; subst h2; rfl
theorem kind_in {c : Int} {r : List Int} {k : Int} (h : kindS c r = some k) : k = 1 \/ k = 2 \/ k = 3 := by
 unfold kindS at h
 repeat' split at h
 all_goals simp at h
 all_goals omega
def Lx.pre (a : List Tok) : Lx -> Lx
 | .ok l => .ok (a ++ l)
 | .bad p => .bad p
theorem pre_cons (a : List Tok) (t : Tok) (x : Lx) : Lx.pre a (x.cons t) = Lx.pre (a ++ [t]) x := by cases x <;> simp [Lx.pre, Lx.cons]
theorem lexF_step {f : Nat} {l : List Int} {i : Nat} : lexF (f + 1) l i = match l.drop (skipN false l) with
 | [] => .ok [⟨0, i + skipN false l, []⟩]
 | c :: r => match kindS c r with
   | none => .bad (i + skipN false l)
   | some k => (lexF f (r.dropWhile (goesB k)) (i + skipN false l + 1 + (r.takeWhile (goesB k)).length)).cons ⟨k, i + skipN false l, c :: r.takeWhile (goesB k)⟩ := rfl
theorem end_frz {L : List V} {l : List C3.Tok} {sp : List V} {n c : Nat} {a b : Int} {K : Out -> List VObj -> Prop} (hL : L = kL l ++ sp) (hc : c = l.length + sp.length) (hn : n = l.length) (h : K (.ret (.tup [.sl (kL l) .no, .int .i64 a, .int .i64 b])) []) :
 ∃ v' sub', Weak 0 ⟨[.tup [.slo 0 3 0 n c, .int .i64 a, .int .i64 b]], [.buf false 3 L], 0, []⟩ ⟨[v'], sub', 0, []⟩ /\ K (.ret v') sub' := by
 subst hL hc hn
 obtain ⟨s', hw, hk⟩ := weak_frz (m := 0) 0 false (s := ⟨[.tup [.slo 0 3 0 l.length (l.length + sp.length), .int .i64 a, .int .i64 b]], [.buf false 3 (kL l ++ sp)], 0, []⟩)
  (K := fun s' => Weak 0 s' ⟨[.tup [.sl (kL l) .no, .int .i64 a, .int .i64 b]], [], 0, []⟩) (by
    conv=>whnf
    refine ⟨by simp [kL], ?_⟩
    conv=>whnf
    refine weak_of (.cons (.eq ?_) .nil) .nil rfl rfl rfl
    rw [List.drop_zero, ← kL_len, List.take_left])
 exact ⟨_, _, hw.trans hk, h⟩
set_option maxHeartbeats 2000000 in
theorem c_All (s : ByteArray) (hs : s.size < 1000000) (K)
 (h0 : ∀ l, lexS (sB s) = .ok l -> K (.ret (.tup [.sl (kL l) .no, .int .i64 0, .int .i64 0])) [])
 (h1 : ∀ p e, lexS (sB s) = .error (p, e) -> K (.ret (.tup [.sl [] .no, .int .i64 p, .int .i64 e])) []) : VCall Tryz.prog 18 [.str s] [] K := by
 have hsl := sB_len s
 refine VCall.weak (call_fun [] 0 Tryz.func18 (by rfl) (by rfl) ?_)
 conv=>whnf
 (repeat' first | (refine step_go [] ?_;conv=>whnf) | (refine two ?_ ?_<;>intro g<;>(try simp only[bsx]at g)<;>(conv=>whnf)) | (refine And.intro rfl ?_;conv=>whnf) | (refine dr_go (by decide +kernel) ?_;conv=>whnf) | fail)
 · have hb : lexS (sB s) = .error (0, 3) := by unfold lexS; rw [if_pos (by omega)]
   refine d_all2 0 0 0 3 _ ?_
   conv=>whnf
   (repeat' first | (refine step_go [] ?_;conv=>whnf) | (refine two ?_ ?_<;>intro g<;>(try simp only[bsx]at g)<;>(conv=>whnf)) | (refine And.intro rfl ?_;conv=>whnf) | (refine dr_go (by decide +kernel) ?_;conv=>whnf) | fail)
   exact ⟨_, _, weak_of (.cons (.tup (.cons .no (.cons (.eq rfl) (.cons (.eq rfl) .nil)))) .nil) .nil rfl rfl rfl, h1 0 3 hb⟩
 have hsz : s.size <= 20000 := by omega
 have hok : ∀ l, lexF ((sB s).length + 1) (sB s) 0 = .ok l -> lexS (sB s) = .ok l := fun l e => by unfold lexS; rw [if_neg (by omega), e]
 have hbad : ∀ p, lexF ((sB s).length + 1) (sB s) 0 = .bad p -> lexS (sB s) = .error (p, 6) := fun l e => by unfold lexS; rw [if_neg (by omega), e]
 let OB : Nat -> List Tok -> List V -> List VObj := fun i acc sp => [.cells true 48 [.slo 4 3 0 acc.length (acc.length + sp.length)], .cells true 3 [.int .i64 0], .cells true 29 [.int .i64 0], .cells true 83 [.str s, .int .i64 i], .buf false 3 (kL acc ++ sp)]
 let S : Nat × Nat × List Tok × List V -> St := fun x => ⟨(.str s :: .undef :: .ptr 0 0 :: .ptr 1 0 :: .ptr 2 0 :: .ptr 3 0 :: .undef :: .undef :: .undef :: .undef :: .undef :: .undef :: .undef :: .undef :: .undef :: .undef :: .undef :: .undef :: .undef :: .undef :: .undef :: .undef :: .undef :: .undef :: .undef :: .undef :: []), OB x.2.1 x.2.2.1 x.2.2.2, 0, [(.func 39, [], [.ptr 0 0, .ptr 1 0, .ptr 2 0])]⟩
 refine VLoop.enter (s' := S ((sB s).length + 1, 0, [], [])) (Weak.trans (weak_nil 0 0 3 none rfl rfl (Nat.zero_le _)) (weak_of ?_ (.cons (.eq rfl) (.cons (.eq rfl) (.cons (.eq rfl) (.cons (.eq rfl) (.cons (.eq rfl) .nil))))) rfl rfl rfl))
  (VLoop.indW S (fun x => x.1) (fun x => x.2.1 <= s.size /\ s.size + 1 <= x.1 + x.2.1 /\ x.2.2.1.length <= x.2.1 /\ lexF ((sB s).length + 1) (sB s) 0 = Lx.pre x.2.2.1 (lexF x.1 ((sB s).drop x.2.1) x.2.1)) ?_ ((sB s).length + 1, 0, [], []) ⟨by simp, by simp; omega, by simp, ?_⟩)
 · (repeat' first | exact VWs.nil | refine VWs.cons VW.undef ?_ | refine VWs.cons (VW.eq rfl) ?_)
 rotate_left
 · simp only [List.drop_zero]; cases lexF ((sB s).length + 1) (sB s) 0 <;> rfl
 rintro ⟨f, i, acc, sp⟩ ⟨hi, hf, hac, hinv⟩ ih
 simp only at hi hf hac hinv
 obtain ⟨f, rfl⟩ : ∃ f', f = f' + 1 := ⟨f - 1, by omega⟩
 conv at hinv => rhs; rw [lexF_step]
 rw [List.drop_drop] at hinv
 have hkl := kL_len acc
 refine loop_round [] ?_; conv=>whnf
 (repeat (refine step_go [] ?_;conv=>whnf))
 refine c_lnext s hs i hi _ (fun e => ?_) (fun c r k e hk => ?_) (fun c r e hk => ?_)
 · rw [e] at hinv
   obtain ⟨tk, htk⟩ : ∃ tk : C3.Tok, tk = ⟨0, i + skipN false ((sB s).drop i), []⟩ := ⟨_, rfl⟩
   have hinv : lexF ((sB s).length + 1) (sB s) 0 = .ok (acc ++ [tk]) := by rw [hinv, htk]; rfl
   rw [← htk]
   conv=>whnf
   (repeat' first | (refine step_go [] ?_;conv=>whnf) | (refine two ?_ ?_<;>intro g<;>(try simp only[bsx]at g)<;>(conv=>whnf)) | (refine And.intro rfl ?_;conv=>whnf) | (refine dr_go (by decide +kernel) ?_;conv=>whnf) | fail)
   refine ⟨by simp; omega, by simp [V.cells], ?_⟩
   conv=>whnf
   (repeat' first | (refine step_go [] ?_;conv=>whnf) | (refine two ?_ ?_<;>intro g<;>(try simp only[bsx]at g)<;>(conv=>whnf)) | (refine And.intro rfl ?_;conv=>whnf) | (refine dr_go (by decide +kernel) ?_;conv=>whnf) | fail)
   · have hsp1 : 1 <= sp.length := by have := Nat.le_of_ble_eq_true g; simp at this; omega
     refine ⟨by rw [List.length_append, hkl]; simp, ?_⟩
     conv=>whnf
     (repeat' first | (refine step_go [] ?_;conv=>whnf) | (refine two ?_ ?_<;>intro g<;>(try simp only[bsx]at g)<;>(conv=>whnf)) | (refine And.intro rfl ?_;conv=>whnf) | (refine dr_go (by decide +kernel) ?_;conv=>whnf) | fail)
     rotate_left
     · exfalso; rw [htk] at g; simp at g
     refine ⟨_, Weak.refl, ?_⟩
     conv=>whnf
     (repeat' first | (refine step_go [] ?_;conv=>whnf) | (refine two ?_ ?_<;>intro g<;>(try simp only[bsx]at g)<;>(conv=>whnf)) | (refine And.intro rfl ?_;conv=>whnf) | (refine dr_go (by decide +kernel) ?_;conv=>whnf) | fail)
     refine d_all0 _ _ _ _ _ _ _ ?_
     conv=>whnf
     (repeat' first | (refine step_go [] ?_;conv=>whnf) | (refine two ?_ ?_<;>intro g<;>(try simp only[bsx]at g)<;>(conv=>whnf)) | (refine And.intro rfl ?_;conv=>whnf) | (refine dr_go (by decide +kernel) ?_;conv=>whnf) | fail)
     refine end_frz (sp := sp.drop 1) (app_in encK acc tk sp) (by simp; omega) (by simp) ?_
     exact h0 _ (hok _ hinv)
   · refine ⟨by rw [List.length_append, hkl]; simp, fun sp' hsp => ?_⟩
     conv=>whnf
     (repeat' first | (refine step_go [] ?_;conv=>whnf) | (refine two ?_ ?_<;>intro g<;>(try simp only[bsx]at g)<;>(conv=>whnf)) | (refine And.intro rfl ?_;conv=>whnf) | (refine dr_go (by decide +kernel) ?_;conv=>whnf) | fail)
     rotate_left
     · exfalso; rw [htk] at g; simp at g
     refine ⟨_, Weak.refl, ?_⟩
     conv=>whnf
     (repeat' first | (refine step_go [] ?_;conv=>whnf) | (refine two ?_ ?_<;>intro g<;>(try simp only[bsx]at g)<;>(conv=>whnf)) | (refine And.intro rfl ?_;conv=>whnf) | (refine dr_go (by decide +kernel) ?_;conv=>whnf) | fail)
     refine d_all0 _ _ _ _ _ _ _ ?_
     conv=>whnf
     (repeat' first | (refine step_go [] ?_;conv=>whnf) | (refine two ?_ ?_<;>intro g<;>(try simp only[bsx]at g)<;>(conv=>whnf)) | (refine And.intro rfl ?_;conv=>whnf) | (refine dr_go (by decide +kernel) ?_;conv=>whnf) | fail)
     refine end_frz (sp := sp') (app_gr encK acc tk sp sp') (by simp) (by simp) ?_
     exact h0 _ (hok _ hinv)
 · rw [e] at hinv
   simp only [hk] at hinv
   obtain ⟨tk, htk⟩ : ∃ tk : C3.Tok, tk = ⟨k, i + skipN false ((sB s).drop i), c :: r.takeWhile (goesB k)⟩ := ⟨_, rfl⟩
   obtain ⟨i', hi'⟩ : ∃ i', i' = i + skipN false ((sB s).drop i) + 1 + (r.takeWhile (goesB k)).length := ⟨_, rfl⟩
   have hr : r = (sB s).drop (i + skipN false ((sB s).drop i) + 1) := by rw [← List.drop_drop, e]; rfl
   have hrl : r.length + (i + skipN false ((sB s).drop i) + 1) = s.size := by
    have := congrArg List.length e
    rw [List.length_drop, List.length_cons] at this; omega
   have htw := takeW_le (goesB k) r
   have hdr : r.dropWhile (goesB k) = (sB s).drop i' := by rw [dropW_eq, hi', hr, List.drop_drop]
   rw [hdr, ← hi', ← htk, pre_cons] at hinv
   have hk0 : k = 1 \/ k = 2 \/ k = 3 := kind_in hk
   rw [← htk, ← hi']
   conv=>whnf
   (repeat' first | (refine step_go [] ?_;conv=>whnf) | (refine two ?_ ?_<;>intro g<;>(try simp only[bsx]at g)<;>(conv=>whnf)) | (refine And.intro rfl ?_;conv=>whnf) | (refine dr_go (by decide +kernel) ?_;conv=>whnf) | fail)
   refine ⟨by simp; omega, by simp [V.cells], ?_⟩
   conv=>whnf
   (repeat' first | (refine step_go [] ?_;conv=>whnf) | (refine two ?_ ?_<;>intro g<;>(try simp only[bsx]at g)<;>(conv=>whnf)) | (refine And.intro rfl ?_;conv=>whnf) | (refine dr_go (by decide +kernel) ?_;conv=>whnf) | fail)
   · have hsp1 : 1 <= sp.length := by have := Nat.le_of_ble_eq_true g; simp at this; omega
     refine ⟨by rw [List.length_append, hkl]; simp, ?_⟩
     conv=>whnf
     (repeat' first | (refine step_go [] ?_;conv=>whnf) | (refine two ?_ ?_<;>intro g<;>(try simp only[bsx]at g)<;>(conv=>whnf)) | (refine And.intro rfl ?_;conv=>whnf) | (refine dr_go (by decide +kernel) ?_;conv=>whnf) | fail)
     · exfalso; rw [htk] at g; simp only at g; omega
     refine weak_sel (src := [0, 1, 2, 3, 4]) ?_; conv=>whnf
     refine VLoop.enter (s' := S (f, i', acc ++ [tk], (sp.drop 1))) (weak_of ?_ (.cons (.eq ?_) (.cons (.eq rfl) (.cons (.eq rfl) (.cons (.eq rfl) (.cons (.eq ?_) .nil))))) rfl rfl rfl) (ih (f, i', acc ++ [tk], (sp.drop 1)) ⟨by simp only; omega, by simp only; omega, by simp only [List.length_append, List.length_singleton]; omega, hinv⟩ (by simp only; omega))
     · (repeat' first | exact VWs.nil | refine VWs.cons VW.undef ?_ | refine VWs.cons (VW.eq rfl) ?_)
     · exact congrArg (fun x => VObj.cells true 48 [x]) (V_slo (by simp) (by simp; omega))
     · exact congrArg (fun x => VObj.buf false 3 x none) (app_in encK acc tk sp)
   · refine ⟨by rw [List.length_append, hkl]; simp, fun sp' hsp => ?_⟩
     conv=>whnf
     (repeat' first | (refine step_go [] ?_;conv=>whnf) | (refine two ?_ ?_<;>intro g<;>(try simp only[bsx]at g)<;>(conv=>whnf)) | (refine And.intro rfl ?_;conv=>whnf) | (refine dr_go (by decide +kernel) ?_;conv=>whnf) | fail)
     · exfalso; rw [htk] at g; simp only at g; omega
     refine weak_sel (src := [0, 1, 2, 3, 6]) ?_; conv=>whnf
     refine VLoop.enter (s' := S (f, i', acc ++ [tk], sp')) (weak_of ?_ (.cons (.eq ?_) (.cons (.eq rfl) (.cons (.eq rfl) (.cons (.eq rfl) (.cons (.eq ?_) .nil))))) rfl rfl rfl) (ih (f, i', acc ++ [tk], sp') ⟨by simp only; omega, by simp only; omega, by simp only [List.length_append, List.length_singleton]; omega, hinv⟩ (by simp only; omega))
     · (repeat' first | exact VWs.nil | refine VWs.cons VW.undef ?_ | refine VWs.cons (VW.eq rfl) ?_)
     · exact congrArg (fun x => VObj.cells true 48 [x]) (V_slo (by simp) (by simp))
     · exact congrArg (fun x => VObj.buf false 3 x none) (app_gr encK acc tk sp sp')
 · rw [e] at hinv
   simp only [hk] at hinv
   conv=>whnf
   (repeat' first | (refine step_go [] ?_;conv=>whnf) | (refine two ?_ ?_<;>intro g<;>(try simp only[bsx]at g)<;>(conv=>whnf)) | (refine And.intro rfl ?_;conv=>whnf) | (refine dr_go (by decide +kernel) ?_;conv=>whnf) | fail)
   refine d_all1 acc.length (acc.length + sp.length) 0 0 false (kL acc ++ sp) (i + skipN false ((sB s).drop i) : Nat) 6 _ ?_
   conv=>whnf
   (repeat' first | (refine step_go [] ?_;conv=>whnf) | (refine two ?_ ?_<;>intro g<;>(try simp only[bsx]at g)<;>(conv=>whnf)) | (refine And.intro rfl ?_;conv=>whnf) | (refine dr_go (by decide +kernel) ?_;conv=>whnf) | fail)
   exact ⟨_, _, weak_of (.cons (.tup (.cons .no (.cons (.eq rfl) (.cons (.eq rfl) .nil)))) .nil) .nil rfl rfl rfl, h1 _ 6 (hbad _ hinv)⟩
end C8

namespace C9
open Go Go.Proofs VL D1 B10 C2 C3 C5 C7 C8
theorem c_rlet (c : Int) (K) (h : K (.ret (.bool (letB c))) []) : VCall Tryz.prog 86 [.int .u8 c] [] K := by
 have hfin : ∀ b, letB c = b -> K (.ret (.bool b)) [] := fun b e => by rw [e] at h; exact h
 clear h
 refine call_fun [] 0 Tryz.func86 (by rfl) (by rfl) ?_
 conv=>whnf
 (repeat' first | (refine step_go [] ?_;conv=>whnf) | (refine two ?_ ?_<;>intro g<;>(try simp only[bsx]at g)<;>(conv=>whnf)) | (refine And.intro rfl ?_;conv=>whnf) | fail)
 all_goals (refine hfin _ ?_; rw [Bool.eq_iff_iff, letB_iff]; simp; omega)
theorem c_rdig (c : Int) (K) (h : K (.ret (.bool (digB c))) []) : VCall Tryz.prog 87 [.int .u8 c] [] K := by
 have hfin : ∀ b, digB c = b -> K (.ret (.bool b)) [] := fun b e => by rw [e] at h; exact h
 clear h
 refine call_fun [] 0 Tryz.func87 (by rfl) (by rfl) ?_
 conv=>whnf
 (repeat' first | (refine step_go [] ?_;conv=>whnf) | (refine two ?_ ?_<;>intro g<;>(try simp only[bsx]at g)<;>(conv=>whnf)) | (refine And.intro rfl ?_;conv=>whnf) | fail)
 all_goals (refine hfin _ ?_; rw [Bool.eq_iff_iff, digB_iff]; simp; omega)
theorem c_goes (k c : Int) (hk : k = 1 \/ k = 2) (K) (h : K (.ret (.bool (goesB k c))) []) : VCall Tryz.prog 52 [.int .i64 k, .int .u8 c] [] K := by
 have hfin : ∀ b, goesB k c = b -> K (.ret (.bool b)) [] := fun b e => by rw [e] at h; exact h
 clear h
 rcases hk with rfl | rfl
 · refine call_fun [] 0 Tryz.func52 (by rfl) (by rfl) ?_
   conv=>whnf
   (repeat' first | (refine step_go [] ?_;conv=>whnf) | (refine two ?_ ?_<;>intro g<;>(try simp only[bsx]at g)<;>(conv=>whnf)) | (refine And.intro rfl ?_;conv=>whnf) | (refine c_rlet _ _ ?_;conv=>whnf) | (refine c_rdig _ _ ?_;conv=>whnf) | fail)
   all_goals (refine hfin _ ?_; rw [goes1, Bool.eq_iff_iff, wordB_iff]; simp_all)
 · refine call_fun [] 0 Tryz.func52 (by rfl) (by rfl) ?_
   conv=>whnf
   (repeat' first | (refine step_go [] ?_;conv=>whnf) | (refine two ?_ ?_<;>intro g<;>(try simp only[bsx]at g)<;>(conv=>whnf)) | (refine And.intro rfl ?_;conv=>whnf) | (refine c_rlet _ _ ?_;conv=>whnf) | (refine c_rdig _ _ ?_;conv=>whnf) | fail)
   all_goals (refine hfin _ ?_; rw [goes2, Bool.eq_iff_iff, numB_iff]; simp_all)
theorem c_rkind (s : ByteArray) (hs : s.size < 1000000) (j : Nat) (c : Int) (r : List Int) (hd : (sB s).drop j = c :: r) (K) (h : K (.ret (.int .i64 ((kindS c r).getD (-1)))) []) : VCall Tryz.prog 51 [.str s, .int .i64 j] [] K := by
 have hsl := sB_len s
 have hjl : j < s.size := by
  have := congrArg List.length hd
  rw [List.length_drop, List.length_cons] at this; omega
 have hc : (sB s)[j]? = some c := by
  have := congrArg (fun l => l[0]?) hd
  simpa using this
 have hr : (sB s).drop (j + 1) = r := by rw [← List.drop_drop, hd]; rfl
 have hret : ∀ k, kindS c r = k -> K (.ret (.int .i64 (k.getD (-1)))) [] := fun k e => by rw [e] at h; exact h
 have wj : IntKind.i64.wrap ((j : Int) + 1) = ((j + 1 : Nat) : Int) := by rw [wrap64 (by omega) (by omega)]; omega
 refine call_fun [] 0 Tryz.func51 (by rfl) (by rfl) ?_
 conv=>whnf
 (repeat' first | (refine step_go [] ?_;conv=>whnf) | (refine two ?_ ?_<;>intro g<;>(try simp only[bsx]at g)<;>(conv=>whnf)) | (refine And.intro rfl ?_;conv=>whnf) | fail)
 refine idx_str (x := c) (by omega) (by simpa using hc) fun b hb => ?_
 conv=>whnf
 (repeat (refine step_go [] ?_;conv=>whnf))
 rw [hb]
 clear hb b
 (repeat' first | (refine step_go [] ?_;conv=>whnf) | (refine two ?_ ?_<;>intro g<;>(try simp only[bsx, letB_iff, digB_iff, letB_no, digB_no, wj]at g)<;>(conv=>whnf)) | (refine And.intro rfl ?_;conv=>whnf) | (refine dr_go (by decide +kernel) ?_;conv=>whnf) | (refine c_rlet _ _ ?_;conv=>whnf) | (refine c_rdig _ _ ?_;conv=>whnf) | (refine ⟨_, Weak.refl, ?_⟩;conv=>whnf) | fail)
 all_goals first
  | exact hret (some 1) (kind1 r g)
  | (exfalso; omega)
  | exact hret (some 2) (kind2 r (by omega) (.inl (by omega)))
  | exact hret (some 3) (kind3 r (by omega))
  | (refine hret none (kind0 r (by omega) ?_ (by omega))
     rintro (h | ⟨h, d, hd1, hd2⟩)
     · omega
     · first
        | omega
        | (rw [← hr, List.drop_eq_nil_of_le (by omega)] at hd1; cases hd1))
  | skip
 obtain ⟨d, hd1, hd2⟩ := drop_at (s := s) (i := j + 1) (by rw [wj] at *; omega)
 rw [hr] at hd2
 have hh : r.head? = some d := by rw [hd2]; rfl
 refine idx_str (x := d) (by rw [wj]; omega) (by rw [wj, Int.toNat_natCast]; exact hd1) fun b hb => ?_
 conv=>whnf
 (repeat (refine step_go [] ?_;conv=>whnf))
 rw [hb]
 clear hb b
 (repeat' first | (refine step_go [] ?_;conv=>whnf) | (refine two ?_ ?_<;>intro g<;>(try simp only[bsx, letB_iff, digB_iff, letB_no, digB_no, wj]at g)<;>(conv=>whnf)) | (refine And.intro rfl ?_;conv=>whnf) | (refine dr_go (by decide +kernel) ?_;conv=>whnf) | (refine c_rlet _ _ ?_;conv=>whnf) | (refine c_rdig _ _ ?_;conv=>whnf) | (refine ⟨_, Weak.refl, ?_⟩;conv=>whnf) | fail)
 all_goals first
  | (exfalso; omega)
  | exact hret (some 2) (kind2 r (by omega) (.inr ⟨by omega, d, hh, by unfold Dig; omega⟩))
  | exact hret (some 3) (kind3 r (by omega))
  | (refine hret none (kind0 r (by omega) ?_ (by omega))
     rintro (h | ⟨h, d', hd1, hd2⟩)
     · omega
     · rw [hh] at hd1; cases hd1; unfold Dig at hd2; omega)
theorem skip_rem : ∀ (r : List Int), skipN true r = (r.takeWhile (· != 10)).length + skipN false (r.dropWhile (· != 10))
 | [] => rfl
 | c :: r => by
   by_cases h : c = 10
   · subst h
     rw [List.takeWhile_cons_of_neg (by simp), List.dropWhile_cons_of_neg (by simp)]
     simp [skipN]
   · rw [List.takeWhile_cons_of_pos (by simpa using h), List.dropWhile_cons_of_pos (by simpa using h), List.length_cons]
     have ih := skip_rem r
     conv => lhs; unfold skipN
     rw [if_neg h]
     split
     · rw [ih]; omega
     · rw [if_neg (by simp), ih]; omega
theorem lexF_skip {f : Nat} {l l' : List Int} {i n : Nat} (hl : l' = l.drop n) (hs : skipN false l = n + skipN false l') : lexF (f + 1) l i = lexF (f + 1) l' (i + n) := by
 rw [lexF_step, lexF_step, hl, List.drop_drop, ← hl, ← hs, show i + skipN false l = i + n + skipN false l' by omega]
theorem skip_blank {c : Int} {r : List Int} (h : c = 32 \/ c = 9 \/ c = 10) : skipN false (c :: r) = 1 + skipN false r := by
 conv => lhs; unfold skipN
 rcases h with rfl | rfl | rfl <;> simp
theorem skip_hash (r : List Int) : skipN false (35 :: r) = 1 + skipN true r := by
 conv => lhs; unfold skipN
 rw [if_neg (by decide), if_pos rfl]
theorem skip_no {c : Int} {r : List Int} (h : c ≠ 32 /\ c ≠ 9 /\ c ≠ 10 /\ c ≠ 35) : skipN false (c :: r) = 0 := by
 unfold skipN; rw [if_neg h.2.2.1, if_neg h.2.2.2, if_pos ⟨rfl, h.1, h.2.1⟩]
set_option maxHeartbeats 16000000 in
theorem c_rAll (s : ByteArray) (hs : s.size < 1000000) (K)
 (h0 : ∀ l, lexS (sB s) = .ok l -> K (.ret (.tup [.sl (kL l) .no, .int .i64 0, .int .i64 0])) [])
 (h1 : ∀ p e, lexS (sB s) = .error (p, e) -> K (.ret (.tup [.sl [] .no, .int .i64 p, .int .i64 e])) []) : VCall Tryz.prog 22 [.str s] [] K := by
 have hsl := sB_len s
 refine VCall.weak (call_fun [] 0 Tryz.func22 (by rfl) (by rfl) ?_)
 conv=>whnf
 (repeat' first | (refine step_go [] ?_;conv=>whnf) | (refine two ?_ ?_<;>intro g<;>(try simp only[bsx]at g)<;>(conv=>whnf)) | (refine And.intro rfl ?_;conv=>whnf) | fail)
 · have hb : lexS (sB s) = .error (0, 3) := by unfold lexS; rw [if_pos (by omega)]
   exact ⟨_, _, weak_of (.cons (.tup (.cons .no (.cons (.eq rfl) (.cons (.eq rfl) .nil)))) .nil) .nil rfl rfl rfl, h1 0 3 hb⟩
 have hsz : s.size <= 20000 := by omega
 have hok : ∀ l, lexF ((sB s).length + 1) (sB s) 0 = .ok l -> lexS (sB s) = .ok l := fun l e => by unfold lexS; rw [if_neg (by omega), e]
 have hbad : ∀ p, lexF ((sB s).length + 1) (sB s) 0 = .bad p -> lexS (sB s) = .error (p, 6) := fun l e => by unfold lexS; rw [if_neg (by omega), e]
 let S : Nat × Nat × List C3.Tok -> St := fun x => ⟨(.str s :: .undef :: .sl [] .ex :: .int .i64 0 :: .int .i64 0 :: .sl (kL x.2.2) (.tok 0 3) :: .int .i64 (x.2.1 : Nat) :: .undef :: .undef :: .undef :: .undef :: .undef :: .undef :: .undef :: .undef :: .undef :: .undef :: .undef :: .undef :: .undef :: .undef :: .undef :: .undef :: .undef :: .undef :: .undef :: .undef :: .undef :: .undef :: .undef :: .undef :: .undef :: .undef :: .undef :: .undef :: .undef :: .undef :: .undef :: .undef :: .undef :: .undef :: .undef :: .undef :: .undef :: .undef :: .undef :: .undef :: .undef :: .undef :: .undef :: .undef :: .undef :: .undef :: .undef :: .undef :: .undef :: .undef :: .undef :: .undef :: .undef :: .undef :: .undef :: .undef :: .undef :: .undef :: .undef :: .undef :: .undef :: .undef :: .undef :: .undef :: .undef :: .undef :: .undef :: .undef :: .undef :: .undef :: .undef :: .undef :: .undef :: .undef :: .undef :: .undef :: .undef :: .undef :: .undef :: .undef :: .undef :: []), [], 1, []⟩
 refine VLoop.enter (s' := S ((sB s).length + 1, 0, [])) (Weak.trans (weak_room (i := 5) (sz := 3) rfl (by decide) (by simp)) (weak_of ?_ .nil rfl rfl rfl))
  (VLoop.indW S (fun x => s.size - x.2.1) (fun x => x.2.1 <= s.size /\ s.size + 1 <= x.1 + x.2.1 /\ x.2.2.length <= x.2.1 /\ lexF ((sB s).length + 1) (sB s) 0 = Lx.pre x.2.2 (lexF x.1 ((sB s).drop x.2.1) x.2.1)) ?_ ((sB s).length + 1, 0, []) ⟨by simp, by simp; omega, by simp, ?_⟩)
 · (repeat' first | exact VWs.nil | refine VWs.cons VW.undef ?_ | refine VWs.cons (VW.eq rfl) ?_)
 rotate_left
 · simp only [List.drop_zero]; cases lexF ((sB s).length + 1) (sB s) 0 <;> rfl
 rintro ⟨f, i, acc⟩ ⟨hi, hf, hac, hinv⟩ ih
 simp only at hi hf hac hinv
 obtain ⟨f, rfl⟩ : ∃ f', f = f' + 1 := ⟨f - 1, by omega⟩
 have hkl := kL_len acc
 refine loop_round [] ?_; conv=>whnf
 (repeat' first | (refine step_go [] ?_;conv=>whnf) | (refine two ?_ ?_<;>intro g<;>(try simp only[bsx]at g)<;>(conv=>whnf)) | (refine And.intro rfl ?_;conv=>whnf) | fail)
 · have hil : i < s.size := by omega
   obtain ⟨c, hc, hd⟩ := drop_at hil
   obtain ⟨r, hr⟩ : ∃ r, (sB s).drop (i + 1) = r := ⟨_, rfl⟩
   rw [hr] at hd
   rw [hd] at hinv
   have wi : IntKind.i64.wrap ((i : Int) + 1) = ((i + 1 : Nat) : Int) := by rw [wrap64 (by omega) (by omega)]; omega
   have hblank : c = 32 \/ c = 9 \/ c = 10 -> VLoop _ _ _ (S (f + 1, i + 1, acc)) _ := fun hb => ih (f + 1, i + 1, acc) ⟨by simp only; omega, by simp only; omega, by simp only; omega, by
    rw [hinv]; simp only; rw [hr]; exact congrArg (Lx.pre acc) (lexF_skip (n := 1) rfl (skip_blank hb))⟩ (by simp only; omega)
   refine idx_str (x := c) (by omega) (by simpa using hc) fun b hb => ?_
   conv=>whnf
   (repeat (refine step_go [] ?_;conv=>whnf))
   rw [hb]
   clear hb b
   (repeat' first | (refine step_go [] ?_;conv=>whnf) | (refine two ?_ ?_<;>intro g<;>(try simp only[bsx]at g)<;>(conv=>whnf)) | (refine And.intro rfl ?_;conv=>whnf) | fail)
   · exact ⟨S (f + 1, i + 1, acc), weak_of (by rw [wi]; (repeat' first | exact VWs.nil | refine VWs.cons VW.undef ?_ | refine VWs.cons (VW.eq rfl) ?_)) .nil rfl rfl rfl, hblank (by omega)⟩
   · exact ⟨S (f + 1, i + 1, acc), weak_of (by rw [wi]; (repeat' first | exact VWs.nil | refine VWs.cons VW.undef ?_ | refine VWs.cons (VW.eq rfl) ?_)) .nil rfl rfl rfl, hblank (by omega)⟩
   · exact ⟨S (f + 1, i + 1, acc), weak_of (by rw [wi]; (repeat' first | exact VWs.nil | refine VWs.cons VW.undef ?_ | refine VWs.cons (VW.eq rfl) ?_)) .nil rfl rfl rfl, hblank (by omega)⟩
   · let S2 : Nat -> St := fun j => ⟨(.str s :: .undef :: .sl [] .ex :: .int .i64 0 :: .int .i64 0 :: .sl (kL acc) (.tok 0 3) :: .int .i64 (j : Nat) :: .undef :: .undef :: .undef :: .undef :: .undef :: .undef :: .undef :: .undef :: .undef :: .undef :: .undef :: .undef :: .undef :: .undef :: .undef :: .undef :: .undef :: .undef :: .undef :: .undef :: .undef :: .undef :: .undef :: .undef :: .undef :: .undef :: .undef :: .undef :: .undef :: .undef :: .undef :: .undef :: .undef :: .undef :: .undef :: .undef :: .undef :: .undef :: .undef :: .undef :: .undef :: .undef :: .undef :: .undef :: .undef :: .undef :: .undef :: .undef :: .undef :: .undef :: .undef :: .undef :: .undef :: .undef :: .undef :: .undef :: .undef :: .undef :: .undef :: .undef :: .undef :: .undef :: .undef :: .undef :: .undef :: .undef :: .undef :: .undef :: .undef :: .undef :: .undef :: .undef :: .undef :: .undef :: .undef :: .undef :: .undef :: .undef :: .undef :: .undef :: .undef :: []), [], 1, []⟩
     have hc10 : c ≠ 10 := by omega
     refine VLoop.enter (s' := S2 i) (weak_of ?_ .nil rfl rfl rfl)
      (VLoop.indW S2 (fun j => s.size - j) (fun j => i <= j /\ j <= s.size /\ j + (((sB s).drop j).takeWhile (· != 10)).length = i + (((sB s).drop i).takeWhile (· != 10)).length) ?_ i ⟨by omega, by omega, rfl⟩)
     · (repeat' first | exact VWs.nil | refine VWs.cons VW.undef ?_ | refine VWs.cons (VW.eq rfl) ?_)
     rintro j ⟨hij, hj, hjv⟩ ih2
     have fin : ((sB s).drop j).takeWhile (· != 10) = [] -> j ≠ i /\ VLoop _ _ _ (S (f + 1, j, acc)) _ := fun h0 => by
      rw [h0] at hjv
      simp only [List.length_nil, Nat.add_zero] at hjv
      rw [hd, List.takeWhile_cons_of_pos (by simpa using hc10), List.length_cons] at hjv
      refine ⟨by omega, ih (f + 1, j, acc) ⟨by simp only; omega, by simp only; omega, by simp only; omega, ?_⟩ (by simp only; omega)⟩
      have e35 : c = 35 := by omega
      subst e35
      rw [hinv]; simp only
      have hn : j = i + (1 + (r.takeWhile (· != 10)).length) := by omega
      have hdj : (sB s).drop j = (35 :: r).drop (1 + (r.takeWhile (· != 10)).length) := by rw [hn, ← List.drop_drop, hd]
      have hdw : r.dropWhile (· != 10) = (sB s).drop j := by rw [hdj, dropW_eq, Nat.add_comm, List.drop_succ_cons]
      rw [lexF_skip (n := 1 + (r.takeWhile (· != 10)).length) hdj (by rw [skip_hash, skip_rem, hdw]; omega), ← hn]
     refine loop_round [] ?_; conv=>whnf
     (repeat' first | (refine step_go [] ?_;conv=>whnf) | (refine two ?_ ?_<;>intro g<;>(try simp only[bsx]at g)<;>(conv=>whnf)) | (refine And.intro rfl ?_;conv=>whnf) | fail)
     · have hjl : j < s.size := by omega
       obtain ⟨d, hc2, hd2⟩ := drop_at hjl
       refine idx_str (x := d) (by omega) (by simpa using hc2) fun b hb => ?_
       conv=>whnf
       (repeat (refine step_go [] ?_;conv=>whnf))
       rw [hb]
       clear hb b
       (repeat' first | (refine step_go [] ?_;conv=>whnf) | (refine two ?_ ?_<;>intro g<;>(try simp only[bsx]at g)<;>(conv=>whnf)) | (refine And.intro rfl ?_;conv=>whnf) | fail)
       · refine ⟨S2 (j + 1), weak_of (by rw [show IntKind.i64.wrap ((j : Int) + 1) = ((j + 1 : Nat) : Int) by rw [wrap64 (by omega) (by omega)]; omega]; (repeat' first | exact VWs.nil | refine VWs.cons VW.undef ?_ | refine VWs.cons (VW.eq rfl) ?_)) .nil rfl rfl rfl, ih2 (j + 1) ⟨by omega, by omega, ?_⟩ (by omega)⟩
         rw [← hjv, hd2, List.takeWhile_cons_of_pos (by simpa using g), List.length_cons]; omega
       · obtain ⟨_, hl⟩ := fin (by rw [hd2, List.takeWhile_cons_of_neg (by simpa using g)])
         refine ⟨_, Weak.refl, ?_⟩
         conv=>whnf
         (repeat' first | (refine step_go [] ?_;conv=>whnf) | (refine two ?_ ?_<;>intro g<;>(try simp only[bsx]at g)<;>(conv=>whnf)) | (refine And.intro rfl ?_;conv=>whnf) | fail)
         exact ⟨S (f + 1, j, acc), weak_of (by (repeat' first | exact VWs.nil | refine VWs.cons VW.undef ?_ | refine VWs.cons (VW.eq rfl) ?_)) .nil rfl rfl rfl, hl⟩
     · obtain ⟨_, hl⟩ := fin (by rw [List.drop_eq_nil_of_le (by omega)]; rfl)
       refine ⟨_, Weak.refl, ?_⟩
       conv=>whnf
       (repeat' first | (refine step_go [] ?_;conv=>whnf) | (refine two ?_ ?_<;>intro g<;>(try simp only[bsx]at g)<;>(conv=>whnf)) | (refine And.intro rfl ?_;conv=>whnf) | fail)
       exact ⟨S (f + 1, j, acc), weak_of (by (repeat' first | exact VWs.nil | refine VWs.cons VW.undef ?_ | refine VWs.cons (VW.eq rfl) ?_)) .nil rfl rfl rfl, hl⟩
   · have hsk : skipN false (c :: r) = 0 := skip_no (by omega)
     conv at hinv => rhs; rw [lexF_step, hsk, List.drop_zero]
     simp only at hinv
     refine c_rkind s hs i c r hd _ ?_
     cases hk : kindS c r with
     | none =>
       rw [hk] at hinv
       conv=>whnf
       (repeat' first | (refine step_go [] ?_;conv=>whnf) | (refine two ?_ ?_<;>intro g<;>(try simp only[bsx]at g)<;>(conv=>whnf)) | (refine And.intro rfl ?_;conv=>whnf) | fail)
       refine ⟨_, Weak.refl, ?_⟩
       conv=>whnf
       exact ⟨_, _, weak_of (.cons (.tup (.cons .no (.cons (.eq rfl) (.cons (.eq rfl) .nil)))) .nil) .nil rfl rfl rfl, h1 _ 6 (hbad _ hinv)⟩
     | some k =>
       have hk0 : k = 1 \/ k = 2 \/ k = 3 := kind_in hk
       rw [hk] at hinv
       simp only at hinv
       conv=>whnf
       (repeat' first | (refine step_go [] ?_;conv=>whnf) | (refine two ?_ ?_<;>intro g<;>(try simp only[bsx]at g)<;>(conv=>whnf)) | (refine And.intro rfl ?_;conv=>whnf) | fail)
       · exfalso; simp only [Option.getD_some] at g; omega
       let S3 : Nat -> St := fun j => ⟨(.str s :: .undef :: .sl [] .ex :: .int .i64 0 :: .int .i64 0 :: .sl (kL acc) (.tok 0 3) :: .int .i64 (j : Nat) :: .undef :: .int .i64 k :: .int .i64 (i : Nat) :: .undef :: .undef :: .undef :: .undef :: .undef :: .undef :: .undef :: .undef :: .undef :: .undef :: .undef :: .undef :: .undef :: .undef :: .undef :: .undef :: .undef :: .undef :: .undef :: .undef :: .undef :: .undef :: .undef :: .undef :: .undef :: .undef :: .undef :: .undef :: .undef :: .undef :: .undef :: .undef :: .undef :: .undef :: .undef :: .undef :: .undef :: .undef :: .undef :: .undef :: .undef :: .undef :: .undef :: .undef :: .undef :: .undef :: .undef :: .undef :: .undef :: .undef :: .undef :: .undef :: .undef :: .undef :: .undef :: .undef :: .undef :: .undef :: .undef :: .undef :: .undef :: .undef :: .undef :: .undef :: .undef :: .undef :: .undef :: .undef :: .undef :: .undef :: .undef :: .undef :: .undef :: .undef :: .undef :: .undef :: .undef :: .undef :: []), [], 1, []⟩
       refine VLoop.enter (s' := S3 (i + 1)) (weak_of (by rw [wi]; (repeat' first | exact VWs.nil | refine VWs.cons VW.undef ?_ | refine VWs.cons (VW.eq rfl) ?_)) .nil rfl rfl rfl)
        (VLoop.indW S3 (fun j => s.size - j) (fun j => i + 1 <= j /\ j <= s.size /\ j + (((sB s).drop j).takeWhile (goesB k)).length = i + 1 + (r.takeWhile (goesB k)).length) ?_ (i + 1) ⟨by omega, by omega, by rw [hr]⟩)
       rintro j ⟨hij, hj, hjv⟩ ih2
       obtain ⟨tk, htk⟩ : ∃ tk : C3.Tok, tk = ⟨k, i, c :: r.takeWhile (goesB k)⟩ := ⟨_, rfl⟩
       have fin : ((sB s).drop j).takeWhile (goesB k) = [] -> (kL acc ++ [V.agg [.int .i64 k, .int .i64 i, .str (s.extract i j)]] = kL (acc ++ [tk])) /\ VLoop _ _ _ (S (f, j, acc ++ [tk])) _ := fun h0 => by
        rw [h0] at hjv
        simp only [List.length_nil, Nat.add_zero] at hjv
        have htx : toBA (c :: r.takeWhile (goesB k)) = s.extract i j := by
         rw [← run_txt hd (goesB k), hr, ← toBA_sB (s.extract i j), sB_ext, List.drop_take]
         congr 2; omega
        refine ⟨?_, ih (f, j, acc ++ [tk]) ⟨by simp only; omega, by simp only; omega, by simp only [List.length_append, List.length_singleton]; omega, ?_⟩ (by simp only; omega)⟩
        · rw [htk]; simp only [kL, List.map_append, List.map_cons, List.map_nil, encK, htx]
        · rw [hinv]; simp only
          rw [Nat.add_zero, pre_cons, htk]
          congr 2
          · rw [dropW_eq, hjv, ← hr, List.drop_drop]
          · omega
       refine loop_round [] ?_; conv=>whnf
       refine two ?_ ?_<;>intro g<;>(try simp only[bsx] at g) <;> (conv=>whnf)
       · (repeat' first | (refine step_go [] ?_;conv=>whnf) | (refine two ?_ ?_<;>intro g<;>(try simp only[bsx]at g)<;>(conv=>whnf)) | (refine And.intro rfl ?_;conv=>whnf) | fail)
         · have hjl : j < s.size := by omega
           obtain ⟨d, hc2, hd2⟩ := drop_at hjl
           refine idx_str (x := d) (by omega) (by simpa using hc2) fun b hb => ?_
           conv=>whnf
           (repeat (refine step_go [] ?_;conv=>whnf))
           rw [hb]
           clear hb b
           refine c_goes k d (by omega) _ ?_
           conv=>whnf
           (repeat' first | (refine step_go [] ?_;conv=>whnf) | (refine two ?_ ?_<;>intro g<;>(try simp only[bsx]at g)<;>(conv=>whnf)) | (refine And.intro rfl ?_;conv=>whnf) | fail)
           · refine ⟨S3 (j + 1), weak_of (by rw [show IntKind.i64.wrap ((j : Int) + 1) = ((j + 1 : Nat) : Int) by rw [wrap64 (by omega) (by omega)]; omega]; (repeat' first | exact VWs.nil | refine VWs.cons VW.undef ?_ | refine VWs.cons (VW.eq rfl) ?_)) .nil rfl rfl rfl, ih2 (j + 1) ⟨by omega, by omega, ?_⟩ (by omega)⟩
             rw [← hjv, hd2, List.takeWhile_cons_of_pos (by simpa using g), List.length_cons]; omega
           · obtain ⟨happ, hl⟩ := fin (by rw [hd2, List.takeWhile_cons_of_neg (by simpa using g)])
             refine ⟨_, Weak.refl, ?_⟩
             conv=>whnf
             (repeat' first | (refine step_go [] ?_;conv=>whnf) | (refine two ?_ ?_<;>intro g<;>(try simp only[bsx]at g)<;>(conv=>whnf)) | (refine And.intro rfl ?_;conv=>whnf) | (refine dr_go (by decide +kernel) ?_;conv=>whnf) | fail)
             refine ⟨by omega, by omega, by omega, ?_⟩
             conv=>whnf
             (repeat' first | (refine step_go [] ?_;conv=>whnf) | (refine two ?_ ?_<;>intro g<;>(try simp only[bsx]at g)<;>(conv=>whnf)) | (refine And.intro rfl ?_;conv=>whnf) | (refine dr_go (by decide +kernel) ?_;conv=>whnf) | fail)
             refine ⟨by simp [kL]; omega, by simp [V.cells], ?_⟩
             conv=>whnf
             (repeat' first | (refine step_go [] ?_;conv=>whnf) | (refine two ?_ ?_<;>intro g<;>(try simp only[bsx]at g)<;>(conv=>whnf)) | (refine And.intro rfl ?_;conv=>whnf) | (refine dr_go (by decide +kernel) ?_;conv=>whnf) | fail)
             exact ⟨S (f, j, acc ++ [tk]), weak_of (by
              repeat' first
               | exact VWs.nil
               | refine VWs.cons VW.undef ?_
               | refine VWs.cons (VW.eq rfl) ?_
               | refine VWs.cons (VW.eq (congrArg (fun x => V.sl x (.tok 0 3)) happ)) ?_) .nil rfl rfl rfl, hl⟩
         · obtain ⟨happ, hl⟩ := fin (by rw [List.drop_eq_nil_of_le (by omega)]; rfl)
           refine ⟨_, Weak.refl, ?_⟩
           conv=>whnf
           (repeat' first | (refine step_go [] ?_;conv=>whnf) | (refine two ?_ ?_<;>intro g<;>(try simp only[bsx]at g)<;>(conv=>whnf)) | (refine And.intro rfl ?_;conv=>whnf) | (refine dr_go (by decide +kernel) ?_;conv=>whnf) | fail)
           refine ⟨by omega, by omega, by omega, ?_⟩
           conv=>whnf
           (repeat' first | (refine step_go [] ?_;conv=>whnf) | (refine two ?_ ?_<;>intro g<;>(try simp only[bsx]at g)<;>(conv=>whnf)) | (refine And.intro rfl ?_;conv=>whnf) | (refine dr_go (by decide +kernel) ?_;conv=>whnf) | fail)
           refine ⟨by simp [kL]; omega, by simp [V.cells], ?_⟩
           conv=>whnf
           (repeat' first | (refine step_go [] ?_;conv=>whnf) | (refine two ?_ ?_<;>intro g<;>(try simp only[bsx]at g)<;>(conv=>whnf)) | (refine And.intro rfl ?_;conv=>whnf) | (refine dr_go (by decide +kernel) ?_;conv=>whnf) | fail)
           exact ⟨S (f, j, acc ++ [tk]), weak_of (by
            repeat' first
             | exact VWs.nil
             | refine VWs.cons VW.undef ?_
             | refine VWs.cons (VW.eq rfl) ?_
             | refine VWs.cons (VW.eq (congrArg (fun x => V.sl x (.tok 0 3)) happ)) ?_) .nil rfl rfl rfl, hl⟩
       · obtain ⟨happ, hl⟩ := fin (by
          have e3 : k = 3 := by simpa using g
          rw [e3, goes3]
          cases (sB s).drop j <;> simp)
         (repeat' first | (refine step_go [] ?_;conv=>whnf) | (refine two ?_ ?_<;>intro g<;>(try simp only[bsx]at g)<;>(conv=>whnf)) | (refine And.intro rfl ?_;conv=>whnf) | fail)
         refine ⟨_, Weak.refl, ?_⟩
         conv=>whnf
         (repeat' first | (refine step_go [] ?_;conv=>whnf) | (refine two ?_ ?_<;>intro g<;>(try simp only[bsx]at g)<;>(conv=>whnf)) | (refine And.intro rfl ?_;conv=>whnf) | (refine dr_go (by decide +kernel) ?_;conv=>whnf) | fail)
         refine ⟨by omega, by omega, by omega, ?_⟩
         conv=>whnf
         (repeat' first | (refine step_go [] ?_;conv=>whnf) | (refine two ?_ ?_<;>intro g<;>(try simp only[bsx]at g)<;>(conv=>whnf)) | (refine And.intro rfl ?_;conv=>whnf) | (refine dr_go (by decide +kernel) ?_;conv=>whnf) | fail)
         refine ⟨by simp [kL]; omega, by simp [V.cells], ?_⟩
         conv=>whnf
         (repeat' first | (refine step_go [] ?_;conv=>whnf) | (refine two ?_ ?_<;>intro g<;>(try simp only[bsx]at g)<;>(conv=>whnf)) | (refine And.intro rfl ?_;conv=>whnf) | (refine dr_go (by decide +kernel) ?_;conv=>whnf) | fail)
         exact ⟨S (f, j, acc ++ [tk]), weak_of (by
          repeat' first
           | exact VWs.nil
           | refine VWs.cons VW.undef ?_
           | refine VWs.cons (VW.eq rfl) ?_
           | refine VWs.cons (VW.eq (congrArg (fun x => V.sl x (.tok 0 3)) happ)) ?_) .nil rfl rfl rfl, hl⟩
 · have hil : i = s.size := by omega
   subst hil
   rw [List.drop_eq_nil_of_le (by omega)] at hinv
   have hinv : lexF ((sB s).length + 1) (sB s) 0 = .ok (acc ++ [⟨0, s.size, []⟩]) := by rw [hinv]; rfl
   refine ⟨_, Weak.refl, ?_⟩
   conv=>whnf
   (repeat' first | (refine step_go [] ?_;conv=>whnf) | (refine two ?_ ?_<;>intro g<;>(try simp only[bsx]at g)<;>(conv=>whnf)) | (refine And.intro rfl ?_;conv=>whnf) | (refine dr_go (by decide +kernel) ?_;conv=>whnf) | fail)
   refine ⟨by simp [kL]; omega, by simp [V.cells], ?_⟩
   conv=>whnf
   (repeat' first | (refine step_go [] ?_;conv=>whnf) | (refine two ?_ ?_<;>intro g<;>(try simp only[bsx]at g)<;>(conv=>whnf)) | (refine And.intro rfl ?_;conv=>whnf) | (refine dr_go (by decide +kernel) ?_;conv=>whnf) | fail)
   have happ : kL acc ++ [V.agg [.int .i64 0, .int .i64 s.size, .str ⟨#[]⟩]] = kL (acc ++ [⟨0, s.size, []⟩]) := by simp [kL, encK]; rfl
   exact ⟨_, _, weak_of (.cons (.tup (.cons .no (.cons (.eq rfl) (.cons (.eq rfl) .nil)))) .nil) .nil rfl rfl rfl, by
    refine Eq.mp (congrArg (fun x => K (.ret (.tup [.sl x .no, .int .i64 0, .int .i64 0])) []) happ.symm) (h0 _ (hok _ hinv))⟩
end C9

namespace C10
open Go Go.Proofs VL Go.Shelf
def ren : Ren := ⟨fun | 143 => 97 | 144 => 80 | 217 => 131 | 219 => 121 | 224 => 133 | 225 => 132 | 266 => 146 | 267 => 134 | 314 => 147 | n => n,
 fun | 3 => 3 | 4 => 4 | 5 => 5 | 9 => 9 | 46 => 36 | 51 => 162 | 146 => 163 | n => n, fun | 1 => 0 | n => n⟩
theorem lays : Lays.n144 Tryz.prog ren := {
 mixed := by kernel_rfl
 f143 := by kernel_rfl
 f144 := by kernel_rfl
 f217 := by kernel_rfl
 f219 := by kernel_rfl
 f224 := by kernel_rfl
 f225 := by kernel_rfl
 f266 := by kernel_rfl
 f267 := by kernel_rfl
 f314 := by kernel_rfl
 t3 := Tryz.underlying3
 a3 := Tryz.isAgg3
 z3 := Tryz.sizeOf3
 v3 := Tryz.zeroValue3
 t4 := Tryz.underlying4
 a4 := Tryz.isAgg4
 z4 := Tryz.sizeOf4
 v4 := Tryz.zeroValue4
 t5 := Tryz.underlying5
 a5 := Tryz.isAgg5
 z5 := Tryz.sizeOf5
 v5 := Tryz.zeroValue5
 t9 := Tryz.underlying9
 a9 := Tryz.isAgg9
 z9 := Tryz.sizeOf9
 v9 := Tryz.zeroValue9
 t46 := Tryz.underlying36
 a46 := Tryz.isAgg36
 z46 := Tryz.sizeOf36
 v46 := Tryz.zeroValue36
 t51 := Tryz.underlying162
 a51 := Tryz.isAgg162
 z51 := Tryz.sizeOf162
 v51 := Tryz.zeroValue162
 t146 := Tryz.underlying163
 a146 := Tryz.isAgg163
 z146 := Tryz.sizeOf163
 v146 := Tryz.zeroValue163
 g1 := by kernel_rfl }
theorem c_cont (s t : ByteArray) (hs : s.size < 4294967281) (K : Out -> List VObj -> Prop) (h : K (.ret (.bool (Lib.contains s.data.toList t.data.toList))) []) : VCall Tryz.prog 80 [.str s, .str t] [] K := by
 refine calls_ss (P := Tryz.prog) (x := .bool (Lib.contains s.data.toList t.data.toList)) Tryz.func80 (by rfl) (by rfl) (fun _ _ _ _ => .bool) rfl (fun w hw => ?_) h
 obtain ⟨m, hm⟩ := hw 0 rfl
 exact Any.strings_Contains lays s t m w hs hm
end C10

namespace C11
open Go Go.Proofs VL D1 B10 BB6 BB10 BB14 C1 C2 C6 C10
theorem index_ge0 (s sub : List UInt8) : 0 <= Lib.index s sub ↔ ∃ a b, s = a ++ sub ++ b := by
 rcases Lib.index_spec s sub with ⟨h, hn⟩ | ⟨i, h, hi, hocc, _⟩
 · constructor
   · intro h2; omega
   · rintro ⟨a, b, rfl⟩
     have hocc : Lib.occAt (a ++ sub ++ b) sub a.length = true := by
      unfold Lib.occAt
      rw [List.append_assoc, List.drop_left]
      exact List.isPrefixOf_iff_prefix.2 (List.prefix_append _ _)
     rw [hn a.length (by simp)] at hocc
     cases hocc
 · constructor
   · intro _
     unfold Lib.occAt at hocc
     obtain ⟨b, hb⟩ := List.isPrefixOf_iff_prefix.1 hocc
     exact ⟨s.take i, b, by rw [List.append_assoc, hb, List.take_append_drop]⟩
   · intro _; omega
theorem cont_iff (s t : ByteArray) : Lib.contains s.data.toList t.data.toList = true ↔ ∃ a b, sB s = a ++ sB t ++ b := by
 unfold Lib.contains
 rw [decide_eq_true_iff, index_ge0]
 constructor
 · rintro ⟨a, b, h⟩
   exact ⟨a.map fun x => (x.toNat : Int), b.map fun x => (x.toNat : Int), by unfold sB; rw [h]; simp⟩
 · rintro ⟨a, b, h⟩
   have inj : ∀ {l m : List UInt8}, (l.map fun x => (x.toNat : Int)) = m.map (fun x => (x.toNat : Int)) -> l = m := fun {l m} h => by
    refine (List.map_inj_right (fun x y hxy => ?_)).1 h
    exact UInt8.toNat_inj.1 (by omega)
   have h2 : (s.data.toList).map (fun x => (x.toNat : Int)) = a ++ (t.data.toList).map (fun x => (x.toNat : Int)) ++ b := h
   obtain ⟨u, v, hu, hv, hw⟩ := List.map_eq_append_iff.1 h2
   obtain ⟨u1, u2, hu1, hu2, hu3⟩ := List.map_eq_append_iff.1 hv
   refine ⟨u1, v, ?_⟩
   rw [hu, hu1, inj hu3]
theorem wordsT : sB ⟨#[32, 112, 114, 111, 100, 117, 99, 116, 32, 99, 111, 117, 110, 116, 32, 116, 104, 105, 114, 116, 121, 32, 102, 105, 120, 101, 100, 32, 97, 99, 116, 117, 97, 108, 32, 114, 111, 117, 110, 100, 32, 104, 97, 108, 102, 45, 117, 112, 32, 100, 111, 119, 110, 32, 107, 105, 110, 100, 32, 97, 110, 110, 117, 105, 116, 121, 32, 101, 113, 117, 97, 108, 32, 98, 117, 108, 108, 101, 116, 32, 101, 118, 101, 114, 121, 32, 116, 105, 109, 101, 115, 32, 103, 114, 97, 99, 101, 32, 114, 97, 116, 101, 32, 112, 101, 110, 97, 108, 116, 121, 32, 114, 101, 115, 101, 116, 32, 108, 97, 116, 101, 32, 99, 97, 112, 32, 104, 111, 108, 105, 100, 97, 121, 32, 111, 114, 100, 101, 114, 32, 102, 101, 101, 115, 32, 105, 110, 116, 101, 114, 101, 115, 116, 32, 112, 114, 105, 110, 99, 105, 112, 97, 108, 32, 111, 118, 101, 114, 32, 104, 111, 108, 100, 32, 112, 114, 101, 112, 97, 121, 32, 114, 101, 102, 117, 110, 100, 32, 114, 111, 108, 108, 32, 115, 116, 97, 121, 32, 110, 101, 120, 116, 32, 119, 105, 116, 104, 105, 110, 32, 112, 114, 101, 118, 105, 111, 117, 115, 32]⟩ = wT wordsL := by rfl
set_option maxHeartbeats 2000000 in
theorem c_Name (s : ByteArray) (hs : s.size < 1000000) (K : Out -> List VObj -> Prop) (h : K (.ret (.bool (nameB (sB s)))) []) : VCall Tryz.prog 42 [.str s] [] K := by
 have hsl := sB_len s
 have hsz : (s.size : Int) = (sB s).length := by rw [hsl]
 have hyes : nameP (sB s) -> K (.ret (.bool true)) [] := fun e => by rw [(nameB_iff _).2 e] at h; exact h
 have hno : ¬ nameP (sB s) -> K (.ret (.bool false)) [] := fun e => by rw [(nameB_no _).2 e] at h; exact h
 have hfin : ∀ b : Bool, (b = true ↔ nameP (sB s)) -> K (.ret (.bool b)) [] := fun b e => by
  cases b
  · exact hno fun hh => by have := e.2 hh; cases this
  · exact hyes (e.1 rfl)
 clear h
 refine call_fun [] 0 Tryz.func42 (by rfl) (by rfl) ?_
 conv=>whnf
 (repeat' first | (refine step_go [] ?_;conv=>whnf) | (refine two ?_ ?_<;>intro g<;>(try simp only[bsx]at g)<;>(conv=>whnf)) | (refine And.intro rfl ?_;conv=>whnf) | fail)
 · exact hno fun hh => by have := hh.1.1; omega
 · exact hno fun hh => by have := hh.1.2.1; omega
 obtain ⟨c, r, hcr⟩ : ∃ c r, sB s = c :: r := by
  cases hh : sB s with
  | nil => rw [hh] at hsl; simp only [List.length_nil] at hsl; omega
  | cons c r => exact ⟨c, r, rfl⟩
 have hc0 : nameP (sB s) -> 97 <= c /\ c <= 122 := fun hh => by have := hh.1.2.2.1 c (by rw [hcr]; rfl); exact this
 refine idx_str (x := c) (by decide) (by rw [hcr]; rfl) fun b hb => ?_
 conv=>whnf
 (repeat (refine step_go [] ?_;conv=>whnf))
 rw [hb]
 clear hb b
 (repeat' first | (refine step_go [] ?_;conv=>whnf) | (refine two ?_ ?_<;>intro g<;>(try simp only[bsx]at g)<;>(conv=>whnf)) | (refine And.intro rfl ?_;conv=>whnf) | fail)
 · exact hno fun hh => by have := hc0 hh; omega
 refine idx_str (x := c) (by decide) (by rw [hcr]; rfl) fun b hb => ?_
 conv=>whnf
 (repeat (refine step_go [] ?_;conv=>whnf))
 rw [hb]
 clear hb b
 (repeat' first | (refine step_go [] ?_;conv=>whnf) | (refine two ?_ ?_<;>intro g<;>(try simp only[bsx]at g)<;>(conv=>whnf)) | (refine And.intro rfl ?_;conv=>whnf) | fail)
 · exact hno fun hh => by have := hc0 hh; omega
 rw [bytesV_eq]
 let S : Nat -> St := fun i => ⟨(.str s :: .undef :: .bool false :: .undef :: .undef :: .undef :: .undef :: .undef :: .undef :: .undef :: .undef :: .undef :: .undef :: .undef :: .undef :: .undef :: .undef :: .undef :: .undef :: .undef :: .undef :: .undef :: .undef :: .undef :: .sl (bL (sB s)) .no :: .int .i64 ((sB s).length : Nat) :: .int .i64 (i : Nat) :: .undef :: .undef :: .undef :: .undef :: .undef :: .undef :: .undef :: .undef :: .undef :: .undef :: .undef :: .undef :: .undef :: .undef :: .undef :: .undef :: .undef :: .undef :: .undef :: .undef :: .undef :: .undef :: .undef :: .undef :: .undef :: .undef :: .undef :: []), [], 0, []⟩
 refine VLoop.enter (s' := S 0) (weak_of ?_ .nil rfl rfl rfl)
  (VLoop.indW S (fun i => s.size - i) (fun i => i <= s.size /\ ∀ x ∈ (sB s).take i, Inner x) ?_ 0 ⟨by omega, by simp⟩)
 · repeat' first
    | exact VWs.nil
    | refine VWs.cons VW.undef ?_
    | refine VWs.cons (VW.eq rfl) ?_
    | refine VWs.cons VW.no ?_
    | refine VWs.cons (VW.eq (by rw [bL_len])) ?_
 rintro i ⟨hi, hinv⟩ ih
 refine loop_round [] ?_; conv=>whnf
 (repeat' first | (refine step_go [] ?_;conv=>whnf) | (refine two ?_ ?_<;>intro g<;>(try simp only[bsx]at g)<;>(conv=>whnf)) | (refine And.intro rfl ?_;conv=>whnf) | fail)
 · have hil : i < (sB s).length := by omega
   have hx : (sB s)[i]? = some (sB s)[i] := List.getElem?_eq_getElem hil
   have hmem : (sB s)[i] ∈ sB s := List.getElem_mem _
   obtain ⟨x, hxx⟩ : ∃ x, (sB s)[i] = x := ⟨_, rfl⟩
   have htk : (sB s).take (i + 1) = (sB s).take i ++ [x] := by rw [List.take_succ_eq_append_getElem hil, hxx]
   rw [hxx] at hx hmem
   have hget : (bL (sB s))[((i : Nat) : Int).toNat]? = some (.int .u8 x) := by rw [Int.toNat_natCast, bL_get, hx]; rfl
   have wi : IntKind.i64.wrap ((i : Int) + 1) = ((i + 1 : Nat) : Int) := by rw [wrap64 (by omega) (by omega)]; omega
   have hgo : Inner x -> VLoop _ _ _ (S (i + 1)) _ := fun hx => ih (i + 1) ⟨by omega, fun y hy => by
    rw [htk] at hy
    rcases List.mem_append.1 hy with hy | hy
    · exact hinv y hy
    · rw [List.mem_singleton.1 hy]; exact hx⟩ (by omega)
   have hst : ¬ Inner x -> K (.ret (.bool false)) [] := fun hx => hno fun hh => hx (hh.1.2.2.2 x hmem)
   unfold Inner Small Dig at hgo hst
   refine ⟨by omega, _, hget, rfl, ?_⟩
   conv=>whnf
   (repeat' first | (refine step_go [] ?_;conv=>whnf) | (refine two ?_ ?_<;>intro g<;>(try simp only[bsx]at g)<;>(conv=>whnf)) | (refine And.intro rfl ?_;conv=>whnf) | fail)
   all_goals first
    | (refine ⟨_, Weak.refl, ?_⟩; conv=>whnf
       (repeat' first | (refine step_go [] ?_;conv=>whnf) | (refine two ?_ ?_<;>intro g<;>(try simp only[bsx]at g)<;>(conv=>whnf)) | (refine And.intro rfl ?_;conv=>whnf) | fail)
       exact hst (by omega))
    | exact ⟨S (i + 1), weak_of (by rw [wi]; (repeat' first | exact VWs.nil | refine VWs.cons VW.undef ?_ | refine VWs.cons (VW.eq rfl) ?_)) .nil rfl rfl rfl, hgo (by omega)⟩
 · have hil : i = (sB s).length := by omega
   subst hil
   rw [List.take_length] at hinv
   refine ⟨_, Weak.refl, ?_⟩
   conv=>whnf
   (repeat' first | (refine step_go [] ?_;conv=>whnf) | (refine two ?_ ?_<;>intro g<;>(try simp only[bsx]at g)<;>(conv=>whnf)) | (refine And.intro rfl ?_;conv=>whnf) | fail)
   refine ⟨str_le (by show 1 + s.size < _; omega), ?_⟩
   conv=>whnf
   (repeat' first | (refine step_go [] ?_;conv=>whnf) | (refine two ?_ ?_<;>intro g<;>(try simp only[bsx]at g)<;>(conv=>whnf)) | (refine And.intro rfl ?_;conv=>whnf) | fail)
   refine ⟨str_le (by rw [ByteArray.size_append]; show 1 + s.size + 1 < _; omega), ?_⟩
   conv=>whnf
   (repeat' first | (refine step_go [] ?_;conv=>whnf) | (refine two ?_ ?_<;>intro g<;>(try simp only[bsx]at g)<;>(conv=>whnf)) | (refine And.intro rfl ?_;conv=>whnf) | fail)
   refine c_cont _ _ (by decide) _ ?_
   conv=>whnf
   (repeat' first | (refine step_go [] ?_;conv=>whnf) | (refine two ?_ ?_<;>intro g<;>(try simp only[bsx]at g)<;>(conv=>whnf)) | (refine And.intro rfl ?_;conv=>whnf) | fail)
   refine hfin _ ?_
   have e1 : sB (⟨#[32]⟩ ++ s ++ ⟨#[32]⟩) = 32 :: sB s ++ [32] := by rw [sB_app, sB_app]; rfl
   have hnb : Nb (sB s) := fun x hx => by have := hinv x hx; unfold Inner Small Dig at this; omega
   have hw := word_in words_nb hnb
   rw [← e1, ← wordsT, ← cont_iff] at hw
   rw [Bool.not_eq_true', ← Bool.not_eq_true]
   refine Iff.trans (not_congr hw) ?_
   constructor
   · intro hh
     refine ⟨⟨by omega, by omega, fun x hx => ?_, hinv⟩, hh⟩
     rw [hcr] at hx
     cases hx
     exact ⟨by assumption, by assumption⟩
   · exact fun hh => hh.2
end C11

namespace C12
open Go Go.Proofs VL D1 B10 BB6 BB10 BB14 C1 C2 C6 C10 C11
theorem iL_len (l : List Int) : (iL l).length = l.length := by simp [iL]
theorem iL_cells {l : List Int} : ∀ x ∈ iL l, x.cells.length = 1 := by
 intro x hx
 obtain ⟨n, _, rfl⟩ := List.mem_map.1 hx
 rfl
theorem c_Clone (l : List Int) (hl : l.length < 1000000) (K : Out -> List VObj -> Prop) (h : K (.ret (.sl (iL l) .no)) []) : VCall Tryz.prog 114 [.sl (iL l) .no] [] K := by
 refine VCall.weak (call_fun [] 0 Tryz.func114 (by rfl) (by rfl) ?_)
 conv=>whnf
 (repeat' first | (refine step_go [] ?_;conv=>whnf) | (refine two ?_ ?_<;>intro g<;>(try simp only[bsx]at g)<;>(conv=>whnf)) | (refine And.intro rfl ?_;conv=>whnf) | fail)
 intro b hb
 conv=>whnf
 (repeat' first | (refine step_go [] ?_;conv=>whnf) | (refine two ?_ ?_<;>intro g<;>(try simp only[bsx]at g)<;>(conv=>whnf)) | (refine And.intro rfl ?_;conv=>whnf) | fail)
 · have e := hb g
   rw [e] at h
   exact ⟨_, _, weak_of (.cons .no .nil) .nil rfl rfl rfl, h⟩
 · have hil := iL_len l
   refine ⟨by simp; omega, iL_cells, by simp, ?_⟩
   conv=>whnf
   (repeat' first | (refine step_go [] ?_;conv=>whnf) | (refine two ?_ ?_<;>intro g<;>(try simp only[bsx]at g)<;>(conv=>whnf)) | (refine And.intro rfl ?_;conv=>whnf) | fail)
   exact ⟨_, _, weak_of (.cons .no .nil) .nil rfl rfl rfl, h⟩
set_option maxHeartbeats 2000000 in
theorem c_llate (p : Prod) (hp : p.ok) (K : Out -> List VObj -> Prop) (h0 : lateP p -> K (.ret (.tup [])) []) (h1 : ¬ lateP p -> K (.pan (.ifc 88 (.agg []))) []) : VCall Tryz.prog 49 [encP p] [] K := by
 have hlen := hp.ll
 unfold encP cellsP
 obtain ⟨T, hT⟩ : ∃ T, rL p.resets = T := ⟨_, rfl⟩
 obtain ⟨H, hH⟩ : ∃ H, iL p.hol = H := ⟨_, rfl⟩
 have hrl : (tL p.late).length = p.late.length := by simp [tL]
 rw [hT, hH]
 refine call_fun [] 0 Tryz.func49 (by rfl) (by rfl) ?_
 conv=>whnf
 (repeat' first | (refine step_go [] ?_;conv=>whnf) | (refine two ?_ ?_<;>intro g<;>(try simp only[bsx, hrl]at g)<;>(conv=>whnf)) | (refine And.intro rfl ?_;conv=>whnf) | (refine c_within64 _ _ _ _ ?_;conv=>whnf) | (refine c_must _ _ ?_;conv=>whnf) | fail)
 all_goals first
  | (refine h1 fun hh => ?_
     unfold lateP at hh
     obtain ⟨a1, a2, a3, a4⟩ := hh
     first
      | omega
      | (rcases a3 with a3 | a3
         · exact a3 (List.length_eq_zero_iff.1 (by omega))
         · omega))
  | skip
 all_goals
  have hne : p.late ≠ [] \/ p.cap = 0 := by
   first
    | exact .inr g
    | exact .inl fun e => by rw [e] at g; simp at g
  have hfin : (tiersP none p.late -> K (.ret (.tup [])) []) /\ (¬ tiersP none p.late -> K (.pan (.ifc 88 (.agg []))) []) :=
   ⟨fun hh => h0 ⟨by omega, by omega, hne, hh⟩, fun hh => h1 fun h => hh h.2.2.2⟩
  clear h0 h1
  obtain ⟨h0, h1⟩ := hfin
  let CC : List V := [.str p.name, .int .i64 p.count, .int .i64 p.rnd, .int .i64 p.kind, .int .i64 p.every, .int .i64 p.times, .int .i64 p.grace, .int .i64 p.rate, .sl T .no, .int .i64 p.pen, .int .i64 p.o1, .int .i64 p.o2, .int .i64 p.o3, .int .i64 p.o4, .int .i64 p.over, .sl (tL p.late) .no, .int .i64 p.cap, .int .i64 p.roll, .sl H .no]
  let S : Nat -> St := fun i => ⟨(.undef :: .ptr 0 0 :: .ptr 1 0 :: .undef :: .undef :: .undef :: .undef :: .undef :: .undef :: .undef :: .undef :: .undef :: .undef :: .undef :: .undef :: .undef :: .undef :: .undef :: .undef :: .undef :: .undef :: .undef :: .undef :: .undef :: .undef :: .undef :: .undef :: .undef :: .undef :: .sl (tL p.late) .no :: .int .i64 (p.late.length : Nat) :: .int .i64 (i : Nat) :: .undef :: .undef :: .undef :: .undef :: .undef :: .undef :: .undef :: .undef :: .undef :: .undef :: .undef :: .undef :: .undef :: .undef :: .undef :: .undef :: .undef :: .undef :: .undef :: .undef :: .undef :: .undef :: .undef :: .undef :: .undef :: .undef :: .undef :: .undef :: .undef :: .undef :: .undef :: .undef :: .undef :: .undef :: .undef :: .undef :: .undef :: .undef :: .undef :: .undef :: .undef :: []), [.cells true 90 CC, .cells true 28 CC], 0, []⟩
  refine VLoop.enter (s' := S 0) (weak_of ?_ (.cons (.eq rfl) (.cons (.eq rfl) .nil)) rfl rfl rfl)
   (VLoop.indW S (fun i => p.late.length - i) (fun i => i <= p.late.length /\ (tiersP none p.late ↔ tiersP (pvO p.late i) (p.late.drop i))) ?_ 0 ⟨by omega, Iff.rfl⟩)
  · repeat' first
     | exact VWs.nil
     | refine VWs.cons VW.undef ?_
     | refine VWs.cons (VW.eq rfl) ?_
     | refine VWs.cons (VW.eq (by rw [hrl])) ?_
  rintro i ⟨hi, hinv⟩ ih
  refine loop_round [] ?_; conv=>whnf
  (repeat' first | (refine step_go [] ?_;conv=>whnf) | (refine two ?_ ?_<;>intro g<;>(try simp only[bsx]at g)<;>(conv=>whnf)) | (refine And.intro rfl ?_;conv=>whnf) | fail)
  · have hil : i < p.late.length := by omega
    have hget : (tL p.late)[((i : Nat) : Int).toNat]? = some (encT p.late[i]) := by rw [Int.toNat_natCast]; simp [tL, List.getElem?_eq_getElem hil]
    have hdrop : p.late.drop i = p.late[i] :: p.late.drop (i + 1) := List.drop_eq_getElem_cons hil
    obtain ⟨q, hq1, hq2⟩ := prev_ex encT p.late i hil (by omega)
    have hpv := pvO_succ hil
    obtain ⟨d, hd⟩ : ∃ d, p.late[i] = d := ⟨_, rfl⟩
    rw [hd] at hget hdrop hpv
    rw [hdrop] at hinv
    conv at hinv => rhs; unfold tiersP
    rw [← hpv] at hinv
    refine ⟨by omega, _, hget, rfl, ?_⟩
    have wi : IntKind.i64.wrap ((i : Int) + 1) = ((i + 1 : Nat) : Int) := by rw [wrap64 (by omega) (by omega)]; omega
    have hpan : ¬ ((1 <= d.days /\ d.days <= 365) /\ (0 <= d.fee /\ d.fee <= 10000000000000) /\ (0 < i -> q.days < d.days /\ q.fee <= d.fee)) -> K (.pan (.ifc 88 (.agg []))) [] := fun hh => h1 fun h => hh (by
     obtain ⟨a, b, c, _⟩ := hinv.1 h
     exact ⟨a, b, fun h0 => c q ((hq2 q).2 ⟨h0, rfl⟩)⟩)
    have hnext : (1 <= d.days /\ d.days <= 365) /\ (0 <= d.fee /\ d.fee <= 10000000000000) /\ (0 < i -> q.days < d.days /\ q.fee <= d.fee) -> VLoop _ _ _ (S (i + 1)) _ := fun hh => ih (i + 1) ⟨by omega, hinv.trans ⟨fun h => h.2.2.2, fun h => ⟨hh.1, hh.2.1, fun x hx => by obtain ⟨h0, rfl⟩ := (hq2 x).1 hx; exact hh.2.2 h0, h⟩⟩⟩ (by omega)
    conv=>whnf
    (repeat' first | (refine step_go [] ?_;conv=>whnf) | (refine two ?_ ?_<;>intro g<;>(try simp only[bsx]at g)<;>(conv=>whnf)) | (refine And.intro rfl ?_;conv=>whnf) | (refine dr_go (by decide +kernel) ?_;conv=>whnf) | (refine c_within _ _ _ _ ?_;conv=>whnf) | (refine c_within64 _ _ _ _ ?_;conv=>whnf) | (refine c_must _ _ ?_;conv=>whnf) | (refine ⟨by rw [wrap64 (by omega) (by omega)]; omega, _, hq1 (by omega), rfl, ?_⟩;conv=>whnf) | fail)
    all_goals first
     | (refine hpan fun hh => ?_; omega)
     | (refine weak_sel (src := [0, 1]) ?_; conv=>whnf
        refine VLoop.enter (s' := S (i + 1)) (weak_of (by rw [wi]; (repeat' first | exact VWs.nil | refine VWs.cons VW.undef ?_ | refine VWs.cons (VW.eq rfl) ?_)) (.cons (.eq rfl) (.cons (.eq rfl) .nil)) rfl rfl rfl) (hnext (by omega)))
  · have hil : i = p.late.length := by omega
    subst hil
    rw [List.drop_length] at hinv
    refine ⟨_, Weak.refl, ?_⟩
    conv=>whnf
    (repeat' first | (refine step_go [] ?_;conv=>whnf) | (refine two ?_ ?_<;>intro g<;>(try simp only[bsx]at g)<;>(conv=>whnf)) | (refine And.intro rfl ?_;conv=>whnf) | fail)
    exact h0 (hinv.2 trivial)
theorem hol_get {l : List Int} {i : Nat} (hi : i < l.length) : (iL l)[((i : Nat) : Int).toNat]? = some (.int .i64 l[i]) := by rw [Int.toNat_natCast]; simp [iL, List.getElem?_eq_getElem hi]
set_option maxHeartbeats 2000000 in
theorem c_bnew (l : List Int) (hl : l.length < 1000000) (K : Out -> List VObj -> Prop) (h0 : l.length <= 200 /\ holP none l -> K (.ret (.tup [.ptr 0 0, .int .i64 0])) [.cells true 133 [.sl (iL l) .no]])
 (h1 : ¬ (l.length <= 200 /\ holP none l) -> K (.ret (.tup [.nilp, .int .i64 1])) []) : VCall Tryz.prog 85 [.sl (iL l) .no] [] K := by
 have hil := iL_len l
 refine call_fun [] 0 Tryz.func85 (by rfl) (by rfl) ?_
 conv=>whnf
 (repeat' first | (refine step_go [] ?_;conv=>whnf) | (refine two ?_ ?_<;>intro g<;>(try simp only[bsx, hil]at g)<;>(conv=>whnf)) | (refine And.intro rfl ?_;conv=>whnf) | fail)
 · exact h1 (by omega)
 have hfin : (holP none l -> K (.ret (.tup [.ptr 0 0, .int .i64 0])) [.cells true 133 [.sl (iL l) .no]]) /\ (¬ holP none l -> K (.ret (.tup [.nilp, .int .i64 1])) []) :=
  ⟨fun hh => h0 ⟨by omega, hh⟩, fun hh => h1 fun h => hh h.2⟩
 clear h0 h1
 obtain ⟨h0, h1⟩ := hfin
 let S : Nat -> St := fun i => ⟨(.sl (iL l) .no :: .undef :: .nilp :: .int .i64 0 :: .undef :: .undef :: .undef :: .undef :: .undef :: .sl (iL l) .no :: .int .i64 (l.length : Nat) :: .int .i64 (i : Nat) :: .undef :: .undef :: .undef :: .undef :: .undef :: .undef :: .undef :: .undef :: .undef :: .undef :: .undef :: .undef :: .undef :: .undef :: .undef :: .undef :: .undef :: .undef :: .undef :: .undef :: .undef :: .undef :: .undef :: .undef :: .undef :: []), [], 0, []⟩
 refine VLoop.enter (s' := S 0) (weak_of ?_ .nil rfl rfl rfl)
  (VLoop.indW S (fun i => l.length - i) (fun i => i <= l.length /\ (holP none l ↔ holP (pvO l i) (l.drop i))) ?_ 0 ⟨by omega, Iff.rfl⟩)
 · repeat' first
    | exact VWs.nil
    | refine VWs.cons VW.undef ?_
    | refine VWs.cons (VW.eq rfl) ?_
    | refine VWs.cons (VW.eq (by rw [hil])) ?_
 rintro i ⟨hi, hinv⟩ ih
 refine loop_round [] ?_; conv=>whnf
 (repeat' first | (refine step_go [] ?_;conv=>whnf) | (refine two ?_ ?_<;>intro g<;>(try simp only[bsx]at g)<;>(conv=>whnf)) | (refine And.intro rfl ?_;conv=>whnf) | fail)
 · have hil2 : i < l.length := by omega
   have hget := hol_get hil2
   have hdrop : l.drop i = l[i] :: l.drop (i + 1) := List.drop_eq_getElem_cons hil2
   obtain ⟨q, hq1, hq2⟩ := prev_ex (V.int .i64) l i hil2 (by omega)
   have hpv := pvO_succ hil2
   obtain ⟨d, hd⟩ : ∃ d, l[i] = d := ⟨_, rfl⟩
   rw [hd] at hget hdrop hpv
   rw [hdrop] at hinv
   conv at hinv => rhs; unfold holP
   rw [← hpv] at hinv
   refine ⟨by omega, _, hget, rfl, ?_⟩
   have wi : IntKind.i64.wrap ((i : Int) + 1) = ((i + 1 : Nat) : Int) := by rw [wrap64 (by omega) (by omega)]; omega
   have hst : ¬ ((-25567 <= d /\ d <= 84370) /\ (0 < i -> q < d)) -> K (.ret (.tup [.nilp, .int .i64 1])) [] := fun hh => h1 fun h => hh (by
    obtain ⟨a, c, _⟩ := hinv.1 h
    exact ⟨a, fun h0 => c q ((hq2 q).2 ⟨h0, rfl⟩)⟩)
   have hnext : (-25567 <= d /\ d <= 84370) /\ (0 < i -> q < d) -> VLoop _ _ _ (S (i + 1)) _ := fun hh => ih (i + 1) ⟨by omega, hinv.trans ⟨fun h => h.2.2, fun h => ⟨hh.1, fun x hx => by obtain ⟨h0, rfl⟩ := (hq2 x).1 hx; exact hh.2 h0, h⟩⟩⟩ (by omega)
   conv=>whnf
   (repeat' first | (refine step_go [] ?_;conv=>whnf) | (refine two ?_ ?_<;>intro g<;>(try simp only[bsx]at g)<;>(conv=>whnf)) | (refine And.intro rfl ?_;conv=>whnf) | (refine dr_go (by decide +kernel) ?_;conv=>whnf) | (refine c_there _ _ ?_;conv=>whnf) | (refine ⟨by rw [wrap64 (by omega) (by omega)]; omega, _, hq1 (by omega), rfl, ?_⟩;conv=>whnf) | fail)
   all_goals first
    | (refine ⟨_, Weak.refl, ?_⟩; conv=>whnf
       (repeat' first | (refine step_go [] ?_;conv=>whnf) | (refine two ?_ ?_<;>intro g<;>(try simp only[bsx]at g)<;>(conv=>whnf)) | (refine And.intro rfl ?_;conv=>whnf) | fail)
       exact hst (by omega))
    | exact ⟨S (i + 1), weak_of (by rw [wi]; (repeat' first | exact VWs.nil | refine VWs.cons VW.undef ?_ | refine VWs.cons (VW.eq rfl) ?_)) .nil rfl rfl rfl, hnext (by omega)⟩
 · have hil2 : i = l.length := by omega
   subst hil2
   rw [List.drop_length] at hinv
   refine ⟨_, Weak.refl, ?_⟩
   conv=>whnf
   (repeat' first | (refine step_go [] ?_;conv=>whnf) | (refine two ?_ ?_<;>intro g<;>(try simp only[bsx]at g)<;>(conv=>whnf)) | (refine And.intro rfl ?_;conv=>whnf) | fail)
   refine c_Clone l hl _ ?_
   conv=>whnf
   (repeat' first | (refine step_go [] ?_;conv=>whnf) | (refine two ?_ ?_<;>intro g<;>(try simp only[bsx]at g)<;>(conv=>whnf)) | (refine And.intro rfl ?_;conv=>whnf) | fail)
   exact h0 (hinv.2 trivial)
theorem c_ldays (p : Prod) (hp : p.ok) (K : Out -> List VObj -> Prop) (h0 : daysP p -> K (.ret (.tup [])) []) (h1 : ¬ daysP p -> K (.pan (.ifc 88 (.agg []))) []) : VCall Tryz.prog 50 [encP p] [] K := by
 have hlen := hp.lh
 unfold encP cellsP
 obtain ⟨T, hT⟩ : ∃ T, rL p.resets = T := ⟨_, rfl⟩
 obtain ⟨H, hH⟩ : ∃ H, tL p.late = H := ⟨_, rfl⟩
 have hil := iL_len p.hol
 rw [hT, hH]
 refine call_fun [] 0 Tryz.func50 (by rfl) (by rfl) ?_
 conv=>whnf
 (repeat' first | (refine step_go [] ?_;conv=>whnf) | (refine two ?_ ?_<;>intro g<;>(try simp only[bsx]at g)<;>(conv=>whnf)) | (refine And.intro rfl ?_;conv=>whnf) | fail)
 refine c_bnew p.hol hlen _ (fun hh => ?_) (fun hh => ?_)
 · conv=>whnf
   (repeat' first | (refine step_go [] ?_;conv=>whnf) | (refine two ?_ ?_<;>intro g<;>(try simp only[bsx, hil]at g)<;>(conv=>whnf)) | (refine And.intro rfl ?_;conv=>whnf) | (refine c_within _ _ _ _ ?_;conv=>whnf) | (refine c_must _ _ ?_;conv=>whnf) | fail)
   all_goals first
    | (refine h0 ⟨hh, by omega, ?_⟩
       first
        | exact .inl g
        | exact .inr (List.length_eq_zero_iff.1 (by omega)))
    | (refine h1 fun h => ?_
       obtain ⟨_, a2, a3⟩ := h
       first
        | omega
        | (rcases a3 with a3 | a3
           · contradiction
           · rw [a3] at g; simp at g))
 · conv=>whnf
   (repeat' first | (refine step_go [] ?_;conv=>whnf) | (refine two ?_ ?_<;>intro g<;>(try simp only[bsx, hil]at g)<;>(conv=>whnf)) | (refine And.intro rfl ?_;conv=>whnf) | (refine c_within _ _ _ _ ?_;conv=>whnf) | (refine c_must _ _ ?_;conv=>whnf) | fail)
   exact h1 fun h => hh h.1
end C12

namespace C13
open Go Go.Proofs VL D1 B10 BB6 BB10 BB14 C1 C2 C6 C10 C11 C12
set_option maxHeartbeats 2000000 in
theorem c_lorder (p : Prod) (K : Out -> List VObj -> Prop) (h0 : overP p -> K (.ret (.tup [])) []) (h1 : ¬ overP p -> K (.pan (.ifc 88 (.agg []))) []) : VCall Tryz.prog 48 [encP p] [] K := by
 unfold encP cellsP
 obtain ⟨T, hT⟩ : ∃ T, rL p.resets = T := ⟨_, rfl⟩
 obtain ⟨H, hH⟩ : ∃ H, tL p.late = H := ⟨_, rfl⟩
 obtain ⟨I, hI⟩ : ∃ I, iL p.hol = I := ⟨_, rfl⟩
 rw [hT, hH, hI]
 refine call_fun [] 0 Tryz.func48 (by rfl) (by rfl) ?_
 conv=>whnf
 obtain ⟨a, ha⟩ : ∃ a, p.o1 = a := ⟨_, rfl⟩
 obtain ⟨b, hb⟩ : ∃ b, p.o2 = b := ⟨_, rfl⟩
 obtain ⟨c, hc⟩ : ∃ c, p.o3 = c := ⟨_, rfl⟩
 obtain ⟨d, hd⟩ : ∃ d, p.o4 = d := ⟨_, rfl⟩
 have hov : overP p ↔ orderP a b c d /\ (1 <= p.over /\ p.over <= 3) := by unfold overP; rw [ha, hb, hc, hd]
 rw [hov] at h0 h1
 clear hov
 rw [ha, hb, hc, hd]
 clear ha hb hc hd
 (repeat' first | (refine step_go [] ?_;conv=>whnf) | (refine two ?_ ?_<;>intro g<;>(try simp only[bsx]at g)<;>(conv=>whnf)) | (refine And.intro rfl ?_;conv=>whnf) | (refine loop_round [] ?_;conv=>whnf) | (refine c_within _ _ _ _ ?_;conv=>whnf) | (refine c_must _ _ ?_;conv=>whnf) | (refine ⟨_, Weak.refl, ?_⟩;conv=>whnf) | (refine ⟨by decide, by decide, ?_⟩;conv=>whnf) | ((obtain rfl | rfl | rfl | rfl : a = 1 \/ a = 2 \/ a = 3 \/ a = 4 := by omega) <;> (refine ⟨by decide, by decide, ?_⟩;conv=>whnf)) | ((obtain rfl | rfl | rfl | rfl : b = 1 \/ b = 2 \/ b = 3 \/ b = 4 := by omega) <;> (refine ⟨by decide, by decide, ?_⟩;conv=>whnf)) | ((obtain rfl | rfl | rfl | rfl : c = 1 \/ c = 2 \/ c = 3 \/ c = 4 := by omega) <;> (refine ⟨by decide, by decide, ?_⟩;conv=>whnf)) | ((obtain rfl | rfl | rfl | rfl : d = 1 \/ d = 2 \/ d = 3 \/ d = 4 := by omega) <;> (refine ⟨by decide, by decide, ?_⟩;conv=>whnf)) | fail)
 all_goals first
  | (refine h0 ⟨by unfold orderP; omega, by omega⟩)
  | (refine h1 fun hh => ?_
     unfold orderP at hh
     omega)
  | trace_state
 all_goals done
end C13

namespace C14
open Go Go.Proofs VL D1 B10 BB6 BB10 BB14 C1 C2 C6 C10 C11 C12 C13
theorem d_chk0 (x : Int) (K) (h : K false [.cells true 29 [.int .i64 x]]) : VCallD Tryz.prog 45 [.ptr 0 0] [.cells true 29 [.int .i64 x]] none K := by
 refine calld_fun [] 1 Tryz.func45 (by rfl) (by rfl) ?_
 conv=>whnf
 refine ⟨rfl, ?_⟩
 conv=>whnf
 (repeat' first | (refine step_go [] ?_;conv=>whnf) | (refine two ?_ ?_<;>intro g<;>(try simp only[bsx]at g)<;>(conv=>whnf)) | (refine And.intro rfl ?_;conv=>whnf) | (refine dr_go (by decide +kernel) ?_;conv=>whnf) | fail)
 exact h
theorem d_chk1 (x : Int) (K) (h : K true [.cells true 29 [.int .i64 9]]) : VCallD Tryz.prog 45 [.ptr 0 0] [.cells true 29 [.int .i64 x]] (some (.ifc 88 (.agg []))) K := by
 refine calld_fun [] 1 Tryz.func45 (by rfl) (by rfl) ?_
 conv=>whnf
 refine ⟨rfl, ?_⟩
 conv=>whnf
 (repeat' first | (refine step_go [] ?_;conv=>whnf) | (refine two ?_ ?_<;>intro g<;>(try simp only[bsx]at g)<;>(conv=>whnf)) | (refine And.intro rfl ?_;conv=>whnf) | (refine dr_go (by decide +kernel) ?_;conv=>whnf) | fail)
 exact h
set_option maxHeartbeats 4000000 in
theorem c_Check (p : Prod) (hp : p.ok) (K : Out -> List VObj -> Prop) (h : K (.ret (.int .i64 (checkC p))) []) : VCall Tryz.prog 21 [encP p] [] K := by
 have h9 : ¬ checkP p -> K (.ret (.int .i64 9)) [] := fun hh => by unfold checkC at h; rw [if_neg hh] at h; exact h
 have h0 : checkP p -> K (.ret (.int .i64 0)) [] := fun hh => by unfold checkC at h; rw [if_pos hh] at h; exact h
 clear h
 unfold encP cellsP
 refine call_fun [] 0 Tryz.func21 (by rfl) (by rfl) ?_
 conv=>whnf
 (repeat' first | (refine step_go [] ?_;conv=>whnf) | (refine two ?_ ?_<;>intro g<;>(try simp only[bsx]at g)<;>(conv=>whnf)) | (refine And.intro rfl ?_;conv=>whnf) | (refine loop_round [] ?_;conv=>whnf) | (refine ⟨_, Weak.refl, ?_⟩;conv=>whnf) | (refine ⟨by decide, _, rfl, rfl, ?_⟩;conv=>whnf) | fail)
 refine c_shape p hp (fun K h => c_Name p.name hp.name K h) _ (fun a1 => ?_) (fun a1 => ?_)
 rotate_left
 · conv=>whnf
   (repeat' first | (refine step_go [] ?_;conv=>whnf) | (refine two ?_ ?_<;>intro g<;>(try simp only[bsx]at g)<;>(conv=>whnf)) | (refine And.intro rfl ?_;conv=>whnf) | (refine d_chk1 _ _ ?_;conv=>whnf) | fail)
   exact h9 fun hh => a1 hh.1
 conv=>whnf
 (repeat' first | (refine step_go [] ?_;conv=>whnf) | (refine two ?_ ?_<;>intro g<;>(try simp only[bsx]at g)<;>(conv=>whnf)) | (refine And.intro rfl ?_;conv=>whnf) | (refine loop_round [] ?_;conv=>whnf) | (refine ⟨_, Weak.refl, ?_⟩;conv=>whnf) | (refine ⟨by decide, _, rfl, rfl, ?_⟩;conv=>whnf) | fail)
 refine c_lrates p hp a1.2.2.1 _ (fun a2 => ?_) (fun a2 => ?_)
 rotate_left
 · conv=>whnf
   (repeat' first | (refine step_go [] ?_;conv=>whnf) | (refine two ?_ ?_<;>intro g<;>(try simp only[bsx]at g)<;>(conv=>whnf)) | (refine And.intro rfl ?_;conv=>whnf) | (refine d_chk1 _ _ ?_;conv=>whnf) | fail)
   exact h9 fun hh => a2 hh.2.1
 conv=>whnf
 (repeat' first | (refine step_go [] ?_;conv=>whnf) | (refine two ?_ ?_<;>intro g<;>(try simp only[bsx]at g)<;>(conv=>whnf)) | (refine And.intro rfl ?_;conv=>whnf) | (refine loop_round [] ?_;conv=>whnf) | (refine ⟨_, Weak.refl, ?_⟩;conv=>whnf) | (refine ⟨by decide, _, rfl, rfl, ?_⟩;conv=>whnf) | fail)
 refine c_lorder p _ (fun a3 => ?_) (fun a3 => ?_)
 rotate_left
 · conv=>whnf
   (repeat' first | (refine step_go [] ?_;conv=>whnf) | (refine two ?_ ?_<;>intro g<;>(try simp only[bsx]at g)<;>(conv=>whnf)) | (refine And.intro rfl ?_;conv=>whnf) | (refine d_chk1 _ _ ?_;conv=>whnf) | fail)
   exact h9 fun hh => a3 hh.2.2.1
 conv=>whnf
 (repeat' first | (refine step_go [] ?_;conv=>whnf) | (refine two ?_ ?_<;>intro g<;>(try simp only[bsx]at g)<;>(conv=>whnf)) | (refine And.intro rfl ?_;conv=>whnf) | (refine loop_round [] ?_;conv=>whnf) | (refine ⟨_, Weak.refl, ?_⟩;conv=>whnf) | (refine ⟨by decide, _, rfl, rfl, ?_⟩;conv=>whnf) | fail)
 refine c_llate p hp _ (fun a4 => ?_) (fun a4 => ?_)
 rotate_left
 · conv=>whnf
   (repeat' first | (refine step_go [] ?_;conv=>whnf) | (refine two ?_ ?_<;>intro g<;>(try simp only[bsx]at g)<;>(conv=>whnf)) | (refine And.intro rfl ?_;conv=>whnf) | (refine d_chk1 _ _ ?_;conv=>whnf) | fail)
   exact h9 fun hh => a4 hh.2.2.2.1
 conv=>whnf
 (repeat' first | (refine step_go [] ?_;conv=>whnf) | (refine two ?_ ?_<;>intro g<;>(try simp only[bsx]at g)<;>(conv=>whnf)) | (refine And.intro rfl ?_;conv=>whnf) | (refine loop_round [] ?_;conv=>whnf) | (refine ⟨_, Weak.refl, ?_⟩;conv=>whnf) | (refine ⟨by decide, _, rfl, rfl, ?_⟩;conv=>whnf) | fail)
 refine c_ldays p hp _ (fun a5 => ?_) (fun a5 => ?_)
 rotate_left
 · conv=>whnf
   (repeat' first | (refine step_go [] ?_;conv=>whnf) | (refine two ?_ ?_<;>intro g<;>(try simp only[bsx]at g)<;>(conv=>whnf)) | (refine And.intro rfl ?_;conv=>whnf) | (refine d_chk1 _ _ ?_;conv=>whnf) | fail)
   exact h9 fun hh => a5 hh.2.2.2.2
 conv=>whnf
 (repeat' first | (refine step_go [] ?_;conv=>whnf) | (refine two ?_ ?_<;>intro g<;>(try simp only[bsx]at g)<;>(conv=>whnf)) | (refine And.intro rfl ?_;conv=>whnf) | (refine loop_round [] ?_;conv=>whnf) | (refine ⟨_, Weak.refl, ?_⟩;conv=>whnf) | (refine ⟨by decide, _, rfl, rfl, ?_⟩;conv=>whnf) | (refine d_chk0 _ _ ?_;conv=>whnf) | fail)
 exact h0 ⟨a1, a2, a3, a4, a5⟩
end C14

namespace C15
open Go Go.Proofs VL D1 B10 BB6 BB10 BB14 C1 C2 C6 C10 C11 C12 C13 C14
noncomputable def pB (P : Prop) : Bool := open Classical in decide P
theorem pB_iff (P : Prop) : pB P = true ↔ P := by unfold pB; simp
theorem pB_no (P : Prop) : pB P = false ↔ ¬ P := by unfold pB; simp
theorem pB_of {P : Prop} {K : Out -> List VObj -> Prop} (h : K (.ret (.bool (pB P))) []) (b : Bool) (hb : b = true ↔ P) : K (.ret (.bool b)) [] := by
 cases b with
 | true => rw [(pB_iff P).2 (hb.1 rfl)] at h; exact h
 | false => rw [(pB_no P).2 fun hp => by have := hb.2 hp; cases this] at h; exact h
theorem c_rwithin (v a b : Int) (K) (h : K (.ret (.bool (decide (a <= v /\ v <= b)))) []) : VCall Tryz.prog 57 [.int .i64 v, .int .i64 a, .int .i64 b] [] K := by
 have hfin : ∀ x, decide (a <= v /\ v <= b) = x -> K (.ret (.bool x)) [] := fun x e => by rw [e] at h; exact h
 clear h
 refine call_fun [] 0 Tryz.func57 (by rfl) (by rfl) ?_
 conv=>whnf
 (repeat' first | (refine step_go [] ?_;conv=>whnf) | (refine two ?_ ?_<;>intro g<;>(try simp only[bsx]at g)<;>(conv=>whnf)) | (refine And.intro rfl ?_;conv=>whnf) | fail)
 all_goals (refine hfin _ ?_; simp; omega)
theorem c_InI (l : List Int) (x : Int) (hl : l.length < 1000000) (K : Out -> List VObj -> Prop) (h : K (.ret (.bool (pB (x ∈ l)))) []) : VCall Tryz.prog 58 [.sl (iL l) .no, .int .i64 x] [] K := by
 have hil := iL_len l
 have h := pB_of h
 refine call_fun [] 0 Tryz.func58 (by rfl) (by rfl) ?_
 conv=>whnf
 (repeat' first | (refine step_go [] ?_;conv=>whnf) | (refine two ?_ ?_<;>intro g<;>(try simp only[bsx]at g)<;>(conv=>whnf)) | (refine And.intro rfl ?_;conv=>whnf) | fail)
 let S : Nat -> St := fun i => ⟨(.sl (iL l) .no :: .int .i64 x :: .undef :: .undef :: .bool false :: .int .i64 (i : Nat) :: .undef :: .undef :: .undef :: .undef :: .undef :: .undef :: .undef :: .undef :: .undef :: .undef :: .undef :: .undef :: []), [], 0, []⟩
 refine VLoop.enter (s' := S 0) (weak_of (by (repeat' first | exact VWs.nil | refine VWs.cons VW.undef ?_ | refine VWs.cons (VW.eq rfl) ?_)) .nil rfl rfl rfl) (VLoop.indW S (fun i => l.length - i) (fun i => i <= l.length /\ x ∉ l.take i) ?_ 0 ⟨by omega, by simp⟩)
 rintro i ⟨hi, hinv⟩ ih
 refine loop_round [] ?_; conv=>whnf
 (repeat' first | (refine step_go [] ?_;conv=>whnf) | (refine two ?_ ?_<;>intro g<;>(try simp only[bsx, hil]at g)<;>(conv=>whnf)) | (refine And.intro rfl ?_;conv=>whnf) | fail)
 · have hi2 : i < l.length := by omega
   have wi : IntKind.i64.wrap ((i : Int) + 1) = ((i + 1 : Nat) : Int) := by rw [wrap64 (by omega) (by omega)]; omega
   refine ⟨by omega, _, hol_get hi2, rfl, ?_⟩
   conv=>whnf
   (repeat' first | (refine step_go [] ?_;conv=>whnf) | (refine two ?_ ?_<;>intro g<;>(try simp only[bsx]at g)<;>(conv=>whnf)) | (refine And.intro rfl ?_;conv=>whnf) | fail)
   · refine ⟨_, Weak.refl, ?_⟩; conv=>whnf
     (repeat' first | (refine step_go [] ?_;conv=>whnf) | (refine two ?_ ?_<;>intro g<;>(try simp only[bsx]at g)<;>(conv=>whnf)) | (refine And.intro rfl ?_;conv=>whnf) | fail)
     exact h _ ⟨fun _ => by rw [← g]; exact List.getElem_mem _, fun _ => rfl⟩
   · exact ⟨S (i + 1), weak_of (by rw [wi]; (repeat' first | exact VWs.nil | refine VWs.cons VW.undef ?_ | refine VWs.cons (VW.eq rfl) ?_)) .nil rfl rfl rfl, ih (i + 1) ⟨by omega, by rw [List.take_succ_eq_append_getElem hi2]; simp only [List.mem_append, List.mem_singleton, not_or]; exact ⟨hinv, fun e => g e.symm⟩⟩ (by omega)⟩
 · have hi2 : i = l.length := by omega
   subst hi2
   rw [List.take_length] at hinv
   refine ⟨_, Weak.refl, ?_⟩; conv=>whnf
   (repeat' first | (refine step_go [] ?_;conv=>whnf) | (refine two ?_ ?_<;>intro g<;>(try simp only[bsx]at g)<;>(conv=>whnf)) | (refine And.intro rfl ?_;conv=>whnf) | fail)
   exact h _ ⟨fun e => (by cases e), fun e => absurd e hinv⟩
def sL (l : List (List Int)) : List V := l.map fun w => .str (toBA w)
theorem c_InS (l : List (List Int)) (s : ByteArray) (hl : l.length < 1000000) (hb : ∀ w ∈ l, ∀ x ∈ w, 0 <= x /\ x < 256) (K : Out -> List VObj -> Prop) (h : K (.ret (.bool (pB (sB s ∈ l)))) []) : VCall Tryz.prog 28 [.sl (sL l) .no, .str s] [] K := by
 have hil : (sL l).length = l.length := by simp [sL]
 have h := pB_of h
 refine call_fun [] 0 Tryz.func28 (by rfl) (by rfl) ?_
 conv=>whnf
 (repeat' first | (refine step_go [] ?_;conv=>whnf) | (refine two ?_ ?_<;>intro g<;>(try simp only[bsx]at g)<;>(conv=>whnf)) | (refine And.intro rfl ?_;conv=>whnf) | fail)
 let S : Nat -> St := fun i => ⟨(.sl (sL l) .no :: .str s :: .undef :: .undef :: .bool false :: .int .i64 (i : Nat) :: .undef :: .undef :: .undef :: .undef :: .undef :: .undef :: .undef :: .undef :: .undef :: .undef :: .undef :: .undef :: []), [], 0, []⟩
 refine VLoop.enter (s' := S 0) (weak_of (by (repeat' first | exact VWs.nil | refine VWs.cons VW.undef ?_ | refine VWs.cons (VW.eq rfl) ?_)) .nil rfl rfl rfl) (VLoop.indW S (fun i => l.length - i) (fun i => i <= l.length /\ sB s ∉ l.take i) ?_ 0 ⟨by omega, by simp⟩)
 rintro i ⟨hi, hinv⟩ ih
 refine loop_round [] ?_; conv=>whnf
 (repeat' first | (refine step_go [] ?_;conv=>whnf) | (refine two ?_ ?_<;>intro g<;>(try simp only[bsx, hil]at g)<;>(conv=>whnf)) | (refine And.intro rfl ?_;conv=>whnf) | fail)
 · have hi2 : i < l.length := by omega
   have wi : IntKind.i64.wrap ((i : Int) + 1) = ((i + 1 : Nat) : Int) := by rw [wrap64 (by omega) (by omega)]; omega
   have hget : (sL l)[((i : Nat) : Int).toNat]? = some (.str (toBA l[i])) := by rw [Int.toNat_natCast]; simp [sL, List.getElem?_eq_getElem hi2]
   have hmem : l[i] ∈ l := List.getElem_mem _
   obtain ⟨w, hw⟩ : ∃ w, l[i] = w := ⟨_, rfl⟩
   have htk : l.take (i + 1) = l.take i ++ [w] := by rw [List.take_succ_eq_append_getElem hi2, hw]
   rw [hw] at hget hmem
   refine ⟨by omega, _, hget, rfl, ?_⟩
   conv=>whnf
   (repeat (refine step_go [] ?_;conv=>whnf))
   rw [str_beq, sB_toBA (hb w hmem)]
   (repeat' first | (refine step_go [] ?_;conv=>whnf) | (refine two ?_ ?_<;>intro g<;>(try simp only[bsx]at g)<;>(conv=>whnf)) | (refine And.intro rfl ?_;conv=>whnf) | fail)
   · refine ⟨_, Weak.refl, ?_⟩; conv=>whnf
     (repeat' first | (refine step_go [] ?_;conv=>whnf) | (refine two ?_ ?_<;>intro g<;>(try simp only[bsx]at g)<;>(conv=>whnf)) | (refine And.intro rfl ?_;conv=>whnf) | fail)
     exact h _ ⟨fun _ => by rw [← g]; exact hmem, fun _ => rfl⟩
   · exact ⟨S (i + 1), weak_of (by rw [wi]; (repeat' first | exact VWs.nil | refine VWs.cons VW.undef ?_ | refine VWs.cons (VW.eq rfl) ?_)) .nil rfl rfl rfl, ih (i + 1) ⟨by omega, by rw [htk]; simp only [List.mem_append, List.mem_singleton, not_or]; exact ⟨hinv, fun e => g e.symm⟩⟩ (by omega)⟩
 · have hi2 : i = l.length := by omega
   subst hi2
   rw [List.take_length] at hinv
   refine ⟨_, Weak.refl, ?_⟩; conv=>whnf
   (repeat' first | (refine step_go [] ?_;conv=>whnf) | (refine two ?_ ?_<;>intro g<;>(try simp only[bsx]at g)<;>(conv=>whnf)) | (refine And.intro rfl ?_;conv=>whnf) | fail)
   exact h _ ⟨fun e => (by cases e), fun e => absurd e hinv⟩
theorem c_Words (K : Out -> List VObj -> Prop) (h : K (.ret (.sl (sL wordsL) .no)) []) : VCall Tryz.prog 54 [] [] K := by
 refine VCall.weak (call_fun [] 0 Tryz.func54 (by rfl) (by rfl) ?_)
 conv=>whnf
 (repeat' first | (refine step_go [] ?_;conv=>whnf) | (refine two ?_ ?_<;>intro g<;>(try simp only[bsx]at g)<;>(conv=>whnf)) | (refine And.intro rfl ?_;conv=>whnf) | fail)
 exact ⟨_, _, weak_of (.cons .no .nil) .nil rfl rfl rfl, h⟩
set_option maxHeartbeats 2000000 in
theorem c_rName (s : ByteArray) (hs : s.size < 1000000) (K : Out -> List VObj -> Prop) (h : K (.ret (.bool (nameB (sB s)))) []) : VCall Tryz.prog 25 [.str s] [] K := by
 have hsl := sB_len s
 have h := pB_of (P := nameP (sB s)) h
 refine call_fun [] 0 Tryz.func25 (by rfl) (by rfl) ?_
 conv=>whnf
 (repeat' first | (refine step_go [] ?_;conv=>whnf) | (refine two ?_ ?_<;>intro g<;>(try simp only[bsx]at g)<;>(conv=>whnf)) | (refine And.intro rfl ?_;conv=>whnf) | fail)
 let S : Nat -> St := fun i => ⟨(.str s :: .undef :: .bool false :: .int .i64 (i : Nat) :: .undef :: .undef :: .undef :: .undef :: .undef :: .undef :: .undef :: .undef :: .undef :: .undef :: .undef :: .undef :: .undef :: .undef :: .undef :: .undef :: .undef :: .undef :: .undef :: .undef :: .undef :: .undef :: .undef :: .undef :: .undef :: .undef :: .undef :: .undef :: .undef :: .undef :: .undef :: .undef :: .undef :: .undef :: .undef :: .undef :: .undef :: .undef :: .undef :: .undef :: .undef :: .undef :: .undef :: .undef :: .undef :: .undef :: .undef :: .undef :: .undef :: .undef :: .undef :: .undef :: .undef :: .undef :: .undef :: .undef :: .undef :: .undef :: []), [], 0, []⟩
 refine VLoop.enter (s' := S 0) (weak_of (by (repeat' first | exact VWs.nil | refine VWs.cons VW.undef ?_ | refine VWs.cons (VW.eq rfl) ?_)) .nil rfl rfl rfl)
  (VLoop.indW S (fun i => s.size - i) (fun i => i <= s.size /\ (∀ x, (sB s).head? = some x -> 0 < i -> Small x) /\ ∀ x ∈ (sB s).take i, Inner x) ?_ 0 ⟨by omega, fun x hx h0 => by omega, by simp⟩)
 rintro i ⟨hi, hinv0, hinv⟩ ih
 refine loop_round [] ?_; conv=>whnf
 (repeat' first | (refine step_go [] ?_;conv=>whnf) | (refine two ?_ ?_<;>intro g<;>(try simp only[bsx]at g)<;>(conv=>whnf)) | (refine And.intro rfl ?_;conv=>whnf) | fail)
 · have hil : i < (sB s).length := by omega
   have hx : (sB s)[i]? = some (sB s)[i] := List.getElem?_eq_getElem hil
   have hmem : (sB s)[i] ∈ sB s := List.getElem_mem _
   obtain ⟨x, hxx⟩ : ∃ x, (sB s)[i] = x := ⟨_, rfl⟩
   have htk : (sB s).take (i + 1) = (sB s).take i ++ [x] := by rw [List.take_succ_eq_append_getElem hil, hxx]
   rw [hxx] at hx hmem
   have wi : IntKind.i64.wrap ((i : Int) + 1) = ((i + 1 : Nat) : Int) := by rw [wrap64 (by omega) (by omega)]; omega
   have hhd : i = 0 -> (sB s).head? = some x := fun e => by rw [e] at hx; rw [List.head?_eq_getElem?]; exact hx
   have hgo : Inner x /\ (i = 0 -> Small x) -> VLoop _ _ _ (S (i + 1)) _ := fun hx2 => ih (i + 1) ⟨by omega, fun y hy _ => by
    by_cases e : i = 0
    · rw [hhd e] at hy; cases hy; exact hx2.2 e
    · exact hinv0 y hy (by omega), fun y hy => by
    rw [htk] at hy
    rcases List.mem_append.1 hy with hy | hy
    · exact hinv y hy
    · rw [List.mem_singleton.1 hy]; exact hx2.1⟩ (by omega)
   have hst : ¬ (Inner x /\ (i = 0 -> Small x)) -> K (.ret (.bool false)) [] := fun hx2 => h false ⟨fun e => (by cases e), fun hh => absurd ⟨hh.1.2.2.2 x hmem, fun e => hh.1.2.2.1 x (hhd e)⟩ hx2⟩
   unfold Inner Small Dig at hgo hst
   (repeat' first | (refine step_go [] ?_;conv=>whnf) | (refine two ?_ ?_<;>intro g<;>(try simp only[bsx]at g)<;>(conv=>whnf)) | (refine And.intro rfl ?_;conv=>whnf) | (refine idx_str (x := x) (by omega) (by rw [Int.toNat_natCast]; exact hx) fun b hb => ?_; (conv=>whnf); (repeat (refine step_go [] ?_;conv=>whnf)); rw [hb]; clear hb b) | fail)
   all_goals first
    | (refine ⟨_, Weak.refl, ?_⟩; conv=>whnf
       (repeat' first | (refine step_go [] ?_;conv=>whnf) | (refine two ?_ ?_<;>intro g<;>(try simp only[bsx]at g)<;>(conv=>whnf)) | (refine And.intro rfl ?_;conv=>whnf) | fail)
       exact hst (by omega))
    | exact ⟨S (i + 1), weak_of (by rw [wi]; (repeat' first | exact VWs.nil | refine VWs.cons VW.undef ?_ | refine VWs.cons (VW.eq rfl) ?_)) .nil rfl rfl rfl, hgo (by omega)⟩
 · have hil : i = (sB s).length := by omega
   subst hil
   rw [List.take_length] at hinv
   refine ⟨_, Weak.refl, ?_⟩
   conv=>whnf
   (repeat' first | (refine step_go [] ?_;conv=>whnf) | (refine two ?_ ?_<;>intro g<;>(try simp only[bsx, pB_iff, pB_no]at g)<;>(conv=>whnf)) | (refine And.intro rfl ?_;conv=>whnf) | (refine c_Words _ ?_;conv=>whnf) | (refine c_InS wordsL s (by decide) (by decide +kernel) _ ?_;conv=>whnf) | fail)
   · refine h _ ?_
     rw [Bool.not_eq_true', pB_no]
     constructor
     · exact fun hh => ⟨⟨by omega, by omega, fun x hx => hinv0 x hx (by omega), hinv⟩, hh⟩
     · exact fun hh => hh.2
   · exact h _ ⟨fun e => (by cases e), fun hh => by have := hh.1.2.1; omega⟩
   · exact h _ ⟨fun e => (by cases e), fun hh => by have := hh.1.1; omega⟩
end C15

