/- Part Wj of the proof: BB1 BB2 BB3 BB4 BB5 BB6 BB7 BB8 BB9 BB10. -/
import Derived.Test.YtplcolaagnpccaaDoorWg
import Derived.Test.YtplcolaagnpccaaDoorWe
import Derived.Test.YtplcolaagnpccaaDoorWi
namespace BB1
open Go Go.Proofs VL
set_option pp.maxSteps 2500
set_option maxRecDepth 100000
set_option linter.unusedVariables false
set_option linter.unusedSimpArgs false

theorem c_ne (i off : Nat) (ob : List VObj) (K) (h : K (.ret (.ptr i off)) ob) : VCall Tryd.prog 87 [.ptr i off] ob K :=
  c_noEscape Tryd.func87 (by rfl) (by rfl) (by kernel_rfl) (by kernel_rfl) h

theorem c_mnz (n : Int) (h0 : 0 ≤ n) (h1 : n ≤ 140737488355328) (K) (h : ∀ xs : List Int, n.toNat ≤ xs.length → K (.ret (.slo 0 1 0 n.toNat xs.length)) [.buf false 1 (xs.map (V.int .u8)) (some 5)]) :
    VCall Tryd.prog 101 [.int .i64 n] [] K :=
  c_makeNoZero (ps := #[3]) (t := 51) (e := 5) Tryd.func101 (by rfl) (by rfl) (by kernel_rfl) (by kernel_rfl) (by kernel_rfl) h0 h1 h

/-- the builder, and its bytes -/
def bO (T : TypeId) (a : V) (n c : Nat) : VObj := .cells true T [a, .slo 1 1 0 n c]
def isB (T : TypeId) : Prop := T = 53 ∨ T = 55

theorem uok {T : TypeId} (hT : isB T) (x : V) : unsafeOk (VL.sys Tryd.prog 2 []).P 126 50 (.cells true T [.nilp, x]) 0 = true := by
  rcases hT with rfl | rfl <;> kernel_rfl
theorem uokN {T : TypeId} (hT : isB T) (x : V) : unsafeOk (VL.sys Tryd.prog 1 []).P 126 50 (.cells true T [.nilp, x]) 0 = true := by
  rcases hT with rfl | rfl <;> kernel_rfl

theorem c_cc0 {T : TypeId} (hT : isB T) (mv : Bool) (n c : Nat) (L : List V) (K) (h : K (.ret (.tup [])) [bO T (.ptr 0 0) n c, .buf mv 1 L (some 5)]) :
    VCall Tryd.prog 69 [.ptr 0 0] [bO T .nilp n c, .buf mv 1 L (some 5)] K := by
  cases mv with
  | true =>
    refine call_fun [] 2 Tryd.func69 (by rfl) (by rfl) ?_; (conv => whnf); (repeat (refine step_go [] ?_; conv => whnf))
    refine c_ne _ _ _ _ ?_; (conv => whnf); (repeat (refine step_go [] ?_; conv => whnf))
    rw [uok hT]; (conv => whnf); (repeat (refine step_go [] ?_; conv => whnf))
    exact h
  | false =>
    refine call_fun [] 2 Tryd.func69 (by rfl) (by rfl) ?_; (conv => whnf); (repeat (refine step_go [] ?_; conv => whnf))
    refine c_ne _ _ _ _ ?_; (conv => whnf); (repeat (refine step_go [] ?_; conv => whnf))
    rw [uok hT]; (conv => whnf); (repeat (refine step_go [] ?_; conv => whnf))
    exact h

theorem c_cc1 {T : TypeId} (hT : isB T) (mv : Bool) (n c : Nat) (L : List V) (K) (h : K (.ret (.tup [])) [bO T (.ptr 0 0) n c, .buf mv 1 L (some 5)]) :
    VCall Tryd.prog 69 [.ptr 0 0] [bO T (.ptr 0 0) n c, .buf mv 1 L (some 5)] K := by
  cases mv with
  | true =>
    refine call_fun [] 2 Tryd.func69 (by rfl) (by rfl) ?_; (conv => whnf); (repeat (refine step_go [] ?_; conv => whnf))
    exact h
  | false =>
    refine call_fun [] 2 Tryd.func69 (by rfl) (by rfl) ?_; (conv => whnf); (repeat (refine step_go [] ?_; conv => whnf))
    exact h

theorem c_ws {T : TypeId} (hT : isB T) (a : V) (ha : a = .nilp ∨ a = .ptr 0 0) (mv : Bool) (s : ByteArray) (sp : List V) (u : ByteArray) (hb : s.size + u.size ≤ 140737488355328) (K)
    (h : ∀ sp' : List V, K (.ret (.tup [.int .i64 (u.size : Int), .nili])) [bO T (.ptr 0 0) (s ++ u).size ((s ++ u).size + sp'.length), .buf true 1 (bytesV (s ++ u) ++ sp') (some 5)]) :
    VCall Tryd.prog 48 [.ptr 0 0, .str u] [bO T a s.size (s.size + sp.length), .buf mv 1 (bytesV s ++ sp) (some 5)] K := by
  have e0 : (bytesV s).length = s.size := bytesV_length s
  have e1 : (bytesV u).length = u.size := bytesV_length u
  have e2 : bytesV (s ++ u) = bytesV s ++ bytesV u := by unfold bytesV; rw [ByteArray.data_append, Array.toList_append, List.map_append]
  have e3 : (s ++ u).size = s.size + u.size := ByteArray.size_append
  rw [e3, e2] at h
  rcases ha with rfl | rfl <;> cases mv
  all_goals
    refine VCall.weak (call_fun [] 2 Tryd.func48 (by rfl) (by rfl) ?_)
    (conv => whnf); (repeat (refine step_go [] ?_; conv => whnf))
    first
      | refine c_cc0 hT _ _ _ _ _ ?_
      | refine c_cc1 hT _ _ _ _ _ ?_
    (conv => whnf); (repeat (refine step_go [] ?_; conv => whnf))
    refine ⟨by rw [Nat.zero_add, Nat.mul_one, e1]; exact hb, fun x hx => (bytesV_ok u x hx).1, ?_⟩; (conv => whnf); (repeat (refine step_go [] ?_; conv => whnf))
    rw [e1]
    refine two (fun g => ?_) (fun g => ?_)
    · have hc := Nat.le_of_ble_eq_true g
      refine ⟨by simp; omega, ?_⟩; (conv => whnf); (repeat (refine step_go [] ?_; conv => whnf))
      have h' := h (sp.drop u.size)
      have q1 : List.take (0 + s.size) (bytesV s ++ sp) ++ bytesV u ++ List.drop (0 + s.size + u.size) (bytesV s ++ sp) = bytesV s ++ bytesV u ++ sp.drop u.size := by
        rw [Nat.zero_add, ← e0, List.take_left, List.drop_append]
        simp
      have q2 : s.size + u.size + (sp.drop u.size).length = s.size + sp.length := by simp; omega
      rw [q2, ← q1] at h'
      first
        | exact ⟨_, _, weak_of (.cons (.eq rfl) .nil) (.cons (.eq rfl) (.cons .moved .nil)) rfl rfl rfl, h'⟩
        | exact ⟨_, _, weak_of (.cons (.eq rfl) .nil) (.cons (.eq rfl) (.cons (.eq rfl) .nil)) rfl rfl rfl, h'⟩
    · refine ⟨by simp; omega, fun sp' hsp' => ?_⟩; (conv => whnf); (repeat (refine step_go [] ?_; conv => whnf))
      have h' := h sp'
      have q1 : List.take s.size (List.drop 0 (bytesV s ++ sp)) ++ bytesV u ++ sp' = bytesV s ++ bytesV u ++ sp' := by
        rw [List.drop_zero, ← e0, List.take_left]
      rw [q1]
      refine ⟨_, _, ?_, h'⟩
      obtain ⟨s', hw, rfl⟩ := weak_sel (m := 2) (src := [0, 2]) (s := ⟨[.tup [.int .i64 (u.size : Int), .nili]], [.cells true T [.ptr 0 0, .slo 2 1 0 (s.size + u.size) (s.size + u.size + sp'.length)], .buf _ 1 (bytesV s ++ sp) (some 5), .buf false 1 (bytesV s ++ bytesV u ++ sp') (some 5)], 0, []⟩)
        (K := fun s' => s' = ⟨[.tup [.int .i64 (u.size : Int), .nili]], [.cells true T [.ptr 0 0, .slo 1 1 0 (s.size + u.size) (s.size + u.size + sp'.length)], .buf true 1 (bytesV s ++ bytesV u ++ sp') (some 5)], 0, []⟩) rfl
      exact hw

theorem c_str {T : TypeId} (hT : isB T) (mv : Bool) (s : ByteArray) (sp : List V) (h0 : 0 < s.size) (hb : s.size ≤ 140737488355328) (K)
    (h : K (.ret (.str s)) [bO T (.ptr 0 0) s.size (s.size + sp.length), .buf true 1 []]) :
    VCall Tryd.prog 28 [.ptr 0 0] [bO T (.ptr 0 0) s.size (s.size + sp.length), .buf mv 1 (bytesV s ++ sp) (some 5)] K := by
  have e0 : (bytesV s).length = s.size := bytesV_length s
  refine VCall.weak (call_fun [] 2 Tryd.func28 (by rfl) (by rfl) ?_)
  (conv => whnf); (repeat (refine step_go [] ?_; conv => whnf))
  (refine ⟨by decide +kernel, ?_⟩; conv => whnf)
  (repeat (refine And.intro rfl ?_; conv => whnf))
  refine ⟨by omega, ?_⟩; (conv => whnf); (repeat (refine step_go [] ?_; conv => whnf))
  (repeat (refine And.intro rfl ?_; conv => whnf))
  refine ⟨by omega, by omega, by simp; omega, s, by rw [Int.toNat_natCast, ← e0, List.take_left], ?_⟩
  refine no (by rw [Int.toNat_natCast]; cases h : Nat.beq s.size 0 with | false => rfl | true => exact absurd (Nat.eq_of_beq_eq_true h) (by omega)) ?_; (conv => whnf); (repeat (refine step_go [] ?_; conv => whnf))
  (repeat (refine And.intro rfl ?_; conv => whnf))
  exact ⟨_, _, Weak.refl, h⟩

theorem c_grow {T : TypeId} (hT : isB T) (mv : Bool) (s : ByteArray) (sp : List V) (n : Nat) (hb : 2 * (s.size + sp.length) + n ≤ 140737488355328) (K)
    (h : ∀ sp' : List V, K (.ret (.tup [])) [bO T (.ptr 0 0) s.size (s.size + sp'.length), .buf true 1 (bytesV s ++ sp') (some 5)]) :
    VCall Tryd.prog 81 [.ptr 0 0, .int .i64 (n : Int)] [bO T (.ptr 0 0) s.size (s.size + sp.length), .buf mv 1 (bytesV s ++ sp) (some 5)] K := by
  have e0 : (bytesV s).length = s.size := bytesV_length s
  cases mv
  all_goals
    refine VCall.weak (call_fun [] 2 Tryd.func81 (by rfl) (by rfl) ?_)
    (conv => whnf); (repeat (refine step_go [] ?_; conv => whnf))
    (refine ⟨by decide +kernel, ?_⟩; conv => whnf)
    (repeat (refine And.intro rfl ?_; conv => whnf))
    rw [wrap64 (x := 2 * ((s.size + sp.length : Nat) : Int)) (by omega) (by omega), wrap64 (by omega) (by omega)]
    refine c_mnz _ (by omega) (by omega) _ fun xs hxs => ?_; (conv => whnf); (repeat (refine step_go [] ?_; conv => whnf))
    (repeat (refine And.intro rfl ?_; conv => whnf))
    refine ⟨by omega, by omega, by omega, ?_⟩; (conv => whnf); (repeat (refine step_go [] ?_; conv => whnf))
    (repeat (refine And.intro rfl ?_; conv => whnf))
    have t1 : List.take s.size (List.drop 0 (bytesV s ++ sp)) = bytesV s := by rw [List.drop_zero, ← e0, List.take_left]
    refine ⟨by simp; omega, ?_⟩; (conv => whnf); (repeat (refine step_go [] ?_; conv => whnf))
    refine ⟨fun x hx => (bytesV_ok s x (t1 ▸ hx)).1, ?_⟩; (conv => whnf); (repeat (refine step_go [] ?_; conv => whnf))
    refine ⟨by simp; omega, ?_⟩; (conv => whnf); (repeat (refine step_go [] ?_; conv => whnf))
    have hx : s.size + ((xs.map (V.int .u8)).drop s.size).length = xs.length := by simp; omega
    have t2 : List.take s.size (bytesV s) = bytesV s := by rw [← e0, List.take_length]
    have h' := h ((xs.map (V.int .u8)).drop s.size)
    rw [hx] at h'
    refine ⟨_, _, ?_, h'⟩
    simp only [Int.toNat_natCast, Int.toNat_zero, Nat.zero_add, Nat.add_zero, Nat.sub_zero, t1, t2, e0, Nat.min_self, List.take_zero, List.nil_append]
    obtain ⟨s', hw, rfl⟩ := weak_sel (m := 2) (src := [0, 2]) (s := ⟨[.tup []], [.cells true T [.ptr 0 0, .slo 2 1 0 s.size xs.length], .buf _ 1 (bytesV s ++ sp) (some 5), .buf false 1 (bytesV s ++ (xs.map (V.int .u8)).drop s.size) (some 5)], 0, []⟩)
      (K := fun s' => s' = ⟨[.tup []], [.cells true T [.ptr 0 0, .slo 1 1 0 s.size xs.length], .buf true 1 (bytesV s ++ (xs.map (V.int .u8)).drop s.size) (some 5)], 0, []⟩) rfl
    exact hw

theorem c_Grow {T : TypeId} (hT : isB T) (a : V) (ha : a = .nilp ∨ a = .ptr 0 0) (mv : Bool) (s : ByteArray) (sp : List V) (n : Nat) (hb : 2 * (s.size + sp.length) + n ≤ 140737488355328) (K)
    (h : ∀ sp' : List V, K (.ret (.tup [])) [bO T (.ptr 0 0) s.size (s.size + sp'.length), .buf true 1 (bytesV s ++ sp') (some 5)]) :
    VCall Tryd.prog 61 [.ptr 0 0, .int .i64 (n : Int)] [bO T a s.size (s.size + sp.length), .buf mv 1 (bytesV s ++ sp) (some 5)] K := by
  have e0 : (bytesV s).length = s.size := bytesV_length s
  rcases ha with rfl | rfl <;> cases mv
  all_goals
    refine VCall.weak (call_fun [] 2 Tryd.func61 (by rfl) (by rfl) ?_)
    (conv => whnf); (repeat (refine step_go [] ?_; conv => whnf))
    first
      | refine c_cc0 hT _ _ _ _ _ ?_
      | refine c_cc1 hT _ _ _ _ _ ?_
    (conv => whnf); (repeat (refine step_go [] ?_; conv => whnf))
    (refine ⟨by decide +kernel, ?_⟩; conv => whnf)
    (repeat (refine And.intro rfl ?_; conv => whnf))
    (repeat (refine step_go [] ?_; conv => whnf))
    refine two (fun g => ?_) (fun g => ?_)
    · (conv => whnf); (repeat (refine step_go [] ?_; conv => whnf))
      refine c_grow hT _ _ _ _ hb _ fun sp' => ?_; (conv => whnf); (repeat (refine step_go [] ?_; conv => whnf))
      exact ⟨_, _, Weak.refl, h sp'⟩
    · (conv => whnf); (repeat (refine step_go [] ?_; conv => whnf))
      first
        | exact ⟨_, _, Weak.refl, h sp⟩
        | exact ⟨_, _, weak_of (.cons (.eq rfl) .nil) (.cons (.eq rfl) (.cons .moved .nil)) rfl rfl rfl, h sp⟩

/-- a builder to which nothing has been written -/
def bN (T : TypeId) : VObj := .cells true T [.nilp, .sl [] .ex]

theorem c_ccN {T : TypeId} (hT : isB T) (K) (h : K (.ret (.tup [])) [bO T (.ptr 0 0) 0 0, .buf false 1 [] (some 5)]) :
    VCall Tryd.prog 69 [.ptr 0 0] [bN T] K := by
  refine VCall.weak (call_fun [] 1 Tryd.func69 (by rfl) (by rfl) ?_)
  (conv => whnf); (repeat (refine step_go [] ?_; conv => whnf))
  refine c_ne _ _ _ _ ?_; (conv => whnf); (repeat (refine step_go [] ?_; conv => whnf))
  rw [uokN hT]; (conv => whnf); (repeat (refine step_go [] ?_; conv => whnf))
  exact ⟨_, _, weak_nil 0 1 1 (some 5) (ob := [.cells true T [.ptr 0 0, .sl [] .ex]]) (wr := true) (T := T) (cs := [.ptr 0 0, .sl [] .ex]) rfl rfl (Nat.le_refl _), h⟩

theorem c_Grow0 {T : TypeId} (hT : isB T) (n : Nat) (hb : n ≤ 140737488355328) (K)
    (h : ∀ sp' : List V, K (.ret (.tup [])) [bO T (.ptr 0 0) (⟨#[]⟩ : ByteArray).size ((⟨#[]⟩ : ByteArray).size + sp'.length), .buf true 1 (bytesV ⟨#[]⟩ ++ sp') (some 5)]) :
    VCall Tryd.prog 61 [.ptr 0 0, .int .i64 (n : Int)] [bN T] K := by
  refine VCall.weak (call_fun [] 1 Tryd.func61 (by rfl) (by rfl) ?_)
  (conv => whnf); (repeat (refine step_go [] ?_; conv => whnf))
  refine c_ccN hT _ ?_
  (conv => whnf); (repeat (refine step_go [] ?_; conv => whnf))
  (refine ⟨by decide +kernel, ?_⟩; conv => whnf)
  (repeat (refine And.intro rfl ?_; conv => whnf))
  (repeat (refine step_go [] ?_; conv => whnf))
  refine two (fun g => ?_) (fun g => ?_)
  · (conv => whnf); (repeat (refine step_go [] ?_; conv => whnf))
    refine c_grow hT false ⟨#[]⟩ [] n (by show 2 * (0 + 0) + n ≤ _; omega) _ fun sp' => ?_; (conv => whnf); (repeat (refine step_go [] ?_; conv => whnf))
    exact ⟨_, _, Weak.refl, h sp'⟩
  · (conv => whnf); (repeat (refine step_go [] ?_; conv => whnf))
    exact ⟨_, _, weak_of (.cons (.eq rfl) .nil) (.cons (.eq rfl) (.cons .moved .nil)) rfl rfl rfl, h []⟩

theorem c_ws0 {T : TypeId} (hT : isB T) (u : ByteArray) (hb : u.size ≤ 140737488355328) (K)
    (h : ∀ sp' : List V, K (.ret (.tup [.int .i64 (u.size : Int), .nili])) [bO T (.ptr 0 0) u.size (u.size + sp'.length), .buf true 1 (bytesV u ++ sp') (some 5)]) :
    VCall Tryd.prog 48 [.ptr 0 0, .str u] [bN T] K := by
  have e1 : (bytesV u).length = u.size := bytesV_length u
  refine VCall.weak (call_fun [] 1 Tryd.func48 (by rfl) (by rfl) ?_)
  (conv => whnf); (repeat (refine step_go [] ?_; conv => whnf))
  refine c_ccN hT _ ?_
  (conv => whnf); (repeat (refine step_go [] ?_; conv => whnf))
  refine ⟨by rw [Nat.zero_add, Nat.zero_add, Nat.mul_one, e1]; exact hb, fun x hx => (bytesV_ok u x hx).1, ?_⟩; (conv => whnf); (repeat (refine step_go [] ?_; conv => whnf))
  rw [e1]
  refine two (fun g => ?_) (fun g => ?_)
  · have hc := Nat.le_of_ble_eq_true g
    have hu : u.size = 0 := by omega
    have hu0 : bytesV u = [] := List.eq_nil_of_length_eq_zero (by omega)
    refine ⟨by simp, ?_⟩; (conv => whnf); (repeat (refine step_go [] ?_; conv => whnf))
    have h' := h []
    rw [hu, hu0] at h' ⊢
    exact ⟨_, _, weak_of (.cons (.eq rfl) .nil) (.cons (.eq rfl) (.cons .moved .nil)) rfl rfl rfl, h'⟩
  · refine ⟨by simp, fun sp' hsp' => ?_⟩; (conv => whnf); (repeat (refine step_go [] ?_; conv => whnf))
    have h' := h sp'
    refine ⟨_, _, ?_, h'⟩
    have q1 : List.take 0 (List.drop 0 []) ++ bytesV u ++ sp' = bytesV u ++ sp' := by simp
    rw [q1]
    simp only [Nat.zero_add]
    exact weak_of (.cons (.eq rfl) .nil) (.cons (.eq rfl) (.cons .moved .nil)) rfl rfl rfl

end BB1

namespace BB2
open Go Go.Proofs VL BB1
set_option pp.maxSteps 1500
set_option maxRecDepth 100000
set_option linter.unusedVariables false
set_option linter.unusedSimpArgs false

def spc : ByteArray := ⟨#[32]⟩
def restB (l : List ByteArray) : ByteArray := l.foldr (fun x r => spc ++ x ++ r) ⟨#[]⟩
def joinB : List ByteArray → ByteArray
  | [] => ⟨#[]⟩
  | a :: l => a ++ restB l

theorem rest_le : ∀ (l : List ByteArray) (x : ByteArray), x ∈ l → x.size ≤ (restB l).size
  | a :: l, x, h => by
    rw [restB, List.foldr_cons, ByteArray.size_append, ByteArray.size_append]
    rcases List.mem_cons.1 h with rfl | h
    · omega
    · have := rest_le l x h
      rw [restB] at this
      omega
theorem join_le {l : List ByteArray} {x : ByteArray} (h : x ∈ l) : x.size ≤ (joinB l).size := by
  cases l with
  | nil => cases h
  | cons a l =>
    rw [joinB, ByteArray.size_append]
    rcases List.mem_cons.1 h with rfl | h
    · omega
    · have := rest_le l x h; omega
theorem quo_ok (m : Nat) (h1 : 1 ≤ m) (h2 : m ≤ 9) : 1 < IntKind.i64.wrap (Int.tdiv 9223372036854775807 (m : Int)) := by
  have : ∀ m : Fin 10, 1 ≤ m.val → 1 < IntKind.i64.wrap (Int.tdiv 9223372036854775807 (m.val : Int)) := by decide
  exact this ⟨m, by omega⟩ h1

theorem c_join (a : ByteArray) (l : List ByteArray) (h1 : 1 ≤ l.length) (h9 : l.length ≤ 9) (hb : (joinB (a :: l)).size ≤ 1000000) (K) (h : K (.ret (.str (joinB (a :: l)))) []) :
    VCall Tryd.prog 49 [.sl ((a :: l).map V.str) .no, .str spc] [] K := by
  have hsz : ∀ x ∈ a :: l, x.size ≤ 1000000 := fun x hx => Nat.le_trans (join_le hx) hb
  obtain ⟨L, hL⟩ : ∃ L, (a :: l).map V.str = L := ⟨_, rfl⟩
  have hlen : L.length = l.length + 1 := by rw [← hL]; simp
  rw [hL]
  refine VCall.weak (call_fun [] 0 Tryd.func49 (by rfl) (by rfl) ?_)
  (conv => whnf); (repeat (refine step_go [] ?_; conv => whnf))
  refine two (fun g => ?_) (fun g => ?_)
  · have g := beq_iff_eq.1 g; omega
  (conv => whnf); (repeat (refine step_go [] ?_; conv => whnf))
  refine two (fun g2 => ?_) (fun g2 => ?_)
  · have g2 := beq_iff_eq.1 g2; omega
  (conv => whnf); (repeat (refine step_go [] ?_; conv => whnf))
  have w1 : IntKind.i64.wrap ((L.length : Int) - 1) = (l.length : Int) := by rw [hlen, wrap64 (by omega) (by omega)]; omega
  rw [w1]
  refine ⟨by omega, ?_⟩; (conv => whnf); (repeat (refine step_go [] ?_; conv => whnf))
  refine two (fun g3 => ?_) (fun g3 => ?_)
  · exfalso
    have := of_decide_eq_true g3
    have q := quo_ok l.length h1 h9
    have e : ((spc.size : Nat) : Int) = 1 := rfl
    omega
  (conv => whnf); (repeat (refine step_go [] ?_; conv => whnf))
  let S : Nat × Nat → St := fun x => ⟨(.sl L .no :: .str spc :: .undef :: .undef :: .str ⟨#[]⟩ :: .int .i64 (x.2 : Nat) :: .undef :: .undef :: .undef :: .undef :: .undef :: .undef :: .undef :: .undef :: .undef :: .undef :: .undef :: .undef :: .undef :: .undef :: .undef :: .undef :: .undef :: .undef :: .undef :: .undef :: .undef :: .undef :: .undef :: .undef :: .undef :: .undef :: .undef :: .undef :: .undef :: .undef :: .undef :: .undef :: .undef :: .sl L .no :: .int .i64 (L.length : Nat) :: .int .i64 (x.1 : Nat) :: .undef :: .undef :: .undef :: .undef :: .undef :: .undef :: .undef :: .undef :: .undef :: .undef :: .undef :: .undef :: .undef :: .undef :: .undef :: .undef :: .undef :: .undef :: .undef :: .undef :: .undef :: .undef :: .undef :: .undef :: .undef :: .undef :: .undef :: .undef :: .undef :: .undef :: .undef :: .undef :: .undef :: []), [], 0, []⟩
  refine VLoop.enter (s' := S (0, l.length)) (weak_of ?_ .nil rfl rfl rfl)
    (VLoop.indW S (fun x => l.length + 1 - x.1) (fun x => x.1 ≤ l.length + 1 ∧ x.2 ≤ 10 + 1000000 * x.1) ?_ (0, l.length) ⟨by omega, by simp; omega⟩)
  · repeat' first
      | exact VWs.nil
      | refine VWs.cons VW.undef ?_
      | refine VWs.cons (VW.eq rfl) ?_
      | refine VWs.cons (VW.eq (congrArg (V.int .i64) (by rw [w1]; show IntKind.i64.wrap (0 + IntKind.i64.wrap (1 * (l.length : Int))) = _; rw [wrap64 (x := 1 * (l.length : Int)) (by omega) (by omega), wrap64 (by omega) (by omega)]; omega))) ?_
  rintro ⟨i, v⟩ ⟨hi, hv⟩ ih
  simp only at hi hv
  refine loop_round [] ?_; (conv => whnf); (repeat (refine step_go [] ?_; conv => whnf))
  refine two (fun g4 => ?_) (fun g4 => ?_)
  · have hil : i < l.length + 1 := by simp at g4; omega
    have hx : (a :: l)[i]? = some (a :: l)[i] := List.getElem?_eq_getElem hil
    obtain ⟨x, hxx⟩ : ∃ x, (a :: l)[i] = x := ⟨_, rfl⟩
    rw [hxx] at hx
    have hxs : x.size ≤ 1000000 := hsz x (List.mem_of_getElem? hx)
    have hget : L[((i : Nat) : Int).toNat]? = some (.str x) := by rw [Int.toNat_natCast, ← hL, List.getElem?_map, hx]; rfl
    (conv => whnf); (repeat (refine step_go [] ?_; conv => whnf))
    refine ⟨by omega, _, hget, rfl, ?_⟩; (conv => whnf); (repeat (refine step_go [] ?_; conv => whnf))
    have wS : IntKind.i64.wrap (9223372036854775807 - ((v : Nat) : Int)) = 9223372036854775807 - ((v : Nat) : Int) := wrap64 (by omega) (by omega)
    refine two (fun g5 => ?_) (fun g5 => ?_)
    · exfalso
      have g5 := of_decide_eq_true g5
      simp only at g5
      rw [wS] at g5
      omega
    (conv => whnf); (repeat (refine step_go [] ?_; conv => whnf))
    refine ⟨S (i + 1, v + x.size), weak_of ?_ .nil rfl rfl rfl, ih (i + 1, v + x.size) ⟨by simp only; omega, by simp only; omega⟩ (by simp only; omega)⟩
    repeat' first
      | exact VWs.nil
      | refine VWs.cons VW.undef ?_
      | refine VWs.cons (VW.eq rfl) ?_
      | refine VWs.cons (VW.eq (congrArg (V.int .i64) (by simp only; rw [wrap64 (by omega) (by omega)]; omega))) ?_
  · refine ⟨_, Weak.refl, ?_⟩; (conv => whnf); (repeat (refine step_go [] ?_; conv => whnf))
    refine c_Grow0 (.inl rfl) _ (by simp only; omega) _ fun sp0 => ?_; (conv => whnf); (repeat (refine step_go [] ?_; conv => whnf))
    have hget0 : L[Int.toNat 0]? = some (.str a) := by rw [← hL]; rfl
    refine ⟨by decide, _, hget0, rfl, ?_⟩; (conv => whnf); (repeat (refine step_go [] ?_; conv => whnf))
    have hae : (⟨#[]⟩ : ByteArray) ++ a = a := by apply ByteArray.ext; simp
    have has : a.size ≤ 1000000 := hsz a (by simp)
    refine c_ws (.inl rfl) _ (.inr rfl) false ⟨#[]⟩ sp0 a (by show 0 + _ ≤ _; omega) _ fun sp1 => ?_
    rw [hae]; (conv => whnf); (repeat (refine step_go [] ?_; conv => whnf))
    have hcl : ∀ x ∈ L, x.cells.length = 0 + 1 := fun x hx => by
      rw [← hL] at hx
      obtain ⟨y, _, rfl⟩ := List.mem_map.1 hx
      rfl
    refine ⟨by decide, by omega, hcl, ?_⟩; (conv => whnf); (repeat (refine step_go [] ?_; conv => whnf))
    clear ih
    have hM : L.drop 1 = l.map V.str := by rw [← hL]; rfl
    let S2 : Nat × ByteArray × List V → St := fun x => ⟨(.undef :: .str spc :: .undef :: .undef :: .undef :: .undef :: .undef :: .undef :: .ptr 0 0 :: .undef :: .undef :: .undef :: .undef :: .undef :: .undef :: .undef :: .undef :: .undef :: .undef :: .undef :: .undef :: .undef :: .undef :: .undef :: .undef :: .undef :: .undef :: .undef :: .undef :: .undef :: .undef :: .undef :: .undef :: .undef :: .undef :: .undef :: .undef :: .undef :: .undef :: .undef :: .undef :: .undef :: .undef :: .undef :: .undef :: .undef :: .undef :: .undef :: .undef :: .undef :: .undef :: .undef :: .undef :: .undef :: .undef :: .undef :: .undef :: .undef :: .undef :: .undef :: .undef :: .undef :: .undef :: .sl (l.map V.str) .no :: .int .i64 (l.length : Nat) :: .int .i64 (x.1 : Nat) :: .undef :: .undef :: .undef :: .undef :: .undef :: .undef :: .undef :: .undef :: .undef :: []), [bO 53 (.ptr 0 0) x.2.1.size (x.2.1.size + x.2.2.length), .buf true 1 (bytesV x.2.1 ++ x.2.2) (some 5)], 0, []⟩
    refine VLoop.enter (s' := S2 (0, a, sp1)) (weak_of ?_ (.cons (.eq rfl) (.cons (.eq rfl) .nil)) rfl rfl rfl)
      (VLoop.indW S2 (fun x => l.length - x.1) (fun x => x.1 ≤ l.length ∧ x.2.1 ++ restB (l.drop x.1) = joinB (a :: l)) ?_ (0, a, sp1) ⟨by omega, rfl⟩)
    · repeat' first
        | exact VWs.nil
        | refine VWs.cons VW.undef ?_
        | refine VWs.cons (VW.eq rfl) ?_
        | refine VWs.cons (VW.eq (by rw [← hM]; rfl)) ?_
        | refine VWs.cons (VW.eq (congrArg (V.int .i64) (by simp; omega))) ?_
    rintro ⟨i2, s, sp⟩ ⟨hi2, hs⟩ ih
    simp only at hi2 hs
    refine loop_round [] ?_; (conv => whnf); (repeat (refine step_go [] ?_; conv => whnf))
    refine two (fun g6 => ?_) (fun g6 => ?_)
    · have hil : i2 < l.length := by simp at g6; omega
      have hx : l[i2]? = some l[i2] := List.getElem?_eq_getElem hil
      have hdr : l.drop i2 = l[i2] :: l.drop (i2 + 1) := (List.drop_eq_getElem_cons hil)
      obtain ⟨x, hxx⟩ : ∃ x, l[i2] = x := ⟨_, rfl⟩
      rw [hxx] at hx hdr
      have hxs : x.size ≤ 1000000 := hsz x (List.mem_cons_of_mem _ (List.mem_of_getElem? hx))
      have hss : s.size ≤ 1000000 := by
        have := congrArg ByteArray.size hs
        rw [ByteArray.size_append] at this; omega
      have hget : (l.map V.str)[((i2 : Nat) : Int).toNat]? = some (.str x) := by rw [Int.toNat_natCast, List.getElem?_map, hx]; rfl
      (conv => whnf); (repeat (refine step_go [] ?_; conv => whnf))
      refine ⟨by omega, _, hget, rfl, ?_⟩; (conv => whnf); (repeat (refine step_go [] ?_; conv => whnf))
      have hsp : spc.size = 1 := rfl
      refine c_ws (.inl rfl) _ (.inr rfl) _ s sp spc (by omega) _ fun sp2 => ?_; (conv => whnf); (repeat (refine step_go [] ?_; conv => whnf))
      refine c_ws (.inl rfl) _ (.inr rfl) _ (s ++ spc) sp2 x (by rw [ByteArray.size_append]; omega) _ fun sp3 => ?_; (conv => whnf); (repeat (refine step_go [] ?_; conv => whnf))
      refine ⟨S2 (i2 + 1, s ++ spc ++ x, sp3), weak_of ?_ (.cons (.eq rfl) (.cons ?_ .nil)) rfl rfl rfl, ih (i2 + 1, s ++ spc ++ x, sp3) ⟨by simp only; omega, ?_⟩ (by simp only; omega)⟩
      · repeat' first
          | exact VWs.nil
          | refine VWs.cons VW.undef ?_
          | refine VWs.cons (VW.eq rfl) ?_
          | refine VWs.cons (VW.eq (congrArg (V.int .i64) (by simp only; rw [wrap64 (by omega) (by omega)]; omega))) ?_
      · first
          | exact .eq rfl
          | exact .moved
      · simp only
        rw [← hs, hdr]
        show s ++ spc ++ x ++ restB (l.drop (i2 + 1)) = s ++ (spc ++ x ++ restB (l.drop (i2 + 1)))
        simp only [ByteArray.append_assoc]
    · have hi3 : i2 = l.length := by simp at g6; omega
      subst hi3
      have hs' : s = joinB (a :: l) := by
        rw [← hs, List.drop_length]
        apply ByteArray.ext; simp [restB]
      have hpos : 0 < s.size := by
        rw [hs', joinB, ByteArray.size_append]
        match l, h1 with
        | y :: l', _ => simp only [restB, List.foldr_cons, ByteArray.size_append]; have : spc.size = 1 := rfl; omega
      refine ⟨_, Weak.refl, ?_⟩; (conv => whnf); (repeat (refine step_go [] ?_; conv => whnf))
      refine c_str (.inl rfl) _ s sp hpos (by rw [hs']; omega) _ ?_; (conv => whnf); (repeat (refine step_go [] ?_; conv => whnf))
      exact ⟨_, _, weak_of (.cons (.eq rfl) .nil) .nil rfl rfl rfl, hs' ▸ h⟩
end BB2

namespace BB3
open Go Go.Proofs VL BB1 BB2
set_option pp.maxSteps 1500
set_option maxRecDepth 100000
set_option linter.unusedVariables false
set_option linter.unusedSimpArgs false

def nl : ByteArray := ⟨#[10]⟩
abbrev TW : TypeId := 55
def lineB (l : List ByteArray) : ByteArray := joinB l ++ nl

theorem cat_ok {s : ByteArray} (h : s.size ≤ 1000000) : ((s.size + (⟨#[10]⟩ : ByteArray).size : Nat) : Int) ≤ IntKind.i64.max := by
  have e : IntKind.i64.max = 9223372036854775807 := rfl
  have e1 : (⟨#[10]⟩ : ByteArray).size = 1 := rfl
  rw [e, e1]; omega

theorem c_line (a : V) (ha : a = .nilp ∨ a = .ptr 0 0) (mv : Bool) (s : ByteArray) (sp : List V) (w : ByteArray) (l : List ByteArray) (h1 : 1 ≤ l.length) (h9 : l.length ≤ 9) (hj : (joinB (w :: l)).size ≤ 1000000) (hs : s.size ≤ 1000000) (r : Room) (K)
    (h : ∀ sp' : List V, K (.ret (.tup [])) [bO TW (.ptr 0 0) (s ++ lineB (w :: l)).size ((s ++ lineB (w :: l)).size + sp'.length), .buf true 1 (bytesV (s ++ lineB (w :: l)) ++ sp') (some 5)]) :
    VCall Tryd.prog 25 [.ptr 0 0, .sl ((w :: l).map V.str) .ex] [bO TW a s.size (s.size + sp.length), .buf mv 1 (bytesV s ++ sp) (some 5)] K := by
  refine VCall.args (args' := [.ptr 0 0, .sl ((w :: l).map V.str) .no]) (by repeat' first | exact VWs.nil | refine VWs.cons (VW.eq rfl) ?_ | refine VWs.cons VW.no ?_) (by rfl) ?_
  obtain ⟨L, hL⟩ : ∃ L, (w :: l).map V.str = L := ⟨_, rfl⟩
  rw [hL]
  have hws : s.size + (joinB (w :: l) ++ nl).size ≤ 140737488355328 := by
    rw [ByteArray.size_append]; have : nl.size = 1 := rfl; omega
  rcases ha with rfl | rfl <;> cases mv
  all_goals
    refine call_fun [] 2 Tryd.func25 (by rfl) (by rfl) ?_; (conv => whnf); (repeat (refine step_go [] ?_; conv => whnf))
    (refine ⟨by decide +kernel, ?_⟩; conv => whnf)
    (repeat (refine And.intro rfl ?_; conv => whnf))
    rw [← hL]
    refine c_join w l h1 h9 hj _ ?_; (conv => whnf); (repeat (refine step_go [] ?_; conv => whnf))
    (repeat (refine And.intro rfl ?_; conv => whnf))
    refine ⟨cat_ok hj, ?_⟩; (conv => whnf); (repeat (refine step_go [] ?_; conv => whnf))
    (repeat (refine And.intro rfl ?_; conv => whnf))
    first
      | refine c_ws (.inr rfl) _ (.inl rfl) _ s sp (joinB (w :: l) ++ nl) hws _ fun sp' => ?_
      | refine c_ws (.inr rfl) _ (.inr rfl) _ s sp (joinB (w :: l) ++ nl) hws _ fun sp' => ?_
    (conv => whnf); (repeat (refine step_go [] ?_; conv => whnf))
    (repeat (refine And.intro rfl ?_; conv => whnf))
    exact h sp'

theorem c_line0 (w : ByteArray) (l : List ByteArray) (h1 : 1 ≤ l.length) (h9 : l.length ≤ 9) (hj : (joinB (w :: l)).size ≤ 1000000) (K)
    (h : ∀ sp' : List V, K (.ret (.tup [])) [bO TW (.ptr 0 0) (lineB (w :: l)).size ((lineB (w :: l)).size + sp'.length), .buf true 1 (bytesV (lineB (w :: l)) ++ sp') (some 5)]) :
    VCall Tryd.prog 25 [.ptr 0 0, .sl ((w :: l).map V.str) .ex] [bN TW] K := by
  refine VCall.args (args' := [.ptr 0 0, .sl ((w :: l).map V.str) .no]) (by repeat' first | exact VWs.nil | refine VWs.cons (VW.eq rfl) ?_ | refine VWs.cons VW.no ?_) (by rfl) ?_
  obtain ⟨L, hL⟩ : ∃ L, (w :: l).map V.str = L := ⟨_, rfl⟩
  rw [hL]
  have hws : (joinB (w :: l) ++ nl).size ≤ 140737488355328 := by
    rw [ByteArray.size_append]; have : nl.size = 1 := rfl; omega
  refine call_fun [] 1 Tryd.func25 (by rfl) (by rfl) ?_; (conv => whnf); (repeat (refine step_go [] ?_; conv => whnf))
  (refine ⟨by decide +kernel, ?_⟩; conv => whnf)
  (repeat (refine And.intro rfl ?_; conv => whnf))
  rw [← hL]
  refine c_join w l h1 h9 hj _ ?_; (conv => whnf); (repeat (refine step_go [] ?_; conv => whnf))
  (repeat (refine And.intro rfl ?_; conv => whnf))
  refine ⟨cat_ok hj, ?_⟩; (conv => whnf); (repeat (refine step_go [] ?_; conv => whnf))
  (repeat (refine And.intro rfl ?_; conv => whnf))
  refine c_ws0 (.inr rfl) (joinB (w :: l) ++ nl) hws _ fun sp' => ?_
  (conv => whnf); (repeat (refine step_go [] ?_; conv => whnf))
  (repeat (refine And.intro rfl ?_; conv => whnf))
  exact h sp'
end BB3

namespace BB4
open Go Go.Proofs VL
set_option pp.maxSteps 1200
set_option maxRecDepth 100000
set_option linter.unusedVariables false
set_option linter.unusedSimpArgs false

def lng (y : Nat) : Bool := y % 4 == 0 && (y % 100 != 0 || y % 400 == 0)
def mlen (y m : Nat) : Nat := if m = 4 ∨ m = 6 ∨ m = 9 ∨ m = 11 then 30 else if m = 2 then (if lng y then 29 else 28) else 31
theorem tm (y k : Nat) : Int.tmod (y : Int) (k : Int) = ((y % k : Nat) : Int) := by
  rw [Int.tmod_eq_emod_of_nonneg (by omega)]; exact (Int.natCast_emod y k).symm

theorem be (n : Nat) : ((n : Int) == 0) = (n == 0) := by rw [Bool.eq_iff_iff]; simp
theorem bn (n : Nat) : ((n : Int) != 0) = (n != 0) := by simp only [bne, be]
theorem m4 (y : Nat) : Int.tmod (y : Int) 4 = ((y % 4 : Nat) : Int) := tm y 4
theorem m100 (y : Nat) : Int.tmod (y : Int) 100 = ((y % 100 : Nat) : Int) := tm y 100
theorem m400 (y : Nat) : Int.tmod (y : Int) 400 = ((y % 400 : Nat) : Int) := tm y 400

theorem c_clong (y : Nat) (K) (h : K (.ret (.bool (lng y))) []) : VCall Tryd.prog 107 [.int .i64 (y : Int)] [] K := by
  refine call_fun [] 0 Tryd.func107 (by rfl) (by rfl) ?_; (conv => whnf); (repeat (refine step_go [] ?_; conv => whnf))
  refine ⟨(by decide : (4 : Int) ≠ 0), ?_⟩; (conv => whnf); (repeat (refine step_go [] ?_; conv => whnf))
  refine two (fun g => ?_) (fun g => ?_) <;> rw [m4, be] at g
  · (conv => whnf); (repeat (refine step_go [] ?_; conv => whnf))
    refine ⟨(by decide : (100 : Int) ≠ 0), ?_⟩; (conv => whnf); (repeat (refine step_go [] ?_; conv => whnf))
    refine two (fun g2 => ?_) (fun g2 => ?_) <;> rw [m100, bn] at g2
    · (conv => whnf); (repeat (refine step_go [] ?_; conv => whnf))
      have e : lng y = true := by simp [lng, g, g2]
      exact e ▸ h
    · (conv => whnf); (repeat (refine step_go [] ?_; conv => whnf))
      refine ⟨(by decide : (400 : Int) ≠ 0), ?_⟩; (conv => whnf); (repeat (refine step_go [] ?_; conv => whnf))
      have e : lng y = (Int.tmod (y : Int) 400 == 0) := by rw [m400, be]; simp [lng, g, g2]
      rw [e] at h; exact h
  · (conv => whnf); (repeat (refine step_go [] ?_; conv => whnf))
    have e : lng y = false := by simp [lng, g]
    exact e ▸ h

theorem c_rlong (y : Nat) (K) (h : K (.ret (.bool (lng y))) []) : VCall Tryd.prog 113 [.int .i64 (y : Int)] [] K := by
  refine call_fun [] 0 Tryd.func113 (by rfl) (by rfl) ?_; (conv => whnf); (repeat (refine step_go [] ?_; conv => whnf))
  refine ⟨(by decide : (400 : Int) ≠ 0), ?_⟩; (conv => whnf); (repeat (refine step_go [] ?_; conv => whnf))
  refine two (fun g => ?_) (fun g => ?_) <;> rw [m400, be] at g
  · (conv => whnf); (repeat (refine step_go [] ?_; conv => whnf))
    have g' : y % 400 = 0 := by simpa using g
    have e : lng y = true := by simp [lng, g']; omega
    exact e ▸ h
  · (conv => whnf); (repeat (refine step_go [] ?_; conv => whnf))
    refine ⟨(by decide : (4 : Int) ≠ 0), ?_⟩; (conv => whnf); (repeat (refine step_go [] ?_; conv => whnf))
    refine two (fun g2 => ?_) (fun g2 => ?_) <;> rw [m4, be] at g2
    · (conv => whnf); (repeat (refine step_go [] ?_; conv => whnf))
      refine ⟨(by decide : (100 : Int) ≠ 0), ?_⟩; (conv => whnf); (repeat (refine step_go [] ?_; conv => whnf))
      have e : lng y = (Int.tmod (y : Int) 100 != 0) := by rw [m100, bn]; simp [lng, g, g2]
      rw [e] at h; exact h
    · (conv => whnf); (repeat (refine step_go [] ?_; conv => whnf))
      have e : lng y = false := by simp [lng, g2]
      exact e ▸ h

def opens (y : Nat) : Int := 365 * ((y : Int) - 1) + (((y - 1) / 4 : Nat) : Int) - (((y - 1) / 100 : Nat) : Int) + (((y - 1) / 400 : Nat) : Int) - 719162

theorem td (p k : Nat) : Int.tdiv (p : Int) (k : Int) = ((p / k : Nat) : Int) := by
  rw [Int.tdiv_eq_ediv_of_nonneg (by omega)]; exact (Int.natCast_ediv p k).symm
theorem d4 (p : Nat) (h : p ≤ 3000) : IntKind.i64.wrap (Int.tdiv (p : Int) 4) = ((p / 4 : Nat) : Int) := by rw [show Int.tdiv (p : Int) 4 = ((p / 4 : Nat) : Int) from td p 4, wrap64 (by omega) (by omega)]
theorem d100 (p : Nat) (h : p ≤ 3000) : IntKind.i64.wrap (Int.tdiv (p : Int) 100) = ((p / 100 : Nat) : Int) := by rw [show Int.tdiv (p : Int) 100 = ((p / 100 : Nat) : Int) from td p 100, wrap64 (by omega) (by omega)]
theorem d400 (p : Nat) (h : p ≤ 3000) : IntKind.i64.wrap (Int.tdiv (p : Int) 400) = ((p / 400 : Nat) : Int) := by rw [show Int.tdiv (p : Int) 400 = ((p / 400 : Nat) : Int) from td p 400, wrap64 (by omega) (by omega)]

theorem c_opens (y : Nat) (h0 : 1 ≤ y) (h1 : y ≤ 3000) (K) (h : K (.ret (.int .i64 (opens y))) []) : VCall Tryd.prog 88 [.int .i64 (y : Int)] [] K := by
  refine call_fun [] 0 Tryd.func88 (by rfl) (by rfl) ?_; (conv => whnf); (repeat (refine step_go [] ?_; conv => whnf))
  have e1 : IntKind.i64.wrap ((y : Int) - 1) = ((y - 1 : Nat) : Int) := by rw [wrap64 (by omega) (by omega)]; omega
  rw [e1]
  obtain ⟨p, hp⟩ : ∃ p, y - 1 = p := ⟨_, rfl⟩
  rw [hp]
  have hp1 : p ≤ 3000 := by omega
  refine ⟨(by decide : (4 : Int) ≠ 0), ?_⟩; (conv => whnf); (repeat (refine step_go [] ?_; conv => whnf))
  refine ⟨(by decide : (100 : Int) ≠ 0), ?_⟩; (conv => whnf); (repeat (refine step_go [] ?_; conv => whnf))
  refine ⟨(by decide : (400 : Int) ≠ 0), ?_⟩; (conv => whnf); (repeat (refine step_go [] ?_; conv => whnf))
  have b4 : p / 4 ≤ 3000 := by omega
  have b100 : p / 100 ≤ 3000 := by omega
  have b400 : p / 400 ≤ 3000 := by omega
  have hy : (y : Int) - 1 = (p : Int) := by omega
  rw [opens, hp, hy] at h
  rw [d4 p hp1, d100 p hp1, d400 p hp1]
  generalize p / 4 = q4 at *
  generalize p / 100 = q100 at *
  generalize p / 400 = q400 at *
  rw [wrap64 (x := 365 * (p : Int)) (by omega) (by omega), wrap64 (x := 365 * (p : Int) + (q4 : Int)) (by omega) (by omega), wrap64 (x := 365 * (p : Int) + (q4 : Int) - (q100 : Int)) (by omega) (by omega),
    wrap64 (x := 365 * (p : Int) + (q4 : Int) - (q100 : Int) + (q400 : Int)) (by omega) (by omega), wrap64 (by omega) (by omega)]
  exact h

theorem c_month (y m : Nat) (h1 : 1 ≤ m) (h2 : m ≤ 12) (K) (h : K (.ret (.int .i64 (mlen y m : Nat))) []) : VCall Tryd.prog 89 [.int .i64 (y : Int), .int .i64 (m : Int)] [] K := by
  obtain rfl | hm : m = 2 ∨ m ≠ 2 := by omega
  · refine call_fun [] 0 Tryd.func89 (by rfl) (by rfl) ?_; (conv => whnf); (repeat (refine step_go [] ?_; conv => whnf))
    refine c_clong y _ ?_; (conv => whnf); (repeat (refine step_go [] ?_; conv => whnf))
    refine two (fun g => ?_) (fun g => ?_)
    · (conv => whnf); (repeat (refine step_go [] ?_; conv => whnf))
      rw [show mlen y 2 = 29 by simp [mlen, g]] at h
      exact h
    · (conv => whnf); (repeat (refine step_go [] ?_; conv => whnf))
      rw [show mlen y 2 = 28 by simp [mlen, g]] at h
      exact h
  · have hm : m = 1 ∨ m = 3 ∨ m = 4 ∨ m = 5 ∨ m = 6 ∨ m = 7 ∨ m = 8 ∨ m = 9 ∨ m = 10 ∨ m = 11 ∨ m = 12 := by omega
    rcases hm with rfl | rfl | rfl | rfl | rfl | rfl | rfl | rfl | rfl | rfl | rfl
    all_goals
      refine call_fun [] 0 Tryd.func89 (by rfl) (by rfl) ?_; (conv => whnf); (repeat (refine step_go [] ?_; conv => whnf))
      exact h
theorem c_rmonth (y m : Nat) (h1 : 1 ≤ m) (h2 : m ≤ 12) (K) (h : K (.ret (.int .i64 (mlen y m : Nat))) []) : VCall Tryd.prog 96 [.int .i64 (y : Int), .int .i64 (m : Int)] [] K := by
  obtain rfl | hm : m = 2 ∨ m ≠ 2 := by omega
  · refine call_fun [] 0 Tryd.func96 (by rfl) (by rfl) ?_; (conv => whnf); (repeat (refine step_go [] ?_; conv => whnf))
    (repeat (refine step_go [] ?_; conv => whnf))
    refine ⟨by decide, by decide, ?_⟩; (conv => whnf); (repeat (refine step_go [] ?_; conv => whnf))
    refine c_rlong y _ ?_; (conv => whnf); (repeat (refine step_go [] ?_; conv => whnf))
    refine two (fun g => ?_) (fun g => ?_)
    · (conv => whnf); (repeat (refine step_go [] ?_; conv => whnf))
      rw [show mlen y 2 = 29 by simp [mlen, g]] at h
      exact h
    · (conv => whnf); (repeat (refine step_go [] ?_; conv => whnf))
      rw [show mlen y 2 = 28 by simp [mlen, g]] at h
      exact h
  · have hm : m = 1 ∨ m = 3 ∨ m = 4 ∨ m = 5 ∨ m = 6 ∨ m = 7 ∨ m = 8 ∨ m = 9 ∨ m = 10 ∨ m = 11 ∨ m = 12 := by omega
    rcases hm with rfl | rfl | rfl | rfl | rfl | rfl | rfl | rfl | rfl | rfl | rfl
    all_goals
      refine call_fun [] 0 Tryd.func96 (by rfl) (by rfl) ?_; (conv => whnf); (repeat (refine step_go [] ?_; conv => whnf))
      (repeat (refine step_go [] ?_; conv => whnf))
      refine ⟨by decide, by decide, ?_⟩; (conv => whnf); (repeat (refine step_go [] ?_; conv => whnf))
      exact h
def lc (y : Nat) : Int := (((y - 1) / 4 : Nat) : Int) - (((y - 1) / 100 : Nat) : Int) + (((y - 1) / 400 : Nat) : Int)
theorem lc_step {y : Nat} (h0 : 1 ≤ y) (h : y % 4 = 0) : lc (y + 4) = lc y + (if lng y then 1 else 0) := by
  unfold lc lng
  by_cases h1 : y % 100 = 0 <;> by_cases h2 : y % 400 = 0 <;> simp [h, h1, h2] <;> omega
theorem lc_end {y z : Nat} (h0 : 1 ≤ y) (h : z % 4 = 0) (h1 : y ≤ z) (h2 : z < y + 4) : lc z = lc y := by
  unfold lc; omega

theorem c_before (y : Nat) (h0 : 1900 ≤ y) (h1 : y ≤ 2300) (K) (h : K (.ret (.int .i64 (opens y + 25567))) []) : VCall Tryd.prog 95 [.int .i64 (y : Int)] [] K := by
  refine call_fun [] 0 Tryd.func95 (by rfl) (by rfl) ?_; (conv => whnf); (repeat (refine step_go [] ?_; conv => whnf))
  let S : Nat → St := fun z => ⟨(.int .i64 (y : Int) :: .undef :: .undef :: .int .i64 (365 * ((y : Int) - 1900) + (lc z - 460)) :: .int .i64 (z : Int) :: .undef :: .undef :: .undef :: .undef :: .undef :: .undef :: .undef :: .undef :: .undef :: .undef :: .undef :: .undef :: .undef :: []), [], 0, []⟩
  refine VLoop.enter (s' := S 1900) (weak_of ?_ .nil rfl rfl rfl) (VLoop.indW S (fun z => y + 4 - z) (fun z => 1900 ≤ z ∧ z % 4 = 0 ∧ z < y + 4) ?_ 1900 ⟨by omega, by omega, by omega⟩)
  · repeat' first
      | exact VWs.nil
      | refine VWs.cons VW.undef ?_
      | refine VWs.cons (VW.eq rfl) ?_
      | refine VWs.cons (VW.eq (congrArg (V.int .i64) (by rw [wrap64 (x := (y : Int) - 1900) (by omega) (by omega), wrap64 (by omega) (by omega)]; show _ = _ + (lc 1900 - 460); rw [show lc 1900 = 460 by decide]; omega))) ?_
  rintro z ⟨hz, hz4, hzy⟩ ih
  have hlc : lc z ≤ 10000 ∧ 0 ≤ lc z := by unfold lc; omega
  refine loop_round [] ?_; (conv => whnf); (repeat (refine step_go [] ?_; conv => whnf))
  refine two (fun g => ?_) (fun g => ?_)
  · have g' : z < y := by have := of_decide_eq_true g; omega
    (conv => whnf); (repeat (refine step_go [] ?_; conv => whnf))
    refine c_rlong z _ ?_; (conv => whnf); (repeat (refine step_go [] ?_; conv => whnf))
    have hst := lc_step (y := z) (by omega) hz4
    refine two (fun g2 => ?_) (fun g2 => ?_)
    · (conv => whnf); (repeat (refine step_go [] ?_; conv => whnf))
      rw [g2, if_pos rfl] at hst
      refine ⟨S (z + 4), weak_of ?_ .nil rfl rfl rfl, ih (z + 4) ⟨by omega, by omega, by omega⟩ (by omega)⟩
      repeat' first
        | exact VWs.nil
        | refine VWs.cons VW.undef ?_
        | refine VWs.cons (VW.eq rfl) ?_
        | refine VWs.cons (VW.eq (congrArg (V.int .i64) (by rw [wrap64 (by omega) (by omega)]; first | omega | (rw [hst]; omega)))) ?_
    · (conv => whnf); (repeat (refine step_go [] ?_; conv => whnf))
      rw [g2] at hst
      simp at hst
      refine ⟨S (z + 4), weak_of ?_ .nil rfl rfl rfl, ih (z + 4) ⟨by omega, by omega, by omega⟩ (by omega)⟩
      repeat' first
        | exact VWs.nil
        | refine VWs.cons VW.undef ?_
        | refine VWs.cons (VW.eq rfl) ?_
        | refine VWs.cons (VW.eq (congrArg (V.int .i64) (by first | (rw [wrap64 (by omega) (by omega)]; omega) | (rw [hst]))) ) ?_
  · have g' : y ≤ z := by have := of_decide_eq_false g; omega
    refine ⟨_, Weak.refl, ?_⟩; (conv => whnf); (repeat (refine step_go [] ?_; conv => whnf))
    have e : opens y + 25567 = 365 * ((y : Int) - 1900) + (lc z - 460) := by
      rw [lc_end (y := y) (by omega) hz4 g' hzy]
      unfold opens lc; omega
    rw [e] at h
    exact h
end BB4

namespace BB5
open Go Go.Proofs VL BB4
set_option pp.maxSteps 1200
set_option maxRecDepth 100000
set_option linter.unusedVariables false
set_option linter.unusedSimpArgs false

def cum (y : Nat) : Nat → Nat
  | 0 => 0
  | 1 => 0
  | m + 2 => cum y (m + 1) + mlen y (m + 1)
theorem cum_step {y m : Nat} (h : 1 ≤ m) : cum y (m + 1) = cum y m + mlen y m := by
  obtain ⟨k, rfl⟩ : ∃ k, m = k + 1 := ⟨m - 1, by omega⟩
  rfl
theorem cum_mono {y a b : Nat} (h1 : 1 ≤ a) (h : a ≤ b) : cum y a ≤ cum y b := by
  obtain ⟨k, rfl⟩ : ∃ k, b = a + k := ⟨b - a, by omega⟩
  clear h
  induction k with
  | zero => exact Nat.le_refl _
  | succ k ih => rw [← Nat.add_assoc, cum_step (by omega)]; omega
theorem mlen12 (y : Nat) : mlen y 12 = 31 := by simp [mlen]
theorem mlen_le (y m : Nat) : mlen y m ≤ 31 := by
  unfold mlen; split
  · omega
  · split
    · split <;> omega
    · omega
theorem cum12 (y : Nat) : cum y 12 = 334 + (if lng y then 1 else 0) := by
  simp only [cum, mlen]
  cases lng y <;> simp
theorem year_len {y : Nat} (h : 1 ≤ y) : opens (y + 1) = opens y + cum y 12 + 31 := by
  rw [cum12]
  unfold opens lng
  by_cases h0 : y % 4 = 0 <;> by_cases h1 : y % 100 = 0 <;> by_cases h2 : y % 400 = 0 <;> simp [h0, h1, h2] <;> omega
theorem opens_mono {y z : Nat} (h0 : 1 ≤ y) (h : y ≤ z) : opens y ≤ opens z := by
  unfold opens; omega

structure IsDate (n : Int) (y m d : Nat) : Prop where
  y0 : 1900 ≤ y
  y1 : y ≤ 2200
  m0 : 1 ≤ m
  m1 : m ≤ 12
  lo : opens y + cum y m ≤ n
  hi : n < opens y + cum y m + mlen y m
  d : (d : Int) = n - opens y - cum y m + 1

theorem IsDate.year {n : Int} {y m d : Nat} (h : IsDate n y m d) : opens y ≤ n ∧ n < opens (y + 1) := by
  have := h.lo; have := h.hi; have := h.y0
  have := year_len (y := y) (by omega)
  have := cum_mono (y := y) (a := m + 1) (b := 13) (by omega) (by have := h.m1; omega)
  rw [cum_step h.m0] at this
  have e : cum y 13 = cum y 12 + mlen y 12 := rfl
  rw [mlen12] at e
  omega

theorem IsDate.uniq {n : Int} {y m d y' m' d' : Nat} (h : IsDate n y m d) (h' : IsDate n y' m' d') : y = y' ∧ m = m' ∧ d = d' := by
  have e1 : y = y' := by
    obtain ⟨a1, a2⟩ := h.year
    obtain ⟨b1, b2⟩ := h'.year
    have := h.y0; have := h'.y0
    rcases Nat.lt_trichotomy y y' with g | g | g
    · have := opens_mono (y := y + 1) (z := y') (by omega) g; omega
    · exact g
    · have := opens_mono (y := y' + 1) (z := y) (by omega) g; omega
  subst e1
  have e2 : m = m' := by
    have a1 := h.lo; have a2 := h.hi; have b1 := h'.lo; have b2 := h'.hi
    rcases Nat.lt_trichotomy m m' with g | g | g
    · have := cum_mono (y := y) (a := m + 1) (b := m') (by omega) g
      rw [cum_step h.m0] at this; omega
    · exact g
    · have := cum_mono (y := y) (a := m' + 1) (b := m) (by omega) g
      rw [cum_step h'.m0] at this; omega
  subst e2
  have := h.d; have := h'.d
  exact ⟨rfl, rfl, by omega⟩

theorem IsDate.dle {n : Int} {y m d : Nat} (h : IsDate n y m d) : 1 ≤ d ∧ d ≤ 31 := by
  have := h.lo; have := h.hi; have := h.d; have := mlen_le y m
  omega

theorem c_cdate (n : Int) (h0 : -25567 ≤ n) (h1 : n ≤ 84370) (K) (h : ∀ y m d, IsDate n y m d → K (.ret (.tup [.agg [.int .i64 (y : Nat), .int .i64 (m : Nat), .int .i64 (d : Nat)], .int .i64 0])) []) :
    VCall Tryd.prog 70 [.int .i64 n] [] K := by
  refine VCall.weak (call_fun [] 0 Tryd.func70 (by rfl) (by rfl) ?_)
  (conv => whnf); (repeat (refine step_go [] ?_; conv => whnf))
  refine two (fun g => ?_) (fun g => ?_)
  · exfalso; have := of_decide_eq_true g; omega
  (conv => whnf); (repeat (refine step_go [] ?_; conv => whnf))
  refine two (fun g2 => ?_) (fun g2 => ?_)
  · exfalso; have := of_decide_eq_true g2; omega
  (conv => whnf); (repeat (refine step_go [] ?_; conv => whnf))
  obtain ⟨a, ha⟩ : ∃ a : Nat, n + 25567 = (a : Int) := ⟨(n + 25567).toNat, by omega⟩
  have w1 : IntKind.i64.wrap (n - -25567) = (a : Int) := by rw [wrap64 (by omega) (by omega)]; omega
  rw [w1]
  refine ⟨(by decide : (366 : Int) ≠ 0), ?_⟩; (conv => whnf); (repeat (refine step_go [] ?_; conv => whnf))
  have w2 : IntKind.i64.wrap (Int.tdiv (a : Int) 366) = ((a / 366 : Nat) : Int) := by rw [show Int.tdiv (a : Int) 366 = ((a / 366 : Nat) : Int) from td a 366, wrap64 (by omega) (by omega)]
  rw [w2]
  obtain ⟨k, hk⟩ : ∃ k, a / 366 = k := ⟨_, rfl⟩
  rw [hk]
  have hk1 : 366 * k ≤ a ∧ k ≤ 300 := by omega
  have hop : opens (1900 + k) ≤ n := by unfold opens; omega
  let S : Nat → St := fun z => ⟨(.int .i64 n :: .undef :: .ptr 0 0 :: .int .i64 0 :: .int .i64 (z : Nat) :: .undef :: .undef :: .undef :: .undef :: .undef :: .undef :: .undef :: .undef :: .undef :: .undef :: .undef :: .undef :: .undef :: .undef :: .undef :: .undef :: .undef :: .undef :: .undef :: .undef :: .undef :: .undef :: .undef :: .undef :: .undef :: .undef :: .undef :: .undef :: .undef :: .undef :: .undef :: .undef :: .undef :: .undef :: .undef :: .undef :: .undef :: .undef :: .undef :: .undef :: .undef :: .undef :: .undef :: .undef :: .undef :: []), [.cells true 106 [.int .i64 0, .int .i64 0, .int .i64 0]], 0, []⟩
  refine VLoop.enter (s' := S (1900 + k)) (weak_of ?_ (.cons (.eq rfl) .nil) rfl rfl rfl) (VLoop.indW S (fun z => 2201 - z) (fun z => 1900 ≤ z ∧ z ≤ 2200 ∧ opens z ≤ n) ?_ (1900 + k) ⟨by omega, by omega, hop⟩)
  · repeat' first
      | exact VWs.nil
      | refine VWs.cons VW.undef ?_
      | refine VWs.cons (VW.eq rfl) ?_
      | refine VWs.cons (VW.eq (congrArg (V.int .i64) (by rw [wrap64 (by omega) (by omega)]; omega))) ?_
  rintro y ⟨hy0, hy1, hyo⟩ ih
  have hob : -30000 ≤ opens y ∧ opens y ≤ 90000 := by unfold opens; omega
  have fin : ∀ (R : Prop), (n < opens (y + 1) → R) → ((y < 2200 ∧ opens (y + 1) ≤ n → False) → R) := fun R hR hx => hR (by
    rcases Nat.lt_or_ge y 2200 with h2 | h2
    · rcases Int.lt_or_le n (opens (y + 1)) with h3 | h3
      · exact h3
      · exact (hx ⟨h2, h3⟩).elim
    · have : y = 2200 := by omega
      subst this
      show n < opens 2201
      rw [show opens 2201 = 84371 by decide]; omega)
  refine loop_round [] ?_; (conv => whnf); (repeat (refine step_go [] ?_; conv => whnf))
  have wy : IntKind.i64.wrap ((y : Int) + 1) = ((y + 1 : Nat) : Int) := by rw [wrap64 (by omega) (by omega)]; omega
  refine two (fun g3 => ?_) (fun g3 => ?_)
  · have g3 := of_decide_eq_true g3
    (conv => whnf); (repeat (refine step_go [] ?_; conv => whnf))
    rw [wy]
    refine c_opens (y + 1) (by omega) (by omega) _ ?_; (conv => whnf); (repeat (refine step_go [] ?_; conv => whnf))
    refine two (fun g4 => ?_) (fun g4 => ?_)
    · have g4 := of_decide_eq_true g4
      (conv => whnf); (repeat (refine step_go [] ?_; conv => whnf))
      refine ⟨S (y + 1), weak_of ?_ (.cons (.eq rfl) .nil) rfl rfl rfl, ih (y + 1) ⟨by omega, by omega, g4⟩ (by omega)⟩
      repeat' first
        | exact VWs.nil
        | refine VWs.cons VW.undef ?_
        | refine VWs.cons (VW.eq rfl) ?_
        | refine VWs.cons (VW.eq (congrArg (V.int .i64) wy)) ?_
    · have g4 := of_decide_eq_false g4
      have hx : n < opens (y + 1) := by omega
      refine ⟨_, Weak.refl, ?_⟩; (conv => whnf); (repeat (refine step_go [] ?_; conv => whnf))
      refine c_opens y (by omega) (by omega) _ ?_; (conv => whnf); (repeat (refine step_go [] ?_; conv => whnf))
      let S2 : Nat → St := fun m => ⟨(.undef :: .undef :: .ptr 0 0 :: .int .i64 0 :: .int .i64 (y : Nat) :: .int .i64 (n - opens y - (cum y m : Nat)) :: .int .i64 (m : Nat) :: .undef :: .undef :: .undef :: .undef :: .undef :: .undef :: .undef :: .undef :: .undef :: .undef :: .undef :: .undef :: .undef :: .undef :: .undef :: .undef :: .undef :: .undef :: .undef :: .undef :: .undef :: .undef :: .undef :: .undef :: .undef :: .undef :: .undef :: .undef :: .undef :: .undef :: .undef :: .undef :: .undef :: .undef :: .undef :: .undef :: .undef :: .undef :: .undef :: .undef :: .undef :: .undef :: .undef :: []), [.cells true 106 [.int .i64 0, .int .i64 0, .int .i64 0]], 0, []⟩
      refine VLoop.enter (s' := S2 1) (weak_of ?_ (.cons (.eq rfl) .nil) rfl rfl rfl) (VLoop.indW S2 (fun m => 13 - m) (fun m => 1 ≤ m ∧ m ≤ 12 ∧ opens y + (cum y m : Nat) ≤ n) ?_ 1 ⟨by omega, by omega, by show opens y + ((0 : Nat) : Int) ≤ n; omega⟩)
      · repeat' first
          | exact VWs.nil
          | refine VWs.cons VW.undef ?_
          | refine VWs.cons (VW.eq rfl) ?_
          | refine VWs.cons (VW.eq (congrArg (V.int .i64) (by rw [wrap64 (by omega) (by omega)]; show _ = n - opens y - ((0 : Nat) : Int); omega))) ?_
      rintro m ⟨hm0, hm1, hmo⟩ ih2
      have hc := cum_step (y := y) hm0
      have hml := mlen_le y m
      have hcc : cum y m ≤ 366 := by
        have := cum_mono (y := y) (a := m) (b := 12) hm0 hm1
        have := cum12 y
        cases hl : lng y <;> simp [hl] at this <;> omega
      refine loop_round [] ?_; (conv => whnf); (repeat (refine step_go [] ?_; conv => whnf))
      refine c_month y m hm0 hm1 _ ?_; (conv => whnf); (repeat (refine step_go [] ?_; conv => whnf))
      refine two (fun g5 => ?_) (fun g5 => ?_)
      · have g5 := of_decide_eq_true g5
        (conv => whnf); (repeat (refine step_go [] ?_; conv => whnf))
        refine c_month y m hm0 hm1 _ ?_; (conv => whnf); (repeat (refine step_go [] ?_; conv => whnf))
        have hm12 : m + 1 ≤ 12 := by
          rcases Nat.lt_or_ge m 12 with q | q
          · omega
          · have : m = 12 := by omega
            subst this
            have := year_len (y := y) (by omega)
            have := mlen12 y
            omega
        refine ⟨S2 (m + 1), weak_of ?_ (.cons (.eq rfl) .nil) rfl rfl rfl, ih2 (m + 1) ⟨by omega, by omega, by omega⟩ (by omega)⟩
        repeat' first
          | exact VWs.nil
          | refine VWs.cons VW.undef ?_
          | refine VWs.cons (VW.eq rfl) ?_
          | refine VWs.cons (VW.eq (congrArg (V.int .i64) (by rw [wrap64 (by omega) (by omega)]; omega))) ?_
      · have g5 := of_decide_eq_false g5
        refine ⟨_, Weak.refl, ?_⟩; (conv => whnf); (repeat (refine step_go [] ?_; conv => whnf))
        obtain ⟨d, hd⟩ : ∃ d : Nat, (d : Int) = n - opens y - (cum y m : Nat) + 1 := ⟨(n - opens y - (cum y m : Nat) + 1).toNat, by omega⟩
        have wd : IntKind.i64.wrap (n - opens y - (cum y m : Nat) + 1) = (d : Int) := by rw [wrap64 (by omega) (by omega)]; omega
        rw [wd]; (conv => whnf); (repeat (refine step_go [] ?_; conv => whnf))
        refine ⟨_, _, weak_of (.cons (.eq rfl) .nil) .nil rfl rfl rfl, h y m d ⟨by omega, by omega, by omega, by omega, by omega, by omega, by omega⟩⟩
  · have g3 := of_decide_eq_false g3
    have hx : n < opens (y + 1) := fin _ id fun q => by omega
    (conv => whnf); (repeat (refine step_go [] ?_; conv => whnf))
    refine ⟨_, Weak.refl, ?_⟩; (conv => whnf); (repeat (refine step_go [] ?_; conv => whnf))
    refine c_opens y (by omega) (by omega) _ ?_; (conv => whnf); (repeat (refine step_go [] ?_; conv => whnf))
    let S2 : Nat → St := fun m => ⟨(.undef :: .undef :: .ptr 0 0 :: .int .i64 0 :: .int .i64 (y : Nat) :: .int .i64 (n - opens y - (cum y m : Nat)) :: .int .i64 (m : Nat) :: .undef :: .undef :: .undef :: .undef :: .undef :: .undef :: .undef :: .undef :: .undef :: .undef :: .undef :: .undef :: .undef :: .undef :: .undef :: .undef :: .undef :: .undef :: .undef :: .undef :: .undef :: .undef :: .undef :: .undef :: .undef :: .undef :: .undef :: .undef :: .undef :: .undef :: .undef :: .undef :: .undef :: .undef :: .undef :: .undef :: .undef :: .undef :: .undef :: .undef :: .undef :: .undef :: .undef :: []), [.cells true 106 [.int .i64 0, .int .i64 0, .int .i64 0]], 0, []⟩
    refine VLoop.enter (s' := S2 1) (weak_of ?_ (.cons (.eq rfl) .nil) rfl rfl rfl) (VLoop.indW S2 (fun m => 13 - m) (fun m => 1 ≤ m ∧ m ≤ 12 ∧ opens y + (cum y m : Nat) ≤ n) ?_ 1 ⟨by omega, by omega, by show opens y + ((0 : Nat) : Int) ≤ n; omega⟩)
    · repeat' first
        | exact VWs.nil
        | refine VWs.cons VW.undef ?_
        | refine VWs.cons (VW.eq rfl) ?_
        | refine VWs.cons (VW.eq (congrArg (V.int .i64) (by rw [wrap64 (by omega) (by omega)]; show _ = n - opens y - ((0 : Nat) : Int); omega))) ?_
    rintro m ⟨hm0, hm1, hmo⟩ ih2
    have hc := cum_step (y := y) hm0
    have hml := mlen_le y m
    have hcc : cum y m ≤ 366 := by
      have := cum_mono (y := y) (a := m) (b := 12) hm0 hm1
      have := cum12 y
      cases hl : lng y <;> simp [hl] at this <;> omega
    refine loop_round [] ?_; (conv => whnf); (repeat (refine step_go [] ?_; conv => whnf))
    refine c_month y m hm0 hm1 _ ?_; (conv => whnf); (repeat (refine step_go [] ?_; conv => whnf))
    refine two (fun g5 => ?_) (fun g5 => ?_)
    · have g5 := of_decide_eq_true g5
      (conv => whnf); (repeat (refine step_go [] ?_; conv => whnf))
      refine c_month y m hm0 hm1 _ ?_; (conv => whnf); (repeat (refine step_go [] ?_; conv => whnf))
      have hm12 : m + 1 ≤ 12 := by
        rcases Nat.lt_or_ge m 12 with q | q
        · omega
        · have : m = 12 := by omega
          subst this
          have := year_len (y := y) (by omega)
          have := mlen12 y
          omega
      refine ⟨S2 (m + 1), weak_of ?_ (.cons (.eq rfl) .nil) rfl rfl rfl, ih2 (m + 1) ⟨by omega, by omega, by omega⟩ (by omega)⟩
      repeat' first
        | exact VWs.nil
        | refine VWs.cons VW.undef ?_
        | refine VWs.cons (VW.eq rfl) ?_
        | refine VWs.cons (VW.eq (congrArg (V.int .i64) (by rw [wrap64 (by omega) (by omega)]; omega))) ?_
    · have g5 := of_decide_eq_false g5
      refine ⟨_, Weak.refl, ?_⟩; (conv => whnf); (repeat (refine step_go [] ?_; conv => whnf))
      obtain ⟨d, hd⟩ : ∃ d : Nat, (d : Int) = n - opens y - (cum y m : Nat) + 1 := ⟨(n - opens y - (cum y m : Nat) + 1).toNat, by omega⟩
      have wd : IntKind.i64.wrap (n - opens y - (cum y m : Nat) + 1) = (d : Int) := by rw [wrap64 (by omega) (by omega)]; omega
      rw [wd]; (conv => whnf); (repeat (refine step_go [] ?_; conv => whnf))
      refine ⟨_, _, weak_of (.cons (.eq rfl) .nil) .nil rfl rfl rfl, h y m d ⟨by omega, by omega, by omega, by omega, by omega, by omega, by omega⟩⟩
end BB5

namespace BB6
open Go Go.Proofs VL BB4 BB5
set_option pp.maxSteps 1200
set_option maxRecDepth 100000
set_option linter.unusedVariables false
set_option linter.unusedSimpArgs false

def dIn (n : Int) : Bool := decide (-25567 ≤ n) && decide (n ≤ 84370)
theorem c_is (n : Int) (K) (h : K (.ret (.bool (dIn n))) []) : VCall Tryd.prog 94 [.int .i64 n] [] K := by
  refine call_fun [] 0 Tryd.func94 (by rfl) (by rfl) ?_; (conv => whnf); (repeat (refine step_go [] ?_; conv => whnf))
  refine two (fun g => ?_) (fun g => ?_)
  · (conv => whnf); (repeat (refine step_go [] ?_; conv => whnf))
    have g := of_decide_eq_true g
    have e : dIn n = decide (n ≤ 84370) := by simp [dIn]; omega
    rw [e] at h; exact h
  · (conv => whnf); (repeat (refine step_go [] ?_; conv => whnf))
    have g := of_decide_eq_false g
    have e : dIn n = false := by simp [dIn]; omega
    rw [e] at h; exact h

theorem c_cdate_bad (n : Int) (h0 : dIn n = false) (K) (h : K (.ret (.tup [.agg [.int .i64 0, .int .i64 0, .int .i64 0], .int .i64 5])) []) :
    VCall Tryd.prog 70 [.int .i64 n] [] K := by
  simp [dIn] at h0
  refine VCall.weak (call_fun [] 0 Tryd.func70 (by rfl) (by rfl) ?_)
  (conv => whnf); (repeat (refine step_go [] ?_; conv => whnf))
  refine two (fun g => ?_) (fun g => ?_)
  · (conv => whnf); (repeat (refine step_go [] ?_; conv => whnf))
    exact ⟨_, _, weak_of (.cons (.eq rfl) .nil) .nil rfl rfl rfl, h⟩
  · have g := of_decide_eq_false g
    (conv => whnf); (repeat (refine step_go [] ?_; conv => whnf))
    refine two (fun g2 => ?_) (fun g2 => ?_)
    · (conv => whnf); (repeat (refine step_go [] ?_; conv => whnf))
      exact ⟨_, _, weak_of (.cons (.eq rfl) .nil) .nil rfl rfl rfl, h⟩
    · exfalso; have g2 := of_decide_eq_false g2; omega

theorem c_rdate_bad (n : Int) (h0 : dIn n = false) (K) (h : K (.ret (.tup [.agg [.int .i64 0, .int .i64 0, .int .i64 0], .int .i64 5])) []) :
    VCall Tryd.prog 73 [.int .i64 n] [] K := by
  refine VCall.weak (call_fun [] 0 Tryd.func73 (by rfl) (by rfl) ?_)
  (conv => whnf); (repeat (refine step_go [] ?_; conv => whnf))
  refine c_is n _ ?_; (conv => whnf); (repeat (refine step_go [] ?_; conv => whnf))
  rw [h0]; (conv => whnf); (repeat (refine step_go [] ?_; conv => whnf))
  exact ⟨_, _, weak_of (.cons (.eq rfl) .nil) .nil rfl rfl rfl, h⟩

theorem c_rdate (n : Int) (h0 : -25567 ≤ n) (h1 : n ≤ 84370) (K) (h : ∀ y m d, IsDate n y m d → K (.ret (.tup [.agg [.int .i64 (y : Nat), .int .i64 (m : Nat), .int .i64 (d : Nat)], .int .i64 0])) []) :
    VCall Tryd.prog 73 [.int .i64 n] [] K := by
  refine VCall.weak (call_fun [] 0 Tryd.func73 (by rfl) (by rfl) ?_)
  (conv => whnf); (repeat (refine step_go [] ?_; conv => whnf))
  have hd : dIn n = true := by simp [dIn]; omega
  refine c_is n _ ?_; (conv => whnf); (repeat (refine step_go [] ?_; conv => whnf))
  rw [hd]; (conv => whnf); (repeat (refine step_go [] ?_; conv => whnf))
  obtain ⟨a, ha⟩ : ∃ a : Nat, n + 25567 = (a : Int) := ⟨(n + 25567).toNat, by omega⟩
  have w1 : IntKind.i64.wrap (n - -25567) = (a : Int) := by rw [wrap64 (by omega) (by omega)]; omega
  rw [w1]
  (conv => whnf); (repeat (refine step_go [] ?_; conv => whnf))
  refine ⟨(by decide : (366 : Int) ≠ 0), ?_⟩; (conv => whnf); (repeat (refine step_go [] ?_; conv => whnf))
  have w2 : IntKind.i64.wrap (Int.tdiv (a : Int) 366) = ((a / 366 : Nat) : Int) := by rw [show Int.tdiv (a : Int) 366 = ((a / 366 : Nat) : Int) from td a 366, wrap64 (by omega) (by omega)]
  rw [w2]
  obtain ⟨k, hk⟩ : ∃ k, a / 366 = k := ⟨_, rfl⟩
  rw [hk]
  have hk1 : 366 * k ≤ a ∧ k ≤ 300 := by omega
  have hop : opens (1900 + k) ≤ n := by unfold opens; omega
  have wk : IntKind.i64.wrap (1900 + (k : Int)) = ((1900 + k : Nat) : Int) := by rw [wrap64 (by omega) (by omega)]; omega
  rw [wk]
  (conv => whnf); (repeat (refine step_go [] ?_; conv => whnf))
  let O : Nat → Nat → List VObj := fun y m => [.cells true 106 [.int .i64 0, .int .i64 0, .int .i64 0], .cells true 106 [.int .i64 (y : Nat), .int .i64 (m : Nat), .int .i64 0]]
  let S : Nat → St := fun z => ⟨(.undef :: .undef :: .ptr 0 0 :: .int .i64 0 :: .int .i64 (a : Nat) :: .ptr 1 0 :: .undef :: .undef :: .undef :: .undef :: .undef :: .undef :: .undef :: .undef :: .undef :: .undef :: .undef :: .undef :: .undef :: .undef :: .undef :: .undef :: .undef :: .undef :: .undef :: .undef :: .undef :: .undef :: .undef :: .undef :: .undef :: .undef :: .undef :: .undef :: .undef :: .undef :: .undef :: .undef :: .undef :: .undef :: .undef :: .undef :: .undef :: .undef :: .undef :: .undef :: .undef :: .undef :: .undef :: .undef :: .undef :: .undef :: .undef :: []), O z 1, 0, []⟩
  refine VLoop.enter (s' := S (1900 + k)) (weak_of ?_ (.cons (.eq rfl) (.cons (.eq rfl) .nil)) rfl rfl rfl) (VLoop.indW S (fun z => 2201 - z) (fun z => 1900 ≤ z ∧ z ≤ 2200 ∧ opens z ≤ n) ?_ (1900 + k) ⟨by omega, by omega, hop⟩)
  · (repeat' first | exact VWs.nil | refine VWs.cons VW.undef ?_ | refine VWs.cons (VW.eq rfl) ?_)
  rintro y ⟨hy0, hy1, hyo⟩ ih
  have hob : -30000 ≤ opens y ∧ opens y ≤ 90000 := by unfold opens; omega
  have wy : IntKind.i64.wrap ((y : Int) + 1) = ((y + 1 : Nat) : Int) := by rw [wrap64 (by omega) (by omega)]; omega
  refine loop_round [] ?_; (conv => whnf); (repeat (refine step_go [] ?_; conv => whnf))
  rw [wy]
  refine c_before (y + 1) (by omega) (by omega) _ ?_; (conv => whnf); (repeat (refine step_go [] ?_; conv => whnf))
  refine two (fun g4 => ?_) (fun g4 => ?_)
  · have g4 := of_decide_eq_true g4
    have hy2 : y + 1 ≤ 2200 := by
      rcases Nat.lt_or_ge y 2200 with q | q
      · omega
      · have : y = 2200 := by omega
        subst this
        have g4 : opens 2201 + 25567 ≤ (a : Int) := g4
        rw [show opens 2201 = 84371 by decide] at g4
        omega
    (conv => whnf); (repeat (refine step_go [] ?_; conv => whnf))
    refine ⟨S (y + 1), weak_of ?_ (.cons (.eq rfl) (.cons (.eq ?_) .nil)) rfl rfl rfl, ih (y + 1) ⟨by omega, by omega, by omega⟩ (by omega)⟩
    · (repeat' first | exact VWs.nil | refine VWs.cons VW.undef ?_ | refine VWs.cons (VW.eq rfl) ?_)
    · rw [wy]
  · have g4 := of_decide_eq_false g4
    have hx : n < opens (y + 1) := by omega
    refine ⟨_, Weak.refl, ?_⟩; (conv => whnf); (repeat (refine step_go [] ?_; conv => whnf))
    refine c_before y (by omega) (by omega) _ ?_; (conv => whnf); (repeat (refine step_go [] ?_; conv => whnf))
    have wb : IntKind.i64.wrap ((a : Int) - (opens y + 25567)) = n - opens y - ((cum y 1 : Nat) : Int) := by rw [wrap64 (by omega) (by omega)]; show _ = n - opens y - ((0 : Nat) : Int); omega
    rw [wb]; (conv => whnf); (repeat (refine step_go [] ?_; conv => whnf))
    let S2 : Nat → St := fun m => ⟨(.undef :: .undef :: .ptr 0 0 :: .int .i64 0 :: .int .i64 (n - opens y - (cum y m : Nat)) :: .ptr 1 0 :: .undef :: .undef :: .undef :: .undef :: .undef :: .undef :: .undef :: .undef :: .undef :: .undef :: .undef :: .undef :: .undef :: .undef :: .undef :: .undef :: .undef :: .undef :: .undef :: .undef :: .undef :: .undef :: .undef :: .undef :: .undef :: .undef :: .undef :: .undef :: .undef :: .undef :: .undef :: .undef :: .undef :: .undef :: .undef :: .undef :: .undef :: .undef :: .undef :: .undef :: .undef :: .undef :: .undef :: .undef :: .undef :: .undef :: .undef :: []), O y m, 0, []⟩
    refine VLoop.enter (s' := S2 1) (weak_of ?_ (.cons (.eq rfl) (.cons (.eq rfl) .nil)) rfl rfl rfl) (VLoop.indW S2 (fun m => 13 - m) (fun m => 1 ≤ m ∧ m ≤ 12 ∧ opens y + (cum y m : Nat) ≤ n) ?_ 1 ⟨by omega, by omega, by show opens y + ((0 : Nat) : Int) ≤ n; omega⟩)
    · (repeat' first | exact VWs.nil | refine VWs.cons VW.undef ?_ | refine VWs.cons (VW.eq rfl) ?_)
    rintro m ⟨hm0, hm1, hmo⟩ ih2
    have hc := cum_step (y := y) hm0
    have hml := mlen_le y m
    have hcc : cum y m ≤ 366 := by
      have := cum_mono (y := y) (a := m) (b := 12) hm0 hm1
      have := cum12 y
      cases hl : lng y <;> simp [hl] at this <;> omega
    refine loop_round [] ?_; (conv => whnf); (repeat (refine step_go [] ?_; conv => whnf))
    refine c_rmonth y m hm0 hm1 _ ?_; (conv => whnf); (repeat (refine step_go [] ?_; conv => whnf))
    refine two (fun g5 => ?_) (fun g5 => ?_)
    · have g5 := of_decide_eq_true g5
      (conv => whnf); (repeat (refine step_go [] ?_; conv => whnf))
      refine c_rmonth y m hm0 hm1 _ ?_; (conv => whnf); (repeat (refine step_go [] ?_; conv => whnf))
      have hm12 : m + 1 ≤ 12 := by
        rcases Nat.lt_or_ge m 12 with q | q
        · omega
        · have : m = 12 := by omega
          subst this
          have := year_len (y := y) (by omega)
          have := mlen12 y
          omega
      have wm : IntKind.i64.wrap ((m : Int) + 1) = ((m + 1 : Nat) : Int) := by rw [wrap64 (by omega) (by omega)]; omega
      refine ⟨S2 (m + 1), weak_of ?_ (.cons (.eq rfl) (.cons (.eq ?_) .nil)) rfl rfl rfl, ih2 (m + 1) ⟨by omega, by omega, by omega⟩ (by omega)⟩
      · repeat' first
          | exact VWs.nil
          | refine VWs.cons VW.undef ?_
          | refine VWs.cons (VW.eq rfl) ?_
          | refine VWs.cons (VW.eq (congrArg (V.int .i64) (by rw [wrap64 (by omega) (by omega)]; omega))) ?_
      · rw [wm]
    · have g5 := of_decide_eq_false g5
      refine ⟨_, Weak.refl, ?_⟩; (conv => whnf); (repeat (refine step_go [] ?_; conv => whnf))
      obtain ⟨d, hd⟩ : ∃ d : Nat, (d : Int) = n - opens y - (cum y m : Nat) + 1 := ⟨(n - opens y - (cum y m : Nat) + 1).toNat, by omega⟩
      have wd : IntKind.i64.wrap (n - opens y - (cum y m : Nat) + 1) = (d : Int) := by rw [wrap64 (by omega) (by omega)]; omega
      rw [wd]; (conv => whnf); (repeat (refine step_go [] ?_; conv => whnf))
      refine ⟨_, _, weak_of (.cons (.eq rfl) .nil) .nil rfl rfl rfl, h y m d ⟨by omega, by omega, by omega, by omega, by omega, by omega, by omega⟩⟩
end BB6

namespace BB7
open Go Go.Proofs VL D1 B2 B4 B5 B7 B8 B10 B11 B12 B13 D2 B14 D3 B20 BB4 BB5 BB6
set_option pp.maxSteps 300
set_option maxRecDepth 100000
set_option linter.unusedVariables false
set_option linter.unusedSimpArgs false

set_option maxHeartbeats 2000000 in
theorem c_hDigits (n least : Nat) (hn : n < 1000000) (hl : 1 ≤ least) (hl2 : least ≤ 50) (K) (h : K (.ret (.str (toBA (dgn least n)))) []) :
    VCall Tryd.prog 74 [.int .i64 (n : Int), .int .i64 (least : Int)] [] K := by
  refine call_fun [] 0 Tryd.func74 (by rfl) (by rfl) ?_; (conv => whnf); (repeat (refine step_go [] ?_; conv => whnf))
  let S : Nat → St := fun i => ⟨(.int .i64 ((n / 10 ^ i : Nat) : Int) :: .int .i64 (least : Int) :: .undef :: .undef :: .str ⟨#[]⟩ :: .str (toBA (dgw i n)) :: .undef :: .undef :: .undef :: .undef :: .undef :: .undef :: .undef :: .undef :: .undef :: .undef :: .undef :: .undef :: .undef :: .undef :: .undef :: .undef :: .undef :: .undef :: .undef :: []), [], 0, []⟩
  refine VLoop.enter (s' := S 0) (weak_of ?_ .nil rfl rfl rfl) (VLoop.indW S (fun i => 60 - i) (fun i => i ≤ 50 ∧ (i ≤ least ∨ 0 < n / 10 ^ (i - 1))) ?_ 0 ⟨by omega, by omega⟩)
  · repeat' first
      | exact VWs.nil
      | refine VWs.cons VW.undef ?_
      | refine VWs.cons (VW.eq rfl) ?_
      | refine VWs.cons (VW.eq (congrArg (V.int .i64) (by simp))) ?_
  rintro i ⟨hi, hd⟩ ih
  have go : (0 < n / 10 ^ i ∨ i < least) → ∃ q, n / 10 ^ i = q ∧ q < 1000000 := fun _ => ⟨_, rfl, Nat.lt_of_le_of_lt (Nat.div_le_self _ _) hn⟩
  have fin : ¬ (0 < n / 10 ^ i) → ¬ i < least → toBA (dgw i n) = toBA (dgn least n) := fun h1 h2 => by
    congr 1
    have h0 : n / 10 ^ i = 0 := Nat.eq_zero_of_not_pos h1
    have hlt : n < 10 ^ i := by
      rcases Nat.lt_or_ge n (10 ^ i) with h | h
      · exact h
      · have := Nat.div_pos h (Nat.pow_pos (by omega)); omega
    by_cases e : i = least
    · subst e; exact (pad_dgw i n (by omega) hlt).symm
    · have hp : 0 < n / 10 ^ (i - 1) := hd.resolve_left (by omega)
      have hge : 10 ^ (i - 1) ≤ n := by
        rcases Nat.lt_or_ge n (10 ^ (i - 1)) with h | h
        · rw [Nat.div_eq_of_lt h] at hp; omega
        · exact h
      have := dg_dgw (i - 1) n hge (by rw [Nat.sub_add_cancel (by omega)]; exact hlt)
      rw [Nat.sub_add_cancel (by omega)] at this
      unfold dgn
      rw [this, dgw_len, show least - i = 0 by omega]; rfl
  have stepp : (0 < n / 10 ^ i ∨ i < least) → True := fun _ => trivial
  refine loop_round [] ?_; (conv => whnf); (repeat (refine step_go [] ?_; conv => whnf))
  refine two (fun g => ?_) (fun g => ?_)
  · have g : 0 < n / 10 ^ i := by have := of_decide_eq_true g; omega
    have h20 := pow20 (Nat.lt_trans hn (by decide)) g
    have hq : n / 10 ^ i < 1000000 := Nat.lt_of_le_of_lt (Nat.div_le_self _ _) hn
    (conv => whnf); (repeat (refine step_go [] ?_; conv => whnf))
    have tm : Int.tmod ((n / 10 ^ i : Nat) : Int) 10 = ((n / 10 ^ i % 10 : Nat) : Int) := rfl
    have td : Int.tdiv ((n / 10 ^ i : Nat) : Int) 10 = ((n / 10 ^ i / 10 : Nat) : Int) := rfl
    refine ⟨by decide, ?_⟩; rw [tm]; (conv => whnf); (repeat (refine step_go [] ?_; conv => whnf))
    have e : IntKind.u8.wrap (IntKind.i64.wrap (48 + ((n / 10 ^ i % 10 : Nat) : Int))) = 48 + ((n / 10 ^ i % 10 : Nat) : Int) := by rw [wrap64 (by omega) (by omega), wrapu8' (by omega) (by omega)]
    rw [e]
    refine ⟨toBA [48 + ((n / 10 ^ i % 10 : Nat) : Int)], ?_, ?_⟩
    · rw [← toBA_V (fun x hx => by simp at hx; omega)]; rfl
    (conv => whnf); (repeat (refine step_go [] ?_; conv => whnf))
    refine ⟨by rw [sz_toBA, sz_toBA, dgw_len]; refine str_le ?_; simp; omega, ?_⟩
    rw [toBA_app]; (conv => whnf); (repeat (refine step_go [] ?_; conv => whnf))
    refine ⟨by decide, ?_⟩; rw [td]; (conv => whnf); (repeat (refine step_go [] ?_; conv => whnf))
    refine ⟨S (i + 1), weak_of ?_ .nil rfl rfl rfl, ih (i + 1) ⟨by omega, by rw [Nat.add_sub_cancel]; omega⟩ (by omega)⟩
    repeat' first
      | exact VWs.nil
      | refine VWs.cons VW.undef ?_
      | refine VWs.cons (VW.eq rfl) ?_
      | refine VWs.cons (VW.eq (congrArg (fun x => V.str (toBA x)) (dgw_next n i))) ?_
      | refine VWs.cons (VW.eq (congrArg (V.int .i64) (by rw [wrap64 (by omega) (by omega), Nat.div_div_eq_div_mul, Nat.pow_succ]))) ?_
  · have g : ¬ 0 < n / 10 ^ i := by have := of_decide_eq_false g; omega
    (conv => whnf); (repeat (refine step_go [] ?_; conv => whnf))
    refine two (fun g2 => ?_) (fun g2 => ?_)
    · have g2 : i < least := by have := of_decide_eq_true g2; rw [sz_toBA, dgw_len] at this; omega
      have hq : n / 10 ^ i < 1000000 := Nat.lt_of_le_of_lt (Nat.div_le_self _ _) hn
      (conv => whnf); (repeat (refine step_go [] ?_; conv => whnf))
      have tm : Int.tmod ((n / 10 ^ i : Nat) : Int) 10 = ((n / 10 ^ i % 10 : Nat) : Int) := rfl
      have td : Int.tdiv ((n / 10 ^ i : Nat) : Int) 10 = ((n / 10 ^ i / 10 : Nat) : Int) := rfl
      refine ⟨by decide, ?_⟩; rw [tm]; (conv => whnf); (repeat (refine step_go [] ?_; conv => whnf))
      have e : IntKind.u8.wrap (IntKind.i64.wrap (48 + ((n / 10 ^ i % 10 : Nat) : Int))) = 48 + ((n / 10 ^ i % 10 : Nat) : Int) := by rw [wrap64 (by omega) (by omega), wrapu8' (by omega) (by omega)]
      rw [e]
      refine ⟨toBA [48 + ((n / 10 ^ i % 10 : Nat) : Int)], ?_, ?_⟩
      · rw [← toBA_V (fun x hx => by simp at hx; omega)]; rfl
      (conv => whnf); (repeat (refine step_go [] ?_; conv => whnf))
      refine ⟨by rw [sz_toBA, sz_toBA, dgw_len]; refine str_le ?_; simp; omega, ?_⟩
      rw [toBA_app]; (conv => whnf); (repeat (refine step_go [] ?_; conv => whnf))
      refine ⟨by decide, ?_⟩; rw [td]; (conv => whnf); (repeat (refine step_go [] ?_; conv => whnf))
      clear go stepp
      have hw : IntKind.i64.wrap ((n / 10 ^ i / 10 : Nat) : Int) = ((n / 10 ^ i / 10 : Nat) : Int) := by
        have hq10 : n / 10 ^ i / 10 < 1000000 := Nat.lt_of_le_of_lt (Nat.div_le_self _ _) hq
        clear td tm
        generalize n / 10 ^ i / 10 = q at hq10
        exact wrap64 (by omega) (by omega)
      refine ⟨S (i + 1), weak_of ?_ .nil rfl rfl rfl, ih (i + 1) ⟨by omega, by rw [Nat.add_sub_cancel]; omega⟩ (by omega)⟩
      repeat' first
        | exact VWs.nil
        | refine VWs.cons VW.undef ?_
        | refine VWs.cons (VW.eq rfl) ?_
        | refine VWs.cons (VW.eq (congrArg (fun x => V.str (toBA x)) (dgw_next n i))) ?_
        | refine VWs.cons (VW.eq (congrArg (V.int .i64) (by rw [hw, Nat.div_div_eq_div_mul, Nat.pow_succ]))) ?_
    · have g2 : ¬ i < least := by have := of_decide_eq_false g2; rw [sz_toBA, dgw_len] at this; omega
      (conv => whnf); (repeat (refine step_go [] ?_; conv => whnf))
      refine ⟨_, Weak.refl, ?_⟩; (conv => whnf); (repeat (refine step_go [] ?_; conv => whnf))
      rw [fin g g2]
      exact h


theorem c_two (n : Nat) (hn : n < 100) (K) (h : K (.ret (.str (toBA (dgw 2 n)))) []) : VCall Tryd.prog 71 [.int .i64 (n : Int)] [] K := by
  refine call_fun [] 0 Tryd.func71 (by rfl) (by rfl) ?_; (conv => whnf); (repeat (refine step_go [] ?_; conv => whnf))
  have td : IntKind.i64.wrap (Int.tdiv (n : Int) 10) = ((n / 10 : Nat) : Int) := by rw [show Int.tdiv (n : Int) 10 = ((n / 10 : Nat) : Int) from BB4.td n 10, wrap64 (by omega) (by omega)]
  have tm : Int.tmod (n : Int) 10 = ((n % 10 : Nat) : Int) := BB4.tm n 10
  have e : ∀ k : Nat, k < 10 → dgi (k : Int) = [48 + (k : Int)] := fun k hk => by
    unfold dgi
    rw [if_neg (by omega), Int.toNat_natCast, dg_small hk]
  refine ⟨by decide, ?_⟩; (conv => whnf); (repeat (refine step_go [] ?_; conv => whnf))
  rw [td]
  refine c_itoa _ (by omega) (by omega) _ ?_; (conv => whnf); (repeat (refine step_go [] ?_; conv => whnf))
  refine ⟨by decide, ?_⟩; (conv => whnf); (repeat (refine step_go [] ?_; conv => whnf))
  rw [tm]
  refine c_itoa _ (by omega) (by omega) _ ?_; (conv => whnf); (repeat (refine step_go [] ?_; conv => whnf))
  rw [e _ (by omega), e _ (by omega)]
  refine ⟨by rw [sz_toBA, sz_toBA]; refine str_le ?_; simp, ?_⟩
  rw [toBA_app]; (conv => whnf); (repeat (refine step_go [] ?_; conv => whnf))
  have e2 : dgw 2 n = [48 + ((n / 10 : Nat) : Int)] ++ [48 + ((n % 10 : Nat) : Int)] := by
    simp only [dgw, List.nil_append]
    rw [Nat.mod_eq_of_lt (show n / 10 < 10 by omega)]
  rw [e2] at h
  exact h

end BB7

namespace BB8
open Go Go.Proofs VL D1 B2 B4 B5 B7 B8 B10 B11 B12 B13 D2 B14 D3 B20 BB4 BB5 BB6 BB7
set_option pp.maxSteps 600
set_option maxRecDepth 100000
set_option linter.unusedVariables false
set_option linter.unusedSimpArgs false

def dtS (y m d : Nat) : List Int := dgw 4 y ++ [45] ++ dgw 2 m ++ [45] ++ dgw 2 d
theorem dt_len (y m d : Nat) : (dtS y m d).length = 10 := by simp [dtS, dgw_len]
theorem dgi_year {y : Nat} (h0 : 1900 ≤ y) (h1 : y ≤ 2200) : dgi (y : Int) = dgw 4 y := by
  unfold dgi
  rw [if_neg (by omega), Int.toNat_natCast]
  exact dg_dgw 3 y (by omega) (by omega)

theorem c_ctext_bad (n : Int) (h0 : dIn n = false) (K) (h : K (.ret (.tup [.str ⟨#[]⟩, .int .i64 5])) []) : VCall Tryd.prog 50 [.int .i64 n] [] K := by
  refine VCall.weak (call_fun [] 0 Tryd.func50 (by rfl) (by rfl) ?_)
  (conv => whnf); (repeat (refine step_go [] ?_; conv => whnf))
  refine c_cdate_bad n h0 _ ?_; (conv => whnf); (repeat (refine step_go [] ?_; conv => whnf))
  exact ⟨_, _, weak_of (.cons (.eq rfl) .nil) .nil rfl rfl rfl, h⟩
theorem c_rtext_bad (n : Int) (h0 : dIn n = false) (K) (h : K (.ret (.tup [.str ⟨#[]⟩, .int .i64 5])) []) : VCall Tryd.prog 52 [.int .i64 n] [] K := by
  refine VCall.weak (call_fun [] 0 Tryd.func52 (by rfl) (by rfl) ?_)
  (conv => whnf); (repeat (refine step_go [] ?_; conv => whnf))
  refine c_rdate_bad n h0 _ ?_; (conv => whnf); (repeat (refine step_go [] ?_; conv => whnf))
  exact ⟨_, _, weak_of (.cons (.eq rfl) .nil) .nil rfl rfl rfl, h⟩

theorem c_ctext (n : Int) (h0 : -25567 ≤ n) (h1 : n ≤ 84370) (K) (h : ∀ y m d, IsDate n y m d → K (.ret (.tup [.str (toBA (dtS y m d)), .int .i64 0])) []) : VCall Tryd.prog 50 [.int .i64 n] [] K := by
  refine VCall.weak (call_fun [] 0 Tryd.func50 (by rfl) (by rfl) ?_)
  (conv => whnf); (repeat (refine step_go [] ?_; conv => whnf))
  refine c_cdate n h0 h1 _ fun y m d hD => ?_; (conv => whnf); (repeat (refine step_go [] ?_; conv => whnf))
  have := hD.y0
  have := hD.y1
  have := hD.m1
  have := hD.dle
  have := h y m d hD
  (refine ⟨by decide +kernel, ?_⟩; conv => whnf)
  (repeat (refine And.intro rfl ?_; conv => whnf))
  refine c_itoa _ (by omega) (by omega) _ ?_; (conv => whnf); (repeat (refine step_go [] ?_; conv => whnf))
  (repeat (refine And.intro rfl ?_; conv => whnf))
  rw [dgi_year (by omega) (by omega)]
  refine ⟨by rw [sz_toBA]; refine str_le ?_; rw [dgw_len]; decide, ?_⟩
  rw [show (ByteArray.mk #[45]) = toBA [45] from rfl, toBA_app]; (conv => whnf); (repeat (refine step_go [] ?_; conv => whnf))
  refine c_two m (by omega) _ ?_; (conv => whnf); (repeat (refine step_go [] ?_; conv => whnf))
  repeat first
    | (refine And.intro rfl ?_; conv => whnf)
    | (refine And.intro (by (first | rw [sz_toBA, sz_toBA] | rw [sz_toBA]); refine str_le ?_; simp [dgw_len, sz_toBA]) ?_; (try rw [toBA_app]); (conv => whnf); (repeat (refine step_go [] ?_; conv => whnf)))
  refine c_two d (by omega) _ ?_; (conv => whnf); (repeat (refine step_go [] ?_; conv => whnf))
  repeat first
    | (refine And.intro rfl ?_; conv => whnf)
    | (refine And.intro (by (first | rw [sz_toBA, sz_toBA] | rw [sz_toBA]); refine str_le ?_; simp [dgw_len, sz_toBA]) ?_; (try rw [toBA_app]); (conv => whnf); (repeat (refine step_go [] ?_; conv => whnf)))
  exact ⟨_, _, weak_of (.cons (.eq rfl) .nil) .nil rfl rfl rfl, this⟩

theorem c_rtext (n : Int) (h0 : -25567 ≤ n) (h1 : n ≤ 84370) (K) (h : ∀ y m d, IsDate n y m d → K (.ret (.tup [.str (toBA (dtS y m d)), .int .i64 0])) []) : VCall Tryd.prog 52 [.int .i64 n] [] K := by
  refine VCall.weak (call_fun [] 0 Tryd.func52 (by rfl) (by rfl) ?_)
  (conv => whnf); (repeat (refine step_go [] ?_; conv => whnf))
  refine c_rdate n h0 h1 _ fun y m d hD => ?_; (conv => whnf); (repeat (refine step_go [] ?_; conv => whnf))
  have := hD.y0
  have := hD.y1
  have := hD.m1
  have := hD.dle
  have := h y m d hD
  have p4 : dgn 4 y = dgw 4 y := pad_dgw 4 y (by omega) (by omega)
  have p2 : ∀ k, k < 100 → dgn 2 k = dgw 2 k := fun k hk => pad_dgw 2 k (by omega) (by omega)
  (refine ⟨by decide +kernel, ?_⟩; conv => whnf)
  (repeat (refine And.intro rfl ?_; conv => whnf))
  refine c_hDigits y 4 (by omega) (by omega) (by omega) _ ?_; (conv => whnf); (repeat (refine step_go [] ?_; conv => whnf))
  (repeat (refine And.intro rfl ?_; conv => whnf))
  rw [p4]
  refine ⟨by rw [sz_toBA]; refine str_le ?_; rw [dgw_len]; decide, ?_⟩
  rw [show (ByteArray.mk #[45]) = toBA [45] from rfl, toBA_app]; (conv => whnf); (repeat (refine step_go [] ?_; conv => whnf))
  refine c_hDigits m 2 (by omega) (by omega) (by omega) _ ?_; rw [p2 m (by omega)]; (conv => whnf); (repeat (refine step_go [] ?_; conv => whnf))
  repeat first
    | (refine And.intro rfl ?_; conv => whnf)
    | (refine And.intro (by (first | rw [sz_toBA, sz_toBA] | rw [sz_toBA]); refine str_le ?_; simp [dgw_len, sz_toBA]) ?_; (try rw [toBA_app]); (conv => whnf); (repeat (refine step_go [] ?_; conv => whnf)))
  refine c_hDigits d 2 (by omega) (by omega) (by omega) _ ?_; rw [p2 d (by omega)]; (conv => whnf); (repeat (refine step_go [] ?_; conv => whnf))
  repeat first
    | (refine And.intro rfl ?_; conv => whnf)
    | (refine And.intro (by (first | rw [sz_toBA, sz_toBA] | rw [sz_toBA]); refine str_le ?_; simp [dgw_len, sz_toBA]) ?_; (try rw [toBA_app]); (conv => whnf); (repeat (refine step_go [] ?_; conv => whnf)))
  exact ⟨_, _, weak_of (.cons (.eq rfl) .nil) .nil rfl rfl rfl, this⟩

end BB8

namespace BB9
open Go Go.Proofs VL D1 B2 B4 B5 B7 B8 B10 B11 B12 B13 D2 B14 D3 B20 BB4 BB5 BB6 BB7 BB8
set_option pp.maxSteps 600
set_option maxRecDepth 100000
set_option linter.unusedVariables false
set_option linter.unusedSimpArgs false

theorem isDate_in {n : Int} {y m d : Nat} (h : IsDate n y m d) : dIn n = true := by
  have a := h.y0
  have b := h.y1
  obtain ⟨c, e⟩ := h.year
  have := opens_mono (y := 1900) (z := y) (by omega) a
  have := opens_mono (y := y + 1) (z := 2201) (by omega) (by omega)
  rw [show opens 1900 = -25567 by decide] at *
  rw [show opens 2201 = 84371 by decide] at *
  simp [dIn]; omega

open Classical in
/-- a day, as it is told -/
noncomputable def dateT (n : Int) : List Int := if h : ∃ t, ∃ y m d, IsDate n y m d ∧ t = dtS y m d then h.choose else [110, 111, 110, 101]
theorem dateT_in {n : Int} {y m d : Nat} (h : IsDate n y m d) : dateT n = dtS y m d := by
  have hx : ∃ t, ∃ y m d, IsDate n y m d ∧ t = dtS y m d := ⟨_, y, m, d, h, rfl⟩
  unfold dateT
  rw [dif_pos hx]
  obtain ⟨y', m', d', h1, h2⟩ := hx.choose_spec
  obtain ⟨rfl, rfl, rfl⟩ := h.uniq h1
  exact h2
theorem dateT_out {n : Int} (h : dIn n = false) : dateT n = [110, 111, 110, 101] := by
  unfold dateT
  rw [dif_neg]
  rintro ⟨t, y, m, d, h1, _⟩
  rw [isDate_in h1] at h; cases h
theorem dateT_len (n : Int) : (dateT n).length ≤ 10 := by
  unfold dateT
  split
  · rename_i hx
    obtain ⟨y, m, d, _, h2⟩ := hx.choose_spec
    rw [h2, dt_len]; omega
  · decide
theorem dateT_ne (n : Int) : ∀ x ∈ dateT n, x ≠ 10 := by
  intro x hx
  unfold dateT at hx
  split at hx
  · rename_i hq
    obtain ⟨y, m, d, _, h2⟩ := hq.choose_spec
    rw [h2] at hx
    simp only [dtS, List.mem_append, List.mem_singleton] at hx
    have hd : ∀ w n, ∀ x ∈ dgw w n, x ≠ 10 := fun w n x hx => by have := dgw_dig w n x hx; unfold Dig at this; omega
    rcases hx with (((hx | rfl) | hx) | rfl) | hx
    · exact hd _ _ _ hx
    · decide
    · exact hd _ _ _ hx
    · decide
    · exact hd _ _ _ hx
  · simp at hx; omega

theorem c_sdate (n : Int) (K) (h : K (.ret (.str (toBA (dateT n)))) []) : VCall Tryd.prog 26 [.int .i64 n] [] K := by
  refine call_fun [] 0 Tryd.func26 (by rfl) (by rfl) ?_; (conv => whnf); (repeat (refine step_go [] ?_; conv => whnf))
  cases hd : dIn n with
  | false =>
    refine c_ctext_bad n hd _ ?_; (conv => whnf); (repeat (refine step_go [] ?_; conv => whnf))
    rw [dateT_out hd] at h
    exact h
  | true =>
    have hd' := hd
    simp [dIn] at hd'
    refine c_ctext n hd'.1 hd'.2 _ fun y m d hD => ?_; (conv => whnf); (repeat (refine step_go [] ?_; conv => whnf))
    rw [dateT_in hD] at h
    exact h
theorem c_rsdate (n : Int) (K) (h : K (.ret (.str (toBA (dateT n)))) []) : VCall Tryd.prog 29 [.int .i64 n] [] K := by
  refine call_fun [] 0 Tryd.func29 (by rfl) (by rfl) ?_; (conv => whnf); (repeat (refine step_go [] ?_; conv => whnf))
  cases hd : dIn n with
  | false =>
    refine c_rtext_bad n hd _ ?_; (conv => whnf); (repeat (refine step_go [] ?_; conv => whnf))
    rw [dateT_out hd] at h
    exact h
  | true =>
    have hd' := hd
    simp [dIn] at hd'
    refine c_rtext n hd'.1 hd'.2 _ fun y m d hD => ?_; (conv => whnf); (repeat (refine step_go [] ?_; conv => whnf))
    rw [dateT_in hD] at h
    exact h

theorem c_rnumber (v : Int) (hv : I64 v) (K) (h : K (.ret (.str (toBA (dgi v)))) []) : VCall Tryd.prog 30 [.int .i64 v] [] K := by
  have h1 := hv.1
  have h2 := hv.2
  have e1 : ∀ n, dgn 1 n = dg n := fun n => by
    unfold dgn
    have := dg_len_pos n
    rw [show 1 - (dg n).length = 0 by omega]; rfl
  refine call_fun [] 0 Tryd.func30 (by rfl) (by rfl) ?_; (conv => whnf); (repeat (refine step_go [] ?_; conv => whnf))
  refine two (fun g => ?_) (fun g => ?_)
  · have g := of_decide_eq_true g
    (conv => whnf); (repeat (refine step_go [] ?_; conv => whnf))
    obtain ⟨k, hk⟩ : ∃ k : Nat, (-v).toNat = k := ⟨_, rfl⟩
    have hk' : (k : Int) = -v := by omega
    have w1 : IntKind.i64.wrap (v + 1) = v + 1 := wrap64 (by omega) (by omega)
    have w2 : IntKind.i64.wrap (0 - (v + 1)) = 0 - (v + 1) := wrap64 (by omega) (by omega)
    have w3 : IntKind.u64.wrap (0 - (v + 1)) = 0 - (v + 1) := wrapu64 (by omega) (by omega)
    have w4 : IntKind.u64.wrap (0 - (v + 1) + 1) = (k : Int) := by rw [wrapu64 (by omega) (by omega)]; omega
    rw [w1, w2, w3, w4]
    have hl := dg_len20 (n := k) (by omega)
    refine c_Digits k 1 (by omega) (by omega) (by omega) _ ?_; (conv => whnf); (repeat (refine step_go [] ?_; conv => whnf))
    rw [e1]
    refine ⟨by rw [sz_toBA]; refine str_le ?_; show 1 + _ < _; omega, ?_⟩
    rw [show (ByteArray.mk #[45]) = toBA [45] from rfl, toBA_app]; (conv => whnf); (repeat (refine step_go [] ?_; conv => whnf))
    unfold dgi at h
    rw [if_pos g, hk] at h
    exact h
  · have g := of_decide_eq_false g
    (conv => whnf); (repeat (refine step_go [] ?_; conv => whnf))
    obtain ⟨k, hk⟩ : ∃ k : Nat, v.toNat = k := ⟨_, rfl⟩
    have hk' : v = (k : Int) := by omega
    have w4 : IntKind.u64.wrap v = (k : Int) := by rw [wrapu64 (by omega) (by omega)]; omega
    rw [w4]
    refine c_Digits k 1 (by omega) (by omega) (by omega) _ ?_; (conv => whnf); (repeat (refine step_go [] ?_; conv => whnf))
    rw [e1]
    unfold dgi at h
    rw [if_neg g, hk] at h
    exact h
end BB9

namespace BB10
open Go Go.Proofs VL D1 B2 B4 B5 B7 B8 B10 B11 B12 B13 D2 B14 D3 B20 BB1 BB2 BB3 BB9
set_option pp.maxSteps 600
set_option maxRecDepth 100000
set_option linter.unusedVariables false
set_option linter.unusedSimpArgs false

structure Due where
  n : Int
  day : Int
  int : Int
  pri : Int
structure Stm where
  day : Int
  opn : Bool
  cls : Bool
  pri : Int
  acc : Int
  int : Int
  due : Int
  pen : Int
  fee : Int
  una : Int
  dues : List Due
  next : Int
  nday : Int
def encD (d : Due) : V := .agg [.int .i64 d.n, .int .i64 d.day, .int .i64 d.int, .int .i64 d.pri]
def dL (l : List Due) : List V := l.map encD
def encS (s : Stm) (r : Room) : V := .agg [.int .i64 s.day, .bool s.opn, .bool s.cls, .int .i64 s.pri, .int .i64 s.acc, .int .i64 s.int, .int .i64 s.due, .int .i64 s.pen, .int .i64 s.fee, .int .i64 s.una, .sl (dL s.dues) r, .int .i64 s.next, .int .i64 s.nday]
def Due.ok (d : Due) : Prop := I64 d.n ∧ I64 d.day ∧ I64 d.int ∧ I64 d.pri
structure Stm.ok (s : Stm) : Prop where
  day : I64 s.day
  pri : I64 s.pri
  acc : I64 s.acc
  int : I64 s.int
  due : I64 s.due
  pen : I64 s.pen
  fee : I64 s.fee
  una : I64 s.una
  next : I64 s.next
  nday : I64 s.nday
  dues : ∀ d ∈ s.dues, d.ok
  len : s.dues.length ≤ 60

def lineS : List (List Int) → List Int
  | [] => [10]
  | [a] => a ++ [10]
  | a :: r => a ++ [32] ++ lineS r
def howS (s : Stm) : List Int := if s.cls then [99, 108, 111, 115, 101, 100] else if s.opn then [111, 112, 101, 110] else [110, 111, 110, 101]
def wPrincipal : List Int := [112, 114, 105, 110, 99, 105, 112, 97, 108]
def wAccrued : List Int := [97, 99, 99, 114, 117, 101, 100]
def wInterest : List Int := [105, 110, 116, 101, 114, 101, 115, 116]
def wDue : List Int := [100, 117, 101]
def wPenalty : List Int := [112, 101, 110, 97, 108, 116, 121]
def wFees : List Int := [102, 101, 101, 115]
def wUnapplied : List Int := [117, 110, 97, 112, 112, 108, 105, 101, 100]
def wInstalment : List Int := [105, 110, 115, 116, 97, 108, 109, 101, 110, 116]
def wNext : List Int := [110, 101, 120, 116]
noncomputable def headS (s : Stm) : List Int := lineS [dateT s.day, howS s] ++ lineS [wPrincipal, moneyS s.pri] ++ lineS [wAccrued, moneyS s.acc] ++ lineS [wInterest, moneyS s.int] ++ lineS [wDue, moneyS s.due] ++ lineS [wPenalty, moneyS s.pen] ++
  lineS [wFees, moneyS s.fee] ++ lineS [wUnapplied, moneyS s.una]
noncomputable def dueS (d : Due) : List Int := lineS [wInstalment, dgi d.n, dateT d.day, moneyS d.int, moneyS d.pri]
noncomputable def nextS (s : Stm) : List Int := if s.next = 0 then [] else lineS [wNext, dgi s.next, dateT s.nday]
noncomputable def textS (s : Stm) : List Int := headS s ++ s.dues.flatMap dueS ++ nextS s

theorem lineB_eq : ∀ (a : List Int) (l : List (List Int)), lineB ((a :: l).map toBA) = toBA (lineS (a :: l))
  | a, [] => by
    simp only [List.map_cons, List.map_nil, lineB, joinB, restB, List.foldr_nil, lineS]
    rw [show BB3.nl = toBA [10] from rfl, show (⟨#[]⟩ : ByteArray) = toBA [] from rfl, toBA_app, toBA_app]; simp
  | a, b :: l => by
    have ih := lineB_eq b l
    simp only [List.map_cons, lineB, joinB, restB, List.foldr_cons] at ih ⊢
    rw [show lineS (a :: b :: l) = a ++ [32] ++ lineS (b :: l) from rfl, ← toBA_app, ← toBA_app, ← ih, show toBA [32] = BB2.spc from rfl]
    simp only [ByteArray.append_assoc]

theorem join_sz {x : List Int} {ws : List (List Int)} {n : Nat} (h : (lineS (x :: ws)).length ≤ n) : (joinB ((x :: ws).map toBA)).size ≤ n := by
  have := congrArg ByteArray.size (lineB_eq x ws)
  rw [lineB, ByteArray.size_append, sz_toBA] at this
  omega

theorem c_lineL0 (x : List Int) (ws : List (List Int)) (h1 : 1 ≤ ws.length) (h9 : ws.length ≤ 9) (hj : (lineS (x :: ws)).length ≤ 1000000) (K)
    (h : ∀ sp' : List V, K (.ret (.tup [])) [bO TW (.ptr 0 0) (toBA (lineS (x :: ws))).size ((toBA (lineS (x :: ws))).size + sp'.length), .buf true 1 (bytesV (toBA (lineS (x :: ws))) ++ sp') (some 5)]) :
    VCall Tryd.prog 25 [.ptr 0 0, .sl ((x :: ws).map fun l => V.str (toBA l)) .ex] [bN TW] K := by
  have e : ((x :: ws).map fun l => V.str (toBA l)) = ((toBA x :: ws.map toBA).map V.str) := by simp
  rw [e]
  refine c_line0 (toBA x) (ws.map toBA) (by simpa using h1) (by simpa using h9) (join_sz hj) _ fun sp' => ?_
  have e2 : lineB (toBA x :: ws.map toBA) = toBA (lineS (x :: ws)) := lineB_eq x ws
  rw [e2]
  exact h sp'

theorem c_lineL (s : List Int) (sp : List V) (x : List Int) (ws : List (List Int)) (h1 : 1 ≤ ws.length) (h9 : ws.length ≤ 9) (hj : (lineS (x :: ws)).length ≤ 1000000) (hs : s.length ≤ 1000000) (mv : Bool) (K)
    (h : ∀ sp' : List V, K (.ret (.tup [])) [bO TW (.ptr 0 0) (toBA (s ++ lineS (x :: ws))).size ((toBA (s ++ lineS (x :: ws))).size + sp'.length), .buf true 1 (bytesV (toBA (s ++ lineS (x :: ws))) ++ sp') (some 5)]) :
    VCall Tryd.prog 25 [.ptr 0 0, .sl ((x :: ws).map fun l => V.str (toBA l)) .ex] [bO TW (.ptr 0 0) (toBA s).size ((toBA s).size + sp.length), .buf mv 1 (bytesV (toBA s) ++ sp) (some 5)] K := by
  have e : ((x :: ws).map fun l => V.str (toBA l)) = ((toBA x :: ws.map toBA).map V.str) := by simp
  rw [e]
  refine c_line _ (.inr rfl) mv (toBA s) sp (toBA x) (ws.map toBA) (by simpa using h1) (by simpa using h9) (join_sz hj) (by rw [sz_toBA]; exact hs) .ex _ fun sp' => ?_
  have e2 : lineB (toBA x :: ws.map toBA) = toBA (lineS (x :: ws)) := lineB_eq x ws
  rw [e2, toBA_app]
  exact h sp'

theorem money_len (v : Int) (hv : I64 v) : (moneyS v).length ≤ 30 := by
  have h1 := hv.1
  have h2 := hv.2
  have := dg_len20 (n := v.natAbs / 100) (by omega)
  have hs : (sgn v).length ≤ 1 := by unfold sgn; split <;> simp
  simp [moneyS, dgw_len]
  omega

theorem dgi_len {v : Int} (hv : I64 v) : (dgi v).length ≤ 21 := by
  have h1 := hv.1
  have h2 := hv.2
  have := dg_len20 (n := (-v).toNat) (by omega)
  have := dg_len20 (n := v.toNat) (by omega)
  unfold dgi
  split <;> simp <;> omega

set_option maxHeartbeats 4000000 in
theorem c_stext (s : Stm) (hs : s.ok) (r : Room) (hr : r = .no) (K) (h : K (.ret (.str (toBA (textS s)))) []) : VCall Tryd.prog 12 [encS s r] [] K := by
  subst hr
  obtain ⟨D, hD⟩ : ∃ D, dL s.dues = D := ⟨_, rfl⟩
  unfold encS
  rw [hD]
  refine VCall.weak (call_fun [] 0 Tryd.func12 (by rfl) (by rfl) ?_)
  have hdl := dateT_len s.day
  have hhl : (howS s).length ≤ 6 := by unfold howS; cases s.cls <;> cases s.opn <;> decide
  have m1 := money_len s.pri hs.pri
  have m2 := money_len s.acc hs.acc
  have m3 := money_len s.int hs.int
  have m4 := money_len s.due hs.due
  have m5 := money_len s.pen hs.pen
  have m6 := money_len s.fee hs.fee
  have m7 := money_len s.una hs.una
  have hcs : (s.cls = true ∧ howS s = [99, 108, 111, 115, 101, 100]) ∨ (s.cls = false ∧ s.opn = true ∧ howS s = [111, 112, 101, 110]) ∨ (s.cls = false ∧ s.opn = false ∧ howS s = [110, 111, 110, 101]) := by
    unfold howS
    cases s.cls <;> cases s.opn <;> simp
  rcases hcs with ⟨hc, hw⟩ | ⟨hc, ho, hw⟩ | ⟨hc, ho, hw⟩
  · rw [hc]
    (conv => whnf); (repeat (refine step_go [] ?_; conv => whnf))
    have hW : (⟨#[99, 108, 111, 115, 101, 100]⟩ : ByteArray) = toBA (howS s) := by rw [hw]; rfl
    rw [hW]
    clear hW hw
    refine c_sdate s.day _ ?_; (conv => whnf); (repeat (refine step_go [] ?_; conv => whnf))
    refine c_lineL0 (dateT s.day) [howS s] (by simp) (by simp) (by simp [lineS]; omega) _ fun sp0 => ?_; (conv => whnf); (repeat (refine step_go [] ?_; conv => whnf))
    refine c_money s.pri hs.pri _ ?_; (conv => whnf); (repeat (refine step_go [] ?_; conv => whnf))
    refine c_lineL (lineS [dateT s.day, howS s]) _ wPrincipal [moneyS s.pri] (by simp) (by simp) (by simp [lineS, wPrincipal]; omega) (by simp [lineS, wPrincipal, wAccrued, wInterest, wDue, wPenalty, wFees, wUnapplied]; omega) _ _ fun sp1 => ?_; (conv => whnf); (repeat (refine step_go [] ?_; conv => whnf))
    refine c_money s.acc hs.acc _ ?_; (conv => whnf); (repeat (refine step_go [] ?_; conv => whnf))
    refine c_lineL (lineS [dateT s.day, howS s] ++ lineS [wPrincipal, moneyS s.pri]) _ wAccrued [moneyS s.acc] (by simp) (by simp) (by simp [lineS, wAccrued]; omega) (by simp [lineS, wPrincipal, wAccrued, wInterest, wDue, wPenalty, wFees, wUnapplied]; omega) _ _ fun sp1 => ?_; (conv => whnf); (repeat (refine step_go [] ?_; conv => whnf))
    refine c_money s.int hs.int _ ?_; (conv => whnf); (repeat (refine step_go [] ?_; conv => whnf))
    refine c_lineL (lineS [dateT s.day, howS s] ++ lineS [wPrincipal, moneyS s.pri] ++ lineS [wAccrued, moneyS s.acc]) _ wInterest [moneyS s.int] (by simp) (by simp) (by simp [lineS, wInterest]; omega) (by simp [lineS, wPrincipal, wAccrued, wInterest, wDue, wPenalty, wFees, wUnapplied]; omega) _ _ fun sp1 => ?_; (conv => whnf); (repeat (refine step_go [] ?_; conv => whnf))
    refine c_money s.due hs.due _ ?_; (conv => whnf); (repeat (refine step_go [] ?_; conv => whnf))
    refine c_lineL (lineS [dateT s.day, howS s] ++ lineS [wPrincipal, moneyS s.pri] ++ lineS [wAccrued, moneyS s.acc] ++ lineS [wInterest, moneyS s.int]) _ wDue [moneyS s.due] (by simp) (by simp) (by simp [lineS, wDue]; omega) (by simp [lineS, wPrincipal, wAccrued, wInterest, wDue, wPenalty, wFees, wUnapplied]; omega) _ _ fun sp1 => ?_; (conv => whnf); (repeat (refine step_go [] ?_; conv => whnf))
    refine c_money s.pen hs.pen _ ?_; (conv => whnf); (repeat (refine step_go [] ?_; conv => whnf))
    refine c_lineL (lineS [dateT s.day, howS s] ++ lineS [wPrincipal, moneyS s.pri] ++ lineS [wAccrued, moneyS s.acc] ++ lineS [wInterest, moneyS s.int] ++ lineS [wDue, moneyS s.due]) _ wPenalty [moneyS s.pen] (by simp) (by simp) (by simp [lineS, wPenalty]; omega) (by simp [lineS, wPrincipal, wAccrued, wInterest, wDue, wPenalty, wFees, wUnapplied]; omega) _ _ fun sp1 => ?_; (conv => whnf); (repeat (refine step_go [] ?_; conv => whnf))
    refine c_money s.fee hs.fee _ ?_; (conv => whnf); (repeat (refine step_go [] ?_; conv => whnf))
    refine c_lineL (lineS [dateT s.day, howS s] ++ lineS [wPrincipal, moneyS s.pri] ++ lineS [wAccrued, moneyS s.acc] ++ lineS [wInterest, moneyS s.int] ++ lineS [wDue, moneyS s.due] ++ lineS [wPenalty, moneyS s.pen]) _ wFees [moneyS s.fee] (by simp) (by simp) (by simp [lineS, wFees]; omega) (by simp [lineS, wPrincipal, wAccrued, wInterest, wDue, wPenalty, wFees, wUnapplied]; omega) _ _ fun sp1 => ?_; (conv => whnf); (repeat (refine step_go [] ?_; conv => whnf))
    refine c_money s.una hs.una _ ?_; (conv => whnf); (repeat (refine step_go [] ?_; conv => whnf))
    refine c_lineL (lineS [dateT s.day, howS s] ++ lineS [wPrincipal, moneyS s.pri] ++ lineS [wAccrued, moneyS s.acc] ++ lineS [wInterest, moneyS s.int] ++ lineS [wDue, moneyS s.due] ++ lineS [wPenalty, moneyS s.pen] ++ lineS [wFees, moneyS s.fee]) _ wUnapplied [moneyS s.una] (by simp) (by simp) (by simp [lineS, wUnapplied]; omega) (by simp [lineS, wPrincipal, wAccrued, wInterest, wDue, wPenalty, wFees, wUnapplied]; omega) _ _ fun sp1 => ?_; (conv => whnf); (repeat (refine step_go [] ?_; conv => whnf))
    rw [show lineS [dateT s.day, howS s] ++ lineS [wPrincipal, moneyS s.pri] ++ lineS [wAccrued, moneyS s.acc] ++ lineS [wInterest, moneyS s.int] ++ lineS [wDue, moneyS s.due] ++ lineS [wPenalty, moneyS s.pen] ++ lineS [wFees, moneyS s.fee] ++ lineS [wUnapplied, moneyS s.una] = headS s from rfl]
    have hhd : (headS s).length ≤ 2000 := by
      simp [headS, lineS, wPrincipal, wAccrued, wInterest, wDue, wPenalty, wFees, wUnapplied]; omega
    let C : Nat → List Int := fun i => headS s ++ (s.dues.take i).flatMap dueS
    let OB : List Int → List V → List VObj := fun c sp => [.cells true 24 [.int .i64 s.day, .bool s.opn, .bool s.cls, .int .i64 s.pri, .int .i64 s.acc, .int .i64 s.int, .int .i64 s.due, .int .i64 s.pen, .int .i64 s.fee, .int .i64 s.una, .sl D .no, .int .i64 s.next, .int .i64 s.nday],
      .cells true TW [.ptr 1 0, .slo 2 1 0 (toBA c).size ((toBA c).size + sp.length)], .buf true 1 (bytesV (toBA c) ++ sp) (some 5)]
    let S : Nat × List V → St := fun x => ⟨(.undef :: .ptr 0 0 :: .str ⟨#[]⟩ :: .ptr 1 0 :: .fn (.func 25) [.ptr 1 0] [] :: .undef :: .undef :: .undef :: .undef :: .undef :: .undef :: .undef :: .undef :: .undef :: .undef :: .undef :: .undef :: .undef :: .undef :: .undef :: .undef :: .undef :: .undef :: .undef :: .undef :: .undef :: .undef :: .undef :: .undef :: .undef :: .undef :: .undef :: .undef :: .undef :: .undef :: .undef :: .undef :: .undef :: .undef :: .undef :: .undef :: .undef :: .undef :: .undef :: .undef :: .undef :: .undef :: .undef :: .undef :: .undef :: .undef :: .undef :: .undef :: .undef :: .undef :: .undef :: .undef :: .undef :: .undef :: .undef :: .undef :: .undef :: .undef :: .undef :: .undef :: .undef :: .undef :: .undef :: .sl D .no :: .int .i64 (D.length : Nat) :: .int .i64 (x.1 : Nat) :: .undef :: .undef :: .undef :: .undef :: .undef :: .undef :: .undef :: .undef :: .undef :: .undef :: .undef :: .undef :: .undef :: .undef :: .undef :: .undef :: .undef :: .undef :: .undef :: .undef :: .undef :: .undef :: .undef :: .undef :: .undef :: .undef :: .undef :: .undef :: .undef :: .undef :: .undef :: .undef :: .undef :: .undef :: .undef :: []), OB (C x.1) x.2, 0, []⟩
    have hlD : D.length = s.dues.length := by rw [← hD]; simp [dL]
    refine VLoop.enter (s' := S (0, sp1)) (weak_of ?_ (.cons (.eq ?_) (.cons (.eq ?_) (.cons (.eq ?_) .nil))) rfl rfl rfl)
      (VLoop.indW S (fun x => s.dues.length - x.1) (fun x => x.1 ≤ s.dues.length ∧ (C x.1).length ≤ 2000 + 300 * x.1) ?_ (0, sp1) ⟨by omega, by simp [C]; omega⟩)
    · (repeat' first | exact VWs.nil | refine VWs.cons VW.undef ?_ | refine VWs.cons (VW.eq rfl) ?_)
    · rw [hc]
    · show _ = VObj.cells true TW [.ptr 1 0, .slo 2 1 0 (toBA (headS s ++ [])).size ((toBA (headS s ++ [])).size + sp1.length)]
      rw [List.append_nil]
    · show _ = VObj.buf true 1 (bytesV (toBA (headS s ++ [])) ++ sp1) (some 5)
      rw [List.append_nil]
    rintro ⟨i, sp⟩ ⟨hi, hcl⟩ ih
    simp only at hi hcl
    have h60 := hs.len
    refine loop_round [] ?_; (conv => whnf); (repeat (refine step_go [] ?_; conv => whnf))
    refine two (fun g => ?_) (fun g => ?_)
    · have hil : i < s.dues.length := by have := of_decide_eq_true g; simp only at this; omega
      have hx : s.dues[i]? = some s.dues[i] := List.getElem?_eq_getElem hil
      have htk : s.dues.take (i + 1) = s.dues.take i ++ [s.dues[i]] := List.take_succ_eq_append_getElem hil
      obtain ⟨x, hxx⟩ : ∃ x, s.dues[i] = x := ⟨_, rfl⟩
      rw [hxx] at hx htk
      have hxo : x.ok := hs.dues x (List.mem_of_getElem? hx)
      have hget : D[((i : Nat) : Int).toNat]? = some (encD x) := by rw [Int.toNat_natCast, ← hD]; simp [dL, hx]
      have hC : C (i + 1) = C i ++ dueS x := by simp only [C]; rw [htk]; simp
      have n1 := money_len x.int hxo.2.2.1
      have n2 := money_len x.pri hxo.2.2.2
      have n3 := dateT_len x.day
      have n4 : (dgi x.n).length ≤ 21 := dgi_len hxo.1
      have n5 : (dueS x).length ≤ 150 := by simp [dueS, lineS, wInstalment]; omega
      (conv => whnf); (repeat (refine step_go [] ?_; conv => whnf))
      refine ⟨by omega, _, hget, rfl, ?_⟩; (conv => whnf); (repeat (refine step_go [] ?_; conv => whnf))
      (refine ⟨by decide +kernel, ?_⟩; conv => whnf)
      (repeat (refine And.intro rfl ?_; conv => whnf))
      refine c_itoa x.n hxo.1.1 (by have := hxo.1.2; omega) _ ?_; (conv => whnf); (repeat (refine step_go [] ?_; conv => whnf))
      (repeat (refine And.intro rfl ?_; conv => whnf))
      refine c_sdate x.day _ ?_; (conv => whnf); (repeat (refine step_go [] ?_; conv => whnf))
      (repeat (refine And.intro rfl ?_; conv => whnf))
      refine c_money x.int hxo.2.2.1 _ ?_; (conv => whnf); (repeat (refine step_go [] ?_; conv => whnf))
      (repeat (refine And.intro rfl ?_; conv => whnf))
      refine c_money x.pri hxo.2.2.2 _ ?_; (conv => whnf); (repeat (refine step_go [] ?_; conv => whnf))
      (repeat (refine And.intro rfl ?_; conv => whnf))
      refine c_lineL (C i) _ wInstalment [dgi x.n, dateT x.day, moneyS x.int, moneyS x.pri] (by simp) (by simp) (by unfold dueS at n5; omega) (by omega) _ _ fun sp2 => ?_; (conv => whnf); (repeat (refine step_go [] ?_; conv => whnf))
      (repeat (refine And.intro rfl ?_; conv => whnf))
      refine ⟨S (i + 1, sp2), weak_of ?_ (.cons (.eq rfl) (.cons (.eq ?_) (.cons ?_ .nil))) rfl rfl rfl, ih (i + 1, sp2) ⟨by simp only; omega, by simp only; rw [hC, List.length_append]; omega⟩ (by simp only; omega)⟩
      · repeat' first
          | exact VWs.nil
          | refine VWs.cons VW.undef ?_
          | refine VWs.cons (VW.eq rfl) ?_
          | refine VWs.cons (VW.eq (congrArg (V.int .i64) (by simp only; rw [wrap64 (by omega) (by omega)]; omega))) ?_
      · show _ = VObj.cells true TW [.ptr 1 0, .slo 2 1 0 (toBA (C (i + 1))).size ((toBA (C (i + 1))).size + sp2.length)]
        rw [hC]; rfl
      · first
          | (show OW _ (VObj.buf true 1 (bytesV (toBA (C (i + 1))) ++ sp2) (some 5)); rw [hC]; exact .eq rfl)
          | (show OW _ (VObj.buf true 1 (bytesV (toBA (C (i + 1))) ++ sp2) (some 5)); rw [hC]; exact .moved)
    · have hil : i = s.dues.length := by have := of_decide_eq_false g; simp only at this; omega
      subst hil
      have hCe : C s.dues.length = headS s ++ s.dues.flatMap dueS := by simp only [C, List.take_length]
      have k1 := dateT_len s.nday
      have k2 : (dgi s.next).length ≤ 21 := dgi_len hs.next
      have hpos : 0 < (headS s).length := by simp [headS, lineS, wPrincipal]; omega
      have hpc : 0 < (C s.dues.length).length := by rw [hCe, List.length_append]; omega
      have n6 : (lineS [wNext, dgi s.next, dateT s.nday]).length ≤ 60 := by simp [lineS, wNext]; omega
      refine ⟨_, Weak.refl, ?_⟩; (conv => whnf); (repeat (refine step_go [] ?_; conv => whnf))
      refine two (fun g2 => ?_) (fun g2 => ?_)
      · have g2 : s.next ≠ 0 := by simpa using g2
        (conv => whnf); (repeat (refine step_go [] ?_; conv => whnf))
        (refine ⟨by decide +kernel, ?_⟩; conv => whnf)
        (repeat (refine And.intro rfl ?_; conv => whnf))
        refine c_itoa s.next hs.next.1 (by have := hs.next.2; omega) _ ?_; (conv => whnf); (repeat (refine step_go [] ?_; conv => whnf))
        (repeat (refine And.intro rfl ?_; conv => whnf))
        refine c_sdate s.nday _ ?_; (conv => whnf); (repeat (refine step_go [] ?_; conv => whnf))
        (repeat (refine And.intro rfl ?_; conv => whnf))
        refine c_lineL (C s.dues.length) _ wNext [dgi s.next, dateT s.nday] (by simp) (by simp) (by omega) (by omega) _ _ fun sp2 => ?_; (conv => whnf); (repeat (refine step_go [] ?_; conv => whnf))
        (repeat (refine And.intro rfl ?_; conv => whnf))
        have hT : C s.dues.length ++ lineS [wNext, dgi s.next, dateT s.nday] = textS s := by rw [hCe, textS, nextS, if_neg g2]
        rw [hT]
        have hTl : 0 < (textS s).length ∧ (textS s).length ≤ 100000 := by rw [← hT, List.length_append]; omega
        refine c_str (.inr rfl) _ (toBA (textS s)) sp2 (by rw [sz_toBA]; omega) (by rw [sz_toBA]; omega) _ ?_; (conv => whnf); (repeat (refine step_go [] ?_; conv => whnf))
        exact ⟨_, _, weak_of (.cons (.eq rfl) .nil) .nil rfl rfl rfl, h⟩
      · have g2 : s.next = 0 := by simpa using g2
        have hT : C s.dues.length = textS s := by rw [hCe, textS, nextS, if_pos g2, List.append_nil]
        have hTl : 0 < (textS s).length ∧ (textS s).length ≤ 100000 := by rw [← hT]; omega
        (conv => whnf); (repeat (refine step_go [] ?_; conv => whnf))
        refine c_str (.inr rfl) _ (toBA (C s.dues.length)) sp (by rw [sz_toBA]; omega) (by rw [sz_toBA]; omega) _ ?_; (conv => whnf); (repeat (refine step_go [] ?_; conv => whnf))
        rw [hT]
        exact ⟨_, _, weak_of (.cons (.eq rfl) .nil) .nil rfl rfl rfl, h⟩
  · rw [hc, ho]
    (conv => whnf); (repeat (refine step_go [] ?_; conv => whnf))
    have hW : (⟨#[111, 112, 101, 110]⟩ : ByteArray) = toBA (howS s) := by rw [hw]; rfl
    rw [hW]
    clear hW hw
    refine c_sdate s.day _ ?_; (conv => whnf); (repeat (refine step_go [] ?_; conv => whnf))
    refine c_lineL0 (dateT s.day) [howS s] (by simp) (by simp) (by simp [lineS]; omega) _ fun sp0 => ?_; (conv => whnf); (repeat (refine step_go [] ?_; conv => whnf))
    refine c_money s.pri hs.pri _ ?_; (conv => whnf); (repeat (refine step_go [] ?_; conv => whnf))
    refine c_lineL (lineS [dateT s.day, howS s]) _ wPrincipal [moneyS s.pri] (by simp) (by simp) (by simp [lineS, wPrincipal]; omega) (by simp [lineS, wPrincipal, wAccrued, wInterest, wDue, wPenalty, wFees, wUnapplied]; omega) _ _ fun sp1 => ?_; (conv => whnf); (repeat (refine step_go [] ?_; conv => whnf))
    refine c_money s.acc hs.acc _ ?_; (conv => whnf); (repeat (refine step_go [] ?_; conv => whnf))
    refine c_lineL (lineS [dateT s.day, howS s] ++ lineS [wPrincipal, moneyS s.pri]) _ wAccrued [moneyS s.acc] (by simp) (by simp) (by simp [lineS, wAccrued]; omega) (by simp [lineS, wPrincipal, wAccrued, wInterest, wDue, wPenalty, wFees, wUnapplied]; omega) _ _ fun sp1 => ?_; (conv => whnf); (repeat (refine step_go [] ?_; conv => whnf))
    refine c_money s.int hs.int _ ?_; (conv => whnf); (repeat (refine step_go [] ?_; conv => whnf))
    refine c_lineL (lineS [dateT s.day, howS s] ++ lineS [wPrincipal, moneyS s.pri] ++ lineS [wAccrued, moneyS s.acc]) _ wInterest [moneyS s.int] (by simp) (by simp) (by simp [lineS, wInterest]; omega) (by simp [lineS, wPrincipal, wAccrued, wInterest, wDue, wPenalty, wFees, wUnapplied]; omega) _ _ fun sp1 => ?_; (conv => whnf); (repeat (refine step_go [] ?_; conv => whnf))
    refine c_money s.due hs.due _ ?_; (conv => whnf); (repeat (refine step_go [] ?_; conv => whnf))
    refine c_lineL (lineS [dateT s.day, howS s] ++ lineS [wPrincipal, moneyS s.pri] ++ lineS [wAccrued, moneyS s.acc] ++ lineS [wInterest, moneyS s.int]) _ wDue [moneyS s.due] (by simp) (by simp) (by simp [lineS, wDue]; omega) (by simp [lineS, wPrincipal, wAccrued, wInterest, wDue, wPenalty, wFees, wUnapplied]; omega) _ _ fun sp1 => ?_; (conv => whnf); (repeat (refine step_go [] ?_; conv => whnf))
    refine c_money s.pen hs.pen _ ?_; (conv => whnf); (repeat (refine step_go [] ?_; conv => whnf))
    refine c_lineL (lineS [dateT s.day, howS s] ++ lineS [wPrincipal, moneyS s.pri] ++ lineS [wAccrued, moneyS s.acc] ++ lineS [wInterest, moneyS s.int] ++ lineS [wDue, moneyS s.due]) _ wPenalty [moneyS s.pen] (by simp) (by simp) (by simp [lineS, wPenalty]; omega) (by simp [lineS, wPrincipal, wAccrued, wInterest, wDue, wPenalty, wFees, wUnapplied]; omega) _ _ fun sp1 => ?_; (conv => whnf); (repeat (refine step_go [] ?_; conv => whnf))
    refine c_money s.fee hs.fee _ ?_; (conv => whnf); (repeat (refine step_go [] ?_; conv => whnf))
    refine c_lineL (lineS [dateT s.day, howS s] ++ lineS [wPrincipal, moneyS s.pri] ++ lineS [wAccrued, moneyS s.acc] ++ lineS [wInterest, moneyS s.int] ++ lineS [wDue, moneyS s.due] ++ lineS [wPenalty, moneyS s.pen]) _ wFees [moneyS s.fee] (by simp) (by simp) (by simp [lineS, wFees]; omega) (by simp [lineS, wPrincipal, wAccrued, wInterest, wDue, wPenalty, wFees, wUnapplied]; omega) _ _ fun sp1 => ?_; (conv => whnf); (repeat (refine step_go [] ?_; conv => whnf))
    refine c_money s.una hs.una _ ?_; (conv => whnf); (repeat (refine step_go [] ?_; conv => whnf))
    refine c_lineL (lineS [dateT s.day, howS s] ++ lineS [wPrincipal, moneyS s.pri] ++ lineS [wAccrued, moneyS s.acc] ++ lineS [wInterest, moneyS s.int] ++ lineS [wDue, moneyS s.due] ++ lineS [wPenalty, moneyS s.pen] ++ lineS [wFees, moneyS s.fee]) _ wUnapplied [moneyS s.una] (by simp) (by simp) (by simp [lineS, wUnapplied]; omega) (by simp [lineS, wPrincipal, wAccrued, wInterest, wDue, wPenalty, wFees, wUnapplied]; omega) _ _ fun sp1 => ?_; (conv => whnf); (repeat (refine step_go [] ?_; conv => whnf))
    rw [show lineS [dateT s.day, howS s] ++ lineS [wPrincipal, moneyS s.pri] ++ lineS [wAccrued, moneyS s.acc] ++ lineS [wInterest, moneyS s.int] ++ lineS [wDue, moneyS s.due] ++ lineS [wPenalty, moneyS s.pen] ++ lineS [wFees, moneyS s.fee] ++ lineS [wUnapplied, moneyS s.una] = headS s from rfl]
    have hhd : (headS s).length ≤ 2000 := by
      simp [headS, lineS, wPrincipal, wAccrued, wInterest, wDue, wPenalty, wFees, wUnapplied]; omega
    let C : Nat → List Int := fun i => headS s ++ (s.dues.take i).flatMap dueS
    let OB : List Int → List V → List VObj := fun c sp => [.cells true 24 [.int .i64 s.day, .bool s.opn, .bool s.cls, .int .i64 s.pri, .int .i64 s.acc, .int .i64 s.int, .int .i64 s.due, .int .i64 s.pen, .int .i64 s.fee, .int .i64 s.una, .sl D .no, .int .i64 s.next, .int .i64 s.nday],
      .cells true TW [.ptr 1 0, .slo 2 1 0 (toBA c).size ((toBA c).size + sp.length)], .buf true 1 (bytesV (toBA c) ++ sp) (some 5)]
    let S : Nat × List V → St := fun x => ⟨(.undef :: .ptr 0 0 :: .str ⟨#[]⟩ :: .ptr 1 0 :: .fn (.func 25) [.ptr 1 0] [] :: .undef :: .undef :: .undef :: .undef :: .undef :: .undef :: .undef :: .undef :: .undef :: .undef :: .undef :: .undef :: .undef :: .undef :: .undef :: .undef :: .undef :: .undef :: .undef :: .undef :: .undef :: .undef :: .undef :: .undef :: .undef :: .undef :: .undef :: .undef :: .undef :: .undef :: .undef :: .undef :: .undef :: .undef :: .undef :: .undef :: .undef :: .undef :: .undef :: .undef :: .undef :: .undef :: .undef :: .undef :: .undef :: .undef :: .undef :: .undef :: .undef :: .undef :: .undef :: .undef :: .undef :: .undef :: .undef :: .undef :: .undef :: .undef :: .undef :: .undef :: .undef :: .undef :: .undef :: .sl D .no :: .int .i64 (D.length : Nat) :: .int .i64 (x.1 : Nat) :: .undef :: .undef :: .undef :: .undef :: .undef :: .undef :: .undef :: .undef :: .undef :: .undef :: .undef :: .undef :: .undef :: .undef :: .undef :: .undef :: .undef :: .undef :: .undef :: .undef :: .undef :: .undef :: .undef :: .undef :: .undef :: .undef :: .undef :: .undef :: .undef :: .undef :: .undef :: .undef :: .undef :: .undef :: .undef :: []), OB (C x.1) x.2, 0, []⟩
    have hlD : D.length = s.dues.length := by rw [← hD]; simp [dL]
    refine VLoop.enter (s' := S (0, sp1)) (weak_of ?_ (.cons (.eq ?_) (.cons (.eq ?_) (.cons (.eq ?_) .nil))) rfl rfl rfl)
      (VLoop.indW S (fun x => s.dues.length - x.1) (fun x => x.1 ≤ s.dues.length ∧ (C x.1).length ≤ 2000 + 300 * x.1) ?_ (0, sp1) ⟨by omega, by simp [C]; omega⟩)
    · (repeat' first | exact VWs.nil | refine VWs.cons VW.undef ?_ | refine VWs.cons (VW.eq rfl) ?_)
    · rw [hc, ho]
    · show _ = VObj.cells true TW [.ptr 1 0, .slo 2 1 0 (toBA (headS s ++ [])).size ((toBA (headS s ++ [])).size + sp1.length)]
      rw [List.append_nil]
    · show _ = VObj.buf true 1 (bytesV (toBA (headS s ++ [])) ++ sp1) (some 5)
      rw [List.append_nil]
    rintro ⟨i, sp⟩ ⟨hi, hcl⟩ ih
    simp only at hi hcl
    have h60 := hs.len
    refine loop_round [] ?_; (conv => whnf); (repeat (refine step_go [] ?_; conv => whnf))
    refine two (fun g => ?_) (fun g => ?_)
    · have hil : i < s.dues.length := by have := of_decide_eq_true g; simp only at this; omega
      have hx : s.dues[i]? = some s.dues[i] := List.getElem?_eq_getElem hil
      have htk : s.dues.take (i + 1) = s.dues.take i ++ [s.dues[i]] := List.take_succ_eq_append_getElem hil
      obtain ⟨x, hxx⟩ : ∃ x, s.dues[i] = x := ⟨_, rfl⟩
      rw [hxx] at hx htk
      have hxo : x.ok := hs.dues x (List.mem_of_getElem? hx)
      have hget : D[((i : Nat) : Int).toNat]? = some (encD x) := by rw [Int.toNat_natCast, ← hD]; simp [dL, hx]
      have hC : C (i + 1) = C i ++ dueS x := by simp only [C]; rw [htk]; simp
      have n1 := money_len x.int hxo.2.2.1
      have n2 := money_len x.pri hxo.2.2.2
      have n3 := dateT_len x.day
      have n4 : (dgi x.n).length ≤ 21 := dgi_len hxo.1
      have n5 : (dueS x).length ≤ 150 := by simp [dueS, lineS, wInstalment]; omega
      (conv => whnf); (repeat (refine step_go [] ?_; conv => whnf))
      refine ⟨by omega, _, hget, rfl, ?_⟩; (conv => whnf); (repeat (refine step_go [] ?_; conv => whnf))
      (refine ⟨by decide +kernel, ?_⟩; conv => whnf)
      (repeat (refine And.intro rfl ?_; conv => whnf))
      refine c_itoa x.n hxo.1.1 (by have := hxo.1.2; omega) _ ?_; (conv => whnf); (repeat (refine step_go [] ?_; conv => whnf))
      (repeat (refine And.intro rfl ?_; conv => whnf))
      refine c_sdate x.day _ ?_; (conv => whnf); (repeat (refine step_go [] ?_; conv => whnf))
      (repeat (refine And.intro rfl ?_; conv => whnf))
      refine c_money x.int hxo.2.2.1 _ ?_; (conv => whnf); (repeat (refine step_go [] ?_; conv => whnf))
      (repeat (refine And.intro rfl ?_; conv => whnf))
      refine c_money x.pri hxo.2.2.2 _ ?_; (conv => whnf); (repeat (refine step_go [] ?_; conv => whnf))
      (repeat (refine And.intro rfl ?_; conv => whnf))
      refine c_lineL (C i) _ wInstalment [dgi x.n, dateT x.day, moneyS x.int, moneyS x.pri] (by simp) (by simp) (by unfold dueS at n5; omega) (by omega) _ _ fun sp2 => ?_; (conv => whnf); (repeat (refine step_go [] ?_; conv => whnf))
      (repeat (refine And.intro rfl ?_; conv => whnf))
      refine ⟨S (i + 1, sp2), weak_of ?_ (.cons (.eq rfl) (.cons (.eq ?_) (.cons ?_ .nil))) rfl rfl rfl, ih (i + 1, sp2) ⟨by simp only; omega, by simp only; rw [hC, List.length_append]; omega⟩ (by simp only; omega)⟩
      · repeat' first
          | exact VWs.nil
          | refine VWs.cons VW.undef ?_
          | refine VWs.cons (VW.eq rfl) ?_
          | refine VWs.cons (VW.eq (congrArg (V.int .i64) (by simp only; rw [wrap64 (by omega) (by omega)]; omega))) ?_
      · show _ = VObj.cells true TW [.ptr 1 0, .slo 2 1 0 (toBA (C (i + 1))).size ((toBA (C (i + 1))).size + sp2.length)]
        rw [hC]; rfl
      · first
          | (show OW _ (VObj.buf true 1 (bytesV (toBA (C (i + 1))) ++ sp2) (some 5)); rw [hC]; exact .eq rfl)
          | (show OW _ (VObj.buf true 1 (bytesV (toBA (C (i + 1))) ++ sp2) (some 5)); rw [hC]; exact .moved)
    · have hil : i = s.dues.length := by have := of_decide_eq_false g; simp only at this; omega
      subst hil
      have hCe : C s.dues.length = headS s ++ s.dues.flatMap dueS := by simp only [C, List.take_length]
      have k1 := dateT_len s.nday
      have k2 : (dgi s.next).length ≤ 21 := dgi_len hs.next
      have hpos : 0 < (headS s).length := by simp [headS, lineS, wPrincipal]; omega
      have hpc : 0 < (C s.dues.length).length := by rw [hCe, List.length_append]; omega
      have n6 : (lineS [wNext, dgi s.next, dateT s.nday]).length ≤ 60 := by simp [lineS, wNext]; omega
      refine ⟨_, Weak.refl, ?_⟩; (conv => whnf); (repeat (refine step_go [] ?_; conv => whnf))
      refine two (fun g2 => ?_) (fun g2 => ?_)
      · have g2 : s.next ≠ 0 := by simpa using g2
        (conv => whnf); (repeat (refine step_go [] ?_; conv => whnf))
        (refine ⟨by decide +kernel, ?_⟩; conv => whnf)
        (repeat (refine And.intro rfl ?_; conv => whnf))
        refine c_itoa s.next hs.next.1 (by have := hs.next.2; omega) _ ?_; (conv => whnf); (repeat (refine step_go [] ?_; conv => whnf))
        (repeat (refine And.intro rfl ?_; conv => whnf))
        refine c_sdate s.nday _ ?_; (conv => whnf); (repeat (refine step_go [] ?_; conv => whnf))
        (repeat (refine And.intro rfl ?_; conv => whnf))
        refine c_lineL (C s.dues.length) _ wNext [dgi s.next, dateT s.nday] (by simp) (by simp) (by omega) (by omega) _ _ fun sp2 => ?_; (conv => whnf); (repeat (refine step_go [] ?_; conv => whnf))
        (repeat (refine And.intro rfl ?_; conv => whnf))
        have hT : C s.dues.length ++ lineS [wNext, dgi s.next, dateT s.nday] = textS s := by rw [hCe, textS, nextS, if_neg g2]
        rw [hT]
        have hTl : 0 < (textS s).length ∧ (textS s).length ≤ 100000 := by rw [← hT, List.length_append]; omega
        refine c_str (.inr rfl) _ (toBA (textS s)) sp2 (by rw [sz_toBA]; omega) (by rw [sz_toBA]; omega) _ ?_; (conv => whnf); (repeat (refine step_go [] ?_; conv => whnf))
        exact ⟨_, _, weak_of (.cons (.eq rfl) .nil) .nil rfl rfl rfl, h⟩
      · have g2 : s.next = 0 := by simpa using g2
        have hT : C s.dues.length = textS s := by rw [hCe, textS, nextS, if_pos g2, List.append_nil]
        have hTl : 0 < (textS s).length ∧ (textS s).length ≤ 100000 := by rw [← hT]; omega
        (conv => whnf); (repeat (refine step_go [] ?_; conv => whnf))
        refine c_str (.inr rfl) _ (toBA (C s.dues.length)) sp (by rw [sz_toBA]; omega) (by rw [sz_toBA]; omega) _ ?_; (conv => whnf); (repeat (refine step_go [] ?_; conv => whnf))
        rw [hT]
        exact ⟨_, _, weak_of (.cons (.eq rfl) .nil) .nil rfl rfl rfl, h⟩
  · rw [hc, ho]
    (conv => whnf); (repeat (refine step_go [] ?_; conv => whnf))
    have hW : (⟨#[110, 111, 110, 101]⟩ : ByteArray) = toBA (howS s) := by rw [hw]; rfl
    rw [hW]
    clear hW hw
    refine c_sdate s.day _ ?_; (conv => whnf); (repeat (refine step_go [] ?_; conv => whnf))
    refine c_lineL0 (dateT s.day) [howS s] (by simp) (by simp) (by simp [lineS]; omega) _ fun sp0 => ?_; (conv => whnf); (repeat (refine step_go [] ?_; conv => whnf))
    refine c_money s.pri hs.pri _ ?_; (conv => whnf); (repeat (refine step_go [] ?_; conv => whnf))
    refine c_lineL (lineS [dateT s.day, howS s]) _ wPrincipal [moneyS s.pri] (by simp) (by simp) (by simp [lineS, wPrincipal]; omega) (by simp [lineS, wPrincipal, wAccrued, wInterest, wDue, wPenalty, wFees, wUnapplied]; omega) _ _ fun sp1 => ?_; (conv => whnf); (repeat (refine step_go [] ?_; conv => whnf))
    refine c_money s.acc hs.acc _ ?_; (conv => whnf); (repeat (refine step_go [] ?_; conv => whnf))
    refine c_lineL (lineS [dateT s.day, howS s] ++ lineS [wPrincipal, moneyS s.pri]) _ wAccrued [moneyS s.acc] (by simp) (by simp) (by simp [lineS, wAccrued]; omega) (by simp [lineS, wPrincipal, wAccrued, wInterest, wDue, wPenalty, wFees, wUnapplied]; omega) _ _ fun sp1 => ?_; (conv => whnf); (repeat (refine step_go [] ?_; conv => whnf))
    refine c_money s.int hs.int _ ?_; (conv => whnf); (repeat (refine step_go [] ?_; conv => whnf))
    refine c_lineL (lineS [dateT s.day, howS s] ++ lineS [wPrincipal, moneyS s.pri] ++ lineS [wAccrued, moneyS s.acc]) _ wInterest [moneyS s.int] (by simp) (by simp) (by simp [lineS, wInterest]; omega) (by simp [lineS, wPrincipal, wAccrued, wInterest, wDue, wPenalty, wFees, wUnapplied]; omega) _ _ fun sp1 => ?_; (conv => whnf); (repeat (refine step_go [] ?_; conv => whnf))
    refine c_money s.due hs.due _ ?_; (conv => whnf); (repeat (refine step_go [] ?_; conv => whnf))
    refine c_lineL (lineS [dateT s.day, howS s] ++ lineS [wPrincipal, moneyS s.pri] ++ lineS [wAccrued, moneyS s.acc] ++ lineS [wInterest, moneyS s.int]) _ wDue [moneyS s.due] (by simp) (by simp) (by simp [lineS, wDue]; omega) (by simp [lineS, wPrincipal, wAccrued, wInterest, wDue, wPenalty, wFees, wUnapplied]; omega) _ _ fun sp1 => ?_; (conv => whnf); (repeat (refine step_go [] ?_; conv => whnf))
    refine c_money s.pen hs.pen _ ?_; (conv => whnf); (repeat (refine step_go [] ?_; conv => whnf))
    refine c_lineL (lineS [dateT s.day, howS s] ++ lineS [wPrincipal, moneyS s.pri] ++ lineS [wAccrued, moneyS s.acc] ++ lineS [wInterest, moneyS s.int] ++ lineS [wDue, moneyS s.due]) _ wPenalty [moneyS s.pen] (by simp) (by simp) (by simp [lineS, wPenalty]; omega) (by simp [lineS, wPrincipal, wAccrued, wInterest, wDue, wPenalty, wFees, wUnapplied]; omega) _ _ fun sp1 => ?_; (conv => whnf); (repeat (refine step_go [] ?_; conv => whnf))
    refine c_money s.fee hs.fee _ ?_; (conv => whnf); (repeat (refine step_go [] ?_; conv => whnf))
    refine c_lineL (lineS [dateT s.day, howS s] ++ lineS [wPrincipal, moneyS s.pri] ++ lineS [wAccrued, moneyS s.acc] ++ lineS [wInterest, moneyS s.int] ++ lineS [wDue, moneyS s.due] ++ lineS [wPenalty, moneyS s.pen]) _ wFees [moneyS s.fee] (by simp) (by simp) (by simp [lineS, wFees]; omega) (by simp [lineS, wPrincipal, wAccrued, wInterest, wDue, wPenalty, wFees, wUnapplied]; omega) _ _ fun sp1 => ?_; (conv => whnf); (repeat (refine step_go [] ?_; conv => whnf))
    refine c_money s.una hs.una _ ?_; (conv => whnf); (repeat (refine step_go [] ?_; conv => whnf))
    refine c_lineL (lineS [dateT s.day, howS s] ++ lineS [wPrincipal, moneyS s.pri] ++ lineS [wAccrued, moneyS s.acc] ++ lineS [wInterest, moneyS s.int] ++ lineS [wDue, moneyS s.due] ++ lineS [wPenalty, moneyS s.pen] ++ lineS [wFees, moneyS s.fee]) _ wUnapplied [moneyS s.una] (by simp) (by simp) (by simp [lineS, wUnapplied]; omega) (by simp [lineS, wPrincipal, wAccrued, wInterest, wDue, wPenalty, wFees, wUnapplied]; omega) _ _ fun sp1 => ?_; (conv => whnf); (repeat (refine step_go [] ?_; conv => whnf))
    rw [show lineS [dateT s.day, howS s] ++ lineS [wPrincipal, moneyS s.pri] ++ lineS [wAccrued, moneyS s.acc] ++ lineS [wInterest, moneyS s.int] ++ lineS [wDue, moneyS s.due] ++ lineS [wPenalty, moneyS s.pen] ++ lineS [wFees, moneyS s.fee] ++ lineS [wUnapplied, moneyS s.una] = headS s from rfl]
    have hhd : (headS s).length ≤ 2000 := by
      simp [headS, lineS, wPrincipal, wAccrued, wInterest, wDue, wPenalty, wFees, wUnapplied]; omega
    let C : Nat → List Int := fun i => headS s ++ (s.dues.take i).flatMap dueS
    let OB : List Int → List V → List VObj := fun c sp => [.cells true 24 [.int .i64 s.day, .bool s.opn, .bool s.cls, .int .i64 s.pri, .int .i64 s.acc, .int .i64 s.int, .int .i64 s.due, .int .i64 s.pen, .int .i64 s.fee, .int .i64 s.una, .sl D .no, .int .i64 s.next, .int .i64 s.nday],
      .cells true TW [.ptr 1 0, .slo 2 1 0 (toBA c).size ((toBA c).size + sp.length)], .buf true 1 (bytesV (toBA c) ++ sp) (some 5)]
    let S : Nat × List V → St := fun x => ⟨(.undef :: .ptr 0 0 :: .str ⟨#[]⟩ :: .ptr 1 0 :: .fn (.func 25) [.ptr 1 0] [] :: .undef :: .undef :: .undef :: .undef :: .undef :: .undef :: .undef :: .undef :: .undef :: .undef :: .undef :: .undef :: .undef :: .undef :: .undef :: .undef :: .undef :: .undef :: .undef :: .undef :: .undef :: .undef :: .undef :: .undef :: .undef :: .undef :: .undef :: .undef :: .undef :: .undef :: .undef :: .undef :: .undef :: .undef :: .undef :: .undef :: .undef :: .undef :: .undef :: .undef :: .undef :: .undef :: .undef :: .undef :: .undef :: .undef :: .undef :: .undef :: .undef :: .undef :: .undef :: .undef :: .undef :: .undef :: .undef :: .undef :: .undef :: .undef :: .undef :: .undef :: .undef :: .undef :: .undef :: .sl D .no :: .int .i64 (D.length : Nat) :: .int .i64 (x.1 : Nat) :: .undef :: .undef :: .undef :: .undef :: .undef :: .undef :: .undef :: .undef :: .undef :: .undef :: .undef :: .undef :: .undef :: .undef :: .undef :: .undef :: .undef :: .undef :: .undef :: .undef :: .undef :: .undef :: .undef :: .undef :: .undef :: .undef :: .undef :: .undef :: .undef :: .undef :: .undef :: .undef :: .undef :: .undef :: .undef :: []), OB (C x.1) x.2, 0, []⟩
    have hlD : D.length = s.dues.length := by rw [← hD]; simp [dL]
    refine VLoop.enter (s' := S (0, sp1)) (weak_of ?_ (.cons (.eq ?_) (.cons (.eq ?_) (.cons (.eq ?_) .nil))) rfl rfl rfl)
      (VLoop.indW S (fun x => s.dues.length - x.1) (fun x => x.1 ≤ s.dues.length ∧ (C x.1).length ≤ 2000 + 300 * x.1) ?_ (0, sp1) ⟨by omega, by simp [C]; omega⟩)
    · (repeat' first | exact VWs.nil | refine VWs.cons VW.undef ?_ | refine VWs.cons (VW.eq rfl) ?_)
    · rw [hc, ho]
    · show _ = VObj.cells true TW [.ptr 1 0, .slo 2 1 0 (toBA (headS s ++ [])).size ((toBA (headS s ++ [])).size + sp1.length)]
      rw [List.append_nil]
    · show _ = VObj.buf true 1 (bytesV (toBA (headS s ++ [])) ++ sp1) (some 5)
      rw [List.append_nil]
    rintro ⟨i, sp⟩ ⟨hi, hcl⟩ ih
    simp only at hi hcl
    have h60 := hs.len
    refine loop_round [] ?_; (conv => whnf); (repeat (refine step_go [] ?_; conv => whnf))
    refine two (fun g => ?_) (fun g => ?_)
    · have hil : i < s.dues.length := by have := of_decide_eq_true g; simp only at this; omega
      have hx : s.dues[i]? = some s.dues[i] := List.getElem?_eq_getElem hil
      have htk : s.dues.take (i + 1) = s.dues.take i ++ [s.dues[i]] := List.take_succ_eq_append_getElem hil
      obtain ⟨x, hxx⟩ : ∃ x, s.dues[i] = x := ⟨_, rfl⟩
      rw [hxx] at hx htk
      have hxo : x.ok := hs.dues x (List.mem_of_getElem? hx)
      have hget : D[((i : Nat) : Int).toNat]? = some (encD x) := by rw [Int.toNat_natCast, ← hD]; simp [dL, hx]
      have hC : C (i + 1) = C i ++ dueS x := by simp only [C]; rw [htk]; simp
      have n1 := money_len x.int hxo.2.2.1
      have n2 := money_len x.pri hxo.2.2.2
      have n3 := dateT_len x.day
      have n4 : (dgi x.n).length ≤ 21 := dgi_len hxo.1
      have n5 : (dueS x).length ≤ 150 := by simp [dueS, lineS, wInstalment]; omega
      (conv => whnf); (repeat (refine step_go [] ?_; conv => whnf))
      refine ⟨by omega, _, hget, rfl, ?_⟩; (conv => whnf); (repeat (refine step_go [] ?_; conv => whnf))
      (refine ⟨by decide +kernel, ?_⟩; conv => whnf)
      (repeat (refine And.intro rfl ?_; conv => whnf))
      refine c_itoa x.n hxo.1.1 (by have := hxo.1.2; omega) _ ?_; (conv => whnf); (repeat (refine step_go [] ?_; conv => whnf))
      (repeat (refine And.intro rfl ?_; conv => whnf))
      refine c_sdate x.day _ ?_; (conv => whnf); (repeat (refine step_go [] ?_; conv => whnf))
      (repeat (refine And.intro rfl ?_; conv => whnf))
      refine c_money x.int hxo.2.2.1 _ ?_; (conv => whnf); (repeat (refine step_go [] ?_; conv => whnf))
      (repeat (refine And.intro rfl ?_; conv => whnf))
      refine c_money x.pri hxo.2.2.2 _ ?_; (conv => whnf); (repeat (refine step_go [] ?_; conv => whnf))
      (repeat (refine And.intro rfl ?_; conv => whnf))
      refine c_lineL (C i) _ wInstalment [dgi x.n, dateT x.day, moneyS x.int, moneyS x.pri] (by simp) (by simp) (by unfold dueS at n5; omega) (by omega) _ _ fun sp2 => ?_; (conv => whnf); (repeat (refine step_go [] ?_; conv => whnf))
      (repeat (refine And.intro rfl ?_; conv => whnf))
      refine ⟨S (i + 1, sp2), weak_of ?_ (.cons (.eq rfl) (.cons (.eq ?_) (.cons ?_ .nil))) rfl rfl rfl, ih (i + 1, sp2) ⟨by simp only; omega, by simp only; rw [hC, List.length_append]; omega⟩ (by simp only; omega)⟩
      · repeat' first
          | exact VWs.nil
          | refine VWs.cons VW.undef ?_
          | refine VWs.cons (VW.eq rfl) ?_
          | refine VWs.cons (VW.eq (congrArg (V.int .i64) (by simp only; rw [wrap64 (by omega) (by omega)]; omega))) ?_
      · show _ = VObj.cells true TW [.ptr 1 0, .slo 2 1 0 (toBA (C (i + 1))).size ((toBA (C (i + 1))).size + sp2.length)]
        rw [hC]; rfl
      · first
          | (show OW _ (VObj.buf true 1 (bytesV (toBA (C (i + 1))) ++ sp2) (some 5)); rw [hC]; exact .eq rfl)
          | (show OW _ (VObj.buf true 1 (bytesV (toBA (C (i + 1))) ++ sp2) (some 5)); rw [hC]; exact .moved)
    · have hil : i = s.dues.length := by have := of_decide_eq_false g; simp only at this; omega
      subst hil
      have hCe : C s.dues.length = headS s ++ s.dues.flatMap dueS := by simp only [C, List.take_length]
      have k1 := dateT_len s.nday
      have k2 : (dgi s.next).length ≤ 21 := dgi_len hs.next
      have hpos : 0 < (headS s).length := by simp [headS, lineS, wPrincipal]; omega
      have hpc : 0 < (C s.dues.length).length := by rw [hCe, List.length_append]; omega
      have n6 : (lineS [wNext, dgi s.next, dateT s.nday]).length ≤ 60 := by simp [lineS, wNext]; omega
      refine ⟨_, Weak.refl, ?_⟩; (conv => whnf); (repeat (refine step_go [] ?_; conv => whnf))
      refine two (fun g2 => ?_) (fun g2 => ?_)
      · have g2 : s.next ≠ 0 := by simpa using g2
        (conv => whnf); (repeat (refine step_go [] ?_; conv => whnf))
        (refine ⟨by decide +kernel, ?_⟩; conv => whnf)
        (repeat (refine And.intro rfl ?_; conv => whnf))
        refine c_itoa s.next hs.next.1 (by have := hs.next.2; omega) _ ?_; (conv => whnf); (repeat (refine step_go [] ?_; conv => whnf))
        (repeat (refine And.intro rfl ?_; conv => whnf))
        refine c_sdate s.nday _ ?_; (conv => whnf); (repeat (refine step_go [] ?_; conv => whnf))
        (repeat (refine And.intro rfl ?_; conv => whnf))
        refine c_lineL (C s.dues.length) _ wNext [dgi s.next, dateT s.nday] (by simp) (by simp) (by omega) (by omega) _ _ fun sp2 => ?_; (conv => whnf); (repeat (refine step_go [] ?_; conv => whnf))
        (repeat (refine And.intro rfl ?_; conv => whnf))
        have hT : C s.dues.length ++ lineS [wNext, dgi s.next, dateT s.nday] = textS s := by rw [hCe, textS, nextS, if_neg g2]
        rw [hT]
        have hTl : 0 < (textS s).length ∧ (textS s).length ≤ 100000 := by rw [← hT, List.length_append]; omega
        refine c_str (.inr rfl) _ (toBA (textS s)) sp2 (by rw [sz_toBA]; omega) (by rw [sz_toBA]; omega) _ ?_; (conv => whnf); (repeat (refine step_go [] ?_; conv => whnf))
        exact ⟨_, _, weak_of (.cons (.eq rfl) .nil) .nil rfl rfl rfl, h⟩
      · have g2 : s.next = 0 := by simpa using g2
        have hT : C s.dues.length = textS s := by rw [hCe, textS, nextS, if_pos g2, List.append_nil]
        have hTl : 0 < (textS s).length ∧ (textS s).length ≤ 100000 := by rw [← hT]; omega
        (conv => whnf); (repeat (refine step_go [] ?_; conv => whnf))
        refine c_str (.inr rfl) _ (toBA (C s.dues.length)) sp (by rw [sz_toBA]; omega) (by rw [sz_toBA]; omega) _ ?_; (conv => whnf); (repeat (refine step_go [] ?_; conv => whnf))
        rw [hT]
        exact ⟨_, _, weak_of (.cons (.eq rfl) .nil) .nil rfl rfl rfl, h⟩
end BB10
