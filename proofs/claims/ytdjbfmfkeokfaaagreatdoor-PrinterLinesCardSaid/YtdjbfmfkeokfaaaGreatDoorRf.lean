/- Part Rf of the proof: BP2 BP3 BP4 BP5 PL1 BW1 BW2 BW3 BW4 PA1 PA2 PA4 PA5 LBP. -/
import Derived.Test.YtdjbfmfkeokfaaaGreatDoorRe
import Derived.Test.YtdjbfmfkeokfaaaGreatDoorRd
import Derived.Test.YtdjbfmfkeokfaaaGreatDoorRc
import Derived.Test.YtdjbfmfkeokfaaaGreatDoorRows
import Derived.Test.YtdjbfmfkeokfaaaGreatDoorTie
import Derived.Test.YtdjbfmfkeokfaaaGreatDoorCards
import Derived.Lib.LaidTab
import Derived.LaidLaws
import Derived.LaidHandle
import Derived.SevenTiedAt
import Derived.HandedShaped
import Derived.Shelf.Vars
set_option linter.unusedVariables false
set_option linter.unusedSimpArgs false
set_option maxRecDepth 100000
namespace BP2
open Go Go.Proofs VL D1 B10 B12 B13 BB1 BB2 BB4 BB5 BB8 BB9 C1 C2 C4 BP1 P1
def lnB (x : ByteArray) : ByteArray := ⟨#[32, 32]⟩ ++ x ++ ⟨#[59, 10]⟩
theorem lnB_s (x : ByteArray) : sB (lnB x) = lnS (sB x) := by unfold lnB lnS; rw [sB_app, sB_app]; rfl
theorem lnB_z (x : ByteArray) : (lnB x).size = x.size + 4 := by
 unfold lnB; rw [ByteArray.size_append, ByteArray.size_append]
 have h1 : (⟨#[32, 32]⟩ : ByteArray).size = 2 := rfl
 have h2 : (⟨#[59, 10]⟩ : ByteArray).size = 2 := rfl
 omega
set_option maxHeartbeats 1000000 in
theorem c_plineN (p : Prod) {mv : Bool} (s : ByteArray) (sp : List V) (w : ByteArray) (l : List ByteArray) (h1 : 1 <= l.length) (h9 : l.length <= 9) (hj : (joinB (w :: l)).size <= 100000) (hs : s.size <= 1000000) (K)
 (h : ∀ t sp', sB t = sB s ++ lnS (sB (joinB (w :: l))) -> t.size = s.size + (joinB (w :: l)).size + 4 -> K (.ret (.tup [])) (oS p true t sp')) :
 VCall Tryz.prog 56 [.ptr 0 0, .sl ((w :: l).map V.str) .no] (oS p mv s sp) K := by
 obtain ⟨L, hL⟩ : ∃ L, (w :: l).map V.str = L := ⟨_, rfl⟩
 rw [hL]
 have hws : s.size + (lnB (joinB (w :: l))).size <= 140737488355328 := by rw [lnB_z]; omega
 have hwp := fun mv' => c_wsP p mv' s sp (lnB (joinB (w :: l))) hws
 unfold oS at hwp ⊢
 cases mv
 all_goals
  refine call_fun [] 2 Tryz.func56 (by rfl) (by rfl) ?_; (conv=>whnf); (repeat (refine step_go [] ?_;conv=>whnf))
  (refine ⟨by decide +kernel, ?_⟩;conv=>whnf)
  (repeat (refine And.intro rfl ?_;conv=>whnf))
  rw [← hL]
  refine c_join w l h1 h9 (by omega) _ ?_; (conv=>whnf); (repeat (refine step_go [] ?_;conv=>whnf))
  (repeat (refine And.intro rfl ?_;conv=>whnf))
  refine ⟨str_leN (by have : (⟨#[32, 32]⟩ : ByteArray).size = 2 := rfl; omega), ?_⟩; (conv=>whnf); (repeat (refine step_go [] ?_;conv=>whnf))
  (repeat (refine And.intro rfl ?_;conv=>whnf))
  refine ⟨str_leN (by rw [ByteArray.size_append]; have : (⟨#[32, 32]⟩ : ByteArray).size = 2 := rfl; have : (⟨#[59, 10]⟩ : ByteArray).size = 2 := rfl; omega), ?_⟩; (conv=>whnf); (repeat (refine step_go [] ?_;conv=>whnf))
  (repeat (refine And.intro rfl ?_;conv=>whnf))
  refine hwp _ _ fun sp' => ?_
  (conv=>whnf); (repeat (refine step_go [] ?_;conv=>whnf))
  (repeat (refine And.intro rfl ?_;conv=>whnf))
  exact h (s ++ lnB (joinB (w :: l))) sp' (by rw [sB_app, lnB_s]) (by rw [ByteArray.size_append, lnB_z]; omega)
theorem c_pline (p : Prod) {mv : Bool} (s : ByteArray) (sp : List V) (w : ByteArray) (l : List ByteArray) (h1 : 1 <= l.length) (h9 : l.length <= 9) (hj : (joinB (w :: l)).size <= 100000) (hs : s.size <= 1000000) (K)
 (h : ∀ t sp', sB t = sB s ++ lnS (sB (joinB (w :: l))) -> t.size = s.size + (joinB (w :: l)).size + 4 -> K (.ret (.tup [])) (oS p true t sp')) :
 VCall Tryz.prog 56 [.ptr 0 0, .sl ((w :: l).map V.str) .ex] (oS p mv s sp) K :=
 VCall.args (args' := [.ptr 0 0, .sl ((w :: l).map V.str) .no]) (by repeat' first | exact VWs.nil | refine VWs.cons (VW.eq rfl) ?_ | refine VWs.cons VW.no ?_) (by rfl) (c_plineN p s sp w l h1 h9 hj hs K h)
theorem join2 (a b : ByteArray) : joinB [a, b] = a ++ (spc ++ b ++ ⟨#[]⟩) := rfl
theorem join3 (a b c : ByteArray) : joinB [a, b, c] = a ++ (spc ++ b ++ (spc ++ c ++ ⟨#[]⟩)) := rfl
theorem sB_nil : sB ⟨#[]⟩ = [] := rfl
theorem sB_spc : sB spc = [32] := rfl
theorem c_p2 (p : Prod) {mv : Bool} (s : ByteArray) (sp : List V) (a b : ByteArray) (A B : List Int) (hA : sB a = A) (hB : sB b = B) (ha : a.size <= 30) (hb : b.size <= 60) (hs : s.size <= 500000) (K)
 (h : ∀ t sp', sB t = sB s ++ lnS (A ++ [32] ++ B) -> t.size <= s.size + 100 -> K (.ret (.tup [])) (oS p true t sp')) :
 VCall Tryz.prog 56 [.ptr 0 0, .sl [.str a, .str b] .ex] (oS p mv s sp) K := by
 have hz : (joinB [a, b]).size = a.size + b.size + 1 := by
  rw [join2]; simp only [ByteArray.size_append]
  have h1 : spc.size = 1 := rfl
  have h2 : (⟨#[]⟩ : ByteArray).size = 0 := rfl
  omega
 have he : sB (joinB [a, b]) = A ++ [32] ++ B := by rw [join2, sB_app, sB_app, sB_app, hA, hB, sB_nil, sB_spc]; simp
 exact c_pline p s sp a [b] (by simp) (by simp) (by omega) (by omega) K fun t sp' e1 e2 => h t sp' (by rw [e1, he]) (by omega)
theorem c_p3 (p : Prod) {mv : Bool} (s : ByteArray) (sp : List V) (a b c : ByteArray) (A B C : List Int) (hA : sB a = A) (hB : sB b = B) (hC : sB c = C) (ha : a.size <= 30) (hb : b.size <= 30) (hc : c.size <= 60) (hs : s.size <= 500000) (K)
 (h : ∀ t sp', sB t = sB s ++ lnS (A ++ [32] ++ B ++ [32] ++ C) -> t.size <= s.size + 130 -> K (.ret (.tup [])) (oS p true t sp')) :
 VCall Tryz.prog 56 [.ptr 0 0, .sl [.str a, .str b, .str c] .ex] (oS p mv s sp) K := by
 have hz : (joinB [a, b, c]).size = a.size + b.size + c.size + 2 := by
  rw [join3]; simp only [ByteArray.size_append]
  have h1 : spc.size = 1 := rfl
  have h2 : (⟨#[]⟩ : ByteArray).size = 0 := rfl
  omega
 have he : sB (joinB [a, b, c]) = A ++ [32] ++ B ++ [32] ++ C := by rw [join3, sB_app, sB_app, sB_app, sB_app, sB_app, hA, hB, hC, sB_nil, sB_spc]; simp
 exact c_pline p s sp a [b, c] (by simp) (by simp) (by omega) (by omega) K fun t sp' e1 e2 => h t sp' (by rw [e1, he]) (by omega)
theorem ix4 {m : Nat} {a0 a1 a2 a3 w : ByteArray} {c : Int} {K : V -> Prop} (h : (c = 1 /\ w = a1) \/ (c = 2 /\ w = a2) \/ (c = 3 /\ w = a3)) (hk : K (.str w)) :
 0 <= c /\ c < (4 : Nat) /\ dropK [V.str a0, .str a1, .str a2, .str a3] (c.toNat * 1) fun cs => loadK (VL.sys Tryz.prog m []).P 9 cs fun v => v.untokK fun v => K v := by
 rcases h with ⟨rfl, rfl⟩ | ⟨rfl, rfl⟩ | ⟨rfl, rfl⟩ <;> refine ⟨by decide, by decide, ?_⟩ <;> conv=>whnf
 all_goals exact hk
theorem ix5 {m : Nat} {a0 a1 a2 a3 a4 w : ByteArray} {c : Int} {K : V -> Prop} (h : (c = 1 /\ w = a1) \/ (c = 2 /\ w = a2) \/ (c = 3 /\ w = a3) \/ (c = 4 /\ w = a4)) (hk : K (.str w)) :
 0 <= c /\ c < (5 : Nat) /\ dropK [V.str a0, .str a1, .str a2, .str a3, .str a4] (c.toNat * 1) fun cs => loadK (VL.sys Tryz.prog m []).P 9 cs fun v => v.untokK fun v => K v := by
 rcases h with ⟨rfl, rfl⟩ | ⟨rfl, rfl⟩ | ⟨rfl, rfl⟩ | ⟨rfl, rfl⟩ <;> refine ⟨by decide, by decide, ?_⟩ <;> conv=>whnf
 all_goals exact hk
theorem pk_count {c : Int} (h : 1 <= c /\ c <= 3) : (c = 1 /\ toBA (countW c) = ⟨#[116, 104, 105, 114, 116, 121]⟩) \/ (c = 2 /\ toBA (countW c) = ⟨#[102, 105, 120, 101, 100]⟩) \/ (c = 3 /\ toBA (countW c) = ⟨#[97, 99, 116, 117, 97, 108]⟩) := by
 have : c = 1 \/ c = 2 \/ c = 3 := by omega
 rcases this with rfl | rfl | rfl
 · exact .inl ⟨rfl, rfl⟩
 · exact .inr (.inl ⟨rfl, rfl⟩)
 · exact .inr (.inr ⟨rfl, rfl⟩)
theorem pk_round {c : Int} (h : c = 1 \/ c = 3) : (c = 1 /\ toBA (roundW c) = ⟨#[104, 97, 108, 102, 45, 117, 112]⟩) \/ (c = 2 /\ toBA (roundW c) = ⟨#[]⟩) \/ (c = 3 /\ toBA (roundW c) = ⟨#[100, 111, 119, 110]⟩) := by
 rcases h with rfl | rfl
 · exact .inl ⟨rfl, rfl⟩
 · exact .inr (.inr ⟨rfl, rfl⟩)
theorem pk_kind {c : Int} (h : 1 <= c /\ c <= 3) : (c = 1 /\ toBA (kindW c) = ⟨#[97, 110, 110, 117, 105, 116, 121]⟩) \/ (c = 2 /\ toBA (kindW c) = ⟨#[101, 113, 117, 97, 108]⟩) \/ (c = 3 /\ toBA (kindW c) = ⟨#[98, 117, 108, 108, 101, 116]⟩) := by
 have : c = 1 \/ c = 2 \/ c = 3 := by omega
 rcases this with rfl | rfl | rfl
 · exact .inl ⟨rfl, rfl⟩
 · exact .inr (.inl ⟨rfl, rfl⟩)
 · exact .inr (.inr ⟨rfl, rfl⟩)
theorem pk_over {c : Int} (h : 1 <= c /\ c <= 3) : (c = 1 /\ toBA (overW c) = ⟨#[104, 111, 108, 100]⟩) \/ (c = 2 /\ toBA (overW c) = ⟨#[112, 114, 101, 112, 97, 121]⟩) \/ (c = 3 /\ toBA (overW c) = ⟨#[114, 101, 102, 117, 110, 100]⟩) := by
 have : c = 1 \/ c = 2 \/ c = 3 := by omega
 rcases this with rfl | rfl | rfl
 · exact .inl ⟨rfl, rfl⟩
 · exact .inr (.inl ⟨rfl, rfl⟩)
 · exact .inr (.inr ⟨rfl, rfl⟩)
theorem pk_pay {c : Int} (h : 1 <= c /\ c <= 4) : (c = 1 /\ toBA (payW c) = ⟨#[102, 101, 101, 115]⟩) \/ (c = 2 /\ toBA (payW c) = ⟨#[112, 101, 110, 97, 108, 116, 121]⟩) \/ (c = 3 /\ toBA (payW c) = ⟨#[105, 110, 116, 101, 114, 101, 115, 116]⟩) \/ (c = 4 /\ toBA (payW c) = ⟨#[112, 114, 105, 110, 99, 105, 112, 97, 108]⟩) := by
 have : c = 1 \/ c = 2 \/ c = 3 \/ c = 4 := by omega
 rcases this with rfl | rfl | rfl | rfl
 · exact .inl ⟨rfl, rfl⟩
 · exact .inr (.inl ⟨rfl, rfl⟩)
 · exact .inr (.inr (.inl ⟨rfl, rfl⟩))
 · exact .inr (.inr (.inr ⟨rfl, rfl⟩))
theorem pk_roll {c : Int} (h : 1 <= c /\ c <= 4) : (c = 1 /\ toBA (rollW c) = ⟨#[115, 116, 97, 121]⟩) \/ (c = 2 /\ toBA (rollW c) = ⟨#[110, 101, 120, 116]⟩) \/ (c = 3 /\ toBA (rollW c) = ⟨#[119, 105, 116, 104, 105, 110]⟩) \/ (c = 4 /\ toBA (rollW c) = ⟨#[112, 114, 101, 118, 105, 111, 117, 115]⟩) := by
 have : c = 1 \/ c = 2 \/ c = 3 \/ c = 4 := by omega
 rcases this with rfl | rfl | rfl | rfl
 · exact .inl ⟨rfl, rfl⟩
 · exact .inr (.inl ⟨rfl, rfl⟩)
 · exact .inr (.inr (.inl ⟨rfl, rfl⟩))
 · exact .inr (.inr (.inr ⟨rfl, rfl⟩))
end BP2

namespace BP3
open Go Go.Proofs VL D1 B5 B10 B12 B13 B14 BB1 BB2 BB4 BB5 BB8 BB9 C1 C2 C4 BP1 BP2 P1 P2
theorem dgi_pos {v : Int} (h : 0 <= v) : dgi v = dg v.toNat := by unfold dgi; rw [if_neg (by omega)]
theorem c_itoaP (v : Int) (h0 : 0 <= v) (hv : v < 1000000) (K : Out -> List VObj -> Prop) (h : K (.ret (.str (toBA (dg v.toNat)))) []) : VCall Tryz.prog 57 [.int .i64 v] [] K :=
 c_itoa v (by omega) (by omega) K (by rw [dgi_pos h0]; exact h)
def firstS (p : Prod) : List Int := lnS (w_count ++ [32] ++ countW p.count) ++ lnS (w_round ++ [32] ++ roundW p.rnd) ++ lnS (w_kind ++ [32] ++ kindW p.kind) ++ lnS (w_every ++ [32] ++ dg p.every.toNat) ++ lnS (w_times ++ [32] ++ dg p.times.toNat) ++ lnS (w_grace ++ [32] ++ dg p.grace.toNat)
theorem num_b {v : Int} (hv : 0 <= v /\ v < 1000000) : sB (toBA (dg v.toNat)) = dg v.toNat /\ (toBA (dg v.toNat)).size <= 30 := by
 have := dg_le v hv.2
 exact ⟨sB_toBA this.2, by omega⟩
theorem rate_b {v : Int} (hv : I64 v) : sB (toBA (rateS v)) = rateS v /\ (toBA (rateS v)).size <= 60 := ⟨sB_toBA (rateS_byte v), by rw [toBA_size]; have := rateS_len hv; omega⟩
theorem mon_b {v : Int} (hv : I64 v) : sB (toBA (moneyS v)) = moneyS v /\ (toBA (moneyS v)).size <= 60 := ⟨sB_toBA (moneyS_b v), by rw [toBA_size]; have := moneyS_len hv; omega⟩
set_option maxHeartbeats 4000000 in
theorem c_first (p : Prod) (hp : checkP p) {mv : Bool} (s : ByteArray) (sp : List V) (hs : s.size <= 400000) (K : Out -> List VObj -> Prop) (h : ∀ t sp', sB t = sB s ++ firstS p -> t.size <= s.size + 600 -> K (.ret (.tup [])) (oS p true t sp')) :
 VCall Tryz.prog 23 [.ptr 0 0] (oS p mv s sp) K := by
 obtain ⟨⟨⟨hname, hcount, hrnd, hkind⟩, hevery, hshape⟩, _⟩ := hp
 have hev : 0 <= p.every /\ p.every < 1000000 := by unfold shape2 at hevery; omega
 have hti : 0 <= p.times /\ p.times < 1000000 := by unfold shape3 at hshape; omega
 have hgr : 0 <= p.grace /\ p.grace < 1000000 := by unfold shape3 at hshape; omega
 unfold firstS at h
 unfold oS
 cases mv
 all_goals
  refine call_fun [] 2 Tryz.func23 (by rfl) (by rfl) ?_; (conv=>whnf); (repeat (refine step_go [] ?_;conv=>whnf))
  refine ix4 (pk_count hcount) ?_; (conv=>whnf); (repeat (refine step_go [] ?_;conv=>whnf))
  refine c_p2 p s sp _ _ w_count (countW p.count) (by rfl) (sB_toBA (countW_b _).1) (by decide) (Nat.le_trans (countW_b _).2 (by decide)) (by omega) _ fun t1 q1 e1 z1 => ?_
  (conv=>whnf); (repeat (refine step_go [] ?_;conv=>whnf))
  refine ix4 (pk_round hrnd) ?_; (conv=>whnf); (repeat (refine step_go [] ?_;conv=>whnf))
  refine c_p2 p t1 q1 _ _ w_round (roundW p.rnd) (by rfl) (sB_toBA (roundW_b _).1) (by decide) (Nat.le_trans (roundW_b _).2 (by decide)) (by omega) _ fun t2 q2 e2 z2 => ?_
  (conv=>whnf); (repeat (refine step_go [] ?_;conv=>whnf))
  refine ix4 (pk_kind hkind) ?_; (conv=>whnf); (repeat (refine step_go [] ?_;conv=>whnf))
  refine c_p2 p t2 q2 _ _ w_kind (kindW p.kind) (by rfl) (sB_toBA (kindW_b _).1) (by decide) (Nat.le_trans (kindW_b _).2 (by decide)) (by omega) _ fun t3 q3 e3 z3 => ?_
  (conv=>whnf); (repeat (refine step_go [] ?_;conv=>whnf))
  refine c_itoaP p.every hev.1 hev.2 _ ?_; (conv=>whnf); (repeat (refine step_go [] ?_;conv=>whnf))
  refine c_p2 p t3 q3 _ _ w_every (dg p.every.toNat) (by rfl) (num_b hev).1 (by decide) (Nat.le_trans (num_b hev).2 (by decide)) (by omega) _ fun t4 q4 e4 z4 => ?_
  (conv=>whnf); (repeat (refine step_go [] ?_;conv=>whnf))
  refine c_itoaP p.times hti.1 hti.2 _ ?_; (conv=>whnf); (repeat (refine step_go [] ?_;conv=>whnf))
  refine c_p2 p t4 q4 _ _ w_times (dg p.times.toNat) (by rfl) (num_b hti).1 (by decide) (Nat.le_trans (num_b hti).2 (by decide)) (by omega) _ fun t5 q5 e5 z5 => ?_
  (conv=>whnf); (repeat (refine step_go [] ?_;conv=>whnf))
  refine c_itoaP p.grace hgr.1 hgr.2 _ ?_; (conv=>whnf); (repeat (refine step_go [] ?_;conv=>whnf))
  refine c_p2 p t5 q5 _ _ w_grace (dg p.grace.toNat) (by rfl) (num_b hgr).1 (by decide) (Nat.le_trans (num_b hgr).2 (by decide)) (by omega) _ fun t6 q6 e6 z6 => ?_
  (conv=>whnf); (repeat (refine step_go [] ?_;conv=>whnf))
  exact h t6 q6 (by rw [e6, e5, e4, e3, e2, e1]; simp only [List.append_assoc]) (by omega)
theorem res_rt {times : Int} : ∀ {q : Option Rs} {l : List Rs}, resetsP times q l -> ∀ r ∈ l, 0 <= r.rate /\ r.rate <= 1000000000
 | _, [], _, r, hr => by cases hr
 | q, x :: l, h, r, hr => by
   rcases List.mem_cons.1 hr with rfl | hr
   · exact h.2.1
   · exact res_rt h.2.2.2 r hr
noncomputable def ratesS (p : Prod) : List Int := lnS (w_rate ++ [32] ++ rateS p.rate) ++ lnS (w_penalty ++ [32] ++ rateS p.pen) ++ p.resets.flatMap resetS
theorem take_flat {α : Type} (f : α -> List Int) (l : List α) (i : Nat) (h : i < l.length) : (l.take (i + 1)).flatMap f = (l.take i).flatMap f ++ f l[i] := by
 rw [List.take_succ_eq_append_getElem h, List.flatMap_append]; simp
set_option maxHeartbeats 4000000 in
theorem c_rates (p : Prod) (hp : checkP p) {mv : Bool} (s : ByteArray) (sp : List V) (hs : s.size <= 400000) (K : Out -> List VObj -> Prop) (h : ∀ t sp', sB t = sB s ++ ratesS p -> t.size <= s.size + 2800 -> K (.ret (.tup [])) (oS p true t sp')) :
 VCall Tryz.prog 24 [.ptr 0 0] (oS p mv s sp) K := by
 obtain ⟨⟨_, _, hshape⟩, ⟨hrate, hpen, hrl, hres⟩, _⟩ := hp
 unfold ratesS at h
 have hi1 : I64 p.rate := by unfold I64; omega
 have hi2 : I64 p.pen := by unfold I64; omega
 refine VCall.weak ?_
 unfold oS
 cases mv
 all_goals
  refine call_fun [] 2 Tryz.func24 (by rfl) (by rfl) ?_; (conv=>whnf); (repeat (refine step_go [] ?_;conv=>whnf))
  refine c_rate p.rate hi1 _ ?_; (conv=>whnf); (repeat (refine step_go [] ?_;conv=>whnf))
  refine c_p2 p s sp _ _ w_rate (rateS p.rate) (by rfl) (rate_b hi1).1 (by decide) (rate_b hi1).2 (by omega) _ fun t1 q1 e1 z1 => ?_
  (conv=>whnf); (repeat (refine step_go [] ?_;conv=>whnf))
  refine c_rate p.pen hi2 _ ?_; (conv=>whnf); (repeat (refine step_go [] ?_;conv=>whnf))
  refine c_p2 p t1 q1 _ _ w_penalty (rateS p.pen) (by rfl) (rate_b hi2).1 (by decide) (rate_b hi2).2 (by omega) _ fun t2 q2 e2 z2 => ?_
  (conv=>whnf); (repeat (refine step_go [] ?_;conv=>whnf))
  let S : Nat × ByteArray × List V -> St := fun x => ⟨(.ptr 0 0 :: .undef :: .undef :: .undef :: .undef :: .undef :: .undef :: .undef :: .undef :: .undef :: .undef :: .undef :: .undef :: .undef :: .undef :: .undef :: .undef :: .undef :: .undef :: .undef :: .undef :: .undef :: .undef :: .undef :: .undef :: .undef :: .sl (rL p.resets) .no :: .int .i64 (p.resets.length : Nat) :: .int .i64 (x.1 : Nat) :: .undef :: .undef :: .undef :: .undef :: .undef :: .undef :: .undef :: .undef :: .undef :: .undef :: .undef :: .undef :: .undef :: []), oS p true x.2.1 x.2.2, 0, []⟩
  have hlr : (rL p.resets).length = p.resets.length := by simp [rL]
  refine VLoop.enter (s' := S (0, t2, q2)) (weak_of (by rw [hlr]; (repeat' first | exact VWs.nil | refine VWs.cons VW.undef ?_ | refine VWs.cons (VW.eq rfl) ?_)) (.cons (.eq rfl) (.cons (.eq rfl) .nil)) rfl rfl rfl) (VLoop.indW S (fun x => p.resets.length - x.1) (fun x => x.1 <= p.resets.length /\ sB x.2.1 = sB t2 ++ (p.resets.take x.1).flatMap resetS /\ x.2.1.size <= t2.size + 130 * x.1) ?_ (0, t2, q2) ⟨Nat.zero_le _, by simp, by simp⟩)
  rintro ⟨i, t, q⟩ ⟨hi, es, zs⟩ ih
  simp only at hi es zs
  dsimp only [S]
  unfold oS
  refine loop_round [] ?_; conv=>whnf
  (repeat' first | (refine step_go [] ?_;conv=>whnf) | (refine two ?_ ?_<;>intro g<;>(try simp only[bsx]at g)<;>(conv=>whnf)) | (refine And.intro rfl ?_;conv=>whnf) | fail)
  · have hil : i < p.resets.length := by omega
    obtain ⟨r, hr⟩ : ∃ r, p.resets[i] = r := ⟨_, rfl⟩
    have hmem : r ∈ p.resets := by rw [← hr]; exact List.getElem_mem _
    have hget : (rL p.resets)[(i : Int).toNat]? = some (encR r) := by rw [Int.toNat_natCast, ← hr]; simp [rL, List.getElem?_eq_getElem hil]
    have haf := res_in hres r hmem
    have hrt := res_rt hres r hmem
    have ht6 : p.times <= 600 := by unfold shape3 at hshape; omega
    have hI : I64 r.rate := by unfold I64; omega
    have hn : 0 <= r.aft /\ r.aft < 1000000 := by omega
    have wi : IntKind.i64.wrap ((i : Int) + 1) = ((i + 1 : Nat) : Int) := by rw [wrap64 (by omega) (by omega)]; omega
    (repeat' first | (refine step_go [] ?_;conv=>whnf) | (refine two ?_ ?_<;>intro g<;>(try simp only[bsx]at g)<;>(conv=>whnf)) | (refine And.intro rfl ?_;conv=>whnf) | (refine dr_go (by decide +kernel) ?_;conv=>whnf) | (refine ⟨by omega, _, hget, rfl, ?_⟩;conv=>whnf) | (refine c_itoaP r.aft hn.1 hn.2 _ ?_;conv=>whnf) | (refine c_rate r.rate hI _ ?_;conv=>whnf) | fail)
    refine c_p3 p t q _ _ _ w_reset (dg r.aft.toNat) (rateS r.rate) (by rfl) (num_b hn).1 (rate_b hI).1 (by decide) (num_b hn).2 (rate_b hI).2 (by omega) _ fun t' q' e' z' => ?_
    conv=>whnf
    (repeat' first | (refine step_go [] ?_;conv=>whnf) | (refine two ?_ ?_<;>intro g<;>(try simp only[bsx]at g)<;>(conv=>whnf)) | (refine And.intro rfl ?_;conv=>whnf) | (refine dr_go (by decide +kernel) ?_;conv=>whnf) | (refine ⟨by omega, _, hget, rfl, ?_⟩;conv=>whnf) | fail)
    refine weak_sel (src := [0, 1]) ?_; conv=>whnf
    refine VLoop.enter (s' := S (i + 1, t', q')) (weak_of (by rw [wi]; (repeat' first | exact VWs.nil | refine VWs.cons VW.undef ?_ | refine VWs.cons (VW.eq rfl) ?_)) (.cons (.eq rfl) (.cons (.eq rfl) .nil)) rfl rfl rfl) (ih (i + 1, t', q') ⟨by simp only; omega, ?_, ?_⟩ (by simp only; omega))
    · simp only
      rw [e', es, take_flat _ _ _ hil, hr, List.append_assoc]; rfl
    · simp only; omega
  · have hie : i = p.resets.length := by omega
    subst hie
    rw [List.take_length] at es
    refine ⟨_, Weak.refl, ?_⟩
    conv=>whnf
    (repeat' first | (refine step_go [] ?_;conv=>whnf) | (refine two ?_ ?_<;>intro g<;>(try simp only[bsx]at g)<;>(conv=>whnf)) | (refine And.intro rfl ?_;conv=>whnf) | fail)
    exact ⟨_, _, Weak.refl, h t q (by rw [es, e2, e1]; simp only [List.append_assoc]) (by omega)⟩
end BP3

namespace BP4
open Go Go.Proofs VL D1 B5 B10 B12 B13 B14 BB1 BB2 BB4 BB5 BB8 BB9 C1 C2 C4 BP1 BP2 BP3 P1 P2
def orderS (p : Prod) : List Int := lnS (w_order ++ [32] ++ payW p.o1 ++ [32] ++ payW p.o2 ++ [32] ++ payW p.o3 ++ [32] ++ payW p.o4) ++ lnS (w_over ++ [32] ++ overW p.over)
theorem hm1 (b : ByteArray) : ∀ x : V, x ∈ [V.str b] -> x.cells.length = 0 + 1 := fun x hx => by rw [List.mem_singleton.1 hx]; rfl
theorem join5 (a b c d e : ByteArray) : joinB [a, b, c, d, e] = a ++ (spc ++ b ++ (spc ++ c ++ (spc ++ d ++ (spc ++ e ++ ⟨#[]⟩)))) := rfl
set_option maxHeartbeats 4000000 in
theorem c_order (p : Prod) (hp : checkP p) {mv : Bool} (s : ByteArray) (sp : List V) (hs : s.size <= 400000) (K : Out -> List VObj -> Prop) (h : ∀ t sp', sB t = sB s ++ orderS p -> t.size <= s.size + 200 -> K (.ret (.tup [])) (oS p true t sp')) :
 VCall Tryz.prog 25 [.ptr 0 0] (oS p mv s sp) K := by
 obtain ⟨_, _, ⟨⟨g1, g2, g3, g4, _⟩, hover⟩, _⟩ := hp
 unfold orderS at h
 have hz : ∀ n, (toBA (payW n)).size <= 10 := fun n => (payW_b n).2
 unfold oS
 cases mv
 all_goals
  refine call_fun [] 2 Tryz.func25 (by rfl) (by rfl) ?_; (conv=>whnf); (repeat (refine step_go [] ?_;conv=>whnf))
  (repeat' first | (refine step_go [] ?_;conv=>whnf) | (refine two ?_ ?_<;>intro g<;>(try simp only[bsx]at g)<;>(conv=>whnf)) | (refine And.intro rfl ?_;conv=>whnf) | (refine loop_round [] ?_;conv=>whnf) | (refine ⟨_, Weak.refl, ?_⟩;conv=>whnf) | (refine ⟨by decide, by decide, ?_⟩;conv=>whnf) | (refine ix5 (pk_pay g1) ?_;conv=>whnf) | (refine ix5 (pk_pay g2) ?_;conv=>whnf) | (refine ix5 (pk_pay g3) ?_;conv=>whnf) | (refine ix5 (pk_pay g4) ?_;conv=>whnf) | (refine ⟨Nat.le_of_ble_eq_true rfl, hm1 _, ?_⟩;conv=>whnf) | (refine ⟨hm1 _, ?_⟩;conv=>whnf) | fail)
  have hz5 : (joinB [⟨#[111, 114, 100, 101, 114]⟩, toBA (payW p.o1), toBA (payW p.o2), toBA (payW p.o3), toBA (payW p.o4)]).size <= 60 := by
   rw [join5]; simp only [ByteArray.size_append]
   have h1 : spc.size = 1 := rfl
   have h2 : (⟨#[]⟩ : ByteArray).size = 0 := rfl
   have h3 : (⟨#[111, 114, 100, 101, 114]⟩ : ByteArray).size = 5 := rfl
   have := hz p.o1; have := hz p.o2; have := hz p.o3; have := hz p.o4
   omega
  have he5 : sB (joinB [⟨#[111, 114, 100, 101, 114]⟩, toBA (payW p.o1), toBA (payW p.o2), toBA (payW p.o3), toBA (payW p.o4)]) = w_order ++ [32] ++ payW p.o1 ++ [32] ++ payW p.o2 ++ [32] ++ payW p.o3 ++ [32] ++ payW p.o4 := by
   rw [join5]
   simp only [sB_app, sB_toBA (payW_b _).1, sB_nil, sB_spc, List.append_assoc, List.append_nil]; rfl
  refine c_plineN p s sp ⟨#[111, 114, 100, 101, 114]⟩ [toBA (payW p.o1), toBA (payW p.o2), toBA (payW p.o3), toBA (payW p.o4)] (by simp) (by simp) (by omega) (by omega) _ fun t1 q1 e1 z1 => ?_
  conv=>whnf
  (repeat' first | (refine step_go [] ?_;conv=>whnf) | (refine two ?_ ?_<;>intro g<;>(try simp only[bsx]at g)<;>(conv=>whnf)) | (refine And.intro rfl ?_;conv=>whnf) | (refine ix4 (pk_over hover) ?_;conv=>whnf) | fail)
  refine c_p2 p t1 q1 _ _ w_over (overW p.over) (by rfl) (sB_toBA (overW_b _).1) (by decide) (Nat.le_trans (overW_b _).2 (by decide)) (by omega) _ fun t2 q2 e2 z2 => ?_
  conv=>whnf
  (repeat' first | (refine step_go [] ?_;conv=>whnf) | (refine two ?_ ?_<;>intro g<;>(try simp only[bsx]at g)<;>(conv=>whnf)) | (refine And.intro rfl ?_;conv=>whnf) | fail)
  exact h t2 q2 (by rw [e2, e1, he5, List.append_assoc]) (by omega)
theorem tier_fee : ∀ {q : Option Ti} {l : List Ti}, tiersP q l -> ∀ r ∈ l, 0 <= r.fee /\ r.fee <= 10000000000000
 | _, [], _, r, hr => by cases hr
 | q, x :: l, h, r, hr => by
   rcases List.mem_cons.1 hr with rfl | hr
   · exact h.2.1
   · exact tier_fee h.2.2.2 r hr
def lateL (p : Prod) : List Int := p.late.flatMap lateS ++ lnS (w_cap ++ [32] ++ moneyS p.cap)
set_option maxHeartbeats 4000000 in
theorem c_late (p : Prod) (hp : checkP p) {mv : Bool} (s : ByteArray) (sp : List V) (hs : s.size <= 400000) (K : Out -> List VObj -> Prop) (h : ∀ t sp', sB t = sB s ++ lateL p -> t.size <= s.size + 1140 -> K (.ret (.tup [])) (oS p true t sp')) :
 VCall Tryz.prog 26 [.ptr 0 0] (oS p mv s sp) K := by
 obtain ⟨_, _, _, ⟨hll, hcap, hlc, htie⟩, _⟩ := hp
 unfold lateL at h
 have hic : I64 p.cap := by unfold I64; omega
 have hlr : (tL p.late).length = p.late.length := by simp [tL]
 refine VCall.weak ?_
 unfold oS
 cases mv
 all_goals
  refine call_fun [] 2 Tryz.func26 (by rfl) (by rfl) ?_; (conv=>whnf); (repeat (refine step_go [] ?_;conv=>whnf))
  let S : Nat × ByteArray × List V -> St := fun x => ⟨(.ptr 0 0 :: .undef :: .undef :: .undef :: .undef :: .undef :: .undef :: .undef :: .sl (tL p.late) .no :: .int .i64 (p.late.length : Nat) :: .int .i64 (x.1 : Nat) :: .undef :: .undef :: .undef :: .undef :: .undef :: .undef :: .undef :: .undef :: .undef :: .undef :: .undef :: .undef :: .undef :: .undef :: .undef :: .undef :: .undef :: .undef :: .undef :: .undef :: .undef :: .undef :: []), oS p true x.2.1 x.2.2, 0, []⟩
  refine VLoop.enter (s' := S (0, s, sp)) (weak_of (by rw [hlr]; (repeat' first | exact VWs.nil | refine VWs.cons VW.undef ?_ | refine VWs.cons (VW.eq rfl) ?_)) (.cons (.eq rfl) (.cons (by first | exact .eq rfl | exact .moved) .nil)) rfl rfl rfl) (VLoop.indW S (fun x => p.late.length - x.1) (fun x => x.1 <= p.late.length /\ sB x.2.1 = sB s ++ (p.late.take x.1).flatMap lateS /\ x.2.1.size <= s.size + 130 * x.1) ?_ (0, s, sp) ⟨Nat.zero_le _, by simp, by simp⟩)
  rintro ⟨i, t, q⟩ ⟨hi, es, zs⟩ ih
  simp only at hi es zs
  dsimp only [S]
  unfold oS
  refine loop_round [] ?_; conv=>whnf
  (repeat' first | (refine step_go [] ?_;conv=>whnf) | (refine two ?_ ?_<;>intro g<;>(try simp only[bsx]at g)<;>(conv=>whnf)) | (refine And.intro rfl ?_;conv=>whnf) | fail)
  · have hil : i < p.late.length := by omega
    obtain ⟨r, hr⟩ : ∃ r, p.late[i] = r := ⟨_, rfl⟩
    have hmem : r ∈ p.late := by rw [← hr]; exact List.getElem_mem _
    have hget : (tL p.late)[(i : Int).toNat]? = some (encT r) := by rw [Int.toNat_natCast, ← hr]; simp [tL, List.getElem?_eq_getElem hil]
    have haf := tier_in htie r hmem
    have hrt := tier_fee htie r hmem
    have hI : I64 r.fee := by unfold I64; omega
    have hn : 0 <= r.days /\ r.days < 1000000 := by omega
    have wi : IntKind.i64.wrap ((i : Int) + 1) = ((i + 1 : Nat) : Int) := by rw [wrap64 (by omega) (by omega)]; omega
    (repeat' first | (refine step_go [] ?_;conv=>whnf) | (refine two ?_ ?_<;>intro g<;>(try simp only[bsx]at g)<;>(conv=>whnf)) | (refine And.intro rfl ?_;conv=>whnf) | (refine dr_go (by decide +kernel) ?_;conv=>whnf) | (refine ⟨by omega, _, hget, rfl, ?_⟩;conv=>whnf) | (refine c_itoaP r.days hn.1 hn.2 _ ?_;conv=>whnf) | (refine c_money r.fee hI _ ?_;conv=>whnf) | fail)
    refine c_p3 p t q _ _ _ w_late (dg r.days.toNat) (moneyS r.fee) (by rfl) (num_b hn).1 (mon_b hI).1 (by decide) (num_b hn).2 (mon_b hI).2 (by omega) _ fun t' q' e' z' => ?_
    conv=>whnf
    (repeat' first | (refine step_go [] ?_;conv=>whnf) | (refine two ?_ ?_<;>intro g<;>(try simp only[bsx]at g)<;>(conv=>whnf)) | (refine And.intro rfl ?_;conv=>whnf) | (refine dr_go (by decide +kernel) ?_;conv=>whnf) | (refine ⟨by omega, _, hget, rfl, ?_⟩;conv=>whnf) | fail)
    refine weak_sel (src := [0, 1]) ?_; conv=>whnf
    refine VLoop.enter (s' := S (i + 1, t', q')) (weak_of (by rw [wi]; (repeat' first | exact VWs.nil | refine VWs.cons VW.undef ?_ | refine VWs.cons (VW.eq rfl) ?_)) (.cons (.eq rfl) (.cons (.eq rfl) .nil)) rfl rfl rfl) (ih (i + 1, t', q') ⟨by simp only; omega, ?_, ?_⟩ (by simp only; omega))
    · simp only
      rw [e', es, take_flat _ _ _ hil, hr, List.append_assoc]; rfl
    · simp only; omega
  · have hie : i = p.late.length := by omega
    subst hie
    rw [List.take_length] at es
    refine ⟨_, Weak.refl, ?_⟩
    conv=>whnf
    (repeat' first | (refine step_go [] ?_;conv=>whnf) | (refine two ?_ ?_<;>intro g<;>(try simp only[bsx]at g)<;>(conv=>whnf)) | (refine And.intro rfl ?_;conv=>whnf) | (refine c_money p.cap hic _ ?_;conv=>whnf) | fail)
    refine c_p2 p t q _ _ w_cap (moneyS p.cap) (by rfl) (mon_b hic).1 (by decide) (mon_b hic).2 (by omega) _ fun t2 q2 e2 z2 => ?_
    conv=>whnf
    (repeat' first | (refine step_go [] ?_;conv=>whnf) | (refine two ?_ ?_<;>intro g<;>(try simp only[bsx]at g)<;>(conv=>whnf)) | (refine And.intro rfl ?_;conv=>whnf) | fail)
    exact ⟨_, _, Weak.refl, h t2 q2 (by rw [e2, es, List.append_assoc]) (by omega)⟩
noncomputable def daysL (p : Prod) : List Int := lnS (w_roll ++ [32] ++ rollW p.roll) ++ p.hol.flatMap holS
set_option maxHeartbeats 4000000 in
theorem c_days (p : Prod) (hp : checkP p) {mv : Bool} (s : ByteArray) (sp : List V) (hs : s.size <= 400000) (K : Out -> List VObj -> Prop) (h : ∀ t sp', sB t = sB s ++ daysL p -> t.size <= s.size + 20100 -> K (.ret (.tup [])) (oS p true t sp')) :
 VCall Tryz.prog 27 [.ptr 0 0] (oS p mv s sp) K := by
 obtain ⟨_, _, _, _, ⟨⟨hhl, hhol⟩, hroll, hrh⟩⟩ := hp
 unfold daysL at h
 have hlr : (BB14.iL p.hol).length = p.hol.length := by simp [BB14.iL]
 refine VCall.weak ?_
 unfold oS
 cases mv
 all_goals
  refine call_fun [] 2 Tryz.func27 (by rfl) (by rfl) ?_; (conv=>whnf); (repeat (refine step_go [] ?_;conv=>whnf))
  refine ix5 (pk_roll hroll) ?_; (conv=>whnf); (repeat (refine step_go [] ?_;conv=>whnf))
  refine c_p2 p s sp _ _ w_roll (rollW p.roll) (by rfl) (sB_toBA (rollW_b _).1) (by decide) (Nat.le_trans (rollW_b _).2 (by decide)) (by omega) _ fun t2 q2 e2 z2 => ?_
  (conv=>whnf); (repeat (refine step_go [] ?_;conv=>whnf))
  let S : Nat × ByteArray × List V -> St := fun x => ⟨(.ptr 0 0 :: .undef :: .undef :: .undef :: .undef :: .undef :: .undef :: .undef :: .undef :: .undef :: .undef :: .undef :: .undef :: .undef :: .undef :: .undef :: .undef :: .undef :: .undef :: .undef :: .sl (BB14.iL p.hol) .no :: .int .i64 (p.hol.length : Nat) :: .int .i64 (x.1 : Nat) :: .undef :: .undef :: .undef :: .undef :: .undef :: .undef :: .undef :: .undef :: .undef :: .undef :: .undef :: .undef :: .undef :: []), oS p true x.2.1 x.2.2, 0, []⟩
  refine VLoop.enter (s' := S (0, t2, q2)) (weak_of (by rw [hlr]; (repeat' first | exact VWs.nil | refine VWs.cons VW.undef ?_ | refine VWs.cons (VW.eq rfl) ?_)) (.cons (.eq rfl) (.cons (.eq rfl) .nil)) rfl rfl rfl) (VLoop.indW S (fun x => p.hol.length - x.1) (fun x => x.1 <= p.hol.length /\ sB x.2.1 = sB t2 ++ (p.hol.take x.1).flatMap holS /\ x.2.1.size <= t2.size + 100 * x.1) ?_ (0, t2, q2) ⟨Nat.zero_le _, by simp, by simp⟩)
  rintro ⟨i, t, q⟩ ⟨hi, es, zs⟩ ih
  simp only at hi es zs
  dsimp only [S]
  unfold oS
  refine loop_round [] ?_; conv=>whnf
  (repeat' first | (refine step_go [] ?_;conv=>whnf) | (refine two ?_ ?_<;>intro g<;>(try simp only[bsx]at g)<;>(conv=>whnf)) | (refine And.intro rfl ?_;conv=>whnf) | fail)
  · have hil : i < p.hol.length := by omega
    obtain ⟨r, hr⟩ : ∃ r, p.hol[i] = r := ⟨_, rfl⟩
    have hmem : r ∈ p.hol := by rw [← hr]; exact List.getElem_mem _
    have hget : (BB14.iL p.hol)[(i : Int).toNat]? = some (.int .i64 r) := by rw [Int.toNat_natCast, ← hr]; simp [BB14.iL, List.getElem?_eq_getElem hil]
    have haf := hol_in hhol r hmem
    have wi : IntKind.i64.wrap ((i : Int) + 1) = ((i + 1 : Nat) : Int) := by rw [wrap64 (by omega) (by omega)]; omega
    (repeat' first | (refine step_go [] ?_;conv=>whnf) | (refine two ?_ ?_<;>intro g<;>(try simp only[bsx]at g)<;>(conv=>whnf)) | (refine And.intro rfl ?_;conv=>whnf) | (refine ⟨by omega, _, hget, rfl, ?_⟩;conv=>whnf) | fail)
    refine c_ctext r haf.1 haf.2 _ fun y m d hd => ?_
    conv=>whnf
    (repeat' first | (refine step_go [] ?_;conv=>whnf) | (refine two ?_ ?_<;>intro g<;>(try simp only[bsx]at g)<;>(conv=>whnf)) | (refine And.intro rfl ?_;conv=>whnf) | fail)
    refine c_p2 p t q _ _ w_holiday (dateT r) (by rfl) (by rw [dateT_in hd]; exact sB_toBA (dtS_b y m d)) (by decide) (by rw [toBA_size, dt_len]; decide) (by omega) _ fun t' q' e' z' => ?_
    conv=>whnf
    (repeat' first | (refine step_go [] ?_;conv=>whnf) | (refine two ?_ ?_<;>intro g<;>(try simp only[bsx]at g)<;>(conv=>whnf)) | (refine And.intro rfl ?_;conv=>whnf) | fail)
    refine ⟨S (i + 1, t', q'), weak_of (by rw [wi]; (repeat' first | exact VWs.nil | refine VWs.cons VW.undef ?_ | refine VWs.cons (VW.eq rfl) ?_)) (.cons (.eq rfl) (.cons (.eq rfl) .nil)) rfl rfl rfl, ih (i + 1, t', q') ⟨by simp only; omega, ?_, ?_⟩ (by simp only; omega)⟩
    · simp only
      rw [e', es, take_flat _ _ _ hil, hr, List.append_assoc]; rfl
    · simp only; omega
  · have hie : i = p.hol.length := by omega
    subst hie
    rw [List.take_length] at es
    refine ⟨_, Weak.refl, ?_⟩
    conv=>whnf
    (repeat' first | (refine step_go [] ?_;conv=>whnf) | (refine two ?_ ?_<;>intro g<;>(try simp only[bsx]at g)<;>(conv=>whnf)) | (refine And.intro rfl ?_;conv=>whnf) | fail)
    exact ⟨_, _, Weak.refl, h t q (by rw [es, e2, List.append_assoc]) (by omega)⟩
end BP4

namespace BP5
open Go Go.Proofs VL D1 B5 B10 B12 B13 B14 BB1 BB2 BB4 BB5 BB8 BB9 C1 C2 C4 C6 C14 BP1 BP2 BP3 BP4 P1 P2
theorem print_parts (p : Prod) : printS p = (((((w_product ++ [32] ++ sB p.name ++ [32, 123, 10]) ++ firstS p) ++ ratesS p) ++ orderS p) ++ lateL p) ++ daysL p ++ [125, 10] := by
 unfold printS firstS ratesS orderS lateL daysL
 simp only [List.append_assoc]
set_option maxHeartbeats 4000000 in
theorem c_Print (p : Prod) (hp : p.ok) (K : Out -> List VObj -> Prop)
 (h0 : checkP p -> (printS p).length <= 20000 -> ∀ t, sB t = printS p -> K (.ret (.tup [.str t, .int .i64 0])) [])
 (h1 : checkP p -> 20000 < (printS p).length -> K (.ret (.tup [.str ⟨#[]⟩, .int .i64 3])) [])
 (h2 : ¬ checkP p -> K (.ret (.tup [.str ⟨#[]⟩, .int .i64 9])) []) :
 VCall Tryz.prog 11 [encP p] [] K := by
 have hcc : checkP p -> checkC p = 0 := fun hh => by unfold checkC; rw [if_pos hh]
 have hcn : ¬ checkP p -> checkC p = 9 := fun hh => by unfold checkC; rw [if_neg hh]
 have hcall := c_Check p hp
 obtain ⟨cc, hcd⟩ : ∃ cc, checkC p = cc := ⟨_, rfl⟩
 rw [hcd] at hcc hcn hcall
 unfold encP cellsP at *
 refine VCall.weak ?_
 refine call_fun [] 0 Tryz.func11 (by rfl) (by rfl) ?_
 conv=>whnf
 (repeat' first | (refine step_go [] ?_;conv=>whnf) | (refine two ?_ ?_<;>intro g<;>(try simp only[bsx]at g)<;>(conv=>whnf)) | (refine And.intro rfl ?_;conv=>whnf) | fail)
 refine hcall _ ?_
 conv=>whnf
 (repeat' first | (refine step_go [] ?_;conv=>whnf) | (refine two ?_ ?_<;>intro g<;>(try simp only[bsx]at g)<;>(conv=>whnf)) | (refine And.intro rfl ?_;conv=>whnf) | fail)
 · have hn : ¬ checkP p := fun hh => g (hcc hh)
   rw [hcn hn]
   exact ⟨_, _, Weak.refl, h2 hn⟩
 have hck : checkP p := by
  by_cases hh : checkP p
  · exact hh
  · have := hcn hh; omega
 clear h2 hcc hcn hcall hcd
 have hnl : p.name.size <= 20 := by have := hck.1.1.1.1.2.1; rw [sB_len] at this; exact this
 refine ⟨szL (n := 10) (m := 20) (by decide) hnl (by decide), ?_⟩
 conv=>whnf
 (repeat' first | (refine step_go [] ?_;conv=>whnf) | (refine two ?_ ?_<;>intro g<;>(try simp only[bsx]at g)<;>(conv=>whnf)) | (refine And.intro rfl ?_;conv=>whnf) | fail)
 refine ⟨szL (n := 30) (m := 5) (szA (n := 10) (m := 20) (by decide) hnl) (by decide) (by decide), ?_⟩
 conv=>whnf
 obtain ⟨s1, hs1⟩ : ∃ s1 : ByteArray, s1 = ⟨#[112, 114, 111, 100, 117, 99, 116, 32]⟩ ++ p.name ++ ⟨#[32, 123, 10]⟩ := ⟨_, rfl⟩
 have es1 : sB s1 = w_product ++ [32] ++ sB p.name ++ [32, 123, 10] := by rw [hs1, sB_app, sB_app]; rfl
 have zs1 : s1.size <= 35 := by rw [hs1]; exact szA (n := 30) (m := 5) (szA (n := 10) (m := 20) (by decide) hnl) (by decide)
 rw [← hs1]
 clear hs1
 (repeat' first | (refine step_go [] ?_;conv=>whnf) | (refine two ?_ ?_<;>intro g<;>(try simp only[bsx]at g)<;>(conv=>whnf)) | (refine And.intro rfl ?_;conv=>whnf) | fail)
 refine c_wsP0 p s1 (by omega) _ fun q0 => ?_
 conv=>whnf
 (repeat' first | (refine step_go [] ?_;conv=>whnf) | (refine two ?_ ?_<;>intro g<;>(try simp only[bsx]at g)<;>(conv=>whnf)) | (refine And.intro rfl ?_;conv=>whnf) | (refine loop_round [] ?_;conv=>whnf) | (refine ⟨_, Weak.refl, ?_⟩;conv=>whnf) | (refine ⟨by decide, _, rfl, rfl, ?_⟩;conv=>whnf) | fail)
 refine c_first p hck s1 q0 (by omega) _ fun t1 q1 e1 z1 => ?_
 conv=>whnf
 (repeat' first | (refine step_go [] ?_;conv=>whnf) | (refine two ?_ ?_<;>intro g<;>(try simp only[bsx]at g)<;>(conv=>whnf)) | (refine And.intro rfl ?_;conv=>whnf) | (refine loop_round [] ?_;conv=>whnf) | (refine ⟨_, Weak.refl, ?_⟩;conv=>whnf) | (refine ⟨by decide, _, rfl, rfl, ?_⟩;conv=>whnf) | fail)
 refine c_rates p hck t1 q1 (by omega) _ fun t2 q2 e2 z2 => ?_
 conv=>whnf
 (repeat' first | (refine step_go [] ?_;conv=>whnf) | (refine two ?_ ?_<;>intro g<;>(try simp only[bsx]at g)<;>(conv=>whnf)) | (refine And.intro rfl ?_;conv=>whnf) | (refine loop_round [] ?_;conv=>whnf) | (refine ⟨_, Weak.refl, ?_⟩;conv=>whnf) | (refine ⟨by decide, _, rfl, rfl, ?_⟩;conv=>whnf) | fail)
 refine c_order p hck t2 q2 (by omega) _ fun t3 q3 e3 z3 => ?_
 conv=>whnf
 (repeat' first | (refine step_go [] ?_;conv=>whnf) | (refine two ?_ ?_<;>intro g<;>(try simp only[bsx]at g)<;>(conv=>whnf)) | (refine And.intro rfl ?_;conv=>whnf) | (refine loop_round [] ?_;conv=>whnf) | (refine ⟨_, Weak.refl, ?_⟩;conv=>whnf) | (refine ⟨by decide, _, rfl, rfl, ?_⟩;conv=>whnf) | fail)
 refine c_late p hck t3 q3 (by omega) _ fun t4 q4 e4 z4 => ?_
 conv=>whnf
 (repeat' first | (refine step_go [] ?_;conv=>whnf) | (refine two ?_ ?_<;>intro g<;>(try simp only[bsx]at g)<;>(conv=>whnf)) | (refine And.intro rfl ?_;conv=>whnf) | (refine loop_round [] ?_;conv=>whnf) | (refine ⟨_, Weak.refl, ?_⟩;conv=>whnf) | (refine ⟨by decide, _, rfl, rfl, ?_⟩;conv=>whnf) | fail)
 refine c_days p hck t4 q4 (by omega) _ fun t5 q5 e5 z5 => ?_
 conv=>whnf
 (repeat' first | (refine step_go [] ?_;conv=>whnf) | (refine two ?_ ?_<;>intro g<;>(try simp only[bsx]at g)<;>(conv=>whnf)) | (refine And.intro rfl ?_;conv=>whnf) | (refine loop_round [] ?_;conv=>whnf) | (refine ⟨_, Weak.refl, ?_⟩;conv=>whnf) | fail)
 have hz : (⟨#[125, 10]⟩ : ByteArray).size = 2 := rfl
 refine c_wsP p _ t5 q5 ⟨#[125, 10]⟩ (by rw [hz]; omega) _ fun q6 => ?_
 have et : sB (t5 ++ ⟨#[125, 10]⟩) = printS p := by
  rw [sB_app, e5, e4, e3, e2, e1, es1, print_parts]; rfl
 have zt : (t5 ++ ⟨#[125, 10]⟩ : ByteArray).size <= 30000 := by rw [ByteArray.size_append, hz]; omega
 have zt0 : 0 < (t5 ++ ⟨#[125, 10]⟩ : ByteArray).size := by rw [ByteArray.size_append, hz]; omega
 obtain ⟨T, hT⟩ : ∃ T : ByteArray, T = t5 ++ ⟨#[125, 10]⟩ := ⟨_, rfl⟩
 rw [← hT] at et zt zt0 ⊢
 have hlen : (printS p).length = T.size := by rw [← et, sB_len]
 rw [hlen] at h0 h1
 conv=>whnf
 (repeat' first | (refine step_go [] ?_;conv=>whnf) | (refine two ?_ ?_<;>intro g<;>(try simp only[bsx]at g)<;>(conv=>whnf)) | (refine And.intro rfl ?_;conv=>whnf) | fail)
 refine c_lenP p _ T q6 _ ?_
 conv=>whnf
 (repeat' first | (refine step_go [] ?_;conv=>whnf) | (refine two ?_ ?_<;>intro g<;>(try simp only[bsx]at g)<;>(conv=>whnf)) | (refine And.intro rfl ?_;conv=>whnf) | fail)
 · exact ⟨_, _, Weak.refl, h1 hck (by omega)⟩
 refine c_strP p _ T q6 zt0 (by omega) _ ?_
 conv=>whnf
 (repeat' first | (refine step_go [] ?_;conv=>whnf) | (refine two ?_ ?_<;>intro g<;>(try simp only[bsx]at g)<;>(conv=>whnf)) | (refine And.intro rfl ?_;conv=>whnf) | fail)
 exact ⟨_, _, weak_of (.cons (.eq rfl) .nil) .nil rfl rfl rfl, h0 hck (by omega) T et⟩
end BP5

namespace PL1
open Go Go.Proofs VL D1 B2 B15 B10 BB6 BB10 BB14 C1 C2 C6 C10 C11 C12 C13 C14 C15 C16 C17 C18
def plain0 : Prod := ⟨⟨#[104, 111, 109, 101]⟩, 2, 1, 1, 1, 12, 0, 60000000, [], 100000000, 1, 2, 3, 4, 1, [], 0, 1, []⟩
theorem c_Plain (K : Out -> List VObj -> Prop) (h : K (.ret (encP plain0)) []) : VCall Tryz.prog 20 [] [] K := by
 refine VCall.weak ?_
 refine call_fun [] 0 Tryz.func20 (by rfl) (by rfl) ?_
 conv=>whnf
 (repeat' first | (refine step_go [] ?_;conv=>whnf) | (refine two ?_ ?_<;>intro g<;>(try simp only[bsx]at g)<;>(conv=>whnf)) | (refine And.intro rfl ?_;conv=>whnf) | fail)
 refine ⟨_, _, weak_of (.cons (.agg ?_) .nil) .nil rfl rfl rfl, h⟩
 (repeat' first | exact VQs.nil | refine VQs.cons VQ.no ?_ | refine VQs.cons VQ.spare ?_ | refine VQs.cons (VQ.eq rfl) ?_)
@[reducible] def um (v : Int) (n : Int) : Int := IntKind.i64.wrap ((IntKind.u64.wrap v).tmod n)
theorem um_in (v : Int) {n : Int} (h : 1 <= n) (h2 : n <= 4000000000000000000) : 0 <= um v n /\ um v n < n := by
 have h3 : 0 <= IntKind.u64.wrap v := (wrapu64_range v).1
 have h4 := Int.tmod_lt_of_pos (IntKind.u64.wrap v) (b := n) (by omega)
 have h5 := Int.tmod_nonneg n h3
 unfold um
 rw [wrap64 (by omega) (by omega)]
 exact ⟨h5, h4⟩
theorem um1 (v : Int) {n : Int} (h : 1 <= n) (h2 : n <= 4000000000000000000) : IntKind.i64.wrap (1 + um v n) = 1 + um v n := by
 have := um_in v h h2
 rw [wrap64 (by omega) (by omega)]
def rndP (n : Int) : Int := if n = 0 then 1 else 3
def everyP (n : Int) : Int := if n = 0 then 1 else if n = 1 then 2 else if n = 2 then 3 else if n = 3 then 4 else if n = 4 then 6 else 12
theorem get_rndP {n : Int} (h : 0 <= n /\ n < 2) : ([.int .i64 1, .int .i64 3] : List V)[n.toNat]? = some (.int .i64 (rndP n)) := by
 have : n = 0 \/ n = 1 := by omega
 rcases this with rfl | rfl <;> rfl
theorem get_everyP {n : Int} (h : 0 <= n /\ n < 6) : ([.int .i64 1, .int .i64 2, .int .i64 3, .int .i64 4, .int .i64 6, .int .i64 12] : List V)[n.toNat]? = some (.int .i64 (everyP n)) := by
 have : n = 0 \/ n = 1 \/ n = 2 \/ n = 3 \/ n = 4 \/ n = 5 := by omega
 rcases this with rfl | rfl | rfl | rfl | rfl | rfl <;> rfl
def near0 (p : Prod) (t : Int) : Prod := ⟨⟨#[104, 111, 109, 101]⟩, IntKind.i64.wrap (1 + um p.count 3), rndP (um p.rnd 2), IntKind.i64.wrap (1 + um p.kind 3), everyP (um p.every 6), IntKind.i64.wrap (1 + IntKind.i64.wrap ((IntKind.u64.wrap p.times).tmod (IntKind.u64.wrap t))), 0, um p.rate 300000000, [], um p.pen 500000000, 1, 2, 3, 4, IntKind.i64.wrap (1 + um p.over 3), [], 0, 1, []⟩
noncomputable def near1 (p : Prod) (t : Int) : Prod := if checkP p then p else near0 p t
def near2 (p : Prod) (t : Int) : Prod := if t < p.times then { p with times := t, resets := [] } else p
def near3 (p : Prod) : Prod := if p.times <= p.grace \/ p.kind = 3 then { p with grace := 0 } else p
noncomputable def playP (p : Prod) (t : Int) : Prod := near3 (near2 (near1 p t) t)
set_option maxHeartbeats 4000000 in
theorem c_play (p : Prod) (hp : p.okW) (t : Int) (ht : 1 <= t /\ t <= 600) (K : Out -> List VObj -> Prop) (h : K (.ret (encP (playP p t))) []) : VCall Tryz.prog 16 [encP p, .int .i64 t] [] K := by
 refine VCall.weak ?_
 have hcall := c_rCheck p hp
 have hc0 : checkC p = 0 -> near1 p t = p := fun hh => by unfold checkC at hh; split at hh; exact if_pos (by assumption); cases hh
 have hc9 : checkC p ≠ 0 -> near1 p t = near0 p t := fun hh => by unfold checkC at hh; split at hh; exact absurd rfl hh; exact if_neg (by assumption)
 obtain ⟨cc, hcd⟩ : ∃ cc, checkC p = cc := ⟨_, rfl⟩
 rw [hcd] at hcall hc0 hc9
 clear hcd
 unfold playP at h
 have hut : IntKind.u64.wrap t = t := wrapu64 (by omega) (by omega)
 refine call_fun [] 0 Tryz.func16 (by rfl) (by rfl) ?_
 conv=>whnf
 (repeat' first | (refine step_go [] ?_;conv=>whnf) | (refine two ?_ ?_<;>intro g<;>(try simp only[bsx]at g)<;>(conv=>whnf)) | (refine And.intro rfl ?_;conv=>whnf) | (refine dr_go (by decide +kernel) ?_;conv=>whnf) | (refine c_Plain _ ?_;conv=>whnf) | (refine hcall _ ?_;conv=>whnf) | (refine ⟨(by decide : (3 : Int) ≠ 0), ?_⟩;conv=>whnf) | (refine ⟨(by decide : (2 : Int) ≠ 0), ?_⟩;conv=>whnf) | (refine ⟨(by decide : (6 : Int) ≠ 0), ?_⟩;conv=>whnf) | (refine ⟨(by decide : (300000000 : Int) ≠ 0), ?_⟩;conv=>whnf) | (refine ⟨(by decide : (500000000 : Int) ≠ 0), ?_⟩;conv=>whnf) | (refine ⟨(by rw [hut]; omega : IntKind.u64.wrap t ≠ 0), ?_⟩;conv=>whnf) | (refine ⟨(um_in p.rnd (n := 2) (by decide) (by decide)).1, _, get_rndP (um_in p.rnd (n := 2) (by decide) (by decide)), rfl, ?_⟩;conv=>whnf) | (refine ⟨(um_in p.every (n := 6) (by decide) (by decide)).1, _, get_everyP (um_in p.every (n := 6) (by decide) (by decide)), rfl, ?_⟩;conv=>whnf) | fail)
 all_goals
  first
  | rw [hc0 (by assumption)] at h
  | rw [hc9 (by assumption)] at h
  unfold near2 at h
  first
  | rw [if_pos (by assumption)] at h
  | rw [if_neg (Int.not_lt.2 (by assumption))] at h
  unfold near3 at h
  first
  | rw [if_pos (Or.inl (by assumption))] at h
  | rw [if_pos (Or.inr (by assumption))] at h
  | rw [if_neg (not_or.2 ⟨Int.not_le.2 (by assumption), by assumption⟩)] at h
  refine ⟨_, _, weak_of (.cons (.agg ?_) .nil) .nil rfl rfl rfl, h⟩
  (repeat' first | exact VQs.nil | refine VQs.cons VQ.no ?_ | refine VQs.cons VQ.spare ?_ | refine VQs.cons (VQ.eq rfl) ?_)
end PL1

namespace BW1
open Go Go.Proofs VL B10 BB6 BB10 BB11 BB14 C1 C2
theorem r_len (l : List Rs) : (rL l).length = l.length := by simp [rL]
theorem r_get (l : List Rs) (i : Nat) : (rL l)[i]? = (l[i]?).map encR := by simp [rL]
theorem r_eq (a b : Rs) : a = b ↔ a.aft = b.aft /\ a.rate = b.rate := by
 constructor
 · rintro rfl; simp
 · cases a; cases b; simp
instance : DecidableEq Rs := fun a b => decidable_of_iff _ (r_eq a b).symm
theorem r_flat (m : Nat) (a0 a1 : Int) : flatT (VL.sys Tryz.prog m []).P 31 [.int .i64 a0, .int .i64 a1] = true := by kernel_rfl
theorem r_eqE (a b : Rs) (K) (h : K (.ret (.bool (decide (a = b)))) []) : VCall Tryz.prog 66 [encR a, encR b] [] K := by
 refine call_fun [] 0 Tryz.func66 (by rfl) (by rfl) ?_
 conv=>whnf
 repeat' first
  | (refine step_go [] ?_;conv=>whnf)
  | (rw [r_flat];conv=>whnf)
 refine Eq.mp (congrArg (fun b => K (.ret (.bool b)) []) ?_) h
 rw [Bool.eq_iff_iff]
 simp [r_eq]
theorem r_same (l m : List Rs) (hl : l.length < 1000000) (K) (h : K (.ret (.bool (decide (l = m)))) []) : VCall Tryz.prog 65 [.sl (rL l) .no, .sl (rL m) .no, .fn (.func 66) [] []] [] K := by
 have hlen := r_len l
 have hlen2 := r_len m
 refine call_fun [] 0 Tryz.func65 (by rfl) (by rfl) ?_
 conv=>whnf
 repeat (refine step_go [] ?_;conv=>whnf)
 refine two (fun g => ?_) (fun g => ?_)
 · have hne : l ≠ m := by rintro rfl; simp at g
   rw [decide_eq_false hne] at h
   (conv=>whnf); (repeat (refine step_go [] ?_;conv=>whnf))
   exact h
 have hlm : l.length = m.length := by simp [hlen, hlen2] at g; omega
 (conv=>whnf); (repeat (refine step_go [] ?_;conv=>whnf))
 let S : Nat -> St := fun i => ⟨(.sl (rL l) .no :: .sl (rL m) .no :: .fn (.func 66) [] [] :: .undef :: .undef :: .undef :: .bool false :: .int .i64 i :: .undef :: .undef :: .undef :: .undef :: .undef :: .undef :: .undef :: .undef :: .undef :: .undef :: .undef :: .undef :: .undef :: .undef :: .undef :: .undef :: .undef :: .undef :: .undef :: .undef :: .undef :: .undef :: []), [], 0, []⟩
 refine VLoop.enter (s' := S 0) (weak_of ?_ .nil rfl rfl rfl) (VLoop.indW S (fun i => l.length - i) (fun i => i <= l.length /\ l.take i = m.take i) ?_ 0 ⟨by omega, by simp⟩)
 · (repeat' first | exact VWs.nil | refine VWs.cons VW.undef ?_ | refine VWs.cons (VW.eq rfl) ?_)
 · intro i hil ih
   obtain ⟨hi, ht⟩ := hil
   refine loop_round [] ?_; (conv=>whnf); (repeat (refine step_go [] ?_;conv=>whnf))
   refine two (fun g => ?_) (fun g => ?_)
   · have hi : i < l.length := by simp [hlen] at g; omega
     have hget : (rL l)[(i : Int).toNat]? = some (encR (l[i])) := by rw [Int.toNat_natCast, r_get, List.getElem?_eq_getElem hi]; rfl
     have hget2 : (rL m)[(i : Int).toNat]? = some (encR (m[i]'(by omega))) := by rw [Int.toNat_natCast, r_get, List.getElem?_eq_getElem (by omega)]; rfl
     (conv=>whnf); (repeat (refine step_go [] ?_;conv=>whnf))
     refine ⟨by decide +kernel, ?_⟩; conv=>whnf
     refine ⟨by omega, _, hget, rfl, ?_⟩; conv=>whnf
     refine ⟨by omega, _, hget2, rfl, ?_⟩; conv=>whnf
     refine r_eqE _ _ _ ?_; (conv=>whnf); (repeat (refine step_go [] ?_;conv=>whnf))
     refine two (fun g => ?_) (fun g => ?_)
     · have hne : l[i] ≠ m[i]'(by omega) := by simpa using g
       have hne : l ≠ m := by rintro rfl; exact hne rfl
       rw [decide_eq_false hne] at h
       (conv=>whnf); (repeat (refine step_go [] ?_;conv=>whnf))
       refine ⟨_, Weak.refl, ?_⟩; (conv=>whnf); (repeat (refine step_go [] ?_;conv=>whnf))
       exact h
     · have he : l[i] = m[i]'(by omega) := by simpa using g
       (conv=>whnf); (repeat (refine step_go [] ?_;conv=>whnf))
       refine ⟨S (i + 1), weak_of ?_ .nil rfl rfl rfl, ih (i + 1) ⟨by omega, by rw [List.take_succ_eq_append_getElem hi, List.take_succ_eq_append_getElem (by omega : i < m.length), ht, he]⟩ (by omega)⟩
       repeat' first
        | exact VWs.nil
        | refine VWs.cons VW.undef ?_
        | refine VWs.cons (VW.eq rfl) ?_
        | refine VWs.cons (VW.eq (congrArg (V.int .i64) (by rw [wrap64 (by omega) (by omega)]; omega))) ?_
   · have hi : i = l.length := by simp [hlen] at g; omega
     subst hi
     have he : l = m := by rw [List.take_length, hlm, List.take_length] at ht; exact ht
     rw [decide_eq_true he] at h
     (conv=>whnf); (repeat (refine step_go [] ?_;conv=>whnf))
     refine ⟨_, Weak.refl, ?_⟩; (conv=>whnf); (repeat (refine step_go [] ?_;conv=>whnf))
     exact h
theorem r_plain (l m : List Rs) (hl : l.length < 1000000) (K) (h : K (.ret (.bool (decide (l = m)))) []) : VCall Tryz.prog 35 [.sl (rL l) .no, .sl (rL m) .no] [] K := by
 refine call_fun [] 0 Tryz.func35 (by rfl) (by rfl) ?_
 (conv=>whnf); (repeat (refine step_go [] ?_;conv=>whnf))
 refine r_same l m hl _ ?_; (conv=>whnf); (repeat (refine step_go [] ?_;conv=>whnf))
 exact h
end BW1

namespace BW2
open Go Go.Proofs VL B10 BB6 BB10 BB11 BB14 C1 C2
theorem t_len (l : List Ti) : (tL l).length = l.length := by simp [tL]
theorem t_get (l : List Ti) (i : Nat) : (tL l)[i]? = (l[i]?).map encT := by simp [tL]
theorem t_eq (a b : Ti) : a = b ↔ a.days = b.days /\ a.fee = b.fee := by
 constructor
 · rintro rfl; simp
 · cases a; cases b; simp
instance : DecidableEq Ti := fun a b => decidable_of_iff _ (t_eq a b).symm
theorem t_flat (m : Nat) (a0 a1 : Int) : flatT (VL.sys Tryz.prog m []).P 34 [.int .i64 a0, .int .i64 a1] = true := by kernel_rfl
theorem t_eqE (a b : Ti) (K) (h : K (.ret (.bool (decide (a = b)))) []) : VCall Tryz.prog 68 [encT a, encT b] [] K := by
 refine call_fun [] 0 Tryz.func68 (by rfl) (by rfl) ?_
 conv=>whnf
 repeat' first
  | (refine step_go [] ?_;conv=>whnf)
  | (rw [t_flat];conv=>whnf)
 refine Eq.mp (congrArg (fun b => K (.ret (.bool b)) []) ?_) h
 rw [Bool.eq_iff_iff]
 simp [t_eq]
theorem t_same (l m : List Ti) (hl : l.length < 1000000) (K) (h : K (.ret (.bool (decide (l = m)))) []) : VCall Tryz.prog 67 [.sl (tL l) .no, .sl (tL m) .no, .fn (.func 68) [] []] [] K := by
 have hlen := t_len l
 have hlen2 := t_len m
 refine call_fun [] 0 Tryz.func67 (by rfl) (by rfl) ?_
 conv=>whnf
 repeat (refine step_go [] ?_;conv=>whnf)
 refine two (fun g => ?_) (fun g => ?_)
 · have hne : l ≠ m := by rintro rfl; simp at g
   rw [decide_eq_false hne] at h
   (conv=>whnf); (repeat (refine step_go [] ?_;conv=>whnf))
   exact h
 have hlm : l.length = m.length := by simp [hlen, hlen2] at g; omega
 (conv=>whnf); (repeat (refine step_go [] ?_;conv=>whnf))
 let S : Nat -> St := fun i => ⟨(.sl (tL l) .no :: .sl (tL m) .no :: .fn (.func 68) [] [] :: .undef :: .undef :: .undef :: .bool false :: .int .i64 i :: .undef :: .undef :: .undef :: .undef :: .undef :: .undef :: .undef :: .undef :: .undef :: .undef :: .undef :: .undef :: .undef :: .undef :: .undef :: .undef :: .undef :: .undef :: .undef :: .undef :: .undef :: .undef :: []), [], 0, []⟩
 refine VLoop.enter (s' := S 0) (weak_of ?_ .nil rfl rfl rfl) (VLoop.indW S (fun i => l.length - i) (fun i => i <= l.length /\ l.take i = m.take i) ?_ 0 ⟨by omega, by simp⟩)
 · (repeat' first | exact VWs.nil | refine VWs.cons VW.undef ?_ | refine VWs.cons (VW.eq rfl) ?_)
 · intro i hil ih
   obtain ⟨hi, ht⟩ := hil
   refine loop_round [] ?_; (conv=>whnf); (repeat (refine step_go [] ?_;conv=>whnf))
   refine two (fun g => ?_) (fun g => ?_)
   · have hi : i < l.length := by simp [hlen] at g; omega
     have hget : (tL l)[(i : Int).toNat]? = some (encT (l[i])) := by rw [Int.toNat_natCast, t_get, List.getElem?_eq_getElem hi]; rfl
     have hget2 : (tL m)[(i : Int).toNat]? = some (encT (m[i]'(by omega))) := by rw [Int.toNat_natCast, t_get, List.getElem?_eq_getElem (by omega)]; rfl
     (conv=>whnf); (repeat (refine step_go [] ?_;conv=>whnf))
     refine ⟨by decide +kernel, ?_⟩; conv=>whnf
     refine ⟨by omega, _, hget, rfl, ?_⟩; conv=>whnf
     refine ⟨by omega, _, hget2, rfl, ?_⟩; conv=>whnf
     refine t_eqE _ _ _ ?_; (conv=>whnf); (repeat (refine step_go [] ?_;conv=>whnf))
     refine two (fun g => ?_) (fun g => ?_)
     · have hne : l[i] ≠ m[i]'(by omega) := by simpa using g
       have hne : l ≠ m := by rintro rfl; exact hne rfl
       rw [decide_eq_false hne] at h
       (conv=>whnf); (repeat (refine step_go [] ?_;conv=>whnf))
       refine ⟨_, Weak.refl, ?_⟩; (conv=>whnf); (repeat (refine step_go [] ?_;conv=>whnf))
       exact h
     · have he : l[i] = m[i]'(by omega) := by simpa using g
       (conv=>whnf); (repeat (refine step_go [] ?_;conv=>whnf))
       refine ⟨S (i + 1), weak_of ?_ .nil rfl rfl rfl, ih (i + 1) ⟨by omega, by rw [List.take_succ_eq_append_getElem hi, List.take_succ_eq_append_getElem (by omega : i < m.length), ht, he]⟩ (by omega)⟩
       repeat' first
        | exact VWs.nil
        | refine VWs.cons VW.undef ?_
        | refine VWs.cons (VW.eq rfl) ?_
        | refine VWs.cons (VW.eq (congrArg (V.int .i64) (by rw [wrap64 (by omega) (by omega)]; omega))) ?_
   · have hi : i = l.length := by simp [hlen] at g; omega
     subst hi
     have he : l = m := by rw [List.take_length, hlm, List.take_length] at ht; exact ht
     rw [decide_eq_true he] at h
     (conv=>whnf); (repeat (refine step_go [] ?_;conv=>whnf))
     refine ⟨_, Weak.refl, ?_⟩; (conv=>whnf); (repeat (refine step_go [] ?_;conv=>whnf))
     exact h
theorem t_plain (l m : List Ti) (hl : l.length < 1000000) (K) (h : K (.ret (.bool (decide (l = m)))) []) : VCall Tryz.prog 36 [.sl (tL l) .no, .sl (tL m) .no] [] K := by
 refine call_fun [] 0 Tryz.func36 (by rfl) (by rfl) ?_
 (conv=>whnf); (repeat (refine step_go [] ?_;conv=>whnf))
 refine t_same l m hl _ ?_; (conv=>whnf); (repeat (refine step_go [] ?_;conv=>whnf))
 exact h
end BW2

namespace BW3
open Go Go.Proofs VL B10 BB6 BB10 BB11 BB14 C1 C2
theorem i_len (l : List Int) : (iL l).length = l.length := by simp [iL]
theorem i_get (l : List Int) (i : Nat) : (iL l)[i]? = (l[i]?).map (V.int .i64) := by simp [iL]
theorem i_eqE (a b : Int) (K) (h : K (.ret (.bool (decide (a = b)))) []) : VCall Tryz.prog 70 [(V.int .i64) a, (V.int .i64) b] [] K := by
 refine call_fun [] 0 Tryz.func70 (by rfl) (by rfl) ?_
 conv=>whnf
 repeat (refine step_go [] ?_;conv=>whnf)
 refine Eq.mp (congrArg (fun b => K (.ret (.bool b)) []) ?_) h
 rw [Bool.eq_iff_iff]
 simp
theorem i_same (l m : List Int) (hl : l.length < 1000000) (K) (h : K (.ret (.bool (decide (l = m)))) []) : VCall Tryz.prog 69 [.sl (iL l) .no, .sl (iL m) .no, .fn (.func 70) [] []] [] K := by
 have hlen := i_len l
 have hlen2 := i_len m
 refine call_fun [] 0 Tryz.func69 (by rfl) (by rfl) ?_
 conv=>whnf
 repeat (refine step_go [] ?_;conv=>whnf)
 refine two (fun g => ?_) (fun g => ?_)
 · have hne : l ≠ m := by rintro rfl; simp at g
   rw [decide_eq_false hne] at h
   (conv=>whnf); (repeat (refine step_go [] ?_;conv=>whnf))
   exact h
 have hlm : l.length = m.length := by simp [hlen, hlen2] at g; omega
 (conv=>whnf); (repeat (refine step_go [] ?_;conv=>whnf))
 let S : Nat -> St := fun i => ⟨(.sl (iL l) .no :: .sl (iL m) .no :: .fn (.func 70) [] [] :: .undef :: .undef :: .undef :: .bool false :: .int .i64 i :: .undef :: .undef :: .undef :: .undef :: .undef :: .undef :: .undef :: .undef :: .undef :: .undef :: .undef :: .undef :: .undef :: .undef :: .undef :: .undef :: .undef :: .undef :: .undef :: .undef :: .undef :: .undef :: []), [], 0, []⟩
 refine VLoop.enter (s' := S 0) (weak_of ?_ .nil rfl rfl rfl) (VLoop.indW S (fun i => l.length - i) (fun i => i <= l.length /\ l.take i = m.take i) ?_ 0 ⟨by omega, by simp⟩)
 · (repeat' first | exact VWs.nil | refine VWs.cons VW.undef ?_ | refine VWs.cons (VW.eq rfl) ?_)
 · intro i hil ih
   obtain ⟨hi, ht⟩ := hil
   refine loop_round [] ?_; (conv=>whnf); (repeat (refine step_go [] ?_;conv=>whnf))
   refine two (fun g => ?_) (fun g => ?_)
   · have hi : i < l.length := by simp [hlen] at g; omega
     have hget : (iL l)[(i : Int).toNat]? = some ((V.int .i64) (l[i])) := by rw [Int.toNat_natCast, i_get, List.getElem?_eq_getElem hi]; rfl
     have hget2 : (iL m)[(i : Int).toNat]? = some ((V.int .i64) (m[i]'(by omega))) := by rw [Int.toNat_natCast, i_get, List.getElem?_eq_getElem (by omega)]; rfl
     (conv=>whnf); (repeat (refine step_go [] ?_;conv=>whnf))
     refine ⟨by decide +kernel, ?_⟩; conv=>whnf
     refine ⟨by omega, _, hget, rfl, ?_⟩; conv=>whnf
     refine ⟨by omega, _, hget2, rfl, ?_⟩; conv=>whnf
     refine i_eqE _ _ _ ?_; (conv=>whnf); (repeat (refine step_go [] ?_;conv=>whnf))
     refine two (fun g => ?_) (fun g => ?_)
     · have hne : l[i] ≠ m[i]'(by omega) := by simpa using g
       have hne : l ≠ m := by rintro rfl; exact hne rfl
       rw [decide_eq_false hne] at h
       (conv=>whnf); (repeat (refine step_go [] ?_;conv=>whnf))
       refine ⟨_, Weak.refl, ?_⟩; (conv=>whnf); (repeat (refine step_go [] ?_;conv=>whnf))
       exact h
     · have he : l[i] = m[i]'(by omega) := by simpa using g
       (conv=>whnf); (repeat (refine step_go [] ?_;conv=>whnf))
       refine ⟨S (i + 1), weak_of ?_ .nil rfl rfl rfl, ih (i + 1) ⟨by omega, by rw [List.take_succ_eq_append_getElem hi, List.take_succ_eq_append_getElem (by omega : i < m.length), ht, he]⟩ (by omega)⟩
       repeat' first
        | exact VWs.nil
        | refine VWs.cons VW.undef ?_
        | refine VWs.cons (VW.eq rfl) ?_
        | refine VWs.cons (VW.eq (congrArg (V.int .i64) (by rw [wrap64 (by omega) (by omega)]; omega))) ?_
   · have hi : i = l.length := by simp [hlen] at g; omega
     subst hi
     have he : l = m := by rw [List.take_length, hlm, List.take_length] at ht; exact ht
     rw [decide_eq_true he] at h
     (conv=>whnf); (repeat (refine step_go [] ?_;conv=>whnf))
     refine ⟨_, Weak.refl, ?_⟩; (conv=>whnf); (repeat (refine step_go [] ?_;conv=>whnf))
     exact h
theorem i_plain (l m : List Int) (hl : l.length < 1000000) (K) (h : K (.ret (.bool (decide (l = m)))) []) : VCall Tryz.prog 37 [.sl (iL l) .no, .sl (iL m) .no] [] K := by
 refine call_fun [] 0 Tryz.func37 (by rfl) (by rfl) ?_
 (conv=>whnf); (repeat (refine step_go [] ?_;conv=>whnf))
 refine i_same l m hl _ ?_; (conv=>whnf); (repeat (refine step_go [] ?_;conv=>whnf))
 exact h
end BW3

namespace BW4
open Go Go.Proofs VL B10 BB6 BB10 BB14 C1 C2 BW1 BW2 BW3
theorem sB_inj' {a b : ByteArray} (h : sB a = sB b) : a = b := by rw [← toBA_sB a, h, toBA_sB b]
theorem ba_toList {a b : ByteArray} (h : a.toList = b.toList) : a = b := by
 have := str_beq a b
 rw [beq_iff_eq.2 h] at this
 exact sB_inj' (beq_iff_eq.1 this.symm)
set_option maxHeartbeats 8000000 in
theorem c_sameD (p q : Prod) (h1 : p.resets.length < 1000000) (h2 : p.late.length < 1000000) (h3 : p.hol.length < 1000000) (K : Out -> List VObj -> Prop) (h : ∀ b : Bool, (b = true ↔ p = q) -> K (.ret (.bool b)) []) : VCall Tryz.prog 17 [encP p, encP q] [] K := by
 unfold encP cellsP
 refine call_fun [] 0 Tryz.func17 (by rfl) (by rfl) ?_
 conv=>whnf
 (repeat' first | (refine step_go [] ?_;conv=>whnf) | (refine two ?_ ?_<;>intro g<;>(try simp only[bsx]at g)<;>(conv=>whnf)) | (refine And.intro rfl ?_;conv=>whnf) | (refine r_plain p.resets q.resets h1 _ ?_;conv=>whnf) | (refine t_plain p.late q.late h2 _ ?_;conv=>whnf) | (refine i_plain p.hol q.hol h3 _ ?_;conv=>whnf) | (rw [fl_4];conv=>whnf) | fail)
 all_goals first
  | (refine h false (iff_of_false (by decide) fun hh => ?_)
     rw [hh] at g
     first
     | exact g rfl
     | (simp at g; done))
  | (refine h _ ⟨fun hh => ?_, fun hh => by subst hh; simp⟩
     have e1 := ba_toList (by assumption)
     cases p
     cases q
     simp_all
     done)
  | trace_state
end BW4

namespace PA1
open Go Go.Proofs VL D1 D2 B2 B8 B15 C19 B10 B12 B13 B14 B20 BB4 BB5 BB6 BB7 BB8 BB9 BB10 BB14 C1 C2 C3 C4 C6 C14 C15 C18 BP1 BP5 BW1 BW2 BW3 BW4 P1 P2 PS1 PS4 PL1
theorem name_home : nameP (sB ⟨#[104, 111, 109, 101]⟩) := by
 have e : sB (⟨#[104, 111, 109, 101]⟩ : ByteArray) = [104, 111, 109, 101] := rfl
 rw [e]
 refine ⟨⟨by decide, by decide, fun x hx => ?_, by decide⟩, by decide⟩
 injection hx with hx; subst hx; decide
theorem plain_ok : checkP plain0 := by
 refine ⟨⟨⟨name_home, by decide, by decide, by decide⟩, by unfold shape2; decide, by unfold shape3; decide⟩, ⟨by decide, by decide, by decide, trivial⟩, ⟨by unfold orderP; decide, by decide⟩, ⟨by decide, by decide, by decide, trivial⟩, ⟨⟨by decide, trivial⟩, by decide, by decide⟩⟩
theorem res_all {times : Int} : ∀ {q : Option Rs} {l : List Rs}, resetsP times q l -> ∀ r ∈ l, (1 <= r.aft /\ r.aft <= times - 1) /\ 0 <= r.rate /\ r.rate <= 1000000000
 | _, [], _, r, hr => by cases hr
 | q, x :: l, h, r, hr => by
   rcases List.mem_cons.1 hr with rfl | hr
   · exact ⟨h.1, h.2.1⟩
   · exact res_all h.2.2.2 r hr
theorem tier_all : ∀ {q : Option Ti} {l : List Ti}, tiersP q l -> ∀ r ∈ l, (1 <= r.days /\ r.days <= 365) /\ 0 <= r.fee /\ r.fee <= 10000000000000
 | _, [], _, r, hr => by cases hr
 | q, x :: l, h, r, hr => by
   rcases List.mem_cons.1 hr with rfl | hr
   · exact ⟨h.1, h.2.1⟩
   · exact tier_all h.2.2.2 r hr
theorem ok_of_check {p : Prod} (h : checkP p) : p.ok := by
 obtain ⟨⟨⟨hname, hcount, hrnd, hkind⟩, hevery, hshape⟩, ⟨hrate, hpen, hrl, hres⟩, ⟨⟨g1, g2, g3, g4, _⟩, hover⟩, ⟨hll, hcap, hlc, htie⟩, ⟨⟨hhl, hhol⟩, hroll, hrh⟩⟩ := h
 have nl := hname.1.2.1
 rw [sB_len] at nl
 unfold shape2 at hevery
 unfold shape3 at hshape
 constructor
 all_goals try (unfold I64; omega)
 · omega
 · intro x hx; have := res_all hres x hx; unfold I64; omega
 · intro x hx; have := tier_all htie x hx; unfold I64; omega
 · intro x hx; have := hol_in hhol x hx; unfold I64; omega
 all_goals omega
theorem near0_ok (p : Prod) {t : Int} (ht : 1 <= t /\ t <= 600) : checkP (near0 p t) /\ (near0 p t).times <= t := by
 have hut : IntKind.u64.wrap t = t := wrapu64 (by omega) (by omega)
 have u1 := um_in p.count (n := 3) (by decide) (by decide)
 have u2 := um_in p.rnd (n := 2) (by decide) (by decide)
 have u3 := um_in p.kind (n := 3) (by decide) (by decide)
 have u4 := um_in p.every (n := 6) (by decide) (by decide)
 have u5 := um_in p.times (n := t) (by omega) (by omega)
 have u6 := um_in p.rate (n := 300000000) (by decide) (by decide)
 have u7 := um_in p.pen (n := 500000000) (by decide) (by decide)
 have u8 := um_in p.over (n := 3) (by decide) (by decide)
 have e1 := um1 p.count (n := 3) (by decide) (by decide)
 have e3 := um1 p.kind (n := 3) (by decide) (by decide)
 have e5 := um1 p.times (n := t) (by omega) (by omega)
 have e8 := um1 p.over (n := 3) (by decide) (by decide)
 have hrn : rndP (um p.rnd 2) = 1 \/ rndP (um p.rnd 2) = 3 := by unfold rndP; split <;> simp
 have hev : everyP (um p.every 6) = 1 \/ everyP (um p.every 6) = 2 \/ everyP (um p.every 6) = 3 \/ everyP (um p.every 6) = 4 \/ everyP (um p.every 6) = 6 \/ everyP (um p.every 6) = 12 := by unfold everyP; (repeat' split) <;> decide
 unfold near0
 rw [hut, e1, e3, e5, e8]
 refine ⟨⟨⟨⟨name_home, by simp only; omega, hrn, by simp only; omega⟩, hev, ?_⟩, ⟨by simp only; omega, by simp only; omega, by simp, trivial⟩, ⟨by unfold orderP; simp, by simp only; omega⟩, ⟨by simp, by simp, .inr rfl, trivial⟩, ⟨⟨by simp, trivial⟩, by simp, .inr rfl⟩⟩, by simp only; omega⟩
 unfold shape3
 simp only
 refine ⟨by omega, by omega, .inr trivial⟩
theorem play_ok (p : Prod) {t : Int} (ht : 1 <= t /\ t <= 600) : checkP (playP p t) /\ (playP p t).times <= t := by
 have h1 : checkP (near1 p t) := by
  unfold near1
  split
  · assumption
  · exact (near0_ok p ht).1
 have h0 : 0 <= (near1 p t).grace := by obtain ⟨⟨_, _, hs⟩, _⟩ := h1; unfold shape3 at hs; omega
 unfold playP
 generalize near1 p t = q at h1 h0
 obtain ⟨⟨hn, hevery, hshape⟩, ⟨hrate, hpen, hrl, hres⟩, hord, hlate, hday⟩ := h1
 unfold shape3 at hshape
 unfold near2
 split
 · unfold near3
   split
   · exact ⟨⟨⟨hn, hevery, show (1 <= t /\ t <= 600) /\ ((0 : Int) <= 0 /\ 0 <= t - 1) /\ (q.kind ≠ 3 \/ (0 : Int) = 0) by omega⟩, ⟨hrate, hpen, by simp, trivial⟩, hord, hlate, hday⟩, Int.le_refl t⟩
   · rename_i h
     have h : ¬(t <= q.grace \/ q.kind = 3) := h
     exact ⟨⟨⟨hn, hevery, show (1 <= t /\ t <= 600) /\ (0 <= q.grace /\ q.grace <= t - 1) /\ (q.kind ≠ 3 \/ q.grace = 0) by omega⟩, ⟨hrate, hpen, by simp, trivial⟩, hord, hlate, hday⟩, Int.le_refl t⟩
 · unfold near3
   split
   · exact ⟨⟨⟨hn, hevery, show (1 <= q.times /\ q.times <= 600) /\ ((0 : Int) <= 0 /\ 0 <= q.times - 1) /\ (q.kind ≠ 3 \/ (0 : Int) = 0) by omega⟩, ⟨hrate, hpen, hrl, hres⟩, hord, hlate, hday⟩, show q.times <= t by omega⟩
   · exact ⟨⟨⟨hn, hevery, show (1 <= q.times /\ q.times <= 600) /\ (0 <= q.grace /\ q.grace <= q.times - 1) /\ (q.kind ≠ 3 \/ q.grace = 0) by omega⟩, ⟨hrate, hpen, hrl, hres⟩, hord, hlate, hday⟩, by omega⟩
theorem print50 (p : Prod) : 50 < (printS p).length := by
 unfold printS
 simp only [List.length_append, ln_len, List.length_cons, List.length_nil]
 have z : w_product.length = 7 /\ w_count.length = 5 /\ w_round.length = 5 /\ w_kind.length = 4 /\ w_every.length = 5 /\ w_times.length = 5 /\ w_grace.length = 5 /\ w_rate.length = 4 /\ w_penalty.length = 7 /\ w_order.length = 5 /\ w_over.length = 4 /\ w_cap.length = 3 /\ w_roll.length = 4 := ⟨rfl, rfl, rfl, rfl, rfl, rfl, rfl, rfl, rfl, rfl, rfl, rfl, rfl⟩
 omega
theorem take15 : (printS plain0).take 15 = [112, 114, 111, 100, 117, 99, 116, 32, 104, 111, 109, 101, 32, 123, 10] := by
 rw [PS1.printS_eq]
 have e : ∀ x y z : List Int, (w_product ++ [32] ++ sB plain0.name ++ [32, 123, 10] ++ x ++ y).take 15 = w_product ++ [32] ++ sB plain0.name ++ [32, 123, 10] := fun x y z => by
  rw [List.append_assoc]
  exact List.take_left' rfl
 rw [e _ _ []]; rfl
set_option maxHeartbeats 2000000 in
theorem c_awake (K : Out -> List VObj -> Prop) (h : K (.ret (.bool true)) []) : VCall Tryz.prog 7 [] [] K := by
 refine call_fun [] 0 Tryz.func7 (by rfl) (by rfl) ?_
 conv=>whnf
 (repeat' first | (refine step_go [] ?_;conv=>whnf) | (refine two ?_ ?_<;>intro g<;>(try simp only[bsx]at g)<;>(conv=>whnf)) | (refine And.intro rfl ?_;conv=>whnf) | (refine c_Plain _ ?_;conv=>whnf) | fail)
 refine c_Print plain0 (ok_of_check plain_ok) _ (fun _ hl T hT => ?_) (fun _ hl => absurd (print_len plain_ok) (by omega)) (fun hn => absurd plain_ok hn)
 have hz : T.size = (printS plain0).length := by rw [← hT, sB_len]
 have h50 := print50 plain0
 rw [← hz] at h50 hl
 have hx : T.extract 0 15 = ⟨#[112, 114, 111, 100, 117, 99, 116, 32, 104, 111, 109, 101, 32, 123, 10]⟩ := by
  apply P1.sB_inj
  rw [sB_ext, hT, take15]; rfl
 conv=>whnf
 (repeat' first | (refine step_go [] ?_;conv=>whnf) | (refine two ?_ ?_<;>intro g<;>(try simp only[bsx]at g)<;>(conv=>whnf)) | (refine And.intro rfl ?_;conv=>whnf) | (refine ⟨by omega, by omega, by omega, ?_⟩;conv=>whnf) | (refine ⟨by decide, by decide, by omega, ?_⟩;conv=>whnf) | fail)
 all_goals first
  | (rw [show T.extract (Int.toNat 0) (Int.toNat 15) = _ from hx, beq_self_eq_true]
     exact h)
  | (exfalso; omega)
  | trace_state
end PA1

namespace PA2
open Go Go.Proofs VL D1 D2 B2 B8 B15 C19 B10 B12 B13 B14 B20 BB4 BB5 BB6 BB7 BB8 BB9 BB10 BB14 C1 C2 C3 C4 C6 C14 C15 C18 BP1 BP5 BW1 BW2 BW3 BW4 P1 P2 PS1 PS4 PL1 PA1
theorem c_awakeT (b : Bool) (hb : b = true) (K : Out -> List VObj -> Prop) (h : K (.ret (.bool b)) []) : VCall Tryz.prog 7 [] [] K := c_awake K (by rw [hb] at h; exact h)
theorem c_PrintZ (E : ByteArray) (hE : E = ⟨#[]⟩) (z n : Int) (hz : z = 0) (hn : n = 9) (p : Prod) (hp : p.ok) (K : Out -> List VObj -> Prop)
 (h0 : checkP p -> ∀ t, sB t = printS p -> K (.ret (.tup [.str t, .int .i64 z])) []) (h2 : ¬ checkP p -> K (.ret (.tup [.str E, .int .i64 n])) []) : VCall Tryz.prog 11 [encP p] [] K := by
 subst hz hn hE
 exact c_Print p hp K (fun a _ => h0 a) (fun hc hl => absurd (print_len hc) (by omega)) h2
end PA2

namespace PA4
open Go Go.Proofs VL D1 D2 B2 B8 B15 C19 B10 B12 B13 B14 B20 BB4 BB5 BB6 BB7 BB8 BB9 BB10 BB14 C1 C2 C3 C4 C6 C14 C15 C18 C8 CO1 BP1 BP5 BW1 BW2 BW3 BW4 P1 P2 PS1 PS4 PL1 PA1 PA2
def scan : List Int -> Int -> Int -> Int -> Option (Int × Int)
 | [], _, n, last => some (n, last)
 | c :: r, i, n, last => if c = 10 then (if i = last + 1 then none else scan r (i + 1) (n + 1) i) else scan r (i + 1) n last
theorem scan_w (rest : List Int) : ∀ (w : List Int) (i n last : Int), 10 ∉ w -> scan (w ++ 10 :: rest) i n last = if i + w.length = last + 1 then none else scan rest (i + w.length + 1) (n + 1) (i + w.length)
 | [], i, n, last, _ => by
   show (if (10 : Int) = 10 then _ else _) = _
   rw [if_pos rfl]
   simp
 | c :: w, i, n, last, h => by
   show (if c = 10 then _ else scan (w ++ 10 :: rest) (i + 1) n last) = _
   rw [if_neg (fun hc => h (by simp [hc])), scan_w rest w (i + 1) n last (fun hh => h (.tail _ hh))]
   have e : i + 1 + (w.length : Int) = i + ((c :: w).length : Nat) := by rw [List.length_cons]; omega
   rw [e]
theorem scan_ls : ∀ (ls : List (List Int)) (i n : Int), (∀ l ∈ ls, l ≠ [] /\ 10 ∉ l) -> scan (ls.flatMap (· ++ [10])) i n (i - 1) = some (n + ls.length, i + (ls.flatMap (· ++ [10])).length - 1)
 | [], i, n, _ => by simp [scan]
 | l :: ls, i, n, h => by
   obtain ⟨h1, h2⟩ := h l (.head _)
   have hp := List.length_pos_iff.2 h1
   rw [List.flatMap_cons, List.append_assoc]
   show scan (l ++ 10 :: (ls.flatMap (· ++ [10]))) i n (i - 1) = _
   rw [scan_w _ l i n (i - 1) h2, if_neg (by omega)]
   have ih := scan_ls ls (i + l.length + 1) (n + 1) fun l' h' => h l' (.tail _ h')
   rw [show i + (l.length : Int) + 1 - 1 = i + l.length by omega] at ih
   rw [ih]
   simp only [List.length_cons, List.length_append, List.length_nil]
   congr 2
   · omega
   · push_cast; omega
theorem ok_no10 {t : Int × List Int} (h : okTok t = true) : 10 ∉ t.2 := by
 obtain ⟨k, a⟩ := t
 cases a with
 | nil => simp
 | cons c w =>
   unfold okTok at h
   simp only [Bool.or_eq_true, Bool.and_eq_true, List.all_eq_true] at h
   intro hh
   rcases h with ⟨⟨_, h1⟩, h2⟩ | ⟨⟨_, h1⟩, h2⟩
   · rcases List.mem_cons.1 hh with e | hh
     · have := (letB_iff c).1 h1; omega
     · have := (wordB_iff 10).1 (h2 10 hh)
       rcases this with h | h | h
       · have := (letB_iff 10).1 h; omega
       · have := (digB_iff 10).1 h; omega
       · omega
   · rcases List.mem_cons.1 hh with e | hh
     · have := (digB_iff c).1 h1; omega
     · have := (numB_iff 10).1 (h2 10 hh)
       rcases this with h | h | h | h | h
       · have := (digB_iff 10).1 h; omega
       all_goals omega
theorem txt_no10 : ∀ ts : List (Int × List Int), (∀ t ∈ ts, okTok t = true) -> 10 ∉ txt ts
 | [], _ => by simp [txt]
 | [(k, a)], h => by
   have := ok_no10 (h _ (.head _))
   simp [txt]; exact this
 | (k, a) :: t :: r, h => by
  have h1 := ok_no10 (h _ (.head _))
  have h2 := txt_no10 (t :: r) fun t ht => h t (.tail _ ht)
  simp [txt] at h1 h2 ⊢; exact ⟨h1, h2⟩
noncomputable def linesOf (p : Prod) : List (List Int) := [w_product ++ [32] ++ sB p.name ++ [32, 123]] ++ (cls p).map (fun ts => [32, 32] ++ txt ts) ++ [[125]]
theorem lines_print {p : Prod} (h : checkP p) : printS p = (linesOf p).flatMap (· ++ [10]) /\ (∀ l ∈ linesOf p, l ≠ [] /\ 10 ∉ l) /\ (linesOf p).length = 14 + p.resets.length + p.late.length + p.hol.length := by
 refine ⟨?_, ?_, ?_⟩
 · rw [printS_eq]
   unfold linesOf
   rw [List.flatMap_append, List.flatMap_append, List.flatMap_map]
   simp
   exact congrArg (fun f => List.flatMap f (cls p)) (funext fun ts => by unfold clT; simp)
 · intro l hl
   unfold linesOf at hl
   simp only [List.mem_append, List.mem_singleton, List.mem_map] at hl
   rcases hl with (rfl | ⟨ts, hts, rfl⟩) | rfl
   · have hn := ok_no10 (ok_name h.1.1.1)
     have hw : (10 : Int) ∉ w_product := by decide
     refine ⟨by simp, fun hh => ?_⟩
     simp only [List.mem_append, List.mem_cons, List.not_mem_nil, or_false] at hh
     rcases hh with ((hh | hh) | hh) | hh
     · exact hw hh
     · omega
     · exact hn hh
     · omega
   · have := txt_no10 ts (cls_ok h ts hts).1
     exact ⟨by simp, by simp; exact this⟩
   · exact ⟨by simp, by simp⟩
 · unfold linesOf cls
   simp only [List.length_append, List.length_map, List.length_cons, List.length_nil]
   omega
theorem scan_print {p : Prod} (h : checkP p) : scan (printS p) 0 0 (-1) = some (((14 + p.resets.length + p.late.length + p.hol.length : Nat) : Int), ((printS p).length : Int) - 1) := by
 obtain ⟨h1, h2, h3⟩ := lines_print h
 have := scan_ls (linesOf p) 0 0 h2
 rw [← h1, h3] at this
 rw [show ((0 : Int) - 1) = -1 from rfl] at this
 rw [this]
 simp
def hday (ns : List Int) (i : Nat) : Int := 19723 + 7 * (i : Int) + um (ns.getD i 0) 7
def hdays (ns : List Int) (k : Nat) : List Int := (List.range k).map (hday ns)
theorem hdays_succ (ns : List Int) (k : Nat) : hdays ns (k + 1) = hdays ns k ++ [hday ns k] := by unfold hdays; rw [List.range_succ, List.map_append]; rfl
theorem hol_days (ns : List Int) : ∀ (m a : Nat), a + m <= 51 -> ∀ q : Option Int, (∀ x, q = some x -> x < 19723 + 7 * (a : Int)) -> holP q ((List.range' a m).map (hday ns))
 | 0, a, _, q, _ => trivial
 | m + 1, a, h, q, hq => by
   have hu := um_in (ns.getD a 0) (n := 7) (by decide) (by decide)
   rw [List.range'_succ, List.map_cons]
   refine ⟨?_, fun x hx => ?_, hol_days ns m (a + 1) (by omega) _ fun x hx => ?_⟩
   · unfold hday; omega
   · have := hq x hx; unfold hday; omega
   · injection hx with hx; rw [← hx]; unfold hday; push_cast; omega
theorem lines_ok {P : Prod} (h : checkP P) (ns : List Int) {k : Nat} (hk : k <= 50) : checkP { P with roll := 2, hol := hdays ns k } := by
 obtain ⟨h1, h2, h3, h4, ⟨⟨h5, h6⟩, h7, h8⟩⟩ := h
 refine ⟨h1, h2, h3, h4, ⟨⟨by simp [hdays]; omega, ?_⟩, by simp, .inl (by simp)⟩⟩
 show holP none (hdays ns k)
 unfold hdays
 rw [List.range_eq_range']
 exact hol_days ns k 0 (by omega) none fun x hx => by cases hx
theorem key (R G : Prop) (h : (Unit -> R) -> G) (r : R) : G := h fun _ => r
set_option maxHeartbeats 8000000 in
theorem g_lines (p : Prod) (hp : p.okW) (ns : List Int) (hns : ns.length < 200000000000000) : VCall Tryz.prog 5 [encP p, .sl (iL ns) .no] [] fun out _ => out = .ret (.bool true) := by
 obtain ⟨kp, _⟩ := play_ok p (t := 40) (by decide)
 have cp := c_play p hp 40 (by decide)
 generalize playP p 40 = P at kp cp
 unfold encP cellsP at cp
 have hli : (iL ns).length = ns.length := by simp [iL]
 refine call_fun [] 0 Tryz.func5 (by rfl) (by rfl) ?_
 conv=>whnf
 (repeat' first | (refine step_go [] ?_;conv=>whnf) | (refine two ?_ ?_<;>intro g<;>(try simp only[bsx]at g)<;>(conv=>whnf)) | (refine And.intro rfl ?_;conv=>whnf) | (refine dr_go (by decide +kernel) ?_;conv=>whnf) | (refine cp _ ?_;conv=>whnf) | fail)
 let PC : V -> VObj := fun x => .cells true 27 [.str P.name, .int .i64 P.count, .int .i64 P.rnd, .int .i64 P.kind, .int .i64 P.every, .int .i64 P.times, .int .i64 P.grace, .int .i64 P.rate, .sl (rL P.resets) .no, .int .i64 P.pen, .int .i64 P.o1, .int .i64 P.o2, .int .i64 P.o3, .int .i64 P.o4, .int .i64 P.over, .sl (tL P.late) .no, .int .i64 P.cap, .int .i64 2, x]
 let S : Nat × List V -> St := fun x => ⟨(.undef :: .sl (iL ns) .no :: .ptr 0 0 :: .undef :: .bool false :: .int .i64 (x.1 : Nat) :: .undef :: .undef :: .undef :: .undef :: .undef :: .undef :: .undef :: .undef :: .undef :: .undef :: .undef :: .undef :: .undef :: .undef :: .undef :: .undef :: .undef :: .undef :: .undef :: .undef :: .undef :: .undef :: .undef :: .undef :: .undef :: .undef :: .undef :: .undef :: .undef :: .undef :: .undef :: .undef :: .undef :: .undef :: .undef :: .undef :: .undef :: .undef :: .undef :: .undef :: .undef :: .undef :: .undef :: .undef :: .undef :: .undef :: .undef :: .undef :: .undef :: .undef :: .undef :: .undef :: .undef :: .undef :: .undef :: .undef :: .undef :: .undef :: .undef :: .undef :: .undef :: .undef :: .undef :: .undef :: .undef :: .undef :: .undef :: .undef :: .undef :: .undef :: .undef :: .undef :: .undef :: .undef :: .undef :: .undef :: .undef :: .undef :: .undef :: .undef :: .undef :: .undef :: .undef :: .undef :: .undef :: .undef :: .undef :: []), [PC (.slo 1 1 0 x.1 (x.1 + x.2.length)), .buf false 1 (iL (hdays ns x.1) ++ x.2)], 0, []⟩
 refine VLoop.enter (s' := S (0, [])) (Weak.trans (weak_nil 0 18 1 none (ob := [PC (.sl [] .ex)]) (wr := true) (T := 27) (cs := [.str P.name, .int .i64 P.count, .int .i64 P.rnd, .int .i64 P.kind, .int .i64 P.every, .int .i64 P.times, .int .i64 P.grace, .int .i64 P.rate, .sl (rL P.resets) .no, .int .i64 P.pen, .int .i64 P.o1, .int .i64 P.o2, .int .i64 P.o3, .int .i64 P.o4, .int .i64 P.over, .sl (tL P.late) .no, .int .i64 P.cap, .int .i64 2, .sl [] .ex]) rfl rfl (Nat.zero_le _)) (weak_of ?_ (.cons (.eq rfl) (.cons (.eq rfl) .nil)) rfl rfl rfl)) (VLoop.indW S (fun x => 50 - x.1) (fun x => x.1 <= ns.length /\ x.1 <= 50) ?_ (0, []) ⟨Nat.zero_le _, Nat.zero_le _⟩)
 · (repeat' first | exact VWs.nil | refine VWs.cons VW.undef ?_ | refine VWs.cons (VW.eq rfl) ?_)
 rintro ⟨i, sp⟩ ⟨hi, hi5⟩ ih
 simp only at hi hi5
 dsimp only [S]
 refine key ?R _ (fun rest => ?h) ?r
 case h =>
  refine loop_round [] ?_; conv=>whnf
  (repeat' first | (refine step_go [] ?_;conv=>whnf) | (refine two ?_ ?_<;>intro g<;>(try simp only[bsx, hli]at g)<;>(conv=>whnf)) | (refine And.intro rfl ?_;conv=>whnf) | fail)
  · have hil : i < ns.length := by omega
    have hget : (iL ns)[(i : Int).toNat]? = some (.int .i64 (ns.getD i 0)) := by rw [Int.toNat_natCast]; simp [iL, List.getElem?_eq_getElem hil, List.getD_eq_getElem?_getD]
    have hu := um_in (ns.getD i 0) (n := 7) (by decide) (by decide)
    have hw : IntKind.i64.wrap (IntKind.i64.wrap (19723 + IntKind.i64.wrap (7 * (i : Int))) + um (ns.getD i 0) 7) = hday ns i := by
     unfold hday
     rw [wrap64 (x := 7 * (i : Int)) (by omega) (by omega), wrap64 (x := 19723 + 7 * (i : Int)) (by omega) (by omega), wrap64 (by omega) (by omega)]
    have hdl : (hdays ns i).length = i := by simp [hdays]
    have wi : IntKind.i64.wrap ((i : Int) + 1) = ((i + 1 : Nat) : Int) := by rw [wrap64 (by omega) (by omega)]; omega
    (repeat' first | (refine step_go [] ?_;conv=>whnf) | (refine two ?_ ?_<;>intro g<;>(try simp only[bsx]at g)<;>(conv=>whnf)) | (refine And.intro rfl ?_;conv=>whnf) | (refine ⟨by omega, _, hget, rfl, ?_⟩;conv=>whnf) | (refine ⟨(by decide : (7 : Int) ≠ 0), ?_⟩;conv=>whnf) | fail)
    refine ⟨by simp; omega, by simp [V.cells], ?_⟩
    conv=>whnf
    (repeat' first | (refine step_go [] ?_;conv=>whnf) | (refine two ?_ ?_<;>intro g<;>(try simp only[bsx]at g)<;>(conv=>whnf)) | (refine And.intro rfl ?_;conv=>whnf) | fail)
    · have hs1 : 1 <= sp.length := by have := Nat.le_of_ble_eq_true g; simp at this; omega
      refine ⟨by simp [iL, hdl], ?_⟩
      conv=>whnf
      (repeat' first | (refine step_go [] ?_;conv=>whnf) | (refine two ?_ ?_<;>intro g<;>(try simp only[bsx]at g)<;>(conv=>whnf)) | (refine And.intro rfl ?_;conv=>whnf) | fail)
      have hap := app_in (V.int .i64) (hdays ns i) (hday ns i) sp
      rw [hdl, ← hdays_succ] at hap
      refine ⟨S (i + 1, sp.drop 1), weak_of (by rw [wi]; (repeat' first | exact VWs.nil | refine VWs.cons VW.undef ?_ | refine VWs.cons (VW.eq rfl) ?_)) (.cons (.cells ?_) (.cons (.eq (by rw [show IntKind.i64.wrap (IntKind.i64.wrap (19723 + IntKind.i64.wrap (7 * (i : Int))) + IntKind.i64.wrap ((IntKind.u64.wrap (ns.getD i 0)).tmod 7)) = hday ns i from hw]; exact congrArg (fun l => VObj.buf false 1 l none) hap)) .nil)) rfl rfl rfl, ih (i + 1, sp.drop 1) ⟨by simp only; omega, by simp only; omega⟩ (by simp only; omega)⟩
      repeat' first
       | exact VWs.nil
       | refine VWs.cons (VW.eq rfl) ?_
       | refine VWs.cons (VW.eq (V_slo (by simp) (by simp; omega))) ?_
    · refine ⟨by simp [iL, hdl], fun sp' hsp => ?_⟩
      conv=>whnf
      (repeat' first | (refine step_go [] ?_;conv=>whnf) | (refine two ?_ ?_<;>intro g<;>(try simp only[bsx]at g)<;>(conv=>whnf)) | (refine And.intro rfl ?_;conv=>whnf) | fail)
      have hap := app_gr (V.int .i64) (hdays ns i) (hday ns i) sp sp'
      rw [hdl, ← hdays_succ] at hap
      refine weak_sel (src := [0, 2]) ?_
      conv=>whnf
      refine VLoop.enter (s' := S (i + 1, sp')) (weak_of (by rw [wi]; (repeat' first | exact VWs.nil | refine VWs.cons VW.undef ?_ | refine VWs.cons (VW.eq rfl) ?_)) (.cons (.cells ?_) (.cons (.eq (by rw [show IntKind.i64.wrap (IntKind.i64.wrap (19723 + IntKind.i64.wrap (7 * (i : Int))) + IntKind.i64.wrap ((IntKind.u64.wrap (ns.getD i 0)).tmod 7)) = hday ns i from hw]; exact congrArg (fun l => VObj.buf false 1 l none) hap)) .nil)) rfl rfl rfl) (ih (i + 1, sp') ⟨by simp only; omega, by simp only; omega⟩ (by simp only; omega))
      repeat' first
       | exact VWs.nil
       | refine VWs.cons (VW.eq rfl) ?_
       | refine VWs.cons (VW.eq (V_slo (by simp) (by simp))) ?_
  all_goals
   refine weak_then (s1 := S (i, sp)) (weak_of (by (repeat' first | exact VWs.nil | refine VWs.cons VW.undef ?_ | refine VWs.cons (VW.eq rfl) ?_)) (.cons (.eq rfl) (.cons (.eq rfl) .nil)) rfl rfl rfl) ?_
   exact rest ()
 case r =>
  clear ih
  dsimp only [S]
  have hdl : (hdays ns i).length = i := by simp [hdays]
  have kQ := lines_ok kp ns hi5
  obtain ⟨tt, htt⟩ : ∃ b : Bool, b = true := ⟨_, rfl⟩
  obtain ⟨z, hz⟩ : ∃ z : Int, z = 0 := ⟨_, rfl⟩
  refine ⟨_, Weak.refl, ?_⟩
  conv=>whnf
  (repeat' first | (refine step_go [] ?_;conv=>whnf) | (refine two ?_ ?_<;>intro g<;>(try simp only[bsx]at g)<;>(conv=>whnf)) | (refine And.intro rfl ?_;conv=>whnf) | (refine dr_go (by decide +kernel) ?_;conv=>whnf) | fail)
  refine VCall.lendC ?_
  conv=>whnf
  refine ⟨by simp [iL, hdl], ?_⟩
  conv=>whnf
  have tk : List.take i (List.drop 0 (iL (hdays ns i) ++ sp)) = iL (hdays ns i) := by
   have h1 : (iL (hdays ns i)).length = i := by simp [iL, hdl]
   rw [List.drop_zero]
   exact List.take_left' h1
  rw [tk]
  refine c_PrintZ ⟨#[]⟩ rfl z 9 hz rfl { P with roll := 2, hol := hdays ns i } (ok_of_check kQ) _ (fun _ T hT => ?_) (fun hn => absurd kQ hn)
  conv=>whnf
  refine ⟨rfl, ?_⟩
  conv=>whnf
  (repeat' first | (refine step_go [] ?_;conv=>whnf) | (refine two ?_ ?_<;>intro g<;>(try simp only[bsx]at g)<;>(conv=>whnf)) | (refine And.intro rfl ?_;conv=>whnf) | (refine dr_go (by decide +kernel) ?_;conv=>whnf) | fail)
  have hsc := scan_print kQ
  obtain ⟨L, hL⟩ : ∃ L, printS { P with roll := 2, hol := hdays ns i } = L := ⟨_, rfl⟩
  have hln := print_len kQ
  rw [hL] at hsc hT hln
  have hlz : T.size = L.length := by rw [← hT, sB_len]
  have hlh : ((hdays ns i).length : Int) = i := by rw [hdl]
  obtain ⟨N, hN⟩ : ∃ N : Int, N = ((14 + P.resets.length + P.late.length + i : Nat) : Int) := ⟨_, rfl⟩
  have hsc : scan L 0 0 (-1) = some (N, (L.length : Int) - 1) := by rw [hN, hsc]; simp only [hdl]
  have oP := ok_of_check kp
  have b1 := oP.lr; have b2 := oP.ll
  clear tk hL kQ
  let S2 : Nat × Int × Int -> St := fun x => ⟨(.undef :: .undef :: .ptr 0 0 :: .undef :: .bool false :: .undef :: .undef :: .str T :: .int .i64 z :: .int .i64 x.2.1 :: .int .i64 x.2.2 :: .int .i64 (x.1 : Nat) :: .undef :: .undef :: .undef :: .undef :: .undef :: .undef :: .undef :: .undef :: .undef :: .undef :: .undef :: .undef :: .undef :: .undef :: .undef :: .undef :: .undef :: .undef :: .undef :: .undef :: .undef :: .undef :: .undef :: .undef :: .undef :: .undef :: .undef :: .undef :: .undef :: .undef :: .undef :: .undef :: .undef :: .undef :: .undef :: .undef :: .undef :: .undef :: .undef :: .undef :: .undef :: .undef :: .undef :: .undef :: .undef :: .undef :: .undef :: .undef :: .undef :: .undef :: .undef :: .undef :: .undef :: .undef :: .undef :: .undef :: .undef :: .undef :: .undef :: .undef :: .undef :: .undef :: .undef :: .undef :: .undef :: .undef :: .undef :: .undef :: .undef :: .undef :: .undef :: .undef :: .undef :: .undef :: .undef :: .undef :: .undef :: .undef :: .undef :: .undef :: .undef :: []), [PC (.slo 1 1 0 i (i + sp.length)), .buf false 1 (iL (hdays ns i) ++ sp)], 0, []⟩
  refine VLoop.enter (s' := S2 (0, 0, -1)) (weak_of (by (repeat' first | exact VWs.nil | refine VWs.cons VW.undef ?_ | refine VWs.cons (VW.eq rfl) ?_)) (.cons (.eq rfl) (.cons (.eq rfl) .nil)) rfl rfl rfl) (VLoop.indW S2 (fun x => L.length - x.1) (fun x => x.1 <= L.length /\ scan (L.drop x.1) x.1 x.2.1 x.2.2 = some (N, (L.length : Int) - 1) /\ (0 <= x.2.1 /\ x.2.1 <= x.1) /\ (-1 <= x.2.2 /\ x.2.2 <= x.1)) ?_ (0, 0, -1) ⟨Nat.zero_le _, hsc, by simp, by simp⟩)
  rintro ⟨k, n, la⟩ ⟨hk, hs, hn, hla⟩ ih
  simp only at hk hs hn hla
  dsimp only [S2]
  refine loop_round [] ?_; conv=>whnf
  (repeat' first | (refine step_go [] ?_;conv=>whnf) | (refine two ?_ ?_<;>intro g<;>(try simp only[bsx, hlz]at g)<;>(conv=>whnf)) | (refine And.intro rfl ?_;conv=>whnf) | fail)
  · have hkl : k < L.length := by omega
    have hd := List.drop_eq_getElem_cons hkl
    obtain ⟨x, hx⟩ : ∃ x, L[k] = x := ⟨_, rfl⟩
    rw [hd, hx] at hs
    have wk : IntKind.i64.wrap ((k : Int) + 1) = ((k + 1 : Nat) : Int) := by rw [wrap64 (by omega) (by omega)]; omega
    have wn : IntKind.i64.wrap (n + 1) = n + 1 := wrap64 (by omega) (by omega)
    have wl : IntKind.i64.wrap (la + 1) = la + 1 := wrap64 (by omega) (by omega)
    refine idx_str (x := x) (by omega) (by rw [hT, Int.toNat_natCast, ← hx]; exact List.getElem?_eq_getElem hkl) fun c hc => ?_
    conv=>whnf
    (repeat (refine step_go [] ?_;conv=>whnf))
    rw [hc]
    (repeat' first | (refine step_go [] ?_;conv=>whnf) | (refine two ?_ ?_<;>intro g<;>(try simp only[bsx, wl]at g)<;>(conv=>whnf)) | (refine And.intro rfl ?_;conv=>whnf) | fail)
    · have hs : scan (L.drop (k + 1)) ((k : Int) + 1) n la = some (N, (L.length : Int) - 1) := by rw [← hs]; symm; exact if_neg g
      refine ⟨S2 (k + 1, n, la), weak_of (by rw [wk]; (repeat' first | exact VWs.nil | refine VWs.cons VW.undef ?_ | refine VWs.cons (VW.eq rfl) ?_)) (.cons (.eq rfl) (.cons (.eq rfl) .nil)) rfl rfl rfl, ih (k + 1, n, la) ⟨by simp only; omega, by simp only; push_cast; exact hs, by simp only; omega, by simp only; omega⟩ (by simp only; omega)⟩
    · exfalso
      unfold scan at hs
      rw [if_pos (by assumption), if_pos (by assumption)] at hs
      cases hs
    · have hs : scan (L.drop (k + 1)) ((k : Int) + 1) (n + 1) k = some (N, (L.length : Int) - 1) := by rw [← hs]; symm; exact (if_pos (by assumption)).trans (if_neg (by assumption))
      refine ⟨S2 (k + 1, n + 1, k), weak_of (by rw [wk, wn]; (repeat' first | exact VWs.nil | refine VWs.cons VW.undef ?_ | refine VWs.cons (VW.eq rfl) ?_)) (.cons (.eq rfl) (.cons (.eq rfl) .nil)) rfl rfl rfl, ih (k + 1, n + 1, k) ⟨by simp only; omega, by simp only; push_cast; exact hs, by simp only; omega, by simp only; omega⟩ (by simp only; omega)⟩
  · have hke : k = L.length := by omega
    subst hke
    rw [List.drop_length] at hs
    have hs2 : some (n, la) = some (N, (L.length : Int) - 1) := hs
    injection hs2 with hs2
    injection hs2 with e1 e2
    clear ih
    refine ⟨_, Weak.refl, ?_⟩; conv=>whnf
    have hlr : ((rL P.resets).length : Int) = P.resets.length := by simp [rL]
    have hlt : ((tL P.late).length : Int) = P.late.length := by simp [tL]
    have ww : IntKind.i64.wrap ((T.size : Int) - 1) = (T.size : Int) - 1 := wrap64 (by omega) (by omega)
    have wq : IntKind.i64.wrap (IntKind.i64.wrap (IntKind.i64.wrap (14 + ((rL P.resets).length : Int)) + ((tL P.late).length : Int)) + (i : Int)) = n := by
     rw [hlr, hlt, wrap64 (x := 14 + (P.resets.length : Int)) (by omega) (by omega), wrap64 (x := 14 + (P.resets.length : Int) + (P.late.length : Int)) (by omega) (by omega), wrap64 (by omega) (by omega)]
     rw [e1, hN]; push_cast; omega
    (repeat' first | (refine step_go [] ?_;conv=>whnf) | (refine two ?_ ?_<;>intro g<;>(try simp only[bsx, htt]at g)<;>(conv=>whnf)) | (refine And.intro rfl ?_;conv=>whnf) | (refine c_awakeT tt htt _ ?_;conv=>whnf) | fail)
    all_goals first
     | (rw [wq]
        refine congrArg (fun b => Out.ret (V.bool b)) ?_
        exact beq_self_eq_true _)
     | exact absurd (by rw [ww, e2, hlz]) g
     | (exfalso; omega)
     | (exfalso; exact absurd g (by decide))
     | trace_state
end PA4

namespace PA5
open Go Go.Proofs VL D1 D2 B2 B8 B15 C19 B10 B12 B13 B14 B20 BB4 BB5 BB6 BB7 BB8 BB9 BB10 BB14 C1 C2 C3 C4 C6 C14 C15 C18 C33 CRA BP1 BP5 BW1 BW2 BW3 BW4 P1 P2 PS1 PS4 PL1 PA1 PA2
theorem c_ParseZ (s : ByteArray) (hs : s.size < 1000000) (P : Prod) (a e : Int) (he : parseS (sB s) = (P, a, e)) (K : Out -> List VObj -> Prop) (h : K (.ret (.tup [encP P, .int .i64 a, .int .i64 e])) []) : VCall Tryz.prog 19 [.str s] [] K :=
 c_Parse s hs K (by rw [he]; exact h)
theorem c_rCheckZ (p : Prod) (hp : p.okW) (cc : Int) (hc : checkC p = cc) (K : Out -> List VObj -> Prop) (h : K (.ret (.int .i64 cc)) []) : VCall Tryz.prog 18 [encP p] [] K := c_rCheck p hp K (by rw [hc]; exact h)
set_option maxHeartbeats 8000000 in
theorem g_back (p : Prod) (hp : p.okW) (s : ByteArray) : VCall Tryz.prog 6 [encP p, .str s] [] fun out _ => out = .ret (.bool true) := by
 have hlr : (rL p.resets).length = p.resets.length := by simp [rL]
 have hlt : (tL p.late).length = p.late.length := by simp [tL]
 have hli : (iL p.hol).length = p.hol.length := by simp [iL]
 have hok : p.name.size <= 100 -> p.resets.length <= 50 -> p.late.length <= 50 -> p.hol.length <= 300 -> p.ok := fun a b c d => { hp with name := by omega, lr := by omega, ll := by omega, lh := by omega }
 obtain ⟨E, hE⟩ : ∃ E : ByteArray, E = ⟨#[]⟩ := ⟨_, rfl⟩
 obtain ⟨tt, htt⟩ : ∃ b : Bool, b = true := ⟨_, rfl⟩
 obtain ⟨z, hz⟩ : ∃ z : Int, z = 0 := ⟨_, rfl⟩
 obtain ⟨n9, hn9⟩ : ∃ z : Int, z = 9 := ⟨_, rfl⟩
 obtain ⟨cc, hcc⟩ : ∃ z : Int, checkC p = z := ⟨_, rfl⟩
 have hpr : ∀ (Q : Prod) (T : ByteArray), checkP Q -> sB T = printS Q -> T.size < 1000000 /\ parseS (sB T) = (Q, z, z) := fun Q T hQ hT => by
  have h1 := print_len hQ
  have h2 := parse_print hQ h1
  rw [hT, hz]
  rw [← hT, sB_len] at h1
  exact ⟨by omega, h2⟩
 obtain ⟨X, A, G, hX⟩ : ∃ X A G, parseS (sB s) = (X, A, G) := ⟨_, _, _, rfl⟩
 have hXc : G = 0 -> checkP X := fun hg => by
  have := parse_chk (s := sB s)
  rw [hX] at this
  exact this hg
 have hck : checkP p -> cc = 0 := fun h => by rw [← hcc]; unfold checkC; rw [if_pos h]
 have hcn : ¬ checkP p -> cc = 9 := fun h => by rw [← hcc]; unfold checkC; rw [if_neg h]
 refine call_fun [] 0 Tryz.func6 (by rfl) (by rfl) ?_
 conv=>whnf
 (repeat' first | (refine step_go [] ?_;conv=>whnf) | (refine two ?_ ?_<;>intro g<;>(try simp only[bsx, hlr, hlt, hli]at g)<;>(conv=>whnf)) | (refine And.intro rfl ?_;conv=>whnf) | (refine dr_go (by decide +kernel) ?_;conv=>whnf) | (refine c_awake _ ?_;conv=>whnf) | fail)
 have ok := hok (by omega) (by omega) (by omega) (by omega)
 have l1 := ok.lr; have l2 := ok.ll; have l3 := ok.lh
 refine c_PrintZ E hE z n9 hz hn9 p ok _ (fun hc S hS => ?_) (fun hn => ?_)
 · have hcc0 := hck hc
   obtain ⟨hSz, hSp⟩ := hpr p S hc hS
   conv=>whnf
   (repeat' first | (refine step_go [] ?_;conv=>whnf) | (refine two ?_ ?_<;>intro g<;>(try simp only[bsx, htt]at g)<;>(conv=>whnf)) | (refine And.intro rfl ?_;conv=>whnf) | (refine dr_go (by decide +kernel) ?_;conv=>whnf) | (refine c_awakeT tt htt _ ?_;conv=>whnf) | (refine c_rCheckZ p hp cc hcc _ ?_;conv=>whnf) | (refine c_ParseZ S hSz p z z hSp _ ?_;conv=>whnf) | fail)
   all_goals try (exfalso; first | omega | exact absurd g (by decide) | exact g (by rw [hz, hcc0]; decide))
   refine c_sameD p p l1 l2 l3 _ fun b hb => ?_
   have hbt : b = true := hb.2 rfl
   conv=>whnf
   (repeat' first | (refine step_go [] ?_;conv=>whnf) | (refine two ?_ ?_<;>intro g<;>(try simp only[bsx, hbt]at g)<;>(conv=>whnf)) | (refine And.intro rfl ?_;conv=>whnf) | (refine dr_go (by decide +kernel) ?_;conv=>whnf) | fail)
   all_goals try (exfalso; first | omega | exact absurd g (by decide))
   have hss : s.size < 1000000 := by omega
   refine c_ParseZ s hss X A G hX _ ?_
   conv=>whnf
   (repeat' first | (refine step_go [] ?_;conv=>whnf) | (refine two ?_ ?_<;>intro g<;>(try simp only[bsx]at g)<;>(conv=>whnf)) | (refine And.intro rfl ?_;conv=>whnf) | (refine dr_go (by decide +kernel) ?_;conv=>whnf) | fail)
   have kX := hXc (by omega)
   have oX := ok_of_check kX
   refine c_PrintZ E hE z n9 hz hn9 X oX _ (fun _ T hT => ?_) (fun hn => absurd kX hn)
   obtain ⟨hTz, hTp⟩ := hpr X T kX hT
   conv=>whnf
   (repeat' first | (refine step_go [] ?_;conv=>whnf) | (refine two ?_ ?_<;>intro g<;>(try simp only[bsx]at g)<;>(conv=>whnf)) | (refine And.intro rfl ?_;conv=>whnf) | (refine dr_go (by decide +kernel) ?_;conv=>whnf) | (refine c_ParseZ T hTz X z z hTp _ ?_;conv=>whnf) | fail)
   refine c_PrintZ E hE z n9 hz hn9 X oX _ (fun _ U hU => ?_) (fun hn => absurd kX hn)
   have eU : U = T := P1.sB_inj (hU.trans hT.symm)
   subst eU
   conv=>whnf
   (repeat' first | (refine step_go [] ?_;conv=>whnf) | (refine two ?_ ?_<;>intro g<;>(try simp only[bsx]at g)<;>(conv=>whnf)) | (refine And.intro rfl ?_;conv=>whnf) | (refine dr_go (by decide +kernel) ?_;conv=>whnf) | fail)
   all_goals try (exfalso; omega)
   refine c_sameD X X oX.lr oX.ll oX.lh _ fun b2 hb2 => ?_
   have hbt2 : b2 = true := hb2.2 rfl
   conv=>whnf
   (repeat' first | (refine step_go [] ?_;conv=>whnf) | (refine two ?_ ?_<;>intro g<;>(try simp only[bsx, hbt2]at g)<;>(conv=>whnf)) | (refine And.intro rfl ?_;conv=>whnf) | (refine dr_go (by decide +kernel) ?_;conv=>whnf) | fail)
   all_goals first
    | (refine congrArg (fun b => Out.ret (V.bool b)) ?_
       exact beq_self_eq_true _)
    | exact absurd trivial g
    | exact absurd g (by decide)
    | trace_state
 · have hcc9 := hcn hn
   conv=>whnf
   (repeat' first | (refine step_go [] ?_;conv=>whnf) | (refine two ?_ ?_<;>intro g<;>(try simp only[bsx, htt]at g)<;>(conv=>whnf)) | (refine And.intro rfl ?_;conv=>whnf) | (refine dr_go (by decide +kernel) ?_;conv=>whnf) | (refine c_awakeT tt htt _ ?_;conv=>whnf) | (refine c_rCheckZ p hp cc hcc _ ?_;conv=>whnf) | fail)
   all_goals try (exfalso; first | omega | exact absurd g (by decide) | exact g (by rw [hn9, hcc9]; decide))
   have hss : s.size < 1000000 := by omega
   refine c_ParseZ s hss X A G hX _ ?_
   conv=>whnf
   (repeat' first | (refine step_go [] ?_;conv=>whnf) | (refine two ?_ ?_<;>intro g<;>(try simp only[bsx]at g)<;>(conv=>whnf)) | (refine And.intro rfl ?_;conv=>whnf) | (refine dr_go (by decide +kernel) ?_;conv=>whnf) | fail)
   have kX := hXc (by omega)
   have oX := ok_of_check kX
   refine c_PrintZ E hE z n9 hz hn9 X oX _ (fun _ T hT => ?_) (fun hn => absurd kX hn)
   obtain ⟨hTz, hTp⟩ := hpr X T kX hT
   conv=>whnf
   (repeat' first | (refine step_go [] ?_;conv=>whnf) | (refine two ?_ ?_<;>intro g<;>(try simp only[bsx]at g)<;>(conv=>whnf)) | (refine And.intro rfl ?_;conv=>whnf) | (refine dr_go (by decide +kernel) ?_;conv=>whnf) | (refine c_ParseZ T hTz X z z hTp _ ?_;conv=>whnf) | fail)
   refine c_PrintZ E hE z n9 hz hn9 X oX _ (fun _ U hU => ?_) (fun hn => absurd kX hn)
   have eU : U = T := P1.sB_inj (hU.trans hT.symm)
   subst eU
   conv=>whnf
   (repeat' first | (refine step_go [] ?_;conv=>whnf) | (refine two ?_ ?_<;>intro g<;>(try simp only[bsx]at g)<;>(conv=>whnf)) | (refine And.intro rfl ?_;conv=>whnf) | (refine dr_go (by decide +kernel) ?_;conv=>whnf) | fail)
   all_goals try (exfalso; omega)
   refine c_sameD X X oX.lr oX.ll oX.lh _ fun b2 hb2 => ?_
   have hbt2 : b2 = true := hb2.2 rfl
   conv=>whnf
   (repeat' first | (refine step_go [] ?_;conv=>whnf) | (refine two ?_ ?_<;>intro g<;>(try simp only[bsx, hbt2]at g)<;>(conv=>whnf)) | (refine And.intro rfl ?_;conv=>whnf) | (refine dr_go (by decide +kernel) ?_;conv=>whnf) | fail)
   all_goals first
    | (refine congrArg (fun b => Out.ret (V.bool b)) ?_
       exact beq_self_eq_true _)
    | exact absurd trivial g
    | exact absurd g (by decide)
    | trace_state
end PA5

namespace Go.Proofs.YtdjbfmfkeokfaaaGreatDoor.LBP
open Go Go.Proofs VL
theorem own : ownKnob Tryz.prog.godebug = none := by kernel_rfl
theorem laidOut : laidOutB Tryz.prog = true := by kernel_rfl
def cellsT : DataW Unit -> List Value
 | .agg l => l.flatMap fun
   | .lit (.int k n) => [.int k n]
   | .agg m => m.flatMap fun
     | .lit (.int k n) => [.int k n]
     | _ => []
   | _ => []
 | _ => []
def layAt (w : World) (g : Nat) (cs : List Value) : World :=
 { w with heap := w.heap.modify g fun
  | .cells _ t fz => .cells cs.toArray t fz
  | o => o }
noncomputable def layAll : List (String × DataW Unit) -> World -> World
 | [], w => w
 | (n, d) :: r, w => match Tryz.prog.globalNamed n with
  | some g => layAll r (layAt w g (cellsT d))
  | none => layAll r w
noncomputable def laidWorld (os : Os) (l : List (String × DataW Unit)) : World := layAll l (World.holding Tryz.prog os ⟨#[], #[], []⟩)
theorem reads {P : Program} {w : World} : ∀ {l : List (String × DataW Unit)} {ps : List MemPlace}, DataW.LaidVars P w l ps -> ∀ n d, (n, d) ∈ l ->
 ∃ g t cs fuel p, P.globalNamed n = some g /\ (P.globals[g]?).map (·.type) = some t /\ w.var? P n = some cs /\ DataW.trod (fun _ => ()) P w 0 (fun _ => true) false fuel t cs.toList = some (d, p)
 | [], _, _, _, _, hm => by cases hm
 | (n', d') :: r, ps, h, n, d, hm => by
  obtain ⟨g, t, cs, fuel, p, q, h1, h2, h3, h4, h5, _⟩ := h
  rcases List.mem_cons.1 hm with e | e
  · cases e
    exact ⟨g, t, cs, fuel, p, h1, h2, h3, h4⟩
  · exact reads h5 n d e
def pows : List Int := [1, 10, 100, 1000, 10000, 100000, 1000000, 10000000, 100000000, 1000000000, 10000000000, 100000000000, 1000000000000, 10000000000000, 100000000000000, 1000000000000000, 10000000000000000, 100000000000000000, 1000000000000000000, 10000000000000000000]
theorem globs {W : World} {l : List (String × DataW Unit)} (hm : ("internal/strconv.uint64pow10", Rows.laid_internal_strconv_uint64pow10) ∈ l) (h : laidMet Tryz.prog l W) :
 ∀ b l, glob b = some l -> ∀ (k : Nat) v, l[k]? = some v -> W.cell? ⟨b, k, none⟩ = some v := by
 obtain ⟨ps, hv, _⟩ := h
 obtain ⟨g, t, cs, fuel, p, h1, h2, h3, h4⟩ := reads hv _ _ hm
 have hg : Tryz.prog.globalNamed "internal/strconv.uint64pow10" = some 0 := by kernel_rfl
 obtain rfl := Option.some.inj (hg.symm.trans h1)
 have ht : (Tryz.prog.globals[0]?).map (·.type) = some 174 := by kernel_rfl
 obtain rfl := Option.some.inj (ht.symm.trans h2)
 have hc := Go.Lib.cells_of_tab (e := 74) (n := 20) (k := .u64) (zs := pows) (by kernel_rfl) (by kernel_rfl) (by kernel_rfl) (by kernel_rfl) h4
 have ht : Go.Lib.TabIs Tryz.prog W "internal/strconv.uint64pow10" .u64 pows := by
  unfold Go.Lib.TabIs; rw [h3, ← hc]
 intro b l hb k v hk
 unfold glob at hb
 split at hb
 · cases hb
   have hlen : k < 20 := (List.getElem?_eq_some_iff.1 hk).1
   rw [ht.cell hg k hlen]
   have e : ∀ (q : List Value), q = pows.map (Value.int .u64) -> q[k]? = some v -> some (Value.int .u64 (pows.getD k 0)) = some v := fun q e h => by
    subst e
    rw [List.getElem?_map] at h
    obtain ⟨z, hz, rfl⟩ := Option.map_eq_some_iff.1 h
    rw [List.getD_eq_getElem?_getD, hz]; rfl
   exact e _ rfl hk
 · cases hb
theorem hgi (W : World) (hsh : W.ShapedOpen Tryz.prog) : ∀ b, globI b = true -> ∃ m, W.cell? ⟨b, 0, none⟩ = some (.int .i64 m) := by
 intro b hb
 match b, hb with
 | 1, _ => exact cell_of_shapedOpen_int (P := Tryz.prog) (g := 1) (t := 3) (zero := #[.int .i64 0]) hsh (of_decide_eq_true (by kernel_rfl)) (by kernel_rfl) rfl (by kernel_rfl) (by kernel_rfl) (by kernel_rfl)
theorem wrap_both {H : Type} {enc : TypeId × Value -> H} {a : Assume} {C : Checked} {os : Os} {f : FuncId} {fn : Func} {s : ChangeSpec} {conds : List PathCond} {apart fresh handsOn again : Bool} {X : World -> Array Value -> Prop}
 (hX : ∀ (w w' : World) (args : Array Value), w.heap = w'.heap -> X w args -> X w' args)
 (own : ownKnob C.prog.godebug = none) (started : os.Started) (noInit : C.prog.inits.idxOf? f = none) (hfn : C.prog.funcs[f]? = some fn)
 (witness : ∃ (w : World) (tape : Tape) (i : Input), w.os = os /\ (w.forCall tape i).Shaped C.prog /\ i.vars = [] /\ Input.okWide C.prog (w.forCall tape i) .any w.heap.size f i /\
   ((s.pre enc C.prog fn conds apart (w.forCall tape i).memory i.args /\ X (w.forCall tape i).memory i.args) /\ sizedMet enc C.prog fn (OpenSpec.ofChange s) apart (w.forCall tape i).memory i.args) /\ a.holds C.prog (lone (Frame.enter C.prog f i.args .normal) [] (w.forCall tape i)))
 (contract : ∀ (W : World) (base : Nat) (args : Array Value) (ds gs : List (DataW H)) (before : List MemPlace),
   (∀ (j : Nat) t v, fn.params[j]? = some t -> args[j]? = some v -> Value.okWide C.prog W .any base t v) ->
   DataW.Whole enc C.prog fn.params.toList s.vars apart W args.toList ds gs before ->
   conds.all (PathCond.test C.prog ⟨fn.params.toList, ds, s.plain.varTypes C.prog, gs⟩) = true ->
   (DataW.weightsEach C.prog (fn.params.toList ++ s.plain.varTypes C.prog) (ds ++ gs)).all (· <= reachBytes) = true -> X W args -> W.ShapedOpen C.prog ->
   a.holds C.prog (lone (Frame.enter C.prog f args .normal) [] W) ->
   Calls C.prog f args W fun e W' => ∃ v, e = .returned v /\ s.post enc C.prog fn apart fresh handsOn again W args v W') :
 ReturnsInHanded a C os f .any (fun w args => (s.pre enc C.prog fn conds apart w args /\ X w args) /\ sizedMet enc C.prog fn (OpenSpec.ofChange s) apart w args) (s.post enc C.prog fn apart fresh handsOn again) := by
 refine returnsInHanded_of_calls own started noInit witness ?_
 intro w tape i _ hsh _ hok hpre hholds
 obtain ⟨_, _, _, fn', hfn', _, _, _, _, hval⟩ := hok
 obtain rfl := Option.some.inj (hfn'.symm.trans hfn)
 obtain ⟨⟨⟨ds, gs, before, hw, hc⟩, hx⟩, hz⟩ := hpre
 refine (contract (w.forCall tape i) w.heap.size i.args ds gs before hval (DataW.Whole.of_heap (w' := w.forCall tape i) (by rfl) hw) hc (hz.weights hw) (hX _ _ _ (by rfl) hx) hsh hholds).mono fun e W' ⟨v, he, hp⟩ => ?_
 subst he
 exact ChangeSpec.post_blind hp
open B10 BB14 BB15 C2
def tyTwo : Ty := .row [.int .i64, .int .i64]
def tyProd : Ty := .row [.str, .int .i64, .int .i64, .int .i64, .int .i64, .int .i64, .int .i64, .int .i64, .sl tyTwo 2 16 true, .int .i64, .row [.int .i64, .int .i64, .int .i64, .int .i64], .int .i64, .sl tyTwo 2 16 true, .int .i64, .int .i64, .sl (.int .i64) 1 8 false]
theorem two_of {α : Type} {enc : α -> V} {mk : Int -> Int -> α} {ok : α -> Prop} (he : ∀ a b, enc (mk a b) = .agg [.int .i64 a, .int .i64 b]) (ho : ∀ a b, I64 a -> I64 b -> ok (mk a b)) {l : List V} (hl : ∀ x ∈ l, if true = true then ∃ cs, x = .agg cs /\ ShT tyTwo cs else ShT tyTwo [x]) : ∃ as1' : List α, l = as1'.map enc /\ ∀ a ∈ as1', ok a :=
 list_of fun x hx => by
  have := hl x hx
  rw [if_pos rfl] at this
  obtain ⟨cs, rfl, h⟩ := this
  simp only [tyTwo, ShT] at h
  obtain ⟨a, _, rfl, wa, h1⟩ := ShTs.int h
  obtain ⟨b, _, rfl, wb, h2⟩ := ShTs.int h1
  obtain rfl := sh_nil h2
  exact ⟨mk a b, (he a b).symm, ho a b (BB15.i64_wf wa) (BB15.i64_wf wb)⟩
theorem prod_of {x : V} (h : ShA tyProd true x) : ∃ p : C2.Prod, x = encP p /\ p.okW := by
 unfold ShA tyProd at h
 rw [if_pos rfl] at h
 obtain ⟨cs, rfl, h⟩ := h
 simp only [ShT] at h
 obtain ⟨a1, _, rfl, w1, h1⟩ := sh_str h
 obtain ⟨a2, _, rfl, w2, h2⟩ := ShTs.int h1
 obtain ⟨a3, _, rfl, w3, h3⟩ := ShTs.int h2
 obtain ⟨a4, _, rfl, w4, h4⟩ := ShTs.int h3
 obtain ⟨a5, _, rfl, w5, h5⟩ := ShTs.int h4
 obtain ⟨a6, _, rfl, w6, h6⟩ := ShTs.int h5
 obtain ⟨a7, _, rfl, w7, h7⟩ := ShTs.int h6
 obtain ⟨a8, _, rfl, w8, h8⟩ := ShTs.int h7
 obtain ⟨l9, _, rfl, z9, m9, h9⟩ := sh_sl h8
 obtain ⟨a10, _, rfl, w10, h10⟩ := ShTs.int h9
 unfold ShTs at h10
 obtain ⟨r, r', rfl, hr, h11⟩ := h10
 simp only [ShT] at hr
 obtain ⟨b1, _, rfl, v1, hr⟩ := ShTs.int hr
 obtain ⟨b2, _, rfl, v2, hr⟩ := ShTs.int hr
 obtain ⟨b3, _, rfl, v3, hr⟩ := ShTs.int hr
 obtain ⟨b4, _, rfl, v4, hr⟩ := ShTs.int hr
 obtain rfl := sh_nil hr
 obtain ⟨a12, _, rfl, w12, h12⟩ := ShTs.int h11
 obtain ⟨l13, _, rfl, z13, m13, h13⟩ := sh_sl h12
 obtain ⟨a14, _, rfl, w14, h14⟩ := ShTs.int h13
 obtain ⟨a15, _, rfl, w15, h15⟩ := ShTs.int h14
 obtain ⟨l16, _, rfl, z16, m16, h16⟩ := sh_sl h15
 obtain rfl := sh_nil h16
 obtain ⟨rs, rfl, hrs⟩ := two_of (enc := encR) (mk := fun a b => ⟨a, b⟩) (ok := fun r : Rs => I64 r.aft /\ I64 r.rate) (fun _ _ => rfl) (fun _ _ h1 h2 => ⟨h1, h2⟩) m9
 obtain ⟨ts, rfl, hts⟩ := two_of (enc := encT) (mk := fun a b => ⟨a, b⟩) (ok := fun r : Ti => I64 r.days /\ I64 r.fee) (fun _ _ => rfl) (fun _ _ h1 h2 => ⟨h1, h2⟩) m13
 obtain ⟨hs, rfl, hhs⟩ := list_of (enc := V.int .i64) (ok := I64) (l := l16) fun x hx => by
  have := m16 x hx
  rw [if_neg (by decide)] at this
  simp only [ShT] at this
  obtain ⟨n, hn, hw⟩ := this
  injection hn with hn
  exact ⟨n, hn, BB15.i64_wf hw⟩
 rw [List.length_map] at z9 z13 z16
 exact ⟨⟨a1, a2, a3, a4, a5, a6, a7, a8, rs, a10, b1, b2, b3, b4, a12, ts, a14, a15, hs⟩, rfl, ⟨by show a1.size < _; omega, BB15.i64_wf w2, BB15.i64_wf w3, BB15.i64_wf w4, BB15.i64_wf w5, BB15.i64_wf w6, BB15.i64_wf w7, BB15.i64_wf w8, BB15.i64_wf w10, BB15.i64_wf v1, BB15.i64_wf v2, BB15.i64_wf v3, BB15.i64_wf v4, BB15.i64_wf w12, BB15.i64_wf w14, BB15.i64_wf w15, hrs, hts, hhs, by show rs.length < _; omega, by show ts.length < _; omega, by show hs.length < _; omega⟩⟩
end Go.Proofs.YtdjbfmfkeokfaaaGreatDoor.LBP

