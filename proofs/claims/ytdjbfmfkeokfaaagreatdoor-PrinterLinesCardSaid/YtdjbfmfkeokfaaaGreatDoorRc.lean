/- Part Rc of the proof: VLDraw4 VLAl2 VLDraw5 VLSound3 VLSel VLFun VLLoop VLFrz VLLend VLNil VLStr VLBridge VLBridge2 VLBridge3 VLRow VLLaw VLUse VLBs VLTxt VLBld VLShelf VLLendC VLMid B1 D1 B2 B3. -/
import Derived.Test.YtdjbfmfkeokfaaaGreatDoorRb
import Derived.Laws.Externs
import Derived.Lib.Overlaps
import Derived.MapKept
import Derived.Carry
import Derived.SizedLaws
import Derived.ChangeOld
import Derived.ChangeShapes
import Derived.DataReads
import Derived.ProofKit
import Derived.Lib.MakeNoZero
import Derived.Test.YtdjbfmfkeokfaaaGreatDoorRows
set_option linter.unusedVariables false
set_option linter.unusedSimpArgs false
set_option maxRecDepth 100000
namespace VL
open Go
theorem maskOf_bit {A : List Nat} {j : Nat} : ∀ {ds : List Nat} {m : Nat}, (maskOf A ds m).testBit j = true -> m.testBit j = true \/ ∃ d ∈ ds, j = d \/ ((A[d]?).getD 0).testBit j = true
 | [], m, h => .inl h
 | d :: r, m, h => by
   rcases maskOf_bit (ds := r) h with h | ⟨d', h1, h2⟩
   · rw [Nat.testBit_or, Nat.testBit_or, Bool.or_eq_true, Bool.or_eq_true] at h
     rcases h with (h | h) | h
     · exact .inl h
     · refine .inr ⟨d, by simp, .inl ?_⟩
       rw [Nat.one_shiftLeft, Nat.testBit_two_pow] at h
       exact (by simpa using h : d = j).symm
     · exact .inr ⟨d, by simp, .inr h⟩
   · exact .inr ⟨d', by simp [h1], h2⟩
theorem ancs_append (l : List Oper) : ∀ (A : List Nat), ∃ B, ancs l A = A ++ B := by
 induction l with
 | nil => intro A; exact ⟨[], by simp [ancs]⟩
 | cons o r ih =>
   intro A
   obtain ⟨B, h⟩ := ih (A ++ [maskOf A (depsOf o) 0])
   exact ⟨maskOf A (depsOf o) 0 :: B, by rw [ancs, h]; simp⟩
theorem ancs_get (l : List Oper) : ∀ (A : List Nat) (k : Nat) (o : Oper), l[k]? = some o -> (ancs l A)[A.length + k]? = some (maskOf ((ancs l A).take (A.length + k)) (depsOf o) 0) := by
 induction l with
 | nil => intro A k o h; simp at h
 | cons p r ih =>
   intro A k o h
   cases k with
   | zero =>
     simp only [List.getElem?_cons_zero, Option.some.injEq] at h; subst h
     obtain ⟨B, hB⟩ := ancs_append r (A ++ [maskOf A (depsOf p) 0])
     rw [ancs, hB]
     generalize hm : maskOf A (depsOf p) 0 = m at *
     have : (A ++ [m] ++ B).take (A.length + 0) = A := by simp
     rw [this, hm]
     simp
   | succ k =>
     have := ih (A ++ [maskOf A (depsOf p) 0]) k o (by simpa using h)
     rw [ancs]
     simp only [List.length_append, List.length_singleton] at this
     rw [show A.length + (k + 1) = A.length + 1 + k by omega]
     exact this
theorem depsOk_iff (l : List Oper) : ∀ {k : Nat}, depsOk l k = true -> ∀ (i : Nat) (o : Oper), l[i]? = some o -> ∀ e ∈ o.after, Region.binds .any e = true -> e.on < k + i := by
 induction l with
 | nil => intro k _ i o h; simp at h
 | cons o r ih =>
   intro k h i p hp e he hb
   simp only [depsOk, Bool.and_eq_true] at h
   cases i with
   | zero =>
     simp only [List.getElem?_cons_zero, Option.some.injEq] at hp; subst hp
     have := List.all_eq_true.1 h.1 e.on (List.mem_map.2 ⟨e, List.mem_filter.2 ⟨by simpa using he, hb⟩, rfl⟩)
     simpa [Nat.blt_eq] using this
   | succ i =>
     have := ih h.2 i p (by simpa using hp) e he hb
     omega
theorem mem_deps {o : Oper} {d : Nat} (h : d ∈ depsOf o) : ∃ e ∈ o.after, Region.binds .any e = true /\ e.on = d := by
 obtain ⟨e, he, rfl⟩ := List.mem_map.1 h
 obtain ⟨h1, h2⟩ := List.mem_filter.1 he
 exact ⟨e, by simpa using h1, h2, rfl⟩
theorem anc_closed {all : List Oper} (hd : depsOk all 0 = true) {L : Nat -> Prop} (hL : ∀ (i : Nat) o, all[i]? = some o -> L i -> ∀ e ∈ o.after, Region.binds .any e = true -> L e.on) :
 ∀ (i : Nat) (o : Oper), all[i]? = some o -> (∀ e ∈ o.after, Region.binds .any e = true -> L e.on) -> ∀ j, isAnc (ancs all []) i j = true -> L j := by
 intro i
 induction i using Nat.strongRecOn with
 | _ i ih =>
   intro o ho hall j hj
   have hg := ancs_get all [] i o ho
   simp only [List.length_nil, Nat.zero_add] at hg
   unfold isAnc at hj
   rw [hg, Option.getD_some] at hj
   rcases maskOf_bit hj with h | ⟨d, hd1, h⟩
   · simp at h
   · obtain ⟨e, he, hb, rfl⟩ := mem_deps hd1
     have hlt := depsOk_iff all hd i o ho e he hb
     rcases h with rfl | h
     · exact hall e he hb
     · have hil := (List.getElem?_eq_some_iff.1 ho).1
       have hlt' : e.on < all.length := by omega
       refine ih e.on (by omega) all[e.on] (List.getElem?_eq_getElem hlt') (hL e.on _ (List.getElem?_eq_getElem hlt') (hall e he hb)) j ?_
       rw [List.getElem?_take, if_pos (by omega)] at h
       exact h
section
variable {S : Sys} {c : Ctx} {Q : Exit -> Act -> World -> Prop} {ops : Array Oper}
theorem wanted_gOn {g : G} {w : World} {n nt : Nat} {tm : Array Value} {t : List V} (h : TInv g w n nt tm t) {o : Oper} {b : Bool} (hg : gOn ops.toList o t = some b) : Region.wanted o (yielded ops tm) = b := by
 unfold gOn at hg
 unfold Region.wanted
 cases ho : o.guard with
 | none => rw [ho] at hg; simpa using hg
 | some jw =>
   obtain ⟨j, want⟩ := jw
   rw [ho] at hg
   simp only at hg ⊢
   cases hj : (ops.toList[j]?).bind (·.dst) with
   | none => rw [hj] at hg; cases hg
   | some d =>
     rw [hj] at hg
     simp only at hg
     cases hv : t[d]? with
     | none => rw [hv] at hg; cases hg
     | some v =>
       rw [hv] at hg
       obtain ⟨y1, y2⟩ := yield_some h hj hv
       split at hg
       · rename_i b' e
         cases e
         rw [(y1 b' rfl).1]
         cases hg
         cases b' <;> cases want <;> rfl
       · cases hg
       · rename_i v' e1 e2 e
         cases e
         cases hg
         rw [y2 (fun h => e2 (by rw [h])) (fun b h => e1 b (by rw [h]))]
         cases want <;> rfl
       · rename_i e; cases e
theorem mask_put {g : G} {w : World} {b : Act} {s : St} {U : List Nat} {i : Nat} {o : Oper} {u : V} {x : Value} (ho : ops.toList[i]? = some o) (hi : i ∈ U) (hU : U.Nodup)
 (hd : ∀ d, o.dst = some d -> s.t[d]? = some u /\ slotIn ops.toList (U.erase i) d = false) (hs : Sim c g w b (maskS (slotIn ops.toList U) s)) (hv : VT g w s.objs.length s.nt u x) :
 Sim c g w (b.put o.dst x) (maskS (slotIn ops.toList (U.erase i)) s) := by
 obtain ⟨t, ob, nt, df⟩ := s
 have hslot : ∀ k, o.dst ≠ some k -> slotIn ops.toList (U.erase i) k = slotIn ops.toList U k := fun k hk => by
  rw [Bool.eq_iff_iff, slotIn_iff, slotIn_iff]
  constructor
  · rintro ⟨j, hj, p, hp, e⟩; exact ⟨j, List.mem_of_mem_erase hj, p, hp, e⟩
  · rintro ⟨j, hj, p, hp, e⟩
    refine ⟨j, (List.Nodup.mem_erase_iff hU).2 ⟨fun e' => ?_, hj⟩, p, hp, e⟩
    subst e'
    rw [ho] at hp; cases hp
    exact hk e
 cases hdst : o.dst with
 | none =>
   have : slotIn ops.toList (U.erase i) = slotIn ops.toList U := by funext k; exact hslot k (by rw [hdst]; simp)
   rw [this]; exact hs
 | some d =>
   obtain ⟨h1, h2⟩ := hd d hdst
   have ht : (masked (slotIn ops.toList U) t).set d u = masked (slotIn ops.toList (U.erase i)) t := by
    apply List.ext_getElem?
    intro k
    rw [List.getElem?_set, masked_length]
    by_cases hk : d = k
    · subst hk
      have hlt := (List.getElem?_eq_some_iff.1 h1).1
      simp only at hlt
      rw [if_pos rfl, if_pos hlt, masked_get, h1]
      simp [h2]
    · rw [if_neg hk, masked_get, masked_get, hslot k (by rw [hdst]; simpa using hk)]
   exact ⟨hs.wi, by
    show TInv g w ob.length nt (b.tmps.setIfInBounds d x) (masked (slotIn ops.toList (U.erase i)) t)
    rw [← ht]; exact hs.ti.set hv, hs.di⟩
theorem tinv_weaker {g : G} {w : World} {n nt : Nat} {tm : Array Value} {t t' : List V} (h : TInv g w n nt tm t) (hl : t'.length = t.length) (ht : ∀ (k : Nat) v, t'[k]? = some v -> v = .undef \/ t[k]? = some v) : TInv g w n nt tm t' :=
 ⟨by rw [hl]; exact h.size, fun k v x hv hx => by
  rcases ht k v hv with rfl | h1
  · exact ⟨.undef, trivial⟩
  · exact h.rel k v x h1 hx, h.gl⟩
theorem dstIn_iff {o : Option Tmp} {l : List Nat} : dstIn o l = true ↔ ∃ d, o = some d /\ d ∈ l := by
 cases o with
 | none => simp [dstIn]
 | some d => simp [dstIn, memN_iff]
theorem sameDst_iff {o p : Option Tmp} : sameDst o p = true ↔ ∃ d, o = some d /\ p = some d := by
 cases o <;> cases p <;> simp [sameDst]
 exact ⟨fun h => h.symm, fun h => h.symm⟩
structure DoneOk (all : List Oper) (done : List Nat) : Prop where
 self : ∀ i ∈ done, ∀ o, all[i]? = some o -> dstIn o.dst (looks all o) = false
 same : ∀ i ∈ done, ∀ j ∈ done, i ≠ j -> ∀ o p, all[i]? = some o -> all[j]? = some p -> sameDst o.dst p.dst = false
 look : ∀ i ∈ done, ∀ j ∈ done, i ≠ j -> ∀ o p, all[i]? = some o -> all[j]? = some p -> dstIn p.dst (looks all o) = true -> isAnc (ancs all []) i j = true
structure HeadOk (all : List Oper) (n : Nat) (fl : Bool) (r : List (Nat × Bool)) (done : List Nat) (o : Oper) : Prop where
 op : all[n]? = some o
 apart : ∀ i ∈ done, ∃ p, all[i]? = some p /\ sameDst o.dst p.dst = false /\ (fl = true -> dstIn o.dst (looks all p) = false) /\ (dstIn p.dst (looks all o) = true -> isAnc (ancs all []) n i = true)
 self : fl = true -> dstIn o.dst (looks all o) = false
 last : fl = false -> ∀ j ∈ r, isAnc (ancs all []) j.1 n = true
 rest : planOk all (ancs all []) r (if fl then n :: done else done) = true
theorem planOk_cons {all : List Oper} {n : Nat} {fl : Bool} {r : List (Nat × Bool)} {done : List Nat} (h : planOk all (ancs all []) ((n, fl) :: r) done = true) : ∃ o, HeadOk all n fl r done o := by
 unfold planOk at h
 rw [Bool.and_eq_true] at h
 obtain ⟨h, hr⟩ := h
 split at h
 case h_2 => cases h
 rename_i o ho
 rw [Bool.and_eq_true, Bool.and_eq_true] at h
 obtain ⟨⟨h1, h2⟩, h3⟩ := h
 refine ⟨o, ho, fun i hi => ?_, fun hf => by subst hf; simpa using h2, fun hf => by subst hf; simpa using h3, hr⟩
 have := List.all_eq_true.1 h1 i hi
 split at this
 case h_2 => cases this
 rename_i p hp
 rw [Bool.and_eq_true, Bool.and_eq_true] at this
 obtain ⟨⟨a1, a2⟩, a3⟩ := this
 refine ⟨p, hp, by simpa using a1, fun hf => by subst hf; simpa using a2, fun hd => ?_⟩
 rw [hd] at a3; simpa using a3
theorem DoneOk.cons {all : List Oper} {done : List Nat} {n : Nat} {o : Oper} {r : List (Nat × Bool)} (h : DoneOk all done) (hh : HeadOk all n true r done o) : DoneOk all (n :: done) := by
 have hop : ∀ p, all[n]? = some p -> p = o := fun p hp => by rw [hh.op] at hp; exact (Option.some.inj hp).symm
 have ap : ∀ i ∈ done, ∀ p, all[i]? = some p -> sameDst o.dst p.dst = false /\ dstIn o.dst (looks all p) = false /\ (dstIn p.dst (looks all o) = true -> isAnc (ancs all []) n i = true) := fun i hi p hp => by
  obtain ⟨p', hp', a1, a2, a3⟩ := hh.apart i hi
  rw [hp] at hp'; cases hp'
  exact ⟨a1, a2 rfl, a3⟩
 have symm : ∀ a b : Option Tmp, sameDst a b = false -> sameDst b a = false := fun a b h => by
  cases hb : sameDst b a with
  | false => rfl
  | true =>
    obtain ⟨d, e1, e2⟩ := sameDst_iff.1 hb
    rw [sameDst_iff.2 ⟨d, e2, e1⟩] at h; cases h
 refine ⟨fun i hi p hp => ?_, fun i hi j hj hij p q hp hq => ?_, fun i hi j hj hij p q hp hq hd => ?_⟩
 · rcases List.mem_cons.1 hi with rfl | hi
   · rw [hop p hp]; exact hh.self rfl
   · exact h.self i hi p hp
 · rcases List.mem_cons.1 hi with hi | hi <;> rcases List.mem_cons.1 hj with hj | hj
   · exact absurd (hi.trans hj.symm) hij
   · subst hi; rw [hop p hp]; exact (ap j ‹j ∈ done› q hq).1
   · subst hj; rw [hop q hq]; exact symm _ _ (ap i ‹i ∈ done› p hp).1
   · exact h.same i hi j hj hij p q hp hq
 · rcases List.mem_cons.1 hi with hi | hi <;> rcases List.mem_cons.1 hj with hj | hj
   · exact absurd (hi.trans hj.symm) hij
   · subst hi; rw [hop p hp] at hd; exact (ap j ‹j ∈ done› q hq).2.2 hd
   · subst hj; rw [hop q hq] at hd; rw [(ap i ‹i ∈ done› p hp).2.1] at hd; cases hd
   · exact h.look i hi j hj hij p q hp hq hd
theorem put_iff {t : List V} {ob : List VObj} {nt : Nat} {df : List (Fn × List V × List V)} {dst : Option Tmp} {v : V} {K : St -> Prop} (h : St.put ⟨t, ob, nt, df⟩ dst v K) :
 ∃ t', K ⟨t', ob, nt, df⟩ /\ t'.length = t.length /\ (∀ d, dst = some d -> t'[d]? = some v) /\ ∀ k, dst ≠ some k -> t'[k]? = t[k]? := by
 cases dst with
 | none => exact ⟨t, h, rfl, by simp, fun _ _ => rfl⟩
 | some d =>
   simp only [St.put, force_eq] at h
   obtain ⟨hlt, h⟩ := setK_iff h
   refine ⟨_, h, by simp, fun d' e => ?_, fun k hk => ?_⟩
   · cases e; rw [List.getElem?_set_self hlt]
   · rw [List.getElem?_set_ne (fun e => hk (by rw [e]))]
theorem unlisted_iff {listed : Array Bool} {i : Nat} : listed.getD i true = false ↔ i < listed.size /\ listed.getD i false = false := by
 by_cases h : i < listed.size <;> simp [Array.getD, h]
theorem listed_set {listed : Array Bool} {i j : Nat} (hi : i < listed.size) : (listed.setIfInBounds i true).getD j false = true ↔ j = i \/ listed.getD j false = true := by
 by_cases h : i = j
 · subst h; simp [Array.getD, hi]
 · rw [getD_set_ne false h]
   exact ⟨.inr, fun h' => h'.resolve_left fun e => h e.symm⟩
theorem sim_put {g : G} {w : World} {b : Act} {m : Nat -> Bool} {t t' : List V} {ob : List VObj} {nt : Nat} {df : List (Fn × List V × List V)} {dst : Option Tmp} {v : V} {x : Value} (hs : Sim c g w b (maskS m ⟨t, ob, nt, df⟩)) (hv : VT g w ob.length nt v x)
 (hl : t'.length = t.length) (h1 : ∀ d, dst = some d -> t'[d]? = some v) (h2 : ∀ k, dst ≠ some k -> t'[k]? = t[k]?) : Sim c g w (b.put dst x) (maskS m ⟨t', ob, nt, df⟩) := by
 cases dst with
 | none =>
   have : t' = t := List.ext_getElem? fun k => h2 k (by simp)
   rw [this]; exact hs
 | some d =>
   refine ⟨hs.wi, tinv_weaker (hs.ti.set (i := d) hv) (by simp [masked_length, hl, maskS]) fun k u hu => ?_, hs.di⟩
   simp only [maskS, masked_get] at hu
   by_cases hk : d = k
   · subst hk
     rw [h1 d rfl] at hu
     simp only [Option.map_some, Option.some.injEq] at hu
     split at hu
     · exact .inl hu.symm
     · refine .inr ?_
       have : d < t.length := by rw [← hl]; exact (List.getElem?_eq_some_iff.1 (h1 d rfl)).1
       show ((masked m t).set d v)[d]? = _
       rw [List.getElem?_set_self (by rw [masked_length]; exact this), hu]
   · rw [h2 k (by simpa using hk)] at hu
     refine .inr ?_
     show ((masked m t).set d v)[k]? = _
     rw [List.getElem?_set_ne hk, masked_get]; exact hu
end
end VL

namespace VL
open Go
theorem getK_snoc {α : Type} {l : List α} {x : α} {i : Nat} {K : α -> Prop} (h : getK l i K) : getK (l ++ [x]) i K := by
 obtain ⟨v, h1, h2⟩ := getK_iff h
 rw [getK_eq, List.getElem?_append_left (List.getElem?_eq_some_iff.1 h1).1, h1]
 exact h2
theorem vflo_snoc (S : Sys) {o : Oper} {t : List V} {ob : List VObj} {x : VObj} {K : V -> Prop} (h : vflo S o t ob K) : vflo S o t (ob ++ [x]) K := by
 unfold vflo at h ⊢
 split at h
 case h_6 =>
  refine (det_ev _ _).mono (fun v h => ?_) h
  split at h
  · exact getK_snoc h
  · exact h
  · exact getK_snoc h
  · exact h
 case h_10 =>
  refine (det_ev _ _).mono (fun v h => ?_) h
  refine (det_ev _ _).mono (fun u h => ?_) h
  unfold lookupK at h ⊢
  split at h
  · split at h
    · cases v <;> try exact h
      exact getK_snoc h
    · exact h
  · exact h
 case h_11 =>
  refine (det_ev _ _).mono (fun v h => ?_) h
  split at h
  · split at h
    · split at h
      · exact getK_snoc h
      · exact h
    · exact h
  · exact getK_snoc h
  · exact h
 case h_16 =>
  refine (det_ev _ _).mono (fun v h => ?_) h
  refine (det_ev _ _).mono (fun u h => ?_) h
  split at h
  · split at h
    · rename_i e j off _
      exact (det_szK S.P _).mono (fun z h => ⟨h.1, h.2.1, getK_snoc h.2.2⟩) h
    all_goals exact h
  · exact h
 all_goals exact h
theorem FOK.snoc {S : Sys} {all : List Oper} {m : Nat} {t : List V} {ob : List VObj} {x : VObj} (h : FOK S all m t ob) : FOK S all m t (ob ++ [x]) := by
 obtain ⟨o, u, h1, h2, h3⟩ := h
 refine ⟨o, u, h1, h2, ?_⟩
 rcases h3 with ⟨a, b⟩ | h3
 · exact .inl ⟨a, vflo_snoc S b⟩
 · exact .inr h3
theorem isAl_iff {o : Oper} (h : isAl o = true) : ∃ T d, o.op = .alloc T /\ o.guard = none /\ depsOf o = [] /\ o.dst = some d := by
 unfold isAl at h
 split at h
 · rename_i e1 e2 e3 e4
   exact ⟨_, _, e1, e2, e3, e4⟩
 · cases h
theorem isAlAt_iff {all : List Oper} {i : Nat} : isAlAt all i = true ↔ ∃ o, all[i]? = some o /\ isAl o = true := by
 unfold isAlAt
 cases all[i]? <;> simp
theorem al_noanc {all : List Oper} {i j : Nat} (h : isAlAt all j = true) : isAnc (ancs all []) j i = false := by
 obtain ⟨o, ho, ha⟩ := isAlAt_iff.1 h
 obtain ⟨T, d, _, _, hd, _⟩ := isAl_iff ha
 have hg := ancs_get all [] j o ho
 simp only [List.length_nil, Nat.zero_add] at hg
 unfold isAnc
 rw [hg, hd]
 simp [maskOf]
theorem alObj_none {all : List Oper} {t : List V} {i : Nat} (h : isAlAt all i = false) : alObj all t i = none := by
 unfold isAlAt at h
 unfold alObj
 cases e : all[i]? with
 | none => rfl
 | some o =>
   rw [e] at h
   simp only at h ⊢
   rw [h]
theorem alObj_some {all : List Oper} {t : List V} {i k : Nat} (h : alObj all t i = some k) : ∃ o d, all[i]? = some o /\ isAl o = true /\ o.dst = some d /\ t[d]? = some (.ptr k 0) := by
 unfold alObj at h
 cases e : all[i]? with
 | none => rw [e] at h; cases h
 | some o =>
   rw [e] at h
   simp only at h
   split at h
   · rename_i d e1 e2
     refine ⟨o, d, rfl, e1, e2, ?_⟩
     split at h
     · cases h; assumption
     · cases h
   · cases h
theorem alObj_of {all : List Oper} {t : List V} {i k : Nat} {o : Oper} {d : Nat} (h1 : all[i]? = some o) (h2 : isAl o = true) (h3 : o.dst = some d) (h4 : t[d]? = some (.ptr k 0)) : alObj all t i = some k := by
 unfold alObj
 rw [h1]
 simp only
 rw [h2, h3]
 simp only
 rw [h4]
 rfl
theorem alObj_congr {all : List Oper} {t t' : List V} {i : Nat} (h : ∀ o d, all[i]? = some o -> o.dst = some d -> t'[d]? = t[d]?) : alObj all t' i = alObj all t i := by
 unfold alObj
 cases e : all[i]? with
 | none => rfl
 | some o =>
   simp only
   cases e1 : isAl o with
   | false => rfl
   | true =>
     cases e2 : o.dst with
     | none => rfl
     | some d => simp only; rw [h o d e e2]
theorem filterMap_erase {f : Nat -> Option Nat} {i : Nat} (h : f i = none) : ∀ U : List Nat, (U.erase i).filterMap f = U.filterMap f
 | [] => rfl
 | x :: r => by
   by_cases e : x = i
   · subst e; simp [h]
   · rw [List.erase_cons_tail (by simpa using e), List.filterMap_cons, List.filterMap_cons, filterMap_erase h r]
theorem hid_congr {all : List Oper} {U : List Nat} {t t' : List V} (h : ∀ i ∈ U, alObj all t' i = alObj all t i) : hidL all U t' = hidL all U t := by
 unfold hidL
 induction U with
 | nil => rfl
 | cons x r ih => rw [List.filterMap_cons, List.filterMap_cons, h x (by simp), ih fun i hi => h i (by simp [hi])]
theorem slotsClean_of {k : Nat} {ok : Nat -> Bool} : ∀ {l : List V} {d : Nat}, (∀ (i : Nat) v, l[i]? = some v -> k ∈ ptrs v -> ok (d + i) = true) -> slotsClean k ok d l = true
 | [], d, h => rfl
 | x :: r, d, h => by
   simp only [slotsClean, Bool.and_eq_true]
   refine ⟨?_, slotsClean_of fun i v hv hk => by have := h (i + 1) v (by simpa using hv) hk; rwa [show d + (i + 1) = d + 1 + i by omega] at this⟩
   cases e : memN k (ptrs x) with
   | true => exact h 0 x (by simp) (memN_iff.1 e)
   | false => rfl
theorem objsClean_of {k : Nat} : ∀ {l : List VObj} {d : Nat}, (∀ (i : Nat) x, l[i]? = some x -> k ∈ ptrsO x -> d + i = k) -> objsClean k d l = true
 | [], d, h => rfl
 | x :: r, d, h => by
   simp only [objsClean, Bool.and_eq_true]
   refine ⟨?_, objsClean_of fun i v hv hk => by have := h (i + 1) v (by simpa using hv) hk; omega⟩
   cases e : memN k (ptrsO x) with
   | true => have := h 0 x (by simp) (memN_iff.1 e); simp only [Nat.add_zero] at this; subst this; simp
   | false => rfl
theorem mayName_of {all : List Oper} {A : List Nat} {a d : Nat} : ∀ {done : List Nat} {i : Nat}, i ∈ done -> (all[i]?).bind (·.dst) = some d -> (i = a \/ isAnc A i a = true) -> mayName all A done a d = true
 | [], i, h, _, _ => by cases h
 | j :: r, i, h, h1, h2 => by
   simp only [mayName, Bool.or_eq_true, Bool.and_eq_true]
   cases h with
   | head =>
     refine .inl ⟨by rw [h1]; simp, ?_⟩
     rcases h2 with rfl | h2
     · exact .inl (by simp)
     · exact .inr h2
   | tail _ h => exact .inr (mayName_of h h1 h2)
theorem mayName_cons {all : List Oper} {A : List Nat} {done : List Nat} {n a d : Nat} (h : mayName all A done a d = true) : mayName all A (n :: done) a d = true := by
 obtain ⟨i, hi, h1, h2⟩ := mayName_iff h
 exact mayName_of (List.mem_cons_of_mem _ hi) h1 h2
theorem AOK.slot {S : Sys} {all : List Oper} {done : List Nat} {m n : Nat} {t t' : List V} {ob : List VObj} {df : List (Fn × List V × List V)} {o : Oper} {v : V} (h : AOK S all done m t ob df) (ho : all[n]? = some o)
 (h0 : ∀ p d, all[m]? = some p -> p.dst = some d -> t'[d]? = t[d]?) (h1 : ∀ d, o.dst = some d -> t'[d]? = some v) (h2 : ∀ k, o.dst ≠ some k -> t'[k]? = t[k]?)
 (hv : ∀ k, alObj all t m = some k -> k ∈ ptrs v -> isAnc (ancs all []) n m = true) (ha : isAlAt all m = true) : AOK S all (n :: done) m t' ob df := by
 obtain ⟨k, hk, _⟩ := h.obj ha
 obtain ⟨o', T, d, j, i, cz, a1, a2, a3, a4, a5, a6, a7, a8⟩ := h
 obtain ⟨p, d', b1, b2, b3, b4⟩ := alObj_some hk
 rw [a1] at b1; cases b1
 rw [a3] at b3; cases b3
 rw [a4] at b4; cases b4
 refine ⟨o', T, d, _, i, cz, a1, a2, a3, by rw [h0 o' d a1 a3]; exact a4, a5, a6, a7, ?_⟩
 unfold allClean at a8 ⊢
 simp only [Bool.and_eq_true] at a8 ⊢
 refine ⟨⟨slotsClean_of fun q u hu hm => ?_, a8.1.2⟩, a8.2⟩
 rw [Nat.zero_add]
 by_cases hq : o.dst = some q
 · rw [h1 q hq] at hu; cases hu
   exact mayName_of (List.mem_cons_self ..) (by rw [ho]; exact hq) (.inr (hv _ hk hm))
 · rw [h2 q hq] at hu
   have := slotsClean_get a8.1.1 hu hm
   rw [Nat.zero_add] at this
   exact mayName_cons this
theorem AOK.snoc {S : Sys} {all : List Oper} {done : List Nat} {m : Nat} {t : List V} {ob : List VObj} {df : List (Fn × List V × List V)} {x : VObj} (h : AOK S all done m t ob df) (hx : ptrsO x = []) : AOK S all done m t (ob ++ [x]) df := by
 obtain ⟨o', T, d, j, i, cz, a1, a2, a3, a4, a5, a6, a7, a8⟩ := h
 refine ⟨o', T, d, j, i, cz, a1, a2, a3, a4, a5, a6, by rw [List.getElem?_append_left (List.getElem?_eq_some_iff.1 a7).1]; exact a7, ?_⟩
 unfold allClean at a8 ⊢
 simp only [Bool.and_eq_true] at a8 ⊢
 refine ⟨⟨a8.1.1, objsClean_of fun q y hy hm => ?_⟩, a8.2⟩
 rcases snoc_get hy with ⟨_, hy⟩ | ⟨_, rfl⟩
 · exact objsClean_get a8.1.2 hy hm
 · rw [hx] at hm; cases hm
theorem AOK.apart {S : Sys} {all : List Oper} {done : List Nat} {i j k : Nat} {t : List V} {ob : List VObj} {df : List (Fn × List V × List V)} (hd : DoneOk all done) (hj : j ∈ done) (hij : i ≠ j) (aj : isAlAt all j = true)
 (h : AOK S all done i t ob df) (hki : alObj all t i = some k) (hkj : alObj all t j = some k) : False := by
 obtain ⟨o', T, d, k', _, cz, a1, a2, a3, a4, a5, a6, a7, a8⟩ := h
 obtain ⟨p, d', b1, b2, b3, b4⟩ := alObj_some hki
 rw [a1] at b1; cases b1
 rw [a3] at b3; cases b3
 rw [a4] at b4; cases b4
 obtain ⟨p, d', b1, b2, b3, b4⟩ := alObj_some hkj
 unfold allClean at a8
 simp only [Bool.and_eq_true] at a8
 have := slotsClean_get a8.1.1 b4 (by simp [ptrs])
 rw [Nat.zero_add] at this
 obtain ⟨q, hq, e1, e2⟩ := mayName_iff this
 by_cases hqj : q = j
 · subst hqj
   rcases e2 with rfl | e2
   · exact hij rfl
   · rw [al_noanc aj] at e2; cases e2
 · obtain ⟨oq, e3, e4⟩ := Option.bind_eq_some_iff.1 e1
   have := hd.same q hq j hj hqj oq p e3 b1
   rw [sameDst_iff.2 ⟨d', e4, b3⟩] at this; cases this
theorem pendK_iff {all : List Oper} {n : Nat} {t : List V} {v : V} {k : Prop} : ∀ {done : List Nat}, pendK all (ancs all []) n t v done k -> k /\ ∀ a ∈ done, isAlAt all a = true -> isAnc (ancs all []) n a = false -> ∀ j, alObj all t a = some j -> j ∉ ptrs v
 | [], h => ⟨h, by simp⟩
 | a :: r, h => by
   unfold pendK at h
   split at h
   case h_2 => exact h.elim
   rename_i o ho
   have key : k /\ (∀ a ∈ r, isAlAt all a = true -> isAnc (ancs all []) n a = false -> ∀ j, alObj all t a = some j -> j ∉ ptrs v) /\ (isAlAt all a = true -> isAnc (ancs all []) n a = false -> ∀ j, alObj all t a = some j -> j ∉ ptrs v) := by
    split at h
    · rename_i hc
      obtain ⟨h1, h2⟩ := pendK_iff (done := r) h
      refine ⟨h1, h2, fun ha hn => ?_⟩
      obtain ⟨o', ho', ha⟩ := isAlAt_iff.1 ha
      rw [ho] at ho'; cases ho'
      rw [ha, hn] at hc; cases hc
    · split at h
      case h_2 => exact h.elim
      rename_i d hd
      obtain ⟨p, hp, h⟩ := getK_iff h
      split at h
      case h_2 => exact h.elim
      rename_i j
      split at h
      · exact h.elim
      · rename_i hm
        obtain ⟨h1, h2⟩ := pendK_iff (done := r) h
        refine ⟨h1, h2, fun ha hn j' hj' hm' => ?_⟩
        obtain ⟨o', d', b1, b2, b3, b4⟩ := alObj_some hj'
        rw [ho] at b1; cases b1
        rw [hd] at b3; cases b3
        rw [hp] at b4; cases b4
        rw [memN_iff.2 hm'] at hm; cases hm
   refine ⟨key.1, fun b hb => ?_⟩
   cases hb with
   | head => exact key.2.2
   | tail _ hb => exact key.2.1 b hb
section
variable {c : Ctx} {g : G} {w : World} {ob : List VObj} {nt : Nat}
theorem Ext.more (g : G) (w : World) (n nt : Nat) : Ext g w n nt g w (n + 1) nt := ⟨by omega, Nat.le_refl _, fun _ _ => rfl, fun _ _ h => ⟨h, rfl⟩, fun _ _ => rfl⟩
theorem WInv.snocNone (h : WInv c g w ob nt) : WInv c g w (ob ++ [.none]) nt := by
 have he := Ext.more g w ob.length nt
 have hlen := h.len
 refine ⟨h.os, h.tape, h.output, h.size, h.keep, by simp; omega, ?_, ?_, ?_, ?_, ?_, h.i1, h.i2, h.i3, ?_, ?_, ?_, h.f2, h.i6⟩
 · intro i y hy
   rw [List.length_append, List.length_singleton]
   rcases snoc_get hy with ⟨hi, hy⟩ | ⟨rfl, rfl⟩
   · exact he.orel' (h.obj i _ hy) fun _ => rfl
   · trivial
 · intro i y hy hr
   rcases snoc_get hy with ⟨hi, hy⟩ | ⟨rfl, rfl⟩
   · exact h.lt i y hy hr
   · cases hr
 · intro i j y z hy hz hr hr'
   rcases snoc_get hy with ⟨hi, hy⟩ | ⟨rfl, rfl⟩
   · rcases snoc_get hz with ⟨hj, hz⟩ | ⟨rfl, rfl⟩
     · exact h.inj i j y z hy hz hr hr'
     · cases hr'
   · cases hr
 · intro i y hi hy hm
   rcases snoc_get hy with ⟨_, hy⟩ | ⟨e, rfl⟩
   · exact h.old i y hi hy hm
   · omega
 · intro i y hy hr
   rcases snoc_get hy with ⟨_, hy⟩ | ⟨e, rfl⟩
   · exact h.new i y hy hr
   · cases hr
 · intro i T cs k hy
   rcases snoc_get hy with ⟨_, hy⟩ | ⟨e, e'⟩
   · exact h.i4 i T cs k hy
   · cases e'
 · intro i y k hy hl
   rcases snoc_get hy with ⟨_, hy⟩ | ⟨e, rfl⟩
   · exact h.i5 i y k hy hl
   · cases hl
 · intro i hi hn
   obtain ⟨h1, h2, h3, h4⟩ := h.f1 i hi hn
   refine ⟨h1, h2, h3, fun o' y hy hr => ?_⟩
   rcases snoc_get hy with ⟨_, hy⟩ | ⟨e, rfl⟩
   · exact h4 o' y hy hr
   · cases hr
end
section
variable {S : Sys} {c : Ctx} {Q : Exit -> Act -> World -> Prop} {ops : Array Oper}
theorem exec_al {P : Program} {g : G} {w : World} {a : Act} {o : Oper} {T : TypeId} {t : List V} {ob : List VObj} {nt : Nat} {df : List (Fn × List V × List V)} {k : Nat} {i : TypeInfo} {z : Value} {next : Act -> World -> Prop} (ho : o.op = .alloc T)
 (hs : Sim c g w a ⟨t, ob, nt, df⟩) (hk : ob[k]? = some .none) (hn : c.n0 <= k) (ht : ∀ v ∈ t, k ∉ ptrs v) (hob : ∀ (i : Nat) y, ob[i]? = some y -> k ∉ ptrsO y) (hdf : noneIn [k] df = true) (hi : P.info? T = some i) (hz : i.zero = some z)
 (h1 : (ofConstAgg z).cells.all V.okCell = true) (h2 : (ofConstAgg z).tokOk = true)
 (H : ∀ g' w' x, Sim c g' w' a ⟨t, ob.set k (.cells true T (ofConstAgg z).cells), nt, df⟩ -> VT g' w' ob.length nt (.ptr k 0) x -> next (a.put o.dst x) w') : o.wp P a w next Q := by
 have hkl := (List.getElem?_eq_some_iff.1 hk).1
 have hrun : (execOp a.eval o).run P w = .ok (.value (.pointer (some ⟨w.heap.size, 0, none⟩))) (w.alloc (.cells z.cells T)) := by
  simp [execOp, ho, Instr.alloc, zeroValue, typeInfo, hi, hz, newVar, newRow]
 unfold Oper.wp
 rw [hrun]
 have hI := hs.wi.i3
 have hx : ORel (g.lay k w.heap.size) (w.alloc (.cells z.cells T)) ob.length nt w.heap.size (.cells true T (ofConstAgg z).cells) := by
  obtain ⟨hcl, hcr⟩ := cells_rel (ofConstAgg_rel (bs := (g.lay k w.heap.size).bs) (I := g.I) (w := w.alloc (.cells z.cells T)) (n := ob.length) z) h1
  have hone := cells_one (ofConstAgg_rel (bs := (g.lay k w.heap.size).bs) (I := g.I) (w := w.alloc (.cells z.cells T)) (n := ob.length) z) h1
  have htok := cells_tok (g := g) (w := w) (ob := ob) (nt := nt) (fam := g.fam) (ofConstAgg_rel z) (.of_no (ofConstAgg_noTok z)) h1 h2
  exact ⟨z.cells, heap_alloc_new w _, hcl, fun q u y hu hy => ⟨⟨hcr q u y hu hy, htok q u y hu hy⟩, hone y (Array.mem_toList_iff.2 (Array.mem_of_getElem? hy))⟩⟩
 have hlay : ∀ v x, VRel g.bs g.I w ob.length v x -> k ∉ ptrs v -> VRel (g.lay k w.heap.size).bs (g.lay k w.heap.size).I (w.alloc (.cells z.cells T)) ob.length v x := fun v x h hv => by
  have h1 : VRel (g.lay k w.heap.size).bs g.I w ob.length v x := h.reb fun o ho _ => by
   show (if o = k then w.heap.size else g.bs o) = g.bs o
   rw [if_neg (fun (e : o = k) => hv (e ▸ ho))]
  exact h1.mono (fun o ho => ⟨ho, rfl⟩) fun b q hb => ⟨hb, by
   have := hI b q hb
   simp only [World.cell?]
   rw [heap_alloc_lt _ _ this]⟩
 refine H (g.lay k w.heap.size) _ _ ⟨hs.wi.lay hk hn hob hx, ?_, ?_⟩ ?_
 · refine ⟨hs.ti.size, fun q v x hv hx => ?_, ⟨fun b l hb q v hv => by
    obtain ⟨h1, h2⟩ := hs.ti.gl.1 b l hb q v hv
    refine ⟨?_, h2⟩
    rw [← h1]
    have := hI b q h2
    simp only [World.cell?]
    rw [heap_alloc_lt _ _ this], fun b hb => by
    obtain ⟨m, h1, h2⟩ := hs.ti.gl.2 b hb
    refine ⟨m, ?_, h2⟩
    rw [← h1]
    have := hI b 0 h2
    simp only [World.cell?]
    rw [heap_alloc_lt _ _ this]⟩⟩
   have := hs.ti.rel q v x hv hx
   show VT _ _ (ob.set k _).length _ _ _
   rw [List.length_set]
   exact ⟨hlay v x this.rel (ht v (List.mem_of_getElem? hv)), this.tok⟩
 · show DRel _ _ (ob.set k _).length _ _
   rw [List.length_set]
   exact DRel.forget (ms := [k]) (fun v x h hno => hlay v x h fun hm => hno k hm (by simp)) hs.di hdf
 · refine ⟨?_, trivial⟩
   have : VRel (g.lay k w.heap.size).bs (g.lay k w.heap.size).I (w.alloc (.cells z.cells T)) ob.length (.ptr k 0) (.pointer (some ⟨(g.lay k w.heap.size).bs k, 0, none⟩)) := .ptr hkl
   have e : (g.lay k w.heap.size).bs k = w.heap.size := by simp [G.lay]
   rw [e] at this
   exact this
end
end VL

namespace VL
open Go
section
variable {S : Sys} {c : Ctx} {Q : Exit -> Act -> World -> Prop} {ops : Array Oper}
structure UOK (S : Sys) (c : Ctx) (all : List Oper) (done : List Nat) (i : Nat) (t : List V) (ob : List VObj) (df : List (Fn × List V × List V)) : Prop where
 flo : isAlAt all i = false -> FOK S all i t ob
 al : isAlAt all i = true -> AOK S all done i t ob df
 low : isAlAt all i = true -> ∀ k, alObj all t i = some k -> c.n0 <= k
 zero : isAlAt all i = true -> ∀ o T p z, all[i]? = some o -> o.op = .alloc T -> S.P.info? T = some p -> p.zero = some z -> (ofConstAgg z).cells.all V.okCell = true /\ (ofConstAgg z).tokOk = true
theorem UOK.unseen {all : List Oper} {done U : List Nat} {t : List V} {ob : List VObj} {df : List (Fn × List V × List V)} (hu : ∀ i ∈ U, UOK S c all done i t ob df) (hU : ∀ m ∈ U, ∀ i ∈ done, isAnc (ancs all []) i m = true -> i ∈ U) :
 ∀ k ∈ hidL all U t, Unseen k (masked (slotIn all U) t) ob := by
 intro k hk
 obtain ⟨m, hm, hk⟩ := List.mem_filterMap.1 hk
 have ha : isAlAt all m = true := by
  cases e : isAlAt all m with
  | true => rfl
  | false => rw [alObj_none e] at hk; cases hk
 refine ((hu m hm).al ha).unseen hk fun i hi h => ?_
 rcases h with rfl | h
 · exact hm
 · exact hU m hm i hi h
theorem hideObs_snoc (ks : List Nat) (ob : List VObj) : hideObs ks (ob ++ [.none]) = hideObs ks ob ++ [.none] := by
 apply List.ext_getElem?
 intro q
 rw [hideObs_get]
 rcases Nat.lt_trichotomy q ob.length with h | h | h
 · rw [List.getElem?_append_left h, List.getElem?_append_left (by rw [hideObs_length]; exact h), hideObs_get]
 · subst h
   rw [List.getElem?_append_right (Nat.le_refl _), List.getElem?_append_right (by rw [hideObs_length]; exact Nat.le_refl _), hideObs_length]
   simp
 · rw [List.getElem?_eq_none (by simp; omega), List.getElem?_eq_none (by simp [hideObs_length]; omega)]
   simp
theorem hidesS_nil (s : St) : hidesS [] s = s := by obtain ⟨t, ob, nt, df⟩ := s; rfl
theorem vop_hidesL (S : Sys) (hm : CallMono S) {o : Oper} {t : List V} {nt : Nat} {df : List (Fn × List V × List V)} {ks : List Nat} {ob : List VObj} {K : V -> St -> Prop} (hu : ∀ j ∈ ks, Unseen j t ob)
 (h : vop S o ⟨t, ob, nt, df⟩ K fun _ _ => False) : vop S o ⟨t, hideObs ks ob, nt, df⟩ (fun v s' => ∃ s, K v s /\ s' = hidesS ks s) fun _ _ => False := by
 cases ks with
 | cons k r => exact vop_hides S hm hu (fun v s h => ⟨s, h, rfl⟩) h
 | nil =>
   have : (fun v s' => ∃ s, K v s /\ s' = hidesS [] s) = K := by
    funext v s'
    apply propext
    constructor
    · rintro ⟨s, h, rfl⟩; rw [hidesS_nil]; exact h
    · intro h; exact ⟨s', h, (hidesS_nil s').symm⟩
   rw [this]; exact h
theorem exec_flo {g : G} {w : World} {a : Act} {s : St} {U : List Nat} {i : Nat} {o : Oper} (ho : ops.toList[i]? = some o) (hi : i ∈ U) (hU : U.Nodup) (hal : isAlAt ops.toList i = false) (hf : FOK S ops.toList i s.t s.objs)
 (hlook : ∀ d ∈ looks ops.toList o, slotIn ops.toList U d = false) (hd : ∀ d, o.dst = some d -> slotIn ops.toList (U.erase i) d = false) (hun : ∀ k ∈ hidL ops.toList U s.t, Unseen k (masked (slotIn ops.toList U) s.t) s.objs)
 (hs : Sim c g w a (maskU ops.toList U s)) {Kc : Act -> World -> Prop} (hk : ∀ g w a, Sim c g w a (maskU ops.toList (U.erase i) s) -> Kc a w) : wpOp S.P ops Q i Kc a w := by
 obtain ⟨o', u, ho', h1, h2⟩ := hf
 have : o' = o := by rw [ho] at ho'; exact (Option.some.inj ho').symm
 subst this
 obtain ⟨t, ob, nt, df⟩ := s
 have hag : ∀ d ∈ looks ops.toList o', t[d]? = (masked (slotIn ops.toList U) t)[d]? := fun d hd => by
  rw [masked_get, hlook d hd]; cases t[d]? <;> rfl
 have hop : ops[i]? = some o' := by simpa using ho
 have her : hidL ops.toList (U.erase i) t = hidL ops.toList U t := filterMap_erase (alObj_none hal) U
 have hput : ∀ {g : G} {w : World} {b : Act} {x : Value}, Sim c g w b (maskU ops.toList U ⟨t, ob, nt, df⟩) -> VT g w ob.length nt u x -> Sim c g w (b.put o'.dst x) (maskU ops.toList (U.erase i) ⟨t, ob, nt, df⟩) := fun hs' hv => by
  have := mask_put (s := ⟨t, hideObs (hidL ops.toList U t) ob, nt, df⟩) ho hi hU (fun d hd' => ⟨h1 d hd', hd d hd'⟩) hs' (by rw [hideObs_length]; exact hv)
  show Sim c _ _ _ ⟨_, hideObs (hidL ops.toList (U.erase i) t) ob, nt, df⟩
  rw [her]; exact this
 unfold wpOp
 rw [hop]
 simp only at h1 h2 ⊢
 rw [looks_gOn hag, vflo_congr S ob (looks_ev hag)] at h2
 rcases h2 with ⟨hg, h2⟩ | ⟨hg, rfl⟩
 · rw [wanted_gOn hs.ti hg, if_pos rfl]
   have h2 := vflo_hides S hun h2
   refine .inl (sound_flo (S := S) (K := fun v s' => v = u /\ s' = maskU ops.toList U ⟨t, ob, nt, df⟩) (KP := fun _ _ => False) (next := Kc) ?_ hs ?_)
   · refine ⟨fun v x s' g' w' b hk' hs' _ hv => ?_, fun _ _ _ _ _ _ h => h.elim⟩
     obtain ⟨rfl, rfl⟩ := hk'
     refine hk _ _ _ (hput hs' ?_)
     have hv : VT g' w' (hideObs (hidL ops.toList U t) ob).length nt v x := hv
     rw [hideObs_length] at hv; exact hv
   · obtain ⟨v, rfl, h3⟩ := det_vflo S o' _ _ _ h2
     exact h3 _ ⟨rfl, rfl⟩
 · rw [wanted_gOn hs.ti hg, if_neg (by simp)]
   exact hk _ _ _ (hput hs (.of (.tup rfl (by simp)) rfl))
theorem exec_alU {g : G} {w : World} {a : Act} {s : St} {done U : List Nat} {i : Nat} {o : Oper} (ho : ops.toList[i]? = some o) (hi : i ∈ U) (hU : U.Nodup) (hal : isAlAt ops.toList i = true) (hdone : DoneOk ops.toList done) (hUd : ∀ j ∈ U, j ∈ done)
 (hu : ∀ j ∈ U, UOK S c ops.toList done j s.t s.objs s.defers) (hd : ∀ d, o.dst = some d -> slotIn ops.toList (U.erase i) d = false) (hun : ∀ k ∈ hidL ops.toList U s.t, Unseen k (masked (slotIn ops.toList U) s.t) s.objs)
 (hs : Sim c g w a (maskU ops.toList U s)) {Kc : Act -> World -> Prop} (hk : ∀ g w a, Sim c g w a (maskU ops.toList (U.erase i) s) -> Kc a w) : wpOp S.P ops Q i Kc a w := by
 obtain ⟨t, ob, nt, df⟩ := s
 have hA := (hu i hi).al hal
 obtain ⟨k, hkO, hkl⟩ := hA.obj hal
 have hlow := (hu i hi).low hal k hkO
 have hA' := hA
 obtain ⟨o', T, d, j, p, z, a1, a2, a3, a4, a5, a6, a7, a8⟩ := hA
 rw [ho] at a1; cases a1
 obtain ⟨o2, d', b1, b2, b3, b4⟩ := alObj_some hkO
 rw [ho] at b1; cases b1
 rw [a3] at b3; cases b3
 simp only at a4 b4
 rw [a4] at b4; cases b4
 obtain ⟨T', d', e1, e2, e3, e4⟩ := isAl_iff b2
 have hz := (hu i hi).zero hal o T p z ho a2 a5 a6
 have hm : k ∈ hidL ops.toList U t := List.mem_filterMap.2 ⟨i, hi, hkO⟩
 have hun' := hun k hm
 have hjn : (hideObs (hidL ops.toList U t) ob)[k]? = some .none := by
  rw [hideObs_get, if_pos hm]
  simp only at a7
  rw [a7]; rfl
 have hop : ops[i]? = some o := by simpa using ho
 have hg : gOn ops.toList o (masked (slotIn ops.toList U) t) = some true := by unfold gOn; rw [e2]
 unfold wpOp
 rw [hop]
 simp only
 rw [wanted_gOn hs.ti hg, if_pos rfl]
 unfold allClean at a8
 simp only [Bool.and_eq_true] at a8
 refine .inl (exec_al (P := S.P) (k := k) a2 hs hjn hlow hun'.slots (fun q y hy hm' => ?_) a8.2 a5 a6 hz.1 hz.2 fun g' w' x hs' hv => ?_)
 · have hy : (hideObs (hidL ops.toList U t) ob)[q]? = some y := hy
   rw [hideObs_get] at hy
   split at hy
   · obtain ⟨_, _, rfl⟩ := Option.map_eq_some_iff.1 hy
     simp [ptrsO] at hm'
   · rename_i hq
     exact hun'.objs q y (fun e => hq (e ▸ hm)) hy hm'
 · refine hk g' w' _ ?_
   have hob : (hideObs (hidL ops.toList U t) ob).set k (.cells true T (ofConstAgg z).cells) = hideObs (hidL ops.toList (U.erase i) t) ob := by
    apply List.ext_getElem?
    intro q
    have hmem : ∀ q, q ∈ hidL ops.toList U t ↔ q = k \/ q ∈ hidL ops.toList (U.erase i) t := fun q => by
     constructor
     · intro h
       obtain ⟨m, hm1, hm2⟩ := List.mem_filterMap.1 h
       by_cases e : m = i
       · subst e; rw [hkO] at hm2; cases hm2; exact .inl rfl
       · exact .inr (List.mem_filterMap.2 ⟨m, (List.Nodup.mem_erase_iff hU).2 ⟨e, hm1⟩, hm2⟩)
     · rintro (rfl | h)
       · exact hm
       · obtain ⟨m, hm1, hm2⟩ := List.mem_filterMap.1 h
         exact List.mem_filterMap.2 ⟨m, List.mem_of_mem_erase hm1, hm2⟩
    have hnot : k ∉ hidL ops.toList (U.erase i) t := fun h => by
     obtain ⟨m, hm1, hm2⟩ := List.mem_filterMap.1 h
     obtain ⟨hmi, hm1⟩ := (List.Nodup.mem_erase_iff hU).1 hm1
     have ham : isAlAt ops.toList m = true := by
      cases e : isAlAt ops.toList m with
      | true => rfl
      | false => rw [alObj_none e] at hm2; cases hm2
     exact AOK.apart hdone (hUd m hm1) (Ne.symm hmi) ham hA' hkO hm2
    by_cases hq : q = k
    · subst hq
      rw [List.getElem?_set_self (by rw [hideObs_length]; exact hkl), hideObs_get, if_neg hnot]
      exact a7.symm
    · rw [List.getElem?_set_ne (Ne.symm hq), hideObs_get, hideObs_get]
      by_cases h : q ∈ hidL ops.toList (U.erase i) t
      · rw [if_pos h, if_pos ((hmem q).2 (.inr h))]
      · rw [if_neg h, if_neg fun h' => by
         rcases (hmem q).1 h' with h' | h'
         · exact hq h'
         · exact h h']
   have := mask_put (s := ⟨t, (hideObs (hidL ops.toList U t) ob).set k (.cells true T (ofConstAgg z).cells), nt, df⟩) ho hi hU (u := .ptr k 0)
    (fun d2 hd2 => ⟨by rw [a3] at hd2; cases hd2; exact a4, hd d2 hd2⟩) hs' (by rw [List.length_set]; exact hv)
   show Sim c _ _ _ ⟨_, hideObs (hidL ops.toList (U.erase i) t) ob, nt, df⟩
   rw [← hob]; exact this
theorem undefK_iff {all : List Oper} : ∀ {done : List Nat} {t : List V} {K : List V -> Prop}, undefK all done t K -> ∃ t', K t' /\ t'.length = t.length /\ ∀ (k : Nat) v, t'[k]? = some v -> v = .undef \/ (slotIn all done k = false /\ t[k]? = some v)
 | [], t, K, h => ⟨t, h, rfl, fun k v hv => .inr ⟨by simp [slotIn], hv⟩⟩
 | i :: r, t, K, h => by
   simp only [undefK] at h
   cases hd : (all[i]?).bind (·.dst) with
   | none =>
     rw [hd] at h
     obtain ⟨t', h1, h2, h3⟩ := undefK_iff h
     refine ⟨t', h1, h2, fun k v hv => ?_⟩
     rcases h3 k v hv with e | ⟨e, e2⟩
     · exact .inl e
     · refine .inr ⟨?_, e2⟩
       simp only [slotIn, List.any_cons, hd] at e ⊢
       simpa using e
   | some d =>
     rw [hd] at h
     simp only at h
     obtain ⟨hlt, h⟩ := setK_iff h
     obtain ⟨t', h1, h2, h3⟩ := undefK_iff h
     refine ⟨t', h1, by rw [h2, List.length_set], fun k v hv => ?_⟩
     rcases h3 k v hv with e | ⟨e, e2⟩
     · exact .inl e
     · by_cases hk : d = k
       · subst hk
         rw [List.getElem?_set_self hlt] at e2
         exact .inl (Option.some.inj e2).symm
       · rw [List.getElem?_set_ne hk] at e2
         refine .inr ⟨?_, e2⟩
         simp only [slotIn, List.any_cons, hd] at e ⊢
         simpa [hk] using e
theorem noAl_iff {all : List Oper} : ∀ {done : List Nat}, noAl all done = true -> ∀ i ∈ done, isAlAt all i = false
 | i :: r, h, j, hj => by
   simp only [noAl, Bool.and_eq_true] at h
   rcases List.mem_cons.1 hj with rfl | hj
   · unfold isAlAt
     have := h.1
     split at this
     · rename_i o ho; rw [ho]; simpa using this
     · rename_i ho; rw [ho]
   · exact noAl_iff h.2 j hj
theorem draw_any (hm : CallMono S) (hS : ∀ g args ob K, S.call g args ob K -> VCall0 S.P g args ob K) {K : St -> Prop} {KP : V -> St -> Prop} (hk : ∀ s g w a, K s -> Sim c g w a s -> Q .normal a w) (hkp : ∀ v x s g w a, KP v s -> Sim c g w a s -> VRel g.bs g.I w s.objs.length v x -> Q (.panic [{ v := x, recovered := false }]) a w) (hd : depsOk ops.toList 0 = true) :
 ∀ (N : Nat) (π : List (Nat × Bool)) (done : List Nat) (s : St) (fuel : Nat) (listed : Array Bool) (U : List Nat) (g : G) (w : World) (a : Act), π.length + fuel <= N ->
  planOk ops.toList (ancs ops.toList []) π done = true -> (π.map (·.1)).Nodup -> (∀ i ∈ done, i ∉ π.map (·.1)) -> (∀ i ∈ done, i < ops.size) -> vdraw S ops.toList (ancs ops.toList []) π done s K KP -> DoneOk ops.toList done ->
  Sim c g w a (maskU ops.toList U s) -> U.Nodup -> (∀ i ∈ U, i ∈ done /\ listed.getD i true = false /\ i ∉ π.map (·.1) /\ UOK S c ops.toList done i s.t s.objs s.defers) ->
  (∀ i, i < ops.size -> listed.getD i true = false -> i ∈ U \/ i ∈ π.map (·.1)) -> (∀ i ∈ π.map (·.1), listed.getD i true = false) -> listed.size = ops.size ->
  (∀ (i : Nat) o, ops.toList[i]? = some o -> listed.getD i false = true -> ∀ e ∈ o.after, Region.binds .any e = true -> listed.getD e.on false = true) -> U.length + π.length <= fuel ->
  wpAny S.P .any ops Q fuel listed a w := by
 have hmask : ∀ s : St, maskU ops.toList [] s = s := fun s => by
  obtain ⟨t, ob, nt, df⟩ := s
  have : masked (slotIn ops.toList []) t = t := List.ext_getElem? fun k => by
   rw [masked_get]; simp [slotIn]
  simp only [maskU, this]; rfl
 have fin : ∀ (s : St) (g : G) (w : World) (a : Act), vdraw S ops.toList (ancs ops.toList []) [] [] s K KP \/ K s -> Sim c g w a (maskU ops.toList [] s) -> Q .normal a w := fun s g w a h hs => by
  rw [hmask] at hs
  rcases h with h | h
  · obtain ⟨t, ob, nt, df⟩ := s; exact hk _ _ _ _ h hs
  · exact hk _ _ _ _ h hs
 intro N
 induction N with
 | zero =>
   intro π done s fuel listed U g w a hN hplan hnd hdis hdl h hdone hs hUn hU hcov hun hsize hcl hcount
   have hf : fuel = 0 := by omega
   have hπ : π = [] := List.eq_nil_of_length_eq_zero (by omega)
   have hU0 : U = [] := List.eq_nil_of_length_eq_zero (by omega)
   subst hf; subst hπ; subst hU0
   refine ⟨?_, fin s g w a (.inr (by obtain ⟨t, ob, nt, df⟩ := s; exact h)) hs⟩
   cases hr : Region.ready .any ops listed with
   | nil => rfl
   | cons j r =>
     obtain ⟨h1, o, h2, _⟩ := mem_ready.1 (show j ∈ Region.ready .any ops listed by rw [hr]; simp)
     have := hcov j (Array.getElem?_eq_some_iff.1 h2).1 h1
     simp at this
 | succ N ih =>
   intro π done s fuel listed U g w a hN hplan hnd hdis hdl h hdone hs hUn hU hcov hun hsize hcl hcount
   cases fuel with
   | zero =>
     have hπ : π = [] := List.eq_nil_of_length_eq_zero (by omega)
     have hU0 : U = [] := List.eq_nil_of_length_eq_zero (by omega)
     subst hπ; subst hU0
     refine ⟨?_, fin s g w a (.inr (by obtain ⟨t, ob, nt, df⟩ := s; exact h)) hs⟩
     cases hr : Region.ready .any ops listed with
     | nil => rfl
     | cons j r =>
       obtain ⟨h1, o, h2, _⟩ := mem_ready.1 (show j ∈ Region.ready .any ops listed by rw [hr]; simp)
       have := hcov j (Array.getElem?_eq_some_iff.1 h2).1 h1
       simp at this
   | succ f =>
     have hsizeL : ops.toList.length = ops.size := by simp
     have hnoU : ∀ i ∈ U, ¬ listed.getD i false = true := fun i hi h => by
      have := (unlisted_iff.1 (hU i hi).2.1).2; rw [this] at h; cases h
     have hnoπ : ∀ i ∈ π.map (·.1), ¬ listed.getD i false = true := fun i hi h => by
      have := (unlisted_iff.1 (hun i hi)).2; rw [this] at h; cases h
     refine ⟨fun hr => ?_, fun i hi => ?_⟩
     · -- nothing is ready: all have come
       have hall : ∀ k, k < ops.size -> listed.getD k false = true := by
        intro k
        induction k using Nat.strongRecOn with
        | _ k ihk =>
          intro hk'
          cases hl : listed.getD k false with
          | true => rfl
          | false =>
            have hop : ops[k]? = some ops[k] := Array.getElem?_eq_getElem hk'
            have : k ∈ Region.ready .any ops listed := mem_ready.2 ⟨unlisted_iff.2 ⟨by omega, hl⟩, ops[k], hop, fun e he hb => by
             have := depsOk_iff ops.toList hd k ops[k] (by simp) e he hb
             exact ihk e.on (by omega) (by omega)⟩
            rw [hr] at this; cases this
       have hU0 : U = [] := by
        cases U with
        | nil => rfl
        | cons i U =>
          have h1 := unlisted_iff.1 (hU i (by simp)).2.1
          exact absurd (hall i (by omega)) (hnoU i (by simp))
       have hπ0 : π = [] := by
        cases π with
        | nil => rfl
        | cons p r =>
          have h1 := unlisted_iff.1 (hun p.1 (by simp))
          exact absurd (hall p.1 (by omega)) (hnoπ p.1 (by simp))
       subst hU0; subst hπ0
       exact fin s g w a (.inr (by obtain ⟨t, ob, nt, df⟩ := s; exact h)) hs
     · obtain ⟨hi1, o, ho, hdeps⟩ := mem_ready.1 hi
       have hoL : ops.toList[i]? = some o := by simpa using ho
       have hilt : i < ops.size := (Array.getElem?_eq_some_iff.1 ho).1
       have hanc : ∀ j, isAnc (ancs ops.toList []) i j = true -> listed.getD j false = true := anc_closed hd (L := fun k => listed.getD k false = true) (fun k p hp hL e he hb => hcl k p hp hL e he hb) i o hoL hdeps
       have hls : ∀ j, (listed.setIfInBounds i true).getD j false = true ↔ j = i \/ listed.getD j false = true := fun j => listed_set (by omega)
       have hcl' : ∀ (k : Nat) p, ops.toList[k]? = some p -> (listed.setIfInBounds i true).getD k false = true -> ∀ e ∈ p.after, Region.binds .any e = true -> (listed.setIfInBounds i true).getD e.on false = true := fun k p hp hL e he hb => by
        rw [hls] at hL ⊢
        rcases hL with rfl | hL
        · rw [hoL] at hp; cases hp; exact .inr (hdeps e he hb)
        · exact .inr (hcl k p hp hL e he hb)
       have hun' : ∀ j, j ≠ i -> (listed.setIfInBounds i true).getD j true = listed.getD j true := fun j hj => getD_set_ne true (Ne.symm hj)
       have hself' : ¬ (listed.setIfInBounds i true).getD i true = false := fun h => by
        have := (unlisted_iff.1 h).2
        rw [(hls i).2 (.inl rfl)] at this; cases this
       have hancl : ∀ m ∈ U, ∀ j ∈ done, isAnc (ancs ops.toList []) j m = true -> j ∈ U := fun m hm j hj hjm => by
        have hjl := hdl j hj
        have hjo : ops.toList[j]? = some ops[j] := by simp [hjl]
        have hjn : listed.getD j true = false := by
         cases e : listed.getD j false with
         | false => exact unlisted_iff.2 ⟨by omega, e⟩
         | true => exact absurd (anc_closed hd (L := fun k => listed.getD k false = true) (fun k p hp hL e he hb => hcl k p hp hL e he hb) j _ hjo (fun e he hb => hcl j _ hjo ‹_› e he hb) m hjm) (hnoU m hm)
        rcases hcov j hjl hjn with h | h
        · exact h
        · exact absurd h (hdis j hj)
       have hunS : ∀ k ∈ hidL ops.toList U s.t, Unseen k (masked (slotIn ops.toList U) s.t) s.objs := UOK.unseen (fun m hm => (hU m hm).2.2.2) hancl
       rcases hcov i hilt hi1 with hiU | hiπ
       · -- it is one that is still to come
         obtain ⟨b1, b2, b3, b4⟩ := hU i hiU
         have hexec : (∀ d ∈ looks ops.toList o, slotIn ops.toList U d = false) -> (∀ d, o.dst = some d -> slotIn ops.toList (U.erase i) d = false) -> (∀ g w a, Sim c g w a (maskU ops.toList (U.erase i) s) -> wpAny S.P .any ops Q f (listed.setIfInBounds i true) a w) ->
          wpOp S.P ops Q i (wpAny S.P .any ops Q f (listed.setIfInBounds i true)) a w := fun e1 e2 e3 => by
          cases hal : isAlAt ops.toList i with
          | false => exact exec_flo hoL hiU hUn hal (b4.flo hal) e1 e2 hunS hs e3
          | true => exact exec_alU hoL hiU hUn hal hdone (fun j hj => (hU j hj).1) (fun j hj => (hU j hj).2.2.2) e2 hunS hs e3
         refine hexec (fun d hdl => ?_) (fun d hdd => ?_) fun g' w' a' hs' => ?_
         · cases hsl : slotIn ops.toList U d with
           | false => rfl
           | true =>
             obtain ⟨j, hj, p, hp, e⟩ := slotIn_iff.1 hsl
             by_cases hji : j = i
             · subst hji
               rw [hoL] at hp; cases hp
               have := hdone.self j b1 o hoL
               rw [dstIn_iff.2 ⟨d, e, hdl⟩] at this; cases this
             · have := hdone.look i b1 j (hU j hj).1 (Ne.symm hji) o p hoL hp (dstIn_iff.2 ⟨d, e, hdl⟩)
               exact absurd (hanc j this) (hnoU j hj)
         · cases hsl : slotIn ops.toList (U.erase i) d with
           | false => rfl
           | true =>
             obtain ⟨j, hj, p, hp, e⟩ := slotIn_iff.1 hsl
             obtain ⟨hji, hj⟩ := (List.Nodup.mem_erase_iff hUn).1 hj
             have := hdone.same i b1 j (hU j hj).1 (Ne.symm hji) o p hoL hp
             rw [sameDst_iff.2 ⟨d, hdd, e⟩] at this; cases this
         · have hpos : 0 < U.length := List.length_pos_of_mem hiU
           refine ih π done s f (listed.setIfInBounds i true) (U.erase i) g' w' a' (by omega) hplan hnd hdis hdl h hdone hs' (hUn.erase i) (fun j hj => ?_) (fun j hj hjl => ?_) (fun j hj => ?_) (by simp [hsize]) hcl' (by rw [List.length_erase_of_mem hiU]; omega)
           · obtain ⟨hji, hj⟩ := (List.Nodup.mem_erase_iff hUn).1 hj
             obtain ⟨q1, q2, q3, q4⟩ := hU j hj
             exact ⟨q1, by rw [hun' j hji]; exact q2, q3, q4⟩
           · have hji : j ≠ i := fun e => by subst e; exact hself' hjl
             rw [hun' j hji] at hjl
             rcases hcov j hj hjl with h | h
             · exact .inl ((List.Nodup.mem_erase_iff hUn).2 ⟨hji, h⟩)
             · exact .inr h
           · have hji : j ≠ i := fun e => by subst e; exact b3 hj
             rw [hun' j hji]; exact hun j hj
       · -- the reckoning goes on
         cases π with
         | nil => simp at hiπ
         | cons p r =>
           obtain ⟨n, fl⟩ := p
           obtain ⟨o', hh⟩ := planOk_cons hplan
           have hnr : n ∉ r.map (·.1) /\ (r.map (·.1)).Nodup := by simpa using hnd
           have hdis' : ∀ m ∈ done, m ∉ r.map (·.1) := fun m hm h => hdis m hm (by simp only [List.map_cons, List.mem_cons]; exact .inr h)
           have hnd' : n ∉ done := fun h => hdis n h (by simp)
           have hnlt : n < ops.size := by have := (List.getElem?_eq_some_iff.1 hh.op).1; simpa using this
           cases fl with
           | true =>
             obtain ⟨t, ob, nt, df⟩ := s
             have hapart : ∀ {t' : List V}, (∀ k, o'.dst ≠ some k -> t'[k]? = t[k]?) -> ∀ m ∈ U, ∀ p d, ops.toList[m]? = some p -> p.dst = some d -> t'[d]? = t[d]? := fun {t'} e2 m hm p d hp hpd => by
              obtain ⟨p', hp', a1, _, _⟩ := hh.apart m (hU m hm).1
              rw [hp] at hp'; cases hp'
              exact e2 d fun e => by rw [sameDst_iff.2 ⟨d, e, hpd⟩] at a1; cases a1
             have hfok : ∀ {t' : List V}, (∀ k, o'.dst ≠ some k -> t'[k]? = t[k]?) -> ∀ m ∈ U, FOK S ops.toList m t ob -> FOK S ops.toList m t' ob := fun {t'} e2 m hm hf => by
              have hno : ∀ l : List Nat, dstIn o'.dst l = false -> ∀ d ∈ l, t[d]? = t'[d]? := fun l hl d hdl => (e2 d fun e => by rw [dstIn_iff.2 ⟨d, e, hdl⟩] at hl; cases hl).symm
              obtain ⟨p, hp, a1, a2, a3⟩ := hh.apart m (hU m hm).1
              exact hf.congr hp (hno _ (a2 rfl)) fun d hdd => (e2 d fun e => by rw [sameDst_iff.2 ⟨d, e, hdd⟩] at a1; cases a1).symm
             have hgo : ∀ (t' : List V) (ob' : List VObj) (v : V), t'.length = t.length -> (∀ d, o'.dst = some d -> t'[d]? = some v) -> (∀ k, o'.dst ≠ some k -> t'[k]? = t[k]?) ->
              Sim c g w a ⟨masked (slotIn ops.toList U) t, hideObs (hidL ops.toList (n :: U) t') ob', nt, df⟩ -> (∀ m ∈ n :: U, UOK S c ops.toList (n :: done) m t' ob' df) -> vdraw S ops.toList (ancs ops.toList []) r (n :: done) ⟨t', ob', nt, df⟩ K KP ->
              wpOp S.P ops Q i (wpAny S.P .any ops Q f (listed.setIfInBounds i true)) a w := fun t' ob' v e0 e1 e2 hs' hu' hv => by
              refine (ih r (n :: done) ⟨t', ob', nt, df⟩ (f + 1) listed (n :: U) g w a (by simp at hN; omega) hh.rest hnr.2 (fun m hm => ?_) (fun m hm => ?_) hv (hdone.cons hh) ?_ ?_ (fun j hj => ?_) (fun j hj hjl => ?_) (fun j hj => hun j (by simp at hj ⊢; exact .inr hj)) hsize hcl (by simp at hcount ⊢; omega)).2 i hi
              · rcases List.mem_cons.1 hm with rfl | hm
                · exact hnr.1
                · exact hdis' m hm
              · rcases List.mem_cons.1 hm with rfl | hm
                · exact hnlt
                · exact hdl m hm
              · refine ⟨hs'.wi, tinv_weaker hs'.ti (by simp [maskU, masked_length, e0]) fun k u hu => ?_, hs'.di⟩
                simp only [maskU, masked_get] at hu ⊢
                by_cases hsl : slotIn ops.toList (n :: U) k = true
                · cases ht' : t'[k]? with
                  | none => rw [ht'] at hu; cases hu
                  | some u' => rw [ht'] at hu; simp [hsl] at hu; exact .inl hu.symm
                · have hk1 : o'.dst ≠ some k := fun e => hsl (slotIn_iff.2 ⟨n, by simp, o', hh.op, e⟩)
                  have hk2 : slotIn ops.toList U k = false := by
                   cases h : slotIn ops.toList U k with
                   | false => rfl
                   | true =>
                     obtain ⟨j, hj, p, hp, e⟩ := slotIn_iff.1 h
                     exact absurd (slotIn_iff.2 ⟨j, by simp [hj], p, hp, e⟩) hsl
                  rw [e2 k hk1] at hu
                  simp only [hsl, hk2] at hu ⊢
                  exact .inr hu
              · exact List.nodup_cons.2 ⟨fun hnU => (hU n hnU).2.2.1 (by simp), hUn⟩
              · refine ⟨?_, ?_, ?_, hu' j hj⟩
                · rcases List.mem_cons.1 hj with rfl | hj
                  · simp
                  · exact List.mem_cons_of_mem _ (hU j hj).1
                · rcases List.mem_cons.1 hj with rfl | hj
                  · exact hun j (by simp)
                  · exact (hU j hj).2.1
                · rcases List.mem_cons.1 hj with rfl | hj
                  · exact hnr.1
                  · exact fun h => (hU j hj).2.2.1 (by simp at h ⊢; exact .inr h)
              · rcases hcov j hj hjl with h | h
                · exact .inl (by simp [h])
                · simp at h
                  rcases h with rfl | h
                  · exact .inl (by simp)
                  · exact .inr (by simpa using h)
             simp only [vdraw, hh.op] at h
             cases hal : isAl o' with
             | true =>
               rw [hal] at h
               simp only at h
               have halA : isAlAt ops.toList n = true := isAlAt_iff.2 ⟨o', hh.op, hal⟩
               split at h
               case h_2 => exact h.elim
               rename_i T d hop hdst
               obtain ⟨p, z, hp, hz, h⟩ := zeroV_iff h
               split at h
               case h_2 => exact h.elim
               rename_i hck
               simp only [Bool.and_eq_true] at hck
               have hpt : ptrsL (ofConstAgg z).cells = [] := by
                have := hck.2
                split at this
                · assumption
                · cases this
               have h := snocK_iff h
               split at h
               case h_2 => exact h.elim
               rename_i hcl'
               obtain ⟨hlt, h⟩ := setK_iff h
               have hob : (ob ++ [VObj.cells true T (ofConstAgg z).cells])[ob.length]? = some (.cells true T (ofConstAgg z).cells) := by simp
               have e1 : ∀ d', o'.dst = some d' -> (t.set d (.ptr ob.length 0))[d']? = some (.ptr ob.length 0) := fun d' e => by
                rw [hdst] at e; cases e; rw [List.getElem?_set_self hlt]
               have e2 : ∀ k, o'.dst ≠ some k -> (t.set d (.ptr ob.length 0))[k]? = t[k]? := fun k hk => by
                rw [List.getElem?_set_ne (fun e => hk (by rw [← e]; exact hdst))]
               have hobj : alObj ops.toList (t.set d (.ptr ob.length 0)) n = some ob.length := alObj_of hh.op hal hdst (e1 d hdst)
               have hhid : hidL ops.toList (n :: U) (t.set d (.ptr ob.length 0)) = ob.length :: hidL ops.toList U t := by
                show (n :: U).filterMap _ = _
                rw [List.filterMap_cons, hobj]
                show _ :: hidL ops.toList U _ = _
                rw [hid_congr fun m hm => alObj_congr (hapart e2 m hm)]
               refine hgo (t.set d (.ptr ob.length 0)) _ (.ptr ob.length 0) (by simp) e1 e2 ?_ (fun m hm => ?_) h
               · have : hideObs (hidL ops.toList (n :: U) (t.set d (.ptr ob.length 0))) (ob ++ [VObj.cells true T (ofConstAgg z).cells]) = hideObs (hidL ops.toList U t) ob ++ [.none] := by
                  rw [hhid, hideObs, ← hideObs_snoc]
                  congr 1
                  simp
                 rw [this]
                 refine ⟨hs.wi.snocNone, ?_, ?_⟩
                 · show TInv _ _ (hideObs (hidL ops.toList U t) ob ++ [VObj.none]).length _ _ _
                   rw [List.length_append, List.length_singleton]
                   exact (Ext.more g w _ nt).tinv hs.ti
                 · show DRel _ _ (hideObs (hidL ops.toList U t) ob ++ [VObj.none]).length _ _
                   rw [List.length_append, List.length_singleton]
                   exact (Ext.more g w _ nt).drel hs.di
               · rcases List.mem_cons.1 hm with rfl | hm
                 · refine ⟨(fun e => by rw [halA] at e; cases e), fun _ => ⟨o', T, d, ob.length, p, z, hh.op, hop, hdst, e1 d hdst, hp, hz, hob, ?_⟩, fun _ k hk => ?_, fun _ o2 T2 p2 z2 q1 q2 q3 q4 => ?_⟩
                   · unfold allClean at hcl' ⊢
                     simp only [Bool.and_eq_true] at hcl' ⊢
                     refine ⟨⟨slotsClean_of fun q u hu hmm => ?_, hcl'.1.2⟩, hcl'.2⟩
                     rw [Nat.zero_add]
                     by_cases hq : o'.dst = some q
                     · exact mayName_of (List.mem_cons_self ..) (by rw [hh.op]; exact hq) (.inl rfl)
                     · rw [e2 q hq] at hu
                       have := slotsClean_get hcl'.1.1 hu hmm
                       rw [Nat.zero_add] at this
                       exact mayName_cons this
                   · rw [hobj] at hk; cases hk
                     have := hs.wi.len
                     have e : (maskU ops.toList U ⟨t, ob, nt, df⟩).objs.length = ob.length := hideObs_length _ _
                     rw [e] at this
                     exact this
                   · rw [hh.op] at q1; cases q1
                     rw [hop] at q2; cases q2
                     rw [hp] at q3; cases q3
                     rw [hz] at q4; cases q4
                     exact ⟨hck.1.1, hck.1.2⟩
                 · have hum := (hU m hm).2.2.2
                   have hcong := alObj_congr (hapart e2 m hm)
                   refine ⟨fun e => (hfok e2 m hm (hum.flo e)).snoc, fun e => ?_, fun e k hk => hum.low e k (by rw [← hcong]; exact hk), hum.zero⟩
                   refine ((hum.al e).slot hh.op (hapart e2 m hm) e1 e2 (fun k hk hkm => ?_) e).snoc hpt
                   obtain ⟨k', hk', hlt'⟩ := (hum.al e).obj e
                   rw [hk] at hk'; cases hk'
                   simp [ptrs] at hkm
                   simp only at hlt'
                   omega
             | false =>
               rw [hal] at h
               simp only at h
               have halA : isAlAt ops.toList n = false := by
                unfold isAlAt; rw [hh.op]; exact hal
               have hflo : ∀ (t' : List V) (v : V), t'.length = t.length -> (∀ d, o'.dst = some d -> t'[d]? = some v) -> (∀ k, o'.dst ≠ some k -> t'[k]? = t[k]?) ->
                ((gOn ops.toList o' t = some true /\ vflo S o' t ob fun u => u = v) \/ (gOn ops.toList o' t = some false /\ v = .tup [])) ->
                (∀ m ∈ U, isAlAt ops.toList m = true -> isAnc (ancs ops.toList []) n m = false -> ∀ j, alObj ops.toList t m = some j -> j ∉ ptrs v) -> vdraw S ops.toList (ancs ops.toList []) r (n :: done) ⟨t', ob, nt, df⟩ K KP ->
                wpOp S.P ops Q i (wpAny S.P .any ops Q f (listed.setIfInBounds i true)) a w := fun t' v e0 e1 e2 e3 e4 hv => by
                have hhid : hidL ops.toList (n :: U) t' = hidL ops.toList U t := by
                 show (n :: U).filterMap _ = _
                 rw [List.filterMap_cons, alObj_none halA]
                 exact hid_congr fun m hm => alObj_congr (hapart e2 m hm)
                refine hgo t' ob v e0 e1 e2 (by rw [hhid]; exact hs) (fun m hm => ?_) hv
                rcases List.mem_cons.1 hm with rfl | hm
                · have hno : ∀ l : List Nat, dstIn o'.dst l = false -> ∀ d ∈ l, t[d]? = t'[d]? := fun l hl d hdl => (e2 d fun e => by rw [dstIn_iff.2 ⟨d, e, hdl⟩] at hl; cases hl).symm
                  have hag := hno _ (hh.self rfl)
                  exact ⟨fun _ => ⟨o', v, hh.op, e1, by rw [← looks_gOn hag, ← vflo_congr S ob (looks_ev hag)]; exact e3⟩, (fun e => by rw [halA] at e; cases e), (fun e => by rw [halA] at e; cases e), (fun e => by rw [halA] at e; cases e)⟩
                · have hum := (hU m hm).2.2.2
                  have hcong := alObj_congr (hapart e2 m hm)
                  refine ⟨fun e => hfok e2 m hm (hum.flo e), fun e => ?_, fun e k hk => hum.low e k (by rw [← hcong]; exact hk), hum.zero⟩
                  refine (hum.al e).slot hh.op (hapart e2 m hm) e1 e2 (fun k hk hkm => ?_) e
                  cases hanm : isAnc (ancs ops.toList []) n m with
                  | true => rfl
                  | false => exact absurd hkm (e4 m hm e hanm k hk)
               rcases guardK_iff h with ⟨hg, h⟩ | ⟨hg, h⟩
               · obtain ⟨v, hv, h2⟩ := det_vflo S o' t ob _ h
                 obtain ⟨hv, hp⟩ := pendK_iff hv
                 obtain ⟨t', hv, e0, e1, e2⟩ := put_iff hv
                 exact hflo t' v e0 e1 e2 (.inl ⟨hg, h2 _ rfl⟩) (fun m hm => hp m (hU m hm).1) hv
               · obtain ⟨t', hv, e0, e1, e2⟩ := put_iff h
                 exact hflo t' (.tup []) e0 e1 e2 (.inr ⟨hg, rfl⟩) (fun m hm _ _ j _ h => by simp [ptrs, ptrsL] at h) hv
           | false =>
             have hin : i = n := by
              have hiπ : i = n \/ i ∈ r.map (·.1) := by simpa only [List.map_cons, List.mem_cons] using hiπ
              rcases hiπ with rfl | hr
              · rfl
              · obtain ⟨p, hp, hpi⟩ := List.mem_map.1 hr
                have := hh.last rfl p hp
                rw [hpi] at this
                exact absurd (hanc n this) (hnoπ n (by simp))
             subst hin
             have hoo : o' = o := by have := hh.op; rw [hoL] at this; exact (Option.some.inj this).symm
             subst hoo
             have hnoanc : ∀ j ∈ U, isAnc (ancs ops.toList []) i j = false := fun j hj => by
              cases h : isAnc (ancs ops.toList []) i j with
              | false => rfl
              | true => exact absurd (hanc j h) (hnoU j hj)
             have hlook : ∀ d ∈ looks ops.toList o', slotIn ops.toList U d = false := fun d hdl => by
              cases hsl : slotIn ops.toList U d with
              | false => rfl
              | true =>
                obtain ⟨j, hj, p, hp, e⟩ := slotIn_iff.1 hsl
                obtain ⟨p', hp', a1, a2, a3⟩ := hh.apart j (hU j hj).1
                rw [hp] at hp'; cases hp'
                have := a3 (dstIn_iff.2 ⟨d, e, hdl⟩)
                rw [hnoanc j hj] at this; cases this
             obtain ⟨t, ob, nt, df⟩ := s
             have hag : ∀ d ∈ looks ops.toList o', t[d]? = (masked (slotIn ops.toList U) t)[d]? := fun d hd => by
              rw [masked_get, hlook d hd]; cases t[d]? <;> rfl
             have hgo : ∀ (t1 t2 : List V) (ob' : List VObj) (nt' : Nat) (df' : List (Fn × List V × List V)) (v : V) (x : Value) (g' : G) (w' : World) (b : Act), t2.length = t1.length -> (∀ d, o'.dst = some d -> t2[d]? = some v) -> (∀ k, o'.dst ≠ some k -> t2[k]? = t1[k]?) ->
              (St.re S ops.toList (ancs ops.toList []) i t done ⟨t2, ob', nt', df'⟩ fun s => vdraw S ops.toList (ancs ops.toList []) r done s K KP) -> Sim c g' w' b ⟨masked (slotIn ops.toList U) t1, hideObs (hidL ops.toList U t) ob', nt', df'⟩ -> VT g' w' ob'.length nt' v x ->
              wpAny S.P .any ops Q f (listed.setIfInBounds i true) (b.put o'.dst x) w' := fun t1 t2 ob' nt' df' v x g' w' b e0 e1 e2 hre hsb hv => by
              obtain ⟨h1, h2⟩ := recheck_iff hre
              have hcong : ∀ m ∈ U, alObj ops.toList t2 m = alObj ops.toList t m := fun m hm => by
               cases hal : isAlAt ops.toList m with
               | false => rw [alObj_none hal, alObj_none hal]
               | true => exact alObj_congr ((h2 m (hU m hm).1 (hnoanc m hm)).1 hal).2
              have hhid : hidL ops.toList U t2 = hidL ops.toList U t := hid_congr hcong
              refine ih r done ⟨t2, ob', nt', df'⟩ f (listed.setIfInBounds i true) U g' w' _ (by simp at hN; omega) hh.rest hnr.2 hdis' hdl h1 hdone ?_ hUn (fun j hj => ?_) (fun j hj hjl => ?_) (fun j hj => ?_) (by simp [hsize]) hcl' (by simp at hcount; omega)
              · show Sim c _ _ _ ⟨masked (slotIn ops.toList U) t2, hideObs (hidL ops.toList U t2) ob', nt', df'⟩
                rw [hhid]
                exact sim_put (m := slotIn ops.toList U) (ob := hideObs (hidL ops.toList U t) ob') hsb (by rw [hideObs_length]; exact hv) e0 e1 e2
              · obtain ⟨q1, q2, q3, q4⟩ := hU j hj
                have hji : j ≠ i := fun e => by subst e; exact q3 (by simp)
                have hrc := h2 j q1 (hnoanc j hj)
                exact ⟨q1, by rw [hun' j hji]; exact q2, fun h => q3 (by simp at h ⊢; exact .inr h), hrc.2, fun e => (hrc.1 e).1, fun e k hk => q4.low e k (by rw [← hcong j hj]; exact hk), q4.zero⟩
              · have hji : j ≠ i := fun e => by subst e; exact hself' hjl
                rw [hun' j hji] at hjl
                rcases hcov j hj hjl with h | h
                · exact .inl h
                · simp at h
                  rcases h with rfl | h
                  · exact absurd rfl hji
                  · exact .inr (by simpa using h)
              · have hji : j ≠ i := fun e => by subst e; exact hnr.1 hj
                rw [hun' j hji]; exact hun j (by simp at hj ⊢; exact .inr hj)
             simp only [vdraw, hh.op] at h
             unfold wpOp
             rw [ho]
             simp only
             rcases guardK_iff h with ⟨hg, h⟩ | ⟨hg, h⟩
             · rw [looks_gOn hag] at hg
               rw [wanted_gOn hs.ti hg, if_pos rfl]
               have h := vop_mask S hm (m := slotIn ops.toList U) (fun x hx d e => hlook d (List.mem_append_left _ (List.mem_filterMap.2 ⟨x, hx, by rw [e]⟩))) h
               cases hna : noAl ops.toList done with
               | true =>
                 have hno := noAl_iff hna
                 have hh0 : ∀ t : List V, hidL ops.toList U t = [] := fun t => by
                  unfold hidL
                  rw [List.filterMap_eq_nil_iff]
                  exact fun j hj => alObj_none (hno j (hU j hj).1)
                 have hs0 : Sim c g w a ⟨masked (slotIn ops.toList U) t, ob, nt, df⟩ := by
                  have := hs
                  simp only [maskU, hh0] at this
                  exact this
                 refine .inl (sound_op (S := S) hS (next := wpAny S.P .any ops Q f (listed.setIfInBounds i true)) ?_ hs0 h)
                 refine ⟨fun v x s' g' w' b hk' hs' _ hv => ?_, fun v x s' g' w' b hk' hs' hv => ?_⟩
                 · obtain ⟨s1, hk', rfl⟩ := hk'
                   obtain ⟨t1, ob1, nt1, df1⟩ := s1
                   obtain ⟨t2, hk', e0, e1, e2⟩ := put_iff hk'
                   refine hgo t1 t2 ob1 nt1 df1 v x g' w' b e0 e1 e2 hk' ?_ hv
                   rw [hh0]; exact hs'
                 · obtain ⟨s1, hk', rfl⟩ := hk'
                   obtain ⟨t1, ob1, nt1, df1⟩ := s1
                   simp only [pdraw, hna] at hk'
                   obtain ⟨t2, hk', e0, e1⟩ := undefK_iff hk'
                   refine hkp v x ⟨t2, ob1, nt1, df1⟩ g' w' b hk' ⟨hs'.wi, tinv_weaker hs'.ti (by simp [maskS, masked_length, e0]) fun k u hu => ?_, hs'.di⟩ hv
                   rcases e1 k u hu with e | ⟨e, e2⟩
                   · exact .inl e
                   · refine .inr ?_
                     have : slotIn ops.toList U k = false := by
                      cases h : slotIn ops.toList U k with
                      | false => rfl
                      | true =>
                        obtain ⟨j, hj, p, hp, e3⟩ := slotIn_iff.1 h
                        rw [slotIn_iff.2 ⟨j, (hU j hj).1, p, hp, e3⟩] at e; cases e
                     simp only [maskS, masked_get, e2, this]
                     rfl
               | false =>
               have hpf : (fun v s' => ∃ s1, pdraw ops.toList done s1 (KP v) /\ s' = maskS (slotIn ops.toList U) s1) = fun (_ : V) (_ : St) => False := by
                funext v s'
                apply propext
                constructor
                · rintro ⟨⟨t1, ob1, nt1, df1⟩, hp, _⟩
                  simp only [pdraw, hna] at hp
                · exact False.elim
               rw [hpf] at h
               have h := vop_hidesL S hm hunS h
               refine .inl (sound_op (S := S) hS (next := wpAny S.P .any ops Q f (listed.setIfInBounds i true)) ?_ hs h)
               refine ⟨fun v x s' g' w' b hk' hs' _ hv => ?_, fun _ _ _ _ _ _ h => h.elim⟩
               obtain ⟨_, ⟨s1, hk', rfl⟩, rfl⟩ := hk'
               obtain ⟨t1, ob1, nt1, df1⟩ := s1
               obtain ⟨t2, hk', e0, e1, e2⟩ := put_iff hk'
               refine hgo t1 t2 ob1 nt1 df1 v x g' w' b e0 e1 e2 hk' hs' ?_
               have hv : VT g' w' (hideObs (hidL ops.toList U t) ob1).length nt1 v x := hv
               rw [hideObs_length] at hv; exact hv
             · rw [looks_gOn hag] at hg
               rw [wanted_gOn hs.ti hg, if_neg (by simp)]
               obtain ⟨t2, hk', e0, e1, e2⟩ := put_iff h
               exact hgo t t2 ob nt df (.tup []) undef g w a e0 e1 e2 hk' hs (.of (.tup rfl (by simp)) rfl)
theorem draw_sound (hm : CallMono S) (hS : ∀ g args ob K, S.call g args ob K -> VCall0 S.P g args ob K) {id : Nat} {s : St} {K : St -> Prop} {KP : V -> St -> Prop} {g : G} {w : World} {a : Act}
 (h : drawOk S.P ops.toList (planOf S.mu ops.toList) = true /\ vdraw S ops.toList (ancs ops.toList []) (planOf S.mu ops.toList) [] s K KP) (hkp : ∀ v x s g w a, KP v s -> Sim c g w a s -> VRel g.bs g.I w s.objs.length v x -> Q (.panic [{ v := x, recovered := false }]) a w) (hk : ∀ s g w a, K s -> Sim c g w a s -> Q .normal a w) (hs : Sim c g w a s) :
 (Code.region id ops true).wp S.P Q a w := by
 obtain ⟨hok, h⟩ := h
 simp only [drawOk, Bool.and_eq_true] at hok
 obtain ⟨⟨⟨⟨h1, h2⟩, h3⟩, h4⟩, h5⟩ := hok
 refine wp_region_any h1 ?_
 have hs' : Sim c g w.drew a s := ⟨hs.wi.drew, (Ext.drew g w s.objs.length s.nt).tinv hs.ti, (Ext.drew g w s.objs.length s.nt).drel hs.di⟩
 have hmask : maskU ops.toList [] s = s := by
  obtain ⟨t, ob, nt, df⟩ := s
  have : masked (slotIn ops.toList []) t = t := List.ext_getElem? fun k => by
   rw [masked_get]; simp [slotIn]
  simp only [maskU, this]; rfl
 have hnd := nodupN_iff h3
 have hin : ∀ i, i < ops.size -> i ∈ (planOf S.mu ops.toList).map (·.1) := fun i hi => allIn_iff h4 i (by simpa using hi)
 have hlt : ∀ i ∈ (planOf S.mu ops.toList).map (·.1), i < ops.size := by
  have : ∀ (π : List (Nat × Bool)) (done : List Nat), planOk ops.toList (ancs ops.toList []) π done = true -> ∀ i ∈ π.map (·.1), i < ops.size := by
   intro π
   induction π with
   | nil => intro _ _ i hi; simp at hi
   | cons p r ih =>
     obtain ⟨n, fl⟩ := p
     intro done h i hi
     obtain ⟨o, hh⟩ := planOk_cons h
     have hi : i = n \/ i ∈ r.map (·.1) := by simpa only [List.map_cons, List.mem_cons] using hi
     rcases hi with rfl | hr
     · have := (List.getElem?_eq_some_iff.1 hh.op).1; simpa using this
     · exact ih _ hh.rest i hr
  exact this _ _ h5
 have hun : ∀ i, i < ops.size -> (Array.replicate ops.size false).getD i true = false := fun i hi => by simp [Array.getD, hi]
 have hlen : (planOf S.mu ops.toList).length <= ops.size := by
  have : ((planOf S.mu ops.toList).map (·.1)).length <= (List.range ops.size).length := List.Nodup.length_le_of_subset hnd fun i hi => by simpa using hlt i hi
  simpa using this
 exact draw_any hm hS hk hkp h2 _ (planOf S.mu ops.toList) [] s ops.size _ [] g w.drew a (Nat.le_refl _) h5 hnd (by simp) (by simp) h ⟨by simp, by simp, by simp⟩ (by rw [hmask]; exact hs') .nil (by simp) (fun i hi _ => .inr (hin i hi))
  (fun i hi => hun i (hlt i hi)) (by simp) (fun i o _ h => by simp [Array.getD] at h) (by simpa using hlen)
end
end VL

namespace VL
open Go
section
variable {S : Sys} {c : Ctx} {Q : Exit -> Act -> World -> Prop}
theorem sound_code (hm : CallMono S) (hS : ∀ g args ob K, S.call g args ob K -> VCall0 S.P g args ob K)
 (hL : ∀ (code : Code) (s : St) (K : Ex -> St -> Prop) (Q : Exit -> Act -> World -> Prop) (g : G) (w : World) (a : Act), S.loop code s K -> Fits c K Q -> Sim c g w a s -> (Code.loop code).wp S.P Q a w)
 (hT : ∀ (code : Code) (s : St) (K : Ex -> St -> Prop) (Q : Exit -> Act -> World -> Prop) (g : G) (w : World) (a : Act), S.step code s K -> Fits c K Q -> Sim c g w a s -> code.wp S.P Q a w) :
 ∀ (code : Code) (s : St) (K : Ex -> St -> Prop) (Q : Exit -> Act -> World -> Prop) (g : G) (w : World) (a : Act), vwp S code s K -> Fits c K Q -> Sim c g w a s -> code.wp S.P Q a w := by
 intro code
 induction code with
 | skip => intro s K Q g w a h hf hs; exact wp_skip (hf.normal _ _ _ _ h hs)
 | region id ops draw =>
   intro s K Q g w a h hf hs
   cases draw with
   | true => exact draw_sound hm hS h (fun v x s g w a hk hs hv => hf.pan v x s g w a hk hs hv) (fun s g w a hk hs => hf.normal s g w a hk hs) hs
   | false => exact wp_region_list (sound_ops hS (fun s g w a hk hs => hf.normal s g w a hk hs) (fun v x s g w a hk hs hv => hf.pan v x s g w a hk hs hv) _ s g w a hs h)
 | seq x y ihx ihy =>
   intro s K Q g w a h hf hs
   refine wp_seq (ihx s _ _ g w a h ?_ hs)
   exact ⟨fun s g w a hk hs => hT y s K Q g w a hk hf hs, fun i s g w a hk hs => hf.exit i s g w a hk hs, fun s g w a hk hs => hf.ret s g w a hk hs, fun v x s g w a hk hs hv => hf.pan v x s g w a hk hs hv⟩
 | cond x a' b' iha ihb =>
   intro s K Q g w a h hf hs
   obtain ⟨t, ob, nt, df⟩ := s
   obtain ⟨v, hv, hk⟩ := ev_sound hs.ti h
   cases v <;> try exact hk.elim
   rename_i b
   have hx : a.eval x = .bool b := by
    have := hv.rel
    generalize a.eval x = e at this
    cases this; rfl
   rcases bif_elim hk with ⟨rfl, hk⟩ | ⟨rfl, hk⟩
   · exact wp_cond_true hx (iha _ K Q g w a hk hf hs)
   · exact wp_cond_false hx (ihb _ K Q g w a hk hf hs)
 | block i x ih =>
   intro s K Q g w a h hf hs
   refine wp_block (ih s _ _ g w a h ?_ hs)
   refine ⟨fun s g w a hk hs => hf.normal s g w a hk hs, fun j s g w a hk hs => ?_, fun s g w a hk hs => hf.ret s g w a hk hs, fun v x s g w a hk hs hv => hf.pan v x s g w a hk hs hv⟩
   simp only at hk
   by_cases e : j = i
   · subst e
     simp only [Nat.beq_refl] at hk
     simp only [Exit.inBlock, if_true]
     exact hf.normal _ _ _ _ hk hs
   · have hb : Nat.beq j i = false := by cases hb : Nat.beq j i with
      | true => exact absurd (Nat.eq_of_beq_eq_true hb) e
      | false => rfl
     rw [hb] at hk
     simp only [Exit.inBlock, if_neg e]
     exact hf.exit _ _ _ _ _ hk hs
 | loop x ih => intro s K Q g w a h hf hs; exact hL x s K Q g w a h hf hs
 | exit i => intro s K Q g w a h hf hs; exact wp_exit (hf.exit _ _ _ _ _ h hs)
 | ret => intro s K Q g w a h hf hs; exact wp_ret (hf.ret _ _ _ _ h hs)
 | _ => intro s K Q g w a h hf hs; exact h.elim
end
end VL

namespace VL
open Go
section
variable {c : Ctx} {g : G} {w : World} {ob : List VObj} {nt : Nat}
theorem ORel.flat {g g' : G} {w : World} {n n' nt nt' b : Nat} {x : VObj} (hI : g'.I = g.I) (hx : ∀ wr T cs, x ≠ .cells wr T cs) (h : ORel g w n nt b x) : ORel g' w n' nt' b x := by
 have h0 : ∀ {v c}, VRel g.bs g.I w 0 v c -> VRel g'.bs g'.I w 0 v c := fun hv => by rw [hI]; exact hv.mono (fun o ho => absurd ho (by omega)) fun b k h => ⟨h, rfl⟩
 cases x with
 | none => trivial
 | cells wr T cs => exact absurd rfl (hx _ _ _)
 | map es =>
   obtain ⟨arr, clk, a1, a2, a3⟩ := h
   exact ⟨arr, clk, a1, a2, fun k e c he hc => ⟨h0 (a3 k e c he hc).1, h0 (a3 k e c he hc).2⟩⟩
 | buf m z l =>
   rcases h with h | ⟨arr, T, a1, aty, a2, a3, a4⟩
   · exact .inl h
   · exact .inr ⟨arr, T, a1, aty, a2, a3, fun k v c he hc => ⟨h0 (a4 k v c he hc).1, (a4 k v c he hc).2⟩⟩
theorem WInv.untok (h : WInv c g w ob nt) : WInv c g w (ob.map untokO) 0 := by
 have hget : ∀ (i : Nat) y, (ob.map untokO)[i]? = some y -> ∃ x, ob[i]? = some x /\ y = untokO x /\ x.real = y.real /\ x.loose = y.loose /\ x.mv = y.mv := fun i y hy => by
  rw [List.getElem?_map] at hy
  obtain ⟨x, hx, rfl⟩ := Option.map_eq_some_iff.1 hy
  exact ⟨x, hx, rfl, by cases x <;> rfl, by cases x <;> rfl, by cases x <;> rfl⟩
 refine ⟨h.os, h.tape, h.output, h.size, h.keep, by simp [h.len], ?_, ?_, ?_, ?_, ?_, h.i1, h.i2, h.i3, ?_, ?_, fun i hi => absurd hi (by omega), fun i j hi => absurd hi (by omega), h.i6⟩
 · intro i y hy
   obtain ⟨x, hx, rfl, _⟩ := hget i y hy
   rw [List.length_map]
   have := h.obj i x hx
   cases x with
   | cells wr T cs =>
     obtain ⟨arr, a1, a2, a3⟩ := this
     refine ⟨arr, a1, by simp [a2], fun k v c hv hc => ?_⟩
     rw [List.getElem?_map] at hv
     obtain ⟨u, hu, rfl⟩ := Option.map_eq_some_iff.1 hv
     exact ⟨⟨(a3 k u c hu hc).1.rel.untok, .of_no (untok_noTok u)⟩, (a3 k u c hu hc).2⟩
   | _ => exact this
 · intro i y hy hr
   obtain ⟨x, hx, rfl, e, _⟩ := hget i y hy
   exact h.lt i x hx (e ▸ hr)
 · intro i j y z hy hz hr hr'
   obtain ⟨x, hx, rfl, e, _⟩ := hget i y hy
   obtain ⟨x', hx', rfl, e', _⟩ := hget j z hz
   exact h.inj i j x x' hx hx' (e ▸ hr) (e' ▸ hr')
 · intro i y hi hy hm
   obtain ⟨x, hx, rfl, _, _, e⟩ := hget i y hy
   exact h.old i x hi hx (e ▸ hm)
 · intro i y hy hr
   obtain ⟨x, hx, rfl, e, _⟩ := hget i y hy
   exact h.new i x hx (e ▸ hr)
 · intro i T cs k hy
   obtain ⟨x, hx, e, _⟩ := hget i _ hy
   cases x with
   | cells wr U ds => simp [untokO] at e; obtain ⟨rfl, _, _⟩ := e; exact h.i4 i _ _ k hx
   | _ => simp [untokO] at e
 · intro i y k hy hl
   obtain ⟨x, hx, rfl, _, e, _⟩ := hget i y hy
   exact h.i5 i x k hx (e ▸ hl)
theorem WInv.sel (h : WInv c g w ob nt) {src : List Nat} (hnd : src.Nodup) {sub : List VObj} {f : Nat -> Nat} (hf : ∀ j i, src[j]? = some i -> f i = j) (hl : sub.length = src.length)
 (hshut : ∀ i ∈ src, ∀ x, ob[i]? = some x -> ∀ o ∈ ptrsO x, o ∈ src)
 (hsub : ∀ (j i : Nat), src[j]? = some i -> ∃ o, ob[i]? = some o /\ (sub[j]? = some (renO f o) \/ ∃ m z l ty, o = .buf m z l ty /\ sub[j]? = some (.buf true z l ty)))
 (hpre : ∀ j, j < c.n0 -> src[j]? = some j \/ ∃ z l ty, sub[j]? = some (.buf true z l ty)) (hlen : c.n0 <= src.length) : WInv c (inG g src) w sub nt := by
 have hrel : ∀ v x, VT g w ob.length nt v x -> (∀ o ∈ ptrs v, o ∈ src) -> VT (inG g src) w sub.length nt (ren f v) x := fun v x hv hp => by
  refine ⟨hv.rel.ren fun o ho _ => ?_, ?_⟩
  · obtain ⟨j, hj⟩ := List.mem_iff_getElem?.1 (hp o ho)
    rw [hf j o hj, hl]
    exact ⟨(List.getElem?_eq_some_iff.1 hj).1, by simp [inG, hj]⟩
  · have := hv.tok
    cases v <;> first | exact this | (simp only [ren, Tok])
 have hget : ∀ (j : Nat) x, sub[j]? = some x -> ∃ i o, src[j]? = some i /\ ob[i]? = some o /\ (x = renO f o \/ ∃ m z l ty, o = .buf m z l ty /\ x = .buf true z l ty) /\ (inG g src).bs j = g.bs i /\ o.real = x.real /\ o.loose = x.loose /\ (x.mv = false -> o.mv = false) := fun j x hx => by
  have hlt : j < src.length := by rw [← hl]; exact (List.getElem?_eq_some_iff.1 hx).1
  obtain ⟨o, h1, h2⟩ := hsub j src[j] (List.getElem?_eq_getElem hlt)
  rw [hx] at h2
  have h2 : x = renO f o \/ ∃ m z l ty, o = .buf m z l ty /\ x = .buf true z l ty := by simpa using h2
  refine ⟨src[j], o, List.getElem?_eq_getElem hlt, h1, h2, by simp [inG, hlt], ?_, ?_, ?_⟩
  · rcases h2 with rfl | ⟨m, z, l, ty, rfl, rfl⟩
    · cases o <;> rfl
    · rfl
  · rcases h2 with rfl | ⟨m, z, l, ty, rfl, rfl⟩
    · cases o <;> rfl
    · rfl
  · rcases h2 with rfl | ⟨m, z, l, ty, rfl, rfl⟩
    · cases o <;> exact fun h => h
    · exact fun h => by cases h
 refine ⟨h.os, h.tape, h.output, h.size, h.keep, by rw [hl]; exact hlen, ?_, ?_, ?_, ?_, ?_, h.i1, h.i2, h.i3, ?_, ?_, ?_, h.f2, h.i6⟩
 · intro j x hx
   obtain ⟨i, o, h1, h2, h3, hb, _⟩ := hget j x hx
   have ho := h.obj i o h2
   rw [hb]
   rcases h3 with rfl | ⟨m, z, l, ty, rfl, rfl⟩
   · cases o with
     | none => trivial
     | map es => exact ORel.flat (g := g) (x := .map es) rfl (by simp) ho
     | buf m z l ty => exact ORel.flat (g := g) (x := .buf m z l ty) rfl (by simp) ho
     | cells wr T cs =>
       obtain ⟨arr, a1, a2, a3⟩ := ho
       refine ⟨arr, a1, by rw [renL_length]; exact a2, fun k v c hv hc => ?_⟩
       rw [renL_get] at hv
       obtain ⟨v', hv', rfl⟩ := Option.map_eq_some_iff.1 hv
       exact ⟨hrel v' c (a3 k v' c hv' hc).1 fun o ho => hshut i (List.mem_of_getElem? h1) _ h2 o (ptrsL_get hv' ho), (a3 k v' c hv' hc).2⟩
   · exact ORel.flat (g := g) (n := ob.length) (nt := nt) (x := .buf true z l ty) rfl (by simp) ho
 · intro j x hx hr
   obtain ⟨i, o, h1, h2, h3, hb, e, _⟩ := hget j x hx
   rw [hb]; exact h.lt i o h2 (e ▸ hr)
 · intro j j' x x' hx hx' hr hr' e
   obtain ⟨i, o, h1, h2, _, hb, q, _⟩ := hget j x hx
   obtain ⟨i', o', h1', h2', _, hb', q', _⟩ := hget j' x' hx'
   rw [hb, hb'] at e
   have := h.inj i i' o o' h2 h2' (q ▸ hr) (q' ▸ hr') e
   subst this
   rw [← hf j i h1, ← hf j' i h1']
 · intro j x hj hx hm
   obtain ⟨i, o, h1, h2, h3, hb, _, _, q⟩ := hget j x hx
   rcases hpre j hj with hp | ⟨z, l, ty, hp⟩
   · rw [hb]; rw [h1] at hp; cases hp; exact h.old _ o hj h2 (q hm)
   · rw [hx] at hp; cases hp; cases hm
 · intro j x hx hr
   obtain ⟨i, o, h1, h2, h3, hb, e, _⟩ := hget j x hx
   rw [hb]; exact h.new i o h2 (e ▸ hr)
 · intro j T cs k hx
   obtain ⟨i, o, h1, h2, h3, hb, _⟩ := hget j _ hx
   rcases h3 with e | ⟨m, z, l, ty, rfl, e⟩
   · cases o with
     | cells wr U ds => simp [renO] at e; obtain ⟨rfl, _, _⟩ := e; rw [hb]; exact h.i4 i _ _ k h2
     | _ => simp [renO] at e
   · cases e
 · intro j x k hx hlo
   obtain ⟨i, o, h1, h2, h3, hb, _, e, _⟩ := hget j x hx
   rw [hb]; exact h.i5 i o k h2 (e ▸ hlo)
 · intro i hi hn
   obtain ⟨f1, f2, f3, f4⟩ := h.f1 i hi hn
   refine ⟨f1, f2, f3, fun j x hx hr => ?_⟩
   obtain ⟨i', o, h1, h2, h3, hb, e, _⟩ := hget j x hx
   rw [hb]; exact f4 i' o h2 (e ▸ hr)
theorem sel_rel {src : List Nat} {f : Nat -> Nat} (hf : ∀ j i, src[j]? = some i -> f i = j) {n m : Nat} {v : V} {x : Value} (hm : m = src.length) (h : VRel g.bs g.I w n v x) (hp : ∀ o ∈ ptrs v, o ∈ src) : VRel (inG g src).bs (inG g src).I w m (ren f v) x :=
 h.ren fun o ho _ => by
  obtain ⟨j, hj⟩ := List.mem_iff_getElem?.1 (hp o ho)
  rw [hf j o hj, hm]
  exact ⟨(List.getElem?_eq_some_iff.1 hj).1, by simp [inG, hj]⟩
theorem posN_inv {src : List Nat} (hnd : src.Nodup) : ∀ j i, src[j]? = some i -> posN i src 0 = j := fun j i hj => by
 obtain ⟨_, q2, q3⟩ := posN_get (k := 0) (List.mem_of_getElem? hj)
 rw [Nat.sub_zero] at q3
 have l1 := (List.getElem?_eq_some_iff.1 hj).1
 have l2 : posN i src 0 < src.length := by omega
 have hp := List.pairwise_iff_getElem.1 hnd
 have he : src[posN i src 0] = src[j] := by rw [(List.getElem?_eq_some_iff.1 q3).2, (List.getElem?_eq_some_iff.1 hj).2]
 rcases Nat.lt_trichotomy (posN i src 0) j with hlt | h | hlt
 · exact absurd he (hp _ _ l2 l1 hlt)
 · exact h
 · exact absurd he.symm (hp _ _ l1 l2 hlt)
end
end VL

namespace VL
open Go
noncomputable section
def resK (P : Program) (t : List V) (ob : List VObj) : ResultVar -> (V -> Prop) -> Prop
 | .tmp i, K => getK t i fun v => v.untokK K
 | .cell i T, K => getK t i fun p => match p with
   | .ptr j off => getK ob j fun o => match o with
     | .cells _ _ cs => dropK cs off fun cs => loadK P T cs fun v => v.untokK K
     | _ => False
   | _ => False
def oneOf : List V -> (V -> Prop) -> Prop
 | [v], K => K v
 | vs, K => K (.tup vs)
def prefixB : Nat -> Nat -> List Nat -> Bool
 | 0, _, _ => true
 | n + 1, i, j :: r => Nat.beq j i && prefixB n (i + 1) r
 | _ + 1, _, [] => false
def upto : Nat -> Nat -> List Nat
 | 0, _ => []
 | n + 1, i => i :: upto n (i + 1)
def leaveK (n0 : Nat) (v : V) (ob : List VObj) (K : V -> List VObj -> Prop) : Prop :=
 listK (reach ob 64 (upto n0 0 ++ ptrs v) []) fun idx =>
 match nodupN idx && allIn idx (ptrs v) && shutN ob idx idx && prefixB n0 0 idx with
 | false => False
 | true => getsK ob (fun i => posN i idx 0) idx fun sub => renP (fun i => posN i idx 0) v fun v => K v sub
def plainO : Option V -> Bool
 | none => true
 | some v => (match ptrs v with | [] => true | _ => false)
def deferK (S : Sys) : List (Fn × List V × List V) -> Option V -> List V -> List VObj -> (Option V -> List V -> List VObj -> Prop) -> Prop
 | [], r, t, ob, K => K r t ob
 | (.func f, a, b) :: ds, r, t, ob, K =>
  mapK V.untokK (a ++ b) fun args =>
  listK (reach ob 64 (ptrsL args) []) fun idx =>
  match plainO r && nodupN idx && allIn idx (ptrsL args) && shutN ob idx idx with
  | false => False
  | true =>
  getsK ob (fun i => posN i idx 0) idx fun sub =>
  insK sub fun sub =>
  mapK (renP fun i => posN i idx 0) args fun args =>
  S.calld f args sub r fun rec sub' =>
  movedK idx sub' fun ms => forgetK ms t ob ds fun t ob' =>
  backK (fun j => (idx[j]?).getD (ob.length + (j - idx.length))) idx sub' ob' fun ob =>
  deferK S ds (match rec with | true => none | false => r) t ob K
 | _ :: _, _, _, _, _ => False
def leftK (P : Program) (fn : Func) (n0 : Nat) (r : Option V) (t : List V) (ob : List VObj) (K : Out -> List VObj -> Prop) : Prop :=
 match r with
 | none => mapK (resK P t ob) fn.results.toList fun vs => oneOf vs fun v => leaveK n0 v ob fun v ob => K (.ret v) ob
 | some v => leaveK n0 v ob fun v ob => K (.pan v) ob
def endK (S : Sys) (fn : Func) (n0 : Nat) (e : Ex) : St -> (Out -> List VObj -> Prop) -> Prop
 | ⟨t, ob, _, df⟩, K => match e with
   | .normal => deferK S df none t ob fun r t ob => leftK S.P fn n0 r t ob K
   | .ret => deferK S df none t ob fun r t ob => leftK S.P fn n0 r t ob K
   | .pan v => deferK S df (some v) t ob fun r t ob => leftK S.P fn n0 r t ob K
   | .exit _ => False
def padV : Nat -> List V -> List V
 | n, v :: r => v :: padV (n - 1) r
 | n, [] => undefs n
where undefs : Nat -> List V
 | 0 => []
 | n + 1 => .undef :: undefs n
end
def resRun (tmps : Array Value) (r : ResultVar) : Sem Value :=
 match r with
 | .tmp t => pure (tmps.getD t undef)
 | .cell a t => do loadVar t (← asAddr (tmps.getD a undef))
theorem results_eq (fn : Func) (tmps : Array Value) : results fn tmps = (do
 let vs ← fn.results.mapM (resRun tmps)
 pure (if h : vs.size = 1 then vs[0] else .tuple vs)) := rfl
theorem run_mapM {P : Program} {w : World} {α β : Type} {f : α -> Sem β} : ∀ {l : List α} {ys : List β}, ys.length = l.length -> (∀ (k : Nat) x y, l[k]? = some x -> ys[k]? = some y -> (f x).run P w = .ok y w) ->
 (l.mapM f).run P w = .ok ys w
 | [], [], _, _ => by simp
 | x :: r, y :: ys, hl, h => by
   have h0 := h 0 x y rfl rfl
   have ih := run_mapM (P := P) (w := w) (f := f) (l := r) (ys := ys) (by simpa using hl) fun k a b ha hb => h (k + 1) a b (by simpa using ha) (by simpa using hb)
   simp [List.mapM_cons, h0, ih]
theorem mapK_all {α β : Type} {f : α -> (β -> Prop) -> Prop} {R : α -> β -> Prop} (hf : ∀ x K, f x K -> ∃ y, R x y /\ K y) : ∀ {l : List α} {K : List β -> Prop}, mapK f l K ->
 ∃ ys, ys.length = l.length /\ (∀ (k : Nat) x y, l[k]? = some x -> ys[k]? = some y -> R x y) /\ K ys
 | [], K, h => ⟨[], rfl, by simp, h⟩
 | x :: r, K, h => by
   obtain ⟨y, h1, h2⟩ := hf x _ h
   obtain ⟨ys, h3, h4, h5⟩ := mapK_all hf h2
   refine ⟨y :: ys, by simp [h3], fun k a b ha hb => ?_, h5⟩
   cases k with
   | zero => simp at ha hb; subst ha; subst hb; exact h1
   | succ k => exact h4 k a b (by simpa using ha) (by simpa using hb)
theorem prefixB_iff : ∀ {n i : Nat} {l : List Nat}, prefixB n i l = true -> ∀ k, k < n -> l[k]? = some (i + k)
 | n + 1, i, j :: r, h, k, hk => by
   simp only [prefixB, Bool.and_eq_true] at h
   cases k with
   | zero => simp [Nat.eq_of_beq_eq_true h.1]
   | succ k => simp only [List.getElem?_cons_succ]; rw [prefixB_iff h.2 k (by omega)]; congr 1; omega
section
variable {P : Program} {c : Ctx} {g : G} {w : World} {ob : List VObj} {nt : Nat}
theorem leave_sound {v : V} {x : Value} {K : V -> List VObj -> Prop} (h : WInv c g w ob nt) (hv : VRel g.bs g.I w ob.length v x) (hk : leaveK c.n0 v ob K) :
 ∃ g' sub v', WInv c g' w sub 0 /\ VRel g'.bs g'.I w sub.length v' x /\ (v.noTok = true -> v'.noTok = true) /\ K v' sub := by
 unfold leaveK at hk
 have hk := listK_iff hk
 generalize reach ob 64 (upto c.n0 0 ++ ptrs v) [] = idx at hk
 split at hk
 case h_1 => exact hk.elim
 rename_i hchk
 simp only [Bool.and_eq_true] at hchk
 obtain ⟨⟨⟨hnd, hin⟩, hshut⟩, hpre⟩ := hchk
 have hnd := nodupN_iff hnd
 obtain ⟨sub, hl, hsub, hk⟩ := getsK_iff hk
 have hpre : ∀ o, o < c.n0 -> idx[o]? = some o := fun o ho => by have := prefixB_iff hpre o ho; simpa using this
 have hu := h.untok
 have hlen : c.n0 <= idx.length := by
  rcases Nat.lt_or_ge idx.length c.n0 with hlt | hge
  · have := (List.getElem?_eq_some_iff.1 (hpre idx.length hlt)).1; omega
  · exact hge
 have hs := WInv.sel hu hnd (sub := sub) (f := fun i => posN i idx 0) (posN_inv hnd) hl (fun i hi x hx o ho => by
  rw [List.getElem?_map] at hx
  obtain ⟨y, hy, rfl⟩ := Option.map_eq_some_iff.1 hx
  refine shutN_iff hshut i hi y hy o ?_
  cases y with
  | cells wr T cs => simpa [untokO, ptrsO, ptrsL_untok] using ho
  | _ => exact ho) (fun j i hj => by
  obtain ⟨o, h1, h2⟩ := hsub j i hj
  exact ⟨untokO o, by rw [List.getElem?_map, h1]; rfl, .inl h2⟩) (fun j hj => .inl (hpre j hj)) hlen
 exact ⟨_, sub, _, hs, sel_rel (posN_inv hnd) hl hv (fun o ho => allIn_iff hin o ho), fun hn => noTok_ren hn, renP_iff hk⟩
theorem res_sound {a : Act} {t : List V} (hw : WInv c g w ob nt) (ht : TInv g w ob.length nt a.tmps t) (r : ResultVar) (K : V -> Prop) (h : resK P t ob r K) :
 ∃ v, (∃ x, VRel g.bs g.I w ob.length v x /\ v.noTok = true /\ (resRun a.tmps r).run P w = .ok x w) /\ K v := by
 cases r with
 | tmp i =>
   obtain ⟨v, h1, h2⟩ := getK_iff h
   have hlt : i < a.tmps.size := by rw [← ht.size]; exact (List.getElem?_eq_some_iff.1 h1).1
   simp only [V.untokK, force_eq] at h2
   refine ⟨_, ⟨a.tmps[i], (ht.rel i v a.tmps[i] h1 (by simp [hlt])).rel.untok, untok_noTok _, by simp [resRun, Array.getD, hlt]⟩, h2⟩
 | cell i T =>
   obtain ⟨v, h1, h2⟩ := getK_iff h
   have hlt : i < a.tmps.size := by rw [← ht.size]; exact (List.getElem?_eq_some_iff.1 h1).1
   have hr := (ht.rel i v a.tmps[i] h1 (by simp [hlt])).rel
   cases v <;> try exact h2.elim
   rename_i j off
   obtain ⟨x1, h3, h4⟩ := getK_iff h2
   cases x1 <;> try exact h4.elim
   obtain ⟨h5, h6⟩ := dropK_iff h4
   obtain ⟨v, y, hK, hvt, hv, hrun⟩ := load_sound (b := g.bs j) (off := off) h6 (fun k v hv => by obtain ⟨c, h1, h2⟩ := obj_cell hw h3 hv; exact ⟨c, h1, h2.rel⟩)
   simp only [V.untokK, force_eq] at hK
   generalize hx : a.tmps[i] = e at hr
   cases hr
   refine ⟨_, ⟨y, hvt.untok, untok_noTok _, ?_⟩, hK⟩
   have hx' : a.tmps.getD i undef = .pointer (some ⟨g.bs j, off, none⟩) := by simp [Array.getD, hlt, hx]
   simp only [resRun, hx']
   simpa [Instr.loadAt, Instr.sureAddr, asAddr] using hrun
theorem results_sound {fn : Func} {a : Act} {t : List V} (hw : WInv c g w ob nt) (ht : TInv g w ob.length nt a.tmps t) {K : V -> Prop} (h : mapK (resK P t ob) fn.results.toList fun vs => oneOf vs K) :
 ∃ v x, VRel g.bs g.I w ob.length v x /\ v.noTok = true /\ (results fn a.tmps).run P w = .ok x w /\ K v := by
 obtain ⟨vs, h1, h2, h3⟩ := mapK_all (R := fun r v => ∃ x, VRel g.bs g.I w ob.length v x /\ v.noTok = true /\ (resRun a.tmps r).run P w = .ok x w) (res_sound hw ht) h
 clear h
 obtain ⟨xs, h4, h5⟩ : ∃ xs : List Value, xs.length = vs.length /\ ∀ (k : Nat) r v x, fn.results.toList[k]? = some r -> vs[k]? = some v -> xs[k]? = some x ->
  VRel g.bs g.I w ob.length v x /\ v.noTok = true /\ (resRun a.tmps r).run P w = .ok x w := by
  clear h3
  generalize fn.results.toList = rs at h1 h2
  induction rs generalizing vs with
  | nil => exact ⟨[], by simp [h1], by simp⟩
  | cons r rs ih =>
    cases vs with
    | nil => simp at h1
    | cons v vs =>
      obtain ⟨x, hx⟩ := h2 0 r v rfl rfl
      obtain ⟨xs, i1, i2⟩ := ih vs (by simpa using h1) fun k a b ha hb => h2 (k + 1) a b (by simpa using ha) (by simpa using hb)
      refine ⟨x :: xs, by simp [i1], fun k a b c ha hb hc => ?_⟩
      cases k with
      | zero => simp at ha hb hc; subst ha; subst hb; subst hc; exact hx
      | succ k => exact i2 k a b c (by simpa using ha) (by simpa using hb) (by simpa using hc)
 have hrun : (fn.results.mapM (resRun a.tmps)).run P w = .ok xs.toArray w := by
  rw [Array.mapM_eq_mapM_toList]
  have := run_mapM (P := P) (w := w) (l := fn.results.toList) (ys := xs) (f := resRun a.tmps) (by rw [h4, h1]) fun k r x hr hx => by
   have hlt : k < vs.length := by rw [← h4]; exact (List.getElem?_eq_some_iff.1 hx).1
   exact (h5 k r vs[k] x hr (List.getElem?_eq_getElem hlt) hx).2.2
  simp [this]
 have hres : ∀ k v x, vs[k]? = some v -> xs[k]? = some x -> VRel g.bs g.I w ob.length v x /\ v.noTok = true := fun k v x hv hx => by
  have hlt : k < fn.results.toList.length := by rw [← h1]; exact (List.getElem?_eq_some_iff.1 hv).1
  have := h5 k fn.results.toList[k] v x (List.getElem?_eq_getElem hlt) hv hx
  exact ⟨this.1, this.2.1⟩
 have hfin : (results fn a.tmps).run P w = .ok (if h : xs.toArray.size = 1 then xs.toArray[0] else .tuple xs.toArray) w := by
  rw [results_eq, Sem.run_bind, hrun]
  rfl
 unfold oneOf at h3
 split at h3
 · rename_i v
   obtain ⟨x, rfl⟩ := List.length_eq_one_iff.1 h4
   exact ⟨v, x, (hres 0 v x rfl rfl).1, (hres 0 v x rfl rfl).2, by rw [hfin]; rfl, h3⟩
 · rename_i hne
   refine ⟨_, _, .tup (ca := xs.toArray) (by simp [h4]) fun k v c hv hc => (hres k v c hv (by simpa using hc)).1, rfl, ?_, h3⟩
   rw [hfin]
   have : ¬ xs.toArray.size = 1 := fun e => by
    have : vs.length = 1 := by rw [← h4]; simpa using e
    match vs, this with
    | [v], _ => exact hne v rfl
   rw [dif_neg this]
end
def vfun (S : Sys) (fn : Func) (body : Code) (args : List V) (ob : List VObj) (K : Out -> List VObj -> Prop) : Prop :=
 vwp S body ⟨padV fn.ntmps args, ob, 0, []⟩ fun e s => endK S fn ob.length e s K
theorem undefs_eq : ∀ n, padV.undefs n = List.replicate n .undef
 | 0 => rfl
 | n + 1 => by simp [padV.undefs, undefs_eq n, List.replicate_succ]
theorem padV_eq : ∀ (l : List V) (n : Nat), padV n l = l ++ List.replicate (n - l.length) .undef
 | [], n => by simp [padV, undefs_eq]
 | v :: r, n => by simp only [padV, padV_eq r, List.length_cons, List.cons_append]; rw [show n - 1 - r.length = n - (r.length + 1) by omega]
def recd (rec : Bool) (u : FrameMode) : FrameMode :=
 match rec, u with
 | true, .panicking ({ v, .. } :: older) => .panicking ({ v, recovered := true } :: older)
 | _, u => u
theorem recd_false (u : FrameMode) : recd false u = u := by cases u <;> rfl
def RMode (g : G) (w : World) (n : Nat) (r : Option V) (u : FrameMode) : Prop :=
 match r with
 | none => u = .returning
 | some v => ∃ x, u = .panicking [{ v := x, recovered := false }] /\ VRel g.bs g.I w n v x
def VCallD0 (P : Program) (f : FuncId) (args : List V) (ob : List VObj) (r : Option V) (K : Bool -> List VObj -> Prop) : Prop :=
 ∀ (w : World) (g : G) (cargs : Array Value) (u : FrameMode), WInv ⟨w, ob.length, g.bs, g.I, Owns g ob⟩ g w ob 0 -> args.length = cargs.size ->
  (∀ (k : Nat) v x, args[k]? = some v -> cargs[k]? = some x -> VT g w ob.length 0 v x) -> RMode g w ob.length r u -> GlOk g w ->
  (callFunc f cargs).run P w = .ok (.enter f cargs) w /\
  CallsD P f cargs u w fun e u' w' => ∃ rec ob' g', K rec ob' /\ WInv ⟨w, ob.length, g.bs, g.I, Owns g ob⟩ g' w' ob' 0 /\ (∃ y, e = .returned y) /\ u' = recd rec u /\ (rec = true -> r.isSome = true)
theorem plainO_iff {r : Option V} (h : plainO r = true) : ∀ v, r = some v -> ptrs v = [] := by
 rintro v rfl
 simp only [plainO] at h
 split at h
 · assumption
 · cases h
theorem deferK_sound {S : Sys} (hD : ∀ f args ob r K, S.calld f args ob r K -> VCallD0 S.P f args ob r K) {fn : Func} {tmps : Array Value} {R : Ending -> World -> Prop} {c : Ctx} {K : Option V -> List V -> List VObj -> Prop}
 (hend : ∀ r t ob g w u nt, K r t ob -> WInv c g w ob nt -> TInv g w ob.length nt tmps t -> RMode g w ob.length r u -> Leaves S.P fn tmps R [] u w) :
 ∀ (df : List (Fn × List V × List V)) (ds : List Deferred) (r : Option V) (t : List V) (ob : List VObj) (g : G) (w : World) (u : FrameMode) (nt : Nat), deferK S df r t ob K -> WInv c g w ob nt -> TInv g w ob.length nt tmps t -> DRel g w ob.length ds df ->
  RMode g w ob.length r u -> Leaves S.P fn tmps R ds u w := by
 intro df
 induction df with
 | nil =>
   intro ds r t ob g w u nt h hw ht hd hr
   cases hd
   exact hend r t ob g w u nt h hw ht hr
 | cons x df ih =>
   intro ds r t ob g w u nt h hw ht hd hr
   obtain ⟨f', a, b⟩ := x
   cases f' <;> try exact h.elim
   rename_i f
   cases hd with
   | @cons d _ ds _ h1 hd =>
   obtain ⟨cap, e1, e2, e3, e4, e5⟩ := h1
   simp only [deferK] at h
   have h := mapK_untok h
   obtain ⟨m1, m2⟩ := append_args e2 e4 e3 e5
   obtain ⟨m1, m2⟩ := untok_args m1 m2
   have hno : ∀ v ∈ (a ++ b).map V.untok, v.noTok = true := fun v hv => by
    obtain ⟨u, _, rfl⟩ := List.mem_map.1 hv; exact untok_noTok u
   generalize (a ++ b).map V.untok = args at h m1 m2 hno
   have h := listK_iff h
   generalize reach ob 64 (ptrsL args) [] = idx at h
   split at h
   case h_1 => exact h.elim
   rename_i hchk
   simp only [Bool.and_eq_true] at hchk
   obtain ⟨⟨⟨hpl, hnd⟩, hin⟩, hshut⟩ := hchk
   have hpl := plainO_iff hpl
   have hnd := nodupN_iff hnd
   obtain ⟨sub0, hl0, hsub0, h⟩ := getsK_iff h
   have h := insK_iff h
   obtain ⟨sub, hsub', hl, hsub⟩ : ∃ sub, sub = sub0.map inO /\ sub.length = idx.length /\ ∀ (j i : Nat), idx[j]? = some i -> ∃ o, ob[i]? = some o /\ sub[j]? = some (inO (renO (fun i => posN i idx 0) (untokO o))) := by
    refine ⟨_, rfl, by simp [hl0], fun j i hj => ?_⟩
    obtain ⟨o, q1, q2⟩ := hsub0 j i hj
    exact ⟨o, q1, by rw [List.getElem?_map, q2]; rfl⟩
   rw [← hsub'] at h
   have h := mapK_renP h
   have hcall := hD _ _ _ _ _ h
   have hwi := call_in hw hnd (shutN_iff hshut) hl hsub
   have hidx : ∀ i ∈ idx, ∃ o, ob[i]? = some o := fun i hi => by
    obtain ⟨j, hj⟩ := List.mem_iff_getElem?.1 hi
    obtain ⟨o, ho, _⟩ := hsub j i hj
    exact ⟨o, ho⟩
   obtain ⟨hrun, hcalls⟩ := hcall w (inG g idx) (d.args ++ cap) u hwi (by rw [renL_length]; exact m1) (fun k v x hv hx => by
    rw [renL_get] at hv
    obtain ⟨v', hv', rfl⟩ := Option.map_eq_some_iff.1 hv
    exact ⟨in_rel (m2 k v' x hv' hx) (fun o ho => allIn_iff hin o (ptrsL_get hv' ho)) hl, .of_no (noTok_ren (hno v' (List.mem_of_getElem? hv')))⟩) (by
    cases r with
    | none => exact hr
    | some v =>
      obtain ⟨x, q1, q2⟩ := hr
      exact ⟨x, q1, q2.ren_id fun o ho => by rw [hpl v rfl] at ho; simp at ho⟩) ht.gl
   obtain ⟨tg, dargs⟩ := d
   simp only at e1; subst e1
   refine leaves_cons (f := f) (args := dargs ++ cap) ?_ ?_ (hcalls.mono fun e u' w' he => ?_)
   · cases r with
     | none => have hr : u = .returning := hr; rw [hr]; simp
     | some v => obtain ⟨x, q1, _⟩ := hr; rw [q1]; simp
   · simpa [invoke] using hrun
   · obtain ⟨rec, os, g', hk, hw', ⟨y, rfl⟩, rfl, hrec⟩ := he
     simp only
     rw [hl] at hw'
     obtain ⟨hdf, hk⟩ := forgetK_iff (movedK_iff hk)
     obtain ⟨ob', b1, b2, b3, b4, b5, b6⟩ := backK_iff hnd hk
     rw [List.length_map] at b2 b4 b5
     have b3' : ∀ (j i : Nat) o, idx[j]? = some i -> os[j]? = some o -> ∃ o0, ob[i]? = some o0 /\ ob'[i]? = some ((renO (backN idx ob.length) o).orMv o0.mv) /\ (o0.mv = true -> ∃ m z l ty, o = .buf m z l ty) := fun j i o hj ho => by
      obtain ⟨o0, q1, q2, q3⟩ := b3 j i o hj ho
      rw [List.getElem?_map] at q1
      obtain ⟨o1, q4, rfl⟩ := Option.map_eq_some_iff.1 q1
      have : (forgetO (movedOf idx os) o1).mv = o1.mv := by cases o1 <;> rfl
      rw [this] at q2 q3
      exact ⟨o1, q4, q2, q3⟩
     obtain ⟨q1, q2, q3, q4, q5⟩ := call_out hw hnd hidx hl (fun j i hj => by
      obtain ⟨o, r1, r2⟩ := hsub j i hj
      refine ⟨o, r1, fun s hs => ?_⟩
      rw [r2] at hs
      cases hs
      cases o <;> rfl) hw' b2 b3' (fun i hi hm => by rw [b4 i hi hm, List.getElem?_map]) b5
     refine ih ds _ _ ob' (outG g g' idx ob.length) w' _ nt b6 q1 ⟨by simp [ht.size], fun k v x hv hx => ?_, ht.gl.out hw' rfl⟩ (hd.forget q5 hdf) ?_
     · rw [List.getElem?_map] at hv
       obtain ⟨v', hv', rfl⟩ := Option.map_eq_some_iff.1 hv
       rcases forget_cases (movedOf idx os) v' with e | ⟨e, hp⟩
       · rw [e]; exact ⟨.undef, trivial⟩
       · rw [e]; exact q2 v' x (ht.rel k v' x hv' hx) hp
     · cases rec with
       | true =>
         cases r with
         | none => exact absurd (hrec rfl) (by simp)
         | some v =>
           obtain ⟨x, rfl, _⟩ := hr
           rfl
       | false =>
         cases r with
         | none => have hr : u = .returning := hr; rw [hr]; rfl
         | some v =>
           obtain ⟨x, rfl, hx⟩ := hr
           exact ⟨x, rfl, q5 v x hx fun o ho => by rw [hpl v rfl] at ho; simp at ho⟩
theorem fun_sound {S : Sys} (hm : CallMono S) (hS : ∀ g args ob K, S.call g args ob K -> VCall0 S.P g args ob K) (hD : ∀ f args ob r K, S.calld f args ob r K -> VCallD0 S.P f args ob r K) {ob : List VObj}
 (hL : ∀ (code : Code) (s : St) (K : Ex -> St -> Prop) (c : Ctx) (Q : Exit -> Act -> World -> Prop) (g : G) (w : World) (a : Act), c.n0 = ob.length -> S.loop code s K -> Fits c K Q -> Sim c g w a s -> (Code.loop code).wp S.P Q a w)
 (hT : ∀ (code : Code) (s : St) (K : Ex -> St -> Prop) (c : Ctx) (Q : Exit -> Act -> World -> Prop) (g : G) (w : World) (a : Act), c.n0 = ob.length -> S.step code s K -> Fits c K Q -> Sim c g w a s -> code.wp S.P Q a w)
 {f : FuncId} {fn : Func} {body : Code} (hf : S.P.funcs[f]? = some fn) (hb : fn.body = some body) (hn : (fn.name == "runtime.NumGoroutine") = false) {args : List V} {K : Out -> List VObj -> Prop}
 (h : vfun S fn body args ob K) : VCall0 S.P f args ob K := by
 intro w g cargs hw hl hr hgl
 refine (Does.calls hf hb hn).2 (calls_of_wp_defers hf hb ?_)
 have hpad : TInv g w ob.length 0 (cargs ++ Array.replicate (fn.ntmps - cargs.size) undef) (padV fn.ntmps args) := by
  rw [padV_eq]
  refine ⟨by simp [hl], fun k v c hv hc => ?_, hgl⟩
  rw [List.getElem?_append] at hv
  rw [Array.getElem?_append] at hc
  split at hv
  · rename_i hk; rw [if_pos (by omega)] at hc; exact hr k v c hv hc
  · rw [List.getElem?_replicate] at hv
    split at hv
    · cases hv; exact ⟨.undef, trivial⟩
    · cases hv
 have hend : ∀ (tmps : Array Value) r t ob1 g' w' u nt, leftK S.P fn ob.length r t ob1 K -> WInv ⟨w, ob.length, g.bs, g.I, Owns g ob⟩ g' w' ob1 nt -> TInv g' w' ob1.length nt tmps t -> RMode g' w' ob1.length r u ->
  Leaves S.P fn tmps (fun e w' => ∃ out ob' g', K out ob' /\ WInv ⟨w, ob.length, g.bs, g.I, Owns g ob⟩ g' w' ob' 0 /\ Ends g' w' ob'.length out e) [] u w' := by
  intro tmps r t ob1 g' w' u nt hk hwi hti hrm
  cases r with
  | none =>
    have hrm : u = .returning := hrm
    subst hrm
    obtain ⟨v, x, h1, h2, h3, h4⟩ := results_sound (a := { tmps := tmps, defers := [] }) hwi hti hk
    obtain ⟨g'', sub, v', h5, h6, h7, h8⟩ := leave_sound hwi h1 h4
    exact ⟨x, h3, _, _, g'', h8, h5, ⟨h6, .of_no (h7 h2)⟩⟩
  | some v =>
    obtain ⟨x, rfl, hx⟩ := hrm
    obtain ⟨g'', sub, v', h5, h6, h7, h8⟩ := leave_sound hwi hx hk
    exact ⟨.pan v', sub, g'', h8, h5, x, rfl, h6⟩
 refine sound_code (c := ⟨w, ob.length, g.bs, g.I, Owns g ob⟩) hm hS (fun code s K Q g' w' a h hf hs => hL code s K _ Q g' w' a rfl h hf hs) (fun code s K Q g' w' a h hf hs => hT code s K _ Q g' w' a rfl h hf hs)
  body ⟨padV fn.ntmps args, ob, 0, []⟩ _ _ g w _ h ?_ ⟨hw, hpad, .nil⟩
 refine ⟨fun s g' w' a hk hs => ?_, fun i s g' w' a hk hs => ?_, fun s g' w' a hk hs => ?_, fun v x s g' w' a hk hs hv => ?_⟩
 · obtain ⟨t, ob1, nt, df⟩ := s
   exact deferK_sound hD (hend a.tmps) df a.defers none t ob1 g' w' .returning nt hk hs.wi hs.ti hs.di rfl
 · obtain ⟨t, ob1, nt, df⟩ := s
   exact hk.elim
 · obtain ⟨t, ob1, nt, df⟩ := s
   exact deferK_sound hD (hend a.tmps) df a.defers none t ob1 g' w' .returning nt hk hs.wi hs.ti hs.di rfl
 · obtain ⟨t, ob1, nt, df⟩ := s
   exact deferK_sound hD (hend a.tmps) df a.defers (some v) t ob1 g' w' _ nt hk hs.wi hs.ti hs.di ⟨x, rfl, hv⟩
def vwpD (S : Sys) (r : Option V) : Code -> St -> (Bool -> Ex -> St -> Prop) -> Prop
 | .seq a b, s, K => vwpD S r a s fun rec e s => match e with
   | .normal => S.step b s (K rec)
   | .exit i => K rec (.exit i) s
   | .ret => K rec .ret s
   | .pan v => K rec (.pan v) s
 | .region _ ops false, s, K => (match ops.toList with
   | [o] => (match o.op, o.guard with
     | .call cl, none => (match cl.callee with
       | .builtin .recover => (match r with
         | none => s.put o.dst .nili (K false .normal)
         | some v => v.untokK fun v => s.put o.dst v (K true .normal))
       | _ => False)
     | _, _ => False)
   | _ => False)
 | _, _, _ => False
def vfunD (S : Sys) (fn : Func) (body : Code) (args : List V) (ob : List VObj) (r : Option V) (K : Bool -> List VObj -> Prop) : Prop :=
 (fn.results.toList.isEmpty = true) /\ vwpD S r body ⟨padV fn.ntmps args, ob, 0, []⟩ fun rec e s => match s, e with
   | ⟨_, ob', _, []⟩, .normal => leaveK ob.length (.tup []) ob' fun _ ob => K rec ob
   | ⟨_, ob', _, []⟩, .ret => leaveK ob.length (.tup []) ob' fun _ ob => K rec ob
   | _, _ => False
theorem soundD {S : Sys} {c : Ctx} (hm : CallMono S) (hS : ∀ g args ob K, S.call g args ob K -> VCall0 S.P g args ob K)
 (hT : ∀ (code : Code) (s : St) (K : Ex -> St -> Prop) (Q : Exit -> Act -> World -> Prop) (g : G) (w : World) (a : Act), S.step code s K -> Fits c K Q -> Sim c g w a s -> code.wp S.P Q a w)
 {r : Option V} {c₀ : Frame} {cs : List Frame} :
 ∀ (code : Code) (s : St) (K : Bool -> Ex -> St -> Prop) (Q : Exit -> Act -> List Frame -> World -> Prop) (g : G) (w : World) (a : Act), vwpD S r code s K -> RMode g w s.objs.length r c₀.mode ->
  (∀ rec, (rec = true -> r.isSome = true) -> Fits c (K rec) (fun e a w => Q e a ({ c₀ with mode := recd rec c₀.mode } :: cs) w)) -> Sim c g w a s -> code.wpS S.P Q a (c₀ :: cs) w := by
 intro code
 induction code with
 | seq x y ihx ihy =>
   intro s K Q g w a h hr hf hs
   refine wpS_seq (ihx s _ _ g w a h hr (fun rec hrec => ?_) hs)
   have hf := hf rec hrec
   exact ⟨fun s g w a hk hs => wpS_of_wp (hT y s (K rec) _ g w a hk hf hs), fun i s g w a hk hs => hf.exit i s g w a hk hs, fun s g w a hk hs => hf.ret s g w a hk hs, fun v x s g w a hk hs hv => hf.pan v x s g w a hk hs hv⟩
 | region id ops draw =>
   intro s K Q g w a h hr hf hs
   cases draw with
   | true => exact h.elim
   | false =>
     simp only [vwpD] at h
     split at h
     case h_2 => exact h.elim
     rename_i o hops
     split at h
     case h_2 => exact h.elim
     rename_i cl hop hg
     split at h
     case h_2 => exact h.elim
     rename_i hc
     refine wpS_region ?_
     have hsz : ops.size = 1 := by have := congrArg List.length hops; simpa using this
     have h0 : ops[0]? = some o := by rw [← Array.getElem?_toList, hops]; rfl
     have hrange : List.range ops.size = [0] := by rw [hsz]; rfl
     rw [hrange]
     have hw : Region.wanted o (yielded ops a.tmps) = true := by simp [Region.wanted, hg]
     have hrun : (execOp a.eval o).run S.P w = .ok .recover w := by
      rw [exec_builtin hop hc]; simp [Go.builtin]
     simp only [wpOpsS, h0, hw, if_true, hrun]
     cases r with
     | none =>
       have hr : c₀.mode = .returning := hr
       have hrec : recoverD (c₀ :: cs) = none := by simp [recoverD, hr]
       rw [hrec]
       obtain ⟨s', h1, h2⟩ := put_sound (x := .nilIface) hs (.of .nili rfl) h
       have := (hf false (by simp)).normal s' g w _ h1 h2
       rw [recd_false] at this
       exact this
     | some v =>
       obtain ⟨x, hx, hv⟩ := hr
       have hrec : recoverD (c₀ :: cs) = some (x, { c₀ with mode := .panicking [{ v := x, recovered := true }] } :: cs) := by simp [recoverD, hx]
       rw [hrec]
       simp only [V.untokK, force_eq] at h
       obtain ⟨s', h1, h2⟩ := put_sound (x := x) hs (.of hv.untok (untok_noTok v)) h
       have := (hf true (by simp)).normal s' g w _ h1 h2
       simpa [recd, hx] using this
 | _ => intro s K Q g w a h; exact h.elim
theorem fund_sound {S : Sys} (hm : CallMono S) (hS : ∀ g args ob K, S.call g args ob K -> VCall0 S.P g args ob K) {ob : List VObj}
 (hT : ∀ (code : Code) (s : St) (K : Ex -> St -> Prop) (c : Ctx) (Q : Exit -> Act -> World -> Prop) (g : G) (w : World) (a : Act), c.n0 = ob.length -> S.step code s K -> Fits c K Q -> Sim c g w a s -> code.wp S.P Q a w)
 {f : FuncId} {fn : Func} {body : Code} (hf : S.P.funcs[f]? = some fn) (hb : fn.body = some body) (hn : (fn.name == "runtime.NumGoroutine") = false) {args : List V} {r : Option V} {K : Bool -> List VObj -> Prop}
 (h : vfunD S fn body args ob r K) : VCallD0 S.P f args ob r K := by
 intro w g cargs u hw hl hr hrm hgl
 refine ⟨run_callFunc hf hb hn cargs w, callsD_of_wpS hf hb fun c₀ cs hmode => ?_⟩
 subst hmode
 obtain ⟨hres, h⟩ := h
 have hpad : TInv g w ob.length 0 (cargs ++ Array.replicate (fn.ntmps - cargs.size) undef) (padV fn.ntmps args) := by
  rw [padV_eq]
  refine ⟨by simp [hl], fun k v c hv hc => ?_, hgl⟩
  rw [List.getElem?_append] at hv
  rw [Array.getElem?_append] at hc
  split at hv
  · rename_i hk; rw [if_pos (by omega)] at hc; exact hr k v c hv hc
  · rw [List.getElem?_replicate] at hv
    split at hv
    · cases hv; exact ⟨.undef, trivial⟩
    · cases hv
 have hresults : ∀ tm : Array Value, ∃ v, ∀ w' : World, (results fn tm).run S.P w' = .ok v w' := fun tm => by
  have h0 : fn.results = #[] := by
   have : fn.results.toList = [] := List.isEmpty_iff.1 hres
   exact Array.toList_eq_nil_iff.1 this
  exact ⟨.tuple #[], fun w' => by simp [results_eq, h0]⟩
 refine soundD (c := ⟨w, ob.length, g.bs, g.I, Owns g ob⟩) hm hS (fun code s K Q g' w' a h hf hs => hT code s K _ Q g' w' a rfl h hf hs) body ⟨padV fn.ntmps args, ob, 0, []⟩ _ _ g w _ h hrm (fun rec hrec => ?_) ⟨hw, hpad, .nil⟩
 have hret : ∀ (ob1 : List VObj) (nt : Nat) (g' : G) (w' : World) (a : Act), (leaveK ob.length (.tup []) ob1 fun _ ob => K rec ob) -> WInv ⟨w, ob.length, g.bs, g.I, Owns g ob⟩ g' w' ob1 nt -> DRel g' w' ob1.length a.defers [] ->
  a.defers = [] /\ ∃ u', { c₀ with mode := recd rec c₀.mode } :: cs = { c₀ with mode := u' } :: cs /\ ∃ v, (results fn a.tmps).run S.P w' = .ok v w' /\
   ∃ rec' ob' g', K rec' ob' /\ WInv ⟨w, ob.length, g.bs, g.I, Owns g ob⟩ g' w' ob' 0 /\ (∃ y, Ending.returned v = .returned y) /\ u' = recd rec' c₀.mode /\ (rec' = true -> r.isSome = true) := by
  intro ob1 nt g' w' a hk hwi hdi
  obtain ⟨v, hv⟩ := hresults a.tmps
  obtain ⟨g'', sub, v', h5, _, _, h8⟩ := leave_sound (x := .tuple #[]) hwi (.tup rfl (by simp)) hk
  refine ⟨?_, _, rfl, v, hv w', rec, sub, g'', h8, h5, ⟨v, rfl⟩, rfl, hrec⟩
  generalize a.defers = d at hdi
  cases hdi; rfl
 refine ⟨fun s g' w' a hk hs => ?_, fun i s g' w' a hk hs => ?_, fun s g' w' a hk hs => ?_, fun v x s g' w' a hk hs hv => ?_⟩
 · obtain ⟨t, ob1, nt, df⟩ := s
   cases df with
   | nil => exact hret ob1 nt g' w' a hk hs.wi hs.di
   | cons _ _ => exact hk.elim
 · obtain ⟨t, ob1, nt, df⟩ := s
   cases df <;> exact hk.elim
 · obtain ⟨t, ob1, nt, df⟩ := s
   cases df with
   | nil => exact hret ob1 nt g' w' a hk hs.wi hs.di
   | cons _ _ => exact hk.elim
 · obtain ⟨t, ob1, nt, df⟩ := s
   cases df <;> exact hk.elim
end VL

namespace VL
open Go
def SemOf (P : Program) (m : Nat) (code : Code) (s : St) (K : Ex -> St -> Prop) : Prop :=
 ∀ (c : Ctx) (Q : Exit -> Act -> World -> Prop) (g : G) (w : World) (a : Act), c.n0 <= m -> Fits c K Q -> Sim c g w a s -> code.wp P Q a w
def Weak (m : Nat) (s s' : St) : Prop := ∀ (c : Ctx) (g : G) (w : World) (a : Act), c.n0 <= m -> Sim c g w a s -> ∃ g', Sim c g' w a s'
def wk (m : Nat) (K : Ex -> St -> Prop) (e : Ex) (s : St) : Prop :=
 match e with
 | .pan v => K (.pan v) s
 | e => ∃ s', Weak m s s' /\ K e s'
inductive LoopS (P : Program) (m : Nat) (code : Code) (K : Ex -> St -> Prop) : St -> Prop
 | step {s : St} (R : St -> Prop) (hR : ∀ s', R s' -> LoopS P m code K s')
    (h : SemOf P m code s (fun e s' => match e with | .normal => R s' | e => K e s')) : LoopS P m code K s
theorem loopS_sound {P : Program} {m : Nat} {code : Code} {K : Ex -> St -> Prop} {s : St} (h : LoopS P m code K s) : SemOf P m (.loop code) s K := by
 intro c Q g w a hm hf hs b k cs
 have key : ∀ s, LoopS P m code K s -> ∀ g w a, Sim c g w a s -> ∃ e a' w', Q e a' w' /\ Arrives P (lone (b.at a (.code code :: .inLoop code :: k)) cs w) b k cs e a' w' := by
  intro s hl
  induction hl with
  | @step s R hR h ih =>
    intro g w a hs
    have hw : code.wp P (Exit.then (fun a' w' => ∃ s' g', R s' /\ Sim c g' w' a' s') Q) a w :=
     h c _ g w a hm ⟨fun s g w a hk hs => ⟨s, g, hk, hs⟩, fun i s g w a hk hs => hf.exit i s g w a hk hs, fun s g w a hk hs => hf.ret s g w a hk hs, fun v x s g w a hk hs hv => hf.pan v x s g w a hk hs hv⟩ hs
    obtain ⟨e, a₁, w₁, hq, harr⟩ := hw b (.inLoop code :: k) cs
    cases e with
    | normal =>
      obtain ⟨s', g', hr, hs'⟩ := hq
      obtain ⟨e₂, a₂, w₂, hq₂, harr₂⟩ := ih s' hr g' w₁ a₁ hs'
      exact ⟨e₂, a₂, w₂, hq₂, .of_steps (Steps.trans harr (.one step_inLoop)) harr₂⟩
    | exit id => exact ⟨_, a₁, w₁, hq, .pass (x := .inLoop code) rfl (fun _ _ => .inl (by simp)) harr⟩
    | goto l => exact ⟨_, a₁, w₁, hq, .pass (x := .inLoop code) rfl (fun _ _ => .inl (by simp)) harr⟩
    | ret => exact ⟨_, a₁, w₁, hq, .pass (x := .inLoop code) rfl (fun _ _ => .inl (by simp)) harr⟩
    | panic ch => exact ⟨_, a₁, w₁, hq, .pass (x := .inLoop code) rfl (fun _ _ => .inl (by simp)) harr⟩
    | outgrown => exact ⟨_, a₁, w₁, hq, .pass (x := .inLoop code) rfl (fun _ _ => .inl (by simp)) harr⟩
 obtain ⟨e, a', w', hq, harr⟩ := key s h g w a hs
 exact ⟨e, a', w', hq, .of_steps (.one step_loop) harr⟩
theorem fits_wk {c : Ctx} {m : Nat} (hm : c.n0 <= m) {K : Ex -> St -> Prop} {Q : Exit -> Act -> World -> Prop} (h : Fits c K Q) : Fits c (wk m K) Q where
 normal s g w a hk hs := by obtain ⟨s', hw, hk⟩ := hk; obtain ⟨g', hs'⟩ := hw c g w a hm hs; exact h.normal s' g' w a hk hs'
 exit i s g w a hk hs := by obtain ⟨s', hw, hk⟩ := hk; obtain ⟨g', hs'⟩ := hw c g w a hm hs; exact h.exit i s' g' w a hk hs'
 ret s g w a hk hs := by obtain ⟨s', hw, hk⟩ := hk; obtain ⟨g', hs'⟩ := hw c g w a hm hs; exact h.ret s' g' w a hk hs'
 pan v x s g w a hk hs hv := h.pan v x s g w a hk hs hv
structure VLoop (P : Program) (m : Nat) (code : Code) (s : St) (K : Ex -> St -> Prop) : Prop where
 mk :: out : LoopS P m code (wk m K) s
theorem VLoop.sound {P : Program} {m : Nat} {code : Code} {s : St} {K : Ex -> St -> Prop} (h : VLoop P m code s K) : SemOf P m (.loop code) s K := by
 exact fun c Q g w a hm hf hs => loopS_sound h.out c Q g w a hm (fits_wk hm hf) hs
theorem VLoop.enter {P : Program} {m : Nat} {code : Code} {s s' : St} {K : Ex -> St -> Prop} (hw : Weak m s s') (h : VLoop P m code s' K) : VLoop P m code s K := by
 refine ⟨?_⟩
 cases h.out with
 | step R hR h => exact .step R hR fun c Q g w a hm hf hs => by obtain ⟨g', hs'⟩ := hw c g w a hm hs; exact h c Q g' w a hm hf hs'
theorem VLoop.round {P : Program} {m : Nat} {code : Code} {s : St} {K : Ex -> St -> Prop} (h : SemOf P m code s fun e s' => match e with
 | .normal => ∃ s'', Weak m s' s'' /\ VLoop P m code s'' K
 | e => wk m K e s') : VLoop P m code s K := by
 refine ⟨?_⟩
 refine .step (fun s' => LoopS P m code (wk m K) s') (fun _ h => h) fun c Q g w a hm hf hs => h c Q g w a hm ?_ hs
 refine ⟨fun s g w a hk hs => ?_, fun i s g w a hk hs => hf.exit i s g w a hk hs, fun s g w a hk hs => hf.ret s g w a hk hs, fun v x s g w a hk hs hv => hf.pan v x s g w a hk hs hv⟩
 obtain ⟨s'', hw, hk⟩ := hk
 obtain ⟨g', hs'⟩ := hw _ g w a hm hs
 exact hf.normal s'' g' w a hk.out hs'
structure VStep (P : Program) (m : Nat) (code : Code) (s : St) (K : Ex -> St -> Prop) : Prop where
 mk :: out : SemOf P m code s K
structure VCallD (P : Program) (f : FuncId) (args : List V) (ob : List VObj) (r : Option V) (K : Bool -> List VObj -> Prop) : Prop where
 mk :: out : VCallD0 P f args ob r K
theorem VStep.weak {P : Program} {m : Nat} {code : Code} {s s' : St} {K : Ex -> St -> Prop} (hw : Weak m s s') (h : VStep P m code s' K) : VStep P m code s K :=
 ⟨fun c Q g w a hm hf hs => by obtain ⟨g', hs'⟩ := hw c g w a hm hs; exact h.out c Q g' w a hm hf hs'⟩
noncomputable def sys (P : Program) (m : Nat) (mu : List Tmp) : Sys := ⟨P, VCall P, fun code s K => VLoop P m code s K, fun code s K => VStep P m code s K, VCallD P, mu⟩
theorem call_mono (P : Program) (m : Nat) (mu : List Tmp) : CallMono (sys P m mu) := fun g args ob K K' h hc => .shut <| by
 intro w g cargs hw hl hr hgl
 refine (VCall.open hc w g cargs hw hl hr hgl).mono fun e w' he => ?_
 obtain ⟨out, ob', g', hk, rest⟩ := he
 exact ⟨out, ob', g', h _ _ hk, rest⟩
theorem VCall.mono {P : Program} {f : FuncId} {args : List V} {ob : List VObj} {K K' : Out -> List VObj -> Prop} (h : ∀ o ob, K o ob -> K' o ob) (hc : VCall P f args ob K) : VCall P f args ob K' :=
 call_mono P 0 [] f args ob K K' h hc
theorem code_sound {P : Program} {m : Nat} {mu : List Tmp} {code : Code} {s : St} {K : Ex -> St -> Prop} (h : vwp (sys P m mu) code s K) : SemOf P m code s K :=
 fun c Q g w a hm hf hs => sound_code (S := sys P m mu) (c := c) (call_mono P m mu) (fun _ _ _ _ h => h.open) (fun code s K Q g w a h hf hs => VLoop.sound h c Q g w a hm hf hs)
  (fun code s K Q g w a h hf hs => VStep.out h c Q g w a hm hf hs) code s K Q g w a h hf hs
theorem step_go {P : Program} {m : Nat} (mu : List Tmp) {code : Code} {s : St} {K : Ex -> St -> Prop} (h : vwp (sys P m mu) code s K) : VStep P m code s K := ⟨code_sound h⟩
theorem loop_round {P : Program} {m : Nat} (mu : List Tmp) {code : Code} {s : St} {K : Ex -> St -> Prop} (h : vwp (sys P m mu) code s fun e s' => match e with
 | .normal => ∃ s'', Weak m s' s'' /\ VLoop P m code s'' K
 | e => wk m K e s') : VLoop P m code s K := VLoop.round (code_sound h)
theorem call_fun (mu : List Tmp) (m : Nat) {P : Program} {f : FuncId} {fn : Func} {body : Code} (hf : P.funcs[f]? = some fn) (hb : fn.body = some body) (hn : (fn.name == "runtime.NumGoroutine") = false) {args : List V} {ob : List VObj} {K : Out -> List VObj -> Prop}
 (h : vfun (sys P m mu) fn body args ob K) (hm : ob.length = m := by rfl) : VCall P f args ob K := by
 subst hm
 exact .shut (fun_sound (S := sys P ob.length mu) (call_mono P _ mu) (fun _ _ _ _ h => h.open) (fun _ _ _ _ _ h => h.out) (fun code s K c Q g w a hc h hf hs => VLoop.sound h c Q g w a (by omega) hf hs)
  (fun code s K c Q g w a hc h hf hs => VStep.out h c Q g w a (by omega) hf hs) hf hb hn h)
theorem calld_fun (mu : List Tmp) (m : Nat) {P : Program} {f : FuncId} {fn : Func} {body : Code} (hf : P.funcs[f]? = some fn) (hb : fn.body = some body) (hn : (fn.name == "runtime.NumGoroutine") = false) {args : List V} {ob : List VObj} {r : Option V} {K : Bool -> List VObj -> Prop}
 (h : vfunD (sys P m mu) fn body args ob r K) (hm : ob.length = m := by rfl) : VCallD P f args ob r K := by
 subst hm
 exact .mk (fund_sound (S := sys P ob.length mu) (call_mono P _ mu) (fun _ _ _ _ h => h.open) (fun code s K c Q g w a hc h hf hs => VStep.out h c Q g w a (by omega) hf hs) hf hb hn h)
inductive VQ : V -> V -> Prop
 | eq {v v'} (h : v = v') : VQ v v'
 | no {l r} : VQ (.sl l r) (.sl l .no)
 | spare {l m} : VQ (.spare l m) (.sl l .no)
inductive VQs : List V -> List V -> Prop
 | nil : VQs [] []
 | cons {v v' r r'} (h : VQ v v') (hr : VQs r r') : VQs (v :: r) (v' :: r')
theorem VQs.length {l l' : List V} (h : VQs l l') : l.length = l'.length := by
 induction h with
 | nil => rfl
 | cons _ _ ih => simp [ih]
theorem VQs.get {l l' : List V} (h : VQs l l') : ∀ {k : Nat} {v' : V}, l'[k]? = some v' -> ∃ v, l[k]? = some v /\ VQ v v' := by
 induction h with
 | nil => intro k v' h; simp at h
 | cons h _ ih =>
   intro k v' hk
   cases k with
   | zero => simp at hk; subst hk; exact ⟨_, rfl, h⟩
   | succ k => exact ih (by simpa using hk)
inductive VP : V -> V -> Prop
 | eq {v v'} (h : v = v') : VP v v'
 | no {l r} : VP (.sl l r) (.sl l .no)
 | spare {l m} : VP (.spare l m) (.sl l .no)
 | agg {l l'} (h : VQs l l') : VP (.agg l) (.agg l')
inductive VPs : List V -> List V -> Prop
 | nil : VPs [] []
 | cons {v v' r r'} (h : VP v v') (hr : VPs r r') : VPs (v :: r) (v' :: r')
theorem VPs.length {l l' : List V} (h : VPs l l') : l.length = l'.length := by
 induction h with
 | nil => rfl
 | cons _ _ ih => simp [ih]
theorem VPs.get {l l' : List V} (h : VPs l l') : ∀ {k : Nat} {v' : V}, l'[k]? = some v' -> ∃ v, l[k]? = some v /\ VP v v' := by
 induction h with
 | nil => intro k v' h; simp at h
 | cons h _ ih =>
   intro k v' hk
   cases k with
   | zero => simp at hk; subst hk; exact ⟨_, rfl, h⟩
   | succ k => exact ih (by simpa using hk)
inductive VW : V -> V -> Prop
 | agg {l l'} (h : VQs l l') : VW (.agg l) (.agg l')
 | undef {v} : VW v .undef
 | tup {l l'} (h : VPs l l') : VW (.tup l) (.tup l')
 | eq {v v'} (h : v = v') : VW v v'
 | no {l r} : VW (.sl l r) (.sl l .no)
 | spare {l m} : VW (.spare l m) (.sl l .no)
inductive VWs : List V -> List V -> Prop
 | nil : VWs [] []
 | cons {v v' r r'} (h : VW v v') (hr : VWs r r') : VWs (v :: r) (v' :: r')
inductive OW : VObj -> VObj -> Prop
 | none {o} (h : o.mv = false) : OW o .none
 | eq {o o'} (h : o = o') : OW o o'
 | cells {w T cs cs'} (h : VWs cs cs') : OW (.cells w T cs) (.cells w T cs')
 | moved {z l ty} : OW (.buf false z l ty) (.buf true z l ty)
 | row {T cs} (h : intCells cs = true) : OW (.cells true T cs) (.buf false 1 cs)
inductive OWs : List VObj -> List VObj -> Prop
 | nil {l} : OWs l []
 | cons {v v' r r'} (h : OW v v') (hr : OWs r r') : OWs (v :: r) (v' :: r')
theorem OW.real {x y : VObj} (h : OW x y) (hy : y.real = true) : x.real = true := by
 cases h with
 | none => cases hy
 | eq h => subst h; exact hy
 | cells => rfl
 | moved => exact hy
 | row => rfl
theorem OW.loose {x y : VObj} (h : OW x y) (hy : y.loose = true) : x.loose = true \/ ∃ T cs, x = .cells true T cs := by
 cases h with
 | none => cases hy
 | eq h => subst h; exact .inl hy
 | cells => cases hy
 | moved => exact .inl hy
 | row => exact .inr ⟨_, _, rfl⟩
theorem OW.mv {x y : VObj} (h : OW x y) (hy : y.mv = false) : x.mv = false := by
 cases h with
 | none h => exact h
 | eq h => subst h; exact hy
 | cells => rfl
 | moved => rfl
 | row => rfl
theorem VWs.length {l l' : List V} (h : VWs l l') : l.length = l'.length := by
 induction h with
 | nil => rfl
 | cons _ _ ih => simp [ih]
theorem VWs.get {l l' : List V} (h : VWs l l') : ∀ {k : Nat} {v' : V}, l'[k]? = some v' -> ∃ v, l[k]? = some v /\ VW v v' := by
 induction h with
 | nil => intro k v' h; simp at h
 | cons h _ ih =>
   intro k v' hk
   cases k with
   | zero => simp at hk; subst hk; exact ⟨_, rfl, h⟩
   | succ k => exact ih (by simpa using hk)
theorem OWs.get {l l' : List VObj} (h : OWs l l') : ∀ {k : Nat} {v' : VObj}, l'[k]? = some v' -> ∃ v, l[k]? = some v /\ OW v v' := by
 induction h with
 | nil => intro k v' h; simp at h
 | cons h _ ih =>
   intro k v' hk
   cases k with
   | zero => simp at hk; subst hk; exact ⟨_, rfl, h⟩
   | succ k => exact ih (by simpa using hk)
def VObj.low (n : Nat) : VObj -> Bool
 | .cells _ _ cs => V.lowL n cs
 | _ => true
def lowO (n : Nat) : List VObj -> Bool
 | [] => true
 | o :: r => o.low n && lowO n r
def V.ltTok (n : Nat) : V -> Bool
 | .sl _ (.tok i _) => Nat.blt i n
 | _ => true
def ltToks (n : Nat) : List V -> Bool
 | [] => true
 | v :: r => v.ltTok n && ltToks n r
def VObj.ltTok (n : Nat) : VObj -> Bool
 | .cells _ _ cs => ltToks n cs
 | _ => true
def ltToksO (n : Nat) : List VObj -> Bool
 | [] => true
 | o :: r => o.ltTok n && ltToksO n r
theorem lowO_get {n : Nat} : ∀ {l : List VObj}, lowO n l = true -> ∀ {k : Nat} {o : VObj}, l[k]? = some o -> o.low n = true
 | x :: r, h, k, o, hk => by
   simp only [lowO, Bool.and_eq_true] at h
   cases k with
   | zero => simp at hk; exact hk ▸ h.1
   | succ k => exact lowO_get h.2 (by simpa using hk)
theorem ltToks_get {n : Nat} : ∀ {l : List V}, ltToks n l = true -> ∀ {k : Nat} {v : V}, l[k]? = some v -> v.ltTok n = true
 | x :: r, h, k, o, hk => by
   simp only [ltToks, Bool.and_eq_true] at h
   cases k with
   | zero => simp at hk; exact hk ▸ h.1
   | succ k => exact ltToks_get h.2 (by simpa using hk)
theorem ltToksO_get {n : Nat} : ∀ {l : List VObj}, ltToksO n l = true -> ∀ {k : Nat} {o : VObj}, l[k]? = some o -> o.ltTok n = true
 | x :: r, h, k, o, hk => by
   simp only [ltToksO, Bool.and_eq_true] at h
   cases k with
   | zero => simp at hk; exact hk ▸ h.1
   | succ k => exact ltToksO_get h.2 (by simpa using hk)
theorem VRel.unspare {bs : Nat -> Nat} {I : Nat -> Nat -> Prop} {w : World} {n : Nat} {l m : List V} {x : Value} (h : VRel bs I w n (.spare l m) x) : VRel bs I w n (.sl l .no) x := by
 cases h with
 | spare u hl hcap hz' hc hu =>
   exact .sl u hl (by omega) (by simp) (fun x hx => hz' x (List.mem_append_left _ hx))
    (fun k v hk => hc k v (by rw [List.flatMap_append, List.getElem?_append_left (List.getElem?_eq_some_iff.1 hk).1]; exact hk))
    (fun k v hk => hu k v (by rw [List.flatMap_append, List.getElem?_append_left (List.getElem?_eq_some_iff.1 hk).1]; exact hk))
theorem VRel.aggW {bs : Nat -> Nat} {I : Nat -> Nat -> Prop} {w : World} {n : Nat} {l l' : List V} {x : Value} (h : VRel bs I w n (.agg l) x) (hp : VQs l l') : VRel bs I w n (.agg l') x := by
 cases h with
 | agg hl hh =>
   refine .agg (by rw [← hp.length]; exact hl) fun k v' c hv hc => ?_
   obtain ⟨v, hv0, hvp⟩ := hp.get hv
   have hr := hh k v c hv0 hc
   cases hvp with
   | eq e => subst e; exact hr
   | no => exact hr.room _ (by simp)
   | spare => exact hr.unspare
theorem VW.vt {g : G} {w : World} {n nt n' nt' : Nat} {v v' : V} {x : Value} (h : VT g w n nt v x) (hw : VW v v') (hl : v'.low n' = true) (ht : v'.ltTok nt' = true) : VT g w n' nt' v' x := by
 have h1 : VT g w n nt v' x := by
  cases hw with
  | undef => exact ⟨.undef, trivial⟩
  | agg hp => exact ⟨h.rel.aggW hp, trivial⟩
  | eq h => subst h; assumption
  | no => exact ⟨h.rel.room _ (by simp), trivial⟩
  | spare => exact ⟨h.rel.unspare, trivial⟩
  | tup hp =>
    refine ⟨?_, trivial⟩
    have h0 := h.rel
    cases h0 with
    | tup hl hh =>
      refine .tup (by rw [← hp.length]; exact hl) fun k v' c hv hc => ?_
      obtain ⟨v, hv0, hvp⟩ := hp.get hv
      have hr := hh k v c hv0 hc
      cases hvp with
      | eq e => subst e; exact hr
      | no => exact hr.room _ (by simp)
      | spare => exact hr.unspare
      | agg hq => exact hr.aggW hq
 refine ⟨h1.rel.low hl, ?_⟩
 have h2 := h1.tok
 unfold Tok at h2 ⊢
 split
 · rename_i i sz
   simp only at h2
   refine ⟨?_, h2.2⟩
   simpa [V.ltTok, Nat.blt_eq] using ht
 · trivial
def lowD (n : Nat) : List (Fn × List V × List V) -> Bool
 | [] => true
 | (_, a, b) :: r => V.lowL n a && V.lowL n b && lowD n r
theorem weak_of {m : Nat} {t t' : List V} {ob ob' : List VObj} {nt nt' : Nat} {df : List (Fn × List V × List V)} (h1 : VWs t t') (h2 : OWs ob ob') (h3 : Nat.ble nt' nt = true) (h4 : Nat.ble m ob'.length = true)
 (h5 : (V.lowL ob'.length t' && lowO ob'.length ob' && ltToks nt' t' && ltToksO nt' ob' && lowD ob'.length df) = true) : Weak m ⟨t, ob, nt, df⟩ ⟨t', ob', nt', df⟩ := by
 intro c g w a hm hs
 simp only [Bool.and_eq_true] at h5
 obtain ⟨⟨⟨⟨l1, l2⟩, l3⟩, l4⟩, l5⟩ := h5
 have h3 := Nat.le_of_ble_eq_true h3
 have h4 := Nat.le_of_ble_eq_true h4
 refine ⟨g, ⟨hs.wi.os, hs.wi.tape, hs.wi.output, hs.wi.size, hs.wi.keep, Nat.le_trans hm h4, ?_, ?_, ?_, ?_, ?_, hs.wi.i1, hs.wi.i2, hs.wi.i3, ?_, ?_, ?_, ?_, hs.wi.i6⟩, ⟨?_, ?_, hs.ti.gl⟩, ?_⟩
 · intro o y hy
   obtain ⟨x, hx, hw⟩ := h2.get hy
   have ho := hs.wi.obj o x hx
   cases hw with
   | none => trivial
   | eq h =>
     subst h
     cases x with
     | none => trivial
     | map es => exact ho
     | buf m z l => exact ho
     | cells wr T cs =>
       obtain ⟨arr, a1, a2, a3⟩ := ho
       exact ⟨arr, a1, a2, fun k v c hv hc => ⟨(VW.eq rfl).vt (a3 k v c hv hc).1 (lowL_get (lowO_get l2 hy) hv) (ltToks_get (ltToksO_get l4 hy) hv), (a3 k v c hv hc).2⟩⟩
   | moved => exact ho
   | row h =>
     obtain ⟨h0, h⟩ := intCells_mem h
     obtain ⟨arr, a1, a2, a3⟩ := ho
     refine .inr ⟨arr, _, a1, by simp, by rw [← a2]; simp, fun x hx => ?_, fun k v c hv hc => ?_⟩
     · obtain ⟨k, n, rfl⟩ := h x hx
       exact ⟨rfl, rfl⟩
     · rw [intCells_flat h] at hv
       have := a3 k v c hv hc
       obtain ⟨q, n, rfl⟩ := h v (List.mem_of_getElem? hv)
       exact ⟨this.1.rel.low rfl, this.2⟩
   | cells h =>
     obtain ⟨arr, a1, a2, a3⟩ := ho
     refine ⟨arr, a1, by rw [← h.length]; exact a2, fun k v c hv hc => ?_⟩
     obtain ⟨u, hu, hw⟩ := h.get hv
     exact ⟨hw.vt (a3 k u c hu hc).1 (lowL_get (lowO_get l2 hy) hv) (ltToks_get (ltToksO_get l4 hy) hv), (a3 k u c hu hc).2⟩
 · intro o y hy hn
   obtain ⟨x, hx, hw⟩ := h2.get hy
   exact hs.wi.lt o x hx (hw.real hn)
 · intro o o' y y' hy hy' hn hn'
   obtain ⟨x, hx, hw⟩ := h2.get hy
   obtain ⟨x', hx', hw'⟩ := h2.get hy'
   exact hs.wi.inj o o' x x' hx hx' (hw.real hn) (hw'.real hn')
 · intro o y ho hy hmv
   obtain ⟨x, hx, hw⟩ := h2.get hy
   exact hs.wi.old o x ho hx (hw.mv hmv)
 · intro o y hy hn
   obtain ⟨x, hx, hw⟩ := h2.get hy
   exact hs.wi.new o x hx (hw.real hn)
 · intro o T cs k hy
   obtain ⟨x, hx, hw⟩ := h2.get hy
   cases hw with
   | eq h => subst h; exact hs.wi.i4 o _ _ k hx
   | cells h => exact hs.wi.i4 o _ _ k hx
 · intro o y k hy hlo
   obtain ⟨x, hx, hw⟩ := h2.get hy
   rcases hw.loose hlo with e | ⟨T, cs, rfl⟩
   · exact hs.wi.i5 o x k hx e
   · exact hs.wi.i4 o _ _ k hx
 · intro i hi hn
   obtain ⟨f1, f2, f3, f4⟩ := hs.wi.f1 i (Nat.lt_of_lt_of_le hi h3) hn
   refine ⟨f1, f2, f3, fun o y hy hny => ?_⟩
   obtain ⟨x, hx, hw⟩ := h2.get hy
   exact f4 o x hx (hw.real hny)
 · intro i j hi hj
   exact hs.wi.f2 i j (Nat.lt_of_lt_of_le hi h3) (Nat.lt_of_lt_of_le hj h3)
 · rw [← h1.length]; exact hs.ti.size
 · intro k v x hv hx
   obtain ⟨u, hu, hw⟩ := h1.get hv
   exact hw.vt (hs.ti.rel k u x hu hx) (lowL_get l1 hv) (ltToks_get l3 hv)
 · have := hs.di
   simp only at this ⊢
   generalize a.defers = ds at this
   clear h1 h2 l1 l2 l3 l4 hs h3 h4
   induction this with
   | nil => exact .nil
   | @cons d x ds xs h _ ih =>
     obtain ⟨f, p, q⟩ := x
     simp only [lowD, Bool.and_eq_true] at l5
     obtain ⟨cap, e1, e2, e3, e4, e5⟩ := h
     exact .cons ⟨cap, e1, e2, e3, fun k v c hv hc => (e4 k v c hv hc).low (lowL_get l5.1.1 hv), fun k v c hv hc => (e5 k v c hv hc).low (lowL_get l5.1.2 hv)⟩ (ih l5.2)
def St.selK (m : Nat) (src : List Nat) : St -> (St -> Prop) -> Prop
 | ⟨t, ob, nt, df⟩, K =>
   let gone := goneOf (upto ob.length 0) src
   forgetK gone t ob df fun t ob =>
   match nodupN src && Nat.ble m src.length && selOk ob src src && preOk ob m 0 src with
   | false => False
   | true =>
   mapK (renP fun i => posN i src 0) t fun t =>
   selObjs ob m src 0 src fun ob =>
   dfsK (fun i => posN i src 0) df fun df => K ⟨t, ob, nt, df⟩
where
 goneOf : List Nat -> List Nat -> List Nat
  | [], _ => []
  | i :: r, src => match memN i src with | true => goneOf r src | false => i :: goneOf r src
 selOk (ob : List VObj) (src : List Nat) : List Nat -> Bool
  | [] => true
  | i :: r => Nat.blt i ob.length && allIn src (((ob[i]?).map ptrsO).getD []) && selOk ob src r
 preOk (ob : List VObj) (m : Nat) : Nat -> List Nat -> Bool
  | _, [] => true
  | j, i :: r => (!Nat.blt j m || Nat.beq i j || (match ob[i]? with | some (.buf _ _ _ _) => true | _ => false)) && preOk ob m (j + 1) r
 selObjs (ob : List VObj) (m : Nat) (src : List Nat) : Nat -> List Nat -> (List VObj -> Prop) -> Prop
  | _, [], K => K []
  | j, i :: r, K => getK ob i fun o => (match Nat.beq i j || !Nat.blt j m, o with
    | false, .buf _ z l ty => selObjs ob m src (j + 1) r fun os => K (.buf true z l ty :: os)
    | _, o => renOP (fun i => posN i src 0) o fun o => selObjs ob m src (j + 1) r fun os => K (o :: os))
 dfsK (f : Nat -> Nat) : List (Fn × List V × List V) -> (List (Fn × List V × List V) -> Prop) -> Prop
  | [], K => K []
  | (g, a, b) :: r, K => mapK (renP f) a fun a => mapK (renP f) b fun b => dfsK f r fun r => K ((g, a, b) :: r)
theorem goneOf_mem {src : List Nat} : ∀ {l : List Nat} {i : Nat}, i ∈ l -> i ∉ St.selK.goneOf l src -> i ∈ src
 | j :: r, i, h, hn => by
   simp only [St.selK.goneOf] at hn
   cases hm : memN j src with
   | true =>
     rw [hm] at hn
     rcases List.mem_cons.1 h with rfl | h
     · exact memN_iff.1 hm
     · exact goneOf_mem h hn
   | false =>
     rw [hm] at hn
     simp only [List.mem_cons, not_or] at hn
     rcases List.mem_cons.1 h with rfl | h
     · exact absurd rfl hn.1
     · exact goneOf_mem h hn.2
theorem mem_upto : ∀ {n i k : Nat}, i <= k -> k < i + n -> k ∈ upto n i
 | 0, i, k, h, h' => by omega
 | n + 1, i, k, h, h' => by
   simp only [upto, List.mem_cons]
   by_cases e : k = i
   · exact .inl e
   · exact .inr (mem_upto (by omega) (by omega))
theorem selOk_iff {ob : List VObj} {src : List Nat} : ∀ {l : List Nat}, St.selK.selOk ob src l = true -> ∀ i ∈ l, i < ob.length /\ ∀ x, ob[i]? = some x -> ∀ o ∈ ptrsO x, o ∈ src
 | j :: r, h, i, hi => by
   simp only [St.selK.selOk, Bool.and_eq_true] at h
   rcases List.mem_cons.1 hi with rfl | hi
   · exact ⟨by simpa [Nat.blt_eq] using h.1.1, fun x hx o ho => allIn_iff h.1.2 o (by rw [hx]; simpa using ho)⟩
   · exact selOk_iff h.2 i hi
theorem preOk_iff {ob : List VObj} {m : Nat} : ∀ {l : List Nat} {j0 : Nat}, St.selK.preOk ob m j0 l = true -> ∀ (j i : Nat), l[j]? = some i -> j0 + j < m -> i = j0 + j \/ ∃ b z l ty, ob[i]? = some (.buf b z l ty)
 | k :: r, j0, h, j, i, hj, hm => by
   simp only [St.selK.preOk, Bool.and_eq_true, Bool.or_eq_true, Bool.not_eq_true'] at h
   cases j with
   | zero =>
     simp at hj; subst hj
     rcases h.1 with (h1 | h1) | h1
     · have : Nat.blt j0 m = true := by rw [Nat.blt_eq]; omega
       rw [this] at h1; cases h1
     · exact .inl (by have := Nat.eq_of_beq_eq_true h1; omega)
     · right
       split at h1
       · rename_i b z l ty e; exact ⟨b, z, l, ty, e⟩
       · cases h1
   | succ j =>
     rcases preOk_iff h.2 j i (by simpa using hj) (by omega) with h | h
     · exact .inl (by omega)
     · exact .inr h
theorem selObjs_iff {ob : List VObj} {m : Nat} {src : List Nat} : ∀ {l : List Nat} {j0 : Nat} {K : List VObj -> Prop}, St.selK.selObjs ob m src j0 l K -> ∃ sub, sub.length = l.length /\
 (∀ (j i : Nat), l[j]? = some i -> ∃ o, ob[i]? = some o /\ ((sub[j]? = some (renO (fun i => posN i src 0) o) /\ (i ≠ j0 + j -> j0 + j < m -> ∀ b z l ty, o ≠ .buf b z l ty)) \/ ∃ b z l ty, o = .buf b z l ty /\ sub[j]? = some (.buf true z l ty))) /\ K sub
 | [], _, K, h => ⟨[], rfl, by simp, h⟩
 | k :: r, j0, K, h => by
   obtain ⟨o, h0, h⟩ := getK_iff h
   have step : ∀ {o' : VObj}, (St.selK.selObjs ob m src (j0 + 1) r fun os => K (o' :: os)) -> ((o' = renO (fun i => posN i src 0) o /\ (k ≠ j0 -> j0 < m -> ∀ b z l ty, o ≠ .buf b z l ty)) \/ ∃ b z l ty, o = .buf b z l ty /\ o' = .buf true z l ty) -> ∃ sub, sub.length = (k :: r).length /\
    (∀ (j i : Nat), (k :: r)[j]? = some i -> ∃ o, ob[i]? = some o /\ ((sub[j]? = some (renO (fun i => posN i src 0) o) /\ (i ≠ j0 + j -> j0 + j < m -> ∀ b z l ty, o ≠ .buf b z l ty)) \/ ∃ b z l ty, o = .buf b z l ty /\ sub[j]? = some (.buf true z l ty))) /\ K sub := fun {o'} h hc => by
    obtain ⟨sub, g1, g2, g3⟩ := selObjs_iff h
    refine (⟨o' :: sub, by simp [g1], fun j i hj => ?_, g3⟩ : ∃ sub, sub.length = (k :: r).length /\
     (∀ (j i : Nat), (k :: r)[j]? = some i -> ∃ o, ob[i]? = some o /\ ((sub[j]? = some (renO (fun i => posN i src 0) o) /\ (i ≠ j0 + j -> j0 + j < m -> ∀ b z l ty, o ≠ .buf b z l ty)) \/ ∃ b z l ty, o = .buf b z l ty /\ sub[j]? = some (.buf true z l ty))) /\ K sub)
    cases j with
    | zero =>
      simp at hj; subst hj
      refine ⟨o, h0, ?_⟩
      rcases hc with ⟨h1, h2⟩ | ⟨b, z, l, ty, h1, h2⟩
      · exact .inl ⟨by simp [h1], h2⟩
      · exact .inr ⟨b, z, l, ty, h1, by simp [h2]⟩
    | succ j =>
      obtain ⟨o1, q1, q2⟩ := g2 j i (by simpa using hj)
      refine ⟨o1, q1, ?_⟩
      rcases q2 with ⟨q2, q3⟩ | ⟨b, z, l, ty, q2, q3⟩
      · exact .inl ⟨by simpa using q2, fun a b => q3 (by omega) (by omega)⟩
      · exact .inr ⟨b, z, l, ty, q2, by simpa using q3⟩
   split at h
   · exact step h (.inr ⟨_, _, _, _, rfl, rfl⟩)
   · rename_i hne
     refine step (renOP_iff h) (.inl ⟨rfl, fun h1 h2 b z l ty e => ?_⟩)
     subst e
     refine hne b z l ty ?_ rfl
     have e1 : Nat.beq k j0 = false := by cases hb : Nat.beq k j0 with
      | true => exact absurd (Nat.eq_of_beq_eq_true hb) h1
      | false => rfl
     have e2 : Nat.blt j0 m = true := by rw [Nat.blt_eq]; exact h2
     simp [e1, e2]
theorem dfsK_iff {f : Nat -> Nat} : ∀ {df : List (Fn × List V × List V)} {K : List (Fn × List V × List V) -> Prop}, St.selK.dfsK f df K -> K (df.map fun x => (x.1, renL f x.2.1, renL f x.2.2))
 | [], K, h => h
 | (g, a, b) :: r, K, h => dfsK_iff (df := r) (mapK_renP (mapK_renP h))
theorem drel_sel {g g' : G} {w : World} {n n' : Nat} {ms : List Nat} {f : Nat -> Nat} (hm : ∀ v x, VRel g.bs g.I w n v x -> (∀ o ∈ ptrs v, o ∉ ms) -> VRel g'.bs g'.I w n' (ren f v) x) {ds : List Deferred} {df : List (Fn × List V × List V)} (h : DRel g w n ds df) (hd : noneIn ms df = true) :
 DRel g' w n' ds (df.map fun x => (x.1, renL f x.2.1, renL f x.2.2)) := by
 induction h with
 | nil => exact .nil
 | @cons d x ds xs h1 _ ih =>
   obtain ⟨f0, p, q⟩ := x
   simp only [noneIn, Bool.and_eq_true, Bool.not_eq_true'] at hd
   obtain ⟨⟨d1, d2⟩, d3⟩ := hd
   obtain ⟨cap', e1, e2, e3, e4, e5⟩ := h1
   refine .cons ⟨cap', e1, by rw [renL_length]; exact e2, by rw [renL_length]; exact e3, fun k v y hv hy => ?_, fun k v y hv hy => ?_⟩ (ih d3)
   · rw [renL_get] at hv
     obtain ⟨u, hu, rfl⟩ := Option.map_eq_some_iff.1 hv
     exact hm u y (e4 k u y hu hy) fun o ho => anyIn_iff.1 d1 o (ptrsL_get hu ho)
   · rw [renL_get] at hv
     obtain ⟨u, hu, rfl⟩ := Option.map_eq_some_iff.1 hv
     exact hm u y (e5 k u y hu hy) fun o ho => anyIn_iff.1 d2 o (ptrsL_get hu ho)
theorem weak_sel {m : Nat} {src : List Nat} {s : St} {K : St -> Prop} (h : St.selK m src s K) : ∃ s', Weak m s s' /\ K s' := by
 obtain ⟨t, ob, nt, df⟩ := s
 simp only [St.selK] at h
 obtain ⟨hdf, h⟩ := forgetK_iff h
 generalize hgone : St.selK.goneOf (upto ob.length 0) src = gone at h hdf
 split at h
 case h_1 => exact h.elim
 rename_i hchk
 simp only [Bool.and_eq_true] at hchk
 obtain ⟨⟨⟨hnd, hml⟩, hok⟩, hpre⟩ := hchk
 have hnd := nodupN_iff hnd
 have hml := Nat.le_of_ble_eq_true hml
 have hok := selOk_iff hok
 have hpre := preOk_iff hpre
 obtain ⟨sub, hl, hsub, h⟩ := selObjs_iff (mapK_renP h)
 have h := dfsK_iff h
 refine ⟨_, fun c g w a hm hs => ?_, h⟩
 have hin : ∀ v x, VRel g.bs g.I w ob.length v x -> (∀ o ∈ ptrs v, o ∉ gone) -> ∀ o ∈ ptrs v, o < ob.length -> o ∈ src := fun v x hv hp o ho hlt => by
  refine goneOf_mem (l := upto ob.length 0) (mem_upto (by omega) (by omega)) ?_
  rw [hgone]; exact hp o ho
 have hw1 : WInv c g w (ob.map (forgetO gone)) nt := by
  have hget : ∀ (i : Nat) y, (ob.map (forgetO gone))[i]? = some y -> ∃ x, ob[i]? = some x /\ y = forgetO gone x /\ x.real = y.real /\ x.loose = y.loose /\ x.mv = y.mv := fun i y hy => by
   rw [List.getElem?_map] at hy
   obtain ⟨x, hx, rfl⟩ := Option.map_eq_some_iff.1 hy
   exact ⟨x, hx, rfl, by cases x <;> rfl, by cases x <;> rfl, by cases x <;> rfl⟩
  have hwi := hs.wi
  refine ⟨hwi.os, hwi.tape, hwi.output, hwi.size, hwi.keep, by simpa using hwi.len, ?_, ?_, ?_, ?_, ?_, hwi.i1, hwi.i2, hwi.i3, ?_, ?_, ?_, hwi.f2, hwi.i6⟩
  · intro i y hy
    obtain ⟨x, hx, rfl, _⟩ := hget i y hy
    rw [List.length_map]
    have := hwi.obj i x hx
    cases x with
    | cells wr T cs =>
      obtain ⟨arr, a1, a2, a3⟩ := this
      refine ⟨arr, a1, by simp [a2], fun k v c hv hc => ?_⟩
      rw [List.getElem?_map] at hv
      obtain ⟨u, hu, rfl⟩ := Option.map_eq_some_iff.1 hv
      refine ⟨?_, (a3 k u c hu hc).2⟩
      rcases forget_cases gone u with e | ⟨e, _⟩
      · rw [e]; exact ⟨.undef, trivial⟩
      · rw [e]; exact (a3 k u c hu hc).1
    | _ => exact this
  · intro i y hy hr
    obtain ⟨x, hx, rfl, e, _⟩ := hget i y hy
    exact hwi.lt i x hx (e ▸ hr)
  · intro i j y z hy hz hr hr'
    obtain ⟨x, hx, rfl, e, _⟩ := hget i y hy
    obtain ⟨x', hx', rfl, e', _⟩ := hget j z hz
    exact hwi.inj i j x x' hx hx' (e ▸ hr) (e' ▸ hr')
  · intro i y hi hy hmv
    obtain ⟨x, hx, rfl, _, _, e⟩ := hget i y hy
    exact hwi.old i x hi hx (e ▸ hmv)
  · intro i y hy hr
    obtain ⟨x, hx, rfl, e, _⟩ := hget i y hy
    exact hwi.new i x hx (e ▸ hr)
  · intro i T cs k hy
    obtain ⟨x, hx, e, _⟩ := hget i _ hy
    cases x with
    | cells wr U ds => simp [forgetO] at e; obtain ⟨rfl, _, _⟩ := e; exact hwi.i4 i _ _ k hx
    | _ => simp [forgetO] at e
  · intro i y k hy hlo
    obtain ⟨x, hx, rfl, _, e, _⟩ := hget i y hy
    exact hwi.i5 i x k hx (e ▸ hlo)
  · intro i hi hn
    obtain ⟨f1, f2, f3, f4⟩ := hwi.f1 i hi hn
    refine ⟨f1, f2, f3, fun j y hy hr => ?_⟩
    obtain ⟨x, hx, rfl, e, _⟩ := hget j y hy
    exact f4 j x hx (e ▸ hr)
 rw [List.length_map] at hok
 have hsel := WInv.sel hw1 hnd (sub := sub) (f := fun i => posN i src 0) (posN_inv hnd) hl (fun i hi x hx => (hok i hi).2 x hx)
  (fun j i hj => by
    obtain ⟨o, h1, h2⟩ := hsub j i hj
    refine ⟨o, h1, ?_⟩
    rcases h2 with ⟨h2, _⟩ | ⟨b, z, l, ty, h2, h3⟩
    · exact .inl h2
    · exact .inr ⟨b, z, l, ty, h2, h3⟩)
  (fun j hj => by
    have hlt : j < src.length := by omega
    have hj' : src[j]? = some src[j] := List.getElem?_eq_getElem hlt
    by_cases e : src[j] = j
    · left; rw [hj', e]
    · right
      rcases hpre j _ hj' (by omega) with h | ⟨b, z, l, ty, h⟩
      · exact absurd (by omega) e
      · obtain ⟨o, h1, h2⟩ := hsub j _ hj'
        rw [h] at h1; cases h1
        rcases h2 with ⟨_, h2⟩ | ⟨b', z', l', ty', h2, h3⟩
        · exact absurd rfl (h2 (by omega) (by omega) b z l ty)
        · exact ⟨z', l', ty', h3⟩) (by omega)
 have hvt : ∀ v x, VT g w ob.length nt v x -> (∀ o ∈ ptrs v, o ∉ gone) -> VT (inG g src) w sub.length nt (ren (fun i => posN i src 0) v) x := fun v x hv hp => by
  refine ⟨hv.rel.ren fun o ho hlt => ?_, ?_⟩
  · obtain ⟨j, hj⟩ := List.mem_iff_getElem?.1 (hin v x hv.rel hp o ho hlt)
    simp only [posN_inv hnd j o hj, hl]
    exact ⟨(List.getElem?_eq_some_iff.1 hj).1, by simp [inG, hj]⟩
  · have := hv.tok
    cases v <;> first | exact this | (simp only [ren, Tok])
 refine ⟨inG g src, hsel, ⟨by rw [renL_length]; simp [hs.ti.size], fun k v x hv hx => ?_, hs.ti.gl⟩, ?_⟩
 · rw [renL_get, List.getElem?_map] at hv
   obtain ⟨u, hu, rfl⟩ := Option.map_eq_some_iff.1 hv
   obtain ⟨u', hu', rfl⟩ := Option.map_eq_some_iff.1 hu
   rcases forget_cases gone u' with e | ⟨e, hp⟩
   · rw [e]; exact ⟨.undef, trivial⟩
   · rw [e]; exact hvt u' x (hs.ti.rel k u' x hu' hx) hp
 · exact drel_sel (g := g) (g' := inG g src) (n := ob.length) (n' := sub.length) (fun v x hv hp => hv.ren fun o ho hlt => by
    obtain ⟨j, hj⟩ := List.mem_iff_getElem?.1 (hin v x hv hp o ho hlt)
    have e : posN o src 0 = j := posN_inv hnd j o hj
    refine ⟨by show posN o src 0 < sub.length; rw [e, hl]; exact (List.getElem?_eq_some_iff.1 hj).1, ?_⟩
    show (inG g src).bs (posN o src 0) = g.bs o
    rw [e]; simp [inG, hj]) hs.di hdf
theorem Weak.trans {m : Nat} {s s' s'' : St} (h : Weak m s s') (k : Weak m s' s'') : Weak m s s'' := fun c g w a hm hs => by
 obtain ⟨g', hs'⟩ := h c g w a hm hs
 exact k c g' w a hm hs'
theorem Weak.refl {m : Nat} {s : St} : Weak m s s := fun c g w a hm hs => ⟨g, hs⟩
end VL

namespace VL
open Go
theorem VCall.args {P : Program} {f : FuncId} {args args' : List V} {ob : List VObj} {K : Out -> List VObj -> Prop} (hw : VWs args args') (hl : (V.lowL ob.length args' && ltToks 0 args') = true) (h : VCall P f args' ob K) : VCall P f args ob K := by
 simp only [Bool.and_eq_true] at hl
 refine .shut fun w g cargs hwi hsz hr hgl => h.open w g cargs hwi (by rw [← hw.length]; exact hsz) (fun k v x hv hx => ?_) hgl
 obtain ⟨u, hu, hvw⟩ := hw.get hv
 exact hvw.vt (hr k u x hu hx) (lowL_get hl.1 hv) (ltToks_get hl.2 hv)
def Out.val : Out -> V
 | .ret v => v
 | .pan v => v
def Out.with : Out -> V -> Out
 | .ret _, v => .ret v
 | .pan _, v => .pan v
theorem VCall.weak {P : Program} {f : FuncId} {args : List V} {ob : List VObj} {K : Out -> List VObj -> Prop}
 (h : VCall P f args ob fun out sub => match out with
   | .ret v => ∃ v' sub', Weak ob.length ⟨[v], sub, 0, []⟩ ⟨[v'], sub', 0, []⟩ /\ K (.ret v') sub'
   | .pan v => K (.pan v) sub) : VCall P f args ob K := by
 refine .shut fun w g cargs hwi hsz hr hgl => (h.open w g cargs hwi hsz hr hgl).mono fun e w' ⟨out, sub, g', hk, hwi', he⟩ => ?_
 cases out with
 | pan v => exact ⟨_, _, _, hk, hwi', he⟩
 | ret v =>
   obtain ⟨x, rfl⟩ : ∃ x, e = .returned x := by
    cases e with
    | returned x => exact ⟨x, rfl⟩
    | _ => exact he.elim
   obtain ⟨v', sub', hw, hk⟩ := hk
   have hs : Sim ⟨w, ob.length, g.bs, g.I, Owns g ob⟩ g' w' ⟨#[x], []⟩ ⟨[v], sub, 0, []⟩ := ⟨hwi', ⟨rfl, fun k u y hu hy => by
    cases k with
    | zero => simp at hu hy; subst hu; subst hy; exact he
    | succ k => simp at hu, hgl.out hwi' rfl⟩, .nil⟩
   obtain ⟨g2, hs2⟩ := hw _ _ _ _ (Nat.le_refl _) hs
   exact ⟨_, _, _, hk, hs2.wi, hs2.ti.rel 0 _ _ rfl rfl⟩
mutual
def frzP (i z : Nat) (L : List V) (sp : Bool) : V -> (V -> Prop) -> Prop
 | .slo o z' lo n c, K => match Nat.beq o i with
   | false => K (.slo o z' lo n c)
   | true => (match Nat.beq z' z with
     | true => lo + c <= L.length /\ (match sp with
       | true => 0 < c /\ K (.spare ((L.drop lo).take n) ((L.drop (lo + n)).take (c - n)))
       | false => K (.sl ((L.drop lo).take n) .no))
     | false => K .undef)
 | .agg l, K => frzPL i z L sp l fun l => K (.agg l)
 | .tup l, K => frzPL i z L sp l fun l => K (.tup l)
 | v, K => (V.forget [i] v).force K
def frzPL (i z : Nat) (L : List V) (sp : Bool) : List V -> (List V -> Prop) -> Prop
 | [], K => K []
 | v :: r, K => frzP i z L sp v fun v => frzPL i z L sp r fun r => K (v :: r)
end
def frzO (i z : Nat) (L : List V) (sp : Bool) : VObj -> (VObj -> Prop) -> Prop
 | .cells wr T cs, K => frzPL i z L sp cs fun cs => K (.cells wr T cs)
 | o, K => K o
def St.frzK (i : Nat) (sp : Bool) : St -> (St -> Prop) -> Prop
 | ⟨t, ob, nt, df⟩, K => getK ob i fun o => match o with
   | .buf _ z L _ => (match noneIn [i] df with
     | true => frzPL i z L sp t fun t => mapK (frzO i z L sp) ob fun ob => setK ob i (.buf true z []) fun ob => K ⟨t, ob, nt, df⟩
     | false => False)
   | _ => False
section
variable {c : Ctx} {g : G} {w : World} {ob : List VObj} {nt : Nat}
structure Row (g : G) (w : World) (i z : Nat) (L : List V) : Prop where
 row : L = [] \/ ∃ (arr : Array Value) (T : TypeId), w.heap[g.bs i]? = some (.cells arr T (0, 0)) /\ arr.size = L.length * z /\ (∀ x ∈ L, x.cells.length = z /\ x.cells.all V.okCell = true) /\
  (∀ (k : Nat) v c, (L.flatMap V.cells)[k]? = some v -> arr[k]? = some c -> VRel g.bs g.I w 0 v c) /\ ∀ k, k < L.length * z -> g.I (g.bs i) k
theorem frz_sl {n i z lo m c : Nat} {L : List V} {sp : Bool} {x : Value} (hr : Row g w i z L) (h : VRel g.bs g.I w n (.slo i z lo m c) x) (hb : lo + c <= L.length) :
 (0 < c -> VRel g.bs g.I w n (.spare ((L.drop lo).take m) ((L.drop (lo + m)).take (c - m))) x) /\ VRel g.bs g.I w n (.sl ((L.drop lo).take m) .no) x := by
 cases h with | @slo _ _ _ _ _ _ ad hlt hle ha hf =>
 have hml : ((L.drop lo).take m).length = m := by simp; omega
 have hsl : ((L.drop (lo + m)).take (c - m)).length = c - m := by simp; omega
 have happ : (L.drop lo).take m ++ (L.drop (lo + m)).take (c - m) = (L.drop lo).take c := by
  rw [show L.drop (lo + m) = (L.drop lo).drop m by rw [List.drop_drop]]
  rw [show c = m + (c - m) by omega, List.take_add]
  simp
 rcases Nat.eq_zero_or_pos c with hc | hc
 · subst hc
   have hm0 : m = 0 := by omega
   subst hm0
   refine ⟨fun h => absurd h (by omega), ?_⟩
   rw [List.take_zero]
   rcases hf with rfl | ⟨b, k, rfl⟩
   · exact .slnil
   · exact .sl (sz := 0) (fun _ => undef) rfl (Nat.le_refl _) (by simp) (by simp) (by simp) (by simp)
 · obtain rfl := ha.resolve_left (by omega)
   have hne : L ≠ [] := fun e => by rw [e, List.length_nil] at hb; omega
   obtain ⟨arr, T, a1, a2, a3, a4, a5⟩ := hr.row.resolve_left hne
   have hz : ∀ y ∈ L, y.cells.length = z := fun y hy => (a3 y hy).1
   have hfl := flat_length hz
   have key : ∀ {q : Nat}, q <= c -> ∀ (k : Nat) v, (((L.drop lo).take q).flatMap V.cells)[k]? = some v ->
    (w.cell? ⟨g.bs i, lo * z + k, none⟩ = some (arr.getD (lo * z + k) undef) /\ g.I (g.bs i) (lo * z + k)) /\ VRel g.bs g.I w 0 v (arr.getD (lo * z + k) undef) := fun {q} hq k v hk => by
    have hqz := flat_length (l := (L.drop lo).take q) (z := z) fun y hy => hz y (List.mem_of_mem_drop (List.mem_of_mem_take hy))
    have hlt' : k < q * z := by
     have := (List.getElem?_eq_some_iff.1 hk).1
     rw [hqz, List.length_take, List.length_drop, Nat.min_eq_left (by omega)] at this
     exact this
    have hmul : lo * z + q * z <= arr.size := by rw [a2, ← Nat.add_mul]; exact Nat.mul_le_mul_right z (by omega)
    have hja : lo * z + k < arr.size := by omega
    rw [flat_take (sz := z) (fun y hy => a3 y (List.mem_of_mem_drop hy)), flat_drop a3, List.getElem?_take, if_pos hlt', List.getElem?_drop] at hk
    have hg : arr.getD (lo * z + k) undef = arr[lo * z + k] := by simp [Array.getD, hja]
    refine ⟨⟨by simp [World.cell?, a1, Array.getD, hja], a5 _ (by omega)⟩, ?_⟩
    rw [hg]
    exact a4 _ v _ hk (by simp [hja])
   refine ⟨fun _ => ?_, ?_⟩
   · refine .spare (sz := z) (fun k => arr.getD (lo * z + k) undef) hml.symm (by rw [hml, hsl]; omega) (fun y hy => ?_) (fun k v hk => ?_) (fun k v hk => ?_)
     · rw [happ] at hy; exact a3 y (List.mem_of_mem_drop (List.mem_of_mem_take hy))
     · rw [happ] at hk; exact (key (Nat.le_refl c) k v hk).1
     · rw [happ] at hk; exact (key (Nat.le_refl c) k v hk).2
   · exact .sl (sz := z) (fun k => arr.getD (lo * z + k) undef) hml.symm hle (by simp) (fun y hy => a3 y (List.mem_of_mem_drop (List.mem_of_mem_take hy)))
      (fun k v hk => (key hle k v hk).1) (fun k v hk => (key hle k v hk).2)
theorem forget_rel {n : Nat} {ms : List Nat} {v : V} {x : Value} (h : VRel g.bs g.I w n v x) : VRel g.bs g.I w n (V.forget ms v) x := by
 rcases forget_cases ms v with e | ⟨e, _⟩ <;> rw [e]
 · exact .undef
 · exact h
theorem frz_other {i z : Nat} {L : List V} {sp : Bool} {v : V} {K : V -> Prop} (he : ∀ K, frzP i z L sp v K = (V.forget [i] v).force K) (h : frzP i z L sp v K) : ∃ v', (∀ g w n, Row g w i z L -> ∀ x, VRel g.bs g.I w n v x -> VRel g.bs g.I w n v' x) /\ (v'.noTok = true \/ v' = v) /\ K v' := by
 rw [he, force_eq] at h
 refine ⟨_, fun g w n _ x hx => forget_rel hx, ?_, h⟩
 rcases forget_cases [i] v with e | ⟨e, _⟩ <;> rw [e]
 · exact .inl rfl
 · exact .inr rfl
mutual
theorem frzP_sound {i z : Nat} {L : List V} {sp : Bool} : ∀ (v : V) {K : V -> Prop}, frzP i z L sp v K -> ∃ v', (∀ g w n, Row g w i z L -> ∀ x, VRel g.bs g.I w n v x -> VRel g.bs g.I w n v' x) /\ (v'.noTok = true \/ v' = v) /\ K v'
 | .slo o z' lo m c, K, h => by
   unfold frzP at h
   split at h
   · exact ⟨_, fun _ _ _ _ _ h => h, .inr rfl, h⟩
   · rename_i ho
     have ho := Nat.eq_of_beq_eq_true ho
     subst ho
     split at h
     · rename_i hz
       have hz := Nat.eq_of_beq_eq_true hz
       subst hz
       obtain ⟨hb, h⟩ := h
       split at h
       · exact ⟨_, fun g w n hr x hx => (frz_sl (sp := true) hr hx hb).1 h.1, .inl rfl, h.2⟩
       · exact ⟨_, fun g w n hr x hx => (frz_sl (sp := true) hr hx hb).2, .inl rfl, h⟩
     · exact ⟨_, fun _ _ _ _ _ _ => .undef, .inl rfl, h⟩
 | .agg l, K, h => by
   unfold frzP at h
   obtain ⟨l', h1, h2, h3⟩ := frzPL_sound l h
   refine ⟨_, fun g w n hr x hx => ?_, .inl rfl, h3⟩
   cases hx with | agg hl hh =>
   refine .agg (by rw [h1]; exact hl) fun k v y hv hy => ?_
   obtain ⟨u, hu, q, _⟩ := h2 k v hv
   exact q g w n hr y (hh k u y hu hy)
 | .tup l, K, h => by
   unfold frzP at h
   obtain ⟨l', h1, h2, h3⟩ := frzPL_sound l h
   refine ⟨_, fun g w n hr x hx => ?_, .inl rfl, h3⟩
   cases hx with | tup hl hh =>
   refine .tup (by rw [h1]; exact hl) fun k v y hv hy => ?_
   obtain ⟨u, hu, q, _⟩ := h2 k v hv
   exact q g w n hr y (hh k u y hu hy)
 | .undef, K, h => frz_other (fun K => by unfold frzP; rfl) h
 | .int _ _, K, h => frz_other (fun K => by unfold frzP; rfl) h
 | .bool _, K, h => frz_other (fun K => by unfold frzP; rfl) h
 | .str _, K, h => frz_other (fun K => by unfold frzP; rfl) h
 | .ptr _ _, K, h => frz_other (fun K => by unfold frzP; rfl) h
 | .nilp, K, h => frz_other (fun K => by unfold frzP; rfl) h
 | .dp _, K, h => frz_other (fun K => by unfold frzP; rfl) h
 | .sl _ _, K, h => frz_other (fun K => by unfold frzP; rfl) h
 | .slp _, K, h => frz_other (fun K => by unfold frzP; rfl) h
 | .spare _ _, K, h => frz_other (fun K => by unfold frzP; rfl) h
 | .fn _ _ _, K, h => frz_other (fun K => by unfold frzP; rfl) h
 | .niln, K, h => frz_other (fun K => by unfold frzP; rfl) h
 | .ifc _ _, K, h => frz_other (fun K => by unfold frzP; rfl) h
 | .nili, K, h => frz_other (fun K => by unfold frzP; rfl) h
 | .mp _, K, h => frz_other (fun K => by unfold frzP; rfl) h
 | .nilm, K, h => frz_other (fun K => by unfold frzP; rfl) h
 | .bp _ _ _ _, K, h => frz_other (fun K => by unfold frzP; rfl) h
theorem frzPL_sound {i z : Nat} {L : List V} {sp : Bool} : ∀ (l : List V) {K : List V -> Prop}, frzPL i z L sp l K -> ∃ l', l'.length = l.length /\ (∀ (k : Nat) v', l'[k]? = some v' -> ∃ v, l[k]? = some v /\ (∀ g w n, Row g w i z L -> ∀ x, VRel g.bs g.I w n v x -> VRel g.bs g.I w n v' x) /\ (v'.noTok = true \/ v' = v)) /\ K l'
 | [], K, h => ⟨[], rfl, by simp, by unfold frzPL at h; exact h⟩
 | v :: r, K, h => by
   unfold frzPL at h
   obtain ⟨v', a1, a2, h⟩ := frzP_sound v h
   obtain ⟨r', b1, b2, h⟩ := frzPL_sound r h
   refine ⟨v' :: r', by simp [b1], fun k u hu => ?_, h⟩
   cases k with
   | zero => simp at hu; subst hu; exact ⟨v, rfl, a1, a2⟩
   | succ k => exact b2 k u (by simpa using hu)
end
def OTo (P : G -> World -> Prop) (o o' : VObj) : Prop :=
 (∀ g w n nt b, P g w -> ORel g w n nt b o -> ORel g w n nt b o') /\ o'.real = o.real /\ o'.loose = o.loose /\ o'.mv = o.mv /\ ∀ wr T cs, o' = .cells wr T cs -> ∃ cs', o = .cells wr T cs'
theorem frzO_sound {i z : Nat} {L : List V} {sp : Bool} {o : VObj} {K : VObj -> Prop} (h : frzO i z L sp o K) : ∃ o', OTo (fun g w => Row g w i z L) o o' /\ K o' := by
 cases o with
 | cells wr T cs =>
   obtain ⟨cs', h1, h2, h3⟩ := frzPL_sound cs h
   refine ⟨.cells wr T cs', ⟨fun g w n nt b hr ⟨arr, a1, a2, a3⟩ => ⟨arr, a1, by rw [h1]; exact a2, fun k v c hv hc => ?_⟩, rfl, rfl, rfl, fun wr' T' cs'' e => by cases e; exact ⟨_, rfl⟩⟩, h3⟩
   obtain ⟨u, hu, q1, q2⟩ := h2 k v hv
   have := a3 k u c hu hc
   refine ⟨⟨q1 _ _ _ hr _ this.1.rel, ?_⟩, this.2⟩
   rcases q2 with q2 | rfl
   · exact .of_no q2
   · exact this.1.tok
 | none => exact ⟨_, ⟨fun _ _ _ _ _ _ h => h, rfl, rfl, rfl, fun a b c e => by cases e⟩, h⟩
 | map es => exact ⟨_, ⟨fun _ _ _ _ _ _ h => h, rfl, rfl, rfl, fun a b c e => by cases e⟩, h⟩
 | buf m z l => exact ⟨_, ⟨fun _ _ _ _ _ _ h => h, rfl, rfl, rfl, fun a b c e => by cases e⟩, h⟩
theorem frzOs_sound {i z : Nat} {L : List V} {sp : Bool} : ∀ {ob : List VObj} {K : List VObj -> Prop}, mapK (frzO i z L sp) ob K -> ∃ ob', ob'.length = ob.length /\ (∀ (k : Nat) o', ob'[k]? = some o' -> ∃ o, ob[k]? = some o /\ OTo (fun g w => Row g w i z L) o o') /\ K ob'
 | [], K, h => ⟨[], rfl, by simp, h⟩
 | o :: r, K, h => by
   obtain ⟨o', a1, h⟩ := frzO_sound h
   obtain ⟨r', b1, b2, h⟩ := frzOs_sound h
   refine ⟨o' :: r', by simp [b1], fun k u hu => ?_, h⟩
   cases k with
   | zero => simp at hu; subst hu; exact ⟨o, rfl, a1⟩
   | succ k => exact b2 k u (by simpa using hu)
theorem WInv.cellsV {P : G -> World -> Prop} {ob' : List VObj} (h : WInv c g w ob nt) (hp : P g w) (hl : ob'.length = ob.length) (ho : ∀ (k : Nat) o', ob'[k]? = some o' -> ∃ o, ob[k]? = some o /\ OTo P o o') : WInv c g w ob' nt := by
 refine ⟨h.os, h.tape, h.output, h.size, h.keep, by rw [hl]; exact h.len, ?_, ?_, ?_, ?_, ?_, h.i1, h.i2, h.i3, ?_, ?_, ?_, h.f2, h.i6⟩
 · intro i y hy
   obtain ⟨x, hx, q, _⟩ := ho i y hy
   rw [hl]; exact q _ _ _ _ _ hp (h.obj i x hx)
 · intro i y hy hr
   obtain ⟨x, hx, _, e, _⟩ := ho i y hy
   exact h.lt i x hx (e ▸ hr)
 · intro i j y z hy hz hr hr'
   obtain ⟨x, hx, _, e, _⟩ := ho i y hy
   obtain ⟨x', hx', _, e', _⟩ := ho j z hz
   exact h.inj i j x x' hx hx' (e ▸ hr) (e' ▸ hr')
 · intro i y hi hy hm
   obtain ⟨x, hx, _, _, _, e, _⟩ := ho i y hy
   exact h.old i x hi hx (e ▸ hm)
 · intro i y hy hr
   obtain ⟨x, hx, _, e, _⟩ := ho i y hy
   exact h.new i x hx (e ▸ hr)
 · intro i T cs k hy
   obtain ⟨x, hx, _, _, _, _, e⟩ := ho i _ hy
   obtain ⟨cs', rfl⟩ := e _ _ _ rfl
   exact h.i4 i _ _ k hx
 · intro i y k hy hlo
   obtain ⟨x, hx, _, _, e, _⟩ := ho i y hy
   exact h.i5 i x k hx (e ▸ hlo)
 · intro i hi hn
   obtain ⟨f1, f2, f3, f4⟩ := h.f1 i hi hn
   refine ⟨f1, f2, f3, fun o y hy hny => ?_⟩
   obtain ⟨x, hx, _, e, _⟩ := ho o y hy
   exact f4 o x hx (e ▸ hny)
theorem weak_frz (i : Nat) (sp : Bool) {m : Nat} {s : St} {K : St -> Prop} (h : St.frzK i sp s K) : ∃ s', Weak m s s' /\ K s' := by
 obtain ⟨t, ob, nt, df⟩ := s
 unfold St.frzK at h
 obtain ⟨x, hx, h⟩ := getK_iff h
 cases x <;> try exact h.elim
 rename_i mv z L ty
 simp only at h
 split at h
 case h_2 => exact h.elim
 rename_i hdf
 obtain ⟨t', t1, t2, h⟩ := frzPL_sound t h
 obtain ⟨ob', o1, o2, h⟩ := frzOs_sound h
 obtain ⟨_, h⟩ := setK_iff h
 refine ⟨_, fun c g w a hm hs => ?_, h⟩
 have hwi := hs.wi
 have hone : ∀ (g' : G), (∀ b k, g.I b k -> g'.I b k) -> Row g' w i z L -> WInv c g' w (ob.set i (.buf true z [])) nt -> (∀ v x, VT g w ob.length nt v x -> VT g' w ob.length nt v x) -> (∀ v x, VRel g.bs g.I w ob.length v x -> VRel g'.bs g'.I w ob.length v x) ->
  ∃ g', Sim c g' w a ⟨t', ob'.set i (.buf true z []), nt, df⟩ := fun g' hII hrow hw hvt hvr => by
  have hw2 := hw.cellsV (P := fun g w => Row g w i z L) (ob' := ob'.set i (.buf true z [])) hrow (by simp [o1]) fun k o' hk => by
   rcases set_get hk with ⟨rfl, rfl⟩ | ⟨hne, hk⟩
   · exact ⟨_, by rw [List.getElem?_set_self (by have := (List.getElem?_eq_some_iff.1 hx).1; exact this)], ⟨fun _ _ _ _ _ _ h => h, rfl, rfl, rfl, fun a b c e => by cases e⟩⟩
   · obtain ⟨o, h1, h2⟩ := o2 k o' hk
     exact ⟨o, by rw [List.getElem?_set_ne hne]; exact h1, h2⟩
  refine ⟨g', hw2, ⟨by rw [t1]; exact hs.ti.size, fun k v x hv hx => ?_, ⟨fun b l hb k v hk => ⟨(hs.ti.gl.1 b l hb k v hk).1, hII _ _ (hs.ti.gl.1 b l hb k v hk).2⟩, fun b hb => (hs.ti.gl.2 b hb).imp fun m h => ⟨h.1, hII _ _ h.2⟩⟩⟩, ?_⟩
  · obtain ⟨u, hu, q1, q2⟩ := t2 k v hv
    have h1 := hvt _ _ (hs.ti.rel k u x hu hx)
    have hl : (ob'.set i (.buf true z [])).length = ob.length := by simp [o1]
    show VT g' w (ob'.set i (.buf true z [])).length nt v x
    rw [hl]
    refine ⟨q1 _ _ _ hrow _ h1.rel, ?_⟩
    rcases q2 with q2 | rfl
    · exact .of_no q2
    · exact h1.tok
  · show DRel g' w (ob'.set i (.buf true z [])).length _ _
    rw [show (ob'.set i (.buf true z [])).length = ob.length by simp [o1]]
    exact hs.di.forget (fun v x hv _ => hvr v x hv) hdf
 by_cases hL : L = []
 · subst hL
   refine hone g (fun _ _ h => h) ⟨.inl rfl⟩ ?_ (fun _ _ h => h) (fun _ _ h => h)
   refine ⟨hwi.os, hwi.tape, hwi.output, hwi.size, hwi.keep, by simp [hwi.len], ?_, ?_, ?_, ?_, ?_, hwi.i1, hwi.i2, hwi.i3, ?_, ?_, ?_, hwi.f2, hwi.i6⟩
   · intro j y hy
     rw [List.length_set]
     rcases set_get hy with ⟨rfl, rfl⟩ | ⟨hne, hy⟩
     · exact .inl rfl
     · exact hwi.obj j y hy
   · intro j y hy hr
     rcases set_get hy with ⟨rfl, rfl⟩ | ⟨hne, hy⟩
     · cases hr
     · exact hwi.lt j y hy hr
   · intro j k y u hy hu hr hr'
     rcases set_get hy with ⟨rfl, rfl⟩ | ⟨hne, hy⟩
     · cases hr
     · rcases set_get hu with ⟨rfl, rfl⟩ | ⟨hne, hu⟩
       · cases hr'
       · exact hwi.inj j k y u hy hu hr hr'
   · intro j y hj hy hmv
     rcases set_get hy with ⟨rfl, rfl⟩ | ⟨hne, hy⟩
     · cases hmv
     · exact hwi.old j y hj hy hmv
   · intro j y hy hr
     rcases set_get hy with ⟨rfl, rfl⟩ | ⟨hne, hy⟩
     · cases hr
     · exact hwi.new j y hy hr
   · intro j T cs k hy
     rcases set_get hy with ⟨_, e⟩ | ⟨hne, hy⟩
     · cases e
     · exact hwi.i4 j T cs k hy
   · intro j y k hy hl
     rcases set_get hy with ⟨rfl, rfl⟩ | ⟨hne, hy⟩
     · cases hl
     · exact hwi.i5 j y k hy hl
   · intro j hj hn
     obtain ⟨f1, f2, f3, f4⟩ := hwi.f1 j hj hn
     refine ⟨f1, f2, f3, fun o y hy hr => ?_⟩
     rcases set_get hy with ⟨rfl, rfl⟩ | ⟨hne, hy⟩
     · cases hr
     · exact f4 o y hy hr
 · obtain ⟨arr, T, a1, _, a2, a3, a4⟩ := (hwi.obj i _ hx).resolve_left hL
   have he := Ext.freeze hwi (g.bs i) (L.length * z)
   refine hone (g.data (g.bs i) (L.length * z)) (fun b k h => (he.hI b k h).1) ⟨.inr ⟨arr, T, a1, a2, a3, fun k v c hv hc => he.rel0 (a4 k v c hv hc).1, fun k hk => .inr ⟨rfl, hk⟩⟩⟩
    (WInv.freeze hwi hx (by simp [VObj.real, hL]) _ (.inl rfl) (fun h => by cases h) (fun T cs e => by cases e) rfl) (fun v x h => he.vt h) (fun v x h => he.reln h)
end
end VL

namespace VL
open Go
mutual
def V.bare : V -> Bool
 | .int _ _ | .bool _ | .str _ | .nilp | .nili | .niln | .nilm | .undef => true
 | .agg l => V.bareL l
 | .tup l => V.bareL l
 | _ => false
def V.bareL : List V -> Bool
 | [] => true
 | v :: r => v.bare && V.bareL r
end
theorem bareL_get : ∀ {l : List V}, V.bareL l = true -> ∀ {k : Nat} {v : V}, l[k]? = some v -> v.bare = true
 | [], _, k, v, h => by simp at h
 | x :: r, h, k, v, hk => by
   simp only [V.bareL, Bool.and_eq_true] at h
   cases k with
   | zero => simp at hk; exact hk ▸ h.1
   | succ k => exact bareL_get h.2 (by simpa using hk)
theorem VRel.bare {bs bs' : Nat -> Nat} {I I' : Nat -> Nat -> Prop} {w w' : World} {n n' : Nat} {v : V} {c : Value} (h : VRel bs I w n v c) (hb : v.bare = true) : VRel bs' I' w' n' v c := by
 induction h with
 | undef => exact .undef
 | int => exact .int
 | bool => exact .bool
 | str => exact .str
 | nilp => exact .nilp
 | niln => exact .niln
 | nili => exact .nili
 | nilm => exact .nilm
 | agg hl _ ih => exact .agg hl fun k v c h1 h2 => ih k v c h1 h2 (bareL_get hb h1)
 | tup hl _ ih => exact .tup hl fun k v c h1 h2 => ih k v c h1 h2 (bareL_get hb h1)
 | _ => simp [V.bare] at hb
end VL

namespace VL
open Go
theorem nil_slo {bs : Nat -> Nat} {I : Nat -> Nat -> Prop} {w : World} {n n' o z : Nat} {x : Value} (h : VRel bs I w n (.sl [] .ex) x) (ho : o < n') : VRel bs I w n' (.slo o z 0 0 0) x := by
 cases h with
 | slnil => exact .slo ho (Nat.le_refl _) (.inl rfl) (.inl rfl)
 | sl u hl hcap hr hz hc hu =>
   have h0 : _ = 0 := hl
   have h1 := hr rfl
   subst h0; subst h1
   exact .slo ho (Nat.le_refl _) (.inl rfl) (.inr ⟨_, _, rfl⟩)
theorem WInv.swap {c : Ctx} {g : G} {w : World} {ob ob' : List VObj} {nt : Nat} (h : WInv c g w ob nt) (hl : c.n0 <= ob'.length)
 (hob : ∀ (i : Nat) y, ob'[i]? = some y -> y.real = false /\ y.loose = false /\ (i < c.n0 -> y.mv = true) \/ ∃ x, ob[i]? = some x /\ y.real = x.real /\ y.mv = x.mv /\ y.loose = x.loose /\ ∀ T cs, y = .cells true T cs -> ∃ cs', x = .cells true T cs')
 (hor : ∀ (i : Nat) y, ob'[i]? = some y -> ORel g w ob'.length nt (g.bs i) y) : WInv c g w ob' nt := by
 refine ⟨h.os, h.tape, h.output, h.size, h.keep, hl, hor, ?_, ?_, ?_, ?_, h.i1, h.i2, h.i3, ?_, ?_, ?_, h.f2, h.i6⟩
 · intro i y hy hr
   rcases hob i y hy with ⟨e, _⟩ | ⟨x, hx, e, _⟩
   · rw [hr] at e; cases e
   · exact h.lt i x hx (e ▸ hr)
 · intro i j y z hy hz hr hr'
   rcases hob i y hy with ⟨e, _⟩ | ⟨x, hx, e, _⟩
   · rw [hr] at e; cases e
   rcases hob j z hz with ⟨e', _⟩ | ⟨x', hx', e', _⟩
   · rw [hr'] at e'; cases e'
   exact h.inj i j x x' hx hx' (e ▸ hr) (e' ▸ hr')
 · intro i y hi hy hm
   rcases hob i y hy with ⟨_, _, e⟩ | ⟨x, hx, _, e, _⟩
   · rw [e hi] at hm; cases hm
   · exact h.old i x hi hx (e ▸ hm)
 · intro i y hy hr
   rcases hob i y hy with ⟨e, _⟩ | ⟨x, hx, e, _⟩
   · rw [hr] at e; cases e
   · exact h.new i x hx (e ▸ hr)
 · intro i T cs k hy
   rcases hob i _ hy with ⟨e, _⟩ | ⟨x, hx, _, _, _, e⟩
   · cases e
   · obtain ⟨cs', rfl⟩ := e T cs rfl
     exact h.i4 i T cs' k hx
 · intro i y k hy hlo
   rcases hob i y hy with ⟨_, e, _⟩ | ⟨x, hx, _, _, e, _⟩
   · rw [hlo] at e; cases e
   · exact h.i5 i x k hx (e ▸ hlo)
 · intro i hi hn
   obtain ⟨f1, f2, f3, f4⟩ := h.f1 i hi hn
   refine ⟨f1, f2, f3, fun o y hy hr => ?_⟩
   rcases hob o y hy with ⟨e, _⟩ | ⟨x, hx, e, _⟩
   · rw [hr] at e; cases e
   · exact f4 o x hx (e ▸ hr)
theorem weak_nil (o k z : Nat) (ty : Option TypeId := none) {m : Nat} {t : List V} {ob : List VObj} {nt : Nat} {df : List (Fn × List V × List V)} {wr : Bool} {T : TypeId} {cs : List V} (ho : ob[o]? = some (.cells wr T cs)) (hk : cs[k]? = some (.sl [] .ex)) (hm : m <= ob.length) :
 Weak m ⟨t, ob, nt, df⟩ ⟨t, ob.set o (.cells wr T (cs.set k (.slo ob.length z 0 0 0))) ++ [.buf false z [] ty], nt, df⟩ := by
 intro c g w a hc hs
 have hol := (List.getElem?_eq_some_iff.1 ho).1
 have he : Ext g w ob.length nt g w (ob.length + 1) nt := ⟨by omega, Nat.le_refl _, fun _ _ => rfl, fun _ _ h => ⟨h, rfl⟩, fun _ _ => rfl⟩
 have hlen : (ob.set o (.cells wr T (cs.set k (.slo ob.length z 0 0 0))) ++ [VObj.buf false z [] ty]).length = ob.length + 1 := by simp
 have hcl := hs.wi.len
 have hget : ∀ (i : Nat) y, (ob.set o (.cells wr T (cs.set k (.slo ob.length z 0 0 0))) ++ [VObj.buf false z [] ty])[i]? = some y -> (i = ob.length /\ y = .buf false z [] ty) \/ (i = o /\ y = .cells wr T (cs.set k (.slo ob.length z 0 0 0))) \/ ob[i]? = some y /\ i < ob.length := fun i y hy => by
  rw [List.getElem?_append] at hy
  split at hy
  · rename_i hlt
    rcases set_get hy with ⟨e1, e2⟩ | ⟨_, hy⟩
    · exact .inr (.inl ⟨e1.symm, e2⟩)
    · exact .inr (.inr ⟨hy, by simpa using hlt⟩)
  · rename_i hge
    simp only [List.length_set] at hy hge
    have : i - ob.length = 0 := by
     rcases Nat.eq_zero_or_pos (i - ob.length) with h | h
     · exact h
     · rw [List.getElem?_eq_none (by simp; omega)] at hy; cases hy
    rw [this] at hy
    simp at hy
    exact .inl ⟨by omega, hy.symm⟩
 refine ⟨g, hs.wi.swap (by rw [hlen]; have : c.n0 <= ob.length := hcl; show c.n0 <= _; omega) (fun i y hy => ?_) (fun i y hy => ?_), ?_, ?_⟩
 · rcases hget i y hy with ⟨rfl, rfl⟩ | ⟨rfl, rfl⟩ | ⟨hy, _⟩
   · have : c.n0 <= ob.length := hcl
     exact .inl ⟨rfl, rfl, fun h => absurd h (by omega)⟩
   · exact .inr ⟨_, ho, rfl, rfl, rfl, fun T' cs' e => by cases e; exact ⟨_, rfl⟩⟩
   · exact .inr ⟨y, hy, rfl, rfl, rfl, fun T' cs' e => ⟨cs', e⟩⟩
 · rw [hlen]
   rcases hget i y hy with ⟨rfl, rfl⟩ | ⟨rfl, rfl⟩ | ⟨hy, _⟩
   · exact .inl rfl
   · obtain ⟨arr, a1, a2, a3⟩ := hs.wi.obj i _ ho
     refine ⟨arr, a1, by simpa using a2, fun q v x hv hx => ?_⟩
     rcases set_get hv with ⟨rfl, rfl⟩ | ⟨_, hv⟩
     · have := a3 k _ x hk hx
       exact ⟨.of (nil_slo this.1.rel (by omega)) rfl, this.2⟩
     · exact ⟨he.vt (a3 q v x hv hx).1, (a3 q v x hv hx).2⟩
   · exact he.orel' (hs.wi.obj i y hy) fun _ => rfl
 · show TInv _ _ (ob.set o _ ++ [VObj.buf false z [] ty]).length _ _ _
   rw [hlen]; exact he.tinv hs.ti
 · show DRel _ _ (ob.set o _ ++ [VObj.buf false z [] ty]).length _ _
   rw [hlen]; exact he.drel hs.di
end VL

namespace VL
open Go
def idxB (s : ByteArray) (c : UInt8) : Int := match (List.range s.size).find? fun i => s[i]! == c with
 | some i => (i : Int)
 | none => -1
theorem c_indexByte {P : Program} {f : FuncId} {fn : Func} (hf : P.funcs[f]? = some fn) (hname : (fn.name == "runtime.NumGoroutine") = false) (hb : fn.body.isNone = true) (hn : Extern.findNext fn = none)
 (he : Extern.find fn = some Extern.BytealgIndexByte.indexByte) {s : ByteArray} {c : Int} {K : Out -> List VObj -> Prop} (h : K (.ret (.int .i64 (idxB s c.toNat.toUInt8))) []) : VCall P f [.str s, .int .u8 c] [] K := by
 refine .shut fun w g cargs hwi hsz hr hgl => ?_
 obtain ⟨x, y, rfl⟩ : ∃ x y, cargs = #[x, y] := by
  match cargs, hsz with
  | ⟨[x, y]⟩, _ => exact ⟨x, y, rfl⟩
 have hx := (hr 0 _ x rfl rfl).rel
 have hy := (hr 1 _ y rfl rfl).rel
 cases hx
 cases hy
 have hrun : (Extern.BytealgIndexByte.indexByte #[.string s, .int .u8 c]).run P w = .ok (.int .i64 (idxB s c.toNat.toUInt8)) w := by
  have e : Extern.BytealgIndexByte.indexByte #[.string s, .int .u8 c] = (match (List.range s.size).find? (fun i => s[i]! == c.toNat.toUInt8) with
   | some i => pure (goInt i)
   | none => pure (goInt (-1))) := rfl
  rw [e]
  unfold idxB
  cases (List.range s.size).find? fun i => s[i]! == c.toNat.toUInt8 <;> rfl
 unfold Does
 rw [run_callFunc_extern hf hname hb hn he, hrun]
 simp only [Result.andThen]
 exact ⟨_, _, g, h, hwi, .of .int rfl⟩
end VL

namespace VL
open Go
inductive Ty where
 | bool
 | int (k : IntKind)
 | str
 | sl (e : Ty) (z by_ : Nat) (agg : Bool)
 | row (ps : List Ty)
mutual
def Ty.flat : Ty -> Bool
 | .sl .. => false
 | .row ps => Ty.flats ps
 | _ => true
def Ty.flats : List Ty -> Bool
 | [] => true
 | p :: r => p.flat && Ty.flats r
end
mutual
def Ty.size : Ty -> Nat
 | .row ps => Ty.sizes ps
 | _ => 1
def Ty.sizes : List Ty -> Nat
 | [] => 0
 | p :: r => p.size + Ty.sizes r
end
def fieldsAt (sz : TypeId -> Nat) : Nat -> List Field -> Bool
 | _, [] => true
 | i, f :: r => Nat.beq f.offset i && fieldsAt sz (i + sz f.type) r
def isRowD : TypeDesc -> Bool
 | .struct _ | .array _ _ => true
 | _ => false
def tyOf (P : Program) : Nat -> TypeId -> Option Ty
 | 0, _ => none
 | n + 1, t => match P.underlying t with
   | some .bool => some .bool
   | some (.int k) => some (.int k)
   | some .string => some .str
   | some (.slice e) => match tyOf P n e, P.underlying e with
     | some x, some d => if x.flat && Nat.beq x.size (P.cellsOf e) && Nat.blt 0 x.size && Nat.blt 0 (P.bytesOf e) then some (.sl x (P.cellsOf e) (P.bytesOf e) (isRowD d)) else none
     | _, _ => none
   | some (.struct fs) => match fs.toList.mapM (fun f => tyOf P n f.type) with
     | some ps => if fieldsAt P.cellsOf 0 fs.toList && Nat.beq (Ty.sizes ps) (P.cellsOf t) && (fs.toList.zip ps).all (fun x => Nat.beq x.2.size (P.cellsOf x.1.type)) then some (.row ps) else none
     | none => none
   | some (.array m e) => match tyOf P n e with
     | some x => if Nat.beq x.size (P.cellsOf e) && Nat.beq (m * x.size) (P.cellsOf t) then some (.row (List.replicate m x)) else none
     | none => none
   | _ => none
mutual
def ShT : Ty -> List V -> Prop
 | .bool, vs => ∃ b, vs = [.bool b]
 | .int k, vs => ∃ n, vs = [.int k n] /\ (Lit.int k n).wf = true
 | .str, vs => ∃ s, vs = [.str s] /\ s.size <= 140737488351232
 | .sl e z by_ agg, vs => ∃ l, vs = [.sl l .no] /\ l.length * by_ <= 140737488351232 /\ ∀ x ∈ l, (if agg then ∃ cs, x = .agg cs /\ ShT e cs else ShT e [x])
 | .row ps, vs => ShTs ps vs
def ShTs : List Ty -> List V -> Prop
 | [], vs => vs = []
 | p :: r, vs => ∃ a b, vs = a ++ b /\ ShT p a /\ ShTs r b
end
def SpotOk (c : Value) : Prop := ∀ a len cap, c = .slice (some a) len cap -> a.spot = none
theorem okWide_spot {P : Program} {w : World} {r : Reach} {base : Nat} {t : TypeId} {v : Value} (h : Cell.okWide P w r base t v) : SpotOk v := by
 rintro a len cap rfl
 cases hd : P.underlying t with
 | none => simp [Cell.okWide, Cell.ok, hd] at h
 | some d =>
   cases d <;> simp [Cell.okWide, Cell.ok, hd] at h
   exact h.2.2.2.1
theorem okWide_spots {P : Program} {w : World} {r : Reach} {base : Nat} {t : TypeId} {v : Value} (h : Value.okWide P w r base t v) : ∀ c ∈ v.cells.toList, SpotOk c := by
 have row : ∀ cs, v = .agg cs -> Row.okWide P w r base t cs -> ∀ c ∈ v.cells.toList, SpotOk c := fun cs hv hr c hc => by
  subst hv
  obtain ⟨ts, _, _, h3⟩ := hr
  obtain ⟨i, hi⟩ := List.mem_iff_getElem?.1 hc
  obtain ⟨u, _, h4⟩ := h3 i c (by simpa [Value.cells] using hi)
  exact okWide_spot h4
 have one : Cell.okWide P w r base t v -> (∀ cs, v ≠ .agg cs) -> ∀ c ∈ v.cells.toList, SpotOk c := fun hc hn c h => by
  have : v.cells = #[v] := by cases v <;> first | rfl | exact absurd rfl (hn _)
  rw [this] at h; simp at h; subst h; exact okWide_spot hc
 unfold Value.okWide at h
 split at h
 · obtain ⟨cs, hv, _, hr⟩ := h; exact row cs hv hr
 · obtain ⟨cs, hv, _, hr⟩ := h; exact row cs hv hr
 · rename_i h1 h2
   refine one h fun cs e => ?_
   subst e
   cases hd : P.underlying t with
   | none => simp [Cell.okWide, Cell.ok, hd] at h
   | some d => cases d <;> simp [Cell.okWide, Cell.ok, hd] at h
def Told (w : World) (cs : List Value) (vs : List V) : Prop :=
 vs.length = cs.length /\ ∀ (k : Nat) v c, vs[k]? = some v -> cs[k]? = some c -> VRel (fun _ => 0) (fun b _ => b < w.heap.size) w 0 v c /\ v.noTok = true /\ v.okCell = true
theorem Told.one {w : World} {v : V} {c : Value} (h : VRel (fun _ => 0) (fun b _ => b < w.heap.size) w 0 v c) (h1 : v.noTok = true) (h2 : v.okCell = true) : Told w [c] [v] :=
 ⟨rfl, fun k u d hu hd => by
  cases k with
  | zero => simp at hu hd; subst hu; subst hd; exact ⟨h, h1, h2⟩
  | succ k => simp at hu⟩
theorem Told.append {w : World} {cs ds : List Value} {vs us : List V} (h : Told w cs vs) (k : Told w ds us) : Told w (cs ++ ds) (vs ++ us) := by
 refine ⟨by simp [h.1, k.1], fun i v c hv hc => ?_⟩
 rw [List.getElem?_append] at hv hc
 rw [h.1] at hv
 split at hv
 · rename_i hlt; rw [if_pos hlt] at hc; exact h.2 i v c hv hc
 · rename_i hlt; rw [if_neg hlt] at hc; exact k.2 _ v c hv hc
end VL

namespace VL
open Go
section
variable {H : Type} {enc : TypeId × Value -> H} {P : Program} {w : World} {base : Nat} {spare : Nat -> Bool} {held : Bool}
theorem trod_bool {m : Nat} {t : TypeId} {cs : List Value} {d : DataW H} {ps : List MemPlace} (hu : P.underlying t = some .bool) (h : DataW.trod enc P w base spare held m t cs = some (d, ps)) : ∃ b, cs = [.bool b] := by
 cases m with
 | zero => simp [DataW.trod] at h
 | succ m =>
   unfold DataW.trod at h
   rw [hu] at h
   split at h <;> rename_i h1 <;> first | (cases h1; done) | skip
   all_goals first | exact ⟨_, rfl⟩ | (simp at h)
theorem trod_int {m : Nat} {t : TypeId} {k : IntKind} {cs : List Value} {d : DataW H} {ps : List MemPlace} (hu : P.underlying t = some (.int k)) (h : DataW.trod enc P w base spare held m t cs = some (d, ps)) : ∃ n, cs = [.int k n] /\ (Lit.int k n).wf = true := by
 cases m with
 | zero => simp [DataW.trod] at h
 | succ m =>
   unfold DataW.trod at h
   rw [hu] at h
   split at h
   all_goals first
    | (simp only [reduceCtorEq] at h; done)
    | (rename_i h1; cases h1
       split at h
       · rename_i hk; obtain ⟨rfl, hk⟩ := hk; exact ⟨_, rfl, hk⟩
       · cases h)
    | (rename_i h1; cases h1; done)
    | (simp at h)
theorem trod_str {m : Nat} {t : TypeId} {cs : List Value} {d : DataW H} {ps : List MemPlace} (hu : P.underlying t = some .string) (h : DataW.trod enc P w base spare held m t cs = some (d, ps)) : ∃ s, cs = [.string s] /\ d = .lit (.string s.data.toList) := by
 cases m with
 | zero => simp [DataW.trod] at h
 | succ m =>
   unfold DataW.trod at h
   rw [hu] at h
   split at h
   all_goals first
    | (simp only [reduceCtorEq] at h; done)
    | (rename_i h1; cases h1
       split at h
       · simp at h; exact ⟨_, rfl, h.1.symm⟩
       · cases h)
    | (rename_i h1; cases h1; done)
    | (simp at h)
theorem trod_struct {m : Nat} {t : TypeId} {fs : Array Field} {cs : List Value} {d : DataW H} {ps : List MemPlace} (hu : P.underlying t = some (.struct fs)) (h : DataW.trod enc P w base spare held m t cs = some (d, ps)) :
 ∃ m' xs, cs.length = P.cellsOf t /\ (fs.toList.mapM fun f => DataW.trod enc P w base spare held m' f.type ((cs.drop f.offset).take (P.cellsOf f.type))) = some xs /\ d = .agg (xs.map (·.1)) := by
 cases m with
 | zero => simp [DataW.trod] at h
 | succ m =>
   unfold DataW.trod at h
   rw [hu] at h
   split at h
   all_goals first
    | (simp only [reduceCtorEq] at h; done)
    | (rename_i h1; cases h1
       split at h
       · rename_i hlen
         obtain ⟨xs, h2, h3⟩ := Option.map_eq_some_iff.1 h
         simp at h3; exact ⟨m, xs, hlen, h2, h3.1.symm⟩
       · cases h)
    | (rename_i h1; cases h1; done)
    | (simp at h; obtain ⟨hl, a, h2, h3, _⟩ := h; exact ⟨m, a, hl, h2, h3.symm⟩)
theorem trod_array {m : Nat} {t e : TypeId} {n : Nat} {cs : List Value} {d : DataW H} {ps : List MemPlace} (hu : P.underlying t = some (.array n e)) (h : DataW.trod enc P w base spare held m t cs = some (d, ps)) :
 ∃ m' xs, cs.length = P.cellsOf t /\ ((List.range n).mapM fun i => DataW.trod enc P w base spare held m' e ((cs.drop (i * P.cellsOf e)).take (P.cellsOf e))) = some xs /\ d = .agg (xs.map (·.1)) := by
 cases m with
 | zero => simp [DataW.trod] at h
 | succ m =>
   unfold DataW.trod at h
   rw [hu] at h
   split at h
   all_goals first
    | (simp only [reduceCtorEq] at h; done)
    | (rename_i h1; cases h1
       split at h
       · rename_i hlen
         obtain ⟨xs, h2, h3⟩ := Option.map_eq_some_iff.1 h
         simp at h3; exact ⟨m, xs, hlen, h2, h3.1.symm⟩
       · cases h)
    | (rename_i h1; cases h1; done)
    | (simp at h; obtain ⟨hl, a, h2, h3, _⟩ := h; exact ⟨m, a, hl, h2, h3.symm⟩)
theorem trod_slice {m : Nat} {t e : TypeId} {cs : List Value} {d : DataW H} {ps : List MemPlace} (hu : P.underlying t = some (.slice e)) (h : DataW.trod enc P w base spare held m t cs = some (d, ps)) :
 cs = [.slice none 0 0] \/ ∃ m' a len cap xs rest, cs = [.slice (some a) len cap] /\ len <= cap /\
  ((List.range len).mapM fun i => (w.cells? base (a.add (i * P.cellsOf e)) (P.cellsOf e)).bind (DataW.trod enc P w base spare held m' e)) = some xs /\ d = .slice (xs.map (·.1)) rest := by
 cases m with
 | zero => simp [DataW.trod] at h
 | succ m =>
   unfold DataW.trod at h
   rw [hu] at h
   split at h
   all_goals first
    | (simp only [reduceCtorEq] at h; done)
    | (rename_i h1; cases h1; exact .inl rfl)
    | (rename_i h1; cases h1
       simp only at h
       split at h
       · rename_i hlen
         obtain ⟨xs, h2, h3⟩ := Option.bind_eq_some_iff.1 h
         obtain ⟨rest, h4, h5⟩ := Option.map_eq_some_iff.1 h3
         simp at h5
         exact .inr ⟨m, _, _, _, xs, _, rfl, hlen.2.1, h2, h5.1.symm⟩
       · cases h)
    | (rename_i h1; cases h1; done)
    | (simp at h)
end
end VL

namespace VL
open Go
theorem exists_list {α : Type} {R : Nat -> α -> Prop} : ∀ (n : Nat), (∀ i, i < n -> ∃ y, R i y) -> ∃ L : List α, L.length = n /\ ∀ (i : Nat) y, L[i]? = some y -> R i y
 | 0, _ => ⟨[], rfl, by simp⟩
 | n + 1, h => by
   obtain ⟨L, h1, h2⟩ := exists_list n fun i hi => h i (by omega)
   obtain ⟨y, hy⟩ := h n (by omega)
   refine ⟨L ++ [y], by simp [h1], fun i z hz => ?_⟩
   rw [List.getElem?_append] at hz
   split at hz
   · exact h2 i z hz
   · have : i = n := by
      rcases Nat.lt_or_ge (i - L.length) 1 with hlt | hge
      · omega
      · rw [List.getElem?_eq_none (by simpa using hge)] at hz; cases hz
     subst this
     rw [h1] at hz; simp at hz; subst hz; exact hy
theorem flat_inv {sz : Nat} (hp : 0 < sz) : ∀ {l : List V} (hz : ∀ x ∈ l, x.cells.length = sz) {k : Nat} {v : V}, (l.flatMap V.cells)[k]? = some v -> ∃ i j x, l[i]? = some x /\ x.cells[j]? = some v /\ k = i * sz + j /\ j < sz
 | [], _, k, v, h => by simp at h
 | x :: r, hz, k, v, h => by
   rw [List.flatMap_cons, List.getElem?_append] at h
   have hx := hz x (by simp)
   split at h
   · rename_i hlt
     exact ⟨0, k, x, rfl, h, by omega, by omega⟩
   · obtain ⟨i, j, y, h1, h2, h3, h4⟩ := flat_inv hp (fun y hy => hz y (by simp [hy])) h
     exact ⟨i + 1, j, y, by simpa using h1, h2, by rw [Nat.add_mul]; omega, h4⟩
theorem weightsAll_mem {H : Type} {P : Program} {e : TypeId} : ∀ {ds : List (DataW H)} {d : DataW H}, d ∈ ds -> ∀ x ∈ d.weights P e, x ∈ DataW.weightsAll P e ds
 | d :: r, _, .head _, x, hx => by simp only [DataW.weightsAll, List.mem_append]; exact .inl hx
 | _ :: r, d, .tail _ h, x, hx => by simp only [DataW.weightsAll, List.mem_append]; exact .inr (weightsAll_mem h x hx)
section
variable {H : Type} {enc : TypeId × Value -> H} {P : Program} {w : World} {base : Nat} {spare : Nat -> Bool} {held : Bool}
theorem add_none {a : Addr} (h : a.spot = none) (n : Nat) : a.add n = ⟨a.block, a.off + n, none⟩ := by
 obtain ⟨b, o, s⟩ := a
 simp only at h; subst h
 unfold Addr.add
 split
 · rename_i e; simp [e]
 · rfl
theorem cell_lt {b k : Nat} {c : Value} (h : w.cell? ⟨b, k, none⟩ = some c) : b < w.heap.size := by
 rcases Nat.lt_or_ge b w.heap.size with h1 | h1
 · exact h1
 · simp [World.cell?, Array.getElem?_eq_none h1] at h
theorem ShT_single {ty : Ty} {vs : List V} (h : ShT ty vs) (hs : ∀ ps, ty ≠ .row ps) : ∃ v, vs = [v] /\ v.cells = [v] := by
 cases ty with
 | bool => obtain ⟨b, rfl⟩ := h; exact ⟨_, rfl, rfl⟩
 | int k => obtain ⟨b, rfl, _⟩ := h; exact ⟨_, rfl, rfl⟩
 | str => obtain ⟨b, rfl, _⟩ := h; exact ⟨_, rfl, rfl⟩
 | sl e z b a => obtain ⟨l, rfl, _⟩ := h; exact ⟨_, rfl, rfl⟩
 | row ps => exact absurd rfl (hs ps)
theorem tyOf_row {n : Nat} {t : TypeId} {ty : Ty} {d : TypeDesc} (h : tyOf P n t = some ty) (hu : P.underlying t = some d) (hd : isRowD d = false) : ∀ ps, ty ≠ .row ps := by
 rintro ps rfl
 cases n with
 | zero => simp [tyOf] at h
 | succ n =>
   unfold tyOf at h
   rw [hu] at h
   cases d <;> simp [isRowD] at hd h
   split at h
   · split at h <;> simp at h
   · simp at h
theorem Told.take_drop {cs : List Value} {i a b : Nat} {vs us : List V} (h : Told w ((cs.drop i).take a) vs) (k : Told w ((cs.drop (i + a)).take b) us) : Told w ((cs.drop i).take (a + b)) (vs ++ us) := by
 have : (cs.drop i).take (a + b) = (cs.drop i).take a ++ (cs.drop (i + a)).take b := by
  rw [List.take_add, List.drop_drop]
 rw [this]; exact h.append k
theorem trod_V : ∀ (n : Nat) (t : TypeId) (ty : Ty), tyOf P n t = some ty -> ∀ (m : Nat) (cs : List Value) (d : DataW H) (ps : List MemPlace), DataW.trod enc P w base spare held m t cs = some (d, ps) ->
 (∀ x ∈ d.weights P t, x <= reachBytes) -> (ty.flat = true \/ ∀ c ∈ cs, SpotOk c) -> ∃ vs, Told w cs vs /\ ShT ty vs := by
 intro n
 induction n with
 | zero => intro t ty h; simp [tyOf] at h
 | succ n ih =>
   intro t ty hty m cs d ps h hw hsp
   unfold tyOf at hty
   split at hty
   · rename_i hu
     cases hty
     obtain ⟨b, rfl⟩ := trod_bool hu h
     exact ⟨[.bool b], .one .bool rfl rfl, b, rfl⟩
   · rename_i k hu
     cases hty
     obtain ⟨x, rfl, hwf⟩ := trod_int hu h
     exact ⟨[.int k x], .one .int rfl rfl, x, rfl, hwf⟩
   · rename_i hu
     cases hty
     obtain ⟨s, rfl, rfl⟩ := trod_str hu h
     refine ⟨[.str s], .one .str rfl rfl, s, rfl, ?_⟩
     have := hw s.data.toList.length (by unfold DataW.weights; exact List.mem_singleton.2 rfl)
     have e : s.data.toList.length = s.size := Array.length_toList ..
     rw [e] at this; exact this
   · rename_i e hu
     split at hty
     · rename_i x dsc he hue
       split at hty
       · rename_i hc
         cases hty
         simp only [Bool.and_eq_true] at hc
         obtain ⟨⟨⟨hflat, hsz⟩, hpos⟩, hby⟩ := hc
         have hsz := Nat.eq_of_beq_eq_true hsz
         have hpos : 0 < x.size := by simpa [Nat.blt_eq] using hpos
         rcases trod_slice hu h with rfl | ⟨m', a, len, cap, xs, rest, rfl, hlen, hxs, rfl⟩
         · exact ⟨[.sl [] .no], .one .slnil rfl rfl, [], rfl, by simp, by simp⟩
         · have hspot : a.spot = none := by
            rcases hsp with hf | hsp
            · simp [Ty.flat] at hf
            · exact hsp _ (by simp) a len cap rfl
           have hlx : xs.length = len := by rw [mapM_some_length hxs]; simp
           have hel : ∀ i, i < len -> ∃ vi : List V, ∃ ci, w.cells? base (a.add (i * P.cellsOf e)) (P.cellsOf e) = some ci /\ Told w ci vi /\ ShT x vi := fun i hi => by
            have hg := mapM_some_get hxs i i (by rw [List.getElem?_range hi])
            rw [List.getElem?_eq_getElem (by omega)] at hg
            obtain ⟨ci, h1, h2⟩ := Option.bind_eq_some_iff.1 hg
            have hmem : xs[i] ∈ xs := List.getElem_mem _
            obtain ⟨vi, h3, h4⟩ := ih e x he m' ci xs[i].1 xs[i].2 h2 (fun y hy => hw y (by
             simp only [DataW.weights, hu, List.mem_cons, List.mem_append]
             exact .inr (.inl (weightsAll_mem (List.mem_map.2 ⟨xs[i], hmem, rfl⟩) y hy)))) (.inl hflat)
            exact ⟨vi, ci, h1, h3, h4⟩
           obtain ⟨L, hL, hLR⟩ := exists_list len hel
           let mk : List V -> V := fun vs => if isRowD dsc then .agg vs else vs.headD .undef
           have hmk : ∀ i vi, L[i]? = some vi -> (mk vi).cells = vi /\ (if isRowD dsc = true then ∃ cs, mk vi = .agg cs /\ ShT x cs else ShT x [mk vi]) := fun i vi hi => by
            obtain ⟨ci, _, _, h3⟩ := hLR i vi hi
            by_cases hr : isRowD dsc = true
            · simp only [mk, hr, if_true]; exact ⟨rfl, _, rfl, h3⟩
            · have hr : isRowD dsc = false := by simpa using hr
              obtain ⟨v, rfl, hv⟩ := ShT_single h3 (tyOf_row he hue hr)
              simp only [mk, hr]
              exact ⟨hv, h3⟩
           have hlt : ∀ i vi, L[i]? = some vi -> i < len := fun i vi hi => by rw [← hL]; exact (List.getElem?_eq_some_iff.1 hi).1
           have hml : ∀ y ∈ L.map mk, y.cells.length = P.cellsOf e /\ y.cells.all V.okCell = true := fun y hy => by
            obtain ⟨vi, hvi, rfl⟩ := List.mem_map.1 hy
            obtain ⟨i, hi⟩ := List.mem_iff_getElem?.1 hvi
            obtain ⟨ci, h1, h2, h3⟩ := hLR i vi hi
            rw [(hmk i vi hi).1]
            obtain ⟨_, hcl, _⟩ := World.cells?_some h1
            refine ⟨by rw [h2.1, hcl], List.all_eq_true.2 fun v hv => ?_⟩
            obtain ⟨j, hj⟩ := List.mem_iff_getElem?.1 hv
            have hjl : j < ci.length := by rw [← h2.1]; exact (List.getElem?_eq_some_iff.1 hj).1
            exact (h2.2 j v ci[j] hj (List.getElem?_eq_getElem hjl)).2.2
           have hcell : ∀ k v, ((L.map mk).flatMap V.cells)[k]? = some v -> ∃ c, w.cell? ⟨a.block, a.off + k, none⟩ = some c /\ VRel (fun _ => 0) (fun b _ => b < w.heap.size) w 0 v c := fun k v hk => by
            obtain ⟨i, j, y, h1, h2, rfl, h4⟩ := flat_inv (by rw [← hsz]; exact hpos) (fun y hy => (hml y hy).1) hk
            rw [List.getElem?_map] at h1
            obtain ⟨vi, hvi, rfl⟩ := Option.map_eq_some_iff.1 h1
            rw [(hmk i vi hvi).1] at h2
            obtain ⟨ci, g1, g2, g3⟩ := hLR i vi hvi
            obtain ⟨_, hcl, hcc⟩ := World.cells?_some g1
            have hjl : j < ci.length := by omega
            have := hcc j h4
            rw [add_none hspot, add_none rfl, List.getElem?_eq_getElem hjl] at this
            refine ⟨ci[j], ?_, (g2.2 j v ci[j] h2 (List.getElem?_eq_getElem hjl)).1⟩
            rw [← this]; simp only [Nat.add_assoc]
           obtain ⟨ab, ao, as1⟩ := a
           simp only at hspot; subst hspot
           refine ⟨[.sl (L.map mk) .no], .one (.sl (sz := P.cellsOf e) (fun k => (w.cell? ⟨ab, ao + k, none⟩).getD undef) (by simp [hL]) hlen (by simp) hml (fun k v hk => ?_) fun k v hk => ?_) rfl rfl, L.map mk, rfl, ?_, fun y hy => ?_⟩
           · obtain ⟨c, h1, _⟩ := hcell k v hk
             simp only at h1 ⊢
             rw [h1]; exact ⟨rfl, cell_lt h1⟩
           · obtain ⟨c, h1, h2⟩ := hcell k v hk
             simp only at h1
             rw [h1]; exact h2
           · rw [List.length_map, hL]
             have := hw ((xs.map (·.1)).length + rest.length |>.mul (P.bytesOf e)) (by simp [DataW.weights, hu])
             have h2 : len * P.bytesOf e <= ((xs.map (·.1)).length + rest.length) * P.bytesOf e := Nat.mul_le_mul_right _ (by rw [List.length_map, hlx]; omega)
             exact Nat.le_trans h2 this
           · obtain ⟨vi, hvi, rfl⟩ := List.mem_map.1 hy
             obtain ⟨i, hi⟩ := List.mem_iff_getElem?.1 hvi
             exact (hmk i vi hi).2
       · cases hty
     · cases hty
   · rename_i fs hu
     split at hty
     · rename_i tys htys
       split at hty
       · rename_i hc
         cases hty
         simp only [Bool.and_eq_true] at hc
         obtain ⟨⟨hat, htot⟩, hszs⟩ := hc
         have htot := Nat.eq_of_beq_eq_true htot
         obtain ⟨m', xs, hlen, hxs, rfl⟩ := trod_struct hu h
         have key : ∀ (l : List Field) (i : Nat) (tl : List Ty) (ys : List (DataW H × List MemPlace)), fieldsAt P.cellsOf i l = true -> l.mapM (fun f => tyOf P n f.type) = some tl ->
          (l.mapM fun f => DataW.trod enc P w base spare held m' f.type ((cs.drop f.offset).take (P.cellsOf f.type))) = some ys -> (l.zip tl).all (fun x => Nat.beq x.2.size (P.cellsOf x.1.type)) = true ->
          (∀ x ∈ DataW.weightsEach P (l.map (·.type)) (ys.map (·.1)), x <= reachBytes) -> (Ty.flats tl = true \/ ∀ c ∈ cs, SpotOk c) -> ∃ vs, Told w ((cs.drop i).take (Ty.sizes tl)) vs /\ ShTs tl vs := by
          intro l
          induction l with
          | nil =>
            intro i tl ys _ h1 _ _ _ _
            simp at h1; subst h1
            exact ⟨[], ⟨by simp [Ty.sizes], by simp⟩, rfl⟩
          | cons f r ihl =>
            intro i tl ys hat h1 h2 h3 h4 h5
            simp only [fieldsAt, Bool.and_eq_true] at hat
            simp only [List.mapM_cons, bind, Option.bind_eq_some_iff] at h1 h2
            obtain ⟨t1, a1, tr, a2, a3⟩ := h1
            obtain ⟨y1, b1, yr, b2, b3⟩ := h2
            simp only [pure, Option.some.injEq] at a3 b3
            subst a3; subst b3
            simp only [List.zip_cons_cons, List.all_cons, Bool.and_eq_true] at h3
            have hsz1 := Nat.eq_of_beq_eq_true h3.1
            have hoff := Nat.eq_of_beq_eq_true hat.1
            rw [hoff] at b1
            obtain ⟨va, c1, c2⟩ := ih f.type t1 a1 m' _ y1.1 y1.2 b1 (fun x hx => h4 x (by simp only [List.map_cons, DataW.weightsEach, List.mem_append]; exact .inl hx)) (by
             rcases h5 with h5 | h5
             · simp only [Ty.flats, Bool.and_eq_true] at h5; exact .inl h5.1
             · exact .inr fun c hc => h5 c (List.mem_of_mem_drop (List.mem_of_mem_take hc)))
            obtain ⟨vb, d1, d2⟩ := ihl _ tr yr hat.2 a2 b2 h3.2 (fun x hx => h4 x (by simp only [List.map_cons, DataW.weightsEach, List.mem_append]; exact .inr hx)) (by
             rcases h5 with h5 | h5
             · simp only [Ty.flats, Bool.and_eq_true] at h5; exact .inl h5.2
             · exact .inr h5)
            refine ⟨va ++ vb, ?_, va, vb, rfl, c2, d2⟩
            simp only [Ty.sizes]
            rw [hsz1]
            exact c1.take_drop d1
         obtain ⟨vs, k1, k2⟩ := key fs.toList 0 tys xs hat htys hxs hszs (fun x hx => hw x (by simp only [DataW.weights, hu]; exact hx)) (by
          rcases hsp with h | h
          · exact .inl (by simpa [Ty.flat] using h)
          · exact .inr h)
         refine ⟨vs, ?_, k2⟩
         rw [List.drop_zero, htot, ← hlen, List.take_length] at k1
         exact k1
       · cases hty
     · cases hty
   · rename_i k e hu
     split at hty
     · rename_i x he
       split at hty
       · rename_i hc
         cases hty
         simp only [Bool.and_eq_true] at hc
         have hsz := Nat.eq_of_beq_eq_true hc.1
         have htot := Nat.eq_of_beq_eq_true hc.2
         obtain ⟨m', xs, hlen, hxs, rfl⟩ := trod_array hu h
         have hlx : xs.length = k := by rw [mapM_some_length hxs]; simp
         have hx : k = 0 \/ x.flat = true \/ ∀ c ∈ cs, SpotOk c := by
          rcases hsp with h | h
          · cases k with
            | zero => exact .inl rfl
            | succ k =>
              simp only [Ty.flat, List.replicate_succ, Ty.flats, Bool.and_eq_true] at h; exact .inr (.inl h.1)
          · exact .inr (.inr h)
         have key : ∀ j, j <= k -> ∃ vs, Told w ((cs.drop ((k - j) * P.cellsOf e)).take (j * P.cellsOf e)) vs /\ ShTs (List.replicate j x) vs := by
          intro j
          induction j with
          | zero => intro _; exact ⟨[], ⟨by simp, by simp⟩, rfl⟩
          | succ j ihj =>
            intro hj
            obtain ⟨vb, d1, d2⟩ := ihj (by omega)
            have hg := mapM_some_get hxs (k - (j + 1)) (k - (j + 1)) (by rw [List.getElem?_range (by omega)])
            rw [List.getElem?_eq_getElem (by omega)] at hg
            have hmem : xs[k - (j + 1)]'(by omega) ∈ xs := List.getElem_mem _
            obtain ⟨va, c1, c2⟩ := ih e x he m' _ _ _ hg (fun y hy => hw y (by
             simp only [DataW.weights, hu]
             exact weightsAll_mem (List.mem_map.2 ⟨_, hmem, rfl⟩) y hy)) (by
             rcases hx with h | h | h
             · omega
             · exact .inl h
             · exact .inr fun c hc => h c (List.mem_of_mem_drop (List.mem_of_mem_take hc)))
            refine ⟨va ++ vb, ?_, va, vb, rfl, c2, d2⟩
            have e1 : (j + 1) * P.cellsOf e = P.cellsOf e + j * P.cellsOf e := by rw [Nat.add_mul]; omega
            have e2 : (k - j) * P.cellsOf e = (k - (j + 1)) * P.cellsOf e + P.cellsOf e := by rw [show k - j = (k - (j + 1)) + 1 by omega, Nat.add_mul]; omega
            rw [e2] at d1
            rw [e1]
            exact c1.take_drop d1
         obtain ⟨vs, k1, k2⟩ := key k (Nat.le_refl _)
         refine ⟨vs, ?_, k2⟩
         rw [Nat.sub_self, Nat.zero_mul, List.drop_zero, ← hsz, htot, ← hlen, List.take_length] at k1
         exact k1
       · cases hty
     · cases hty
   · cases hty
end
end VL

namespace VL
open Go Go.RowKit
def ShA (t : Ty) (agg : Bool) (x : V) : Prop := if agg then ∃ cs, x = .agg cs /\ ShT t cs else ShT t [x]
def ShAs : List (Ty × Bool) -> List V -> Prop
 | [], xs => xs = []
 | (t, a) :: r, xs => ∃ x ys, xs = x :: ys /\ ShA t a x /\ ShAs r ys
def argTy (P : Program) (n : Nat) (t : TypeId) : Option (Ty × Bool) := (tyOf P n t).bind fun ty => (P.underlying t).map fun d => (ty, isRowD d)
section
variable {H : Type} {enc : TypeId × Value -> H} {P : Program} {w : World} {base : Nat}
theorem arg_V {n : Nat} {t : TypeId} {ty : Ty} {agg : Bool} {v : Value} {d : DataW H} {ps : List MemPlace} {r : Reach} {b : Nat} (hty : argTy P n t = some (ty, agg)) (h : DataW.Trod enc P w 0 (fun _ => true) true t v d ps)
 (hv : Value.okWide P w r b t v) (hw : ∀ x ∈ d.weights P t, x <= reachBytes) : ∃ x, VRel (fun _ => 0) (fun b _ => b < w.heap.size) w 0 x v /\ x.noTok = true /\ ShA ty agg x := by
 obtain ⟨ty', h1, h2⟩ := Option.bind_eq_some_iff.1 hty
 obtain ⟨dsc, h3, h4⟩ := Option.map_eq_some_iff.1 h2
 simp only [Prod.mk.injEq] at h4
 obtain ⟨rfl, rfl⟩ := h4
 obtain ⟨m, hm⟩ := h
 obtain ⟨vs, k1, k2⟩ := trod_V n t ty' h1 m _ d ps hm hw (.inr (okWide_spots hv))
 have hval := hv
 unfold Value.okWide at hval
 rw [h3] at hval
 by_cases hr : isRowD dsc = true
 · have : ∃ cs, v = .agg cs := by
    cases dsc <;> simp [isRowD] at hr <;> obtain ⟨cs, h, _⟩ := hval <;> exact ⟨cs, h⟩
   obtain ⟨cs, rfl⟩ := this
   refine ⟨.agg vs, .agg (by rw [k1.1]; simp [Value.cells]) fun k u c hu hc => (k1.2 k u c hu (by simpa [Value.cells] using hc)).1, rfl, ?_⟩
   unfold ShA; rw [if_pos hr]; exact ⟨vs, rfl, k2⟩
 · have hr : isRowD dsc = false := by simpa using hr
   obtain ⟨x, rfl, hx⟩ := ShT_single k2 (tyOf_row h1 h3 hr)
   have hl := k1.1
   have hcv : v.cells.toList = [v] := by
    cases v with
    | agg cs =>
      exfalso
      cases dsc <;> simp [isRowD] at hr <;> simp [Cell.okWide, Cell.ok, h3] at hval
    | _ => rfl
   rw [hcv] at k1
   have := k1.2 0 x v rfl rfl
   refine ⟨x, this.1, this.2.1, ?_⟩
   unfold ShA; rw [if_neg (by simp [hr])]; exact k2
theorem args_V {n : Nat} {r : Reach} {b : Nat} : ∀ {ts : List TypeId} {tys : List (Ty × Bool)} {vs : List Value} {ds : List (DataW H)} {ps : List MemPlace}, ts.mapM (argTy P n) = some tys -> DataW.TrodAll enc P w 0 (fun _ => true) true ts vs ds ps ->
 (∀ (j : Nat) t v, ts[j]? = some t -> vs[j]? = some v -> Value.okWide P w r b t v) -> (∀ x ∈ DataW.weightsEach P ts ds, x <= reachBytes) ->
 ∃ xs : List V, xs.length = vs.length /\ (∀ (k : Nat) x v, xs[k]? = some x -> vs[k]? = some v -> VRel (fun _ => 0) (fun b _ => b < w.heap.size) w 0 x v /\ x.noTok = true) /\ ShAs tys xs
 | [], tys, vs, ds, ps, h, ht, hv, hw => by
   simp at h; subst h
   cases vs with
   | nil => exact ⟨[], rfl, by simp, rfl⟩
   | cons v vs => cases ds <;> exact ht.elim
 | t :: ts, tys, vs, ds, ps, h, ht, hv, hw => by
   simp only [List.mapM_cons, bind, Option.bind_eq_some_iff] at h
   obtain ⟨t1, a1, tr, a2, a3⟩ := h
   simp only [pure, Option.some.injEq] at a3
   subst a3
   cases vs with
   | nil => exact ht.elim
   | cons v vs =>
     cases ds with
     | nil => exact ht.elim
     | cons d ds =>
       obtain ⟨p, q, h1, h2, rfl⟩ := ht
       obtain ⟨ty, agg⟩ := t1
       obtain ⟨x, b1, b2, b3⟩ := arg_V a1 h1 (hv 0 t v rfl rfl) (fun x hx => hw x (by simp only [DataW.weightsEach, List.mem_append]; exact .inl hx))
       obtain ⟨xs, c1, c2, c3⟩ := args_V a2 h2 (fun j t v h h' => hv (j + 1) t v (by simpa using h) (by simpa using h')) (fun x hx => hw x (by simp only [DataW.weightsEach, List.mem_append]; exact .inr hx))
       refine ⟨x :: xs, by simp [c1], fun k y z hy hz => ?_, x, xs, rfl, b3, c3⟩
       cases k with
       | zero => simp at hy hz; subst hy; subst hz; exact ⟨b1, b2⟩
       | succ k => exact c2 k y z (by simpa using hy) (by simpa using hz)
theorem trodAll_below (hl : laidOutB P = true) {W W' : World} (hb : Below W.heap.size W W') : ∀ {ts : List TypeId} {vs : List Value} {ds : List (DataW H)} {ps : List MemPlace},
 (ts.all fun t => P.readableRec t && decide (t < P.types.size)) = true -> DataW.TrodAll enc P W 0 (fun _ => true) true ts vs ds ps -> DataW.TrodAll enc P W' 0 (fun b => decide (b < W.heap.size)) true ts vs ds ps
 | [], [], [], _, _, h => h
 | [], [], _ :: _, _, _, h => h.elim
 | [], _ :: _, _, _, _, h => h.elim
 | _ :: _, [], _, _, _, h => h.elim
 | _ :: _, _ :: _, [], _, _, h => h.elim
 | t :: ts, v :: vs, d :: ds, ps, hr, h => by
   simp only [List.all_cons, Bool.and_eq_true, decide_eq_true_eq] at hr
   obtain ⟨p, q, h1, h2, rfl⟩ := h
   refine ⟨p, q, Below.trod hl hr.1.1 hr.1.2 h1 hb ?_, trodAll_below hl hb hr.2 h2, rfl⟩
   obtain ⟨m, hm⟩ := h1
   exact DataW.trod_lt m _ _ _ hm
theorem law_calls {n f : Nat} {fn : Func} {body : Code} {r : Reach} {b : Nat} {ts : List TypeId} {tys : List (Ty × Bool)} {args : Array Value} {ds : List (DataW H)} {ps : List MemPlace} (hf : P.funcs[f]? = some fn) (hb : fn.body = some body)
 (hn : (fn.name == "runtime.NumGoroutine") = false) (hty : ts.mapM (argTy P n) = some tys)
 (ht : DataW.TrodAll enc P w 0 (fun _ => true) true ts args.toList ds ps) (hv : ∀ (j : Nat) t v, ts[j]? = some t -> args[j]? = some v -> Value.okWide P w r b t v) (hw : ∀ x ∈ DataW.weightsEach P ts ds, x <= reachBytes)
 (hgl : ∀ b l, glob b = some l -> ∀ (k : Nat) v, l[k]? = some v -> w.cell? ⟨b, k, none⟩ = some v) (hgi : ∀ b, globI b = true -> ∃ m, w.cell? ⟨b, 0, none⟩ = some (.int .i64 m))
 (hlaw : ∀ xs, ShAs tys xs -> VCall P f xs [] fun out _ => out = .ret (.bool true)) : Calls P f args w fun e w' => e = .returned (.bool true) /\ Below w.heap.size w w' := by
 obtain ⟨xs, h1, h2, h3⟩ := args_V hty ht (fun j t v h h' => hv j t v h (by simpa using h')) hw
 have hc := VCall.open (hlaw xs h3)
 have hinit : WInv ⟨w, 0, fun _ => 0, fun b _ => b < w.heap.size, Owns ⟨fun _ => 0, fun b _ => b < w.heap.size, fun _ => ⟨0, 0, 0⟩⟩ []⟩ ⟨fun _ => 0, fun b _ => b < w.heap.size, fun _ => ⟨0, 0, 0⟩⟩ w [] 0 :=
  ⟨rfl, rfl, rfl, Nat.le_refl _, fun _ _ _ => rfl, Nat.le_refl _, fun o x h => by simp at h, fun o x h => by simp at h, fun o o' x x' h => by simp at h, fun o x _ h => by simp at h, fun o x h => by simp at h, fun _ _ h => h, fun _ _ _ _ h => h, fun _ _ h => h,
   fun o T cs k h => by simp at h, fun o x k h => by simp at h, fun i h => absurd h (by omega), fun i j h => absurd h (by omega), fun _ _ _ => rfl⟩
 refine (Does.calls hf hb hn).1 ((hc w ⟨fun _ => 0, fun b _ => b < w.heap.size, fun _ => ⟨0, 0, 0⟩⟩ args hinit (by simpa using h1) (fun k v x hx hy => ?_) ⟨fun b l hb k v hk => ⟨hgl b l hb k v hk, ?_⟩, fun b hb => (hgi b hb).imp fun m h => ⟨h, ?_⟩⟩).mono fun e w' he => ?_)
 · obtain ⟨a1, a2⟩ := h2 k v x hx (by simpa using hy)
   exact ⟨a1, .of_no a2⟩
 · show b < w.heap.size
   have h := hgl b l hb k v hk
   rcases Nat.lt_or_ge b w.heap.size with h1 | h1
   · exact h1
   · unfold World.cell? at h
     rw [Array.getElem?_eq_none h1] at h
     cases h
 · show b < w.heap.size
   rcases Nat.lt_or_ge b w.heap.size with h1 | h1
   · exact h1
   · unfold World.cell? at h
     rw [Array.getElem?_eq_none h1] at h
     cases h
 · obtain ⟨out, ob', g', rfl, hwi, hend⟩ := he
   cases e with
   | returned x =>
     have hx := hend.rel
     cases hx
     exact ⟨rfl, hwi.os, hwi.tape, hwi.output, hwi.size, fun k hk => hwi.keep k hk (fun ⟨o, x, ho, _⟩ => by simp at ho)⟩
   | _ => exact hend.elim
end
end VL

namespace VL
open Go Go.RowKit Go.ChangeShapes
theorem trodAll_length {H : Type} {enc : TypeId × Value -> H} {P : Program} {W : World} {b : Nat} {sp : Nat -> Bool} {hd : Bool} : ∀ {ts : List TypeId} {vs : List Value} {ds : List (DataW H)} {ps : List MemPlace},
 DataW.TrodAll enc P W b sp hd ts vs ds ps -> ds.length = ts.length
 | [], [], [], _, _ => rfl
 | [], [], _ :: _, _, h => h.elim
 | [], _ :: _, _, _, h => h.elim
 | _ :: _, [], _, _, h => h.elim
 | _ :: _, _ :: _, [], _, h => h.elim
 | t :: ts, v :: vs, d :: ds, ps, h => by
   obtain ⟨p, q, h1, h2, rfl⟩ := h
   simp [trodAll_length h2]
theorem law_lift {C : Checked} {H : Type} {enc : TypeId × Value -> H} {f : FuncId} {fn : Func} {s : ChangeSpec} {n : Nat} {tys : List (Ty × Bool)} {ts : List TypeId} {tb : TypeId} (hts : fn.params.toList = ts) (hl : laidOutB C.prog = true)
 (hty : ts.mapM (argTy C.prog n) = some tys) (hvars : s.vars = []) (hrt : fn.resultTypes = #[tb]) (htb : C.prog.underlying tb = some .bool)
 (hread : (ts.all fun t => C.prog.readableRec t && decide (t < C.prog.types.size)) = true)
 (hs : ∀ ds : List (DataW H), ds.length = ts.length -> s.fn H ds = { results := [.lit (.bool true)], args := ds, vars := [] })
 {body : Code} (hf : C.prog.funcs[f]? = some fn) (hb : fn.body = some body) (hn : (fn.name == "runtime.NumGoroutine") = false)
 (hlaw : ∀ xs, ShAs tys xs -> VCall C.prog f xs [] fun out _ => out = .ret (.bool true))
 (W : World) (base : Nat) (args : Array Value) (ds gs : List (DataW H)) (before : List MemPlace)
 (hval : ∀ (j : Nat) t v, fn.params[j]? = some t -> args[j]? = some v -> Value.okWide C.prog W .any base t v)
 (hW : DataW.Whole enc C.prog fn.params.toList s.vars false W args.toList ds gs before)
 (hsz : (DataW.weightsEach C.prog (fn.params.toList ++ s.plain.varTypes C.prog) (ds ++ gs)).all (· <= reachBytes) = true)
 (hgl : ∀ b l, glob b = some l -> ∀ (k : Nat) v, l[k]? = some v -> W.cell? ⟨b, k, none⟩ = some v := by intro b l h; cases h)
 (hgi : ∀ b, globI b = true -> ∃ m, W.cell? ⟨b, 0, none⟩ = some (.int .i64 m) := by intro b h; cases h) :
 Calls C.prog f args W fun e W' => ∃ v, e = .returned v /\ s.post enc C.prog fn false true false false W args v W' := by
 have hW' := hW
 obtain ⟨p, q, hA, hV, rfl, _, _⟩ := hW
 rw [hvars] at hV
 obtain ⟨rfl, rfl⟩ := trodVars_none hV
 have hpl : s.plain.varTypes C.prog = [] := by simp [DataSpec.varTypes, ChangeSpec.plain, hvars]
 rw [hpl, List.append_nil, List.append_nil] at hsz
 rw [hts] at hA hsz
 have hlen := trodAll_length hA
 have hlt : ∀ x ∈ p ++ [], x.block < W.heap.size := fun x hx => by simpa using hW'.lt x hx
 refine (law_calls (r := .any) (b := base) hf hb hn hty hA (fun j t v h1 h2 => hval j t v (by rw [← hts] at h1; simpa using h1) h2) (fun x hx => by simpa using List.all_eq_true.1 hsz x hx) hgl hgi hlaw).mono fun e W' ⟨he, hb⟩ => ?_
 have hs' := hs ds hlen
 refine ⟨_, he, ds, [], p ++ [], [], p, [], hW', ?_, ?_, ?_, hb.frame _, fun h => by cases h⟩
 · rw [List.append_nil, hs', hrt]
   exact trodAll_mk1 (shut_bool htb true)
 · rw [List.append_nil, hs', hts]
   exact trodAll_below hl hb hread hA
 · rw [hvars, List.append_nil, hs']; exact rfl
end VL

namespace VL
open Go
theorem VLoop.indW {P : Program} {m : Nat} {code : Code} {K : Ex -> St -> Prop} {α : Type} (S : α -> St) (R : α -> Nat) (Inv : α -> Prop) (h : ∀ x, Inv x -> (∀ y, Inv y -> R y < R x -> VLoop P m code (S y) K) -> VLoop P m code (S x) K) (x0 : α) (h0 : Inv x0) : VLoop P m code (S x0) K := by
 have key : ∀ n x, R x < n -> Inv x -> VLoop P m code (S x) K := fun n => by
  induction n with
  | zero => intro x hx; omega
  | succ n ih => intro x hx hi; exact h x hi fun y hy hr => ih y (by omega) hy
 exact key _ x0 (Nat.lt_succ_self _) h0
theorem wrap64 {x : Int} (h1 : -9223372036854775808 <= x) (h2 : x <= 9223372036854775807) : IntKind.i64.wrap x = x := by rw [IntKind.wrap_i64]; omega
theorem yes {b : Bool} {x y : Prop} (hb : b = true) (h : x) : @Bool.rec (fun _ => Prop) y x b := by subst hb; exact h
theorem no {b : Bool} {x y : Prop} (hb : b = false) (h : y) : @Bool.rec (fun _ => Prop) y x b := by subst hb; exact h
def bL (l : List Int) : List V := l.map (V.int .u8)
theorem bL_len (l : List Int) : (bL l).length = l.length := by simp [bL]
theorem bL_get (l : List Int) (i : Nat) : (bL l)[i]? = (l[i]?).map (V.int .u8) := by simp [bL]
def sB (s : ByteArray) : List Int := s.data.toList.map fun b => (b.toNat : Int)
theorem bytesV_eq (s : ByteArray) : bytesV s = bL (sB s) := by simp [bytesV, bL, sB]
theorem sB_len (s : ByteArray) : (sB s).length = s.size := by unfold sB; rw [List.length_map, Array.length_toList]; rfl
theorem sB_byte (s : ByteArray) : ∀ x ∈ sB s, 0 <= x /\ x < 256 := by
 intro x hx
 obtain ⟨b, _, rfl⟩ := List.mem_map.1 hx
 have := b.toNat_lt
 omega
def toBA (l : List Int) : ByteArray := ⟨(l.map fun x => UInt8.ofNat x.toNat).toArray⟩
theorem sB_toBA {l : List Int} (h : ∀ x ∈ l, 0 <= x /\ x < 256) : sB (toBA l) = l := by
 simp only [sB, toBA, List.map_map]
 conv => rhs; rw [← List.map_id l]
 apply List.map_congr_left
 intro x hx
 have := h x hx
 simp only [Function.comp, id, UInt8.toNat_ofNat', Nat.reducePow]
 omega
theorem toBA_sB (s : ByteArray) : toBA (sB s) = s := by
 have : ∀ b : UInt8, UInt8.ofNat ((b.toNat : Int)).toNat = b := fun b => by rw [Int.toNat_natCast, UInt8.ofNat_toNat]
 unfold sB toBA
 rw [List.map_map]
 have e : ((fun x : Int => UInt8.ofNat x.toNat) ∘ fun b : UInt8 => (b.toNat : Int)) = id := funext this
 rw [e, List.map_id]
theorem toBA_V {l : List Int} (h : ∀ x ∈ l, 0 <= x /\ x < 256) : bL l = bytesV (toBA l) := by rw [bytesV_eq, sB_toBA h]
theorem toBA_size (l : List Int) : (toBA l).size = l.length := by unfold toBA; show (List.map _ l).toArray.size = _; rw [List.size_toArray, List.length_map]
theorem ShTs.int {k : IntKind} {r : List Ty} {vs : List V} (h : ShTs (.int k :: r) vs) : ∃ n b, vs = .int k n :: b /\ (Lit.int k n).wf = true /\ ShTs r b := by
 simp only [ShTs, ShT] at h
 obtain ⟨a, b, rfl, ⟨n, rfl, hw⟩, hb⟩ := h
 exact ⟨n, b, rfl, hw, hb⟩
theorem ints_of {k : IntKind} : ∀ {l : List V}, (∀ x ∈ l, ∃ n, [x] = [V.int k n] /\ (Lit.int k n).wf = true) -> ∃ ns : List Int, l = ns.map (V.int k) /\ ∀ n ∈ ns, (Lit.int k n).wf = true
 | [], _ => ⟨[], rfl, by simp⟩
 | x :: r, h => by
   obtain ⟨n, hn, hw⟩ := h x (.head _)
   obtain ⟨ns, h1, h2⟩ := ints_of (l := r) fun y hy => h y (.tail _ hy)
   simp only [List.cons.injEq, and_true] at hn
   subst hn
   exact ⟨n :: ns, by rw [h1]; rfl, fun m hm => by
    cases hm with
    | head => exact hw
    | tail _ hm => exact h2 m hm⟩
end VL

namespace VL
theorem bsx : (∀ (p : Prop) [Decidable p], (decide p = true) = p) /\ (∀ (p : Prop) [Decidable p], (decide p = false) ↔ ¬p) /\ (∀ b : Bool, ((!b) = true) = (b = false)) /\ (∀ b : Bool, ((!b) = false) = (b = true)) /\
 (∀ (α : Type) [BEq α] [LawfulBEq α] (a b : α), (a == b) = true ↔ a = b) /\ (∀ (α : Type) [BEq α] [LawfulBEq α] (a b : α), (a == b) = false ↔ a ≠ b) /\
 (∀ (α : Type) [BEq α] [LawfulBEq α] (a b : α), (a != b) = true ↔ a ≠ b) /\ (∀ (α : Type) [BEq α] [LawfulBEq α] (a b : α), (a != b) = false ↔ a = b) /\
 (∀ (α : Type) (a b : α), (a ≠ b) = ¬(a = b)) /\ (∀ (α : Type) [LT α] (x y : α), x > y ↔ y < x) /\ (∀ (α : Type) [LE α] (x y : α), x ≥ y ↔ y <= x) /\
 (∀ a b : Int, ¬a < b ↔ b <= a) /\ (∀ a b : Int, ¬a <= b ↔ b < a) /\ (∀ a b : Nat, ¬a < b ↔ b <= a) /\ (∀ a b : Nat, ¬a <= b ↔ b < a) /\
 (∀ b : Bool, (¬(b = true)) = (b = false)) /\ (∀ b : Bool, (¬(b = false)) = (b = true)) /\ (∀ (p : Prop) [Decidable p], ¬¬p ↔ p) :=
 ⟨fun _ _ => decide_eq_true_eq, fun _ _ => decide_eq_false_iff_not, fun b => by cases b <;> simp, fun b => by cases b <;> simp, fun _ _ _ _ _ => beq_iff_eq, fun _ _ _ _ _ => beq_eq_false_iff_ne, fun _ _ _ _ _ => bne_iff_ne, fun _ _ _ _ _ => bne_eq_false_iff_eq,
  fun _ _ _ => ne_eq _ _, fun _ _ _ _ => gt_iff_lt, fun _ _ _ _ => ge_iff_le, fun _ _ => Int.not_lt, fun _ _ => Int.not_le, fun _ _ => Nat.not_lt, fun _ _ => Nat.not_le, fun b => by cases b <;> simp, fun b => by cases b <;> simp, fun _ _ => Decidable.not_not⟩
end VL

namespace VL
open Go
theorem ba_loop (b : ByteArray) : ∀ (k i : Nat) (r : List UInt8), i + k = b.size -> ByteArray.toList.loop b i r = r.reverse ++ b.data.toList.drop i := by
 intro k
 induction k with
 | zero =>
   intro i r h
   rw [ByteArray.toList.loop]
   rw [if_neg (by omega), List.drop_eq_nil_of_le (by rw [Array.length_toList]; show b.size <= i; omega), List.append_nil]
 | succ k ih =>
   intro i r h
   rw [ByteArray.toList.loop]
   have hi : i < b.size := by omega
   rw [if_pos hi, ih (i + 1) _ (by omega)]
   have hl : i < b.data.toList.length := by rw [Array.length_toList]; exact hi
   rw [List.drop_eq_getElem_cons hl, List.reverse_cons, List.append_assoc]
   congr 1
   show [b.get! i] ++ _ = _
   rw [List.singleton_append]
   congr 1
   show b.data[i]! = _
   rw [getElem!_pos b.data i hi]; simp
theorem ba_toList (b : ByteArray) : b.toList = b.data.toList := by
 unfold ByteArray.toList
 rw [ba_loop b b.size 0 [] (by omega)]; simp
theorem sB_inj {a b : ByteArray} (h : sB a = sB b) : a = b := by
 rw [← toBA_sB a, ← toBA_sB b, h]
theorem sB_app (a b : ByteArray) : sB (a ++ b) = sB a ++ sB b := by
 unfold sB; simp
theorem sB_ext (s : ByteArray) (i j : Nat) : sB (s.extract i j) = ((sB s).take j).drop i := by
 unfold sB; simp [ByteArray.data_extract, List.extract_eq_drop_take', List.map_drop, List.map_take]
theorem str_beq (a b : ByteArray) : (a.toList == b.toList) = (sB a == sB b) := by
 rw [ba_toList, ba_toList, Bool.eq_iff_iff]
 simp only [beq_iff_eq]
 constructor
 · intro h; unfold sB; rw [h]
 · intro h; have := sB_inj h; rw [this]
theorem str_get {s : ByteArray} {i : Nat} (h : i < s.size) : ∃ c, s[i]? = some c /\ (sB s)[i]? = some (c.toNat : Int) := by
 refine ⟨s[i], by simp [h], ?_⟩
 unfold sB
 have : i < s.data.toList.length := by rw [Array.length_toList]; exact h
 rw [List.getElem?_map, List.getElem?_eq_getElem this, Array.getElem_toList]
 rfl
theorem idx_str {s : ByteArray} {n : Int} {P : UInt8 -> Prop} {x : Int} (hn : 0 <= n) (hx : (sB s)[n.toNat]? = some x) (h : ∀ c : UInt8, (c.toNat : Int) = x -> P c) : 0 <= n /\ ∃ c, s[n.toNat]? = some c /\ P c := by
 have hl : n.toNat < s.size := by rw [← sB_len]; exact (List.getElem?_eq_some_iff.1 hx).1
 obtain ⟨c, h1, h2⟩ := str_get hl
 rw [hx] at h2
 exact ⟨hn, c, h1, h c (by simpa using h2.symm)⟩
theorem toBA_app (a b : List Int) : toBA a ++ toBA b = toBA (a ++ b) := by
 have : ∀ x y : ByteArray, x.data = y.data -> x = y := fun x y h => by cases x; cases y; simp_all
 apply this
 simp [toBA]
end VL

namespace VL
open Go
theorem c_noEscape {P : Program} {f : FuncId} {fn : Func} (hf : P.funcs[f]? = some fn) (hname : (fn.name == "runtime.NumGoroutine") = false) (hb : fn.body.isNone = true) (hn : Extern.findNext fn = none) (he : Extern.find fn = some Extern.AbiNoEscape.same)
 {i off : Nat} {ob : List VObj} {K : Out -> List VObj -> Prop} (h : K (.ret (.ptr i off)) ob) : VCall P f [.ptr i off] ob K := by
 refine .shut fun w g cargs hwi hsz hr hgl => ?_
 obtain ⟨x, rfl⟩ : ∃ x, cargs = #[x] := by
  match cargs, hsz with
  | ⟨[x]⟩, _ => exact ⟨x, rfl⟩
 have hx := hr 0 _ x rfl rfl
 have hrun : (Extern.AbiNoEscape.same #[x]).run P w = .ok x w := rfl
 unfold Does
 rw [run_callFunc_extern hf hname hb hn he, hrun]
 simp only [Result.andThen]
 exact ⟨_, _, g, h, hwi, hx⟩
theorem digits_u8 : ∀ (n q : Nat) (acc : Array Value), (∀ c ∈ acc.toList, ∃ x, c = .int .u8 x) -> ∀ c ∈ (Extern.BytealgMakeNoZero.digits n q acc).toList, ∃ x, c = .int .u8 x
 | 0, _, _, h => h
 | n + 1, q, acc, h => digits_u8 n (q / 256) _ fun c hc => by
   rw [Array.toList_push] at hc
   rcases List.mem_append.1 hc with hc | hc
   · exact h c hc
   · rw [List.mem_singleton.1 hc]; exact ⟨_, rfl⟩
theorem run_makeNoZero {P : Program} (w : World) (ps : Array TypeId) (t e : TypeId) (ht : P.underlying t = some (.slice e)) (n : Nat) (hn : n <= 281474976710656) :
 ∃ xs : List Int, (Extern.BytealgMakeNoZero.makeNoZero ps #[t] #[.int .i64 n]).run P w = .ok (.slice (some ⟨w.heap.size, 0, none⟩) n xs.length) (w.drew.drew.alloc (.cells (xs.map (Value.int .u8)).toArray e)) /\ n <= xs.length := by
 have hdef : Extern.BytealgMakeNoZero.makeNoZero ps #[t] #[.int .i64 n] =
  (do
    let .slice elem ← underlying t | stuck "bytealg.MakeNoZero: slice type expected"
    if (n : Int) < 0 || (n : Int) > 2 ^ 48 then runtimePanic (.error "makeslice: len out of range")
    let cap ← choose (.appendCap (n : Int).toNat 0 elem)
    askRoom cap
    let bytes ← choose (.extern "internal/bytealg.MakeNoZero.bytes" 0)
    let a ← newRow elem (Extern.BytealgMakeNoZero.digits cap bytes #[])
    pure (.slice (some a) (n : Int).toNat cap)) := rfl
 obtain ⟨xs, hxs⟩ : ∃ xs : List Int, (Extern.BytealgMakeNoZero.digits (grownCap w n 0 e) ((Question.extern "internal/bytealg.MakeNoZero.bytes" 0).cut (w.tape (w.drawn + 1) (.extern "internal/bytealg.MakeNoZero.bytes" 0))) #[]).toList = xs.map (Value.int .u8) := by
  have h := digits_u8 (grownCap w n 0 e) ((Question.extern "internal/bytealg.MakeNoZero.bytes" 0).cut (w.tape (w.drawn + 1) (.extern "internal/bytealg.MakeNoZero.bytes" 0))) #[] (by simp)
  generalize (Extern.BytealgMakeNoZero.digits _ _ _).toList = l at h ⊢
  induction l with
  | nil => exact ⟨[], rfl⟩
  | cons c r ih =>
    obtain ⟨xs, hx⟩ := ih fun c hc => h c (List.mem_cons_of_mem _ hc)
    obtain ⟨x, rfl⟩ := h c (by simp)
    exact ⟨x :: xs, by rw [hx]; rfl⟩
 have hsz : xs.length = grownCap w n 0 e := by
  have := congrArg List.length hxs
  rw [Array.length_toList, Lib.size_digits, List.length_map] at this
  simpa using this.symm
 have harr : (xs.map (Value.int .u8)).toArray = Extern.BytealgMakeNoZero.digits (grownCap w n 0 e) ((Question.extern "internal/bytealg.MakeNoZero.bytes" 0).cut (w.tape (w.drawn + 1) (.extern "internal/bytealg.MakeNoZero.bytes" 0))) #[] := by
  rw [← hxs]
 refine ⟨xs, ?_, ?_⟩
 · rw [hdef, harr, hsz]
   have h1 : ¬ (n : Int) < 0 := by omega
   have h2 : ¬ (281474976710656 : Int) < (n : Int) := by omega
   simp [run_underlying ht, h1, h2, Question.forced, newRow, Lib.size_digits, grownCap]
 · rw [hsz]
   simpa using grownCap_ge w n 0 e
theorem c_makeNoZero {P : Program} {f : FuncId} {fn : Func} {ps : Array TypeId} {t e : TypeId} (hf : P.funcs[f]? = some fn) (hname : (fn.name == "runtime.NumGoroutine") = false) (hb : fn.body.isNone = true) (hn : Extern.findNext fn = none)
 (he : Extern.find fn = some (Extern.BytealgMakeNoZero.makeNoZero ps #[t])) (ht : P.underlying t = some (.slice e)) {n : Int} (h0 : 0 <= n) (h1 : n <= 140737488355328) {K : Out -> List VObj -> Prop}
 (h : ∀ xs : List Int, n.toNat <= xs.length -> K (.ret (.slo 0 1 0 n.toNat xs.length)) [.buf false 1 (xs.map (V.int .u8)) (some e)]) : VCall P f [.int .i64 n] [] K := by
 refine .shut fun w g cargs hwi hsz hr hgl => ?_
 obtain ⟨x, rfl⟩ : ∃ x, cargs = #[x] := by
  match cargs, hsz with
  | ⟨[x]⟩, _ => exact ⟨x, rfl⟩
 have hx := (hr 0 _ x rfl rfl).rel
 cases hx
 obtain ⟨xs, hrun, hle⟩ := run_makeNoZero (P := P) w ps t e ht n.toNat (by omega)
 rw [Int.toNat_of_nonneg h0] at hrun
 unfold Does
 rw [run_callFunc_extern hf hname hb hn he, hrun]
 simp only [Result.andThen]
 have hw := WInv.alloc hwi.drew.drew (.cells (xs.map (Value.int .u8)).toArray e) (.buf false 1 (xs.map (V.int .u8)) (some e)) (.inr ⟨_, e, heap_alloc_new _ _, by simp, by simp, fun y hy => by
  obtain ⟨n, _, rfl⟩ := List.mem_map.1 hy
  exact ⟨rfl, rfl⟩, fun k u y hu hy => by
  have hfl : (xs.map (V.int .u8)).flatMap V.cells = xs.map (V.int .u8) := by
   clear hu hy hrun hle h
   induction xs with
   | nil => rfl
   | cons a r ih => simp [V.cells, ih]
  rw [hfl, List.getElem?_map] at hu
  rw [List.getElem?_toArray, List.getElem?_map] at hy
  cases hq : xs[k]? with
  | none => rw [hq] at hu; cases hu
  | some q =>
    rw [hq] at hu hy
    cases hu; cases hy
    exact ⟨.int, rfl⟩⟩)
 refine ⟨_, _, _, h xs hle, hw, ?_⟩
 refine .of ?_ rfl
 refine .slo (by simp) hle (.inr ?_) (.inr ⟨_, _, rfl⟩)
 simp
end VL

namespace VL
open Go
theorem calls_ss {P : Program} {f : FuncId} {fn : Func} {body : Code} (hf : P.funcs[f]? = some fn) (hb : fn.body = some body) (hn : (fn.name == "runtime.NumGoroutine") = false) {s t : ByteArray} {r : V} {x : Value}
 (hr : ∀ bs I w n, VRel bs I w n r x) (ht : r.noTok = true) (hc : ∀ w : World, (∀ b, globI b = true -> ∃ m, w.cell? ⟨b, 0, none⟩ = some (.int .i64 m)) -> Calls P f #[.string s, .string t] w fun e w' => e = .returned x /\ w' = w)
 {K : Out -> List VObj -> Prop} (h : K (.ret r) []) : VCall P f [.str s, .str t] [] K := by
 refine .shut fun w g cargs hwi hsz hrel hgl => ?_
 obtain ⟨x, y, rfl⟩ : ∃ x y, cargs = #[x, y] := by
  match cargs, hsz with
  | ⟨[x, y]⟩, _ => exact ⟨x, y, rfl⟩
 have hx := (hrel 0 _ x rfl rfl).rel
 have hy := (hrel 1 _ y rfl rfl).rel
 cases hx
 cases hy
 refine (Does.calls hf hb hn).2 ((hc w fun b hb => (hgl.2 b hb).imp fun m h => h.1).mono ?_)
 rintro e w' ⟨rfl, rfl⟩
 exact ⟨.ret r, [], g, h, hwi, ⟨hr _ _ _ _, .of_no ht⟩⟩
end VL

namespace VL
open Go
def V.isInt : V -> Bool
 | .int _ _ => true
 | _ => false
def lendC1 (ob : List VObj) : V -> (V -> Prop) -> Prop
 | .slo o z lo n c, K => getK ob o fun x => match x with
   | .buf false z' L => (match Nat.beq z z' with | true => lo + c <= L.length /\ K (.sl ((L.drop lo).take n) .no) | false => False)
   | .cells _ _ cs => (match Nat.beq z 1 && ((cs.drop lo).take c).all V.isInt with | true => lo + c <= cs.length /\ K (.sl ((cs.drop lo).take n) .no) | false => False)
   | _ => False
 | .int k n, K => K (.int k n)
 | .bool b, K => K (.bool b)
 | .str s, K => K (.str s)
 | .sl l r, K => K (.sl l .no)
 | .fn (.func f) [] [], K => K (.fn (.func f) [] [])
 | _, _ => False
def lendCP (ob : List VObj) : V -> (V -> Prop) -> Prop
 | .agg l, K => mapK (lendC1 ob) l fun l => K (.agg l)
 | v, K => lendC1 ob v K
def G.lentC (g : G) (ob : List VObj) : G := { g with I := fun b k => g.I b k \/ (∃ (i z : Nat) (L : List V), ob[i]? = some (.buf false z L) /\ L ≠ [] /\ b = g.bs i /\ k < L.length * z) \/
 ∃ (i : Nat) (m : Bool) (T : TypeId) (cs : List V) (v : V), ob[i]? = some (.cells m T cs) /\ b = g.bs i /\ cs[k]? = some v /\ v.isInt = true }
theorem flat_int : ∀ {l : List V}, (∀ v ∈ l, v.isInt = true) -> l.flatMap V.cells = l
 | [], _ => rfl
 | v :: r, h => by
   have h1 := h v (.head _)
   have h2 := flat_int (l := r) fun v hv => h v (.tail _ hv)
   rw [List.flatMap_cons, h2]
   cases v <;> first | rfl | cases h1
theorem frzC_sl {g : G} {w : World} {n nt i lo m c : Nat} {mv : Bool} {T : TypeId} {cs : List V} {x : Value} {I' : Nat -> Nat -> Prop} (hr : ORel g w n nt (g.bs i) (.cells mv T cs)) (h : VRel g.bs I' w n (.slo i 1 lo m c) x)
 (hi : ∀ v ∈ (cs.drop lo).take c, v.isInt = true) (hb : lo + c <= cs.length) (hI : ∀ k v, cs[k]? = some v -> v.isInt = true -> I' (g.bs i) k) :
 VRel g.bs I' w n (.sl ((cs.drop lo).take m) .no) x := by
 cases h with | @slo _ _ _ _ _ _ ad hlt hle ha hf =>
 have hml : ((cs.drop lo).take m).length = m := by simp; omega
 rcases Nat.eq_zero_or_pos c with hc | hc
 · subst hc
   have hm0 : m = 0 := by omega
   subst hm0
   rw [List.take_zero]
   rcases hf with rfl | ⟨b, k, rfl⟩
   · exact .slnil
   · exact .sl (sz := 0) (fun _ => undef) rfl (Nat.le_refl _) (by simp) (by simp) (by simp) (by simp)
 · obtain rfl := ha.resolve_left (by omega)
   obtain ⟨arr, a1, a2, a3⟩ := hr
   have hsub : ∀ v ∈ (cs.drop lo).take m, v.isInt = true := fun v hv => hi v (by
    rw [show m = min m c by omega, ← List.take_take] at hv
    exact List.mem_of_mem_take hv)
   have key : ∀ (k : Nat) v, ((cs.drop lo).take m)[k]? = some v -> (w.cell? ⟨g.bs i, lo * 1 + k, none⟩ = some (arr.getD (lo * 1 + k) undef) /\ I' (g.bs i) (lo * 1 + k)) /\ VRel g.bs I' w 0 v (arr.getD (lo * 1 + k) undef) := fun k v hk => by
    have hvi := hsub v (List.mem_of_getElem? hk)
    have hkm : k < m := by
     have := (List.getElem?_eq_some_iff.1 hk).1
     rw [hml] at this; exact this
    rw [List.getElem?_take, if_pos hkm, List.getElem?_drop] at hk
    have hja : lo * 1 + k < arr.size := by omega
    have hjb : lo + k < arr.size := by omega
    have hg : arr.getD (lo * 1 + k) undef = arr[lo * 1 + k] := by simp [Array.getD, hjb]
    have hk1 : cs[lo * 1 + k]? = some v := by rw [Nat.mul_one]; exact hk
    refine ⟨⟨by simp [World.cell?, a1, Array.getD, hjb], hI _ v hk1 hvi⟩, ?_⟩
    rw [hg]
    have hv := (a3 _ v _ hk1 (show arr[lo * 1 + k]? = some arr[lo * 1 + k] by simp [hja])).1.rel
    cases v <;> first | cases hvi | skip
    generalize arr[lo * 1 + k] = y at hv
    cases hv
    exact .int
   exact .sl (sz := 1) (fun k => arr.getD (lo * 1 + k) undef) hml.symm hle (by simp) (fun y hy => by
    have := hsub y hy
    cases y <;> first | exact ⟨rfl, by decide⟩ | cases this | skip
    exact ⟨rfl, by simp [V.cells, V.okCell]⟩)
    (fun k v hk => (key k v (by rwa [flat_int hsub] at hk)).1) (fun k v hk => (key k v (by rwa [flat_int hsub] at hk)).2)
theorem lendC1_sound {g : G} {w : World} {ob : List VObj} (hrow : ∀ (i z : Nat) (L : List V), ob[i]? = some (.buf false z L) -> Row (g.lentC ob) w i z L)
 (hcel : ∀ (i : Nat) (m : Bool) (T : TypeId) (cs : List V), ob[i]? = some (.cells m T cs) -> ORel g w ob.length 0 (g.bs i) (.cells m T cs)) (hI : ∀ b k, g.I b k -> (g.lentC ob).I b k) {v : V} {K : V -> Prop} (h : lendC1 ob v K) :
 ∃ v', (∀ x, VRel g.bs g.I w ob.length v x -> VRel (g.lentC ob).bs (g.lentC ob).I w 0 v' x) /\ v'.noTok = true /\ K v' := by
 have hm : ∀ {v x}, VRel g.bs g.I w 0 v x -> VRel (g.lentC ob).bs (g.lentC ob).I w 0 v x := fun h => h.mono (fun o ho => absurd ho (by omega)) fun b k h => ⟨hI b k h, rfl⟩
 unfold lendC1 at h
 split at h
 · obtain ⟨x1, hx1, h2⟩ := getK_iff h
   clear h
   split at h2
   · split at h2
     · rename_i L _ hz
       have hz := Nat.eq_of_beq_eq_true hz
       subst hz
       refine ⟨_, fun x hv => ?_, ?_, h2.2⟩
       · have hr := hrow _ _ _ hx1
         have hv' : VRel (g.lentC ob).bs (g.lentC ob).I w ob.length _ x := hv.mono (fun o ho => ⟨ho, rfl⟩) fun b k h => ⟨hI b k h, rfl⟩
         exact (frz_sl (sp := false) hr hv' h2.1).2.low rfl
       · rfl
     · exact h2.elim
   · split at h2
     · rename_i cs hz
       rw [Bool.and_eq_true] at hz
       have hz1 := Nat.eq_of_beq_eq_true hz.1
       subst hz1
       refine ⟨_, fun x hv => ?_, ?_, h2.2⟩
       · have hr := hcel _ _ _ _ hx1
         have hv' : VRel (g.lentC ob).bs (g.lentC ob).I w ob.length _ x := hv.mono (fun o ho => ⟨ho, rfl⟩) fun b k h => ⟨hI b k h, rfl⟩
         exact (frzC_sl hr hv' (List.all_eq_true.1 hz.2) h2.1 fun k v hk hvi => .inr (.inr ⟨_, _, _, _, _, hx1, rfl, hk, hvi⟩)).low rfl
       · rfl
     · exact h2.elim
   · exact h2.elim
 · exact ⟨_, fun x hx => hm (hx.low rfl), rfl, h⟩
 · exact ⟨_, fun x hx => hm (hx.low rfl), rfl, h⟩
 · exact ⟨_, fun x hx => hm (hx.low rfl), rfl, h⟩
 · exact ⟨_, fun x hx => hm ((hx.room .no (by simp)).low rfl), rfl, h⟩
 · exact ⟨_, fun x hx => hm (hx.low rfl), rfl, h⟩
 · exact h.elim
theorem lendC_list {g : G} {w : World} {ob : List VObj} (hrow : ∀ (i z : Nat) (L : List V), ob[i]? = some (.buf false z L) -> Row (g.lentC ob) w i z L)
 (hcel : ∀ (i : Nat) (m : Bool) (T : TypeId) (cs : List V), ob[i]? = some (.cells m T cs) -> ORel g w ob.length 0 (g.bs i) (.cells m T cs)) (hI : ∀ b k, g.I b k -> (g.lentC ob).I b k) :
 ∀ {l : List V} {K : List V -> Prop}, mapK (lendC1 ob) l K -> ∃ l', l'.length = l.length /\ (∀ (k : Nat) v', l'[k]? = some v' -> ∃ v, l[k]? = some v /\ ∀ x, VRel g.bs g.I w ob.length v x -> VRel (g.lentC ob).bs (g.lentC ob).I w 0 v' x) /\ (∀ v ∈ l', v.noTok = true) /\ K l'
 | [], K, h => ⟨[], rfl, by simp, by simp, h⟩
 | v :: r, K, h => by
   have h : lendC1 ob v fun v' => mapK (lendC1 ob) r fun r => K (v' :: r) := h
   obtain ⟨v', a1, a2, h⟩ := lendC1_sound hrow hcel hI h
   obtain ⟨r', b1, b2, b3, h⟩ := lendC_list hrow hcel hI h
   refine ⟨v' :: r', by simp [b1], fun k u hu => ?_, fun u hu => ?_, h⟩
   · cases k with
     | zero => simp at hu; subst hu; exact ⟨v, rfl, a1⟩
     | succ k => exact b2 k u (by simpa using hu)
   · rcases List.mem_cons.1 hu with rfl | hu
     · exact a2
     · exact b3 u hu
theorem lendC_args {g : G} {w : World} {ob : List VObj} (hrow : ∀ (i z : Nat) (L : List V), ob[i]? = some (.buf false z L) -> Row (g.lentC ob) w i z L)
 (hcel : ∀ (i : Nat) (m : Bool) (T : TypeId) (cs : List V), ob[i]? = some (.cells m T cs) -> ORel g w ob.length 0 (g.bs i) (.cells m T cs)) (hI : ∀ b k, g.I b k -> (g.lentC ob).I b k) :
 ∀ {args : List V} {K : List V -> Prop}, mapK (lendCP ob) args K -> ∃ args', args'.length = args.length /\ (∀ (k : Nat) v' , args'[k]? = some v' -> ∃ v, args[k]? = some v /\ ∀ x, VT g w ob.length 0 v x -> VT (g.lentC ob) w 0 0 v' x) /\ K args'
 | [], K, h => ⟨[], rfl, by simp, h⟩
 | v :: r, K, h => by
   have key : ∀ v' : V, (∀ x, VT g w ob.length 0 v x -> VT (g.lentC ob) w 0 0 v' x) -> mapK (lendCP ob) r (fun r => K (v' :: r)) -> ∃ args', args'.length = (v :: r).length /\ (∀ (k : Nat) v' , args'[k]? = some v' -> ∃ u, (v :: r)[k]? = some u /\ ∀ x, VT g w ob.length 0 u x -> VT (g.lentC ob) w 0 0 v' x) /\ K args' := fun v' hv h => by
    obtain ⟨r', b1, b2, h⟩ := lendC_args hrow hcel hI h
    refine ⟨v' :: r', by simp [b1], fun k u hu => ?_, h⟩
    cases k with
    | zero => simp at hu; subst hu; exact ⟨v, rfl, hv⟩
    | succ k => exact b2 k u (by simpa using hu)
   have h : lendCP ob v fun v' => mapK (lendCP ob) r fun r => K (v' :: r) := h
   unfold lendCP at h
   split at h
   · rename_i l
     obtain ⟨l', a1, a2, a3, h⟩ := lendC_list hrow hcel hI h
     refine key _ (fun x hx => .of ?_ ?_) h
     · have hr := hx.rel
       cases hr with
       | agg hl hc =>
         refine .agg (by rw [a1]; exact hl) fun k v c hk hk2 => ?_
         obtain ⟨u, hu, q⟩ := a2 k v hk
         exact q c (hc k u c hu hk2)
     · rfl
   · obtain ⟨v', a1, a2, h⟩ := lendC1_sound hrow hcel hI h
     exact key v' (fun x hx => .of (a1 x hx.rel) a2) h
theorem VCall.lendC {P : Program} {f : FuncId} {args : List V} {ob : List VObj} {K : Out -> List VObj -> Prop}
 (h : mapK (lendCP ob) args fun args' => VCall P f args' [] fun out _ => match out with | .ret v => V.bare v = true /\ K (.ret v) ob | .pan _ => False) : VCall P f args ob K := by
 refine .shut fun w g cargs hwi hsz hr hgl => ?_
 have hIl : ∀ b k, (g.lentC ob).I b k -> b < w.heap.size := by
  rintro b k (h | ⟨i, z, L, h1, h2, rfl, _⟩ | ⟨i, m, T, cs, v, h1, rfl, _⟩)
  · exact hwi.i3 b k h
  · exact hwi.lt i _ h1 (by simp [VObj.real, h2])
  · exact hwi.lt i _ h1 rfl
 have hrow : ∀ (i z : Nat) (L : List V), ob[i]? = some (.buf false z L) -> Row (g.lentC ob) w i z L := fun i z L hi => by
  refine ⟨?_⟩
  by_cases hL : L = []
  · exact .inl hL
  · obtain ⟨arr, T, a1, _, a2, a3, a4⟩ := (hwi.obj i _ hi).resolve_left hL
    exact .inr ⟨arr, T, a1, a2, a3, fun k v c hv hc => (a4 k v c hv hc).1.mono (fun o ho => absurd ho (by omega)) fun b k h => ⟨.inl h, rfl⟩, fun k hk => .inr (.inl ⟨i, z, L, hi, hL, rfl, hk⟩)⟩
 obtain ⟨args', l1, l2, h⟩ := lendC_args hrow (fun i m T cs hi => hwi.obj i _ hi) (fun b k h => .inl h) h
 have hw0 : WInv ⟨w, 0, (g.lentC ob).bs, (g.lentC ob).I, Owns (g.lentC ob) []⟩ (g.lentC ob) w [] 0 := by
  refine ⟨rfl, rfl, rfl, Nat.le_refl _, fun _ _ _ => rfl, Nat.le_refl _, by simp, by simp, by simp, by simp, by simp, fun _ _ h => h, fun _ _ _ _ h => h, hIl, by simp, by simp, fun i hi => absurd hi (by omega), fun i j hi => absurd hi (by omega), fun _ _ _ => rfl⟩
 refine (h.open w (g.lentC ob) cargs hw0 (by rw [l1]; exact hsz) (fun k v' x hv hx => ?_) ⟨fun b l hb k v hk => ⟨(hgl.1 b l hb k v hk).1, .inl (hgl.1 b l hb k v hk).2⟩, fun b hb => (hgl.2 b hb).imp fun m h => ⟨h.1, .inl h.2⟩⟩).mono fun e w' ⟨out, sub, g', hk, hw', he⟩ => ?_
 · obtain ⟨v, hv', q⟩ := l2 k v' hv
   exact q x (hr k v x hv' hx)
 · cases out with
   | pan v => exact hk.elim
   | ret v =>
     obtain ⟨hbare, hk⟩ := hk
     obtain ⟨x, rfl⟩ : ∃ x, e = .returned x := by
      cases e with
      | returned x => exact ⟨x, rfl⟩
      | _ => exact he.elim
     have hkeep : ∀ b, b < w.heap.size -> w'.heap[b]? = w.heap[b]? := fun b hb => hw'.keep b hb (by rintro ⟨o, x, h, _⟩; simp at h)
     have hcell : ∀ b k, g.I b k -> w'.cell? ⟨b, k, none⟩ = w.cell? ⟨b, k, none⟩ := fun b k hI => by
      have := hkeep b (hwi.i3 b k hI)
      simp [World.cell?, this]
     have hex : Ext g w ob.length 0 g w' ob.length 0 := ⟨Nat.le_refl _, Nat.le_refl _, fun _ _ => rfl, fun b k h => ⟨h, hcell b k h⟩, fun _ _ => rfl⟩
     refine ⟨.ret v, ob, g, hk, ?_, ⟨(he.rel).bare hbare, .of_no (by cases v <;> first | rfl | (simp [V.bare] at hbare))⟩⟩
     refine ⟨hw'.os, hw'.tape, hw'.output, hw'.size, fun b hb _ => hkeep b hb, Nat.le_refl _, fun o x hx => ?_, fun o x hx hr => Nat.lt_of_lt_of_le (hwi.lt o x hx hr) hw'.size, hwi.inj, hwi.old, hwi.new, hwi.i1, hwi.i2,
      fun b k h => Nat.lt_of_lt_of_le (hwi.i3 b k h) hw'.size, hwi.i4, hwi.i5, fun i hi => absurd hi (by omega), fun i j hi => absurd hi (by omega), fun b k h => ?_⟩
     · exact hex.orel' (hwi.obj o x hx) fun hr => hkeep _ (hwi.lt o x hx hr)
     · exact hcell b k h
end VL

namespace VL
open Go
section
variable {S : Sys} {c : Ctx} {Q : Exit -> Act -> World -> Prop}
end
end VL

namespace B1
open Go Go.Proofs VL
theorem c_bool2 (b : Bool) (K) (h : K (.ret (.int .i64 (if b then 1 else 0))) []) : VCall Tryz.prog 156 [.bool b] [] K := by
 refine call_fun [] 0 Tryz.func156 (by rfl) (by rfl) ?_
 conv=>whnf
 repeat (refine step_go [] ?_;conv=>whnf)
 cases b
 · conv=>whnf
   repeat (refine step_go [] ?_;conv=>whnf)
   exact h
 · conv=>whnf
   repeat (refine step_go [] ?_;conv=>whnf)
   exact h
theorem c_log10 (x : Int) (h0 : 0 <= x) (hx : x <= 64) (K) (h : K (.ret (.int .i64 (x * 78913 / 262144))) []) : VCall Tryz.prog 154 [.int .i64 x] [] K := by
 refine call_fun [] 0 Tryz.func154 (by rfl) (by rfl) ?_
 conv=>whnf
 repeat (refine step_go [] ?_;conv=>whnf)
 have e : shiftV .shr .i64 (IntKind.i64.wrap (x * 78913)) 18 = x * 78913 / 262144 := by
  rw [wrap64 (by omega) (by omega)]
  show (x * 78913).fdiv ((2 : Int) ^ 18) = _
  rw [Int.fdiv_eq_ediv_of_nonneg _ (by decide)]
  rfl
 refine ⟨by omega, ?_⟩
 rw [e]; conv=>whnf
 repeat (refine step_go [] ?_;conv=>whnf)
 exact h
end B1

namespace D1
open Go VL
def dg (n : Nat) : List Int := if n < 10 then [48 + (n : Int)] else dg (n / 10) ++ [48 + ((n % 10 : Nat) : Int)]
termination_by n
def dgw : Nat -> Nat -> List Int
 | 0, _ => []
 | w + 1, n => dgw w (n / 10) ++ [48 + ((n % 10 : Nat) : Int)]
def vl (l : List Int) : Nat := l.foldl (fun v c => 10 * v + (c - 48).toNat) 0
def Dig (x : Int) : Prop := 48 <= x /\ x <= 57
instance (x : Int) : Decidable (Dig x) := inferInstanceAs (Decidable (_ /\ _))
theorem dg_small {n : Nat} (h : n < 10) : dg n = [48 + (n : Int)] := by rw [dg, if_pos h]
theorem dg_big {n : Nat} (h : 10 <= n) : dg n = dg (n / 10) ++ [48 + ((n % 10 : Nat) : Int)] := by rw [dg, if_neg (by omega)]
theorem dgw_len : ∀ (w n : Nat), (dgw w n).length = w
 | 0, _ => rfl
 | w + 1, n => by simp [dgw, dgw_len w]
theorem dgw_dig : ∀ (w n : Nat), ∀ x ∈ dgw w n, Dig x
 | 0, _ => by simp [dgw]
 | w + 1, n => by
   intro x hx
   simp only [dgw, List.mem_append, List.mem_singleton] at hx
   rcases hx with hx | rfl
   · exact dgw_dig w _ x hx
   · unfold Dig; omega
theorem dg_dgw : ∀ (w n : Nat), 10 ^ w <= n -> n < 10 ^ (w + 1) -> dg n = dgw (w + 1) n
 | 0, n, h1, h2 => by rw [dg_small (by simpa using h2)]; simp at h2; simp [dgw]; omega
 | w + 1, n, h1, h2 => by
   have e : (10 : Nat) ^ (w + 1) = 10 ^ w * 10 := Nat.pow_succ ..
   have e2 : (10 : Nat) ^ (w + 1 + 1) = 10 ^ (w + 1) * 10 := Nat.pow_succ ..
   have hp : 1 <= (10 : Nat) ^ w := Nat.one_le_pow _ _ (by omega)
   rw [dg_big (by omega), dg_dgw w (n / 10) (by omega) (by omega)]
   rfl
theorem dg_dig (n : Nat) : ∀ x ∈ dg n, Dig x := by
 induction n using Nat.strongRecOn with
 | _ n ih =>
   by_cases h : n < 10
   · rw [dg_small h]; simp [Dig]; omega
   · rw [dg_big (by omega)]
     intro x hx
     simp only [List.mem_append, List.mem_singleton] at hx
     rcases hx with hx | rfl
     · exact ih _ (by omega) x hx
     · unfold Dig; omega
theorem dg_ne (n : Nat) : dg n ≠ [] := by
 by_cases h : n < 10
 · rw [dg_small h]; simp
 · rw [dg_big (by omega)]; simp
theorem dg_len_pos (n : Nat) : 0 < (dg n).length := List.length_pos_iff.2 (dg_ne n)
theorem dg_len_le : ∀ (w n : Nat), n < 10 ^ (w + 1) -> (dg n).length <= w + 1
 | 0, n, h => by rw [dg_small (by simpa using h)]; simp
 | w + 1, n, h => by
   by_cases h1 : n < 10
   · rw [dg_small h1]; simp
   · have e2 : (10 : Nat) ^ (w + 1 + 1) = 10 ^ (w + 1) * 10 := Nat.pow_succ ..
     rw [dg_big (by omega)]
     have := dg_len_le w (n / 10) (by omega)
     simp; omega
theorem dg_len_ge : ∀ (w n : Nat), 10 ^ w <= n -> w + 1 <= (dg n).length
 | 0, n, h => dg_len_pos n
 | w + 1, n, h => by
   have e : (10 : Nat) ^ (w + 1) = 10 ^ w * 10 := Nat.pow_succ ..
   have hp : 1 <= (10 : Nat) ^ w := Nat.one_le_pow _ _ (by omega)
   rw [dg_big (by omega)]
   have := dg_len_ge w (n / 10) (by omega)
   simp; omega
theorem vl_snoc (l : List Int) (x : Int) : vl (l ++ [x]) = 10 * vl l + (x - 48).toNat := by unfold vl; rw [List.foldl_append]; rfl
theorem vl_nil : vl [] = 0 := rfl
theorem vl_dgw : ∀ (w n : Nat), vl (dgw w n) = n % 10 ^ w
 | 0, n => by simp [dgw, vl_nil]; omega
 | w + 1, n => by
   rw [dgw, vl_snoc, vl_dgw w, Nat.pow_succ, Nat.mul_comm (10 ^ w) 10, Nat.mod_mul]
   omega
theorem vl_dg (n : Nat) : vl (dg n) = n := by
 induction n using Nat.strongRecOn with
 | _ n ih =>
   by_cases h : n < 10
   · rw [dg_small h, ← List.nil_append [_], vl_snoc, vl_nil]; omega
   · rw [dg_big (by omega), vl_snoc, ih _ (by omega)]; omega
theorem dg_head {n : Nat} (h : 0 < n) : ∃ x r, dg n = x :: r /\ x ≠ 48 := by
 induction n using Nat.strongRecOn with
 | _ n ih =>
   by_cases h1 : n < 10
   · rw [dg_small h1]; exact ⟨_, _, rfl, by omega⟩
   · rw [dg_big (by omega)]
     obtain ⟨x, r, e, hx⟩ := ih (n / 10) (by omega) (by omega)
     rw [e]; exact ⟨x, _, rfl, hx⟩
theorem vl_lt : ∀ (l : List Int), (∀ x ∈ l, Dig x) -> vl l < 10 ^ l.length := by
 intro l
 induction h : l.length generalizing l with
 | zero => intro _; rw [List.length_eq_zero_iff.1 h]; simp [vl_nil]
 | succ k ih =>
   intro hd
   obtain ⟨m, x, rfl⟩ : ∃ m x, l = m ++ [x] := ⟨l.dropLast, l.getLast (by intro e; simp [e] at h), (List.dropLast_concat_getLast _).symm⟩
   simp at h
   have := ih m h fun y hy => hd y (by simp [hy])
   have hx := hd x (by simp)
   unfold Dig at hx
   rw [vl_snoc, Nat.pow_succ]
   omega
theorem dgw_vl : ∀ (l : List Int), (∀ x ∈ l, Dig x) -> dgw l.length (vl l) = l := by
 intro l
 induction h : l.length generalizing l with
 | zero => intro _; rw [List.length_eq_zero_iff.1 h]; rfl
 | succ k ih =>
   intro hd
   obtain ⟨m, x, rfl⟩ : ∃ m x, l = m ++ [x] := ⟨l.dropLast, l.getLast (by intro e; simp [e] at h), (List.dropLast_concat_getLast _).symm⟩
   simp at h
   have hx := hd x (by simp)
   unfold Dig at hx
   rw [vl_snoc, dgw]
   rw [show (10 * vl m + (x - 48).toNat) / 10 = vl m by omega, ih m h fun y hy => hd y (by simp [hy])]
   congr 2
   omega
theorem dgw_split : ∀ (b a n : Nat), dgw (a + b) n = dgw a (n / 10 ^ b) ++ dgw b n
 | 0, a, n => by simp [dgw]
 | b + 1, a, n => by
   rw [← Nat.add_assoc, dgw, dgw, dgw_split b a, List.append_assoc, Nat.div_div_eq_div_mul, Nat.pow_succ, Nat.mul_comm (10 ^ b) 10]
theorem dgw_byte (w n : Nat) : ∀ x ∈ dgw w n, 0 <= x /\ x < 256 := fun x h => by have := dgw_dig w n x h; unfold Dig at this; omega
theorem dg_byte (n : Nat) : ∀ x ∈ dg n, 0 <= x /\ x < 256 := fun x h => by have := dg_dig n x h; unfold Dig at this; omega
end D1

namespace B2
open Go Go.Proofs VL B1 D1
theorem wrapu64 {x : Int} (h1 : 0 <= x) (h2 : x < 18446744073709551616) : IntKind.u64.wrap x = x := by
 have : IntKind.u64.wrap x = x % 18446744073709551616 := by unfold IntKind.wrap; simp [IntKind.bits, IntKind.signed]
 omega
theorem wrapu32 {x : Int} (h1 : 0 <= x) (h2 : x < 4294967296) : IntKind.u32.wrap x = x := by
 have : IntKind.u32.wrap x = x % 4294967296 := by unfold IntKind.wrap; simp [IntKind.bits, IntKind.signed]
 omega
theorem wrapu8 (x : Int) : IntKind.u8.wrap x = x % 256 := by unfold IntKind.wrap; simp [IntKind.bits, IntKind.signed]
theorem shr64 (n k : Nat) (hk : k <= 64) : shiftV .shr .u64 (n : Int) (k : Int) = ((n / 2 ^ k : Nat) : Int) := by
 unfold shiftV
 simp only [Int.toNat_natCast]
 rw [show min k IntKind.u64.bits = k from Nat.min_eq_left hk, Int.fdiv_eq_ediv_of_nonneg _ (Int.pow_nonneg (by omega))]
 rfl
theorem tabs {tab : ByteArray} (N : Nat) (f : Nat -> Int) (h : sB tab = (List.range N).map f) (k : Nat) (hk : k < N) : (sB tab)[k]? = some (f k) := by
 rw [h, List.getElem?_map, List.getElem?_range hk]; rfl
def len8 (n : Nat) : Nat := if n = 0 then 0 else n.log2 + 1
theorem len8_lt (n : Nat) : n < 2 ^ len8 n := by
 unfold len8
 split
 · subst n; simp
 · exact Nat.lt_log2_self
theorem len8_ge (n : Nat) (h : 0 < n) : 2 ^ (len8 n - 1) <= n := by
 unfold len8
 rw [if_neg (by omega), Nat.add_sub_cancel]
 exact Nat.log2_self_le (by omega)
theorem len8_div : ∀ (k n : Nat), 2 ^ k <= n -> len8 (n / 2 ^ k) + k = len8 n
 | 0, n, h => by simp
 | k + 1, n, h => by
   have e : (2 : Nat) ^ (k + 1) = 2 ^ k * 2 := Nat.pow_succ ..
   have hp : 1 <= (2 : Nat) ^ k := Nat.one_le_pow _ _ (by omega)
   have ih := len8_div k n (by omega)
   rw [← ih, e, ← Nat.div_div_eq_div_mul]
   have h2 : 2 <= n / 2 ^ k := (Nat.le_div_iff_mul_le (by omega)).2 (by omega)
   generalize n / 2 ^ k = q at h2
   have : q.log2 = (q / 2).log2 + 1 := by rw [Nat.log2_def]; simp [h2]
   unfold len8
   rw [if_neg (by omega), if_neg (by omega), this]; omega
theorem len8_le {n k : Nat} (h : n < 2 ^ k) : len8 n <= k := by
 unfold len8
 split
 · omega
 · have := (Nat.log2_lt (by assumption)).2 h; omega
theorem shr_32 (n : Nat) : shiftV .shr .u64 (n : Int) 32 = ((n / 4294967296 : Nat) : Int) := shr64 n 32 (by omega)
theorem shr_16 (n : Nat) : shiftV .shr .u64 (n : Int) 16 = ((n / 65536 : Nat) : Int) := shr64 n 16 (by omega)
theorem shr_8 (n : Nat) : shiftV .shr .u64 (n : Int) 8 = ((n / 256 : Nat) : Int) := shr64 n 8 (by omega)
theorem wc : IntKind.i64.wrap (32 + 16) = 48 /\ IntKind.i64.wrap (48 + 8) = 56 /\ IntKind.i64.wrap (32 + 8) = 40 /\ IntKind.i64.wrap (0 + 16) = 16 /\ IntKind.i64.wrap (0 + 8) = 8 /\ IntKind.i64.wrap (16 + 8) = 24 := by decide
set_option maxHeartbeats 4000000 in
theorem c_len64 (n : Nat) (h : n < 18446744073709551616) (K) (hk : K (.ret (.int .i64 (len8 n : Nat))) []) : VCall Tryz.prog 155 [.int .u64 (n : Int)] [] K := by
 have fin : ∀ (m : Nat), m < 256 -> IntKind.u8.wrap (m : Int) = (m : Int) := fun m h => by rw [wrapu8]; omega
 refine call_fun [] 0 Tryz.func155 (by rfl) (by rfl) ?_
 conv=>whnf
 repeat (refine step_go [] ?_;conv=>whnf)
 refine two (fun g => ?_) (fun g => ?_)
 all_goals simp at g
 all_goals conv=>whnf
 all_goals repeat (refine step_go [] ?_;conv=>whnf)
 · refine ⟨by omega, ?_⟩; rw [shr_32]; conv=>whnf
   repeat (refine step_go [] ?_;conv=>whnf)
   · refine two (fun g => ?_) (fun g => ?_)
     all_goals simp at g
     all_goals conv=>whnf
     all_goals repeat (refine step_go [] ?_;conv=>whnf)
     · refine ⟨by omega, ?_⟩; rw [shr_16]; conv=>whnf
       repeat (refine step_go [] ?_;conv=>whnf)
       · refine two (fun g => ?_) (fun g => ?_)
         all_goals simp at g
         all_goals conv=>whnf
         all_goals repeat (refine step_go [] ?_;conv=>whnf)
         · refine ⟨by omega, ?_⟩; rw [shr_8]; conv=>whnf
           repeat (refine step_go [] ?_;conv=>whnf)
           · have hm : ((n / 4294967296) / 65536) / 256 < 256 := by omega
             have hk8 := len8_le (n := ((n / 4294967296) / 65536) / 256) (k := 8) (by omega)
             have hdiv : len8 (((n / 4294967296) / 65536) / 256) + 56 = len8 n := by
              have := len8_div 56 n (by omega)
              first | (rw [← this]; done) | (rw [← this]; congr 2; omega)
             refine idx_str (x := (len8 (((n / 4294967296) / 65536) / 256) : Nat)) (by rw [fin _ hm]; omega) (by rw [fin _ hm, Int.toNat_natCast]; exact tabs 256 (fun k => (len8 k : Nat)) (by decide +kernel) _ hm) fun c hc => ?_
             rw [hc]; conv=>whnf
             repeat (refine step_go [] ?_;conv=>whnf)
             refine Eq.mp (congrArg (fun x => K (Out.ret (V.int .i64 x)) []) ?_) hk
             simp only [wc.1, wc.2.1, wc.2.2.1, wc.2.2.2.1, wc.2.2.2.2.1, wc.2.2.2.2.2, wrap64 (x := ((len8 (((n / 4294967296) / 65536) / 256) : Nat) : Int)) (by omega) (by omega)]
             rw [wrap64 (by omega) (by omega)]; omega
         · have hm : (n / 4294967296) / 65536 < 256 := by omega
           have hk8 := len8_le (n := (n / 4294967296) / 65536) (k := 8) (by omega)
           have hdiv : len8 ((n / 4294967296) / 65536) + 48 = len8 n := by
            have := len8_div 48 n (by omega)
            first | (rw [← this]; done) | (rw [← this]; congr 2; omega)
           refine idx_str (x := (len8 ((n / 4294967296) / 65536) : Nat)) (by rw [fin _ hm]; omega) (by rw [fin _ hm, Int.toNat_natCast]; exact tabs 256 (fun k => (len8 k : Nat)) (by decide +kernel) _ hm) fun c hc => ?_
           rw [hc]; conv=>whnf
           repeat (refine step_go [] ?_;conv=>whnf)
           refine Eq.mp (congrArg (fun x => K (Out.ret (V.int .i64 x)) []) ?_) hk
           simp only [wc.1, wc.2.1, wc.2.2.1, wc.2.2.2.1, wc.2.2.2.2.1, wc.2.2.2.2.2, wrap64 (x := ((len8 ((n / 4294967296) / 65536) : Nat) : Int)) (by omega) (by omega)]
           rw [wrap64 (by omega) (by omega)]; omega
     · refine two (fun g => ?_) (fun g => ?_)
       all_goals simp at g
       all_goals conv=>whnf
       all_goals repeat (refine step_go [] ?_;conv=>whnf)
       · refine ⟨by omega, ?_⟩; rw [shr_8]; conv=>whnf
         repeat (refine step_go [] ?_;conv=>whnf)
         · have hm : (n / 4294967296) / 256 < 256 := by omega
           have hk8 := len8_le (n := (n / 4294967296) / 256) (k := 8) (by omega)
           have hdiv : len8 ((n / 4294967296) / 256) + 40 = len8 n := by
            have := len8_div 40 n (by omega)
            first | (rw [← this]; done) | (rw [← this]; congr 2; omega)
           refine idx_str (x := (len8 ((n / 4294967296) / 256) : Nat)) (by rw [fin _ hm]; omega) (by rw [fin _ hm, Int.toNat_natCast]; exact tabs 256 (fun k => (len8 k : Nat)) (by decide +kernel) _ hm) fun c hc => ?_
           rw [hc]; conv=>whnf
           repeat (refine step_go [] ?_;conv=>whnf)
           refine Eq.mp (congrArg (fun x => K (Out.ret (V.int .i64 x)) []) ?_) hk
           simp only [wc.1, wc.2.1, wc.2.2.1, wc.2.2.2.1, wc.2.2.2.2.1, wc.2.2.2.2.2, wrap64 (x := ((len8 ((n / 4294967296) / 256) : Nat) : Int)) (by omega) (by omega)]
           rw [wrap64 (by omega) (by omega)]; omega
       · have hm : n / 4294967296 < 256 := by omega
         have hk8 := len8_le (n := n / 4294967296) (k := 8) (by omega)
         have hdiv : len8 (n / 4294967296) + 32 = len8 n := by
          have := len8_div 32 n (by omega)
          first | (rw [← this]; done) | (rw [← this]; congr 2; omega)
         refine idx_str (x := (len8 (n / 4294967296) : Nat)) (by rw [fin _ hm]; omega) (by rw [fin _ hm, Int.toNat_natCast]; exact tabs 256 (fun k => (len8 k : Nat)) (by decide +kernel) _ hm) fun c hc => ?_
         rw [hc]; conv=>whnf
         repeat (refine step_go [] ?_;conv=>whnf)
         refine Eq.mp (congrArg (fun x => K (Out.ret (V.int .i64 x)) []) ?_) hk
         simp only [wc.1, wc.2.1, wc.2.2.1, wc.2.2.2.1, wc.2.2.2.2.1, wc.2.2.2.2.2, wrap64 (x := ((len8 (n / 4294967296) : Nat) : Int)) (by omega) (by omega)]
         rw [wrap64 (by omega) (by omega)]; omega
 · refine two (fun g => ?_) (fun g => ?_)
   all_goals simp at g
   all_goals conv=>whnf
   all_goals repeat (refine step_go [] ?_;conv=>whnf)
   · refine ⟨by omega, ?_⟩; rw [shr_16]; conv=>whnf
     repeat (refine step_go [] ?_;conv=>whnf)
     · refine two (fun g => ?_) (fun g => ?_)
       all_goals simp at g
       all_goals conv=>whnf
       all_goals repeat (refine step_go [] ?_;conv=>whnf)
       · refine ⟨by omega, ?_⟩; rw [shr_8]; conv=>whnf
         repeat (refine step_go [] ?_;conv=>whnf)
         · have hm : ((n) / 65536) / 256 < 256 := by omega
           have hk8 := len8_le (n := ((n) / 65536) / 256) (k := 8) (by omega)
           have hdiv : len8 (((n) / 65536) / 256) + 24 = len8 n := by
            have := len8_div 24 n (by omega)
            first | (rw [← this]; done) | (rw [← this]; congr 2; omega)
           refine idx_str (x := (len8 (((n) / 65536) / 256) : Nat)) (by rw [fin _ hm]; omega) (by rw [fin _ hm, Int.toNat_natCast]; exact tabs 256 (fun k => (len8 k : Nat)) (by decide +kernel) _ hm) fun c hc => ?_
           rw [hc]; conv=>whnf
           repeat (refine step_go [] ?_;conv=>whnf)
           refine Eq.mp (congrArg (fun x => K (Out.ret (V.int .i64 x)) []) ?_) hk
           simp only [wc.1, wc.2.1, wc.2.2.1, wc.2.2.2.1, wc.2.2.2.2.1, wc.2.2.2.2.2, wrap64 (x := ((len8 (((n) / 65536) / 256) : Nat) : Int)) (by omega) (by omega)]
           rw [wrap64 (by omega) (by omega)]; omega
       · have hm : (n) / 65536 < 256 := by omega
         have hk8 := len8_le (n := (n) / 65536) (k := 8) (by omega)
         have hdiv : len8 ((n) / 65536) + 16 = len8 n := by
          have := len8_div 16 n (by omega)
          first | (rw [← this]; done) | (rw [← this]; congr 2; omega)
         refine idx_str (x := (len8 ((n) / 65536) : Nat)) (by rw [fin _ hm]; omega) (by rw [fin _ hm, Int.toNat_natCast]; exact tabs 256 (fun k => (len8 k : Nat)) (by decide +kernel) _ hm) fun c hc => ?_
         rw [hc]; conv=>whnf
         repeat (refine step_go [] ?_;conv=>whnf)
         refine Eq.mp (congrArg (fun x => K (Out.ret (V.int .i64 x)) []) ?_) hk
         simp only [wc.1, wc.2.1, wc.2.2.1, wc.2.2.2.1, wc.2.2.2.2.1, wc.2.2.2.2.2, wrap64 (x := ((len8 ((n) / 65536) : Nat) : Int)) (by omega) (by omega)]
         rw [wrap64 (by omega) (by omega)]; omega
   · refine two (fun g => ?_) (fun g => ?_)
     all_goals simp at g
     all_goals conv=>whnf
     all_goals repeat (refine step_go [] ?_;conv=>whnf)
     · refine ⟨by omega, ?_⟩; rw [shr_8]; conv=>whnf
       repeat (refine step_go [] ?_;conv=>whnf)
       · have hm : (n) / 256 < 256 := by omega
         have hk8 := len8_le (n := (n) / 256) (k := 8) (by omega)
         have hdiv : len8 ((n) / 256) + 8 = len8 n := by
          have := len8_div 8 n (by omega)
          first | (rw [← this]; done) | (rw [← this]; congr 2; omega)
         refine idx_str (x := (len8 ((n) / 256) : Nat)) (by rw [fin _ hm]; omega) (by rw [fin _ hm, Int.toNat_natCast]; exact tabs 256 (fun k => (len8 k : Nat)) (by decide +kernel) _ hm) fun c hc => ?_
         rw [hc]; conv=>whnf
         repeat (refine step_go [] ?_;conv=>whnf)
         refine Eq.mp (congrArg (fun x => K (Out.ret (V.int .i64 x)) []) ?_) hk
         simp only [wc.1, wc.2.1, wc.2.2.1, wc.2.2.2.1, wc.2.2.2.2.1, wc.2.2.2.2.2, wrap64 (x := ((len8 ((n) / 256) : Nat) : Int)) (by omega) (by omega)]
         rw [wrap64 (by omega) (by omega)]; omega
     · have hm : n < 256 := by omega
       have hk8 := len8_le (n := n) (k := 8) (by omega)
       have hdiv : len8 (n) + 0 = len8 n := by
        rfl
       refine idx_str (x := (len8 (n) : Nat)) (by rw [fin _ hm]; omega) (by rw [fin _ hm, Int.toNat_natCast]; exact tabs 256 (fun k => (len8 k : Nat)) (by decide +kernel) _ hm) fun c hc => ?_
       rw [hc]; conv=>whnf
       repeat (refine step_go [] ?_;conv=>whnf)
       refine Eq.mp (congrArg (fun x => K (Out.ret (V.int .i64 x)) []) ?_) hk
       simp only [wc.1, wc.2.1, wc.2.2.1, wc.2.2.2.1, wc.2.2.2.2.1, wc.2.2.2.2.2, wrap64 (x := ((len8 (n) : Nat) : Int)) (by omega) (by omega)]
       rw [wrap64 (by omega) (by omega)]; omega
end B2

namespace B3
open Go Go.Proofs VL B1 D1 B2
theorem dropK_of {α : Type} : ∀ {l : List α} {i : Nat} {K : List α -> Prop}, i <= l.length -> K (l.drop i) -> dropK l i K
 | l, 0, K, _, h => by simpa [dropK] using h
 | [], i + 1, K, hi, h => absurd hi (by simp)
 | x :: r, i + 1, K, hi, h => by
   rw [dropK]
   exact dropK_of (by simpa using hi) (by simpa using h)
theorem dropK_at {α : Type} {l : List α} {i : Nat} {K : List α -> Prop} (x : α) (e : ∃ r, l.drop i = x :: r) (hK : ∀ r, K (x :: r)) : dropK l i K := by
 obtain ⟨r, e⟩ := e
 refine dropK_of ?_ (e ▸ hK r)
 rcases Nat.lt_or_ge l.length i with h | h
 · rw [List.drop_eq_nil_of_le (by omega)] at e; cases e
 · exact h
theorem upto20 {t : Nat} (h : t <= 19) : t = 0 \/ t = 1 \/ t = 2 \/ t = 3 \/ t = 4 \/ t = 5 \/ t = 6 \/ t = 7 \/ t = 8 \/ t = 9 \/ t = 10 \/ t = 11 \/ t = 12 \/ t = 13 \/ t = 14 \/ t = 15 \/ t = 16 \/ t = 17 \/ t = 18 \/ t = 19 := by omega
theorem log_le : ∀ b, b < 65 -> b * 78913 / 262144 <= 19 := by decide
theorem log_lo : ∀ b, b < 65 -> 2 ^ b <= 10 ^ (b * 78913 / 262144 + 1) := by decide
theorem log_hi : ∀ b, b < 65 -> 1 <= b -> 10 ^ (b * 78913 / 262144) <= 2 ^ (b - 1) * 10 := by decide
theorem nd (n : Nat) (h0 : 0 < n) (h : n < 18446744073709551616) : (dg n).length = len8 n * 78913 / 262144 + (if 10 ^ (len8 n * 78913 / 262144) <= n then 1 else 0) := by
 have hb := len8_le (n := n) (k := 64) (by omega)
 have h1 := len8_lt n
 have h2 := len8_ge n h0
 have h3 := log_lo (len8 n) (by omega)
 have hp : 1 <= len8 n := by
  rcases Nat.eq_zero_or_pos (len8 n) with e | e
  · rw [e] at h1; simp at h1; omega
  · exact e
 have h4 := log_hi (len8 n) (by omega) hp
 generalize len8 n * 78913 / 262144 = t at *
 split
 · have := dg_len_ge t n (by assumption)
   have := dg_len_le t n (by omega)
   omega
 · cases t with
   | zero => simp at *; omega
   | succ t =>
     have e : (10 : Nat) ^ (t + 1) = 10 ^ t * 10 := Nat.pow_succ ..
     have := dg_len_ge t n (by omega)
     have := dg_len_le t n (by omega)
     omega
theorem c_numDigits (n : Nat) (h0 : 0 < n) (h : n < 18446744073709551616) (K) (hk : K (.ret (.int .i64 ((dg n).length : Nat))) []) : VCall Tryz.prog 135 [.int .u64 (n : Int)] [] K := by
 have hb := len8_le (n := n) (k := 64) (by omega)
 have ht := log_le (len8 n) (by omega)
 have hn := nd n h0 h
 refine call_fun [] 0 Tryz.func135 (by rfl) (by rfl) ?_
 conv=>whnf
 repeat (refine step_go [] ?_;conv=>whnf)
 refine c_len64 n h _ ?_; conv=>whnf
 refine c_log10 _ (by omega) (by omega) _ ?_; conv=>whnf
 repeat (refine step_go [] ?_;conv=>whnf)
 have e : ((len8 n : Nat) : Int) * 78913 / 262144 = ((len8 n * 78913 / 262144 : Nat) : Int) := by omega
 rw [e]
 generalize hT : len8 n * 78913 / 262144 = t at *
 refine ⟨by omega, by omega, dropK_at (.int .u64 ((10 ^ t : Nat) : Int)) ?_ fun r => ?_⟩
 · rw [Int.toNat_natCast, Nat.mul_one]
   clear hk hn e hT
   rcases upto20 ht with h | h | h | h | h | h | h | h | h | h | h | h | h | h | h | h | h | h | h | h <;> subst h <;> exact ⟨_, rfl⟩
 conv=>whnf
 repeat (refine step_go [] ?_;conv=>whnf)
 refine c_bool2 _ _ ?_; conv=>whnf
 repeat (refine step_go [] ?_;conv=>whnf)
 refine Eq.mp (congrArg (fun x => K (Out.ret (V.int .i64 x)) []) ?_) hk
 have hg : (decide ((n : Int) ≥ ((10 ^ t : Nat) : Int))) = decide (10 ^ t <= n) := by rw [decide_eq_decide]; omega
 rw [hg, hn]
 by_cases hle : 10 ^ t <= n <;> simp only [hle, decide_true, decide_false, if_true, if_false] <;> rw [wrap64 (by first | omega | (simp; omega)) (by first | omega | (simp; omega))] <;> simp
end B3

