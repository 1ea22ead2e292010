/- Part Vc of the proof: VLDraw3 VLDraw4 VLSound3 VLFun VLLoop VLBridge VLBridge2 VLBridge3 VLRow VLLaw. -/
import Derived.Test.YtopoljadcjeflaaVb
import Derived.Carry
import Derived.SizedLaws
import Derived.ChangeOld
import Derived.ChangeShapes
import Derived.DataReads
import Derived.ProofKit
namespace VL
open Go
set_option linter.unusedVariables false
set_option linter.unusedSimpArgs false

def gOn (all : List Oper) (o : Oper) (t : List V) : Option Bool :=
  match o.guard with
  | none => some true
  | some (j, want) => match (all[j]?).bind (·.dst) with
    | some d => match t[d]? with
      | some (.bool b) => some (b == want)
      | some .undef => none
      | some _ => some false
      | none => none
    | none => none

theorem set_same {t : List V} {d : Nat} {v : V} (h : t[d]? = some v) : t.set d v = t := by
  apply List.ext_getElem?
  intro k
  rw [List.getElem?_set]
  split
  · rename_i e; subst e
    split
    · exact h.symm
    · rename_i hlt; rw [List.getElem?_eq_none (by omega)]
  · rfl

theorem guardK_iff {all : List Oper} {o : Oper} {t : List V} {KT KF : List V → Prop} (h : guardK all o t KT KF) : (gOn all o t = some true ∧ KT t) ∨ (gOn all o t = some false ∧ KF t) := by
  unfold guardK at h
  unfold gOn
  cases hg : o.guard with
  | none => rw [hg] at h; exact .inl ⟨rfl, h⟩
  | some jw =>
    obtain ⟨j, want⟩ := jw
    rw [hg] at h
    simp only at h ⊢
    cases hj : (all[j]?).bind (·.dst) with
    | none => rw [hj] at h; exact h.elim
    | some d =>
      rw [hj] at h
      simp only at h ⊢
      obtain ⟨v, h1, h2⟩ := getK_iff h
      rw [h1]
      split at h2
      · rename_i b
        rcases bif_elim h2 with ⟨rfl, h2⟩ | ⟨rfl, h2⟩
        · obtain ⟨_, h2⟩ := setK_iff h2
          rw [set_same h1] at h2
          cases want
          · exact .inr ⟨rfl, h2⟩
          · exact .inl ⟨rfl, h2⟩
        · obtain ⟨_, h2⟩ := setK_iff h2
          rw [set_same h1] at h2
          cases want
          · exact .inl ⟨rfl, h2⟩
          · exact .inr ⟨rfl, h2⟩
      · exact h2.elim
      · rename_i hn1 hn2
        refine .inr ⟨?_, h2⟩
        cases v <;> first | rfl | exact absurd rfl (hn1 _) | exact absurd rfl hn2

/-- operation m, were it to come now, would yield what stands in its slot -/
def FOK (S : Sys) (all : List Oper) (m : Nat) (t : List V) (ob : List VObj) : Prop :=
  ∃ o u, all[m]? = some o ∧ (∀ d, o.dst = some d → t[d]? = some u) ∧ ((gOn all o t = some true ∧ vflo S o t ob fun v => v = u) ∨ (gOn all o t = some false ∧ u = .tup []))

theorem looks_ev {all : List Oper} {o : Oper} {t t' : List V} (h : ∀ d ∈ looks all o, t[d]? = t'[d]?) : ∀ x ∈ o.op.operands.toList, ev t x = ev t' x := by
  intro x hx
  funext K
  cases x with
  | tmp d => simp only [ev, getK_eq, h d (List.mem_append_left _ (List.mem_filterMap.2 ⟨.tmp d, hx, rfl⟩))]
  | _ => rfl

theorem looks_gOn {all : List Oper} {o : Oper} {t t' : List V} (h : ∀ d ∈ looks all o, t[d]? = t'[d]?) : gOn all o t = gOn all o t' := by
  unfold gOn
  cases hg : o.guard with
  | none => rfl
  | some jw =>
    obtain ⟨j, want⟩ := jw
    simp only
    cases hj : (all[j]?).bind (·.dst) with
    | none => rfl
    | some d => simp only [h d (List.mem_append_right _ (by simp [hg, hj]))]

theorem FOK.congr {S : Sys} {all : List Oper} {m : Nat} {t t' : List V} {ob : List VObj} {o : Oper} (ho : all[m]? = some o) (h : FOK S all m t ob) (h1 : ∀ d ∈ looks all o, t[d]? = t'[d]?) (h2 : ∀ d, o.dst = some d → t[d]? = t'[d]?) : FOK S all m t' ob := by
  obtain ⟨o', u, e, a1, a2⟩ := h
  have : o' = o := by rw [ho] at e; exact (Option.some.inj e).symm
  subst this
  exact ⟨o', u, ho, fun d hd => by rw [← h2 d hd]; exact a1 d hd, by rw [← looks_gOn h1, ← vflo_congr S ob (looks_ev h1)]; exact a2⟩

theorem isSlot_iff {o : Option Tmp} {t : List V} {v : V} {k : Prop} (h : isSlot o t v k) : (∀ d, o = some d → t[d]? = some v) ∧ k := by
  cases o with
  | none => exact ⟨by simp, h⟩
  | some d =>
    obtain ⟨u, h1, rfl, h2⟩ := getK_iff h
    exact ⟨fun d' e => by cases e; exact h1, h2⟩

theorem recheck_iff {S : Sys} {all : List Oper} {A : List Nat} {n : Nat} {t : List V} {ob : List VObj} {k : Prop} : ∀ {done : List Nat}, recheck S all A n done t ob k → k ∧ ∀ m ∈ done, isAnc A n m = false → FOK S all m t ob
  | [], h => ⟨h, by simp⟩
  | m :: r, h => by
    unfold recheck at h
    split at h
    · rename_i ha
      obtain ⟨h1, h2⟩ := recheck_iff (done := r) h
      refine ⟨h1, fun j hj hn => ?_⟩
      cases hj with
      | head => rw [ha] at hn; cases hn
      | tail _ hj => exact h2 j hj hn
    · split at h
      case h_2 => exact h.elim
      rename_i o ho
      have key : k ∧ (∀ m ∈ r, isAnc A n m = false → FOK S all m t ob) ∧ FOK S all m t ob := by
        rcases guardK_iff h with ⟨hg, h⟩ | ⟨hg, h⟩
        · obtain ⟨v, hv, h2⟩ := det_vflo S o t ob _ h
          obtain ⟨h0, h1⟩ := isSlot_iff hv
          obtain ⟨h3, h4⟩ := recheck_iff (done := r) h1
          exact ⟨h3, h4, o, v, ho, h0, .inl ⟨hg, h2 _ rfl⟩⟩
        · obtain ⟨h0, h1⟩ := isSlot_iff h
          obtain ⟨h3, h4⟩ := recheck_iff (done := r) h1
          exact ⟨h3, h4, o, .tup [], ho, h0, .inr ⟨hg, rfl⟩⟩
      refine ⟨key.1, fun j hj hn => ?_⟩
      cases hj with
      | head => exact key.2.2
      | tail _ hj => exact key.2.1 j hj hn

/-- the slots of what is still to come -/
def slotIn (all : List Oper) (U : List Nat) (d : Nat) : Bool := U.any fun i => decide ((all[i]?).bind (·.dst) = some d)

theorem slotIn_iff {all : List Oper} {U : List Nat} {d : Nat} : slotIn all U d = true ↔ ∃ i ∈ U, ∃ o, all[i]? = some o ∧ o.dst = some d := by
  simp [slotIn, List.any_eq_true, Option.bind_eq_some_iff]

end VL

namespace VL
open Go
set_option linter.unusedVariables false
set_option linter.unusedSimpArgs false

theorem maskOf_bit {A : List Nat} {j : Nat} : ∀ {ds : List Nat} {m : Nat}, (maskOf A ds m).testBit j = true → m.testBit j = true ∨ ∃ d ∈ ds, j = d ∨ ((A[d]?).getD 0).testBit j = true
  | [], m, h => .inl h
  | d :: r, m, h => by
    rcases maskOf_bit (ds := r) h with h | ⟨d', h1, h2⟩
    · rw [Nat.testBit_or, Nat.testBit_or, Bool.or_eq_true, Bool.or_eq_true] at h
      rcases h with (h | h) | h
      · exact .inl h
      · refine .inr ⟨d, by simp, .inl ?_⟩
        rw [Nat.one_shiftLeft, Nat.testBit_two_pow] at h
        exact (by simpa using h : d = j).symm
      · exact .inr ⟨d, by simp, .inr h⟩
    · exact .inr ⟨d', by simp [h1], h2⟩

theorem ancs_append (l : List Oper) : ∀ (A : List Nat), ∃ B, ancs l A = A ++ B := by
  induction l with
  | nil => intro A; exact ⟨[], by simp [ancs]⟩
  | cons o r ih =>
    intro A
    obtain ⟨B, h⟩ := ih (A ++ [maskOf A (depsOf o) 0])
    exact ⟨maskOf A (depsOf o) 0 :: B, by rw [ancs, h]; simp⟩

theorem ancs_get (l : List Oper) : ∀ (A : List Nat) (k : Nat) (o : Oper), l[k]? = some o → (ancs l A)[A.length + k]? = some (maskOf ((ancs l A).take (A.length + k)) (depsOf o) 0) := by
  induction l with
  | nil => intro A k o h; simp at h
  | cons p r ih =>
    intro A k o h
    cases k with
    | zero =>
      simp only [List.getElem?_cons_zero, Option.some.injEq] at h; subst h
      obtain ⟨B, hB⟩ := ancs_append r (A ++ [maskOf A (depsOf p) 0])
      rw [ancs, hB]
      generalize hm : maskOf A (depsOf p) 0 = m at *
      have : (A ++ [m] ++ B).take (A.length + 0) = A := by simp
      rw [this, hm]
      simp
    | succ k =>
      have := ih (A ++ [maskOf A (depsOf p) 0]) k o (by simpa using h)
      rw [ancs]
      simp only [List.length_append, List.length_singleton] at this
      rw [show A.length + (k + 1) = A.length + 1 + k by omega]
      exact this

theorem depsOk_iff (l : List Oper) : ∀ {k : Nat}, depsOk l k = true → ∀ (i : Nat) (o : Oper), l[i]? = some o → ∀ e ∈ o.after, Region.binds .any e = true → e.on < k + i := by
  induction l with
  | nil => intro k _ i o h; simp at h
  | cons o r ih =>
    intro k h i p hp e he hb
    simp only [depsOk, Bool.and_eq_true] at h
    cases i with
    | zero =>
      simp only [List.getElem?_cons_zero, Option.some.injEq] at hp; subst hp
      have := List.all_eq_true.1 h.1 e.on (List.mem_map.2 ⟨e, List.mem_filter.2 ⟨by simpa using he, hb⟩, rfl⟩)
      simpa [Nat.blt_eq] using this
    | succ i =>
      have := ih h.2 i p (by simpa using hp) e he hb
      omega

theorem mem_deps {o : Oper} {d : Nat} (h : d ∈ depsOf o) : ∃ e ∈ o.after, Region.binds .any e = true ∧ e.on = d := by
  obtain ⟨e, he, rfl⟩ := List.mem_map.1 h
  obtain ⟨h1, h2⟩ := List.mem_filter.1 he
  exact ⟨e, by simpa using h1, h2, rfl⟩

theorem anc_closed {all : List Oper} (hd : depsOk all 0 = true) {L : Nat → Prop} (hL : ∀ (i : Nat) o, all[i]? = some o → L i → ∀ e ∈ o.after, Region.binds .any e = true → L e.on) :
    ∀ (i : Nat) (o : Oper), all[i]? = some o → (∀ e ∈ o.after, Region.binds .any e = true → L e.on) → ∀ j, isAnc (ancs all []) i j = true → L j := by
  intro i
  induction i using Nat.strongRecOn with
  | _ i ih =>
    intro o ho hall j hj
    have hg := ancs_get all [] i o ho
    simp only [List.length_nil, Nat.zero_add] at hg
    unfold isAnc at hj
    rw [hg, Option.getD_some] at hj
    rcases maskOf_bit hj with h | ⟨d, hd1, h⟩
    · simp at h
    · obtain ⟨e, he, hb, rfl⟩ := mem_deps hd1
      have hlt := depsOk_iff all hd i o ho e he hb
      rcases h with rfl | h
      · exact hall e he hb
      · have hil := (List.getElem?_eq_some_iff.1 ho).1
        have hlt' : e.on < all.length := by omega
        refine ih e.on (by omega) all[e.on] (List.getElem?_eq_getElem hlt') (hL e.on _ (List.getElem?_eq_getElem hlt') (hall e he hb)) j ?_
        rw [List.getElem?_take, if_pos (by omega)] at h
        exact h

section
variable {S : Sys} {c : Ctx} {Q : Exit → Act → World → Prop} {ops : Array Oper}

theorem wanted_gOn {g : G} {w : World} {n nt : Nat} {tm : Array Value} {t : List V} (h : TInv g w n nt tm t) {o : Oper} {b : Bool} (hg : gOn ops.toList o t = some b) : Region.wanted o (yielded ops tm) = b := by
  unfold gOn at hg
  unfold Region.wanted
  cases ho : o.guard with
  | none => rw [ho] at hg; simpa using hg
  | some jw =>
    obtain ⟨j, want⟩ := jw
    rw [ho] at hg
    simp only at hg ⊢
    cases hj : (ops.toList[j]?).bind (·.dst) with
    | none => rw [hj] at hg; cases hg
    | some d =>
      rw [hj] at hg
      simp only at hg
      cases hv : t[d]? with
      | none => rw [hv] at hg; cases hg
      | some v =>
        rw [hv] at hg
        obtain ⟨y1, y2⟩ := yield_some h hj hv
        split at hg
        · rename_i b' e
          cases e
          rw [(y1 b' rfl).1]
          cases hg
          cases b' <;> cases want <;> rfl
        · cases hg
        · rename_i v' e1 e2 e
          cases e
          cases hg
          rw [y2 (fun h => e2 (by rw [h])) (fun b h => e1 b (by rw [h]))]
          cases want <;> rfl
        · rename_i e; cases e

theorem mask_put {g : G} {w : World} {b : Act} {s : St} {U : List Nat} {i : Nat} {o : Oper} {u : V} {x : Value} (ho : ops.toList[i]? = some o) (hi : i ∈ U) (hU : U.Nodup)
    (hd : ∀ d, o.dst = some d → s.t[d]? = some u ∧ slotIn ops.toList (U.erase i) d = false) (hs : Sim c g w b (maskS (slotIn ops.toList U) s)) (hv : VT g w s.objs.length s.nt u x) :
    Sim c g w (b.put o.dst x) (maskS (slotIn ops.toList (U.erase i)) s) := by
  obtain ⟨t, ob, nt, df⟩ := s
  have hslot : ∀ k, o.dst ≠ some k → slotIn ops.toList (U.erase i) k = slotIn ops.toList U k := fun k hk => by
    rw [Bool.eq_iff_iff, slotIn_iff, slotIn_iff]
    constructor
    · rintro ⟨j, hj, p, hp, e⟩; exact ⟨j, List.mem_of_mem_erase hj, p, hp, e⟩
    · rintro ⟨j, hj, p, hp, e⟩
      refine ⟨j, (List.Nodup.mem_erase_iff hU).2 ⟨fun e' => ?_, hj⟩, p, hp, e⟩
      subst e'
      rw [ho] at hp; cases hp
      exact hk e
  cases hdst : o.dst with
  | none =>
    have : slotIn ops.toList (U.erase i) = slotIn ops.toList U := by funext k; exact hslot k (by rw [hdst]; simp)
    rw [this]; exact hs
  | some d =>
    obtain ⟨h1, h2⟩ := hd d hdst
    have ht : (masked (slotIn ops.toList U) t).set d u = masked (slotIn ops.toList (U.erase i)) t := by
      apply List.ext_getElem?
      intro k
      rw [List.getElem?_set, masked_length]
      by_cases hk : d = k
      · subst hk
        have hlt := (List.getElem?_eq_some_iff.1 h1).1
        simp only at hlt
        rw [if_pos rfl, if_pos hlt, masked_get, h1]
        simp [h2]
      · rw [if_neg hk, masked_get, masked_get, hslot k (by rw [hdst]; simpa using hk)]
    exact ⟨hs.wi, by
      show TInv g w ob.length nt (b.tmps.setIfInBounds d x) (masked (slotIn ops.toList (U.erase i)) t)
      rw [← ht]; exact hs.ti.set hv, hs.di⟩

/-- one that is still to come, comes now -/
theorem exec_flo {g : G} {w : World} {a : Act} {s : St} {U : List Nat} {i : Nat} {o : Oper} (ho : ops.toList[i]? = some o) (hi : i ∈ U) (hU : U.Nodup) (hf : FOK S ops.toList i s.t s.objs)
    (hlook : ∀ d ∈ looks ops.toList o, slotIn ops.toList U d = false) (hd : ∀ d, o.dst = some d → slotIn ops.toList (U.erase i) d = false)
    (hs : Sim c g w a (maskS (slotIn ops.toList U) s)) {Kc : Act → World → Prop} (hk : ∀ g w a, Sim c g w a (maskS (slotIn ops.toList (U.erase i)) s) → Kc a w) : wpOp S.P ops Q i Kc a w := by
  obtain ⟨o', u, ho', h1, h2⟩ := hf
  have : o' = o := by rw [ho] at ho'; exact (Option.some.inj ho').symm
  subst this
  obtain ⟨t, ob, nt, df⟩ := s
  have hag : ∀ d ∈ looks ops.toList o', t[d]? = (masked (slotIn ops.toList U) t)[d]? := fun d hd => by
    rw [masked_get, hlook d hd]; cases t[d]? <;> rfl
  have hop : ops[i]? = some o' := by simpa using ho
  unfold wpOp
  rw [hop]
  simp only at h1 h2 ⊢
  rw [looks_gOn hag, vflo_congr S ob (looks_ev hag)] at h2
  rcases h2 with ⟨hg, h2⟩ | ⟨hg, rfl⟩
  · rw [wanted_gOn hs.ti hg, if_pos rfl]
    refine .inl (sound_flo (S := S) (K := fun v s' => v = u ∧ s' = maskS (slotIn ops.toList U) ⟨t, ob, nt, df⟩) (KP := fun _ _ => False) (next := Kc) ?_ hs ?_)
    · refine ⟨fun v x s' g' w' b hk' hs' _ hv => ?_, fun _ _ _ _ _ _ h => h.elim⟩
      obtain ⟨rfl, rfl⟩ := hk'
      exact hk _ _ _ (mask_put ho hi hU (fun d hd' => ⟨h1 d hd', hd d hd'⟩) hs' hv)
    · obtain ⟨v, rfl, h3⟩ := det_vflo S o' _ ob _ h2
      exact h3 _ ⟨rfl, rfl⟩
  · rw [wanted_gOn hs.ti hg, if_neg (by simp)]
    exact hk _ _ _ (mask_put ho hi hU (fun d hd' => ⟨h1 d hd', hd d hd'⟩) hs (.of (.tup rfl (by simp)) rfl))


theorem tinv_weaker {g : G} {w : World} {n nt : Nat} {tm : Array Value} {t t' : List V} (h : TInv g w n nt tm t) (hl : t'.length = t.length) (ht : ∀ (k : Nat) v, t'[k]? = some v → v = .undef ∨ t[k]? = some v) : TInv g w n nt tm t' :=
  ⟨by rw [hl]; exact h.size, fun k v x hv hx => by
    rcases ht k v hv with rfl | h1
    · exact ⟨.undef, trivial⟩
    · exact h.rel k v x h1 hx⟩

theorem dstIn_iff {o : Option Tmp} {l : List Nat} : dstIn o l = true ↔ ∃ d, o = some d ∧ d ∈ l := by
  cases o with
  | none => simp [dstIn]
  | some d => simp [dstIn, memN_iff]

theorem sameDst_iff {o p : Option Tmp} : sameDst o p = true ↔ ∃ d, o = some d ∧ p = some d := by
  cases o <;> cases p <;> simp [sameDst]
  exact ⟨fun h => h.symm, fun h => h.symm⟩

/-- what stands of those that have come, as far as the reckoning goes -/
structure DoneOk (all : List Oper) (done : List Nat) : Prop where
  self : ∀ i ∈ done, ∀ o, all[i]? = some o → dstIn o.dst (looks all o) = false
  same : ∀ i ∈ done, ∀ j ∈ done, i ≠ j → ∀ o p, all[i]? = some o → all[j]? = some p → sameDst o.dst p.dst = false
  look : ∀ i ∈ done, ∀ j ∈ done, i ≠ j → ∀ o p, all[i]? = some o → all[j]? = some p → dstIn p.dst (looks all o) = true → isAnc (ancs all []) i j = true

structure HeadOk (all : List Oper) (n : Nat) (fl : Bool) (r : List (Nat × Bool)) (done : List Nat) (o : Oper) : Prop where
  op : all[n]? = some o
  apart : ∀ i ∈ done, ∃ p, all[i]? = some p ∧ sameDst o.dst p.dst = false ∧ (fl = true → dstIn o.dst (looks all p) = false) ∧ (dstIn p.dst (looks all o) = true → isAnc (ancs all []) n i = true)
  self : fl = true → dstIn o.dst (looks all o) = false
  last : fl = false → ∀ j ∈ r, isAnc (ancs all []) j.1 n = true
  rest : planOk all (ancs all []) r (if fl then n :: done else done) = true

theorem planOk_cons {all : List Oper} {n : Nat} {fl : Bool} {r : List (Nat × Bool)} {done : List Nat} (h : planOk all (ancs all []) ((n, fl) :: r) done = true) : ∃ o, HeadOk all n fl r done o := by
  unfold planOk at h
  rw [Bool.and_eq_true] at h
  obtain ⟨h, hr⟩ := h
  split at h
  case h_2 => cases h
  rename_i o ho
  rw [Bool.and_eq_true, Bool.and_eq_true] at h
  obtain ⟨⟨h1, h2⟩, h3⟩ := h
  refine ⟨o, ho, fun i hi => ?_, fun hf => by subst hf; simpa using h2, fun hf => by subst hf; simpa using h3, hr⟩
  have := List.all_eq_true.1 h1 i hi
  split at this
  case h_2 => cases this
  rename_i p hp
  rw [Bool.and_eq_true, Bool.and_eq_true] at this
  obtain ⟨⟨a1, a2⟩, a3⟩ := this
  refine ⟨p, hp, by simpa using a1, fun hf => by subst hf; simpa using a2, fun hd => ?_⟩
  rw [hd] at a3; simpa using a3

theorem DoneOk.cons {all : List Oper} {done : List Nat} {n : Nat} {o : Oper} {r : List (Nat × Bool)} (h : DoneOk all done) (hh : HeadOk all n true r done o) : DoneOk all (n :: done) := by
  have hop : ∀ p, all[n]? = some p → p = o := fun p hp => by rw [hh.op] at hp; exact (Option.some.inj hp).symm
  have ap : ∀ i ∈ done, ∀ p, all[i]? = some p → sameDst o.dst p.dst = false ∧ dstIn o.dst (looks all p) = false ∧ (dstIn p.dst (looks all o) = true → isAnc (ancs all []) n i = true) := fun i hi p hp => by
    obtain ⟨p', hp', a1, a2, a3⟩ := hh.apart i hi
    rw [hp] at hp'; cases hp'
    exact ⟨a1, a2 rfl, a3⟩
  have symm : ∀ a b : Option Tmp, sameDst a b = false → sameDst b a = false := fun a b h => by
    cases hb : sameDst b a with
    | false => rfl
    | true =>
      obtain ⟨d, e1, e2⟩ := sameDst_iff.1 hb
      rw [sameDst_iff.2 ⟨d, e2, e1⟩] at h; cases h
  refine ⟨fun i hi p hp => ?_, fun i hi j hj hij p q hp hq => ?_, fun i hi j hj hij p q hp hq hd => ?_⟩
  · rcases List.mem_cons.1 hi with rfl | hi
    · rw [hop p hp]; exact hh.self rfl
    · exact h.self i hi p hp
  · rcases List.mem_cons.1 hi with hi | hi <;> rcases List.mem_cons.1 hj with hj | hj
    · exact absurd (hi.trans hj.symm) hij
    · subst hi; rw [hop p hp]; exact (ap j ‹j ∈ done› q hq).1
    · subst hj; rw [hop q hq]; exact symm _ _ (ap i ‹i ∈ done› p hp).1
    · exact h.same i hi j hj hij p q hp hq
  · rcases List.mem_cons.1 hi with hi | hi <;> rcases List.mem_cons.1 hj with hj | hj
    · exact absurd (hi.trans hj.symm) hij
    · subst hi; rw [hop p hp] at hd; exact (ap j ‹j ∈ done› q hq).2.2 hd
    · subst hj; rw [hop q hq] at hd; rw [(ap i ‹i ∈ done› p hp).2.1] at hd; cases hd
    · exact h.look i hi j hj hij p q hp hq hd

theorem put_iff {t : List V} {ob : List VObj} {nt : Nat} {df : List (Fn × List V × List V)} {dst : Option Tmp} {v : V} {K : St → Prop} (h : St.put ⟨t, ob, nt, df⟩ dst v K) :
    ∃ t', K ⟨t', ob, nt, df⟩ ∧ t'.length = t.length ∧ (∀ d, dst = some d → t'[d]? = some v) ∧ ∀ k, dst ≠ some k → t'[k]? = t[k]? := by
  cases dst with
  | none => exact ⟨t, h, rfl, by simp, fun _ _ => rfl⟩
  | some d =>
    simp only [St.put, force_eq] at h
    obtain ⟨hlt, h⟩ := setK_iff h
    refine ⟨_, h, by simp, fun d' e => ?_, fun k hk => ?_⟩
    · cases e; rw [List.getElem?_set_self hlt]
    · rw [List.getElem?_set_ne (fun e => hk (by rw [e]))]

theorem unlisted_iff {listed : Array Bool} {i : Nat} : listed.getD i true = false ↔ i < listed.size ∧ listed.getD i false = false := by
  by_cases h : i < listed.size <;> simp [Array.getD, h]

theorem listed_set {listed : Array Bool} {i j : Nat} (hi : i < listed.size) : (listed.setIfInBounds i true).getD j false = true ↔ j = i ∨ listed.getD j false = true := by
  by_cases h : i = j
  · subst h; simp [Array.getD, hi]
  · rw [getD_set_ne false h]
    exact ⟨.inr, fun h' => h'.resolve_left fun e => h e.symm⟩

theorem sim_put {g : G} {w : World} {b : Act} {m : Nat → Bool} {t t' : List V} {ob : List VObj} {nt : Nat} {df : List (Fn × List V × List V)} {dst : Option Tmp} {v : V} {x : Value} (hs : Sim c g w b (maskS m ⟨t, ob, nt, df⟩)) (hv : VT g w ob.length nt v x)
    (hl : t'.length = t.length) (h1 : ∀ d, dst = some d → t'[d]? = some v) (h2 : ∀ k, dst ≠ some k → t'[k]? = t[k]?) : Sim c g w (b.put dst x) (maskS m ⟨t', ob, nt, df⟩) := by
  cases dst with
  | none =>
    have : t' = t := List.ext_getElem? fun k => h2 k (by simp)
    rw [this]; exact hs
  | some d =>
    refine ⟨hs.wi, tinv_weaker (hs.ti.set (i := d) hv) (by simp [masked_length, hl, maskS]) fun k u hu => ?_, hs.di⟩
    simp only [maskS, masked_get] at hu
    by_cases hk : d = k
    · subst hk
      rw [h1 d rfl] at hu
      simp only [Option.map_some, Option.some.injEq] at hu
      split at hu
      · exact .inl hu.symm
      · refine .inr ?_
        have : d < t.length := by rw [← hl]; exact (List.getElem?_eq_some_iff.1 (h1 d rfl)).1
        show ((masked m t).set d v)[d]? = _
        rw [List.getElem?_set_self (by rw [masked_length]; exact this), hu]
    · rw [h2 k (by simpa using hk)] at hu
      refine .inr ?_
      show ((masked m t).set d v)[k]? = _
      rw [List.getElem?_set_ne hk, masked_get]; exact hu

theorem draw_any (hm : CallMono S) (hS : ∀ g args ob K, S.call g args ob K → VCall0 S.P g args ob K) {K : St → Prop} (hk : ∀ s g w a, K s → Sim c g w a s → Q .normal a w) (hd : depsOk ops.toList 0 = true) :
    ∀ (N : Nat) (π : List (Nat × Bool)) (done : List Nat) (s : St) (fuel : Nat) (listed : Array Bool) (U : List Nat) (g : G) (w : World) (a : Act), π.length + fuel ≤ N →
      planOk ops.toList (ancs ops.toList []) π done = true → (π.map (·.1)).Nodup → vdraw S ops.toList (ancs ops.toList []) π done s K → DoneOk ops.toList done →
      Sim c g w a (maskS (slotIn ops.toList U) s) → U.Nodup → (∀ i ∈ U, i ∈ done ∧ listed.getD i true = false ∧ i ∉ π.map (·.1) ∧ FOK S ops.toList i s.t s.objs) →
      (∀ i, i < ops.size → listed.getD i true = false → i ∈ U ∨ i ∈ π.map (·.1)) → (∀ i ∈ π.map (·.1), listed.getD i true = false) → listed.size = ops.size →
      (∀ (i : Nat) o, ops.toList[i]? = some o → listed.getD i false = true → ∀ e ∈ o.after, Region.binds .any e = true → listed.getD e.on false = true) → U.length + π.length ≤ fuel →
      wpAny S.P .any ops Q fuel listed a w := by
  have hmask : ∀ s : St, maskS (slotIn ops.toList []) s = s := fun s => by
    obtain ⟨t, ob, nt, df⟩ := s
    have : masked (slotIn ops.toList []) t = t := List.ext_getElem? fun k => by
      rw [masked_get]; simp [slotIn]
    simp only [maskS, this]
  -- all have come
  have fin : ∀ (s : St) (g : G) (w : World) (a : Act), vdraw S ops.toList (ancs ops.toList []) [] [] s K ∨ K s → Sim c g w a (maskS (slotIn ops.toList []) s) → Q .normal a w := fun s g w a h hs => by
    rw [hmask] at hs
    rcases h with h | h
    · obtain ⟨t, ob, nt, df⟩ := s; exact hk _ _ _ _ h hs
    · exact hk _ _ _ _ h hs
  intro N
  induction N with
  | zero =>
    intro π done s fuel listed U g w a hN hplan hnd h hdone hs hUn hU hcov hun hsize hcl hcount
    have hf : fuel = 0 := by omega
    have hπ : π = [] := List.eq_nil_of_length_eq_zero (by omega)
    have hU0 : U = [] := List.eq_nil_of_length_eq_zero (by omega)
    subst hf; subst hπ; subst hU0
    refine ⟨?_, fin s g w a (.inr (by obtain ⟨t, ob, nt, df⟩ := s; exact h)) hs⟩
    cases hr : Region.ready .any ops listed with
    | nil => rfl
    | cons j r =>
      obtain ⟨h1, o, h2, _⟩ := mem_ready.1 (show j ∈ Region.ready .any ops listed by rw [hr]; simp)
      have := hcov j (Array.getElem?_eq_some_iff.1 h2).1 h1
      simp at this
  | succ N ih =>
    intro π done s fuel listed U g w a hN hplan hnd h hdone hs hUn hU hcov hun hsize hcl hcount
    cases fuel with
    | zero =>
      have hπ : π = [] := List.eq_nil_of_length_eq_zero (by omega)
      have hU0 : U = [] := List.eq_nil_of_length_eq_zero (by omega)
      subst hπ; subst hU0
      refine ⟨?_, fin s g w a (.inr (by obtain ⟨t, ob, nt, df⟩ := s; exact h)) hs⟩
      cases hr : Region.ready .any ops listed with
      | nil => rfl
      | cons j r =>
        obtain ⟨h1, o, h2, _⟩ := mem_ready.1 (show j ∈ Region.ready .any ops listed by rw [hr]; simp)
        have := hcov j (Array.getElem?_eq_some_iff.1 h2).1 h1
        simp at this
    | succ f =>
      have hsizeL : ops.toList.length = ops.size := by simp
      have hnoU : ∀ i ∈ U, ¬ listed.getD i false = true := fun i hi h => by
        have := (unlisted_iff.1 (hU i hi).2.1).2; rw [this] at h; cases h
      have hnoπ : ∀ i ∈ π.map (·.1), ¬ listed.getD i false = true := fun i hi h => by
        have := (unlisted_iff.1 (hun i hi)).2; rw [this] at h; cases h
      refine ⟨fun hr => ?_, fun i hi => ?_⟩
      · -- nothing is ready: all have come
        have hall : ∀ k, k < ops.size → listed.getD k false = true := by
          intro k
          induction k using Nat.strongRecOn with
          | _ k ihk =>
            intro hk'
            cases hl : listed.getD k false with
            | true => rfl
            | false =>
              have hop : ops[k]? = some ops[k] := Array.getElem?_eq_getElem hk'
              have : k ∈ Region.ready .any ops listed := mem_ready.2 ⟨unlisted_iff.2 ⟨by omega, hl⟩, ops[k], hop, fun e he hb => by
                have := depsOk_iff ops.toList hd k ops[k] (by simp) e he hb
                exact ihk e.on (by omega) (by omega)⟩
              rw [hr] at this; cases this
        have hU0 : U = [] := by
          cases U with
          | nil => rfl
          | cons i U =>
            have h1 := unlisted_iff.1 (hU i (by simp)).2.1
            exact absurd (hall i (by omega)) (hnoU i (by simp))
        have hπ0 : π = [] := by
          cases π with
          | nil => rfl
          | cons p r =>
            have h1 := unlisted_iff.1 (hun p.1 (by simp))
            exact absurd (hall p.1 (by omega)) (hnoπ p.1 (by simp))
        subst hU0; subst hπ0
        exact fin s g w a (.inr (by obtain ⟨t, ob, nt, df⟩ := s; exact h)) hs
      · obtain ⟨hi1, o, ho, hdeps⟩ := mem_ready.1 hi
        have hoL : ops.toList[i]? = some o := by simpa using ho
        have hilt : i < ops.size := (Array.getElem?_eq_some_iff.1 ho).1
        have hanc : ∀ j, isAnc (ancs ops.toList []) i j = true → listed.getD j false = true := anc_closed hd (L := fun k => listed.getD k false = true) (fun k p hp hL e he hb => hcl k p hp hL e he hb) i o hoL hdeps
        have hls : ∀ j, (listed.setIfInBounds i true).getD j false = true ↔ j = i ∨ listed.getD j false = true := fun j => listed_set (by omega)
        have hcl' : ∀ (k : Nat) p, ops.toList[k]? = some p → (listed.setIfInBounds i true).getD k false = true → ∀ e ∈ p.after, Region.binds .any e = true → (listed.setIfInBounds i true).getD e.on false = true := fun k p hp hL e he hb => by
          rw [hls] at hL ⊢
          rcases hL with rfl | hL
          · rw [hoL] at hp; cases hp; exact .inr (hdeps e he hb)
          · exact .inr (hcl k p hp hL e he hb)
        have hun' : ∀ j, j ≠ i → (listed.setIfInBounds i true).getD j true = listed.getD j true := fun j hj => getD_set_ne true (Ne.symm hj)
        have hself' : ¬ (listed.setIfInBounds i true).getD i true = false := fun h => by
          have := (unlisted_iff.1 h).2
          rw [(hls i).2 (.inl rfl)] at this; cases this
        rcases hcov i hilt hi1 with hiU | hiπ
        · -- it is one that is still to come
          obtain ⟨b1, b2, b3, b4⟩ := hU i hiU
          refine exec_flo hoL hiU hUn b4 (fun d hdl => ?_) (fun d hdd => ?_) hs fun g' w' a' hs' => ?_
          · cases hsl : slotIn ops.toList U d with
            | false => rfl
            | true =>
              obtain ⟨j, hj, p, hp, e⟩ := slotIn_iff.1 hsl
              by_cases hji : j = i
              · subst hji
                rw [hoL] at hp; cases hp
                have := hdone.self j b1 o hoL
                rw [dstIn_iff.2 ⟨d, e, hdl⟩] at this; cases this
              · have := hdone.look i b1 j (hU j hj).1 (Ne.symm hji) o p hoL hp (dstIn_iff.2 ⟨d, e, hdl⟩)
                exact absurd (hanc j this) (hnoU j hj)
          · cases hsl : slotIn ops.toList (U.erase i) d with
            | false => rfl
            | true =>
              obtain ⟨j, hj, p, hp, e⟩ := slotIn_iff.1 hsl
              obtain ⟨hji, hj⟩ := (List.Nodup.mem_erase_iff hUn).1 hj
              have := hdone.same i b1 j (hU j hj).1 (Ne.symm hji) o p hoL hp
              rw [sameDst_iff.2 ⟨d, hdd, e⟩] at this; cases this
          · have hpos : 0 < U.length := List.length_pos_of_mem hiU
            refine ih π done s f (listed.setIfInBounds i true) (U.erase i) g' w' a' (by omega) hplan hnd h hdone hs' (hUn.erase i) (fun j hj => ?_) (fun j hj hjl => ?_) (fun j hj => ?_) (by simp [hsize]) hcl' (by rw [List.length_erase_of_mem hiU]; omega)
            · obtain ⟨hji, hj⟩ := (List.Nodup.mem_erase_iff hUn).1 hj
              obtain ⟨q1, q2, q3, q4⟩ := hU j hj
              exact ⟨q1, by rw [hun' j hji]; exact q2, q3, q4⟩
            · have hji : j ≠ i := fun e => by subst e; exact hself' hjl
              rw [hun' j hji] at hjl
              rcases hcov j hj hjl with h | h
              · exact .inl ((List.Nodup.mem_erase_iff hUn).2 ⟨hji, h⟩)
              · exact .inr h
            · have hji : j ≠ i := fun e => by subst e; exact b3 hj
              rw [hun' j hji]; exact hun j hj
        · -- the reckoning goes on
          cases π with
          | nil => simp at hiπ
          | cons p r =>
            obtain ⟨n, fl⟩ := p
            obtain ⟨o', hh⟩ := planOk_cons hplan
            have hnr : n ∉ r.map (·.1) ∧ (r.map (·.1)).Nodup := by simpa using hnd
            cases fl with
            | true =>
              have hU' : ∀ {t t' : List V} {ob : List VObj} {v : V}, (∀ d, o'.dst = some d → t'[d]? = some v) → (∀ k, o'.dst ≠ some k → t'[k]? = t[k]?) →
                  ((gOn ops.toList o' t = some true ∧ vflo S o' t ob fun u => u = v) ∨ (gOn ops.toList o' t = some false ∧ v = .tup [])) → (∀ j ∈ U, FOK S ops.toList j t ob) → ∀ j ∈ n :: U, FOK S ops.toList j t' ob :=
                fun {t t' ob v} e1 e2 e3 e4 j hj => by
                  have hno : ∀ l : List Nat, dstIn o'.dst l = false → ∀ d ∈ l, t[d]? = t'[d]? := fun l hl d hdl => (e2 d fun e => by rw [dstIn_iff.2 ⟨d, e, hdl⟩] at hl; cases hl).symm
                  rcases List.mem_cons.1 hj with rfl | hj
                  · have hag := hno _ (hh.self rfl)
                    exact ⟨o', v, hh.op, e1, by rw [← looks_gOn hag, ← vflo_congr S ob (looks_ev hag)]; exact e3⟩
                  · obtain ⟨p, hp, a1, a2, a3⟩ := hh.apart j (hU j hj).1
                    exact (e4 j hj).congr hp (hno _ (a2 rfl)) fun d hdd => (e2 d fun e => by rw [sameDst_iff.2 ⟨d, e, hdd⟩] at a1; cases a1).symm
              obtain ⟨t, ob, nt, df⟩ := s
              have hgo : ∀ (t' : List V) (v : V), t'.length = t.length → (∀ d, o'.dst = some d → t'[d]? = some v) → (∀ k, o'.dst ≠ some k → t'[k]? = t[k]?) →
                  ((gOn ops.toList o' t = some true ∧ vflo S o' t ob fun u => u = v) ∨ (gOn ops.toList o' t = some false ∧ v = .tup [])) → vdraw S ops.toList (ancs ops.toList []) r (n :: done) ⟨t', ob, nt, df⟩ K →
                  wpOp S.P ops Q i (wpAny S.P .any ops Q f (listed.setIfInBounds i true)) a w := fun t' v e0 e1 e2 e3 hv => by
                refine (ih r (n :: done) ⟨t', ob, nt, df⟩ (f + 1) listed (n :: U) g w a (by simp at hN; omega) hh.rest hnr.2 hv (hdone.cons hh) ?_ ?_ (fun j hj => ?_) (fun j hj hjl => ?_) (fun j hj => hun j (by simp at hj ⊢; exact .inr hj)) hsize hcl (by simp at hcount ⊢; omega)).2 i hi
                · refine ⟨hs.wi, tinv_weaker hs.ti (by simp [maskS, masked_length, e0]) fun k u hu => ?_, hs.di⟩
                  simp only [maskS, masked_get] at hu ⊢
                  by_cases hsl : slotIn ops.toList (n :: U) k = true
                  · cases ht' : t'[k]? with
                    | none => rw [ht'] at hu; cases hu
                    | some u' => rw [ht'] at hu; simp [hsl] at hu; exact .inl hu.symm
                  · have hk1 : o'.dst ≠ some k := fun e => hsl (slotIn_iff.2 ⟨n, by simp, o', hh.op, e⟩)
                    have hk2 : slotIn ops.toList U k = false := by
                      cases h : slotIn ops.toList U k with
                      | false => rfl
                      | true =>
                        obtain ⟨j, hj, p, hp, e⟩ := slotIn_iff.1 h
                        exact absurd (slotIn_iff.2 ⟨j, by simp [hj], p, hp, e⟩) hsl
                    rw [e2 k hk1] at hu
                    simp only [hsl, hk2] at hu ⊢
                    exact .inr hu
                · exact List.nodup_cons.2 ⟨fun hnU => (hU n hnU).2.2.1 (by simp), hUn⟩
                · refine ⟨?_, ?_, ?_, hU' e1 e2 e3 (fun j hj => (hU j hj).2.2.2) j hj⟩
                  · rcases List.mem_cons.1 hj with rfl | hj
                    · simp
                    · exact List.mem_cons_of_mem _ (hU j hj).1
                  · rcases List.mem_cons.1 hj with rfl | hj
                    · exact hun j (by simp)
                    · exact (hU j hj).2.1
                  · rcases List.mem_cons.1 hj with rfl | hj
                    · exact hnr.1
                    · exact fun h => (hU j hj).2.2.1 (by simp at h ⊢; exact .inr h)
                · rcases hcov j hj hjl with h | h
                  · exact .inl (by simp [h])
                  · simp at h
                    rcases h with rfl | h
                    · exact .inl (by simp)
                    · exact .inr (by simpa using h)
              simp only [vdraw, hh.op] at h
              rcases guardK_iff h with ⟨hg, h⟩ | ⟨hg, h⟩
              · obtain ⟨v, hv, h2⟩ := det_vflo S o' t ob _ h
                obtain ⟨t', hv, e0, e1, e2⟩ := put_iff hv
                exact hgo t' v e0 e1 e2 (.inl ⟨hg, h2 _ rfl⟩) hv
              · obtain ⟨t', hv, e0, e1, e2⟩ := put_iff h
                exact hgo t' (.tup []) e0 e1 e2 (.inr ⟨hg, rfl⟩) hv
            | false =>
              have hin : i = n := by
                have hiπ : i = n ∨ i ∈ r.map (·.1) := by simpa only [List.map_cons, List.mem_cons] using hiπ
                rcases hiπ with rfl | hr
                · rfl
                · obtain ⟨p, hp, hpi⟩ := List.mem_map.1 hr
                  have := hh.last rfl p hp
                  rw [hpi] at this
                  exact absurd (hanc n this) (hnoπ n (by simp))
              subst hin
              have hoo : o' = o := by have := hh.op; rw [hoL] at this; exact (Option.some.inj this).symm
              subst hoo
              have hnoanc : ∀ j ∈ U, isAnc (ancs ops.toList []) i j = false := fun j hj => by
                cases h : isAnc (ancs ops.toList []) i j with
                | false => rfl
                | true => exact absurd (hanc j h) (hnoU j hj)
              have hlook : ∀ d ∈ looks ops.toList o', slotIn ops.toList U d = false := fun d hdl => by
                cases hsl : slotIn ops.toList U d with
                | false => rfl
                | true =>
                  obtain ⟨j, hj, p, hp, e⟩ := slotIn_iff.1 hsl
                  obtain ⟨p', hp', a1, a2, a3⟩ := hh.apart j (hU j hj).1
                  rw [hp] at hp'; cases hp'
                  have := a3 (dstIn_iff.2 ⟨d, e, hdl⟩)
                  rw [hnoanc j hj] at this; cases this
              obtain ⟨t, ob, nt, df⟩ := s
              have hag : ∀ d ∈ looks ops.toList o', t[d]? = (masked (slotIn ops.toList U) t)[d]? := fun d hd => by
                rw [masked_get, hlook d hd]; cases t[d]? <;> rfl
              have hgo : ∀ (t1 t2 : List V) (ob' : List VObj) (nt' : Nat) (df' : List (Fn × List V × List V)) (v : V) (x : Value) (g' : G) (w' : World) (b : Act), t2.length = t1.length → (∀ d, o'.dst = some d → t2[d]? = some v) → (∀ k, o'.dst ≠ some k → t2[k]? = t1[k]?) →
                  (St.re S ops.toList (ancs ops.toList []) i done ⟨t2, ob', nt', df'⟩ fun s => vdraw S ops.toList (ancs ops.toList []) r done s K) → Sim c g' w' b (maskS (slotIn ops.toList U) ⟨t1, ob', nt', df'⟩) → VT g' w' ob'.length nt' v x →
                  wpAny S.P .any ops Q f (listed.setIfInBounds i true) (b.put o'.dst x) w' := fun t1 t2 ob' nt' df' v x g' w' b e0 e1 e2 hre hsb hv => by
                obtain ⟨h1, h2⟩ := recheck_iff hre
                refine ih r done ⟨t2, ob', nt', df'⟩ f (listed.setIfInBounds i true) U g' w' _ (by simp at hN; omega) hh.rest hnr.2 h1 hdone (sim_put hsb hv e0 e1 e2) hUn (fun j hj => ?_) (fun j hj hjl => ?_) (fun j hj => ?_) (by simp [hsize]) hcl' (by simp at hcount; omega)
                · obtain ⟨q1, q2, q3, q4⟩ := hU j hj
                  have hji : j ≠ i := fun e => by subst e; exact q3 (by simp)
                  exact ⟨q1, by rw [hun' j hji]; exact q2, fun h => q3 (by simp at h ⊢; exact .inr h), h2 j q1 (hnoanc j hj)⟩
                · have hji : j ≠ i := fun e => by subst e; exact hself' hjl
                  rw [hun' j hji] at hjl
                  rcases hcov j hj hjl with h | h
                  · exact .inl h
                  · simp at h
                    rcases h with rfl | h
                    · exact absurd rfl hji
                    · exact .inr (by simpa using h)
                · have hji : j ≠ i := fun e => by subst e; exact hnr.1 hj
                  rw [hun' j hji]; exact hun j (by simp at hj ⊢; exact .inr hj)
              simp only [vdraw, hh.op] at h
              unfold wpOp
              rw [ho]
              simp only
              rcases guardK_iff h with ⟨hg, h⟩ | ⟨hg, h⟩
              · rw [looks_gOn hag] at hg
                rw [wanted_gOn hs.ti hg, if_pos rfl]
                refine .inl (sound_op (S := S) hS (next := wpAny S.P .any ops Q f (listed.setIfInBounds i true)) ?_ hs
                  (vop_mask S hm (m := slotIn ops.toList U) (fun x hx d e => hlook d (List.mem_append_left _ (List.mem_filterMap.2 ⟨x, hx, by rw [e]⟩))) h))
                refine ⟨fun v x s' g' w' b hk' hs' _ hv => ?_, fun _ _ _ _ _ _ h => h.elim⟩
                obtain ⟨s1, hk', rfl⟩ := hk'
                obtain ⟨t1, ob1, nt1, df1⟩ := s1
                obtain ⟨t2, hk', e0, e1, e2⟩ := put_iff hk'
                exact hgo t1 t2 ob1 nt1 df1 v x g' w' b e0 e1 e2 hk' hs' hv
              · rw [looks_gOn hag] at hg
                rw [wanted_gOn hs.ti hg, if_neg (by simp)]
                obtain ⟨t2, hk', e0, e1, e2⟩ := put_iff h
                exact hgo t t2 ob nt df (.tup []) undef g w a e0 e1 e2 hk' hs (.of (.tup rfl (by simp)) rfl)

theorem draw_sound (hm : CallMono S) (hS : ∀ g args ob K, S.call g args ob K → VCall0 S.P g args ob K) {id : Nat} {s : St} {K : St → Prop} {g : G} {w : World} {a : Act}
    (h : drawOk S.P ops.toList (planOf ops.toList) = true ∧ vdraw S ops.toList (ancs ops.toList []) (planOf ops.toList) [] s K) (hk : ∀ s g w a, K s → Sim c g w a s → Q .normal a w) (hs : Sim c g w a s) :
    (Code.region id ops true).wp S.P Q a w := by
  obtain ⟨hok, h⟩ := h
  simp only [drawOk, Bool.and_eq_true] at hok
  obtain ⟨⟨⟨⟨h1, h2⟩, h3⟩, h4⟩, h5⟩ := hok
  refine wp_region_any h1 ?_
  have hs' : Sim c g w.drew a s := ⟨hs.wi.drew, (Ext.drew g w s.objs.length s.nt).tinv hs.ti, (Ext.drew g w s.objs.length s.nt).drel hs.di⟩
  have hmask : maskS (slotIn ops.toList []) s = s := by
    obtain ⟨t, ob, nt, df⟩ := s
    have : masked (slotIn ops.toList []) t = t := List.ext_getElem? fun k => by
      rw [masked_get]; simp [slotIn]
    simp only [maskS, this]
  have hnd := nodupN_iff h3
  have hin : ∀ i, i < ops.size → i ∈ (planOf ops.toList).map (·.1) := fun i hi => allIn_iff h4 i (by simpa using hi)
  have hlt : ∀ i ∈ (planOf ops.toList).map (·.1), i < ops.size := by
    have : ∀ (π : List (Nat × Bool)) (done : List Nat), planOk ops.toList (ancs ops.toList []) π done = true → ∀ i ∈ π.map (·.1), i < ops.size := by
      intro π
      induction π with
      | nil => intro _ _ i hi; simp at hi
      | cons p r ih =>
        obtain ⟨n, fl⟩ := p
        intro done h i hi
        obtain ⟨o, hh⟩ := planOk_cons h
        have hi : i = n ∨ i ∈ r.map (·.1) := by simpa only [List.map_cons, List.mem_cons] using hi
        rcases hi with rfl | hr
        · have := (List.getElem?_eq_some_iff.1 hh.op).1; simpa using this
        · exact ih _ hh.rest i hr
    exact this _ _ h5
  have hun : ∀ i, i < ops.size → (Array.replicate ops.size false).getD i true = false := fun i hi => by simp [Array.getD, hi]
  have hlen : (planOf ops.toList).length ≤ ops.size := by
    have : ((planOf ops.toList).map (·.1)).length ≤ (List.range ops.size).length := List.Nodup.length_le_of_subset hnd fun i hi => by simpa using hlt i hi
    simpa using this
  exact draw_any hm hS hk h2 _ (planOf ops.toList) [] s ops.size _ [] g w.drew a (Nat.le_refl _) h5 hnd h ⟨by simp, by simp, by simp⟩ (by rw [hmask]; exact hs') .nil (by simp) (fun i hi _ => .inr (hin i hi))
    (fun i hi => hun i (hlt i hi)) (by simp) (fun i o _ h => by simp [Array.getD] at h) (by simpa using hlen)

end
end VL

namespace VL
open Go
set_option linter.unusedVariables false
set_option linter.unusedSimpArgs false

section
variable {S : Sys} {c : Ctx} {Q : Exit → Act → World → Prop}

theorem sound_code (hm : CallMono S) (hS : ∀ g args ob K, S.call g args ob K → VCall0 S.P g args ob K)
    (hL : ∀ (code : Code) (s : St) (K : Ex → St → Prop) (c : Ctx) (Q : Exit → Act → World → Prop) (g : G) (w : World) (a : Act), S.loop code s K → Fits c K Q → Sim c g w a s → (Code.loop code).wp S.P Q a w) :
    ∀ (code : Code) (s : St) (K : Ex → St → Prop) (Q : Exit → Act → World → Prop) (g : G) (w : World) (a : Act), vwp S code s K → Fits c K Q → Sim c g w a s → code.wp S.P Q a w := by
  intro code
  induction code with
  | skip => intro s K Q g w a h hf hs; exact wp_skip (hf.normal _ _ _ _ h hs)
  | region id ops draw =>
    intro s K Q g w a h hf hs
    cases draw with
    | true => exact draw_sound hm hS h (fun s g w a hk hs => hf.normal s g w a hk hs) hs
    | false => exact wp_region_list (sound_ops hS (fun s g w a hk hs => hf.normal s g w a hk hs) (fun v x s g w a hk hs hv => hf.pan v x s g w a hk hs hv) _ s g w a hs h)
  | seq x y ihx ihy =>
    intro s K Q g w a h hf hs
    refine wp_seq (ihx s _ _ g w a h ?_ hs)
    exact ⟨fun s g w a hk hs => ihy s K Q g w a hk.out hf hs, fun i s g w a hk hs => hf.exit i s g w a hk hs, fun s g w a hk hs => hf.ret s g w a hk hs, fun v x s g w a hk hs hv => hf.pan v x s g w a hk hs hv⟩
  | cond x a' b' iha ihb =>
    intro s K Q g w a h hf hs
    obtain ⟨t, ob, nt, df⟩ := s
    obtain ⟨v, hv, hk⟩ := ev_sound hs.ti h
    cases v <;> try exact hk.elim
    rename_i b
    have hx : a.eval x = .bool b := by
      have := hv.rel
      generalize a.eval x = e at this
      cases this; rfl
    rcases bif_elim hk with ⟨rfl, hk⟩ | ⟨rfl, hk⟩
    · exact wp_cond_true hx (iha _ K Q g w a hk hf hs)
    · exact wp_cond_false hx (ihb _ K Q g w a hk hf hs)
  | block i x ih =>
    intro s K Q g w a h hf hs
    refine wp_block (ih s _ _ g w a h ?_ hs)
    refine ⟨fun s g w a hk hs => hf.normal s g w a hk hs, fun j s g w a hk hs => ?_, fun s g w a hk hs => hf.ret s g w a hk hs, fun v x s g w a hk hs hv => hf.pan v x s g w a hk hs hv⟩
    simp only at hk
    by_cases e : j = i
    · subst e
      simp only [Nat.beq_refl] at hk
      simp only [Exit.inBlock, if_true]
      exact hf.normal _ _ _ _ hk hs
    · have hb : Nat.beq j i = false := by cases hb : Nat.beq j i with
        | true => exact absurd (Nat.eq_of_beq_eq_true hb) e
        | false => rfl
      rw [hb] at hk
      simp only [Exit.inBlock, if_neg e]
      exact hf.exit _ _ _ _ _ hk hs
  | loop x ih => intro s K Q g w a h hf hs; exact hL x s K c Q g w a h hf hs
  | exit i => intro s K Q g w a h hf hs; exact wp_exit (hf.exit _ _ _ _ _ h hs)
  | ret => intro s K Q g w a h hf hs; exact wp_ret (hf.ret _ _ _ _ h hs)
  | _ => intro s K Q g w a h hf hs; exact h.elim

end
end VL

namespace VL
open Go
set_option linter.unusedVariables false
set_option linter.unusedSimpArgs false

noncomputable section

def resK (P : Program) (t : List V) (ob : List VObj) : ResultVar → (V → Prop) → Prop
  | .tmp i, K => getK t i fun v => v.untokK K
  | .cell i T, K => getK t i fun p => match p with
    | .ptr j off => getK ob j fun o => match o with
      | .cells _ _ cs => dropK cs off fun cs => loadK P T cs fun v => v.untokK K
      | _ => False
    | _ => False

def oneOf : List V → (V → Prop) → Prop
  | [v], K => K v
  | vs, K => K (.tup vs)

def prefixB : Nat → Nat → List Nat → Bool
  | 0, _, _ => true
  | n + 1, i, j :: r => Nat.beq j i && prefixB n (i + 1) r
  | _ + 1, _, [] => false

def upto : Nat → Nat → List Nat
  | 0, _ => []
  | n + 1, i => i :: upto n (i + 1)

/-- what is left behind a function: the objects that it was handed, and what its answer leads to -/
def leaveK (n0 : Nat) (v : V) (ob : List VObj) (K : V → List VObj → Prop) : Prop :=
  listK (reach ob 64 (upto n0 0 ++ ptrs v) []) fun idx =>
  match nodupN idx && allIn idx (ptrs v) && shutN ob idx idx && prefixB n0 0 idx with
  | false => False
  | true => getsK ob (fun i => posN i idx 0) idx fun sub => renP (fun i => posN i idx 0) v fun v => K v sub

def endK (P : Program) (fn : Func) (n0 : Nat) (e : Ex) : St → (Out → List VObj → Prop) → Prop
  | ⟨t, ob, _, df⟩, K => match df with
    | [] => (match e with
      | .normal => mapK (resK P t ob) fn.results.toList fun vs => oneOf vs fun v => leaveK n0 v ob fun v ob => K (.ret v) ob
      | .ret => mapK (resK P t ob) fn.results.toList fun vs => oneOf vs fun v => leaveK n0 v ob fun v ob => K (.ret v) ob
      | .pan v => leaveK n0 v ob fun v ob => K (.pan v) ob
      | .exit _ => False)
    | _ => False

def padV : Nat → List V → List V
  | n, v :: r => v :: padV (n - 1) r
  | n, [] => undefs n
where undefs : Nat → List V
  | 0 => []
  | n + 1 => .undef :: undefs n

end

def resRun (tmps : Array Value) (r : ResultVar) : Sem Value :=
  match r with
  | .tmp t => pure (tmps.getD t undef)
  | .cell a t => do loadVar t (← asAddr (tmps.getD a undef))

theorem results_eq (fn : Func) (tmps : Array Value) : results fn tmps = (do
    let vs ← fn.results.mapM (resRun tmps)
    pure (if h : vs.size = 1 then vs[0] else .tuple vs)) := rfl

theorem run_mapM {P : Program} {w : World} {α β : Type} {f : α → Sem β} : ∀ {l : List α} {ys : List β}, ys.length = l.length → (∀ (k : Nat) x y, l[k]? = some x → ys[k]? = some y → (f x).run P w = .ok y w) →
    (l.mapM f).run P w = .ok ys w
  | [], [], _, _ => by simp
  | x :: r, y :: ys, hl, h => by
    have h0 := h 0 x y rfl rfl
    have ih := run_mapM (P := P) (w := w) (f := f) (l := r) (ys := ys) (by simpa using hl) fun k a b ha hb => h (k + 1) a b (by simpa using ha) (by simpa using hb)
    simp [List.mapM_cons, h0, ih]

theorem mapK_all {α β : Type} {f : α → (β → Prop) → Prop} {R : α → β → Prop} (hf : ∀ x K, f x K → ∃ y, R x y ∧ K y) : ∀ {l : List α} {K : List β → Prop}, mapK f l K →
    ∃ ys, ys.length = l.length ∧ (∀ (k : Nat) x y, l[k]? = some x → ys[k]? = some y → R x y) ∧ K ys
  | [], K, h => ⟨[], rfl, by simp, h⟩
  | x :: r, K, h => by
    obtain ⟨y, h1, h2⟩ := hf x _ h
    obtain ⟨ys, h3, h4, h5⟩ := mapK_all hf h2
    refine ⟨y :: ys, by simp [h3], fun k a b ha hb => ?_, h5⟩
    cases k with
    | zero => simp at ha hb; subst ha; subst hb; exact h1
    | succ k => exact h4 k a b (by simpa using ha) (by simpa using hb)

theorem prefixB_iff : ∀ {n i : Nat} {l : List Nat}, prefixB n i l = true → ∀ k, k < n → l[k]? = some (i + k)
  | n + 1, i, j :: r, h, k, hk => by
    simp only [prefixB, Bool.and_eq_true] at h
    cases k with
    | zero => simp [Nat.eq_of_beq_eq_true h.1]
    | succ k => simp only [List.getElem?_cons_succ]; rw [prefixB_iff h.2 k (by omega)]; congr 1; omega

section
variable {P : Program} {c : Ctx} {g : G} {w : World} {ob : List VObj} {nt : Nat}

theorem leave_sound {v : V} {x : Value} {K : V → List VObj → Prop} (h : WInv c g w ob nt) (hv : VRel g.bs g.I w ob.length v x) (hk : leaveK c.n0 v ob K) :
    ∃ g' sub v', WInv c g' w sub 0 ∧ VRel g'.bs g'.I w sub.length v' x ∧ (v.noTok = true → v'.noTok = true) ∧ K v' sub := by
  unfold leaveK at hk
  have hk := listK_iff hk
  generalize reach ob 64 (upto c.n0 0 ++ ptrs v) [] = idx at hk
  split at hk
  case h_1 => exact hk.elim
  rename_i hchk
  simp only [Bool.and_eq_true] at hchk
  obtain ⟨⟨⟨hnd, hin⟩, hshut⟩, hpre⟩ := hchk
  have hnd := nodupN_iff hnd
  obtain ⟨sub, hl, hsub, hk⟩ := getsK_iff hk
  have hpre : ∀ o, o < c.n0 → idx[o]? = some o := fun o ho => by have := prefixB_iff hpre o ho; simpa using this
  have hi := call_in h hnd (shutN_iff hshut) hl hsub
  have hget : ∀ (j : Nat) x, sub[j]? = some x → ∃ i o, idx[j]? = some i ∧ ob[i]? = some o ∧ o ≠ .none ∧ (inG g idx).bs j = g.bs i := fun j x hx => by
    have hlt : j < idx.length := by rw [← hl]; exact (List.getElem?_eq_some_iff.1 hx).1
    obtain ⟨o, h1, h2, h3⟩ := hsub j idx[j] (List.getElem?_eq_getElem hlt)
    exact ⟨idx[j], o, List.getElem?_eq_getElem hlt, h1, h2, by simp [inG, hlt]⟩
  refine ⟨inG g idx, sub, _, ⟨h.os, h.tape, h.output, h.size, h.keep, ?_, hi.obj, hi.lt, hi.inj, ?_, ?_, h.i1, h.i2, h.i3, hi.i4, hi.i5, fun i hi => absurd hi (by omega), fun i j hi => absurd hi (by omega), h.i6⟩,
    in_rel hv (fun o ho => allIn_iff hin o ho) hl, fun hn => noTok_ren hn, renP_iff hk⟩
  · rw [hl]
    rcases Nat.lt_or_ge idx.length c.n0 with hlt | hge
    · have := (List.getElem?_eq_some_iff.1 (hpre idx.length hlt)).1; omega
    · exact hge
  · intro o ho
    have : (inG g idx).bs o = g.bs o := by simp [inG, hpre o ho]
    rw [this]; exact h.old o ho
  · intro o x ho hx hne
    obtain ⟨i, y, h1, h2, h3, h4⟩ := hget o x hx
    rw [h4]
    rcases Nat.lt_or_ge i c.n0 with hlt | hge
    · have h5 := hpre i hlt
      have l1 := (List.getElem?_eq_some_iff.1 h1).1
      have l2 := (List.getElem?_eq_some_iff.1 h5).1
      have hp := List.pairwise_iff_getElem.1 hnd
      have he : idx[o] = idx[i] := by rw [(List.getElem?_eq_some_iff.1 h1).2, (List.getElem?_eq_some_iff.1 h5).2]
      rcases Nat.lt_trichotomy o i with hlt' | rfl | hlt'
      · exact absurd he (hp o i l1 l2 hlt')
      · omega
      · exact absurd he.symm (hp i o l2 l1 hlt')
    · exact h.new i y hge h2 h3

theorem res_sound {a : Act} {t : List V} (hw : WInv c g w ob nt) (ht : TInv g w ob.length nt a.tmps t) (r : ResultVar) (K : V → Prop) (h : resK P t ob r K) :
    ∃ v, (∃ x, VRel g.bs g.I w ob.length v x ∧ v.noTok = true ∧ (resRun a.tmps r).run P w = .ok x w) ∧ K v := by
  cases r with
  | tmp i =>
    obtain ⟨v, h1, h2⟩ := getK_iff h
    have hlt : i < a.tmps.size := by rw [← ht.size]; exact (List.getElem?_eq_some_iff.1 h1).1
    simp only [V.untokK, force_eq] at h2
    refine ⟨_, ⟨a.tmps[i], (ht.rel i v a.tmps[i] h1 (by simp [hlt])).rel.untok, untok_noTok _, by simp [resRun, Array.getD, hlt]⟩, h2⟩
  | cell i T =>
    obtain ⟨v, h1, h2⟩ := getK_iff h
    have hlt : i < a.tmps.size := by rw [← ht.size]; exact (List.getElem?_eq_some_iff.1 h1).1
    have hr := (ht.rel i v a.tmps[i] h1 (by simp [hlt])).rel
    cases v <;> try exact h2.elim
    rename_i j off
    obtain ⟨x1, h3, h4⟩ := getK_iff h2
    cases x1 <;> try exact h4.elim
    obtain ⟨h5, h6⟩ := dropK_iff h4
    obtain ⟨v, y, hK, hvt, hv, hrun⟩ := load_sound (b := g.bs j) (off := off) h6 (fun k v hv => by obtain ⟨c, h1, h2⟩ := obj_cell hw h3 hv; exact ⟨c, h1, h2.rel⟩)
    simp only [V.untokK, force_eq] at hK
    generalize hx : a.tmps[i] = e at hr
    cases hr
    refine ⟨_, ⟨y, hvt.untok, untok_noTok _, ?_⟩, hK⟩
    have hx' : a.tmps.getD i undef = .pointer (some ⟨g.bs j, off, none⟩) := by simp [Array.getD, hlt, hx]
    simp only [resRun, hx']
    simpa [Instr.loadAt, Instr.sureAddr, asAddr] using hrun

theorem results_sound {fn : Func} {a : Act} {t : List V} (hw : WInv c g w ob nt) (ht : TInv g w ob.length nt a.tmps t) {K : V → Prop} (h : mapK (resK P t ob) fn.results.toList fun vs => oneOf vs K) :
    ∃ v x, VRel g.bs g.I w ob.length v x ∧ v.noTok = true ∧ (results fn a.tmps).run P w = .ok x w ∧ K v := by
  obtain ⟨vs, h1, h2, h3⟩ := mapK_all (R := fun r v => ∃ x, VRel g.bs g.I w ob.length v x ∧ v.noTok = true ∧ (resRun a.tmps r).run P w = .ok x w) (res_sound hw ht) h
  clear h
  obtain ⟨xs, h4, h5⟩ : ∃ xs : List Value, xs.length = vs.length ∧ ∀ (k : Nat) r v x, fn.results.toList[k]? = some r → vs[k]? = some v → xs[k]? = some x →
      VRel g.bs g.I w ob.length v x ∧ v.noTok = true ∧ (resRun a.tmps r).run P w = .ok x w := by
    clear h3
    generalize fn.results.toList = rs at h1 h2
    induction rs generalizing vs with
    | nil => exact ⟨[], by simp [h1], by simp⟩
    | cons r rs ih =>
      cases vs with
      | nil => simp at h1
      | cons v vs =>
        obtain ⟨x, hx⟩ := h2 0 r v rfl rfl
        obtain ⟨xs, i1, i2⟩ := ih vs (by simpa using h1) fun k a b ha hb => h2 (k + 1) a b (by simpa using ha) (by simpa using hb)
        refine ⟨x :: xs, by simp [i1], fun k a b c ha hb hc => ?_⟩
        cases k with
        | zero => simp at ha hb hc; subst ha; subst hb; subst hc; exact hx
        | succ k => exact i2 k a b c (by simpa using ha) (by simpa using hb) (by simpa using hc)
  have hrun : (fn.results.mapM (resRun a.tmps)).run P w = .ok xs.toArray w := by
    rw [Array.mapM_eq_mapM_toList]
    have := run_mapM (P := P) (w := w) (l := fn.results.toList) (ys := xs) (f := resRun a.tmps) (by rw [h4, h1]) fun k r x hr hx => by
      have hlt : k < vs.length := by rw [← h4]; exact (List.getElem?_eq_some_iff.1 hx).1
      exact (h5 k r vs[k] x hr (List.getElem?_eq_getElem hlt) hx).2.2
    simp [this]
  have hres : ∀ k v x, vs[k]? = some v → xs[k]? = some x → VRel g.bs g.I w ob.length v x ∧ v.noTok = true := fun k v x hv hx => by
    have hlt : k < fn.results.toList.length := by rw [← h1]; exact (List.getElem?_eq_some_iff.1 hv).1
    have := h5 k fn.results.toList[k] v x (List.getElem?_eq_getElem hlt) hv hx
    exact ⟨this.1, this.2.1⟩
  have hfin : (results fn a.tmps).run P w = .ok (if h : xs.toArray.size = 1 then xs.toArray[0] else .tuple xs.toArray) w := by
    rw [results_eq, Sem.run_bind, hrun]
    rfl
  unfold oneOf at h3
  split at h3
  · rename_i v
    obtain ⟨x, rfl⟩ := List.length_eq_one_iff.1 h4
    exact ⟨v, x, (hres 0 v x rfl rfl).1, (hres 0 v x rfl rfl).2, by rw [hfin]; rfl, h3⟩
  · rename_i hne
    refine ⟨_, _, .tup (ca := xs.toArray) (by simp [h4]) fun k v c hv hc => (hres k v c hv (by simpa using hc)).1, rfl, ?_, h3⟩
    rw [hfin]
    have : ¬ xs.toArray.size = 1 := fun e => by
      have : vs.length = 1 := by rw [← h4]; simpa using e
      match vs, this with
      | [v], _ => exact hne v rfl
    rw [dif_neg this]

end

/-- what a function's code comes to -/
def vfun (S : Sys) (fn : Func) (body : Code) (args : List V) (ob : List VObj) (K : Out → List VObj → Prop) : Prop :=
  vwp S body ⟨padV fn.ntmps args, ob, 0, []⟩ fun e s => endK S.P fn ob.length e s K

theorem undefs_eq : ∀ n, padV.undefs n = List.replicate n .undef
  | 0 => rfl
  | n + 1 => by simp [padV.undefs, undefs_eq n, List.replicate_succ]

theorem padV_eq : ∀ (l : List V) (n : Nat), padV n l = l ++ List.replicate (n - l.length) .undef
  | [], n => by simp [padV, undefs_eq]
  | v :: r, n => by simp only [padV, padV_eq r, List.length_cons, List.cons_append]; rw [show n - 1 - r.length = n - (r.length + 1) by omega]

theorem fun_sound {S : Sys} (hm : CallMono S) (hS : ∀ g args ob K, S.call g args ob K → VCall0 S.P g args ob K)
    (hL : ∀ (code : Code) (s : St) (K : Ex → St → Prop) (c : Ctx) (Q : Exit → Act → World → Prop) (g : G) (w : World) (a : Act), S.loop code s K → Fits c K Q → Sim c g w a s → (Code.loop code).wp S.P Q a w)
    {f : FuncId} {fn : Func} {body : Code} (hf : S.P.funcs[f]? = some fn) (hb : fn.body = some body) (hn : (fn.name == "runtime.NumGoroutine") = false) {args : List V} {ob : List VObj} {K : Out → List VObj → Prop}
    (h : vfun S fn body args ob K) : VCall0 S.P f args ob K := by
  refine ⟨⟨fn, hf, hn, by simp [hb]⟩, fun w g cargs hw hl hr => calls_of_wp hf hb ?_⟩
  have hpad : TInv g w ob.length 0 (cargs ++ Array.replicate (fn.ntmps - cargs.size) undef) (padV fn.ntmps args) := by
    rw [padV_eq]
    refine ⟨by simp [hl], fun k v c hv hc => ?_⟩
    rw [List.getElem?_append] at hv
    rw [Array.getElem?_append] at hc
    split at hv
    · rename_i hk; rw [if_pos (by omega)] at hc; exact hr k v c hv hc
    · rw [List.getElem?_replicate] at hv
      split at hv
      · cases hv; exact ⟨.undef, trivial⟩
      · cases hv
  have hend : ∀ (v : V) (x : Value) (g' : G) (w' : World) (ob' : List VObj) (nt : Nat), WInv ⟨w, ob.length, g.bs, g.I, fun _ => False⟩ g' w' ob' nt → VRel g'.bs g'.I w' ob'.length v x → ∀ K', leaveK ob.length v ob' K' →
      ∃ g'' sub v', WInv ⟨w, ob.length, g.bs, g.I, fun _ => False⟩ g'' w' sub 0 ∧ VRel g''.bs g''.I w' sub.length v' x ∧ (v.noTok = true → v'.noTok = true) ∧ K' v' sub :=
    fun v x g' w' ob' nt hw' hv K' hk => leave_sound hw' hv hk
  refine sound_code (c := ⟨w, ob.length, g.bs, g.I, fun _ => False⟩) hm hS hL body ⟨padV fn.ntmps args, ob, 0, []⟩ _ _ g w _ h ?_ ⟨hw, hpad, .nil⟩
  have hret : ∀ (s : St) (g' : G) (w' : World) (a : Act) (e : Ex), (e = .normal ∨ e = .ret) → endK S.P fn ob.length e s K → Sim ⟨w, ob.length, g.bs, g.I, fun _ => False⟩ g' w' a s →
      a.defers = [] ∧ ∃ v, (results fn a.tmps).run S.P w' = .ok v w' ∧ ∃ out ob' g'', K out ob' ∧ WInv ⟨w, ob.length, g.bs, g.I, fun _ => False⟩ g'' w' ob' 0 ∧ Ends g'' w' ob'.length out (.returned v) := by
    intro s g' w' a e he hk hs
    obtain ⟨t, ob1, nt, df⟩ := s
    cases df with
    | cons d df => exact hk.elim
    | nil =>
      have hd : a.defers = [] := by
        have := hs.di
        generalize a.defers = d at this
        cases this; rfl
      have hk : mapK (resK S.P t ob1) fn.results.toList fun vs => oneOf vs fun v => leaveK ob.length v ob1 fun v ob => K (.ret v) ob := by
        rcases he with rfl | rfl <;> exact hk
      obtain ⟨v, x, h1, h2, h3, h4⟩ := results_sound hs.wi hs.ti hk
      obtain ⟨g'', sub, v', h5, h6, h7, h8⟩ := hend v x g' w' ob1 nt hs.wi h1 _ h4
      exact ⟨hd, x, h3, _, _, g'', h8, h5, ⟨h6, .of_no (h7 h2)⟩⟩
  refine ⟨fun s g' w' a hk hs => hret s g' w' a .normal (.inl rfl) hk hs, fun i s g' w' a hk hs => ?_, fun s g' w' a hk hs => hret s g' w' a .ret (.inr rfl) hk hs, fun v x s g' w' a hk hs hv => ?_⟩
  · obtain ⟨t, ob1, nt, df⟩ := s
    cases df <;> exact hk.elim
  · obtain ⟨t, ob1, nt, df⟩ := s
    cases df with
    | cons d df => exact hk.elim
    | nil =>
      have hd : a.defers = [] := by
        have := hs.di
        generalize a.defers = d at this
        cases this; rfl
      have hk : leaveK ob.length v ob1 fun v ob => K (.pan v) ob := hk
      obtain ⟨g'', sub, v', h5, h6, h7, h8⟩ := hend v x g' w' ob1 nt hs.wi hv _ hk
      exact ⟨hd, .pan v', sub, g'', h8, h5, x, rfl, h6⟩

end VL

namespace VL
open Go
set_option linter.unusedVariables false
set_option linter.unusedSimpArgs false

def SemOf (P : Program) (m : Nat) (code : Code) (s : St) (K : Ex → St → Prop) : Prop :=
  ∀ (c : Ctx) (Q : Exit → Act → World → Prop) (g : G) (w : World) (a : Act), c.n0 ≤ m → Fits c K Q → Sim c g w a s → code.wp P Q a w

/-- what is told of s' is told of s, and more; objects below m are not forgotten -/
def Weak (m : Nat) (s s' : St) : Prop := ∀ (c : Ctx) (g : G) (w : World) (a : Act), c.n0 ≤ m → Sim c g w a s → ∃ g', Sim c g' w a s'

def wk (m : Nat) (K : Ex → St → Prop) (e : Ex) (s : St) : Prop :=
  match e with
  | .pan v => K (.pan v) s
  | e => ∃ s', Weak m s s' ∧ K e s'

inductive LoopS (P : Program) (m : Nat) (code : Code) (K : Ex → St → Prop) : St → Prop
  | step {s : St} (R : St → Prop) (hR : ∀ s', R s' → LoopS P m code K s')
      (h : SemOf P m code s (fun e s' => match e with | .normal => R s' | e => K e s')) : LoopS P m code K s

theorem loopS_sound {P : Program} {m : Nat} {code : Code} {K : Ex → St → Prop} {s : St} (h : LoopS P m code K s) : SemOf P m (.loop code) s K := by
  intro c Q g w a hm hf hs b k cs
  have key : ∀ s, LoopS P m code K s → ∀ g w a, Sim c g w a s → ∃ e a' w', Q e a' w' ∧ Arrives P (lone (b.at a (.code code :: .inLoop code :: k)) cs w) b k cs e a' w' := by
    intro s hl
    induction hl with
    | @step s R hR h ih =>
      intro g w a hs
      have hw : code.wp P (Exit.then (fun a' w' => ∃ s' g', R s' ∧ Sim c g' w' a' s') Q) a w :=
        h c _ g w a hm ⟨fun s g w a hk hs => ⟨s, g, hk, hs⟩, fun i s g w a hk hs => hf.exit i s g w a hk hs, fun s g w a hk hs => hf.ret s g w a hk hs, fun v x s g w a hk hs hv => hf.pan v x s g w a hk hs hv⟩ hs
      obtain ⟨e, a₁, w₁, hq, harr⟩ := hw b (.inLoop code :: k) cs
      cases e with
      | normal =>
        obtain ⟨s', g', hr, hs'⟩ := hq
        obtain ⟨e₂, a₂, w₂, hq₂, harr₂⟩ := ih s' hr g' w₁ a₁ hs'
        exact ⟨e₂, a₂, w₂, hq₂, .of_steps (Steps.trans harr (.one step_inLoop)) harr₂⟩
      | exit id => exact ⟨_, a₁, w₁, hq, .pass (x := .inLoop code) rfl (fun _ _ => .inl (by simp)) harr⟩
      | goto l => exact ⟨_, a₁, w₁, hq, .pass (x := .inLoop code) rfl (fun _ _ => .inl (by simp)) harr⟩
      | ret => exact ⟨_, a₁, w₁, hq, .pass (x := .inLoop code) rfl (fun _ _ => .inl (by simp)) harr⟩
      | panic ch => exact ⟨_, a₁, w₁, hq, .pass (x := .inLoop code) rfl (fun _ _ => .inl (by simp)) harr⟩
      | outgrown => exact ⟨_, a₁, w₁, hq, .pass (x := .inLoop code) rfl (fun _ _ => .inl (by simp)) harr⟩
  obtain ⟨e, a', w', hq, harr⟩ := key s h g w a hs
  exact ⟨e, a', w', hq, .of_steps (.one step_loop) harr⟩

theorem fits_wk {c : Ctx} {m : Nat} (hm : c.n0 ≤ m) {K : Ex → St → Prop} {Q : Exit → Act → World → Prop} (h : Fits c K Q) : Fits c (wk m K) Q where
  normal s g w a hk hs := by obtain ⟨s', hw, hk⟩ := hk; obtain ⟨g', hs'⟩ := hw c g w a hm hs; exact h.normal s' g' w a hk hs'
  exit i s g w a hk hs := by obtain ⟨s', hw, hk⟩ := hk; obtain ⟨g', hs'⟩ := hw c g w a hm hs; exact h.exit i s' g' w a hk hs'
  ret s g w a hk hs := by obtain ⟨s', hw, hk⟩ := hk; obtain ⟨g', hs'⟩ := hw c g w a hm hs; exact h.ret s' g' w a hk hs'
  pan v x s g w a hk hs hv := h.pan v x s g w a hk hs hv

/-- a loop's contract -/
structure VLoop (P : Program) (m : Nat) (code : Code) (s : St) (K : Ex → St → Prop) : Prop where
  mk :: out : LoopS P m code (wk m K) s

theorem VLoop.sound {P : Program} {m : Nat} {code : Code} {s : St} {K : Ex → St → Prop} (h : VLoop P m code s K) : SemOf P m (.loop code) s K := by
  exact fun c Q g w a hm hf hs => loopS_sound h.out c Q g w a hm (fits_wk hm hf) hs

theorem VLoop.enter {P : Program} {m : Nat} {code : Code} {s s' : St} {K : Ex → St → Prop} (hw : Weak m s s') (h : VLoop P m code s' K) : VLoop P m code s K := by
  refine ⟨?_⟩
  cases h.out with
  | step R hR h => exact .step R hR fun c Q g w a hm hf hs => by obtain ⟨g', hs'⟩ := hw c g w a hm hs; exact h c Q g' w a hm hf hs'

theorem VLoop.round {P : Program} {m : Nat} {code : Code} {s : St} {K : Ex → St → Prop} (h : SemOf P m code s fun e s' => match e with
    | .normal => ∃ s'', Weak m s' s'' ∧ VLoop P m code s'' K
    | e => wk m K e s') : VLoop P m code s K := by
  refine ⟨?_⟩
  refine .step (fun s' => LoopS P m code (wk m K) s') (fun _ h => h) fun c Q g w a hm hf hs => h c Q g w a hm ?_ hs
  refine ⟨fun s g w a hk hs => ?_, fun i s g w a hk hs => hf.exit i s g w a hk hs, fun s g w a hk hs => hf.ret s g w a hk hs, fun v x s g w a hk hs hv => hf.pan v x s g w a hk hs hv⟩
  obtain ⟨s'', hw, hk⟩ := hk
  obtain ⟨g', hs'⟩ := hw _ g w a hm hs
  exact hf.normal s'' g' w a hk.out hs'

/-- the reckoning for a program: calls and loops by their contracts -/
noncomputable def sys (P : Program) : Sys := ⟨P, VCall P, fun code s K => VLoop P s.objs.length code s K⟩

theorem call_mono (P : Program) : CallMono (sys P) := fun g args ob K K' h hc => .shut <| by
  obtain ⟨h1, h2⟩ := VCall.open hc
  refine ⟨h1, fun w g cargs hw hl hr => (h2 w g cargs hw hl hr).mono fun e w' he => ?_⟩
  obtain ⟨out, ob', g', hk, rest⟩ := he
  exact ⟨out, ob', g', h _ _ hk, rest⟩

theorem code_sound {P : Program} {m : Nat} {code : Code} {s : St} {K : Ex → St → Prop} (h : vwp (sys P) code s K) : SemOf P m code s K :=
  fun c Q g w a hm hf hs => sound_code (S := sys P) (c := c) (call_mono P) (fun _ _ _ _ h => h.open) (fun code s K c Q g w a h hf hs => VLoop.sound h c Q g w a hs.wi.len hf hs) code s K Q g w a h hf hs

theorem loop_round {P : Program} {m : Nat} {code : Code} {s : St} {K : Ex → St → Prop} (h : vwp (sys P) code s fun e s' => match e with
    | .normal => ∃ s'', Weak m s' s'' ∧ VLoop P m code s'' K
    | e => wk m K e s') : VLoop P m code s K := VLoop.round (code_sound h)

theorem call_fun {P : Program} {f : FuncId} {fn : Func} {body : Code} (hf : P.funcs[f]? = some fn) (hb : fn.body = some body) (hn : (fn.name == "runtime.NumGoroutine") = false) {args : List V} {ob : List VObj} {K : Out → List VObj → Prop}
    (h : vfun (sys P) fn body args ob K) : (sys P).call f args ob K :=
  .shut (fun_sound (S := sys P) (call_mono P) (fun _ _ _ _ h => h.open) (fun code s K c Q g w a h hf hs => VLoop.sound h c Q g w a hs.wi.len hf hs) hf hb hn h)

-- what may be forgotten

inductive VW : V → V → Prop
  | undef {v} : VW v .undef
  | eq {v v'} (h : v = v') : VW v v'
  | no {l r} : VW (.sl l r) (.sl l .no)

inductive VWs : List V → List V → Prop
  | nil : VWs [] []
  | cons {v v' r r'} (h : VW v v') (hr : VWs r r') : VWs (v :: r) (v' :: r')

inductive OW : VObj → VObj → Prop
  | none {o} : OW o .none
  | eq {o o'} (h : o = o') : OW o o'
  | cells {w T cs cs'} (h : VWs cs cs') : OW (.cells w T cs) (.cells w T cs')

inductive OWs : List VObj → List VObj → Prop
  | nil {l} : OWs l []
  | cons {v v' r r'} (h : OW v v') (hr : OWs r r') : OWs (v :: r) (v' :: r')

theorem VWs.length {l l' : List V} (h : VWs l l') : l.length = l'.length := by
  induction h with
  | nil => rfl
  | cons _ _ ih => simp [ih]

theorem VWs.get {l l' : List V} (h : VWs l l') : ∀ {k : Nat} {v' : V}, l'[k]? = some v' → ∃ v, l[k]? = some v ∧ VW v v' := by
  induction h with
  | nil => intro k v' h; simp at h
  | cons h _ ih =>
    intro k v' hk
    cases k with
    | zero => simp at hk; subst hk; exact ⟨_, rfl, h⟩
    | succ k => exact ih (by simpa using hk)

theorem OWs.get {l l' : List VObj} (h : OWs l l') : ∀ {k : Nat} {v' : VObj}, l'[k]? = some v' → ∃ v, l[k]? = some v ∧ OW v v' := by
  induction h with
  | nil => intro k v' h; simp at h
  | cons h _ ih =>
    intro k v' hk
    cases k with
    | zero => simp at hk; subst hk; exact ⟨_, rfl, h⟩
    | succ k => exact ih (by simpa using hk)

def VObj.low (n : Nat) : VObj → Bool
  | .cells _ _ cs => V.lowL n cs
  | _ => true

def lowO (n : Nat) : List VObj → Bool
  | [] => true
  | o :: r => o.low n && lowO n r

def V.ltTok (n : Nat) : V → Bool
  | .sl _ (.tok i _) => Nat.blt i n
  | _ => true

def ltToks (n : Nat) : List V → Bool
  | [] => true
  | v :: r => v.ltTok n && ltToks n r

def VObj.ltTok (n : Nat) : VObj → Bool
  | .cells _ _ cs => ltToks n cs
  | _ => true

def ltToksO (n : Nat) : List VObj → Bool
  | [] => true
  | o :: r => o.ltTok n && ltToksO n r

theorem lowO_get {n : Nat} : ∀ {l : List VObj}, lowO n l = true → ∀ {k : Nat} {o : VObj}, l[k]? = some o → o.low n = true
  | x :: r, h, k, o, hk => by
    simp only [lowO, Bool.and_eq_true] at h
    cases k with
    | zero => simp at hk; exact hk ▸ h.1
    | succ k => exact lowO_get h.2 (by simpa using hk)

theorem ltToks_get {n : Nat} : ∀ {l : List V}, ltToks n l = true → ∀ {k : Nat} {v : V}, l[k]? = some v → v.ltTok n = true
  | x :: r, h, k, o, hk => by
    simp only [ltToks, Bool.and_eq_true] at h
    cases k with
    | zero => simp at hk; exact hk ▸ h.1
    | succ k => exact ltToks_get h.2 (by simpa using hk)

theorem ltToksO_get {n : Nat} : ∀ {l : List VObj}, ltToksO n l = true → ∀ {k : Nat} {o : VObj}, l[k]? = some o → o.ltTok n = true
  | x :: r, h, k, o, hk => by
    simp only [ltToksO, Bool.and_eq_true] at h
    cases k with
    | zero => simp at hk; exact hk ▸ h.1
    | succ k => exact ltToksO_get h.2 (by simpa using hk)

theorem VW.vt {g : G} {w : World} {n nt n' nt' : Nat} {v v' : V} {x : Value} (h : VT g w n nt v x) (hw : VW v v') (hl : v'.low n' = true) (ht : v'.ltTok nt' = true) : VT g w n' nt' v' x := by
  have h1 : VT g w n nt v' x := by
    cases hw with
    | undef => exact ⟨.undef, trivial⟩
    | eq h => subst h; assumption
    | no => exact ⟨h.rel.room _ (by simp), trivial⟩
  refine ⟨h1.rel.low hl, ?_⟩
  have h2 := h1.tok
  unfold Tok at h2 ⊢
  split
  · rename_i i sz
    simp only at h2
    refine ⟨?_, h2.2⟩
    simpa [V.ltTok, Nat.blt_eq] using ht
  · trivial

def lowD (n : Nat) : List (Fn × List V × List V) → Bool
  | [] => true
  | (_, a, b) :: r => V.lowL n a && V.lowL n b && lowD n r

theorem weak_of {m : Nat} {t t' : List V} {ob ob' : List VObj} {nt nt' : Nat} {df : List (Fn × List V × List V)} (h1 : VWs t t') (h2 : OWs ob ob') (h3 : Nat.ble nt' nt = true) (h4 : Nat.ble m ob'.length = true)
    (h5 : (V.lowL ob'.length t' && lowO ob'.length ob' && ltToks nt' t' && ltToksO nt' ob' && lowD ob'.length df) = true) : Weak m ⟨t, ob, nt, df⟩ ⟨t', ob', nt', df⟩ := by
  intro c g w a hm hs
  simp only [Bool.and_eq_true] at h5
  obtain ⟨⟨⟨⟨l1, l2⟩, l3⟩, l4⟩, l5⟩ := h5
  have h3 := Nat.le_of_ble_eq_true h3
  have h4 := Nat.le_of_ble_eq_true h4
  have hne : ∀ {x y : VObj}, OW x y → y ≠ .none → x ≠ .none := by
    intro x y h hy e
    subst e
    cases h with
    | none => exact hy rfl
    | eq h => exact hy h.symm
  refine ⟨g, ⟨hs.wi.os, hs.wi.tape, hs.wi.output, hs.wi.size, hs.wi.keep, Nat.le_trans hm h4, ?_, ?_, ?_, hs.wi.old, ?_, hs.wi.i1, hs.wi.i2, hs.wi.i3, ?_, ?_, ?_, ?_, hs.wi.i6⟩, ⟨?_, ?_⟩, ?_⟩
  · intro o y hy
    obtain ⟨x, hx, hw⟩ := h2.get hy
    have ho := hs.wi.obj o x hx
    cases hw with
    | none => trivial
    | eq h =>
      subst h
      cases x with
      | none => trivial
      | map es => exact ho
      | cells wr T cs =>
        obtain ⟨arr, a1, a2, a3⟩ := ho
        exact ⟨arr, a1, a2, fun k v c hv hc => ⟨(VW.eq rfl).vt (a3 k v c hv hc).1 (lowL_get (lowO_get l2 hy) hv) (ltToks_get (ltToksO_get l4 hy) hv), (a3 k v c hv hc).2⟩⟩
    | cells h =>
      obtain ⟨arr, a1, a2, a3⟩ := ho
      refine ⟨arr, a1, by rw [← h.length]; exact a2, fun k v c hv hc => ?_⟩
      obtain ⟨u, hu, hw⟩ := h.get hv
      exact ⟨hw.vt (a3 k u c hu hc).1 (lowL_get (lowO_get l2 hy) hv) (ltToks_get (ltToksO_get l4 hy) hv), (a3 k u c hu hc).2⟩
  · intro o y hy hn
    obtain ⟨x, hx, hw⟩ := h2.get hy
    exact hs.wi.lt o x hx (hne hw hn)
  · intro o o' y y' hy hy' hn hn'
    obtain ⟨x, hx, hw⟩ := h2.get hy
    obtain ⟨x', hx', hw'⟩ := h2.get hy'
    exact hs.wi.inj o o' x x' hx hx' (hne hw hn) (hne hw' hn')
  · intro o y ho hy hn
    obtain ⟨x, hx, hw⟩ := h2.get hy
    exact hs.wi.new o x ho hx (hne hw hn)
  · intro o T cs k hy
    obtain ⟨x, hx, hw⟩ := h2.get hy
    cases hw with
    | eq h => subst h; exact hs.wi.i4 o _ _ k hx
    | cells h => exact hs.wi.i4 o _ _ k hx
  · intro o es k hy
    obtain ⟨x, hx, hw⟩ := h2.get hy
    cases hw with
    | eq h => subst h; exact hs.wi.i5 o _ k hx
  · intro i hi hn
    obtain ⟨f1, f2, f3, f4⟩ := hs.wi.f1 i (Nat.lt_of_lt_of_le hi h3) hn
    refine ⟨f1, f2, f3, fun o y hy hny => ?_⟩
    obtain ⟨x, hx, hw⟩ := h2.get hy
    exact f4 o x hx (hne hw hny)
  · intro i j hi hj
    exact hs.wi.f2 i j (Nat.lt_of_lt_of_le hi h3) (Nat.lt_of_lt_of_le hj h3)
  · rw [← h1.length]; exact hs.ti.size
  · intro k v x hv hx
    obtain ⟨u, hu, hw⟩ := h1.get hv
    exact hw.vt (hs.ti.rel k u x hu hx) (lowL_get l1 hv) (ltToks_get l3 hv)
  · have := hs.di
    simp only at this ⊢
    generalize a.defers = ds at this
    clear h1 h2 l1 l2 l3 l4 hs h3 h4
    induction this with
    | nil => exact .nil
    | @cons d x ds xs h _ ih =>
      obtain ⟨f, p, q⟩ := x
      simp only [lowD, Bool.and_eq_true] at l5
      obtain ⟨cap, e1, e2, e3, e4, e5⟩ := h
      exact .cons ⟨cap, e1, e2, e3, fun k v c hv hc => (e4 k v c hv hc).low (lowL_get l5.1.1 hv), fun k v c hv hc => (e5 k v c hv hc).low (lowL_get l5.1.2 hv)⟩ (ih l5.2)

/-- a slice with no room behind it may be called this call's own -/
theorem weak_room {m i sz : Nat} {t : List V} {ob : List VObj} {nt : Nat} {df : List (Fn × List V × List V)} {l : List V} (hi : t[i]? = some (.sl l .ex)) (hsz : 0 < sz) (hl : ∀ x ∈ l, x.cells.length = sz) :
    Weak m ⟨t, ob, nt, df⟩ ⟨t.set i (.sl l (.tok nt sz)), ob, nt + 1, df⟩ := by
  intro c g w a hm hs
  have hwi := hs.wi.more ⟨0, 0, 0⟩ (fun h => absurd h (by simp))
  have hlt : i < a.tmps.size := by rw [← hs.ti.size]; exact (List.getElem?_eq_some_iff.1 hi).1
  refine ⟨_, hwi, ⟨by simp [hs.ti.size], fun k v x hv hx => ?_⟩, hs.di.same rfl rfl⟩
  rcases set_get hv with ⟨rfl, rfl⟩ | ⟨_, hv⟩
  · have h0 := hs.ti.rel i _ x hi hx
    refine ⟨h0.rel.room _ (by simp), Nat.lt_succ_self nt, hsz, hl, ?_⟩
    have h1 := h0.rel
    cases h1 with
    | slnil => exact ⟨_, _, _, rfl, .inl rfl⟩
    | sl u h1 h2 h3 => exact ⟨_, _, _, rfl, .inl (h3 rfl)⟩
  · have := hs.ti.rel k v x hv hx
    exact ⟨this.rel, (this.tok.fam this.tok.nt fun j hj => by simp [G.claim, hj]).ext (Nat.le_succ nt) fun _ _ => rfl⟩

theorem Weak.trans {m : Nat} {s s' s'' : St} (h : Weak m s s') (k : Weak m s' s'') : Weak m s s'' := fun c g w a hm hs => by
  obtain ⟨g', hs'⟩ := h c g w a hm hs
  exact k c g' w a hm hs'

theorem Weak.refl {m : Nat} {s : St} : Weak m s s := fun c g w a hm hs => ⟨g, hs⟩

end VL

namespace VL
open Go
set_option linter.unusedVariables false
set_option linter.unusedSimpArgs false

inductive Ty where
  | bool
  | int (k : IntKind)
  | str
  | sl (e : Ty) (z by_ : Nat) (agg : Bool)
  | row (ps : List Ty)

mutual
def Ty.flat : Ty → Bool
  | .sl .. => false
  | .row ps => Ty.flats ps
  | _ => true
def Ty.flats : List Ty → Bool
  | [] => true
  | p :: r => p.flat && Ty.flats r
end

mutual
def Ty.size : Ty → Nat
  | .row ps => Ty.sizes ps
  | _ => 1
def Ty.sizes : List Ty → Nat
  | [] => 0
  | p :: r => p.size + Ty.sizes r
end

/-- a struct's fields lie one behind the other -/
def fieldsAt (sz : TypeId → Nat) : Nat → List Field → Bool
  | _, [] => true
  | i, f :: r => Nat.beq f.offset i && fieldsAt sz (i + sz f.type) r

def isRowD : TypeDesc → Bool
  | .struct _ | .array _ _ => true
  | _ => false

def tyOf (P : Program) : Nat → TypeId → Option Ty
  | 0, _ => none
  | n + 1, t => match P.underlying t with
    | some .bool => some .bool
    | some (.int k) => some (.int k)
    | some .string => some .str
    | some (.slice e) => match tyOf P n e, P.underlying e with
      | some x, some d => if x.flat && Nat.beq x.size (P.cellsOf e) && Nat.blt 0 x.size && Nat.blt 0 (P.bytesOf e) then some (.sl x (P.cellsOf e) (P.bytesOf e) (isRowD d)) else none
      | _, _ => none
    | some (.struct fs) => match fs.toList.mapM (fun f => tyOf P n f.type) with
      | some ps => if fieldsAt P.cellsOf 0 fs.toList && Nat.beq (Ty.sizes ps) (P.cellsOf t) && (fs.toList.zip ps).all (fun x => Nat.beq x.2.size (P.cellsOf x.1.type)) then some (.row ps) else none
      | none => none
    | some (.array m e) => match tyOf P n e with
      | some x => if Nat.beq x.size (P.cellsOf e) && Nat.beq (m * x.size) (P.cellsOf t) then some (.row (List.replicate m x)) else none
      | none => none
    | _ => none

mutual
/-- what is told of a value's cells -/
def ShT : Ty → List V → Prop
  | .bool, vs => ∃ b, vs = [.bool b]
  | .int k, vs => ∃ n, vs = [.int k n] ∧ (Lit.int k n).wf = true
  | .str, vs => ∃ s, vs = [.str s] ∧ s.size ≤ 140737488351232
  | .sl e z by_ agg, vs => ∃ l, vs = [.sl l .no] ∧ l.length * by_ ≤ 140737488351232 ∧ ∀ x ∈ l, (if agg then ∃ cs, x = .agg cs ∧ ShT e cs else ShT e [x])
  | .row ps, vs => ShTs ps vs
def ShTs : List Ty → List V → Prop
  | [], vs => vs = []
  | p :: r, vs => ∃ a b, vs = a ++ b ∧ ShT p a ∧ ShTs r b
end

def SpotOk (c : Value) : Prop := ∀ a len cap, c = .slice (some a) len cap → a.spot = none

theorem okWide_spot {P : Program} {w : World} {r : Reach} {base : Nat} {t : TypeId} {v : Value} (h : Cell.okWide P w r base t v) : SpotOk v := by
  rintro a len cap rfl
  cases hd : P.underlying t with
  | none => simp [Cell.okWide, Cell.ok, hd] at h
  | some d =>
    cases d <;> simp [Cell.okWide, Cell.ok, hd] at h
    exact h.2.2.2.1

theorem okWide_spots {P : Program} {w : World} {r : Reach} {base : Nat} {t : TypeId} {v : Value} (h : Value.okWide P w r base t v) : ∀ c ∈ v.cells.toList, SpotOk c := by
  have row : ∀ cs, v = .agg cs → Row.okWide P w r base t cs → ∀ c ∈ v.cells.toList, SpotOk c := fun cs hv hr c hc => by
    subst hv
    obtain ⟨ts, _, _, h3⟩ := hr
    obtain ⟨i, hi⟩ := List.mem_iff_getElem?.1 hc
    obtain ⟨u, _, h4⟩ := h3 i c (by simpa [Value.cells] using hi)
    exact okWide_spot h4
  have one : Cell.okWide P w r base t v → (∀ cs, v ≠ .agg cs) → ∀ c ∈ v.cells.toList, SpotOk c := fun hc hn c h => by
    have : v.cells = #[v] := by cases v <;> first | rfl | exact absurd rfl (hn _)
    rw [this] at h; simp at h; subst h; exact okWide_spot hc
  unfold Value.okWide at h
  split at h
  · obtain ⟨cs, hv, _, hr⟩ := h; exact row cs hv hr
  · obtain ⟨cs, hv, _, hr⟩ := h; exact row cs hv hr
  · rename_i h1 h2
    refine one h fun cs e => ?_
    subst e
    cases hd : P.underlying t with
    | none => simp [Cell.okWide, Cell.ok, hd] at h
    | some d => cases d <;> simp [Cell.okWide, Cell.ok, hd] at h

mutual
theorem ShT_length : ∀ (t : Ty) (vs : List V), ShT t vs → vs.length = t.size
  | .bool, vs, h => by obtain ⟨b, rfl⟩ := h; rfl
  | .int k, vs, h => by obtain ⟨b, rfl, _⟩ := h; rfl
  | .str, vs, h => by obtain ⟨b, rfl, _⟩ := h; rfl
  | .sl e z b a, vs, h => by obtain ⟨l, rfl, _⟩ := h; rfl
  | .row ps, vs, h => ShTs_length ps vs h
theorem ShTs_length : ∀ (t : List Ty) (vs : List V), ShTs t vs → vs.length = Ty.sizes t
  | [], vs, h => by have : vs = [] := h; subst this; rfl
  | p :: r, vs, h => by
    obtain ⟨a, b, rfl, h1, h2⟩ := h
    rw [List.length_append, ShT_length p a h1, ShTs_length r b h2]; rfl
end

/-- the cells cs as abstract values -/
def Told (w : World) (cs : List Value) (vs : List V) : Prop :=
  vs.length = cs.length ∧ ∀ (k : Nat) v c, vs[k]? = some v → cs[k]? = some c → VRel (fun _ => 0) (fun b _ => b < w.heap.size) w 0 v c ∧ v.noTok = true ∧ v.okCell = true

theorem Told.one {w : World} {v : V} {c : Value} (h : VRel (fun _ => 0) (fun b _ => b < w.heap.size) w 0 v c) (h1 : v.noTok = true) (h2 : v.okCell = true) : Told w [c] [v] :=
  ⟨rfl, fun k u d hu hd => by
    cases k with
    | zero => simp at hu hd; subst hu; subst hd; exact ⟨h, h1, h2⟩
    | succ k => simp at hu⟩

theorem Told.append {w : World} {cs ds : List Value} {vs us : List V} (h : Told w cs vs) (k : Told w ds us) : Told w (cs ++ ds) (vs ++ us) := by
  refine ⟨by simp [h.1, k.1], fun i v c hv hc => ?_⟩
  rw [List.getElem?_append] at hv hc
  rw [h.1] at hv
  split at hv
  · rename_i hlt; rw [if_pos hlt] at hc; exact h.2 i v c hv hc
  · rename_i hlt; rw [if_neg hlt] at hc; exact k.2 _ v c hv hc

end VL

namespace VL
open Go
set_option linter.unusedVariables false
set_option linter.unusedSimpArgs false

section
variable {H : Type} {enc : TypeId × Value → H} {P : Program} {w : World} {base : Nat} {spare : Nat → Bool} {held : Bool}

theorem trod_bool {m : Nat} {t : TypeId} {cs : List Value} {d : DataW H} {ps : List MemPlace} (hu : P.underlying t = some .bool) (h : DataW.trod enc P w base spare held m t cs = some (d, ps)) : ∃ b, cs = [.bool b] := by
  cases m with
  | zero => simp [DataW.trod] at h
  | succ m =>
    unfold DataW.trod at h
    rw [hu] at h
    split at h <;> rename_i h1 <;> first | (cases h1; done) | skip
    all_goals first | exact ⟨_, rfl⟩ | (simp at h)

theorem trod_int {m : Nat} {t : TypeId} {k : IntKind} {cs : List Value} {d : DataW H} {ps : List MemPlace} (hu : P.underlying t = some (.int k)) (h : DataW.trod enc P w base spare held m t cs = some (d, ps)) : ∃ n, cs = [.int k n] ∧ (Lit.int k n).wf = true := by
  cases m with
  | zero => simp [DataW.trod] at h
  | succ m =>
    unfold DataW.trod at h
    rw [hu] at h
    split at h
    all_goals first
      | (simp only [reduceCtorEq] at h; done)
      | (rename_i h1; cases h1
         split at h
         · rename_i hk; obtain ⟨rfl, hk⟩ := hk; exact ⟨_, rfl, hk⟩
         · cases h)
      | (rename_i h1; cases h1; done)
      | (simp at h)

theorem trod_str {m : Nat} {t : TypeId} {cs : List Value} {d : DataW H} {ps : List MemPlace} (hu : P.underlying t = some .string) (h : DataW.trod enc P w base spare held m t cs = some (d, ps)) : ∃ s, cs = [.string s] ∧ d = .lit (.string s.data.toList) := by
  cases m with
  | zero => simp [DataW.trod] at h
  | succ m =>
    unfold DataW.trod at h
    rw [hu] at h
    split at h
    all_goals first
      | (simp only [reduceCtorEq] at h; done)
      | (rename_i h1; cases h1
         split at h
         · simp at h; exact ⟨_, rfl, h.1.symm⟩
         · cases h)
      | (rename_i h1; cases h1; done)
      | (simp at h)

theorem trod_struct {m : Nat} {t : TypeId} {fs : Array Field} {cs : List Value} {d : DataW H} {ps : List MemPlace} (hu : P.underlying t = some (.struct fs)) (h : DataW.trod enc P w base spare held m t cs = some (d, ps)) :
    ∃ m' xs, cs.length = P.cellsOf t ∧ (fs.toList.mapM fun f => DataW.trod enc P w base spare held m' f.type ((cs.drop f.offset).take (P.cellsOf f.type))) = some xs ∧ d = .agg (xs.map (·.1)) := by
  cases m with
  | zero => simp [DataW.trod] at h
  | succ m =>
    unfold DataW.trod at h
    rw [hu] at h
    split at h
    all_goals first
      | (simp only [reduceCtorEq] at h; done)
      | (rename_i h1; cases h1
         split at h
         · rename_i hlen
           obtain ⟨xs, h2, h3⟩ := Option.map_eq_some_iff.1 h
           simp at h3; exact ⟨m, xs, hlen, h2, h3.1.symm⟩
         · cases h)
      | (rename_i h1; cases h1; done)
      | (simp at h; obtain ⟨hl, a, h2, h3, _⟩ := h; exact ⟨m, a, hl, h2, h3.symm⟩)

theorem trod_array {m : Nat} {t e : TypeId} {n : Nat} {cs : List Value} {d : DataW H} {ps : List MemPlace} (hu : P.underlying t = some (.array n e)) (h : DataW.trod enc P w base spare held m t cs = some (d, ps)) :
    ∃ m' xs, cs.length = P.cellsOf t ∧ ((List.range n).mapM fun i => DataW.trod enc P w base spare held m' e ((cs.drop (i * P.cellsOf e)).take (P.cellsOf e))) = some xs ∧ d = .agg (xs.map (·.1)) := by
  cases m with
  | zero => simp [DataW.trod] at h
  | succ m =>
    unfold DataW.trod at h
    rw [hu] at h
    split at h
    all_goals first
      | (simp only [reduceCtorEq] at h; done)
      | (rename_i h1; cases h1
         split at h
         · rename_i hlen
           obtain ⟨xs, h2, h3⟩ := Option.map_eq_some_iff.1 h
           simp at h3; exact ⟨m, xs, hlen, h2, h3.1.symm⟩
         · cases h)
      | (rename_i h1; cases h1; done)
      | (simp at h; obtain ⟨hl, a, h2, h3, _⟩ := h; exact ⟨m, a, hl, h2, h3.symm⟩)

theorem trod_slice {m : Nat} {t e : TypeId} {cs : List Value} {d : DataW H} {ps : List MemPlace} (hu : P.underlying t = some (.slice e)) (h : DataW.trod enc P w base spare held m t cs = some (d, ps)) :
    cs = [.slice none 0 0] ∨ ∃ m' a len cap xs rest, cs = [.slice (some a) len cap] ∧ len ≤ cap ∧
      ((List.range len).mapM fun i => (w.cells? base (a.add (i * P.cellsOf e)) (P.cellsOf e)).bind (DataW.trod enc P w base spare held m' e)) = some xs ∧ d = .slice (xs.map (·.1)) rest := by
  cases m with
  | zero => simp [DataW.trod] at h
  | succ m =>
    unfold DataW.trod at h
    rw [hu] at h
    split at h
    all_goals first
      | (simp only [reduceCtorEq] at h; done)
      | (rename_i h1; cases h1; exact .inl rfl)
      | (rename_i h1; cases h1
         simp only at h
         split at h
         · rename_i hlen
           obtain ⟨xs, h2, h3⟩ := Option.bind_eq_some_iff.1 h
           obtain ⟨rest, h4, h5⟩ := Option.map_eq_some_iff.1 h3
           simp at h5
           exact .inr ⟨m, _, _, _, xs, _, rfl, hlen.2.1, h2, h5.1.symm⟩
         · cases h)
      | (rename_i h1; cases h1; done)
      | (simp at h)

end
end VL

namespace VL
open Go
set_option linter.unusedVariables false
set_option linter.unusedSimpArgs false

theorem exists_list {α : Type} {R : Nat → α → Prop} : ∀ (n : Nat), (∀ i, i < n → ∃ y, R i y) → ∃ L : List α, L.length = n ∧ ∀ (i : Nat) y, L[i]? = some y → R i y
  | 0, _ => ⟨[], rfl, by simp⟩
  | n + 1, h => by
    obtain ⟨L, h1, h2⟩ := exists_list n fun i hi => h i (by omega)
    obtain ⟨y, hy⟩ := h n (by omega)
    refine ⟨L ++ [y], by simp [h1], fun i z hz => ?_⟩
    rw [List.getElem?_append] at hz
    split at hz
    · exact h2 i z hz
    · have : i = n := by
        rcases Nat.lt_or_ge (i - L.length) 1 with hlt | hge
        · omega
        · rw [List.getElem?_eq_none (by simpa using hge)] at hz; cases hz
      subst this
      rw [h1] at hz; simp at hz; subst hz; exact hy

theorem flat_inv {sz : Nat} (hp : 0 < sz) : ∀ {l : List V} (hz : ∀ x ∈ l, x.cells.length = sz) {k : Nat} {v : V}, (l.flatMap V.cells)[k]? = some v → ∃ i j x, l[i]? = some x ∧ x.cells[j]? = some v ∧ k = i * sz + j ∧ j < sz
  | [], _, k, v, h => by simp at h
  | x :: r, hz, k, v, h => by
    rw [List.flatMap_cons, List.getElem?_append] at h
    have hx := hz x (by simp)
    split at h
    · rename_i hlt
      exact ⟨0, k, x, rfl, h, by omega, by omega⟩
    · obtain ⟨i, j, y, h1, h2, h3, h4⟩ := flat_inv hp (fun y hy => hz y (by simp [hy])) h
      exact ⟨i + 1, j, y, by simpa using h1, h2, by rw [Nat.add_mul]; omega, h4⟩

theorem weightsAll_mem {H : Type} {P : Program} {e : TypeId} : ∀ {ds : List (DataW H)} {d : DataW H}, d ∈ ds → ∀ x ∈ d.weights P e, x ∈ DataW.weightsAll P e ds
  | d :: r, _, .head _, x, hx => by simp only [DataW.weightsAll, List.mem_append]; exact .inl hx
  | _ :: r, d, .tail _ h, x, hx => by simp only [DataW.weightsAll, List.mem_append]; exact .inr (weightsAll_mem h x hx)


section
variable {H : Type} {enc : TypeId × Value → H} {P : Program} {w : World} {base : Nat} {spare : Nat → Bool} {held : Bool}

theorem add_none {a : Addr} (h : a.spot = none) (n : Nat) : a.add n = ⟨a.block, a.off + n, none⟩ := by
  obtain ⟨b, o, s⟩ := a
  simp only at h; subst h
  unfold Addr.add
  split
  · rename_i e; simp [e]
  · rfl

theorem cell_lt {b k : Nat} {c : Value} (h : w.cell? ⟨b, k, none⟩ = some c) : b < w.heap.size := by
  rcases Nat.lt_or_ge b w.heap.size with h1 | h1
  · exact h1
  · simp [World.cell?, Array.getElem?_eq_none h1] at h

theorem ShT_single {ty : Ty} {vs : List V} (h : ShT ty vs) (hs : ∀ ps, ty ≠ .row ps) : ∃ v, vs = [v] ∧ v.cells = [v] := by
  cases ty with
  | bool => obtain ⟨b, rfl⟩ := h; exact ⟨_, rfl, rfl⟩
  | int k => obtain ⟨b, rfl, _⟩ := h; exact ⟨_, rfl, rfl⟩
  | str => obtain ⟨b, rfl, _⟩ := h; exact ⟨_, rfl, rfl⟩
  | sl e z b a => obtain ⟨l, rfl, _⟩ := h; exact ⟨_, rfl, rfl⟩
  | row ps => exact absurd rfl (hs ps)

theorem tyOf_row {n : Nat} {t : TypeId} {ty : Ty} {d : TypeDesc} (h : tyOf P n t = some ty) (hu : P.underlying t = some d) (hd : isRowD d = false) : ∀ ps, ty ≠ .row ps := by
  rintro ps rfl
  cases n with
  | zero => simp [tyOf] at h
  | succ n =>
    unfold tyOf at h
    rw [hu] at h
    cases d <;> simp [isRowD] at hd h
    split at h
    · split at h <;> simp at h
    · simp at h

theorem Told.take_drop {cs : List Value} {i a b : Nat} {vs us : List V} (h : Told w ((cs.drop i).take a) vs) (k : Told w ((cs.drop (i + a)).take b) us) : Told w ((cs.drop i).take (a + b)) (vs ++ us) := by
  have : (cs.drop i).take (a + b) = (cs.drop i).take a ++ (cs.drop (i + a)).take b := by
    rw [List.take_add, List.drop_drop]
  rw [this]; exact h.append k

theorem trod_V : ∀ (n : Nat) (t : TypeId) (ty : Ty), tyOf P n t = some ty → ∀ (m : Nat) (cs : List Value) (d : DataW H) (ps : List MemPlace), DataW.trod enc P w base spare held m t cs = some (d, ps) →
    (∀ x ∈ d.weights P t, x ≤ reachBytes) → (ty.flat = true ∨ ∀ c ∈ cs, SpotOk c) → ∃ vs, Told w cs vs ∧ ShT ty vs := by
  intro n
  induction n with
  | zero => intro t ty h; simp [tyOf] at h
  | succ n ih =>
    intro t ty hty m cs d ps h hw hsp
    unfold tyOf at hty
    split at hty
    · rename_i hu
      cases hty
      obtain ⟨b, rfl⟩ := trod_bool hu h
      exact ⟨[.bool b], .one .bool rfl rfl, b, rfl⟩
    · rename_i k hu
      cases hty
      obtain ⟨x, rfl, hwf⟩ := trod_int hu h
      exact ⟨[.int k x], .one .int rfl rfl, x, rfl, hwf⟩
    · rename_i hu
      cases hty
      obtain ⟨s, rfl, rfl⟩ := trod_str hu h
      refine ⟨[.str s], .one .str rfl rfl, s, rfl, ?_⟩
      have := hw s.data.toList.length (by unfold DataW.weights; exact List.mem_singleton.2 rfl)
      have e : s.data.toList.length = s.size := Array.length_toList ..
      rw [e] at this; exact this
    · rename_i e hu
      split at hty
      · rename_i x dsc he hue
        split at hty
        · rename_i hc
          cases hty
          simp only [Bool.and_eq_true] at hc
          obtain ⟨⟨⟨hflat, hsz⟩, hpos⟩, hby⟩ := hc
          have hsz := Nat.eq_of_beq_eq_true hsz
          have hpos : 0 < x.size := by simpa [Nat.blt_eq] using hpos
          rcases trod_slice hu h with rfl | ⟨m', a, len, cap, xs, rest, rfl, hlen, hxs, rfl⟩
          · exact ⟨[.sl [] .no], .one .slnil rfl rfl, [], rfl, by simp, by simp⟩
          · have hspot : a.spot = none := by
              rcases hsp with hf | hsp
              · simp [Ty.flat] at hf
              · exact hsp _ (by simp) a len cap rfl
            have hlx : xs.length = len := by rw [mapM_some_length hxs]; simp
            have hel : ∀ i, i < len → ∃ vi : List V, ∃ ci, w.cells? base (a.add (i * P.cellsOf e)) (P.cellsOf e) = some ci ∧ Told w ci vi ∧ ShT x vi := fun i hi => by
              have hg := mapM_some_get hxs i i (by rw [List.getElem?_range hi])
              rw [List.getElem?_eq_getElem (by omega)] at hg
              obtain ⟨ci, h1, h2⟩ := Option.bind_eq_some_iff.1 hg
              have hmem : xs[i] ∈ xs := List.getElem_mem _
              obtain ⟨vi, h3, h4⟩ := ih e x he m' ci xs[i].1 xs[i].2 h2 (fun y hy => hw y (by
                simp only [DataW.weights, hu, List.mem_cons, List.mem_append]
                exact .inr (.inl (weightsAll_mem (List.mem_map.2 ⟨xs[i], hmem, rfl⟩) y hy)))) (.inl hflat)
              exact ⟨vi, ci, h1, h3, h4⟩
            obtain ⟨L, hL, hLR⟩ := exists_list len hel
            -- an element as one value
            let mk : List V → V := fun vs => if isRowD dsc then .agg vs else vs.headD .undef
            have hmk : ∀ i vi, L[i]? = some vi → (mk vi).cells = vi ∧ (if isRowD dsc = true then ∃ cs, mk vi = .agg cs ∧ ShT x cs else ShT x [mk vi]) := fun i vi hi => by
              obtain ⟨ci, _, _, h3⟩ := hLR i vi hi
              by_cases hr : isRowD dsc = true
              · simp only [mk, hr, if_true]; exact ⟨rfl, _, rfl, h3⟩
              · have hr : isRowD dsc = false := by simpa using hr
                obtain ⟨v, rfl, hv⟩ := ShT_single h3 (tyOf_row he hue hr)
                simp only [mk, hr]
                exact ⟨hv, h3⟩
            have hlt : ∀ i vi, L[i]? = some vi → i < len := fun i vi hi => by rw [← hL]; exact (List.getElem?_eq_some_iff.1 hi).1
            have hml : ∀ y ∈ L.map mk, y.cells.length = P.cellsOf e ∧ y.cells.all V.okCell = true := fun y hy => by
              obtain ⟨vi, hvi, rfl⟩ := List.mem_map.1 hy
              obtain ⟨i, hi⟩ := List.mem_iff_getElem?.1 hvi
              obtain ⟨ci, h1, h2, h3⟩ := hLR i vi hi
              rw [(hmk i vi hi).1]
              obtain ⟨_, hcl, _⟩ := World.cells?_some h1
              refine ⟨by rw [h2.1, hcl], List.all_eq_true.2 fun v hv => ?_⟩
              obtain ⟨j, hj⟩ := List.mem_iff_getElem?.1 hv
              have hjl : j < ci.length := by rw [← h2.1]; exact (List.getElem?_eq_some_iff.1 hj).1
              exact (h2.2 j v ci[j] hj (List.getElem?_eq_getElem hjl)).2.2
            have hcell : ∀ k v, ((L.map mk).flatMap V.cells)[k]? = some v → ∃ c, w.cell? ⟨a.block, a.off + k, none⟩ = some c ∧ VRel (fun _ => 0) (fun b _ => b < w.heap.size) w 0 v c := fun k v hk => by
              obtain ⟨i, j, y, h1, h2, rfl, h4⟩ := flat_inv (by rw [← hsz]; exact hpos) (fun y hy => (hml y hy).1) hk
              rw [List.getElem?_map] at h1
              obtain ⟨vi, hvi, rfl⟩ := Option.map_eq_some_iff.1 h1
              rw [(hmk i vi hvi).1] at h2
              obtain ⟨ci, g1, g2, g3⟩ := hLR i vi hvi
              obtain ⟨_, hcl, hcc⟩ := World.cells?_some g1
              have hjl : j < ci.length := by omega
              have := hcc j h4
              rw [add_none hspot, add_none rfl, List.getElem?_eq_getElem hjl] at this
              refine ⟨ci[j], ?_, (g2.2 j v ci[j] h2 (List.getElem?_eq_getElem hjl)).1⟩
              rw [← this]; simp only [Nat.add_assoc]
            obtain ⟨ab, ao, as⟩ := a
            simp only at hspot; subst hspot
            refine ⟨[.sl (L.map mk) .no], .one (.sl (sz := P.cellsOf e) (fun k => (w.cell? ⟨ab, ao + k, none⟩).getD undef) (by simp [hL]) hlen (by simp) hml (fun k v hk => ?_) fun k v hk => ?_) rfl rfl, L.map mk, rfl, ?_, fun y hy => ?_⟩
            · obtain ⟨c, h1, _⟩ := hcell k v hk
              simp only at h1 ⊢
              rw [h1]; exact ⟨rfl, cell_lt h1⟩
            · obtain ⟨c, h1, h2⟩ := hcell k v hk
              simp only at h1
              rw [h1]; exact h2
            · rw [List.length_map, hL]
              have := hw ((xs.map (·.1)).length + rest.length |>.mul (P.bytesOf e)) (by simp [DataW.weights, hu])
              have h2 : len * P.bytesOf e ≤ ((xs.map (·.1)).length + rest.length) * P.bytesOf e := Nat.mul_le_mul_right _ (by rw [List.length_map, hlx]; omega)
              exact Nat.le_trans h2 this
            · obtain ⟨vi, hvi, rfl⟩ := List.mem_map.1 hy
              obtain ⟨i, hi⟩ := List.mem_iff_getElem?.1 hvi
              exact (hmk i vi hi).2
        · cases hty
      · cases hty
    · rename_i fs hu
      split at hty
      · rename_i tys htys
        split at hty
        · rename_i hc
          cases hty
          simp only [Bool.and_eq_true] at hc
          obtain ⟨⟨hat, htot⟩, hszs⟩ := hc
          have htot := Nat.eq_of_beq_eq_true htot
          obtain ⟨m', xs, hlen, hxs, rfl⟩ := trod_struct hu h
          have key : ∀ (l : List Field) (i : Nat) (tl : List Ty) (ys : List (DataW H × List MemPlace)), fieldsAt P.cellsOf i l = true → l.mapM (fun f => tyOf P n f.type) = some tl →
              (l.mapM fun f => DataW.trod enc P w base spare held m' f.type ((cs.drop f.offset).take (P.cellsOf f.type))) = some ys → (l.zip tl).all (fun x => Nat.beq x.2.size (P.cellsOf x.1.type)) = true →
              (∀ x ∈ DataW.weightsEach P (l.map (·.type)) (ys.map (·.1)), x ≤ reachBytes) → (Ty.flats tl = true ∨ ∀ c ∈ cs, SpotOk c) → ∃ vs, Told w ((cs.drop i).take (Ty.sizes tl)) vs ∧ ShTs tl vs := by
            intro l
            induction l with
            | nil =>
              intro i tl ys _ h1 _ _ _ _
              simp at h1; subst h1
              exact ⟨[], ⟨by simp [Ty.sizes], by simp⟩, rfl⟩
            | cons f r ihl =>
              intro i tl ys hat h1 h2 h3 h4 h5
              simp only [fieldsAt, Bool.and_eq_true] at hat
              simp only [List.mapM_cons, bind, Option.bind_eq_some_iff] at h1 h2
              obtain ⟨t1, a1, tr, a2, a3⟩ := h1
              obtain ⟨y1, b1, yr, b2, b3⟩ := h2
              simp only [pure, Option.some.injEq] at a3 b3
              subst a3; subst b3
              simp only [List.zip_cons_cons, List.all_cons, Bool.and_eq_true] at h3
              have hsz1 := Nat.eq_of_beq_eq_true h3.1
              have hoff := Nat.eq_of_beq_eq_true hat.1
              rw [hoff] at b1
              obtain ⟨va, c1, c2⟩ := ih f.type t1 a1 m' _ y1.1 y1.2 b1 (fun x hx => h4 x (by simp only [List.map_cons, DataW.weightsEach, List.mem_append]; exact .inl hx)) (by
                rcases h5 with h5 | h5
                · simp only [Ty.flats, Bool.and_eq_true] at h5; exact .inl h5.1
                · exact .inr fun c hc => h5 c (List.mem_of_mem_drop (List.mem_of_mem_take hc)))
              obtain ⟨vb, d1, d2⟩ := ihl _ tr yr hat.2 a2 b2 h3.2 (fun x hx => h4 x (by simp only [List.map_cons, DataW.weightsEach, List.mem_append]; exact .inr hx)) (by
                rcases h5 with h5 | h5
                · simp only [Ty.flats, Bool.and_eq_true] at h5; exact .inl h5.2
                · exact .inr h5)
              refine ⟨va ++ vb, ?_, va, vb, rfl, c2, d2⟩
              simp only [Ty.sizes]
              rw [hsz1]
              exact c1.take_drop d1
          obtain ⟨vs, k1, k2⟩ := key fs.toList 0 tys xs hat htys hxs hszs (fun x hx => hw x (by simp only [DataW.weights, hu]; exact hx)) (by
            rcases hsp with h | h
            · exact .inl (by simpa [Ty.flat] using h)
            · exact .inr h)
          refine ⟨vs, ?_, k2⟩
          rw [List.drop_zero, htot, ← hlen, List.take_length] at k1
          exact k1
        · cases hty
      · cases hty
    · rename_i k e hu
      split at hty
      · rename_i x he
        split at hty
        · rename_i hc
          cases hty
          simp only [Bool.and_eq_true] at hc
          have hsz := Nat.eq_of_beq_eq_true hc.1
          have htot := Nat.eq_of_beq_eq_true hc.2
          obtain ⟨m', xs, hlen, hxs, rfl⟩ := trod_array hu h
          have hlx : xs.length = k := by rw [mapM_some_length hxs]; simp
          have hx : k = 0 ∨ x.flat = true ∨ ∀ c ∈ cs, SpotOk c := by
            rcases hsp with h | h
            · cases k with
              | zero => exact .inl rfl
              | succ k =>
                simp only [Ty.flat, List.replicate_succ, Ty.flats, Bool.and_eq_true] at h; exact .inr (.inl h.1)
            · exact .inr (.inr h)
          have key : ∀ j, j ≤ k → ∃ vs, Told w ((cs.drop ((k - j) * P.cellsOf e)).take (j * P.cellsOf e)) vs ∧ ShTs (List.replicate j x) vs := by
            intro j
            induction j with
            | zero => intro _; exact ⟨[], ⟨by simp, by simp⟩, rfl⟩
            | succ j ihj =>
              intro hj
              obtain ⟨vb, d1, d2⟩ := ihj (by omega)
              have hg := mapM_some_get hxs (k - (j + 1)) (k - (j + 1)) (by rw [List.getElem?_range (by omega)])
              rw [List.getElem?_eq_getElem (by omega)] at hg
              have hmem : xs[k - (j + 1)]'(by omega) ∈ xs := List.getElem_mem _
              obtain ⟨va, c1, c2⟩ := ih e x he m' _ _ _ hg (fun y hy => hw y (by
                simp only [DataW.weights, hu]
                exact weightsAll_mem (List.mem_map.2 ⟨_, hmem, rfl⟩) y hy)) (by
                rcases hx with h | h | h
                · omega
                · exact .inl h
                · exact .inr fun c hc => h c (List.mem_of_mem_drop (List.mem_of_mem_take hc)))
              refine ⟨va ++ vb, ?_, va, vb, rfl, c2, d2⟩
              have e1 : (j + 1) * P.cellsOf e = P.cellsOf e + j * P.cellsOf e := by rw [Nat.add_mul]; omega
              have e2 : (k - j) * P.cellsOf e = (k - (j + 1)) * P.cellsOf e + P.cellsOf e := by rw [show k - j = (k - (j + 1)) + 1 by omega, Nat.add_mul]; omega
              rw [e2] at d1
              rw [e1]
              exact c1.take_drop d1
          obtain ⟨vs, k1, k2⟩ := key k (Nat.le_refl _)
          refine ⟨vs, ?_, k2⟩
          rw [Nat.sub_self, Nat.zero_mul, List.drop_zero, ← hsz, htot, ← hlen, List.take_length] at k1
          exact k1
        · cases hty
      · cases hty
    · cases hty

end
end VL

namespace VL
open Go Go.RowKit
set_option linter.unusedVariables false
set_option linter.unusedSimpArgs false

def ShA (t : Ty) (agg : Bool) (x : V) : Prop := if agg then ∃ cs, x = .agg cs ∧ ShT t cs else ShT t [x]

def ShAs : List (Ty × Bool) → List V → Prop
  | [], xs => xs = []
  | (t, a) :: r, xs => ∃ x ys, xs = x :: ys ∧ ShA t a x ∧ ShAs r ys

def argTy (P : Program) (n : Nat) (t : TypeId) : Option (Ty × Bool) := (tyOf P n t).bind fun ty => (P.underlying t).map fun d => (ty, isRowD d)

section
variable {H : Type} {enc : TypeId × Value → H} {P : Program} {w : World} {base : Nat}

theorem arg_V {n : Nat} {t : TypeId} {ty : Ty} {agg : Bool} {v : Value} {d : DataW H} {ps : List MemPlace} {r : Reach} {b : Nat} (hty : argTy P n t = some (ty, agg)) (h : DataW.Trod enc P w 0 (fun _ => true) true t v d ps)
    (hv : Value.okWide P w r b t v) (hw : ∀ x ∈ d.weights P t, x ≤ reachBytes) : ∃ x, VRel (fun _ => 0) (fun b _ => b < w.heap.size) w 0 x v ∧ x.noTok = true ∧ ShA ty agg x := by
  obtain ⟨ty', h1, h2⟩ := Option.bind_eq_some_iff.1 hty
  obtain ⟨dsc, h3, h4⟩ := Option.map_eq_some_iff.1 h2
  simp only [Prod.mk.injEq] at h4
  obtain ⟨rfl, rfl⟩ := h4
  obtain ⟨m, hm⟩ := h
  obtain ⟨vs, k1, k2⟩ := trod_V n t ty' h1 m _ d ps hm hw (.inr (okWide_spots hv))
  have hval := hv
  unfold Value.okWide at hval
  rw [h3] at hval
  by_cases hr : isRowD dsc = true
  · have : ∃ cs, v = .agg cs := by
      cases dsc <;> simp [isRowD] at hr <;> obtain ⟨cs, h, _⟩ := hval <;> exact ⟨cs, h⟩
    obtain ⟨cs, rfl⟩ := this
    refine ⟨.agg vs, .agg (by rw [k1.1]; simp [Value.cells]) fun k u c hu hc => (k1.2 k u c hu (by simpa [Value.cells] using hc)).1, rfl, ?_⟩
    unfold ShA; rw [if_pos hr]; exact ⟨vs, rfl, k2⟩
  · have hr : isRowD dsc = false := by simpa using hr
    obtain ⟨x, rfl, hx⟩ := ShT_single k2 (tyOf_row h1 h3 hr)
    have hl := k1.1
    have hcv : v.cells.toList = [v] := by
      cases v with
      | agg cs =>
        exfalso
        cases dsc <;> simp [isRowD] at hr <;> simp [Cell.okWide, Cell.ok, h3] at hval
      | _ => rfl
    rw [hcv] at k1
    have := k1.2 0 x v rfl rfl
    refine ⟨x, this.1, this.2.1, ?_⟩
    unfold ShA; rw [if_neg (by simp [hr])]; exact k2

theorem args_V {n : Nat} {r : Reach} {b : Nat} : ∀ {ts : List TypeId} {tys : List (Ty × Bool)} {vs : List Value} {ds : List (DataW H)} {ps : List MemPlace}, ts.mapM (argTy P n) = some tys → DataW.TrodAll enc P w 0 (fun _ => true) true ts vs ds ps →
    (∀ (j : Nat) t v, ts[j]? = some t → vs[j]? = some v → Value.okWide P w r b t v) → (∀ x ∈ DataW.weightsEach P ts ds, x ≤ reachBytes) →
    ∃ xs : List V, xs.length = vs.length ∧ (∀ (k : Nat) x v, xs[k]? = some x → vs[k]? = some v → VRel (fun _ => 0) (fun b _ => b < w.heap.size) w 0 x v ∧ x.noTok = true) ∧ ShAs tys xs
  | [], tys, vs, ds, ps, h, ht, hv, hw => by
    simp at h; subst h
    cases vs with
    | nil => exact ⟨[], rfl, by simp, rfl⟩
    | cons v vs => cases ds <;> exact ht.elim
  | t :: ts, tys, vs, ds, ps, h, ht, hv, hw => by
    simp only [List.mapM_cons, bind, Option.bind_eq_some_iff] at h
    obtain ⟨t1, a1, tr, a2, a3⟩ := h
    simp only [pure, Option.some.injEq] at a3
    subst a3
    cases vs with
    | nil => exact ht.elim
    | cons v vs =>
      cases ds with
      | nil => exact ht.elim
      | cons d ds =>
        obtain ⟨p, q, h1, h2, rfl⟩ := ht
        obtain ⟨ty, agg⟩ := t1
        obtain ⟨x, b1, b2, b3⟩ := arg_V a1 h1 (hv 0 t v rfl rfl) (fun x hx => hw x (by simp only [DataW.weightsEach, List.mem_append]; exact .inl hx))
        obtain ⟨xs, c1, c2, c3⟩ := args_V a2 h2 (fun j t v h h' => hv (j + 1) t v (by simpa using h) (by simpa using h')) (fun x hx => hw x (by simp only [DataW.weightsEach, List.mem_append]; exact .inr hx))
        refine ⟨x :: xs, by simp [c1], fun k y z hy hz => ?_, x, xs, rfl, b3, c3⟩
        cases k with
        | zero => simp at hy hz; subst hy; subst hz; exact ⟨b1, b2⟩
        | succ k => exact c2 k y z (by simpa using hy) (by simpa using hz)

theorem trodAll_below (hl : laidOutB P = true) {W W' : World} (hb : Below W.heap.size W W') : ∀ {ts : List TypeId} {vs : List Value} {ds : List (DataW H)} {ps : List MemPlace},
    (ts.all fun t => P.readableRec t && decide (t < P.types.size)) = true → DataW.TrodAll enc P W 0 (fun _ => true) true ts vs ds ps → DataW.TrodAll enc P W' 0 (fun b => decide (b < W.heap.size)) true ts vs ds ps
  | [], [], [], _, _, h => h
  | [], [], _ :: _, _, _, h => h.elim
  | [], _ :: _, _, _, _, h => h.elim
  | _ :: _, [], _, _, _, h => h.elim
  | _ :: _, _ :: _, [], _, _, h => h.elim
  | t :: ts, v :: vs, d :: ds, ps, hr, h => by
    simp only [List.all_cons, Bool.and_eq_true, decide_eq_true_eq] at hr
    obtain ⟨p, q, h1, h2, rfl⟩ := h
    refine ⟨p, q, Below.trod hl hr.1.1 hr.1.2 h1 hb ?_, trodAll_below hl hb hr.2 h2, rfl⟩
    obtain ⟨m, hm⟩ := h1
    exact DataW.trod_lt m _ _ _ hm

/-- what a law's contract comes to in the machine -/
theorem law_calls {n f : Nat} {r : Reach} {b : Nat} {ts : List TypeId} {tys : List (Ty × Bool)} {args : Array Value} {ds : List (DataW H)} {ps : List MemPlace} (hty : ts.mapM (argTy P n) = some tys)
    (ht : DataW.TrodAll enc P w 0 (fun _ => true) true ts args.toList ds ps) (hv : ∀ (j : Nat) t v, ts[j]? = some t → args[j]? = some v → Value.okWide P w r b t v) (hw : ∀ x ∈ DataW.weightsEach P ts ds, x ≤ reachBytes)
    (hlaw : ∀ xs, ShAs tys xs → (sys P).call f xs [] fun out _ => out = .ret (.bool true)) : Calls P f args w fun e w' => e = .returned (.bool true) ∧ Below w.heap.size w w' := by
  obtain ⟨xs, h1, h2, h3⟩ := args_V hty ht (fun j t v h h' => hv j t v h (by simpa using h')) hw
  obtain ⟨_, hc⟩ := VCall.open (hlaw xs h3)
  have hinit : WInv ⟨w, 0, fun _ => 0, fun b _ => b < w.heap.size, fun _ => False⟩ ⟨fun _ => 0, fun b _ => b < w.heap.size, fun _ => ⟨0, 0, 0⟩⟩ w [] 0 :=
    ⟨rfl, rfl, rfl, Nat.le_refl _, fun _ _ _ _ => rfl, Nat.le_refl _, fun o x h => by simp at h, fun o x h => by simp at h, fun o o' x x' h => by simp at h, fun o h => absurd h (by simp), fun o x _ h => by simp at h, fun _ _ h => h, fun _ _ _ _ _ h => h, fun _ _ h => h,
      fun o T cs k h => by simp at h, fun o es k h => by simp at h, fun i h => absurd h (by omega), fun i j h => absurd h (by omega), fun _ _ _ => rfl⟩
  refine (hc w ⟨fun _ => 0, fun b _ => b < w.heap.size, fun _ => ⟨0, 0, 0⟩⟩ args hinit (by simpa using h1) (fun k v x hx hy => ?_)).mono fun e w' he => ?_
  · obtain ⟨a1, a2⟩ := h2 k v x hx (by simpa using hy)
    exact ⟨a1, .of_no a2⟩
  · obtain ⟨out, ob', g', rfl, hwi, hend⟩ := he
    cases e with
    | returned x =>
      have hx := hend.rel
      cases hx
      exact ⟨rfl, hwi.os, hwi.tape, hwi.output, hwi.size, fun k hk => hwi.keep k hk (fun o ho => absurd ho (by simp)) fun h => h⟩
    | _ => exact hend.elim

end
end VL

namespace VL
open Go Go.RowKit Go.ChangeShapes
set_option linter.unusedVariables false
set_option linter.unusedSimpArgs false

theorem trodAll_length {H : Type} {enc : TypeId × Value → H} {P : Program} {W : World} {b : Nat} {sp : Nat → Bool} {hd : Bool} : ∀ {ts : List TypeId} {vs : List Value} {ds : List (DataW H)} {ps : List MemPlace},
    DataW.TrodAll enc P W b sp hd ts vs ds ps → ds.length = ts.length
  | [], [], [], _, _ => rfl
  | [], [], _ :: _, _, h => h.elim
  | [], _ :: _, _, _, h => h.elim
  | _ :: _, [], _, _, h => h.elim
  | _ :: _, _ :: _, [], _, h => h.elim
  | t :: ts, v :: vs, d :: ds, ps, h => by
    obtain ⟨p, q, h1, h2, rfl⟩ := h
    simp [trodAll_length h2]

theorem law_lift {C : Checked} {H : Type} {enc : TypeId × Value → H} {f : FuncId} {fn : Func} {s : ChangeSpec} {n : Nat} {tys : List (Ty × Bool)} {ts : List TypeId} {tb : TypeId} (hts : fn.params.toList = ts) (hl : laidOutB C.prog = true)
    (hty : ts.mapM (argTy C.prog n) = some tys) (hvars : s.vars = []) (hrt : fn.resultTypes = #[tb]) (htb : C.prog.underlying tb = some .bool)
    (hread : (ts.all fun t => C.prog.readableRec t && decide (t < C.prog.types.size)) = true)
    (hs : ∀ ds : List (DataW H), ds.length = ts.length → s.fn H ds = { results := [.lit (.bool true)], args := ds, vars := [] })
    (hlaw : ∀ xs, ShAs tys xs → (sys C.prog).call f xs [] fun out _ => out = .ret (.bool true))
    (W : World) (base : Nat) (args : Array Value) (ds gs : List (DataW H)) (before : List MemPlace)
    (hval : ∀ (j : Nat) t v, fn.params[j]? = some t → args[j]? = some v → Value.okWide C.prog W .any base t v)
    (hW : DataW.Whole enc C.prog fn.params.toList s.vars false W args.toList ds gs before)
    (hsz : (DataW.weightsEach C.prog (fn.params.toList ++ s.plain.varTypes C.prog) (ds ++ gs)).all (· ≤ reachBytes) = true) :
    Calls C.prog f args W fun e W' => ∃ v, e = .returned v ∧ s.post enc C.prog fn false true false false W args v W' := by
  have hW' := hW
  obtain ⟨p, q, hA, hV, rfl, _, _⟩ := hW
  rw [hvars] at hV
  obtain ⟨rfl, rfl⟩ := trodVars_none hV
  have hpl : s.plain.varTypes C.prog = [] := by simp [DataSpec.varTypes, ChangeSpec.plain, hvars]
  rw [hpl, List.append_nil, List.append_nil] at hsz
  rw [hts] at hA hsz
  have hlen := trodAll_length hA
  have hlt : ∀ x ∈ p ++ [], x.block < W.heap.size := fun x hx => by simpa using hW'.lt x hx
  refine (law_calls (r := .any) (b := base) hty hA (fun j t v h1 h2 => hval j t v (by rw [← hts] at h1; simpa using h1) h2) (fun x hx => by simpa using List.all_eq_true.1 hsz x hx) hlaw).mono fun e W' ⟨he, hb⟩ => ?_
  have hs' := hs ds hlen
  refine ⟨_, he, ds, [], p ++ [], [], p, [], hW', ?_, ?_, ?_, hb.frame _, fun h => by cases h⟩
  · rw [List.append_nil, hs', hrt]
    exact trodAll_mk1 (shut_bool htb true)
  · rw [List.append_nil, hs', hts]
    exact trodAll_below hl hb hread hA
  · rw [hvars, List.append_nil, hs']; exact rfl
end VL
