/- Part Wb of the proof: VLOp5 VLOp6 VLOp7 VLOp8 VLOp9 VLOp10 VLOpB. -/
import Derived.Test.YtplcolaagnpccaaDoorWa
import Derived.Laws.Slices
import Derived.Laws.IdiomStrings
import Derived.Laws.BytesArg
import Derived.Laws.Tables
import Derived.Laws.NewFold
import Derived.Laws.AppendOwn
import Derived.Lib.AppendStr
import Derived.Laws.MakeOwn
namespace VL
open Go
set_option linter.unusedVariables false
set_option linter.unusedSimpArgs false

section
variable {S : Sys} {c : Ctx} {g : G} {w : World} {a : Act} {o : Oper} {K KP : V → St → Prop} {next : Act → World → Prop} {Q : Exit → Act → World → Prop}
  {t : List V} {ob : List VObj} {nt : Nat} {df : List (Fn × List V × List V)}

/-- what a lower bound is -/
def IsLow (a : Act) (lo : Option Operand) (n : Int) : Prop :=
  match lo with
  | none => n = 0
  | some y => ∃ k, a.eval y = .int k n

theorem lowK_sound {g : G} {n nt : Nat} (h : TInv g w n nt a.tmps t) {lo : Option Operand} {K : Int → Prop} (hk : lowK t lo K) : ∃ n, IsLow a lo n ∧ K n := by
  unfold lowK at hk
  cases lo with
  | none => exact ⟨0, rfl, hk⟩
  | some y =>
    obtain ⟨v, hv, hk⟩ := ev_sound h hk
    cases v <;> try exact hk.elim
    rename_i k n
    have hr := hv.rel
    generalize hx : a.eval y = e at hr
    cases hr
    exact ⟨n, ⟨k, hx⟩, hk⟩

theorem bounds_to {P : Program} {isSlice : Bool} {len cap : Nat} {lo : Option Operand} {n : Int} (h : IsLow a lo n) (h0 : 0 ≤ n) (h1 : n ≤ len) :
    (Instr.sliceBounds isSlice len cap (lo.map a.eval) none none).run P w = .ok (n.toNat, len, cap) w := by
  cases lo with
  | none => cases h; simp [Instr.sliceBounds]
  | some y =>
    obtain ⟨k, hk⟩ := h
    simp [Instr.sliceBounds, hk, run_sliceBound w k n len _ h0 h1]

theorem bounds_in {P : Program} {isSlice : Bool} {len cap : Nat} {lo : Option Operand} {n m : Int} {k : IntKind} (h : IsLow a lo n) (h0 : 0 ≤ n) (h1 : n ≤ m) (h2 : m ≤ cap) :
    (Instr.sliceBounds isSlice len cap (lo.map a.eval) (some (.int k m)) none).run P w = .ok (n.toNat, m.toNat, cap) w := by
  have h3 : (m.toNat : Int) = m := Int.toNat_of_nonneg (by omega)
  cases lo with
  | none => cases h; simp [Instr.sliceBounds, run_sliceBound w k m cap _ (by omega) h2]
  | some y =>
    obtain ⟨k', hk⟩ := h
    simp [Instr.sliceBounds, hk, run_sliceBound w k m cap _ (by omega) h2, run_sliceBound w k' n m.toNat _ h0 (by omega)]

theorem run_slice_str {P : Program} {T : TypeId} {s : ByteArray} {lo : Option Operand} {hi : Option Value} {n m p : Nat} (hu : P.underlying T = some .string)
    (h : (Instr.sliceBounds false s.size s.size (lo.map a.eval) hi none).run P w = .ok (n, m, p) w) :
    (Instr.sliceAt T (.string s) (lo.map a.eval) hi none).run P w = .ok (.string (s.extract n m)) w := by
  simp [Instr.sliceAt, Instr.slice, run_underlying hu, h]

theorem run_slice_sl {P : Program} {T e : TypeId} {inf : TypeInfo} {ad : Option Addr} {len cap : Nat} {lo : Option Operand} {hi : Option Value} {n m p : Nat} (hu : P.underlying T = some (.slice e)) (hi' : P.info? e = some inf)
    (h : (Instr.sliceBounds true len cap (lo.map a.eval) hi none).run P w = .ok (n, m, p) w) :
    (Instr.sliceAt T (.slice ad len cap) (lo.map a.eval) hi none).run P w = .ok (.slice (if p = n then ad else ad.map (·.add (n * inf.size))) (m - n) (p - n)) w := by
  simp [Instr.sliceAt, Instr.slice, run_underlying hu, h, run_size hi']

theorem flat_drop {l : List V} {sz : Nat} (hz : ∀ x ∈ l, x.cells.length = sz ∧ x.cells.all V.okCell = true) : ∀ (n : Nat), (l.drop n).flatMap V.cells = (l.flatMap V.cells).drop (n * sz) := by
  induction l with
  | nil => simp
  | cons x r ih =>
    intro n
    cases n with
    | zero => simp
    | succ n =>
      rw [List.drop_succ_cons, ih (fun y hy => hz y (by simp [hy])), List.flatMap_cons, List.drop_append, (hz x (by simp)).1, Nat.succ_mul]
      rw [show x.cells.drop (n * sz + sz) = [] from List.drop_eq_nil_of_le (by rw [(hz x (by simp)).1]; omega), List.nil_append]
      congr 1; omega

theorem flat_take {l : List V} {sz : Nat} (hz : ∀ x ∈ l, x.cells.length = sz ∧ x.cells.all V.okCell = true) : ∀ (n : Nat), (l.take n).flatMap V.cells = (l.flatMap V.cells).take (n * sz) := by
  induction l with
  | nil => simp
  | cons x r ih =>
    intro n
    cases n with
    | zero => simp
    | succ n =>
      rw [List.take_succ_cons, List.flatMap_cons, ih (fun y hy => hz y (by simp [hy])), List.flatMap_cons, List.take_append, (hz x (by simp)).1, Nat.succ_mul]
      rw [List.take_of_length_le (l := x.cells) (by rw [(hz x (by simp)).1]; omega)]
      congr 2; omega

theorem flat_len {l : List V} {sz : Nat} (hz : ∀ x ∈ l, x.cells.length = sz) : (l.flatMap V.cells).length = l.length * sz := by
  induction l with
  | nil => simp
  | cons x r ih =>
    rw [List.flatMap_cons, List.length_append, ih (fun y hy => hz y (by simp [hy])), hz x (by simp), List.length_cons, Nat.succ_mul]; omega

/-- a part of a slice: of what it has -/
theorem VRel.cut {bs : Nat → Nat} {I : Nat → Nat → Prop} {n : Nat} {l : List V} {r r' : Room} {b off len cap z : Nat} (h : VRel bs I w n (.sl l r) (.slice (some ⟨b, off, none⟩) len cap)) (hz : ∀ x ∈ l, x.cells.length = z)
    {lo hi : Nat} (h1 : lo ≤ hi) (h2 : hi ≤ l.length) (hr : r' = .ex → cap = hi) :
    VRel bs I w n (.sl ((l.take hi).drop lo) r') (.slice (if cap = lo then some ⟨b, off, none⟩ else some ⟨b, off + lo * z, none⟩) (hi - lo) (cap - lo)) := by
  cases h with
  | @sl _ _ _ _ _ _ _ sz u hl hcap hr0 hok hc hu =>
    have hlen : hi - lo = ((l.take hi).drop lo).length := by simp; omega
    by_cases hcl : cap = lo
    · rw [if_pos hcl]
      have hnil : (l.take hi).drop lo = [] := List.drop_eq_nil_of_le (by simp; omega)
      rw [hnil] at hlen ⊢
      exact .sl (sz := sz) u hlen (by simp at hlen; omega) (fun e => by have := hr e; simp at hlen; omega) (by simp) (by simp) (by simp)
    · rw [if_neg hcl]
      by_cases hne : l = []
      · subst hne
        simp at h2
        refine .sl (sz := sz) u hlen (by simp at hlen ⊢; omega) (fun e => by have := hr e; omega) (by simp) (by simp) (by simp)
      · have hsz : sz = z := by
          obtain ⟨x, hx⟩ := List.exists_mem_of_ne_nil l hne
          rw [← (hok x hx).1, hz x hx]
        subst hsz
        have hflat : ((l.take hi).drop lo).flatMap V.cells = ((l.flatMap V.cells).take (hi * sz)).drop (lo * sz) := by
          rw [flat_drop (fun x hx => hok x (List.mem_of_mem_take hx)), flat_take hok]
        refine .sl (sz := sz) (fun k => u (lo * sz + k)) hlen (by omega) (fun e => by have := hr e; omega) (fun x hx => hok x (List.mem_of_mem_take (List.mem_of_mem_drop hx))) (fun k v hk => ?_) (fun k v hk => ?_)
        · rw [hflat, List.getElem?_drop, List.getElem?_take] at hk
          split at hk
          · have := hc _ v hk
            rwa [show off + (lo * sz + k) = off + lo * sz + k by omega] at this
          · exact absurd hk (by simp)
        · rw [hflat, List.getElem?_drop, List.getElem?_take] at hk
          split at hk
          · exact hu _ v hk
          · exact absurd hk (by simp)


theorem Tok.drop {fam : Nat → Fam} {nt : Nat} {l : List V} {r : Room} {b off len cap z n : Nat} (h : Tok fam nt (.sl l r) (.slice (some ⟨b, off, none⟩) len cap)) (hlen : len = l.length) (hn : n ≤ l.length) (hcap : len ≤ cap)
    (hz : ∀ x ∈ l, x.cells.length = z) (hzp : 0 < z) (hzz : l = [] → n = 0) :
    Tok fam nt (.sl (l.drop n) r) (.slice (if cap = n then some ⟨b, off, none⟩ else some ⟨b, off + n * z, none⟩) (len - n) (cap - n)) := by
  cases r with
  | tok i sz =>
    obtain ⟨h1, h2, h3, a, len', cap', he, h4⟩ := h
    cases he
    refine ⟨h1, h2, fun x hx => h3 x (List.mem_of_mem_drop hx), _, _, _, rfl, ?_⟩
    rcases h4 with h4 | ⟨off', ho, h5, h6⟩
    · exact .inl (by omega)
    · by_cases hcn : cap = n
      · exact .inl (by omega)
      · right
        cases ho
        by_cases hl : l = []
        · have := hzz hl
          subst this
          rw [if_neg hcn]
          exact ⟨off, by simp, by simpa using h5, by simpa using h6⟩
        · have hsz : sz = z := by
            obtain ⟨x, hx⟩ := List.exists_mem_of_ne_nil l hl
            rw [← h3 x hx, hz x hx]
          subst hsz
          rw [if_neg hcn]
          refine ⟨off + n * sz, rfl, ?_, ?_⟩
          · rw [← h5, Nat.sub_mul]
            have : n * sz ≤ len * sz := Nat.mul_le_mul_right _ (by omega)
            omega
          · rw [show cap - n - (len - n) = cap - len by omega]; exact h6
  | _ => trivial

theorem VRel.slo_cut {bs : Nat → Nat} {I : Nat → Nat → Prop} {n : Nat} {o z lo len cap : Nat} {ad : Option Addr} (h : VRel bs I w n (.slo o z lo len cap) (.slice ad len cap)) {l m p : Nat} (h1 : l ≤ m) (h2 : m ≤ p) (h3 : p ≤ cap) :
    VRel bs I w n (.slo o z (lo + l) (m - l) (p - l)) (.slice (if p = l then ad else ad.map (·.add (l * z))) (m - l) (p - l)) := by
  cases h with | slo hlt hl ha hf =>
  have hf' : Plain (if p = l then ad else ad.map (·.add (l * z))) := by
    split
    · exact hf
    · rcases hf with rfl | ⟨b, k, rfl⟩
      · exact .inl rfl
      · exact .inr ⟨b, k + l * z, by rw [Option.map_some, Addr.add_mid]⟩
  by_cases hp : p = l
  · exact .slo hlt (by omega) (.inl (by omega)) hf'
  · rw [if_neg hp] at hf' ⊢
    obtain rfl := ha.resolve_left (by omega)
    refine .slo hlt (by omega) (.inr ?_) hf'
    rw [Option.map_some, Addr.add_mid, Nat.add_mul]

theorem bounds_max {P : Program} {isSlice : Bool} {len cap : Nat} {lo : Option Operand} {n m p : Int} {k k' : IntKind} (h : IsLow a lo n) (h0 : 0 ≤ n) (h1 : n ≤ m) (h2 : m ≤ p) (h3 : p ≤ cap) :
    (Instr.sliceBounds isSlice len cap (lo.map a.eval) (some (.int k m)) (some (.int k' p))).run P w = .ok (n.toNat, m.toNat, p.toNat) w := by
  have e1 : (p.toNat : Int) = p := Int.toNat_of_nonneg (by omega)
  have e2 : (m.toNat : Int) = m := Int.toNat_of_nonneg (by omega)
  cases lo with
  | none => cases h; simp [Instr.sliceBounds, run_sliceBound w k' p cap _ (by omega) h3, run_sliceBound w k m p.toNat _ (by omega) (by omega)]
  | some y =>
    obtain ⟨k'', hk⟩ := h
    simp [Instr.sliceBounds, hk, run_sliceBound w k' p cap _ (by omega) h3, run_sliceBound w k m p.toNat _ (by omega) (by omega), run_sliceBound w k'' n m.toNat _ h0 (by omega)]

theorem run_slice_sl3 {P : Program} {T e : TypeId} {inf : TypeInfo} {ad : Option Addr} {len cap : Nat} {lo : Option Operand} {hi mx : Option Value} {n m p : Nat} (hu : P.underlying T = some (.slice e)) (hi' : P.info? e = some inf)
    (h : (Instr.sliceBounds true len cap (lo.map a.eval) hi mx).run P w = .ok (n, m, p) w) :
    (Instr.sliceAt T (.slice ad len cap) (lo.map a.eval) hi mx).run P w = .ok (.slice (if p = n then ad else ad.map (·.add (n * inf.size))) (m - n) (p - n)) w := by
  simp [Instr.sliceAt, Instr.slice, run_underlying hu, h, run_size hi']

theorem sound_slice3 {T : TypeId} {x : Operand} {lo : Option Operand} {hi mx : Operand} (ho : o.op = .slice T x lo (some hi) (some mx)) (H : Nexts c a o.dst K KP next Q) (hs : Sim c g w a ⟨t, ob, nt, df⟩)
    (h0 : ev t x fun x => lowK t lo fun l => ev t hi fun h => ev t mx fun m => match x, h, m, S.P.underlying T with
    | .sl xs _, .int _ h, .int _ m, some (.slice e) => szK S.P e fun z => 0 ≤ l ∧ l ≤ h ∧ h = m ∧ h ≤ xs.length ∧ (∀ x ∈ xs, x.cells.length = z) ∧ K (.sl ((xs.take h.toNat).drop l.toNat) .ex) ⟨t, ob, nt, df⟩
    | .slo o z a n c, .int _ h, .int _ m, some (.slice e) => szK S.P e fun z' => (match Nat.beq z z' with
      | true => 0 ≤ l ∧ l ≤ h ∧ h ≤ m ∧ m ≤ c ∧ K (.slo o z (a + l.toNat) (h.toNat - l.toNat) (m.toNat - l.toNat)) ⟨t, ob, nt, df⟩
      | false => False)
    | _, _, _, _ => False) : o.wp S.P a w next Q := by
  obtain ⟨p, hp, hk1⟩ := ev_sound hs.ti h0
  obtain ⟨l, hlow, hk2⟩ := lowK_sound hs.ti hk1
  obtain ⟨vh, hvh, hk3⟩ := ev_sound hs.ti hk2
  obtain ⟨vm, hvm, hk⟩ := ev_sound hs.ti hk3
  clear hk1 hk2 hk3 h0
  have hr := hp.rel
  have hrh := hvh.rel
  have hrm := hvm.rel
  split at hk
  · rename_i xs r k h k' m e hu
    obtain ⟨inf, hinf, hpos, h1, h2, h3, h4, hz, hfin⟩ := szK_iff hk
    clear hk
    subst h3
    generalize hx : a.eval x = ex at hr
    generalize hy : a.eval hi = ey at hrh
    generalize hm : a.eval mx = em at hrm
    cases hrh; cases hrm
    cases hr with
    | slnil =>
      simp at h4
      have e1 : h = 0 := by omega
      have e2 : l = 0 := by omega
      subst e1; subst e2
      refine H.same hs (x := .slice none 0 0) ?_ (.of (by simpa using (VRel.slnil (n := ob.length) (r := .ex))) rfl) hfin
      simp only [execOp, ho, hx, Sem.run_bind, Option.map_some, hy, hm, run_slice_sl3 hu hinf (bounds_max (len := 0) (cap := 0) hlow h1 h2 (Int.le_refl _) (by simp)), Result.andThen_ok]
      rfl
    | @sl _ _ _ b off len cap sz u hl hcap hr0 hok hc hu' =>
      have hrun := run_slice_sl3 (ad := some ⟨b, off, none⟩) hu hinf (bounds_max (P := S.P) (w := w) (isSlice := true) (len := len) (cap := cap) (k := k) (k' := k') hlow h1 h2 (Int.le_refl _) (by omega))
      have htk : VRel g.bs g.I w ob.length (.sl (xs.take h.toNat) .ex) (.slice (some ⟨b, off, none⟩) h.toNat h.toNat) := by
        have hfl : ∀ (k : Nat) v, ((xs.take h.toNat).flatMap V.cells)[k]? = some v → (xs.flatMap V.cells)[k]? = some v := fun k v hv => by
          rw [flat_take hok, List.getElem?_take] at hv
          split at hv
          · exact hv
          · cases hv
        refine .sl u (by simp; omega) (Nat.le_refl _) (fun _ => rfl) (fun x hx => hok x (List.mem_of_mem_take hx)) (fun k v hv => hc k v (hfl k v hv)) fun k v hv => hu' k v (hfl k v hv)
      have hcut := htk.cut (r' := .ex) (lo := l.toNat) (hi := h.toNat) (fun x hx => hz x (List.mem_of_mem_take hx)) (by omega) (by simp; omega) (fun _ => rfl)
      rw [List.take_take, Nat.min_self] at hcut
      refine H.same hs (x := .slice (if h.toNat = l.toNat then some ⟨b, off, none⟩ else some ⟨b, off + l.toNat * inf.size, none⟩) (h.toNat - l.toNat) (h.toNat - l.toNat)) ?_ (.of hcut rfl) hfin
      simp only [execOp, ho, hx, Sem.run_bind, Option.map_some, hy, hm, hrun, Result.andThen_ok]
      simp only [Option.map_some, Addr.add_mid]
      rfl
  · rename_i o1 z a0 n c0 k h k' m e hu
    obtain ⟨inf, hinf, hpos, hk⟩ := szK_iff hk
    split at hk
    case h_2 => exact hk.elim
    rename_i hz
    have hz := Nat.eq_of_beq_eq_true hz
    obtain ⟨h1, h2, h3, h4, hk⟩ := hk
    generalize hx : a.eval x = ex at hr
    generalize hy : a.eval hi = ey at hrh
    generalize hm : a.eval mx = em at hrm
    cases hrh; cases hrm
    have hex : ∃ ad, ex = .slice ad n c0 := by cases hr; exact ⟨_, rfl⟩
    obtain ⟨ad, rfl⟩ := hex
    have hrun := run_slice_sl3 (ad := ad) hu hinf (bounds_max (P := S.P) (w := w) (isSlice := true) (len := n) (cap := c0) (k := k) (k' := k') hlow h1 h2 h3 h4)
    have hcut := hr.slo_cut (l := l.toNat) (m := h.toNat) (p := m.toNat) (by omega) (by omega) (by omega)
    rw [hz] at hcut hk
    refine H.same hs ?_ (.of hcut rfl) hk
    simp only [execOp, ho, hx, Sem.run_bind, Option.map_some, hy, hm, hrun, Result.andThen_ok]
    rfl
  · exact hk.elim

theorem sound_sliceF {T : TypeId} {x : Operand} {lo hi : Option Operand} (ho : o.op = .slice T x lo hi none) (H : Nexts c a o.dst K KP next Q) (hs : Sim c g w a ⟨t, ob, nt, df⟩)
    (h : ev t x fun x => lowK t lo fun l => match x with
    | .str b => match S.P.underlying T with
      | some .string => (match (generalizing := false) hi with
        | none => 0 ≤ l ∧ l ≤ b.size ∧ K (.str (b.extract l.toNat b.size)) ⟨t, ob, nt, df⟩
        | some y => ev t y fun y => match y with
          | .int _ h => 0 ≤ l ∧ l ≤ h ∧ h ≤ b.size ∧ K (.str (b.extract l.toNat h.toNat)) ⟨t, ob, nt, df⟩
          | _ => False)
      | _ => False
    | .sl xs r => match S.P.underlying T with
      | some (.slice e) => szK S.P e fun z => (match (generalizing := false) hi with
        | none => 0 ≤ l ∧ l ≤ xs.length ∧ (∀ x ∈ xs, x.cells.length = z) ∧ K (.sl (xs.drop l.toNat) r) ⟨t, ob, nt, df⟩
        | some y => ev t y fun y => match y with
          | .int _ h => 0 ≤ l ∧ l ≤ h ∧ h ≤ xs.length ∧ (∀ x ∈ xs, x.cells.length = z) ∧ K (.sl ((xs.take h.toNat).drop l.toNat) .no) ⟨t, ob, nt, df⟩
          | _ => False)
      | _ => False
    | .spare xs sp => match S.P.underlying T with
      | some (.slice e) => szK S.P e fun z => (match (generalizing := false) hi with
        | none => False
        | some y => ev t y fun y => match y with
          | .int _ h => 0 ≤ l ∧ l ≤ h ∧ h ≤ xs.length + sp.length ∧ (∀ x ∈ xs ++ sp, x.cells.length = z) ∧ K (.sl (((xs ++ sp).take h.toNat).drop l.toNat) .no) ⟨t, ob, nt, df⟩
          | _ => False)
      | _ => False
    | .slo o z a n c => match S.P.underlying T with
      | some (.slice e) => szK S.P e fun z' => (match (generalizing := false) Nat.beq z z', hi with
        | true, none => 0 ≤ l ∧ l ≤ n ∧ K (.slo o z (a + l.toNat) (n - l.toNat) (c - l.toNat)) ⟨t, ob, nt, df⟩
        | true, some y => ev t y fun y => match y with
          | .int _ h => 0 ≤ l ∧ l ≤ h ∧ h ≤ c ∧ K (.slo o z (a + l.toNat) (h.toNat - l.toNat) (c - l.toNat)) ⟨t, ob, nt, df⟩
          | _ => False
        | _, _ => False)
      | _ => False
    | _ => False) : o.wp S.P a w next Q := by
  obtain ⟨p, hp, hk0⟩ := ev_sound hs.ti h
  obtain ⟨l, hlow, hk⟩ := lowK_sound hs.ti hk0
  clear hk0 h
  have hr := hp.rel
  split at hk
  · -- a text
    rename_i b
    split at hk
    case h_2 => exact hk.elim
    rename_i hu
    generalize hx : a.eval x = e at hr
    cases hr
    cases hi with
    | none =>
      obtain ⟨h1, h2, hk⟩ := hk
      refine H.same hs (x := .string (b.extract l.toNat b.size)) ?_ (.of .str rfl) hk
      simp only [execOp, ho, hx, Sem.run_bind, Option.map_none, run_slice_str hu (bounds_to hlow h1 h2), Result.andThen_ok]
      rfl
    | some y =>
      obtain ⟨v, hv, hk⟩ := ev_sound hs.ti hk
      cases v <;> try exact hk.elim
      rename_i k m
      have hry := hv.rel
      generalize hy : a.eval y = ey at hry
      cases hry
      obtain ⟨h1, h2, h3, hk⟩ := hk
      refine H.same hs (x := .string (b.extract l.toNat m.toNat)) ?_ (.of .str rfl) hk
      simp only [execOp, ho, hx, Sem.run_bind, Option.map_none, Option.map_some, hy, run_slice_str hu (bounds_in hlow h1 h2 h3), Result.andThen_ok]
      rfl
  · -- a slice
    rename_i xs r
    split at hk
    case h_2 => exact hk.elim
    rename_i e hu
    obtain ⟨inf, hinf, hpos, hk⟩ := szK_iff hk
    cases hi with
    | none =>
      obtain ⟨h1, h2, hz, hk⟩ := hk
      have htok := hp.tok
      generalize hx : a.eval x = ex at hr htok
      cases hr with
      | slnil =>
        simp at h2
        have hl0 : l = 0 := by omega
        subst hl0
        refine H.same hs (x := .slice none 0 0) ?_ ⟨by simpa using (VRel.slnil (n := ob.length) (r := r)), ?_⟩ hk
        · simp only [execOp, ho, hx, Sem.run_bind, Option.map_none, run_slice_sl hu hinf (bounds_to (len := 0) (cap := 0) hlow h1 (by simp)), Result.andThen_ok]
          rfl
        · simpa using htok
      | @sl _ _ _ b off len cap sz u hl hcap hr0 hok hc hu' =>
        have hrun := run_slice_sl (ad := some ⟨b, off, none⟩) hu hinf (bounds_to (P := S.P) (w := w) (isSlice := true) (len := len) (cap := cap) hlow h1 (by omega))
        have hcut := (VRel.sl (n := ob.length) u hl hcap hr0 hok hc hu').cut (r' := r) (lo := l.toNat) (hi := xs.length) hz (by omega) (Nat.le_refl _) (fun e => by rw [hr0 e, hl])
        rw [List.take_length] at hcut
        rw [← hl] at hcut
        refine H.same hs (x := .slice (if cap = l.toNat then some ⟨b, off, none⟩ else some ⟨b, off + l.toNat * inf.size, none⟩) (len - l.toNat) (cap - l.toNat)) ?_ ⟨hcut, htok.drop hl (by omega) hcap hz hpos (fun e => by subst e; simp at h2; omega)⟩ hk
        simp only [execOp, ho, hx, Sem.run_bind, Option.map_none, hrun, Result.andThen_ok]
        simp only [Option.map_some, Addr.add_mid]
        rfl
    | some y =>
      obtain ⟨v, hv, hk⟩ := ev_sound hs.ti hk
      cases v <;> try exact hk.elim
      rename_i k m
      have hry := hv.rel
      generalize hy : a.eval y = ey at hry
      cases hry
      obtain ⟨h1, h2, h3, hz, hk⟩ := hk
      generalize hx : a.eval x = ex at hr
      cases hr with
      | slnil =>
        simp at h3
        have hl0 : l = 0 := by omega
        have hm0 : m = 0 := by omega
        subst hl0; subst hm0
        refine H.same hs (x := .slice none 0 0) ?_ (.of (by simpa using (VRel.slnil (n := ob.length) (r := .no))) rfl) hk
        simp only [execOp, ho, hx, Sem.run_bind, Option.map_none, Option.map_some, hy, run_slice_sl hu hinf (bounds_in (len := 0) (cap := 0) hlow h1 h2 (by simp)), Result.andThen_ok]
        rfl
      | @sl _ _ _ b off len cap sz u hl hcap hr0 hok hc hu' =>
        have hrun := run_slice_sl (ad := some ⟨b, off, none⟩) hu hinf (bounds_in (P := S.P) (w := w) (isSlice := true) (len := len) (cap := cap) (k := k) hlow h1 h2 (by omega))
        have hcut := (VRel.sl (n := ob.length) u hl hcap hr0 hok hc hu').cut (r' := .no) (lo := l.toNat) (hi := m.toNat) hz (by omega) (by omega) (by simp)
        refine H.same hs (x := .slice (if cap = l.toNat then some ⟨b, off, none⟩ else some ⟨b, off + l.toNat * inf.size, none⟩) (m.toNat - l.toNat) (cap - l.toNat)) ?_ (.of hcut rfl) hk
        simp only [execOp, ho, hx, Sem.run_bind, Option.map_none, Option.map_some, hy, hrun, Result.andThen_ok]
        simp only [Option.map_some, Addr.add_mid]
        rfl
  · -- room that is known
    rename_i xs sp
    split at hk
    case h_2 => exact hk.elim
    rename_i e hu
    obtain ⟨inf, hinf, hpos, hk⟩ := szK_iff hk
    cases hi with
    | none => exact hk.elim
    | some y =>
      obtain ⟨v, hv, hk⟩ := ev_sound hs.ti hk
      cases v <;> try exact hk.elim
      rename_i k m
      have hry := hv.rel
      generalize hy : a.eval y = ey at hry
      cases hry
      obtain ⟨h1, h2, h3, hz, hk⟩ := hk
      generalize hx : a.eval x = ex at hr
      cases hr with
      | @spare _ _ _ b off len cap sz u hl hcap hok hc hu' =>
        have hrun := run_slice_sl (ad := some ⟨b, off, none⟩) hu hinf (bounds_in (P := S.P) (w := w) (isSlice := true) (len := len) (cap := cap) (k := k) hlow h1 h2 (by omega))
        have hfull : VRel g.bs g.I w ob.length (.sl (xs ++ sp) .no) (.slice (some ⟨b, off, none⟩) (xs.length + sp.length) cap) := .sl u (by simp) (by omega) (by simp) hok hc hu'
        have hcut := hfull.cut (r' := .no) (lo := l.toNat) (hi := m.toNat) hz (by omega) (by simp; omega) (by simp)
        refine H.same hs (x := .slice (if cap = l.toNat then some ⟨b, off, none⟩ else some ⟨b, off + l.toNat * inf.size, none⟩) (m.toNat - l.toNat) (cap - l.toNat)) ?_ (.of hcut rfl) hk
        simp only [execOp, ho, hx, Sem.run_bind, Option.map_none, Option.map_some, hy, hrun, Result.andThen_ok]
        simp only [Option.map_some, Addr.add_mid]
        rfl
  · -- a row that is written
    rename_i o1 z a0 n c0
    split at hk
    case h_2 => exact hk.elim
    rename_i e hu
    obtain ⟨inf, hinf, hpos, hk⟩ := szK_iff hk
    generalize hx : a.eval x = ex at hr
    have hex : ∃ ad, ex = .slice ad n c0 := by cases hr; exact ⟨_, rfl⟩
    obtain ⟨ad, rfl⟩ := hex
    have hcn : n ≤ c0 := by cases hr; assumption
    cases hzb : Nat.beq z inf.size with
    | false => rw [hzb] at hk; cases hi <;> exact hk.elim
    | true =>
      rw [hzb] at hk
      have hz := Nat.eq_of_beq_eq_true hzb
      cases hi with
      | none =>
        obtain ⟨h1, h2, hk⟩ := hk
        have hrun := run_slice_sl (ad := ad) hu hinf (bounds_to (P := S.P) (w := w) (isSlice := true) (len := n) (cap := c0) hlow h1 h2)
        have hcut := hr.slo_cut (l := l.toNat) (m := n) (p := c0) (by omega) hcn (Nat.le_refl _)
        rw [hz] at hcut hk
        refine H.same hs ?_ (.of hcut rfl) hk
        simp only [execOp, ho, hx, Sem.run_bind, Option.map_none, hrun, Result.andThen_ok]
        rfl
      | some y =>
        obtain ⟨v, hv, hk⟩ := ev_sound hs.ti hk
        cases v <;> try exact hk.elim
        rename_i k m
        have hry := hv.rel
        generalize hy : a.eval y = ey at hry
        cases hry
        obtain ⟨h1, h2, h3, hk⟩ := hk
        have hrun := run_slice_sl (ad := ad) hu hinf (bounds_in (P := S.P) (w := w) (isSlice := true) (len := n) (cap := c0) (k := k) hlow h1 h2 h3)
        have hcut := hr.slo_cut (l := l.toNat) (m := m.toNat) (p := c0) (by omega) (by omega) (Nat.le_refl _)
        rw [hz] at hcut hk
        refine H.same hs ?_ (.of hcut rfl) hk
        simp only [execOp, ho, hx, Sem.run_bind, Option.map_none, Option.map_some, hy, hrun, Result.andThen_ok]
        rfl
  · exact hk.elim

theorem sound_sliceP {T : TypeId} {x : Operand} (ho : o.op = .slice T x none none none) (H : Nexts c a o.dst K KP next Q) (hs : Sim c g w a ⟨t, ob, nt, df⟩) {i n : Nat} {e : TypeId}
    (hp : VT g w ob.length nt (.ptr i 0) (a.eval x)) (hu : S.P.underlying T = some (.array n e))
    (hk : getK ob i fun o1 => match o1 with
        | .cells _ U cs => match cs.length == n && szOf S.P e == 1 && cs.all (fun c => match c with | .int _ _ => true | _ => false) with
          | true => setK ob i (.cells false U cs) fun objs => K (.sl cs .ex) ⟨t, objs, nt, df⟩
          | false => False
        | _ => False) : o.wp S.P a w next Q := by
  have hr := hp.rel
  obtain ⟨x1, h1, hk⟩ := getK_iff hk
  obtain ⟨wr, U, cs, rfl⟩ : ∃ wr U cs, x1 = .cells wr U cs := by
    cases x1 with
    | cells wr U cs => exact ⟨_, _, _, rfl⟩
    | _ => exact hk.elim
  simp only at hk
  split at hk
  case h_2 => exact hk.elim
  rename_i hck
  simp only [Bool.and_eq_true, beq_iff_eq] at hck
  obtain ⟨⟨hn, hsz⟩, hints⟩ := hck
  obtain ⟨hlt, hk⟩ := setK_iff hk
  obtain ⟨inf, hinf, hsz'⟩ := szOf_pos (n := 0) hsz
  obtain ⟨arr, g1, g2, g3⟩ := obj_cells hs.wi h1
  generalize hx : a.eval x = ex at hr
  cases hr with | ptr hlt' =>
  unfold Oper.wp
  have hrun : (execOp a.eval o).run S.P w = .ok (.value (.slice (some ⟨g.bs i, 0, none⟩) n n)) w := by
    simp only [execOp, ho, hx, Sem.run_bind, Instr.sliceAt, run_underlying hu, Result.andThen_ok, Instr.sureAddr, Option.map_none, Instr.sliceBounds, run_size hinf]
    simp [Addr.add]
  rw [hrun]
  have he := Ext.freeze hs.wi (g.bs i) cs.length
  have hw := WInv.freeze (x' := .cells false U cs) hs.wi h1 rfl cs.length (he.orel (x := .cells false U cs) (b := g.bs i) ⟨arr, g1, g2, g3⟩ rfl) (fun _ => rfl) (by simp) rfl
  have hcell : ∀ x ∈ cs, x.cells = [x] ∧ x.okCell = true := fun x hx => by
    have := List.all_eq_true.1 hints x hx
    cases x <;> simp_all [V.cells, V.okCell]
  have hflat : ∀ l : List V, (∀ x ∈ l, x.cells = [x] ∧ x.okCell = true) → l.flatMap V.cells = l := fun l => by
    induction l with
    | nil => simp
    | cons y r ih => intro h; rw [List.flatMap_cons, ih fun x hx => h x (by simp [hx]), (h y (by simp)).1]; rfl
  refine H.val (.sl cs .ex) _ ⟨t, ob.set i (.cells false U cs), nt, df⟩ _ _ a hk ⟨hw, by simpa using he.tinv hs.ti, by simpa using he.drel hs.di⟩ rfl (.of ?_ rfl)
  refine .sl (sz := 1) (fun k => arr.getD k undef) hn.symm (Nat.le_refl _) (fun _ => rfl) (fun x hx => ?_) (fun k v hk => ?_) (fun k v hk => ?_)
  · rw [(hcell x hx).1]; simp [(hcell x hx).2]
  · rw [hflat cs hcell] at hk
    have hlt : k < arr.size := by rw [← g2]; exact (List.getElem?_eq_some_iff.1 hk).1
    refine ⟨?_, .inr ⟨rfl, by rw [g2]; omega⟩⟩
    simp [World.cell?, g1, Array.getD, hlt]
  · rw [hflat cs hcell] at hk
    have hlt : k < arr.size := by rw [← g2]; exact (List.getElem?_eq_some_iff.1 hk).1
    have hv := (he.vt (g3 k v arr[k] hk (by simp [hlt])).1).rel
    have hi := List.all_eq_true.1 hints v (List.mem_of_getElem? hk)
    have : arr.getD k undef = arr[k] := by simp [Array.getD, hlt]
    rw [this]
    exact hv.low (by cases v <;> simp_all [V.low])


/-! ### conversions, assertions -/

theorem bytesV_get {s : ByteArray} {k : Nat} {v : V} (h : (bytesV s)[k]? = some v) : ∃ (hk : k < s.size), v = .int .u8 (s.data[k]'hk).toNat := by
  unfold bytesV at h
  rw [List.getElem?_map] at h
  obtain ⟨x, hx, rfl⟩ := Option.map_eq_some_iff.1 h
  rw [Array.getElem?_toList] at hx
  obtain ⟨hk, hx⟩ := Array.getElem?_eq_some_iff.1 hx
  exact ⟨hk, by rw [hx]⟩

theorem bytesV_cells (s : ByteArray) : (bytesV s).flatMap V.cells = bytesV s := by
  unfold bytesV
  generalize s.data.toList = l
  induction l with
  | nil => rfl
  | cons x r ih => rw [List.map_cons, List.flatMap_cons, ih]; rfl

theorem bytesV_ok (s : ByteArray) : ∀ x ∈ bytesV s, x.cells.length = 1 ∧ x.cells.all V.okCell = true := by
  intro x hx
  obtain ⟨y, _, rfl⟩ := List.mem_map.1 hx
  exact ⟨rfl, rfl⟩

theorem bytesV_length (s : ByteArray) : (bytesV s).length = s.size := by unfold bytesV; rw [List.length_map]; rfl

theorem bytes_of {bs : Nat → Nat} {I : Nat → Nat → Prop} {n : Nat} {s : ByteArray} {r : Room} {x : Value} (h : VRel bs I w n (.sl (bytesV s) r) x) :
    (x = .slice none 0 0 ∧ s.size = 0) ∨ ∃ b off cap, x = .slice (some ⟨b, off, none⟩) s.size cap ∧ ∀ j (hj : j < s.size), w.cell? ⟨b, off + j, none⟩ = some (.int .u8 (s.data[j]'hj).toNat) := by
  generalize hl : bytesV s = l at h
  cases h with
  | slnil => exact .inl ⟨rfl, by rw [← bytesV_length, hl]; rfl⟩
  | @sl _ _ _ b off len cap sz u hlen hcap hr hz hc hu =>
    subst hl
    rw [bytesV_cells] at hc hu
    rw [bytesV_length] at hlen
    subst hlen
    refine .inr ⟨b, off, cap, rfl, fun j hj => ?_⟩
    have hj' : j < (bytesV s).length := by rw [bytesV_length]; exact hj
    have hg := List.getElem?_eq_getElem hj'
    obtain ⟨h1, _⟩ := hc j _ hg
    have h2 := hu j _ hg
    obtain ⟨_, e⟩ := bytesV_get hg
    rw [e] at h2
    rw [h1]
    generalize u j = y at h2
    cases h2; rfl

theorem sound_convertV {A B : TypeId} {x : Operand} (ho : o.op = .convert A B x) (H : Nexts c a o.dst K KP next Q) (hs : Sim c g w a ⟨t, ob, nt, df⟩) {p : V} (hp : VT g w ob.length nt p (a.eval x))
    (hk : convK S.P A B p fun v => K v ⟨t, ob, nt, df⟩) : o.wp S.P a w next Q := by
  have hr := hp.rel
  unfold convK at hk
  split at hk
  · rename_i hA hB
    generalize hx : a.eval x = e at hr
    cases hr
    refine H.same hs (x := .int _ (IntKind.wrap _ _)) ?_ (.of .int rfl) hk
    simp [execOp, ho, hx, convert, run_underlying hA, run_underlying hB, Conv.intToInt]
  · rename_i hA hB
    generalize hx : a.eval x = e at hr
    cases hr
    refine H.same hs (x := .string _) ?_ (.of .str rfl) hk
    simp [execOp, ho, hx, convert, run_underlying hA, run_underlying hB]
  · rename_i e s hA hB
    split at hk
    case h_2 => exact hk.elim
    rename_i he
    generalize hx : a.eval x = ex at hr
    cases hr
    have hrun := run_bytes_of_string (P := S.P) w A B e s hA hB he
    unfold Oper.wp
    have he' : (execOp a.eval o).run S.P w = .ok (.value (.slice (some ⟨w.heap.size, 0, none⟩) s.size (grownCap w s.size 0 e)))
        (w.drew.alloc (.cells (bytesRow s (grownCap w s.size 0 e)) e ((bytesRow s (grownCap w s.size 0 e)).size, (bytesRow s (grownCap w s.size 0 e)).size + 1))) := by
      simp only [execOp, ho, hx, Sem.run_bind, hrun, Result.andThen_ok]
      rfl
    rw [he']
    have hw1 := hs.wi.drew
    have e1 := Ext.drew g w ob.length nt
    have hw2 := WInv.data hw1 (.cells (bytesRow s (grownCap w s.size 0 e)) e ((bytesRow s (grownCap w s.size 0 e)).size, (bytesRow s (grownCap w s.size 0 e)).size + 1)) s.size
    have e2 := Ext.data hw1 (.cells (bytesRow s (grownCap w s.size 0 e)) e ((bytesRow s (grownCap w s.size 0 e)).size, (bytesRow s (grownCap w s.size 0 e)).size + 1)) s.size
    refine H.val (.sl (bytesV s) .no) _ ⟨t, ob, nt, df⟩ _ _ a hk ⟨hw2, e2.tinv (e1.tinv hs.ti), e2.drel (e1.drel hs.di)⟩ rfl (.of ?_ rfl)
    refine .sl (sz := 1) (fun k => (bytesRow s (grownCap w s.size 0 e)).getD k undef) (bytesV_length s).symm ?_ (by simp) (bytesV_ok s) (fun k v hk => ?_) (fun k v hk => ?_)
    · have : s.size ≤ grownCap w s.size 0 e := by unfold grownCap Question.cut; simp
      exact this
    · rw [bytesV_cells] at hk
      obtain ⟨hlt, _⟩ := bytesV_get hk
      have hsz : k < (bytesRow s (grownCap w s.size 0 e)).size := by
        unfold bytesRow; rw [Array.size_append, Array.size_map]
        have : k < s.data.size := hlt
        omega
      refine ⟨?_, .inr ⟨rfl, by omega⟩⟩
      rw [Nat.zero_add]
      rw [show w.heap.size = w.drew.heap.size from rfl, World.cell?_alloc_mark]
      simp [Array.getD, hsz]
    · rw [bytesV_cells] at hk
      obtain ⟨hlt, rfl⟩ := bytesV_get hk
      have hlt' : k < s.data.size := hlt
      have : (bytesRow s (grownCap w s.size 0 e)).getD k undef = .int .u8 (s.data[k]).toNat := by
        unfold bytesRow
        have h1 : k < (s.data.map (fun b : UInt8 => Value.int .u8 b.toNat) ++ Array.replicate (grownCap w s.size 0 e - s.size) (Value.int .u8 0)).size := by
          rw [Array.size_append, Array.size_map]; omega
        rw [Array.getD, dif_pos h1, Array.getInternal_eq_getElem, Array.getElem_append_left (by rw [Array.size_map]; exact hlt'), Array.getElem_map]
      rw [this]
      exact .int
  · rename_i e l r hA hB
    split at hk
    case h_2 => exact hk.elim
    rename_i he
    obtain ⟨s, rfl, hk⟩ := hk
    have hrun : (convert A B (a.eval x)).run S.P w = .ok (.string s) w := by
      rcases bytes_of hr with ⟨hx, h0⟩ | ⟨b, off, cap, hx, hc⟩
      · rw [hx, run_convert_bytes_nil w A e hA he 0 0 B hB]
        have : s = ByteArray.empty := by
          obtain ⟨d⟩ := s
          have : d = #[] := Array.eq_empty_of_size_eq_zero h0
          subst this; rfl
        rw [this]
      · rw [hx]
        have := run_convert_bytes_back (P := S.P) w A B e ⟨b, off, none⟩ cap s.data.toList hA he hB (fun j hj => by
          rw [Addr.add_mid]
          rw [hc j (by rw [Array.length_toList] at hj; exact hj)]
          simp)
        rw [Array.length_toList] at this
        exact this
    refine H.same hs (x := .string s) ?_ (.of .str rfl) hk
    simp only [execOp, ho, Sem.run_bind, hrun, Result.andThen_ok]
    rfl
  · exact hk.elim

theorem sound_typeAssert {T U : TypeId} {x : Operand} {ok : Bool} (ho : o.op = .typeAssert x U T ok) (H : Nexts c a o.dst K KP next Q) (hs : Sim c g w a ⟨t, ob, nt, df⟩)
    (h : ev t x fun x => match S.P.underlying T with
    | some (.interface _) => False
    | some _ => assertK S.P T ok x fun v => K v ⟨t, ob, nt, df⟩
    | none => False) : o.wp S.P a w next Q := by
  obtain ⟨p, hp, hk0⟩ := ev_sound hs.ti h
  clear h
  have hr := hp.rel
  obtain ⟨d, hu, hd, hk⟩ : ∃ d, S.P.underlying T = some d ∧ (∀ ms, d ≠ .interface ms) ∧ assertK S.P T ok p fun v => K v ⟨t, ob, nt, df⟩ := by
    cases hu : S.P.underlying T with
    | none => rw [hu] at hk0; exact hk0.elim
    | some d =>
      rw [hu] at hk0
      cases d <;> first | exact hk0.elim | exact ⟨_, rfl, by simp, hk0⟩
  clear hk0
  have hz : ∀ {i : TypeInfo} {z : Value}, S.P.info? T = some i → i.zero = some z → (zeroValue T).run S.P w = .ok z w := fun h1 h2 => by simp [zeroValue, typeInfo, h1, h2]
  have htup : ∀ {z : Value} {v : V} {b : Bool}, VRel g.bs g.I w ob.length v z → VRel g.bs g.I w ob.length (.tup [v, .bool b]) (.tuple #[z, .bool b]) := fun hv => .tup rfl fun k v c h1 h2 => by
    match k with
    | 0 => simp at h1 h2; subst h1; subst h2; exact hv
    | 1 => simp at h1 h2; subst h1; subst h2; exact .bool
    | k + 2 => simp at h1
  unfold assertK at hk
  split at hk
  · rename_i T' v
    generalize hx : a.eval x = e at hr
    cases hr with | @ifc _ _ _ y hy =>
    split at hk
    · rename_i hT
      have hT : T' = T := Nat.eq_of_beq_eq_true hT
      subst hT
      simp only [V.untokK, force_eq] at hk
      cases ok with
      | true =>
        refine H.same hs (x := .tuple #[y, .bool true]) ?_ (.of (htup hy.untok) rfl) hk
        simp only [execOp, ho, hx, Instr.typeAssert, Sem.run_bind, run_underlying hu, Result.andThen_ok]
        cases d <;> simp_all
      | false =>
        refine H.same hs (x := y) ?_ (.of hy.untok (untok_noTok _)) hk
        simp only [execOp, ho, hx, Instr.typeAssert, Sem.run_bind, run_underlying hu, Result.andThen_ok]
        cases d <;> simp_all
    · rename_i hT
      have hT : ¬ T' = T := Nat.ne_of_beq_eq_false hT
      cases ok with
      | false => exact hk.elim
      | true =>
        obtain ⟨i, z, h1, h2, hk⟩ := zeroV_iff hk
        refine H.same hs (x := .tuple #[z, .bool false]) ?_ (.of (htup (ofConstAgg_rel z)) rfl) hk
        simp only [execOp, ho, hx, Instr.typeAssert, Sem.run_bind, run_underlying hu, Result.andThen_ok]
        cases d <;> simp_all
  · generalize hx : a.eval x = e at hr
    cases hr
    cases ok with
    | false => exact hk.elim
    | true =>
      obtain ⟨i, z, h1, h2, hk⟩ := zeroV_iff hk
      refine H.same hs (x := .tuple #[z, .bool false]) ?_ (.of (htup (ofConstAgg_rel z)) rfl) hk
      simp only [execOp, ho, hx, Instr.typeAssert, Sem.run_bind, run_underlying hu, Result.andThen_ok]
      cases d <;> simp_all
  · exact hk.elim

end
end VL

namespace VL
open Go
set_option linter.unusedVariables false
set_option linter.unusedSimpArgs false

section
variable {S : Sys} {c : Ctx} {g : G} {w : World} {a : Act} {o : Oper} {K KP : V → St → Prop} {next : Act → World → Prop} {Q : Exit → Act → World → Prop}
  {t : List V} {ob : List VObj} {nt : Nat} {df : List (Fn × List V × List V)}

theorem partsK_sound {g : G} {n nt : Nat} (h : TInv g w n nt a.tmps t) : ∀ {ps : List (Nat × Operand)} {K : List (Nat × V) → Prop}, partsK t ps K →
    ∃ vs : List (Nat × V), vs.length = ps.length ∧ (∀ (k : Nat) v x, vs[k]? = some v → ps[k]? = some x → v.1 = x.1 ∧ VRel g.bs g.I w n v.2 (a.eval x.2) ∧ v.2.noTok = true) ∧ K vs
  | [], K, hk => ⟨[], rfl, by simp, hk⟩
  | (i, x) :: r, K, hk => by
    obtain ⟨v, h1, h2⟩ := ev_sound h hk
    simp only [V.untokK, force_eq] at h2
    obtain ⟨vs, h3, h4, h5⟩ := partsK_sound h h2
    refine ⟨(i, v.untok) :: vs, by simp [h3], fun k u y hu hy => ?_, h5⟩
    cases k with
    | zero => simp at hu hy; subst hu; subst hy; exact ⟨rfl, h1.rel.untok, untok_noTok v⟩
    | succ k => exact h4 k u y (by simpa using hu) (by simpa using hy)

/-- cells laid into cells, one by one -/
theorem foldl_set : ∀ (vs : List Value) (j off : Nat) (cs : Array Value), ((vs.zipIdx j).foldl (fun cs (x : Value × Nat) => cs.setIfInBounds (off + x.2) x.1) cs).size = cs.size ∧
    ∀ k, ((vs.zipIdx j).foldl (fun cs (x : Value × Nat) => cs.setIfInBounds (off + x.2) x.1) cs)[k]? = if off + j ≤ k ∧ k < off + j + vs.length ∧ k < cs.size then vs[k - (off + j)]? else cs[k]?
  | [], j, off, cs => ⟨rfl, fun k => by rw [if_neg (by simp only [List.length_nil]; omega)]; rfl⟩
  | v :: vs, j, off, cs => by
    obtain ⟨h1, h2⟩ := foldl_set vs (j + 1) off (cs.setIfInBounds (off + j) v)
    rw [Array.size_setIfInBounds] at h1 h2
    refine ⟨by rw [List.zipIdx_cons, List.foldl_cons]; exact h1, fun k => ?_⟩
    rw [List.zipIdx_cons, List.foldl_cons, h2 k, List.length_cons]
    by_cases hk : k = off + j
    · subst hk
      rw [if_neg (by omega)]
      rw [Array.getElem?_setIfInBounds]
      by_cases hs : off + j < cs.size
      · rw [if_pos rfl, if_pos hs, if_pos (by omega)]; simp
      · rw [if_pos rfl, if_neg hs, if_neg (by omega)]
        exact (Array.getElem?_eq_none (by omega)).symm
    · rw [Array.getElem?_setIfInBounds, if_neg (Ne.symm hk)]
      by_cases hc : off + (j + 1) ≤ k ∧ k < off + (j + 1) + vs.length ∧ k < cs.size
      · rw [if_pos hc, if_pos (by omega)]
        rw [show k - (off + j) = (k - (off + (j + 1))) + 1 by omega, List.getElem?_cons_succ]
      · rw [if_neg hc, if_neg (by omega)]

/-- cells, and the machine's -/
def CRel (bs : Nat → Nat) (I : Nat → Nat → Prop) (w : World) (n : Nat) (cs : List V) (ca : Array Value) : Prop :=
  cs.length = ca.size ∧ ∀ (k : Nat) v c, cs[k]? = some v → ca[k]? = some c → VRel bs I w n v c

theorem any_cells {bs : Nat → Nat} {I : Nat → Nat → Prop} {n : Nat} {v : V} {x : Value} (h : VRel bs I w n v x) (hv : v ≠ .undef) : CRel bs I w n v.cells x.cells := by
  cases h with
  | undef => exact absurd rfl hv
  | agg hl hh => exact ⟨hl, hh⟩
  | _ => refine ⟨rfl, fun k u y hu hy => ?_⟩; (cases k <;> simp [V.cells, Value.cells] at hu hy); subst hu; subst hy; constructor <;> assumption

theorem fill_sound {bs : Nat → Nat} {I : Nat → Nat → Prop} {n : Nat} {place : Nat → Option (Nat × Nat)} : ∀ {ps : List (Nat × V)} {qs : List (Nat × Value)} {cs : List V} {ca : Array Value} {K : List V → Prop},
    CRel bs I w n cs ca → ps.length = qs.length → (∀ (k : Nat) v x, ps[k]? = some v → qs[k]? = some x → v.1 = x.1 ∧ VRel bs I w n v.2 x.2) → fillK place cs ps K →
    ∃ cs' ca', Instr.fill place ca qs = some ca' ∧ CRel bs I w n cs' ca' ∧ K cs'
  | [], [], cs, ca, K, hc, _, _, hk => ⟨cs, ca, rfl, hc, hk⟩
  | [], _ :: _, _, _, _, _, h, _, _ => by simp at h
  | _ :: _, [], _, _, _, _, h, _, _ => by simp at h
  | (i, v) :: r, (j, x) :: qs, cs, ca, K, hc, hl, hr, hk => by
    obtain ⟨e, hv⟩ := hr 0 _ _ rfl rfl
    simp only at e hv
    subst e
    unfold fillK at hk
    split at hk
    case h_2 => exact hk.elim
    rename_i off size hp
    rw [force_eq] at hk
    split at hk
    case h_2 => exact hk.elim
    rename_i hsz
    simp only [Bool.and_eq_true, beq_iff_eq] at hsz
    obtain ⟨hsz, hok⟩ := hsz
    obtain ⟨hfit, hk⟩ := spliceK_iff hk
    have hvn : v ≠ .undef := by rintro rfl; simp [V.cells, V.okCell] at hok
    obtain ⟨hvl, hvr⟩ := any_cells hv hvn
    have hx : x.cells.size = size := by rw [← hvl, hsz]
    have hcl := hc.1
    unfold Instr.fill
    rw [hp]
    simp only
    rw [if_neg (by simp only [Bool.or_eq_true, decide_eq_true_eq, not_or, ne_eq, Classical.not_not]; omega)]
    have hf := foldl_set x.cells.toList 0 off ca
    have hfold : x.cells.zipIdx.foldl (fun cs (c, j) => cs.setIfInBounds (off + j) c) ca = (x.cells.toList.zipIdx 0).foldl (fun cs (x : Value × Nat) => cs.setIfInBounds (off + x.2) x.1) ca := by
      rw [← Array.foldl_toList, Array.toList_zipIdx]
    rw [hfold]
    refine fill_sound (cs := cs.take off ++ v.cells ++ cs.drop (off + v.cells.length)) ⟨?_, fun k u y hu hy => ?_⟩ (by simpa using hl) (fun k v x h1 h2 => hr (k + 1) v x (by simpa using h1) (by simpa using h2)) hk
    · rw [hf.1]; simp; omega
    · rw [hf.2] at hy
      have hl1 : (cs.take off ++ v.cells).length = off + v.cells.length := by simp; omega
      have hl3 : (cs.take off).length = off := by simp; omega
      rw [List.getElem?_append, hl1] at hu
      rw [Array.length_toList, Nat.add_zero] at hy
      split at hu
      · rename_i hk1
        rw [List.getElem?_append, hl3] at hu
        split at hu
        · rename_i hk2
          rw [if_neg (by omega)] at hy
          rw [List.getElem?_take, if_pos hk2] at hu
          exact hc.2 k u y hu hy
        · rename_i hk2
          rw [if_pos (by omega)] at hy
          exact hvr _ u y hu (by simpa using hy)
      · rename_i hk1
        rw [if_neg (by omega)] at hy
        rw [List.getElem?_drop, show off + v.cells.length + (k - (off + v.cells.length)) = k by omega] at hu
        exact hc.2 k u y hu hy

theorem run_parts {n : Nat} {ps : List (Nat × Operand)} {vs : List (Nat × V)} (hl : vs.length = ps.length)
    (hr : ∀ (k : Nat) v x, vs[k]? = some v → ps[k]? = some x → v.1 = x.1 ∧ VRel g.bs g.I w n v.2 (a.eval x.2) ∧ v.2.noTok = true) :
    ∀ (k : Nat) v x, vs[k]? = some v → (ps.map fun (i, x) => (i, a.eval x))[k]? = some x → v.1 = x.1 ∧ VRel g.bs g.I w n v.2 x.2 := by
  intro k v x h1 h2
  rw [List.getElem?_map] at h2
  obtain ⟨y, hy, rfl⟩ := Option.map_eq_some_iff.1 h2
  exact ⟨(hr k v y h1 hy).1, (hr k v y h1 hy).2.1⟩

theorem agg_cells {bs : Nat → Nat} {I : Nat → Nat → Prop} {n : Nat} (z : Value) : CRel bs I w n (ofConstAgg z).cells z.cells := by
  have h : VRel bs I w n (ofConstAgg z) z := ofConstAgg_rel z
  have one : (∀ cs, z ≠ .agg cs) → CRel bs I w n (ofConstAgg z).cells z.cells := fun hv => by
    have e0 : ofConstAgg z = ofConst z := by cases z <;> first | rfl | exact absurd rfl (hv _)
    have e1 : (ofConst z).cells = [ofConst z] := by unfold ofConst; split <;> rfl
    have e2 : z.cells = #[z] := by cases z <;> first | rfl | exact absurd rfl (hv _)
    rw [e0, e1, e2]
    refine ⟨rfl, fun k u y hu hy => ?_⟩
    cases k with
    | zero => simp at hu hy; subst hu; subst hy; exact ofConst_rel z
    | succ k => simp at hu
  cases z with
  | agg cs => cases h with | agg hl hh => exact ⟨hl, hh⟩
  | _ => exact one (by simp)

theorem sound_build {T : TypeId} {parts : Array (Nat × Operand)} (ho : o.op = .build T parts) (H : Nexts c a o.dst K KP next Q) (hs : Sim c g w a ⟨t, ob, nt, df⟩)
    (h : partsK t parts.toList fun ps => buildK S.P T ps fun v => K v ⟨t, ob, nt, df⟩) : o.wp S.P a w next Q := by
  obtain ⟨ps, hl, hr, hk⟩ := partsK_sound hs.ti h
  unfold buildK at hk
  obtain ⟨i, z, hi, hz, hk⟩ := zeroV_iff hk
  have hrp := run_parts hl hr
  have key : ∀ {place : Nat → Option (Nat × Nat)}, fillK place (ofConstAgg z).cells ps (fun cs => K (.agg cs) ⟨t, ob, nt, df⟩) → (∀ ca, Instr.fill place z.cells (parts.toList.map fun (i, x) => (i, a.eval x)) = some ca → S.P.built T (parts.toList.map fun (i, x) => (i, a.eval x)) = some ca) →
      o.wp S.P a w next Q := fun hk hb => by
    obtain ⟨cs, ca, h1, h2, h3⟩ := fill_sound (agg_cells z) (by simp [hl]) hrp hk
    have hrun := run_build (P := S.P) w T (parts.map fun (i, x) => (i, a.eval x)) ca (by rw [Array.toList_map]; exact hb ca h1)
    refine H.same hs (x := .agg ca) ?_ (.of (.agg h2.1 h2.2) rfl) h3
    simp only [execOp, ho, Sem.run_bind, hrun, Result.andThen_ok]
    rfl
  split at hk
  · rename_i fs hu
    split at hk
    case h_2 => exact hk.elim
    rename_i hall
    have hex : ∃ places : List (Nat × Nat), fs.toList.mapM (fun f : Field => (S.P.info? f.type).map fun i => (f.offset, i.size)) = some places ∧ ∀ i : Nat, places[i]? = (fs.toList[i]?).map fun f : Field => (f.offset, szOf S.P f.type) := by
      generalize fs.toList = l at hall
      clear hk hu
      induction l with
      | nil => exact ⟨[], rfl, by simp⟩
      | cons f r ih =>
        simp only [List.all_cons, Bool.and_eq_true] at hall
        obtain ⟨inf, hinf⟩ := Option.isSome_iff_exists.1 hall.1
        obtain ⟨p, hp, hg⟩ := ih hall.2
        refine ⟨(f.offset, inf.size) :: p, ?_, fun i => ?_⟩
        · rw [List.mapM_cons]; simp [hinf, hp]
        · cases i with
          | zero => simp [szOf, hinf]
          | succ i => simpa using hg i
    obtain ⟨places, hp, hg⟩ := hex
    refine key hk fun ca hf => ?_
    unfold Program.built
    rw [hi, hu]
    simp only [hz, hp]
    rw [← hf]
    congr 1
    funext i
    rw [List.getElem?_toArray]
    exact hg i
  · rename_i n e hu
    split at hk
    case h_2 => exact hk.elim
    rename_i he
    obtain ⟨inf, hinf⟩ := Option.isSome_iff_exists.1 he
    refine key hk fun ca hf => ?_
    unfold Program.built
    rw [hi, hu]
    simp only [hz, hinf]
    rw [← hf, szOf_info hinf]
  · exact hk.elim

theorem inOrder_len : ∀ {ps : List (Nat × V)} {i : Nat} {l : List V}, inOrder i ps = some l → ps.length = l.length
  | [], i, l, h => by simp [inOrder] at h; subst h; rfl
  | (j, v) :: r, i, l, h => by
    simp only [inOrder] at h
    split at h
    · obtain ⟨l', hl', rfl⟩ := Option.map_eq_some_iff.1 h
      simp [inOrder_len hl']
    · cases h

theorem sizesOk_get {n : Nat} : ∀ {l : List V}, sizesOk n l = true → ∀ x ∈ l, x.cells.length = n ∧ x.cells.all V.okCell = true ∧ x.tokOk = true
  | [], _, x, hx => by simp at hx
  | v :: r, h, x, hx => by
    simp only [sizesOk, Bool.and_eq_true, beq_iff_eq] at h
    cases hx with
    | head => exact ⟨h.1.1.1, h.1.1.2, h.1.2⟩
    | tail _ hx => exact sizesOk_get h.2 x hx

theorem fill_row {bs : Nat → Nat} {I : Nat → Nat → Prop} {n size : Nat} : ∀ {ps : List (Nat × V)} {qs : List (Nat × Value)} {i : Nat} {l : List V} {ca : Array Value},
    inOrder i ps = some l → ps.length = qs.length → (∀ (k : Nat) v x, ps[k]? = some v → qs[k]? = some x → v.1 = x.1 ∧ VRel bs I w n v.2 x.2) →
    (∀ x ∈ l, x.cells.length = size ∧ x.cells.all V.okCell = true ∧ x.tokOk = true) → (i + ps.length) * size ≤ ca.size →
    ∃ ca', Instr.fill (fun i => some (i * size, size)) ca qs = some ca' ∧ ca'.size = ca.size ∧ (∀ k, k < i * size → ca'[k]? = ca[k]?) ∧ l.length = ps.length ∧
      ∀ (k : Nat) v c, (l.flatMap V.cells)[k]? = some v → ca'[i * size + k]? = some c → VRel bs I w n v c
  | [], [], i, l, ca, hi, _, _, _, _ => by
    simp [inOrder] at hi; subst hi
    exact ⟨ca, rfl, rfl, fun _ _ => rfl, rfl, by simp⟩
  | [], _ :: _, _, _, _, _, h, _, _, _ => by simp at h
  | _ :: _, [], _, _, _, _, h, _, _, _ => by simp at h
  | (j, v) :: r, (j', x) :: qs, i, l, ca, hi, hl, hr, hz, hfit => by
    obtain ⟨e, hv⟩ := hr 0 _ _ rfl rfl
    simp only at e hv
    subst e
    simp only [inOrder] at hi
    split at hi
    case isFalse => cases hi
    rename_i hij
    subst hij
    obtain ⟨l', hl', rfl⟩ := Option.map_eq_some_iff.1 hi
    obtain ⟨hsz, hok, _⟩ := hz v (by simp)
    have hvn : v ≠ .undef := by rintro rfl; simp [V.cells, V.okCell] at hok
    obtain ⟨hvl, hvr⟩ := any_cells hv hvn
    have hx : x.cells.size = size := by rw [← hvl, hsz]
    simp only [List.length_cons] at hfit hl
    have hmul : (i + (r.length + 1)) * size = i * size + size + r.length * size := by rw [Nat.add_mul, Nat.add_mul]; omega
    have hf := foldl_set x.cells.toList 0 (i * size) ca
    have hfold : x.cells.zipIdx.foldl (fun cs (c, j) => cs.setIfInBounds (i * size + j) c) ca = (x.cells.toList.zipIdx 0).foldl (fun cs (x : Value × Nat) => cs.setIfInBounds (i * size + x.2) x.1) ca := by
      rw [← Array.foldl_toList, Array.toList_zipIdx]
    obtain ⟨ca', h1, h2, h3, h4, h5⟩ := fill_row (qs := qs) (ca := (x.cells.toList.zipIdx 0).foldl (fun cs (x : Value × Nat) => cs.setIfInBounds (i * size + x.2) x.1) ca) hl' (by omega)
      (fun k v x g1 g2 => hr (k + 1) v x (by simpa using g1) (by simpa using g2)) (fun x hx => hz x (by simp [hx])) (by rw [hf.1, Nat.add_mul, Nat.succ_mul]; omega)
    refine ⟨ca', ?_, by rw [h2, hf.1], fun k hk => ?_, by simp [h4], fun k u c hu hc => ?_⟩
    · unfold Instr.fill
      simp only
      rw [if_neg (by simp only [Bool.or_eq_true, decide_eq_true_eq, not_or, ne_eq, Classical.not_not]; omega), hfold]
      exact h1
    · rw [h3 k (by rw [Nat.succ_mul]; omega), hf.2, if_neg (by omega)]
    · rw [List.flatMap_cons, List.getElem?_append, hsz] at hu
      split at hu
      · rename_i hks
        rw [h3 _ (by rw [Nat.succ_mul]; omega), hf.2, Array.length_toList, if_pos (by omega)] at hc
        rw [show i * size + k - (i * size + 0) = k by omega] at hc
        exact hvr k u c hu (by simpa using hc)
      · rename_i hks
        refine h5 (k - size) u c hu ?_
        rwa [Nat.succ_mul, show i * size + size + (k - size) = i * size + k by omega]

theorem sound_buildSlice {T : TypeId} {n : Nat} {parts : Array (Nat × Operand)} (ho : o.op = .buildSlice T n parts) (H : Nexts c a o.dst K KP next Q) (hs : Sim c g w a ⟨t, ob, nt, df⟩)
    (h : partsK t parts.toList fun ps => match inOrder 0 ps with
    | some l => match l.length == n && sizesOk (szOf S.P (elemT S.P T)) l with
      | true => szK S.P (elemT S.P T) fun z => match Nat.blt 16777216 (n * z), (S.P.info? (elemT S.P T)).bind (·.zero) with
        | false, some zv => (match zv.cells.size == z with
          | true => (match S.P.underlying T, S.P.underlying (elemT S.P T) with
            | some (.slice _), some (.func ..) => K (.slp l) ⟨t, ob, nt, df⟩
            | some (.slice _), some (.pointer _) => K (.slp l) ⟨t, ob, nt, df⟩
            | some (.slice _), _ => (match V.lowL 0 l with | true => K (.sl l .ex) ⟨t, ob, nt, df⟩ | false => False)
            | _, _ => False)
          | false => False)
        | _, _ => False
      | false => False
    | none => False) : o.wp S.P a w next Q := by
  obtain ⟨ps, hl, hr, hk⟩ := partsK_sound hs.ti h
  clear h
  split at hk
  case h_2 => exact hk.elim
  rename_i l hio
  split at hk
  case h_2 => exact hk.elim
  rename_i hck
  simp only [Bool.and_eq_true, beq_iff_eq] at hck
  obtain ⟨hln, hsz⟩ := hck
  obtain ⟨inf, hinf, hpos, hk⟩ := szK_iff hk
  split at hk
  case h_2 => exact hk.elim
  rename_i zv hb hzv
  have hb : ¬ 16777216 < n * inf.size := by
    intro e
    have : Nat.blt 16777216 (n * inf.size) = true := by rw [Nat.blt_eq]; exact e
    rw [this] at hb; cases hb
  split at hk
  case h_2 => exact hk.elim
  rename_i hzs
  have hzs : zv.cells.size = inf.size := by simpa using hzs
  rw [szOf_info hinf] at hsz
  have hzz := sizesOk_get hsz
  have hzero : inf.zero = some zv := by simpa [hinf] using hzv
  have main : ∀ {e : TypeId}, S.P.underlying T = some (.slice e) → ∃ cells : Array Value, (execOp a.eval o).run S.P w = .ok (.value (.slice (some ⟨w.heap.size, 0, none⟩) n n)) (w.alloc (.cells cells e)) ∧ cells.size = n * inf.size ∧
      (∀ (k : Nat) v c, (l.flatMap V.cells)[k]? = some v → cells[k]? = some c → VRel g.bs g.I w ob.length v c) ∧ l.length = n := fun {e} hu => by
    have he : elemT S.P T = e := by simp [elemT, hu]
    rw [he] at hinf
    have hpl : ps.length = l.length := inOrder_len hio
    have hbase : ((Array.range (n * inf.size)).map (zv.cells[· % zv.cells.size]!)).size = n * inf.size := by simp
    obtain ⟨ca, h1, h2, h3, h4, h5⟩ := fill_row (w := w) (bs := g.bs) (I := g.I) (n := ob.length) (size := inf.size) (ca := (Array.range (n * inf.size)).map (zv.cells[· % zv.cells.size]!)) hio
      (qs := parts.toList.map fun (i, x) => (i, a.eval x)) (by simp [hl]) (run_parts hl hr) hzz (by rw [hbase, Nat.zero_add, hpl, hln]; exact Nat.le_refl _)
    refine ⟨ca, ?_, by rw [h2, hbase], fun k v c hv hc => h5 k v c hv (by simpa using hc), hln⟩
    simp only [execOp, ho, Instr.buildSlice, Sem.run_bind, run_underlying hu, Result.andThen_ok, run_size hinf]
    rw [if_neg hb]
    by_cases h0 : n * inf.size = 0
    · have hca : ca = #[] := Array.eq_empty_of_size_eq_zero (by rw [h2, hbase, h0])
      rw [h0] at h1
      simp only [h0, if_true, Sem.run_pure, Result.andThen_ok]
      have h1' : Instr.fill (fun i => some (i * inf.size, inf.size)) ((Array.range 0).map fun x => (#[] : Array Value)[x % (#[] : Array Value).size]!) (parts.map fun (i, x) => (i, a.eval x)).toList = some ca := by
        rw [Array.toList_map]
        have e0 : ∀ f : Nat → Value, (Array.range 0).map f = #[] := fun f => by simp [Array.range]
        rw [e0] at h1 ⊢
        exact h1
      simp only [h1', newRow, Sem.run_bind, run_newObj_alloc, Result.andThen_ok, Sem.run_pure]
    · have hzr : (zeroValue e).run S.P w = .ok zv w := by simp [zeroValue, typeInfo, hinf, hzero]
      have h1' : Instr.fill (fun i => some (i * inf.size, inf.size)) ((Array.range (n * inf.size)).map fun x => zv.cells[x % zv.cells.size]!) (parts.map fun (i, x) => (i, a.eval x)).toList = some ca := by
        rw [Array.toList_map]; exact h1
      simp only [h0, if_false, Sem.run_bind, hzr, Sem.run_pure, Result.andThen_ok, h1', newRow, run_newObj_alloc]
  have fin : ∀ {e : TypeId} {v : V}, S.P.underlying T = some (.slice e) → (∀ (cells : Array Value), cells.size = n * inf.size → (∀ (k : Nat) v c, (l.flatMap V.cells)[k]? = some v → cells[k]? = some c → VRel g.bs g.I w ob.length v c) → l.length = n →
      VRel g.bs (g.data w.heap.size (n * inf.size)).I (w.alloc (.cells cells e)) ob.length v (.slice (some ⟨w.heap.size, 0, none⟩) n n)) → v.noTok = true → K v ⟨t, ob, nt, df⟩ → o.wp S.P a w next Q := fun {e v} hu hv hnt hk => by
    obtain ⟨cells, hrun, h1, h2, h3⟩ := main hu
    unfold Oper.wp
    rw [hrun]
    have hw := WInv.data hs.wi (.cells cells e) (n * inf.size)
    have he := Ext.data hs.wi (.cells cells e) (n * inf.size)
    exact H.val v _ _ _ _ a hk ⟨hw, he.tinv hs.ti, he.drel hs.di⟩ rfl (.of (hv cells h1 h2 h3) hnt)
  have hcell : ∀ (cells : Array Value) (e : TypeId), cells.size = n * inf.size → l.length = n → ∀ (k : Nat) v, (l.flatMap V.cells)[k]? = some v →
      (w.alloc (.cells cells e)).cell? ⟨w.heap.size, 0 + k, none⟩ = some (cells.getD k undef) ∧ (g.data w.heap.size (n * inf.size)).I w.heap.size (0 + k) := fun cells e h1 h3 k v hk => by
    have hlt : k < n * inf.size := by
      have := (List.getElem?_eq_some_iff.1 hk).1
      rwa [flat_len (fun x hx => (hzz x hx).1), h3] at this
    rw [Nat.zero_add]
    refine ⟨?_, .inr ⟨rfl, hlt⟩⟩
    rw [World.cell?_alloc_new]
    simp [Array.getD, h1, hlt]
  have hslp : ∀ {e : TypeId}, S.P.underlying T = some (.slice e) → K (.slp l) ⟨t, ob, nt, df⟩ → o.wp S.P a w next Q := fun {e} hu hk => by
    refine fin hu (fun cells h1 h2 h3 => ?_) rfl hk
    have he := Ext.data hs.wi (.cells cells e) (n * inf.size)
    refine .slp (sz := inf.size) (fun k => cells.getD k undef) h3.symm (Nat.le_refl _) (fun x hx => ⟨(hzz x hx).1, (hzz x hx).2.1⟩) (hcell cells e h1 h3) (fun k v hk => ?_)
    have hlt : k < cells.size := by
      have := (List.getElem?_eq_some_iff.1 hk).1
      rwa [flat_len (fun x hx => (hzz x hx).1), h3, ← h1] at this
    have : cells.getD k undef = cells[k] := by simp [Array.getD, hlt]
    rw [this]
    exact he.reln (h2 k v _ hk (by simp [hlt]))
  split at hk
  · rename_i hu _; exact hslp hu hk
  · rename_i hu _; exact hslp hu hk
  · rename_i hu _ _
    split at hk
    case h_2 => exact hk.elim
    rename_i hlow
    obtain ⟨e', hu'⟩ : ∃ e', S.P.underlying T = some (.slice e') := ⟨_, hu⟩
    refine fin hu' (fun cells h1 h2 h3 => ?_) rfl hk
    have he := Ext.data hs.wi (.cells cells e') (n * inf.size)
    refine .sl (sz := inf.size) (fun k => cells.getD k undef) h3.symm (Nat.le_refl _) (fun _ => rfl) (fun x hx => ⟨(hzz x hx).1, (hzz x hx).2.1⟩) (hcell cells e' h1 h3) (fun k v hk => ?_)
    have hlt : k < cells.size := by
      have := (List.getElem?_eq_some_iff.1 hk).1
      rwa [flat_len (fun x hx => (hzz x hx).1), h3, ← h1] at this
    have : cells.getD k undef = cells[k] := by simp [Array.getD, hlt]
    rw [this]
    exact (he.reln (h2 k v _ hk (by simp [hlt]))).low (flat_low hlow hk)
  · exact hk.elim

end
end VL

namespace VL
open Go
set_option linter.unusedVariables false
set_option linter.unusedSimpArgs false

section
variable {P : Program} {w : World}

theorem srcOk_cases {ts : Array TypeId} (h : srcOk P ts = true) : ts[1]? = none ∨ ∃ u d, ts[1]? = some u ∧ P.underlying u = some d ∧ ∀ k, d ≠ .int k := by
  unfold srcOk at h
  split at h
  · exact .inl (by assumption)
  · rename_i u e
    split at h
    · cases h
    · rename_i d h1 h2
      exact .inr ⟨u, _, e, h2, fun k hk => h1 k (by rw [hk])⟩
    · cases h

theorem append_one {ts : Array TypeId} {T ty : TypeId} {args : Array Value} (h0 : ts[0]? = some T) (hs : srcOk P ts = true) :
    (Builtin.append_ ts ty args).run P w = (Builtin.append_ #[T] ty args).run P w := by
  rcases srcOk_cases hs with h2 | ⟨u, d, h2, hu2, hd⟩
  · unfold Builtin.append_
    rw [h0, h2]
    rfl
  · have hm : ∀ w', (Go.underlying u).run P w' = .ok d w' := fun w' => run_underlying hu2 w'
    unfold Builtin.append_
    rw [h0, h2]
    have e1 : (#[T] : Array TypeId)[0]? = some T := rfl
    have e2 : (#[T] : Array TypeId)[1]? = none := rfl
    rw [e1, e2]
    cases args[0]? with
    | none => rfl
    | some s =>
      cases args[1]? with
      | none => rfl
      | some x =>
        simp only [Sem.run_bind]
        congr 1
        funext el w1
        cases el <;> first | rfl | skip
        cases s <;> first | rfl | skip
        all_goals simp only [Sem.run_bind]
        all_goals congr 1
        all_goals funext sz w2
        all_goals simp only [Sem.run_bind, hm, Result.andThen_ok, Sem.run_pure]
        all_goals (cases d <;> first | rfl | exact absurd rfl (hd _))

theorem run_append_room' {ts : Array TypeId} {T e ty : TypeId} {inf : TypeInfo} (h0 : ts[0]? = some T) (hs : srcOk P ts = true) (hu : P.underlying T = some (.slice e)) (hi : P.info? e = some inf) {b off len cap m : Nat} {x : Value}
    (hlen : (Builtin.lenOf x).run P w = .ok m w) {news : List Value} (hf : (Builtin.firstCells inf.size m x).run P w = .ok news.toArray w) (hfit : len + m ≤ cap) {arr : Array Value} {U : TypeId} (hh : w.heap[b]? = some (.cells arr U (0, 0)))
    (hl : off + len * inf.size + news.length ≤ arr.size) (h1 : ∀ y ∈ news, y.oneCell' = true) :
    (Builtin.append_ ts ty #[.slice (some ⟨b, off, none⟩) len cap, x]).run P w =
      .ok (.slice (some ⟨b, off, none⟩) (len + m) cap) (w.setRow b (arr.toList.take (off + len * inf.size) ++ news ++ arr.toList.drop (off + len * inf.size + news.length)).toArray) := by
  have hst := run_storeCells_at (P := P) b (off + len * inf.size) U news 0 arr w hh (by simpa using hl) h1
  simp only [Nat.add_zero] at hst
  have hsz : (Go.sizeOf e).run P w = .ok inf.size w := run_size hi
  rw [append_one h0 hs]
  simp [Builtin.append_, run_underlying hu, hsz, hlen, hfit, hf, Addr.add_mid, hst]

theorem run_append_nil' {ts : Array TypeId} {T e ty : TypeId} {inf : TypeInfo} (h0 : ts[0]? = some T) (hs : srcOk P ts = true) (hu : P.underlying T = some (.slice e)) (hi : P.info? e = some inf) {x : Value}
    (hlen : (Builtin.lenOf x).run P w = .ok 0 w) {news : Array Value} (hf : (Builtin.firstCells inf.size 0 x).run P w = .ok news w) :
    (Builtin.append_ ts ty #[.slice none 0 0, x]).run P w = .ok (.slice none 0 0) w := by
  have hsz : (Go.sizeOf e).run P w = .ok inf.size w := run_size hi
  rw [append_one h0 hs]
  simp [Builtin.append_, run_underlying hu, hsz, hlen, hf]

theorem run_append_grow' {ts : Array TypeId} {T e ty : TypeId} {inf : TypeInfo} {z : Value} (h0 : ts[0]? = some T) (hs : srcOk P ts = true) (hu : P.underlying T = some (.slice e)) (hi : P.info? e = some inf) (hz : inf.zero = some z)
    {base : Option Addr} {len cap m : Nat} {x : Value} (hlen : (Builtin.lenOf x).run P w = .ok m w) {olds news : List Value} (ho : (Builtin.firstCells inf.size len (.slice base len cap)).run P w.drew = .ok olds.toArray w.drew)
    (hf : (Builtin.firstCells inf.size m x).run P w.drew = .ok news.toArray w.drew) (hgrow : cap < len + m) (h63 : ((len + m : Nat) : Int) ≤ 9223372036854775807) (hfit : (len + m) * inf.bytes ≤ 140737488355328) :
    (Builtin.append_ ts ty #[.slice base len cap, x]).run P w = .ok (.slice (some ⟨w.heap.size, 0, none⟩) (len + m) (grownCap w (len + m) cap e))
      (w.drew.alloc (.cells (olds.toArray ++ news.toArray ++ Builtin.zeroCells z.cells (grownCap w (len + m) cap e - (len + m))) e)) := by
  have hsz : (Go.sizeOf e).run P w = .ok inf.size w := run_size hi
  have hn : ¬ (len + m ≤ cap) := by omega
  have h63' : ¬ (9223372036854775807 < ((len : Int) + (m : Int))) := by omega
  have h48 := growslice_fits (bytes := inf.bytes) hgrow hfit
  have h48' : ¬ (281474976710656 < Builtin.nextslicecap (len + m) cap * inf.bytes) := by omega
  rw [append_one h0 hs]
  simp [Builtin.append_, run_underlying hu, hsz, typeInfo, zeroValue, hi, hz, hlen, hn, h63', h48', Question.forced, hf, ho, newRow, grownCap]
  congr 2
  apply Array.ext'
  simp [List.append_assoc]

end
end VL

namespace VL
open Go
set_option linter.unusedVariables false
set_option linter.unusedSimpArgs false

section
variable {P : Program} {c : Ctx} {g : G} {w : World} {a : Act} {t : List V} {ob : List VObj} {nt : Nat} {df : List (Fn × List V × List V)}

theorem TInv.claim {n i : Nat} {tm : Array Value} (h : TInv g w n nt tm t) (hf : ∀ v ∈ t, V.free i v) (f : Fam) : TInv (g.claim i f) w n nt tm t :=
  ⟨h.size, fun k v x hv hx => (h.rel k v x hv hx).claim (hf v (List.mem_of_getElem? hv)) f, h.gl⟩

theorem DRel.same {g' : G} {n : Nat} {ds : List Deferred} (h : DRel g w n ds df) (h1 : g'.bs = g.bs) (h2 : g'.I = g.I) : DRel g' w n ds df := by
  induction h with
  | nil => exact .nil
  | cons h _ ih =>
    obtain ⟨cap, a1, a2, a3, a4, a5⟩ := h
    exact .cons ⟨cap, a1, a2, a3, fun k v c hv hc => by rw [h1, h2]; exact a4 k v c hv hc, fun k v c hv hc => by rw [h1, h2]; exact a5 k v c hv hc⟩ ih

/-- the cells of what is appended -/
structure Src (P : Program) (g : G) (w : World) (z : Nat) (x : Value) (m : List V) (news : List Value) : Prop where
  len : ∀ w', (Builtin.lenOf x).run P w' = .ok m.length w'
  first : ∀ w' : World, w'.heap = w.heap → ∀ k, k ≤ m.length → (Builtin.firstCells z k x).run P w' = .ok (news.take (k * z)).toArray w'
  size : news.length = m.length * z
  one : ∀ y ∈ news, y.oneCell' = true
  rel : ∀ (k : Nat) v y, (m.flatMap V.cells)[k]? = some v → news[k]? = some y → VRel g.bs g.I w 0 v y
  ok : ∀ x ∈ m, x.cells.length = z ∧ x.cells.all V.okCell = true

theorem Src.cells {P : Program} {g : G} {w : World} {z : Nat} {x : Value} {m : List V} {news : List Value} (h : Src P g w z x m news) (w' : World) (hw' : w'.heap = w.heap) : (Builtin.firstCells z m.length x).run P w' = .ok news.toArray w' := by
  have := h.first w' hw' m.length (Nat.le_refl _)
  rwa [← h.size, List.take_length] at this

theorem src_slice {n z : Nat} {m : List V} {r : Room} {x : Value} (h : VRel g.bs g.I w n (.sl m r) x) (hz : ∀ y ∈ m, y.cells.length = z) : ∃ news, Src P g w z x m news := by
  cases h with
  | slnil => exact ⟨[], fun _ => rfl, fun w' _ k hk => by simp [Builtin.firstCells], by simp, by simp, by simp, by simp⟩
  | @sl _ _ _ b off len cap sz u hl hcap hr hok hc hu =>
    have hlen := flat_len hz
    have hflat : ∀ k, k < (m.flatMap V.cells).length → ∃ v, (m.flatMap V.cells)[k]? = some v := fun k hk => ⟨_, List.getElem?_eq_getElem hk⟩
    refine ⟨(List.range (m.length * z)).map u, fun w' => by simp [Builtin.lenOf, hl], fun w' hw' k hk => ?_, by simp, fun y hy => ?_, fun k v y hv hy => ?_, fun x hx => ⟨hz x hx, (hok x hx).2⟩⟩
    · refine run_firstCells_some (P := P) w' z k ⟨b, off, none⟩ len cap _ (by simp [List.length_take]; first | exact Nat.min_eq_left (Nat.mul_le_mul_right z hk) | rw [Nat.min_eq_left hk]) fun j v hj => ?_
      rw [List.getElem?_take] at hj
      split at hj
      case isFalse => cases hj
      rename_i hjk
      have hlt : j < m.length * z := Nat.lt_of_lt_of_le hjk (Nat.mul_le_mul_right z hk)
      obtain ⟨v', hv'⟩ := hflat j (by rw [hlen]; exact hlt)
      rw [List.getElem?_map, List.getElem?_range hlt] at hj
      cases hj
      rw [Addr.add_mid]
      have := (hc j v' hv').1
      simpa [World.cell?, hw'] using this
    · obtain ⟨k, hk, rfl⟩ := List.mem_map.1 hy
      have hlt : k < m.length * z := by simpa using hk
      obtain ⟨v', hv'⟩ := hflat k (by rw [hlen]; exact hlt)
      obtain ⟨x', hx', hvx⟩ := List.mem_flatMap.1 (List.mem_of_getElem? hv')
      exact (hu k v' hv').oneCell (List.all_eq_true.1 (hok x' hx').2 v' hvx)
    · have hlt : k < m.length * z := by have := (List.getElem?_eq_some_iff.1 hy).1; simpa using this
      rw [List.getElem?_map, List.getElem?_range hlt] at hy
      cases hy
      exact hu k v hv

theorem src_string (s : ByteArray) : ∃ news, Src P g w 1 (.string s) (bytesV s) news := by
  refine ⟨Lib.strCells s, fun w' => by rw [bytesV_length]; rfl, fun w' _ k hk => ?_, ?_, Lib.strCells_oneCell s, fun k v y hv hy => ?_, bytesV_ok s⟩
  · rw [bytesV_length] at hk
    show Result.ok ((s.extract 0 k).data.map fun b => Value.int .u8 b.toNat) w' = _
    congr 1
    apply Array.ext'
    simp only [Array.toList_map, Nat.mul_one, Lib.strCells, List.take_toArray, List.map_take]
    rw [← List.map_take]
    congr 1
    rw [ByteArray.data_extract]; simp
  · rw [bytesV_length, Nat.mul_one]; exact Lib.strCells_length s
  · rw [bytesV_cells] at hv
    obtain ⟨hlt, rfl⟩ := bytesV_get hv
    unfold Lib.strCells at hy
    rw [List.getElem?_map] at hy
    obtain ⟨b, hb, rfl⟩ := Option.map_eq_some_iff.1 hy
    rw [Array.getElem?_toList] at hb
    obtain ⟨_, hb⟩ := Array.getElem?_eq_some_iff.1 hb
    rw [← hb]
    exact .int

theorem run_append_zero {ts : Array TypeId} {T e ty : TypeId} {inf : TypeInfo} (h0 : ts[0]? = some T) (hs : srcOk P ts = true) (hu : P.underlying T = some (.slice e)) (hi : P.info? e = some inf) {base : Option Addr} {len cap : Nat} {x : Value}
    (hlen : (Builtin.lenOf x).run P w = .ok 0 w) (hf : (Builtin.firstCells inf.size 0 x).run P w = .ok #[] w) (hfit : len ≤ cap) :
    (Builtin.append_ ts ty #[.slice base len cap, x]).run P w = .ok (.slice base len cap) w := by
  have hsz : (Go.sizeOf e).run P w = .ok inf.size w := run_size hi
  rw [append_one h0 hs]
  cases base <;> simp [Builtin.append_, run_underlying hu, hsz, hlen, hf, hfit, storeCells]

/-- append, where the slice's room is claim i, and nothing else holds that claim -/
theorem append_tok {ts : Array TypeId} {T e ty : TypeId} {inf : TypeInfo} {zv : Value} (h0 : ts[0]? = some T) (hso : srcOk P ts = true) (hu : P.underlying T = some (.slice e)) (hi : P.info? e = some inf) (hz : inf.zero = some zv) (hzs : zv.cells.size = inf.size)
    (hpos : 0 < inf.size) (hby : 0 < inf.bytes) (hs : Sim c g w a ⟨t, ob, nt, df⟩) {i : Nat} (hnt : i < nt) (hft : ∀ v ∈ t, V.free i v) (hfo : freeO i ob) {l m : List V} {base : Option Addr} {len cap : Nat} {x : Value} {news : List Value}
    (hl : VRel g.bs g.I w ob.length (.sl l .no) (.slice base len cap)) (hlz : ∀ y ∈ l, y.cells.length = inf.size)
    (hroom : cap = len ∨ ∃ off, base = some ⟨(g.fam i).blk, off, none⟩ ∧ off + len * inf.size = (g.fam i).st ∧ (cap - len) * inf.size ≤ (g.fam i).n)
    (hsrc : Src P g w inf.size x m news) (hfit : (l.length + m.length) * inf.bytes ≤ 140737488355328) :
    ∃ x' w' g', (Builtin.append_ ts ty #[.slice base len cap, x]).run P w = .ok x' w' ∧ Sim c g' w' a ⟨t, ob, nt, df⟩ ∧ VT g' w' ob.length nt (.sl (l ++ m) (.tok i inf.size)) x' := by
  have hlen : len = l.length := by cases hl <;> first | rfl | assumption
  have hcap : len ≤ cap := by cases hl <;> first | exact Nat.le_refl _ | assumption
  have hallz : ∀ y ∈ l ++ m, y.cells.length = inf.size := fun y hy => by
    rcases List.mem_append.1 hy with h | h
    · exact hlz y h
    · exact (hsrc.ok y h).1
  have hall : ∀ y ∈ l ++ m, y.cells.length = inf.size ∧ y.cells.all V.okCell = true := fun y hy => by
    rcases List.mem_append.1 hy with h | h
    · cases hl with
      | slnil => simp at h
      | sl u _ _ _ hok _ _ => exact ⟨hlz y h, (hok y h).2⟩
    · exact hsrc.ok y h
  have hfl : (l.flatMap V.cells).length = len * inf.size := by rw [flat_len hlz, hlen]
  by_cases hm : m = []
  · -- nothing is appended
    subst hm
    have hf0 : (Builtin.firstCells inf.size 0 x).run P w = .ok #[] w := by
      have := hsrc.cells w rfl
      have hn : news = [] := List.eq_nil_of_length_eq_zero (by rw [hsrc.size]; simp)
      rw [hn] at this; exact this
    refine ⟨_, w, g, run_append_zero h0 hso hu hi (hsrc.len w) hf0 hcap, hs, ⟨?_, ?_⟩⟩
    · rw [List.append_nil]; exact hl.room _ (by simp)
    · rw [List.append_nil]
      exact ⟨hnt, hpos, hlz, _, _, _, rfl, hroom⟩
  · have hmpos : 0 < m.length := List.length_pos_iff.2 hm
    have hneed : len + m.length ≤ 140737488355328 := by
      rw [hlen]
      exact Nat.le_trans (Nat.le_mul_of_pos_right _ hby) hfit
    by_cases hgrow : cap < len + m.length
    · -- a new row
      have hold : ∃ olds : List Value, olds.length = len * inf.size ∧ (Builtin.firstCells inf.size len (.slice base len cap)).run P w.drew = .ok olds.toArray w.drew ∧
          ∀ (k : Nat) v y, (l.flatMap V.cells)[k]? = some v → olds[k]? = some y → VRel g.bs g.I w 0 v y := by
        obtain ⟨olds, ho⟩ := src_slice (P := P) hl hlz
        refine ⟨olds, by rw [ho.size, hlen], ?_, ho.rel⟩
        have := ho.cells w.drew rfl
        rwa [← hlen] at this
      obtain ⟨olds, ho1, ho2, ho3⟩ := hold
      have hrun := run_append_grow' (ty := ty) h0 hso hu hi hz (hsrc.len w) ho2 (hsrc.cells w.drew rfl) hgrow (by omega) (by rw [hlen]; exact hfit)
      generalize hnc : grownCap w (len + m.length) cap e = nc at hrun
      have hncge : len + m.length ≤ nc := by rw [← hnc]; exact grownCap_ge w _ _ e
      generalize hrow : olds.toArray ++ news.toArray ++ Builtin.zeroCells zv.cells (nc - (len + m.length)) = row at hrun
      have hrowsz : row.size = nc * inf.size := by
        rw [← hrow]
        simp only [Array.size_append, List.size_toArray, ho1, hsrc.size, size_zeroCells, hzs]
        rw [← Nat.add_mul, ← Nat.add_mul]; congr 1; omega
      have hw1 := hs.wi.drew
      have e1 := Ext.drew g w ob.length nt
      have hw2 := WInv.data hw1 (.cells row e) ((len + m.length) * inf.size)
      have e2 := Ext.data hw1 (.cells row e) ((len + m.length) * inf.size)
      have ht2 := e2.tinv (e1.tinv hs.ti)
      have hd2 := e2.drel (e1.drel hs.di)
      have hblk : w.drew.heap.size = w.heap.size := rfl
      have hw3 := hw2.claim (i := i) hfo ⟨w.heap.size, (len + m.length) * inf.size, (nc - (len + m.length)) * inf.size⟩ (fun _ => by
        refine ⟨.inl hs.wi.size, ⟨row, e, heap_alloc_new w.drew _, ?_⟩, ?_, ?_, ?_⟩
        · rw [hrowsz]; simp only; rw [← Nat.add_mul]; exact Nat.mul_le_mul_right _ (by omega)
        · rintro k hk (hI | ⟨_, hlt⟩)
          · exact hw1.gN _ _ (Nat.le_refl _) hI
          · simp only at hk; omega
        · intro o y hy hne e'
          have := hs.wi.lt o y hy hne
          have e'' : g.bs o = w.heap.size := e'
          omega
        · intro j hj hji hn e'
          obtain ⟨_, ⟨arr, U, hh, _⟩, _, _⟩ := hs.wi.f1 j hj hn
          have e'' : (g.fam j).blk = w.heap.size := e'
          rw [e'', Array.getElem?_eq_none (Nat.le_refl _)] at hh
          cases hh)
      refine ⟨_, _, _, hrun, ⟨hw3, ht2.claim hft _, hd2.same rfl rfl⟩, ⟨?_, ?_⟩⟩
      · have hflen : ((l ++ m).flatMap V.cells).length = (len + m.length) * inf.size := by rw [flat_len hallz, List.length_append, hlen]
        refine .sl (sz := inf.size) (fun k => row.getD k undef) (by rw [List.length_append, hlen]) hncge (by simp) hall (fun k v hk => ?_) (fun k v hk => ?_)
        · have hlt : k < (len + m.length) * inf.size := by rw [← hflen]; exact (List.getElem?_eq_some_iff.1 hk).1
          have hlt2 : k < row.size := by rw [hrowsz]; exact Nat.lt_of_lt_of_le hlt (Nat.mul_le_mul_right _ hncge)
          rw [Nat.zero_add]
          refine ⟨?_, .inr ⟨rfl, hlt⟩⟩
          rw [show w.heap.size = w.drew.heap.size from rfl, World.cell?_alloc_new]
          simp [Array.getD, hlt2]
        · have hlt : k < (len + m.length) * inf.size := by rw [← hflen]; exact (List.getElem?_eq_some_iff.1 hk).1
          have hlt2 : k < row.size := by rw [hrowsz]; exact Nat.lt_of_lt_of_le hlt (Nat.mul_le_mul_right _ hncge)
          have hget : ∃ y, row[k]? = some y ∧ VRel g.bs g.I w 0 v y := by
            rw [List.flatMap_append, List.getElem?_append, hfl] at hk
            rw [← hrow, Array.getElem?_append]
            have hs1 : (olds.toArray ++ news.toArray).size = (len + m.length) * inf.size := by simp [ho1, hsrc.size, Nat.add_mul]
            rw [hs1, if_pos hlt, Array.getElem?_append]
            have hs2 : olds.toArray.size = len * inf.size := by simp [ho1]
            rw [hs2]
            split at hk
            · rename_i hk1
              rw [if_pos hk1]
              have : k < olds.length := by rw [ho1]; exact hk1
              exact ⟨olds[k], by simp [this], ho3 k v _ hk (by simp [this])⟩
            · rename_i hk1
              rw [if_neg hk1]
              have : k - len * inf.size < news.length := by rw [hsrc.size]; rw [Nat.add_mul] at hlt; omega
              exact ⟨news[k - len * inf.size], by simp [this], hsrc.rel _ v _ hk (by simp [this])⟩
          obtain ⟨y, hy, hvr⟩ := hget
          have : row.getD k undef = y := by simp only [Array.getD]; rw [dif_pos hlt2]; exact (Array.getElem?_eq_some_iff.1 hy).2
          rw [this]
          exact e2.rel0 (e1.rel0 hvr)
      · refine ⟨hnt, hpos, hallz, _, _, _, rfl, .inr ⟨0, ?_, ?_, ?_⟩⟩
        · simp [G.claim]
        · simp [G.claim]
        · simp [G.claim]
    · -- in the room
      have hcl : ¬ cap = len := by omega
      obtain ⟨off, hb, hst, hn⟩ := hroom.resolve_left hcl
      subst hb
      have hcapm : m.length ≤ cap - len := by omega
      have hnm : m.length * inf.size ≤ (g.fam i).n := Nat.le_trans (Nat.mul_le_mul_right _ hcapm) hn
      have hnpos : 0 < (g.fam i).n := Nat.lt_of_lt_of_le (Nat.mul_pos hmpos hpos) hnm
      obtain ⟨f1, ⟨arr, U, f2, f3⟩, f4, f5⟩ := hs.wi.f1 i hnt hnpos
      have hrun := run_append_room' (ty := ty) h0 hso hu hi (hsrc.len w) (hsrc.cells w rfl) (by omega : len + m.length ≤ cap) f2 (by rw [hst, hsrc.size]; omega) hsrc.one
      generalize hrow : (arr.toList.take (off + len * inf.size) ++ news ++ arr.toList.drop (off + len * inf.size + news.length)).toArray = row at hrun
      have hrsz : row.size = arr.size := by
        rw [← hrow]; simp; rw [hst, hsrc.size]; omega
      have hrow1 : ∀ k, k < (g.fam i).st → row[k]? = arr[k]? := fun k hk => by
        rw [← hrow, List.getElem?_toArray, List.append_assoc, List.getElem?_append_left (by simp; omega), List.getElem?_take, if_pos (by omega)]; simp
      have hrow2 : ∀ k, k < news.length → row[(g.fam i).st + k]? = news[k]? := fun k hk => by
        rw [← hrow, List.getElem?_toArray, List.append_assoc, List.getElem?_append_right (by simp; omega)]
        have : (arr.toList.take (off + len * inf.size)).length = (g.fam i).st := by simp; omega
        rw [this, List.getElem?_append_left (by omega)]
        congr 1; omega
      -- the claim is laid down
      have hw1 := hs.wi.claim (i := i) hfo ⟨0, 0, 0⟩ (fun h => absurd h (by simp))
      have ht1 := hs.ti.claim hft ⟨0, 0, 0⟩
      have hd1 : DRel (g.claim i ⟨0, 0, 0⟩) w ob.length a.defers df := hs.di.same rfl rfl
      have hff : ∀ j, j < nt → 0 < ((g.claim i ⟨0, 0, 0⟩).fam j).n → ((g.claim i ⟨0, 0, 0⟩).fam j).blk ≠ (g.fam i).blk := fun j hj hnj => by
        by_cases e' : j = i
        · subst e'; simp [G.claim] at hnj
        · simp only [G.claim, if_neg e'] at hnj ⊢
          exact hs.wi.f2 j i hj hnt e' hnj hnpos
      have hw2 := hw1.fill (e := (g.fam i).st + m.length * inf.size) arr row U f2 f4 hrow1 f1 f5 hff
      have e2 := Ext.fill (e := (g.fam i).st + m.length * inf.size) hw1 arr row U f2 f4 hrow1
      have ht2 := e2.tinv ht1
      have hd2 := e2.drel hd1
      have hw3 := hw2.claim (i := i) hfo ⟨(g.fam i).blk, (g.fam i).st + m.length * inf.size, (g.fam i).n - m.length * inf.size⟩ (fun hp => by
        refine ⟨f1, ⟨row, U, setRow_heap _ _ _ _ _ _ f2, ?_⟩, ?_, f5, fun j hj hji hnj => hff j hj hnj⟩
        · simp only at hp ⊢; rw [hrsz]; omega
        · rintro k hk (hI | ⟨_, _, hlt⟩)
          · exact f4 k (by simp only at hk; omega) hI
          · simp only at hk; omega)
      refine ⟨_, _, _, hrun, ⟨hw3, ht2.claim hft _, hd2.same rfl rfl⟩, ⟨?_, ?_⟩⟩
      · have hflen : ((l ++ m).flatMap V.cells).length = (len + m.length) * inf.size := by rw [flat_len hallz, List.length_append, hlen]
        have hl2 := (hl.mono (bs' := g.bs) (I' := ((g.claim i ⟨0, 0, 0⟩).part (g.fam i).blk (g.fam i).st ((g.fam i).st + m.length * inf.size)).I) (w' := w.setRow (g.fam i).blk row) (n' := ob.length) (fun o ho => ⟨ho, rfl⟩) e2.hI)
        cases hl2 with
        | @sl _ _ _ _ _ _ _ sz u h1 h2 h3 h4 h5 h6 =>
          refine .sl (sz := inf.size) (fun k => if k < len * inf.size then u k else news.getD (k - len * inf.size) undef) (by rw [List.length_append, hlen]) (by omega) (by simp) hall (fun k v hk => ?_) (fun k v hk => ?_)
          · have hlt : k < (len + m.length) * inf.size := by rw [← hflen]; exact (List.getElem?_eq_some_iff.1 hk).1
            rw [List.flatMap_append, List.getElem?_append, hfl] at hk
            split at hk
            · rename_i hk1
              simp only [if_pos hk1]
              exact h5 k v hk
            · rename_i hk1
              simp only [if_neg hk1]
              have hlt2 : k - len * inf.size < news.length := by rw [hsrc.size]; rw [Nat.add_mul] at hlt; omega
              refine ⟨?_, .inr ⟨rfl, by omega, by rw [Nat.add_mul] at hlt; omega⟩⟩
              rw [cell_setRow_same _ _ _ _ _ _ _ f2, show off + k = (g.fam i).st + (k - len * inf.size) by omega, hrow2 _ hlt2]
              simp [hlt2]
          · have hlt : k < (len + m.length) * inf.size := by rw [← hflen]; exact (List.getElem?_eq_some_iff.1 hk).1
            rw [List.flatMap_append, List.getElem?_append, hfl] at hk
            split at hk
            · rename_i hk1
              simp only [if_pos hk1]
              exact h6 k v hk
            · rename_i hk1
              simp only [if_neg hk1]
              have hlt2 : k - len * inf.size < news.length := by rw [hsrc.size]; rw [Nat.add_mul] at hlt; omega
              have hg : news.getD (k - len * inf.size) undef = news[k - len * inf.size] := by simp [hlt2]
              rw [hg]
              exact e2.rel0 (hsrc.rel _ v _ hk (by simp [hlt2]))
      · refine ⟨hnt, hpos, hallz, _, _, _, rfl, .inr ⟨off, ?_, ?_, ?_⟩⟩
        · simp [G.claim]
        · simp only [G.claim, if_true]; rw [Nat.add_mul]; omega
        · simp only [G.claim, if_true]
          rw [show cap - (len + m.length) = cap - len - m.length by omega, Nat.sub_mul]
          omega

end
end VL

namespace VL
open Go
set_option linter.unusedVariables false
set_option linter.unusedSimpArgs false

theorem mapK_strip {K : List V → Prop} {i : Nat} : ∀ {l : List V}, mapK (fun v K => (V.strip i v).force K) l K → K (l.map (V.strip i))
  | [], h => h
  | x :: r, h => by
    have h : (V.strip i x).force _ := h
    rw [force_eq] at h
    exact mapK_strip (l := r) h

theorem mapK_stripO {K : List VObj → Prop} {i : Nat} : ∀ {l : List VObj}, mapK (fun o K => match o with
    | VObj.cells w T cs => mapK (fun v K => (V.strip i v).force K) cs fun cs => K (VObj.cells w T cs)
    | o => K o) l K → K (l.map (stripO i))
  | [], h => h
  | x :: r, h => by
    simp only [mapK] at h
    cases x with
    | cells w T cs => exact mapK_stripO (l := r) (mapK_strip h)
    | none => exact mapK_stripO (l := r) h
    | map es => exact mapK_stripO (l := r) h
    | buf m z l => exact mapK_stripO (l := r) h

theorem strips_iff {i : Nat} {t : List V} {ob : List VObj} {nt : Nat} {df : List (Fn × List V × List V)} {K : St → Prop} (h : strips i ⟨t, ob, nt, df⟩ K) : K ⟨t.map (V.strip i), ob.map (stripO i), nt, df⟩ :=
  mapK_stripO (mapK_strip h)

section
variable {S : Sys} {c : Ctx} {g : G} {w : World} {a : Act} {o : Oper} {K KP : V → St → Prop} {next : Act → World → Prop} {Q : Exit → Act → World → Prop}
  {t : List V} {ob : List VObj} {nt : Nat} {df : List (Fn × List V × List V)}

theorem Sim.strips (h : Sim c g w a ⟨t, ob, nt, df⟩) (i : Nat) : Sim c g w a ⟨t.map (V.strip i), ob.map (stripO i), nt, df⟩ := by
  have hl : (ob.map (stripO i)).length = ob.length := List.length_map ..
  refine ⟨h.wi.strips i, ⟨by simp [h.ti.size], fun k v x hv hx => ?_, h.ti.gl⟩, ?_⟩
  · rw [List.getElem?_map] at hv
    obtain ⟨u, hu, rfl⟩ := Option.map_eq_some_iff.1 hv
    show VT g w (ob.map (stripO i)).length nt _ _
    rw [hl]
    exact (h.ti.rel k u x hu hx).strip i
  · show DRel g w (ob.map (stripO i)).length _ _
    rw [hl]; exact h.di

theorem append_sound {ts : Array TypeId} {e ty : TypeId} {T : TypeId} (h0 : ts[0]? = some T) (hu : S.P.underlying T = some (.slice e)) (hso : srcOk S.P ts = true) (H : Nexts c a o.dst K KP next Q) (hs : Sim c g w a ⟨t, ob, nt, df⟩)
    {l m : List V} {r : Room} {cs cx : Value} (hl : VT g w ob.length nt (.sl l r) cs) (hx : ∀ z, (∀ y ∈ m, y.cells.length = z) → z = szOf S.P e → ∃ news, Src S.P g w z cx m news)
    (hrun : ∀ x' w', (Builtin.append_ ts ty #[cs, cx]).run S.P w = .ok x' w' → (execOp a.eval o).run S.P w = .ok (.value x') w')
    (h : appendK S.P e l r m ⟨t, ob, nt, df⟩ K) : o.wp S.P a w next Q := by
  unfold appendK at h
  obtain ⟨inf, hi, hpos, h⟩ := szK_iff h
  split at h
  case h_2 => exact h.elim
  rename_i zv by_ hzv hby
  split at h
  case h_2 => exact h.elim
  rename_i hzs
  have hzs : zv.cells.size = inf.size := by simpa using hzs
  have hz : inf.zero = some zv := by simpa [hi] using hzv
  have hbi : inf.bytes = by_ + 1 := by simpa [byOf, hi] using hby
  obtain ⟨hfit, hmz, h⟩ := h
  obtain ⟨news, hsrc⟩ := hx _ hmz (szOf_info hi).symm
  obtain ⟨base, len, cap, rfl, hcl⟩ : ∃ base len cap, cs = .slice base len cap ∧ len = l.length := by
    cases hl.rel with
    | slnil => exact ⟨_, _, _, rfl, rfl⟩
    | sl u h1 => exact ⟨_, _, _, rfl, h1⟩
  have hl0 : VRel g.bs g.I w ob.length (.sl l .no) (.slice base len cap) := hl.rel.room _ (by simp)
  cases r with
  | no => exact h.elim
  | ex =>
    obtain ⟨hlz, hk⟩ := h
    have hcap : cap = len := by
      cases hl.rel with
      | slnil => rfl
      | sl u h1 h2 h3 => exact h3 rfl
    have hs' : Sim c (g.claim nt ⟨0, 0, 0⟩) w a ⟨t, ob, nt + 1, df⟩ := by
      refine ⟨hs.wi.more ⟨0, 0, 0⟩ (fun h => absurd h (by simp)), ⟨hs.ti.size, fun k v x hv hx => ?_, hs.ti.gl⟩, hs.di.same rfl rfl⟩
      have := hs.ti.rel k v x hv hx
      exact ⟨this.rel, (this.tok.fam this.tok.nt fun j hj => by simp [G.claim, hj]).ext (Nat.le_succ nt) fun _ _ => rfl⟩
    have hsrc' : Src S.P (g.claim nt ⟨0, 0, 0⟩) w inf.size cx m news := ⟨hsrc.len, hsrc.first, hsrc.size, hsrc.one, hsrc.rel, hsrc.ok⟩
    have hft : ∀ v ∈ t, V.free nt v := fun v hv => by
      obtain ⟨k, hk⟩ := List.mem_iff_getElem?.1 hv
      have hlt : k < a.tmps.size := by rw [← hs.ti.size]; exact (List.getElem?_eq_some_iff.1 hk).1
      exact (hs.ti.rel k v a.tmps[k] hk (by simp [hlt])).tok.nt
    have hfo : freeO nt ob := fun o wr U cs ho v hv => by
      obtain ⟨arr, _, g2, g3⟩ := obj_cells hs.wi ho
      obtain ⟨k, hk⟩ := List.mem_iff_getElem?.1 hv
      have hlt : k < arr.size := by rw [← g2]; exact (List.getElem?_eq_some_iff.1 hk).1
      exact (g3 k v arr[k] hk (by simp [hlt])).1.tok.nt
    obtain ⟨x', w', g', h1, h2, h3⟩ := append_tok (ty := ty) h0 hso hu hi hz hzs hpos (by omega) hs' (i := nt) (Nat.lt_succ_self nt) hft hfo hl0 hlz (.inl hcap) hsrc' (by rw [hbi]; exact hfit)
    unfold Oper.wp
    rw [hrun _ _ h1]
    exact H.val _ _ _ _ _ a hk h2 rfl h3
  | tok i sz =>
    simp only at h
    split at h
    case h_2 => exact h.elim
    rename_i hsz
    have hsz : sz = inf.size := Nat.eq_of_beq_eq_true hsz
    subst hsz
    have hk := strips_iff h
    obtain ⟨hnt, _, hlz, ad, len', cap', he, hroom⟩ := hl.tok
    cases he
    have hs' := hs.strips i
    have hft : ∀ v ∈ t.map (V.strip i), V.free i v := fun v hv => by
      obtain ⟨u, _, rfl⟩ := List.mem_map.1 hv
      exact strip_free i u
    have hlen : (ob.map (stripO i)).length = ob.length := List.length_map ..
    obtain ⟨x', w', g', h1, h2, h3⟩ := append_tok (ty := ty) h0 hso hu hi hz hzs hpos (by omega) hs' (i := i) hnt hft (strips_free i ob) (by rw [hlen]; exact hl0) hlz hroom hsrc (by rw [hbi]; exact hfit)
    unfold Oper.wp
    rw [hrun _ _ h1]
    exact H.val _ _ _ _ _ a hk h2 rfl h3

end
end VL

namespace VL
open Go
set_option linter.unusedVariables false
set_option linter.unusedSimpArgs false

section
variable {S : Sys} {c : Ctx} {g : G} {w : World} {a : Act} {o : Oper} {K KP : V → St → Prop} {next : Act → World → Prop} {Q : Exit → Act → World → Prop}
  {t : List V} {ob : List VObj} {nt : Nat} {df : List (Fn × List V × List V)}

theorem args_of {n nt : Nat} {cl : Call} {vs : List V} (h1 : vs.length = cl.args.toList.length) (h2 : ∀ (k : Nat) v x, vs[k]? = some v → cl.args.toList[k]? = some x → VT g w n nt v (a.eval x)) :
    vs.length = (cl.args.map a.eval).size ∧ ∀ (k : Nat) v x, vs[k]? = some v → (cl.args.map a.eval)[k]? = some x → VT g w n nt v x := by
  refine ⟨by simp [h1], fun k v x hv hx => ?_⟩
  rw [Array.getElem?_map] at hx
  obtain ⟨y, hy, rfl⟩ := Option.map_eq_some_iff.1 hx
  exact h2 k v y hv (by simpa using hy)

theorem arg1 {n nt : Nat} {ca : Array Value} {x : V} (h1 : [x].length = ca.size) (h2 : ∀ (k : Nat) v y, [x][k]? = some v → ca[k]? = some y → VT g w n nt v y) :
    ∃ c1, ca = #[c1] ∧ VT g w n nt x c1 := by
  obtain ⟨l⟩ := ca
  match l, h1 with
  | [c1], _ => exact ⟨c1, rfl, h2 0 x c1 rfl rfl⟩

theorem arg2 {n nt : Nat} {ca : Array Value} {x y : V} (h1 : [x, y].length = ca.size) (h2 : ∀ (k : Nat) v z, [x, y][k]? = some v → ca[k]? = some z → VT g w n nt v z) :
    ∃ c1 c2, ca = #[c1, c2] ∧ VT g w n nt x c1 ∧ VT g w n nt y c2 := by
  obtain ⟨l⟩ := ca
  match l, h1 with
  | [c1, c2], _ => exact ⟨c1, c2, rfl, h2 0 x c1 rfl rfl, h2 1 y c2 rfl rfl⟩

theorem exec_builtin {b : Builtin} {cl : Call} (ho : o.op = .call cl) (hc : cl.callee = .builtin b) :
    execOp a.eval o = Go.builtin b cl.argTypes o.type (cl.args.map fun | .const _ => true | _ => false) (cl.args.map a.eval) := by
  simp only [execOp, ho, resolve, hc]
  rfl

theorem argT_some {P : Program} {ts : Array TypeId} {d : TypeDesc} (h : argT P ts = some d) : ∃ T, ts[0]? = some T ∧ P.underlying T = some d := by
  unfold argT at h
  cases h0 : ts[0]? with
  | none => simp [h0] at h
  | some T => exact ⟨T, rfl, by simpa [h0] using h⟩

theorem sl_shape {n : Nat} {v : V} {x : Value} {l : List V} (h : VRel g.bs g.I w n v x) (hv : (∃ r, v = .sl l r) ∨ v = .slp l ∨ ∃ m, v = .spare l m) : ∃ base cap, x = .slice base l.length cap ∧ ∀ m, v = .spare l m → cap = l.length + m.length := by
  cases h <;> simp at hv
  · obtain ⟨rfl, _⟩ := hv; exact ⟨_, _, rfl, by simp⟩
  · rename_i hl _ _ _ _ _; obtain ⟨rfl, _⟩ := hv; exact ⟨_, _, by rw [hl], by simp⟩
  · rename_i hl _ _ _ _; subst hv; exact ⟨_, _, by rw [hl], by simp⟩
  · rename_i hl hcap _ _ _
    obtain rfl := hv
    exact ⟨_, _, by rw [hl], fun m e => by cases e; exact hcap⟩

theorem sound_builtinF {b : Builtin} {cl : Call} (ho : o.op = .call cl) (hc : cl.callee = .builtin b) (H : Nexts c a o.dst K KP next Q) (hs : Sim c g w a ⟨t, ob, nt, df⟩)
    (hh : evs t cl.args.toList fun args => vbuiltinF S b cl.argTypes args fun v => K v ⟨t, ob, nt, df⟩) : o.wp S.P a w next Q := by
  obtain ⟨vs, k1, k2, h⟩ := evs_sound hs.ti hh
  clear hh
  obtain ⟨h1, h2⟩ := args_of k1 k2
  clear k1 k2
  have hx := exec_builtin (a := a) ho hc
  generalize cl.args.map a.eval = ca at h1 h2 hx
  have hval : ∀ {v : V} {x : Value}, (Go.builtin b cl.argTypes o.type (cl.args.map fun | .const _ => true | _ => false) ca).run S.P w = .ok (.value x) w → VT g w ob.length nt v x → K v ⟨t, ob, nt, df⟩ → o.wp S.P a w next Q :=
    fun hr hv hk => H.same hs (by rw [hx]; exact hr) hv hk
  unfold vbuiltinF at h
  split at h
  · rename_i hT
    obtain ⟨T, h0, hu⟩ := argT_some hT
    obtain ⟨c1, rfl, r1⟩ := arg1 h1 h2
    have hr := r1.rel
    cases hr
    exact hval (x := _) (by simp [Go.builtin, Builtin.len_, h0, run_underlying hu]; rfl) (.of .int rfl) h
  · rename_i hT
    obtain ⟨T, h0, hu⟩ := argT_some hT
    obtain ⟨c1, rfl, r1⟩ := arg1 h1 h2
    obtain ⟨base, cap, rfl, _⟩ := sl_shape r1.rel (.inl ⟨_, rfl⟩)
    exact hval (x := _) (by simp [Go.builtin, Builtin.len_, h0, run_underlying hu]; rfl) (.of .int rfl) h
  · rename_i hT
    obtain ⟨T, h0, hu⟩ := argT_some hT
    obtain ⟨c1, rfl, r1⟩ := arg1 h1 h2
    obtain ⟨base, cap, rfl, _⟩ := sl_shape r1.rel (.inr (.inl rfl))
    exact hval (x := _) (by simp [Go.builtin, Builtin.len_, h0, run_underlying hu]; rfl) (.of .int rfl) h
  · rename_i hT
    obtain ⟨T, h0, hu⟩ := argT_some hT
    obtain ⟨c1, rfl, r1⟩ := arg1 h1 h2
    obtain ⟨base, cap, rfl, _⟩ := sl_shape r1.rel (.inr (.inr ⟨_, rfl⟩))
    exact hval (x := _) (by simp [Go.builtin, Builtin.len_, h0, run_underlying hu]; rfl) (.of .int rfl) h
  · rename_i hT
    obtain ⟨T, h0, hu⟩ := argT_some hT
    obtain ⟨c1, rfl, r1⟩ := arg1 h1 h2
    have hr := r1.rel
    cases hr
    exact hval (x := _) (by simp [Go.builtin, Builtin.len_, h0, run_underlying hu]; rfl) (.of .int rfl) h
  · rename_i hT
    obtain ⟨T, h0, hu⟩ := argT_some hT
    obtain ⟨c1, rfl, r1⟩ := arg1 h1 h2
    have hr := r1.rel
    cases hr
    exact hval (x := _) (by simp only [Go.builtin, Builtin.cap_, h0]; simp [run_underlying hu]; rfl) (.of .int rfl) h
  · rename_i hT
    obtain ⟨T, h0, hu⟩ := argT_some hT
    obtain ⟨c1, rfl, r1⟩ := arg1 h1 h2
    exact hval (x := _) (by simp [Go.builtin, Builtin.len_, h0, run_underlying hu]; rfl) (.of .int rfl) h
  · rename_i e0 o1 z lo n cp hT
    obtain ⟨T, h0, hu⟩ := argT_some hT
    obtain ⟨c1, rfl, r1⟩ := arg1 h1 h2
    obtain ⟨hc, h⟩ := h
    have hr := r1.rel
    cases hr with | slo ho' hl ha hf =>
    have ha := ha.resolve_left (by omega)
    subst ha
    have hbp : VRel g.bs g.I w ob.length (.bp o1 z lo 0) (.pointer (some ⟨g.bs o1, lo * z + 0, none⟩)) := .bp ho'
    refine hval (x := _) ?_ (.of hbp rfl) h
    have hne : cp ≠ 0 := by omega
    have e : ∀ (ts : Array TypeId) (ty : TypeId) (ad : Addr), (Builtin.unsafeSliceData_ ts ty #[.slice (some ad) n cp]).run S.P w = .ok (.pointer (some ad)) w := fun ts ty ad => by
      have : Builtin.unsafeSliceData_ ts ty #[.slice (some ad) n cp] = (if cp ≠ 0 then pure (.pointer (some ad)) else do
        if (← viewAt ad.block).isSome then pure (.pointer (some ad)) else pure (.pointer (some ⟨← newObj (.view ad (← elemOf ty)), 0, none⟩))) := rfl
      rw [this, if_pos hne]; rfl
    simp only [Go.builtin, Sem.run_bind, e, Result.andThen_ok, Nat.add_zero]
    rfl
  · rename_i hT
    obtain ⟨T, h0, hu⟩ := argT_some hT
    obtain ⟨c1, rfl, r1⟩ := arg1 h1 h2
    obtain ⟨base, cap, rfl, hcap⟩ := sl_shape r1.rel (.inr (.inr ⟨_, rfl⟩))
    rw [hcap _ rfl] at hx hval
    exact hval (x := _) (by simp only [Go.builtin, Builtin.cap_, h0]; simp [run_underlying hu]; rfl) (.of .int rfl) h
  · obtain ⟨c1, c2, rfl, r1, r2⟩ := arg2 h1 h2
    have e1 := r1.rel
    have e2 := r2.rel
    cases e1; cases e2
    exact hval (x := _) (by simp [Go.builtin, Builtin.min_, Builtin.min2]) (.of .int rfl) h.2
  · obtain ⟨c1, c2, rfl, r1, r2⟩ := arg2 h1 h2
    have e1 := r1.rel
    have e2 := r2.rel
    cases e1; cases e2
    exact hval (x := _) (by simp [Go.builtin, Builtin.max_, Builtin.max2]) (.of .int rfl) h.2
  · exact h.elim

theorem untok_args {n : Nat} {vs : List V} {ca : Array Value} (h1 : vs.length = ca.size) (h2 : ∀ (k : Nat) v x, vs[k]? = some v → ca[k]? = some x → VRel g.bs g.I w n v x) :
    (vs.map V.untok).length = ca.size ∧ ∀ (k : Nat) v x, (vs.map V.untok)[k]? = some v → ca[k]? = some x → VRel g.bs g.I w n v x := by
  refine ⟨by simp [h1], fun k v x hv hx => ?_⟩
  rw [List.getElem?_map] at hv
  obtain ⟨u, hu, rfl⟩ := Option.map_eq_some_iff.1 hv
  exact (h2 k u x hu hx).untok

theorem append_args {n : Nat} {vs us : List V} {ca da : Array Value} (h1 : vs.length = ca.size) (h2 : ∀ (k : Nat) v x, vs[k]? = some v → ca[k]? = some x → VRel g.bs g.I w n v x)
    (h3 : us.length = da.size) (h4 : ∀ (k : Nat) v x, us[k]? = some v → da[k]? = some x → VRel g.bs g.I w n v x) :
    (vs ++ us).length = (ca ++ da).size ∧ ∀ (k : Nat) v x, (vs ++ us)[k]? = some v → (ca ++ da)[k]? = some x → VRel g.bs g.I w n v x := by
  refine ⟨by simp [h1, h3], fun k v x hv hx => ?_⟩
  rw [List.getElem?_append] at hv
  rw [Array.getElem?_append] at hx
  rw [h1] at hv
  split at hv
  · rename_i hk; rw [if_pos hk] at hx; exact h2 k v x hv hx
  · rename_i hk; rw [if_neg hk] at hx; exact h4 _ v x hv hx

theorem sound_panic {x : Operand} (ho : o.op = .panic x) (H : Nexts c a o.dst K KP next Q) (hs : Sim c g w a ⟨t, ob, nt, df⟩)
    (h : ev t x fun x => match x with
      | .ifc T v => KP (.ifc T v) ⟨t, ob, nt, df⟩
      | _ => False) : o.wp S.P a w next Q := by
  obtain ⟨v, hv, hk⟩ := ev_sound hs.ti h
  cases v <;> try exact hk.elim
  rename_i T v
  have hr := hv.rel
  generalize hx : a.eval x = e at hr
  cases hr
  rename_i y hy
  unfold Oper.wp
  have : (execOp a.eval o).run S.P w = .halt (.panic (.iface T y)) w := by simp [execOp, ho, hx, Instr.panic, goPanic]
  rw [this, Oper.upon_panic]
  exact H.pan _ _ _ g w a hk hs (.ifc hy)

theorem sound_defer {cl : Call} {f : Operand} (ho : o.op = .defer cl) (hc : cl.callee = .value f) (H : Nexts c a o.dst K KP next Q) (hs : Sim c g w a ⟨t, ob, nt, df⟩)
    (h0 : ev t f fun f => evs t cl.args.toList fun args => match f with
      | .fn (.func g) first cap => mapK V.untokK (first ++ args) fun a => mapK V.untokK cap fun cap => K (.tup []) ⟨t, ob, nt, (.func g, a, cap) :: df⟩
      | _ => False) : o.wp S.P a w next Q := by
  obtain ⟨v, hv, h00⟩ := ev_sound hs.ti h0
  clear h0
  obtain ⟨vs, k1, k2, h⟩ := evs_sound hs.ti h00
  clear h00
  obtain ⟨h1, h2⟩ := args_of k1 k2
  cases v <;> try exact h.elim
  rename_i f' first cap
  cases f' <;> try exact h.elim
  rename_i fid
  have h := mapK_untok (mapK_untok h)
  have hr := hv.rel
  generalize hx : a.eval f = e at hr
  cases hr
  rename_i ca cb ha hb i1 i2
  unfold Oper.wp
  have hrun : (execOp a.eval o).run S.P w = .ok (.defer { target := .fn (.func fid) cb, args := ca ++ cl.args.map a.eval }) w := by
    simp [execOp, ho, resolve, hc, hx, Deferred.ofValue]
  rw [hrun, Oper.upon_defer]
  obtain ⟨j1, j2⟩ := append_args ha hb h1 fun k v x hv hx => (h2 k v x hv hx).rel
  obtain ⟨m1, m2⟩ := untok_args j1 j2
  obtain ⟨n1, n2⟩ := untok_args i1 i2
  exact H.val _ _ ⟨t, ob, nt, _⟩ g w { a with defers := _ :: a.defers } h ⟨hs.wi, hs.ti, .cons ⟨cb, rfl, m1, n1, m2, n2⟩ hs.di⟩ rfl (.of (.tup rfl (by simp)) rfl)

end
end VL

namespace VL
open Go
set_option linter.unusedVariables false
set_option linter.unusedSimpArgs false

section
variable {S : Sys} {c : Ctx} {g : G} {w : World} {a : Act} {o : Oper} {K KP : V → St → Prop} {next : Act → World → Prop} {Q : Exit → Act → World → Prop}
  {t : List V} {ob : List VObj} {nt : Nat} {df : List (Fn × List V × List V)}

theorem Sim.drew (hs : Sim c g w a ⟨t, ob, nt, df⟩) : Sim c g w.drew a ⟨t, ob, nt, df⟩ :=
  ⟨hs.wi.drew, (Ext.drew g w ob.length nt).tinv hs.ti, (Ext.drew g w ob.length nt).drel hs.di⟩

/-- a new row -/
theorem buf_alloc (hs : Sim c g w a ⟨t, ob, nt, df⟩) {row : Array Value} {e : TypeId} {z : Nat} {L : List V} (hsz : row.size = L.length * z) (hok : ∀ x ∈ L, x.cells.length = z ∧ x.cells.all V.okCell = true)
    (hr : ∀ (k : Nat) v y, (L.flatMap V.cells)[k]? = some v → row[k]? = some y → VRel g.bs g.I w 0 v y ∧ y.oneCell' = true) {n cap : Nat} (hn : n ≤ cap) {wt : Option TypeId} (hwt : ∀ t, wt = some t → t = e) :
    ∃ g', Sim c g' (w.alloc (.cells row e)) a ⟨t, ob ++ [.buf false z L wt], nt, df⟩ ∧ VT g' (w.alloc (.cells row e)) (ob.length + 1) nt (.slo ob.length z 0 n cap) (.slice (some ⟨w.heap.size, 0, none⟩) n cap) := by
  have he := Ext.alloc hs.wi (.cells row e)
  have hw := WInv.alloc hs.wi (.cells row e) (.buf false z L wt) (.inr ⟨row, e, heap_alloc_new w _, hwt, hsz, hok, fun k v y hv hy => ⟨he.rel0 (hr k v y hv hy).1, (hr k v y hv hy).2⟩⟩)
  have hlen : (ob ++ [VObj.buf false z L wt]).length = ob.length + 1 := by simp
  refine ⟨_, ⟨hw, ?_, ?_⟩, .of ?_ rfl⟩
  · show TInv _ _ (ob ++ [VObj.buf false z L wt]).length _ _ _
    rw [hlen]; exact he.tinv hs.ti
  · show DRel _ _ (ob ++ [VObj.buf false z L wt]).length _ _
    rw [hlen]; exact he.drel hs.di
  · refine .slo (by omega) hn (.inr ?_) (.inr ⟨_, _, rfl⟩)
    simp

/-- what a slice of a row that is written reads as -/
theorem slo_src {P : Program} {n : Nat} (hw : WInv c g w ob nt) {o z lo m cp : Nat} {l : List V} {mv : Bool} {ty : Option TypeId} {x : Value} (ho : ob[o]? = some (.buf mv z l ty)) (h : VRel g.bs g.I w n (.slo o z lo m cp) x) (hb : lo + m ≤ l.length) :
    ∃ news, Src P g w z x ((l.drop lo).take m) news := by
  cases h with | @slo _ _ _ _ _ _ ad hlt hl ha hf =>
  have hml : ((l.drop lo).take m).length = m := by simp; omega
  by_cases hm : m = 0
  · subst hm
    refine ⟨[], fun w' => by simp [Builtin.lenOf], fun w' _ k hk => ?_, by simp, by simp, by simp, by simp⟩
    have hk : k = 0 := by simpa using hk
    subst hk
    cases ad with
    | none => simp [Builtin.firstCells]
    | some b => simpa using run_firstCells_some (P := P) w' z 0 b 0 cp [] (by simp) (by simp)
  · obtain rfl := ha.resolve_left (by omega)
    have hne : l ≠ [] := by intro e; rw [e] at hb; simp at hb; omega
    obtain ⟨arr, T, g1, _, g2, g3, g4⟩ := (hw.obj o _ ho).resolve_left hne
    have hz : ∀ y ∈ l, y.cells.length = z := fun y hy => (g3 y hy).1
    have hz' : ∀ y ∈ (l.drop lo).take m, y.cells.length = z := fun y hy => hz y (List.mem_of_mem_drop (List.mem_of_mem_take hy))
    have hfl := flat_length hz
    have hfl' := flat_length hz'
    rw [hml] at hfl'
    have hmul : lo * z + m * z ≤ arr.size := by rw [g2, ← Nat.add_mul]; exact Nat.mul_le_mul_right z hb
    have hflat : ∀ k, k < m * z → (((l.drop lo).take m).flatMap V.cells)[k]? = (l.flatMap V.cells)[lo * z + k]? := fun k hk => by
      rw [flat_take (sz := z) (fun y hy => g3 y (List.mem_of_mem_drop hy)), flat_drop g3, List.getElem?_take, if_pos hk, List.getElem?_drop]
    have hex : ∀ k, k < m * z → ∃ v, (l.flatMap V.cells)[lo * z + k]? = some v := fun k hk => ⟨_, List.getElem?_eq_getElem (by rw [hfl, ← g2]; omega)⟩
    refine ⟨(List.range (m * z)).map fun k => arr.getD (lo * z + k) undef, fun w' => by rw [hml]; rfl, fun w' hw' k hk => ?_, by rw [hml]; simp, fun y hy => ?_, fun k v y hv hy => ?_, fun y hy => g3 y (List.mem_of_mem_drop (List.mem_of_mem_take hy))⟩
    · rw [hml] at hk
      refine run_firstCells_some (P := P) w' z k ⟨g.bs o, lo * z, none⟩ m cp _ (by simp [List.length_take]; first | exact Nat.min_eq_left (Nat.mul_le_mul_right z hk) | rw [Nat.min_eq_left hk]) fun j v hj => ?_
      rw [List.getElem?_take] at hj
      split at hj
      case isFalse => cases hj
      rename_i hjk
      have hlt : j < m * z := Nat.lt_of_lt_of_le hjk (Nat.mul_le_mul_right z hk)
      rw [List.getElem?_map, List.getElem?_range hlt] at hj
      cases hj
      have hja : lo * z + j < arr.size := by omega
      rw [Addr.add_mid]
      simp [World.cell?, hw', g1, Array.getD, hja]
    · obtain ⟨k, hk, rfl⟩ := List.mem_map.1 hy
      have hlt : k < m * z := by simpa using hk
      obtain ⟨v, hv⟩ := hex k hlt
      have hja : lo * z + k < arr.size := by omega
      have := (g4 _ v arr[lo * z + k] hv (by simp [hja])).2
      simpa [Array.getD, hja] using this
    · have hlt : k < m * z := by have := (List.getElem?_eq_some_iff.1 hy).1; simpa using this
      rw [List.getElem?_map, List.getElem?_range hlt] at hy
      cases hy
      rw [hflat k hlt] at hv
      have hja : lo * z + k < arr.size := by omega
      have := (g4 _ v arr[lo * z + k] hv (by simp [hja])).1
      simpa [Array.getD, hja] using this

theorem srcK_sound {P : Program} {e : TypeId} {ts : Array TypeId} {v : V} {x : Value} {K : List V → Prop} (hw : WInv c g w ob nt) (hv : VRel g.bs g.I w ob.length v x) (h : srcK P e ts ob v K) :
    ∃ m, K m ∧ ∀ z, (∀ y ∈ m, y.cells.length = z) → z = szOf P e → ∃ news, Src P g w z x m news := by
  unfold srcK at h
  split at h
  · exact ⟨_, h, fun z hz _ => src_slice hv hz⟩
  · rename_i m sp
    refine ⟨_, h, fun z hz _ => ?_⟩
    cases hv with
    | spare u hl hcap hz' hc hu =>
      rename_i b0 off0 len0 cap0 sz0
      have hr3 : VRel g.bs g.I w ob.length (.sl m .no) (.slice (some ⟨b0, off0, none⟩) len0 cap0) := .sl u hl (by omega) (by simp) (fun x hx => hz' x (List.mem_append_left _ hx))
        (fun k v hk => hc k v (by rw [List.flatMap_append, List.getElem?_append_left (List.getElem?_eq_some_iff.1 hk).1]; exact hk))
        (fun k v hk => hu k v (by rw [List.flatMap_append, List.getElem?_append_left (List.getElem?_eq_some_iff.1 hk).1]; exact hk))
      exact src_slice hr3 hz
  · rename_i s
    split at h
    · rename_i hz1
      refine ⟨_, h, fun z hz he => ?_⟩
      cases hv
      rw [he, hz1]; exact src_string s
    · exact h.elim
  · rename_i o1 z1 lo n cp
    obtain ⟨x1, h1, h⟩ := getK_iff h
    cases x1 <;> try exact h.elim
    rename_i mv z' l ty'
    simp only at h
    split at h
    case h_2 => exact h.elim
    rename_i hz
    have hz := Nat.eq_of_beq_eq_true hz
    subst hz
    obtain ⟨hb, h⟩ := h
    refine ⟨_, h, fun z hz he => ?_⟩
    obtain ⟨news, hn⟩ := slo_src (P := P) hw h1 hv hb
    by_cases hm : (l.drop lo).take n = []
    · rw [hm] at hn ⊢
      refine ⟨news, hn.len, fun w' hw' k hk => ?_, by rw [hn.size]; simp, hn.one, hn.rel, by simp⟩
      have hnn : news = [] := List.eq_nil_of_length_eq_zero (by rw [hn.size]; simp)
      subst hnn
      have hk : k = 0 := by simpa using hk
      subst hk
      cases hv with | @slo _ _ _ _ _ _ ad hlt hl ha hf =>
      cases ad with
      | none => simp [Builtin.firstCells]
      | some b => simpa using run_firstCells_some (P := P) w' z 0 b n cp [] (by simp) (by simp)
    · obtain ⟨y, hy⟩ := List.exists_mem_of_ne_nil _ hm
      have : z = z1 := by rw [← hz y hy, (hn.ok y hy).1]
      subst this
      exact ⟨news, hn⟩
  · exact h.elim

theorem Src.drewW {P : Program} {z : Nat} {x : Value} {m : List V} {news : List Value} (h : Src P g w z x m news) : Src P g w.drew z x m news :=
  ⟨h.len, fun w' hw' => h.first w' hw', h.size, h.one, fun k v y hv hy => (Ext.drew g w 0 0).rel0 (h.rel k v y hv hy), h.ok⟩

theorem elems_of_zero {P : Program} {e : TypeId} {inf : TypeInfo} {zv : Value} (hi : P.info? e = some inf) (hzs : zv.cells.size = inf.size) (hok : (ofConstAgg zv).cells.all V.okCell = true) (n : Nat) :
    (∀ x ∈ List.replicate n (ofConstAgg zv), x.cells.length = inf.size ∧ x.cells.all V.okCell = true) ∧
    ∀ (k : Nat) v y, ((List.replicate n (ofConstAgg zv)).flatMap V.cells)[k]? = some v → (Builtin.zeroCells zv.cells n)[k]? = some y → VRel g.bs g.I w 0 v y ∧ y.oneCell' = true := by
  have hag := agg_cells (bs := g.bs) (I := g.I) (w := w) (n := 0) zv
  have hl : (ofConstAgg zv).cells.length = inf.size := by rw [hag.1, hzs]
  refine ⟨fun x hx => by rw [List.eq_of_mem_replicate hx]; exact ⟨hl, hok⟩, fun k v y hv hy => ?_⟩
  have hz : ∀ x ∈ List.replicate n (ofConstAgg zv), x.cells.length = inf.size := fun x hx => by rw [List.eq_of_mem_replicate hx]; exact hl
  have hlt : k < n * inf.size := by
    have := (List.getElem?_eq_some_iff.1 hv).1
    rwa [flat_length hz, List.length_replicate] at this
  have hpos : 0 < inf.size := by
    rcases Nat.eq_zero_or_pos inf.size with h | h
    · rw [h] at hlt; simp at hlt
    · exact h
  have hdiv : k / inf.size < n := Nat.div_lt_of_lt_mul (by rw [Nat.mul_comm]; exact hlt)
  have hmod : k % inf.size < inf.size := Nat.mod_lt _ hpos
  have hget := flat_at hz (i := k / inf.size) (x := ofConstAgg zv) (by rw [List.getElem?_replicate, if_pos hdiv]) (k % inf.size) hmod
  rw [Nat.div_add_mod' k inf.size, hv] at hget
  have hy' : zv.cells[k % inf.size]? = some y := by
    simp only [Builtin.zeroCells, hzs] at hy
    rw [Array.getElem?_map] at hy
    obtain ⟨j, hj, rfl⟩ := Option.map_eq_some_iff.1 hy
    have hjk : j = k := by
      by_cases hkl : k < n * inf.size
      · rw [Array.getElem?_eq_getElem (by simpa using hkl)] at hj
        simp at hj; exact hj.symm
      · exact absurd hlt hkl
    subst hjk
    have : j % inf.size < zv.cells.size := by omega
    simp [this]
  have hr := hag.2 _ v y hget.symm hy'
  exact ⟨hr, hr.oneCell (List.all_eq_true.1 hok v (List.mem_of_getElem? hget.symm))⟩

theorem zero_row {zv : Value} {n : Nat} : (Builtin.zeroCells zv.cells n).size = n * zv.cells.size := by simp [Builtin.zeroCells]

/-- rows one behind the other -/
theorem rows_append {L M : List V} {ra rb : Array Value} {z : Nat} (hL : ∀ x ∈ L, x.cells.length = z) (hsa : ra.size = L.length * z)
    (h1 : ∀ (k : Nat) v y, (L.flatMap V.cells)[k]? = some v → ra[k]? = some y → VRel g.bs g.I w 0 v y ∧ y.oneCell' = true) (h2 : ∀ (k : Nat) v y, (M.flatMap V.cells)[k]? = some v → rb[k]? = some y → VRel g.bs g.I w 0 v y ∧ y.oneCell' = true) :
    ∀ (k : Nat) v y, ((L ++ M).flatMap V.cells)[k]? = some v → (ra ++ rb)[k]? = some y → VRel g.bs g.I w 0 v y ∧ y.oneCell' = true := by
  intro k v y hv hy
  rw [List.flatMap_append, List.getElem?_append, flat_length hL] at hv
  rw [Array.getElem?_append, hsa] at hy
  split at hv
  · rename_i hk; rw [if_pos hk] at hy; exact h1 k v y hv hy
  · rename_i hk; rw [if_neg hk] at hy; exact h2 _ v y hv hy

theorem Src.rows {P : Program} {z : Nat} {x : Value} {m : List V} {news : List Value} (h : Src P g w z x m news) : ∀ (k : Nat) v y, (m.flatMap V.cells)[k]? = some v → news.toArray[k]? = some y → VRel g.bs g.I w 0 v y ∧ y.oneCell' = true := fun k v y hv hy => by
  rw [List.getElem?_toArray] at hy
  exact ⟨h.rel k v y hv hy, h.one y (List.mem_of_getElem? hy)⟩

/-- an append that makes a new row -/
theorem append_grow (hs : Sim c g w a ⟨t, ob, nt, df⟩) {ts : Array TypeId} {T e ty : TypeId} {inf : TypeInfo} {zv : Value} (h0 : ts[0]? = some T) (hso : srcOk S.P ts = true) (hu : S.P.underlying T = some (.slice e)) (hi : S.P.info? e = some inf) (hz : inf.zero = some zv)
    (hzs : zv.cells.size = inf.size) (hzok : (ofConstAgg zv).cells.all V.okCell = true) (hby : 0 < inf.bytes) {base : Option Addr} {n cap : Nat} {x : Value} {l m : List V} {olds news : List Value}
    (hl : Src S.P g w inf.size (.slice base n cap) l olds) (hln : l.length = n) (hm : Src S.P g w inf.size x m news) (hgrow : cap < n + m.length) (hfit : (n + m.length) * inf.bytes ≤ 140737488355328) {wt : Option TypeId} (hwt : ∀ t, wt = some t → t = e) :
    ∃ (sp : List V) (w' : World) (g' : G), (∀ y ∈ sp, y.cells.length = inf.size) ∧ (Builtin.append_ ts ty #[.slice base n cap, x]).run S.P w = .ok (.slice (some ⟨w.heap.size, 0, none⟩) (n + m.length) (n + m.length + sp.length)) w' ∧
      Sim c g' w' a ⟨t, ob ++ [.buf false inf.size (l ++ m ++ sp) wt], nt, df⟩ ∧ VT g' w' (ob.length + 1) nt (.slo ob.length inf.size 0 (n + m.length) (n + m.length + sp.length)) (.slice (some ⟨w.heap.size, 0, none⟩) (n + m.length) (n + m.length + sp.length)) := by
  have hneed : n + m.length ≤ 140737488355328 := Nat.le_trans (Nat.le_mul_of_pos_right _ hby) hfit
  have hol : (Builtin.firstCells inf.size n (.slice base n cap)).run S.P w.drew = .ok olds.toArray w.drew := by have := hl.cells w.drew rfl; rwa [hln] at this
  have hrun := run_append_grow' (ty := ty) h0 hso hu hi hz (hm.len w) hol (hm.cells w.drew rfl) hgrow (by omega) hfit
  generalize hnc : grownCap w (n + m.length) cap e = nc at hrun
  have hge : n + m.length ≤ nc := by rw [← hnc]; exact grownCap_ge w _ _ e
  obtain ⟨hsp1, hsp2⟩ := elems_of_zero (g := g) (w := w.drew) hi hzs hzok (nc - (n + m.length))
  have hlz : ∀ y ∈ l, y.cells.length = inf.size := fun y hy => (hl.ok y hy).1
  have hmz : ∀ y ∈ m, y.cells.length = inf.size := fun y hy => (hm.ok y hy).1
  have hok : ∀ y ∈ l ++ m ++ List.replicate (nc - (n + m.length)) (ofConstAgg zv), y.cells.length = inf.size ∧ y.cells.all V.okCell = true := fun y hy => by
    rcases List.mem_append.1 hy with hy | hy
    · rcases List.mem_append.1 hy with hy | hy
      · exact hl.ok y hy
      · exact hm.ok y hy
    · exact hsp1 y hy
  have hrel := rows_append (g := g) (w := w.drew) (L := l ++ m) (M := List.replicate (nc - (n + m.length)) (ofConstAgg zv)) (ra := olds.toArray ++ news.toArray) (rb := Builtin.zeroCells zv.cells (nc - (n + m.length))) (z := inf.size)
    (fun y hy => (List.mem_append.1 hy).elim (hlz y) (hmz y)) (by simp [hl.size, hm.size, Nat.add_mul]) (rows_append hlz (by simp [hl.size]) hl.drewW.rows hm.drewW.rows) hsp2
  obtain ⟨g', h1, h2⟩ := buf_alloc hs.drew (row := olds.toArray ++ news.toArray ++ Builtin.zeroCells zv.cells (nc - (n + m.length))) (e := e) (z := inf.size) (L := l ++ m ++ List.replicate (nc - (n + m.length)) (ofConstAgg zv))
    (by simp [hl.size, hm.size, zero_row, hzs, Nat.add_mul, Nat.add_assoc]) hok hrel (n := n + m.length) (cap := nc) hge hwt
  have hcap : n + m.length + (List.replicate (nc - (n + m.length)) (ofConstAgg zv)).length = nc := by simp; omega
  refine ⟨List.replicate (nc - (n + m.length)) (ofConstAgg zv), _, g', fun y hy => (hsp1 y hy).1, ?_, h1, ?_⟩
  · rw [hcap]; exact hrun
  · rw [hcap]; exact h2

theorem run_append_any {P : Program} {ts : Array TypeId} {T e ty : TypeId} {inf : TypeInfo} (h0 : ts[0]? = some T) (hs : srcOk P ts = true) (hu : P.underlying T = some (.slice e)) (hi : P.info? e = some inf) {base : Option Addr} {len cap m : Nat} {x : Value}
    (hlen : (Builtin.lenOf x).run P w = .ok m w) {news : List Value} (hf : (Builtin.firstCells inf.size m x).run P w = .ok news.toArray w) (hfit : len + m ≤ cap) {w' : World}
    (hst : ∀ b, base = some b → (storeCells (b.add (len * inf.size)) news).run P w = .ok () w') (hno : base = none → w' = w) :
    (Builtin.append_ ts ty #[.slice base len cap, x]).run P w = .ok (.slice base (len + m) cap) w' := by
  have hsz : (Go.sizeOf e).run P w = .ok inf.size w := run_size hi
  rw [append_one h0 hs]
  cases base with
  | none => rw [hno rfl]; simp [Builtin.append_, run_underlying hu, hsz, hlen, hfit, hf]
  | some b => simp [Builtin.append_, run_underlying hu, hsz, hlen, hfit, hf, hst b rfl]

/-- elements laid over a row's, in the machine -/
theorem over_row (hs : Sim c g w a ⟨t, ob, nt, df⟩) {mv : Bool} {ty : Option TypeId} {o1 z i : Nat} {l m : List V} {news : List Value} (ho : ob[o1]? = some (.buf mv z l ty)) (hm : ∀ y ∈ m, y.cells.length = z ∧ y.cells.all V.okCell = true) (hns : news.length = m.length * z)
    (hr : ∀ (k : Nat) v y, (m.flatMap V.cells)[k]? = some v → news[k]? = some y → VRel g.bs g.I w 0 v y ∧ y.oneCell' = true) (hb : i + m.length ≤ l.length) (hne : m ≠ []) :
    ∃ w', (storeCells ⟨g.bs o1, i * z, none⟩ news).run S.P w = .ok () w' ∧ Sim c g w' a ⟨t, ob.set o1 (.buf mv z (l.take i ++ m ++ l.drop (i + m.length)) ty), nt, df⟩ ∧ Ext g w ob.length nt g w' ob.length nt := by
  have hmpos : 0 < m.length := List.length_pos_iff.2 hne
  have hlne : l ≠ [] := fun e => by rw [e, List.length_nil] at hb; omega
  obtain ⟨arr, T, g1, _, g2, g3, g4⟩ := (hs.wi.obj o1 _ ho).resolve_left hlne
  have hlz : ∀ y ∈ l, y.cells.length = z := fun y hy => (g3 y hy).1
  have hmul : i * z + m.length * z ≤ arr.size := by rw [g2, ← Nat.add_mul]; exact Nat.mul_le_mul_right z hb
  have hone : ∀ y ∈ news, y.oneCell' = true := fun y hy => by
    obtain ⟨k, hk⟩ := List.mem_iff_getElem?.1 hy
    have hlt : k < m.length * z := by rw [← hns]; exact (List.getElem?_eq_some_iff.1 hk).1
    have hfl := flat_length fun y hy => (hm y hy).1
    obtain ⟨v, this⟩ : ∃ v, (m.flatMap V.cells)[k]? = some v := ⟨_, List.getElem?_eq_getElem (by rw [hfl]; exact hlt)⟩
    exact (hr k _ y this hk).2
  have hst := run_storeCells_at (P := S.P) (g.bs o1) (i * z) T news 0 arr w g1 (by rw [Nat.add_zero, hns]; exact hmul) hone
  simp only [Nat.add_zero] at hst
  have hlen : (l.take i ++ m ++ l.drop (i + m.length)).length = l.length := by simp; omega
  obtain ⟨hw2, he2⟩ := buf_write (l' := l.take i ++ m ++ l.drop (i + m.length)) hs.wi ho g1 g2 hlen hlne (fun y hy => by
      rcases List.mem_append.1 hy with hy | hy
      · rcases List.mem_append.1 hy with hy | hy
        · exact g3 y (List.mem_of_mem_take hy)
        · exact hm y hy
      · exact g3 y (List.mem_of_mem_drop hy)) (arr' := (arr.toList.take (i * z) ++ news ++ arr.toList.drop (i * z + news.length)).toArray) (by simp only [List.size_toArray, List.length_append, List.length_take, List.length_drop, Array.length_toList]; omega)
    (fun k v y hv hy => by
      rw [flat_splice hlz (fun y hy => (hm y hy).1) hb] at hv
      rw [row_splice (by rw [hns]; exact hmul), hns] at hy
      split at hv
      · rename_i hk; rw [if_pos hk] at hy; exact hr _ v y hv hy
      · rename_i hk; rw [if_neg hk] at hy; exact g4 k v y hv hy)
  exact ⟨_, hst, ⟨hw2, by simpa using he2.tinv hs.ti, by simpa using he2.drel hs.di⟩, he2⟩

theorem set_self_get {l : List VObj} {i : Nat} {x : VObj} (h : l[i]? = some x) : l.set i x = l := by
  apply List.ext_getElem?
  intro k
  rw [List.getElem?_set]
  split
  · rename_i e; subst e
    split
    · exact h.symm
    · rename_i hlt; rw [List.getElem?_eq_none (by omega)]
  · rfl

end
end VL
