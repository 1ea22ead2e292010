/- Part Vb of the proof: VLOp5 VLOp6 VLOp7 VLOp8 VLOp9 VLOp10 VLCall VLCall2 VLSound VLSound2 VLDraw1 VLDraw2. -/
import Derived.Test.YtopoljadcjeflaaVa
import Derived.Laws.Slices
import Derived.Laws.IdiomStrings
import Derived.Laws.BytesArg
import Derived.Laws.Tables
import Derived.Laws.NewFold
import Derived.Laws.AppendOwn
import Derived.Lib.AppendStr
namespace VL
open Go
set_option linter.unusedVariables false
set_option linter.unusedSimpArgs false

section
variable {S : Sys} {c : Ctx} {g : G} {w : World} {a : Act} {o : Oper} {K KP : V → St → Prop} {next : Act → World → Prop} {Q : Exit → Act → World → Prop}
  {t : List V} {ob : List VObj} {nt : Nat} {df : List (Fn × List V × List V)}

/-- what a lower bound is -/
def IsLow (a : Act) (lo : Option Operand) (n : Int) : Prop :=
  match lo with
  | none => n = 0
  | some y => ∃ k, a.eval y = .int k n

theorem lowK_sound {g : G} {n nt : Nat} (h : TInv g w n nt a.tmps t) {lo : Option Operand} {K : Int → Prop} (hk : lowK t lo K) : ∃ n, IsLow a lo n ∧ K n := by
  unfold lowK at hk
  cases lo with
  | none => exact ⟨0, rfl, hk⟩
  | some y =>
    obtain ⟨v, hv, hk⟩ := ev_sound h hk
    cases v <;> try exact hk.elim
    rename_i k n
    have hr := hv.rel
    generalize hx : a.eval y = e at hr
    cases hr
    exact ⟨n, ⟨k, hx⟩, hk⟩

theorem bounds_to {P : Program} {isSlice : Bool} {len cap : Nat} {lo : Option Operand} {n : Int} (h : IsLow a lo n) (h0 : 0 ≤ n) (h1 : n ≤ len) :
    (Instr.sliceBounds isSlice len cap (lo.map a.eval) none none).run P w = .ok (n.toNat, len, cap) w := by
  cases lo with
  | none => cases h; simp [Instr.sliceBounds]
  | some y =>
    obtain ⟨k, hk⟩ := h
    simp [Instr.sliceBounds, hk, run_sliceBound w k n len _ h0 h1]

theorem bounds_in {P : Program} {isSlice : Bool} {len cap : Nat} {lo : Option Operand} {n m : Int} {k : IntKind} (h : IsLow a lo n) (h0 : 0 ≤ n) (h1 : n ≤ m) (h2 : m ≤ cap) :
    (Instr.sliceBounds isSlice len cap (lo.map a.eval) (some (.int k m)) none).run P w = .ok (n.toNat, m.toNat, cap) w := by
  have h3 : (m.toNat : Int) = m := Int.toNat_of_nonneg (by omega)
  cases lo with
  | none => cases h; simp [Instr.sliceBounds, run_sliceBound w k m cap _ (by omega) h2]
  | some y =>
    obtain ⟨k', hk⟩ := h
    simp [Instr.sliceBounds, hk, run_sliceBound w k m cap _ (by omega) h2, run_sliceBound w k' n m.toNat _ h0 (by omega)]

theorem run_slice_str {P : Program} {T : TypeId} {s : ByteArray} {lo : Option Operand} {hi : Option Value} {n m p : Nat} (hu : P.underlying T = some .string)
    (h : (Instr.sliceBounds false s.size s.size (lo.map a.eval) hi none).run P w = .ok (n, m, p) w) :
    (Instr.sliceAt T (.string s) (lo.map a.eval) hi none).run P w = .ok (.string (s.extract n m)) w := by
  simp [Instr.sliceAt, Instr.slice, run_underlying hu, h]

theorem run_slice_sl {P : Program} {T e : TypeId} {inf : TypeInfo} {ad : Option Addr} {len cap : Nat} {lo : Option Operand} {hi : Option Value} {n m p : Nat} (hu : P.underlying T = some (.slice e)) (hi' : P.info? e = some inf)
    (h : (Instr.sliceBounds true len cap (lo.map a.eval) hi none).run P w = .ok (n, m, p) w) :
    (Instr.sliceAt T (.slice ad len cap) (lo.map a.eval) hi none).run P w = .ok (.slice (if p = n then ad else ad.map (·.add (n * inf.size))) (m - n) (p - n)) w := by
  simp [Instr.sliceAt, Instr.slice, run_underlying hu, h, run_size hi']

theorem flat_drop {l : List V} {sz : Nat} (hz : ∀ x ∈ l, x.cells.length = sz ∧ x.cells.all V.okCell = true) : ∀ (n : Nat), (l.drop n).flatMap V.cells = (l.flatMap V.cells).drop (n * sz) := by
  induction l with
  | nil => simp
  | cons x r ih =>
    intro n
    cases n with
    | zero => simp
    | succ n =>
      rw [List.drop_succ_cons, ih (fun y hy => hz y (by simp [hy])), List.flatMap_cons, List.drop_append, (hz x (by simp)).1, Nat.succ_mul]
      rw [show x.cells.drop (n * sz + sz) = [] from List.drop_eq_nil_of_le (by rw [(hz x (by simp)).1]; omega), List.nil_append]
      congr 1; omega

theorem flat_take {l : List V} {sz : Nat} (hz : ∀ x ∈ l, x.cells.length = sz ∧ x.cells.all V.okCell = true) : ∀ (n : Nat), (l.take n).flatMap V.cells = (l.flatMap V.cells).take (n * sz) := by
  induction l with
  | nil => simp
  | cons x r ih =>
    intro n
    cases n with
    | zero => simp
    | succ n =>
      rw [List.take_succ_cons, List.flatMap_cons, ih (fun y hy => hz y (by simp [hy])), List.flatMap_cons, List.take_append, (hz x (by simp)).1, Nat.succ_mul]
      rw [List.take_of_length_le (l := x.cells) (by rw [(hz x (by simp)).1]; omega)]
      congr 2; omega

theorem flat_len {l : List V} {sz : Nat} (hz : ∀ x ∈ l, x.cells.length = sz) : (l.flatMap V.cells).length = l.length * sz := by
  induction l with
  | nil => simp
  | cons x r ih =>
    rw [List.flatMap_cons, List.length_append, ih (fun y hy => hz y (by simp [hy])), hz x (by simp), List.length_cons, Nat.succ_mul]; omega

/-- a part of a slice: of what it has -/
theorem VRel.cut {bs : Nat → Nat} {I : Nat → Nat → Prop} {n : Nat} {l : List V} {r r' : Room} {b off len cap z : Nat} (h : VRel bs I w n (.sl l r) (.slice (some ⟨b, off, none⟩) len cap)) (hz : ∀ x ∈ l, x.cells.length = z)
    {lo hi : Nat} (h1 : lo ≤ hi) (h2 : hi ≤ l.length) (hr : r' = .ex → cap = hi) :
    VRel bs I w n (.sl ((l.take hi).drop lo) r') (.slice (if cap = lo then some ⟨b, off, none⟩ else some ⟨b, off + lo * z, none⟩) (hi - lo) (cap - lo)) := by
  cases h with
  | @sl _ _ _ _ _ _ _ sz u hl hcap hr0 hok hc hu =>
    have hlen : hi - lo = ((l.take hi).drop lo).length := by simp; omega
    by_cases hcl : cap = lo
    · rw [if_pos hcl]
      have hnil : (l.take hi).drop lo = [] := List.drop_eq_nil_of_le (by simp; omega)
      rw [hnil] at hlen ⊢
      exact .sl (sz := sz) u hlen (by simp at hlen; omega) (fun e => by have := hr e; simp at hlen; omega) (by simp) (by simp) (by simp)
    · rw [if_neg hcl]
      by_cases hne : l = []
      · subst hne
        simp at h2
        refine .sl (sz := sz) u hlen (by simp at hlen ⊢; omega) (fun e => by have := hr e; omega) (by simp) (by simp) (by simp)
      · have hsz : sz = z := by
          obtain ⟨x, hx⟩ := List.exists_mem_of_ne_nil l hne
          rw [← (hok x hx).1, hz x hx]
        subst hsz
        have hflat : ((l.take hi).drop lo).flatMap V.cells = ((l.flatMap V.cells).take (hi * sz)).drop (lo * sz) := by
          rw [flat_drop (fun x hx => hok x (List.mem_of_mem_take hx)), flat_take hok]
        refine .sl (sz := sz) (fun k => u (lo * sz + k)) hlen (by omega) (fun e => by have := hr e; omega) (fun x hx => hok x (List.mem_of_mem_take (List.mem_of_mem_drop hx))) (fun k v hk => ?_) (fun k v hk => ?_)
        · rw [hflat, List.getElem?_drop, List.getElem?_take] at hk
          split at hk
          · have := hc _ v hk
            rwa [show off + (lo * sz + k) = off + lo * sz + k by omega] at this
          · exact absurd hk (by simp)
        · rw [hflat, List.getElem?_drop, List.getElem?_take] at hk
          split at hk
          · exact hu _ v hk
          · exact absurd hk (by simp)


theorem Tok.drop {fam : Nat → Fam} {nt : Nat} {l : List V} {r : Room} {b off len cap z n : Nat} (h : Tok fam nt (.sl l r) (.slice (some ⟨b, off, none⟩) len cap)) (hlen : len = l.length) (hn : n ≤ l.length) (hcap : len ≤ cap)
    (hz : ∀ x ∈ l, x.cells.length = z) (hzp : 0 < z) (hzz : l = [] → n = 0) :
    Tok fam nt (.sl (l.drop n) r) (.slice (if cap = n then some ⟨b, off, none⟩ else some ⟨b, off + n * z, none⟩) (len - n) (cap - n)) := by
  cases r with
  | tok i sz =>
    obtain ⟨h1, h2, h3, a, len', cap', he, h4⟩ := h
    cases he
    refine ⟨h1, h2, fun x hx => h3 x (List.mem_of_mem_drop hx), _, _, _, rfl, ?_⟩
    rcases h4 with h4 | ⟨off', ho, h5, h6⟩
    · exact .inl (by omega)
    · by_cases hcn : cap = n
      · exact .inl (by omega)
      · right
        cases ho
        by_cases hl : l = []
        · have := hzz hl
          subst this
          rw [if_neg hcn]
          exact ⟨off, by simp, by simpa using h5, by simpa using h6⟩
        · have hsz : sz = z := by
            obtain ⟨x, hx⟩ := List.exists_mem_of_ne_nil l hl
            rw [← h3 x hx, hz x hx]
          subst hsz
          rw [if_neg hcn]
          refine ⟨off + n * sz, rfl, ?_, ?_⟩
          · rw [← h5, Nat.sub_mul]
            have : n * sz ≤ len * sz := Nat.mul_le_mul_right _ (by omega)
            omega
          · rw [show cap - n - (len - n) = cap - len by omega]; exact h6
  | _ => trivial

theorem sound_sliceF {T : TypeId} {x : Operand} {lo hi : Option Operand} (ho : o.op = .slice T x lo hi none) (H : Nexts c a o.dst K KP next Q) (hs : Sim c g w a ⟨t, ob, nt, df⟩)
    (h : ev t x fun x => lowK t lo fun l => match x with
    | .str b => match S.P.underlying T with
      | some .string => (match (generalizing := false) hi with
        | none => 0 ≤ l ∧ l ≤ b.size ∧ K (.str (b.extract l.toNat b.size)) ⟨t, ob, nt, df⟩
        | some y => ev t y fun y => match y with
          | .int _ h => 0 ≤ l ∧ l ≤ h ∧ h ≤ b.size ∧ K (.str (b.extract l.toNat h.toNat)) ⟨t, ob, nt, df⟩
          | _ => False)
      | _ => False
    | .sl xs r => match S.P.underlying T with
      | some (.slice e) => szK S.P e fun z => (match (generalizing := false) hi with
        | none => 0 ≤ l ∧ l ≤ xs.length ∧ (∀ x ∈ xs, x.cells.length = z) ∧ K (.sl (xs.drop l.toNat) r) ⟨t, ob, nt, df⟩
        | some y => ev t y fun y => match y with
          | .int _ h => 0 ≤ l ∧ l ≤ h ∧ h ≤ xs.length ∧ (∀ x ∈ xs, x.cells.length = z) ∧ K (.sl ((xs.take h.toNat).drop l.toNat) .no) ⟨t, ob, nt, df⟩
          | _ => False)
      | _ => False
    | _ => False) : o.wp S.P a w next Q := by
  obtain ⟨p, hp, hk0⟩ := ev_sound hs.ti h
  obtain ⟨l, hlow, hk⟩ := lowK_sound hs.ti hk0
  clear hk0 h
  have hr := hp.rel
  split at hk
  · -- a text
    rename_i b
    split at hk
    case h_2 => exact hk.elim
    rename_i hu
    generalize hx : a.eval x = e at hr
    cases hr
    cases hi with
    | none =>
      obtain ⟨h1, h2, hk⟩ := hk
      refine H.same hs (x := .string (b.extract l.toNat b.size)) ?_ (.of .str rfl) hk
      simp only [execOp, ho, hx, Sem.run_bind, Option.map_none, run_slice_str hu (bounds_to hlow h1 h2), Result.andThen_ok]
      rfl
    | some y =>
      obtain ⟨v, hv, hk⟩ := ev_sound hs.ti hk
      cases v <;> try exact hk.elim
      rename_i k m
      have hry := hv.rel
      generalize hy : a.eval y = ey at hry
      cases hry
      obtain ⟨h1, h2, h3, hk⟩ := hk
      refine H.same hs (x := .string (b.extract l.toNat m.toNat)) ?_ (.of .str rfl) hk
      simp only [execOp, ho, hx, Sem.run_bind, Option.map_none, Option.map_some, hy, run_slice_str hu (bounds_in hlow h1 h2 h3), Result.andThen_ok]
      rfl
  · -- a slice
    rename_i xs r
    split at hk
    case h_2 => exact hk.elim
    rename_i e hu
    obtain ⟨inf, hinf, hpos, hk⟩ := szK_iff hk
    cases hi with
    | none =>
      obtain ⟨h1, h2, hz, hk⟩ := hk
      have htok := hp.tok
      generalize hx : a.eval x = ex at hr htok
      cases hr with
      | slnil =>
        simp at h2
        have hl0 : l = 0 := by omega
        subst hl0
        refine H.same hs (x := .slice none 0 0) ?_ ⟨by simpa using (VRel.slnil (n := ob.length) (r := r)), ?_⟩ hk
        · simp only [execOp, ho, hx, Sem.run_bind, Option.map_none, run_slice_sl hu hinf (bounds_to (len := 0) (cap := 0) hlow h1 (by simp)), Result.andThen_ok]
          rfl
        · simpa using htok
      | @sl _ _ _ b off len cap sz u hl hcap hr0 hok hc hu' =>
        have hrun := run_slice_sl (ad := some ⟨b, off, none⟩) hu hinf (bounds_to (P := S.P) (w := w) (isSlice := true) (len := len) (cap := cap) hlow h1 (by omega))
        have hcut := (VRel.sl (n := ob.length) u hl hcap hr0 hok hc hu').cut (r' := r) (lo := l.toNat) (hi := xs.length) hz (by omega) (Nat.le_refl _) (fun e => by rw [hr0 e, hl])
        rw [List.take_length] at hcut
        rw [← hl] at hcut
        refine H.same hs (x := .slice (if cap = l.toNat then some ⟨b, off, none⟩ else some ⟨b, off + l.toNat * inf.size, none⟩) (len - l.toNat) (cap - l.toNat)) ?_ ⟨hcut, htok.drop hl (by omega) hcap hz hpos (fun e => by subst e; simp at h2; omega)⟩ hk
        simp only [execOp, ho, hx, Sem.run_bind, Option.map_none, hrun, Result.andThen_ok]
        simp only [Option.map_some, Addr.add_mid]
        rfl
    | some y =>
      obtain ⟨v, hv, hk⟩ := ev_sound hs.ti hk
      cases v <;> try exact hk.elim
      rename_i k m
      have hry := hv.rel
      generalize hy : a.eval y = ey at hry
      cases hry
      obtain ⟨h1, h2, h3, hz, hk⟩ := hk
      generalize hx : a.eval x = ex at hr
      cases hr with
      | slnil =>
        simp at h3
        have hl0 : l = 0 := by omega
        have hm0 : m = 0 := by omega
        subst hl0; subst hm0
        refine H.same hs (x := .slice none 0 0) ?_ (.of (by simpa using (VRel.slnil (n := ob.length) (r := .no))) rfl) hk
        simp only [execOp, ho, hx, Sem.run_bind, Option.map_none, Option.map_some, hy, run_slice_sl hu hinf (bounds_in (len := 0) (cap := 0) hlow h1 h2 (by simp)), Result.andThen_ok]
        rfl
      | @sl _ _ _ b off len cap sz u hl hcap hr0 hok hc hu' =>
        have hrun := run_slice_sl (ad := some ⟨b, off, none⟩) hu hinf (bounds_in (P := S.P) (w := w) (isSlice := true) (len := len) (cap := cap) (k := k) hlow h1 h2 (by omega))
        have hcut := (VRel.sl (n := ob.length) u hl hcap hr0 hok hc hu').cut (r' := .no) (lo := l.toNat) (hi := m.toNat) hz (by omega) (by omega) (by simp)
        refine H.same hs (x := .slice (if cap = l.toNat then some ⟨b, off, none⟩ else some ⟨b, off + l.toNat * inf.size, none⟩) (m.toNat - l.toNat) (cap - l.toNat)) ?_ (.of hcut rfl) hk
        simp only [execOp, ho, hx, Sem.run_bind, Option.map_none, Option.map_some, hy, hrun, Result.andThen_ok]
        simp only [Option.map_some, Addr.add_mid]
        rfl
  · exact hk.elim

theorem sound_sliceP {T : TypeId} {x : Operand} (ho : o.op = .slice T x none none none) (H : Nexts c a o.dst K KP next Q) (hs : Sim c g w a ⟨t, ob, nt, df⟩) {i n : Nat} {e : TypeId}
    (hp : VT g w ob.length nt (.ptr i 0) (a.eval x)) (hu : S.P.underlying T = some (.array n e))
    (hk : getK ob i fun o1 => match o1 with
        | .cells _ U cs => match cs.length == n && szOf S.P e == 1 && cs.all (fun c => match c with | .int _ _ => true | _ => false) with
          | true => setK ob i (.cells false U cs) fun objs => K (.sl cs .ex) ⟨t, objs, nt, df⟩
          | false => False
        | _ => False) : o.wp S.P a w next Q := by
  have hr := hp.rel
  obtain ⟨x1, h1, hk⟩ := getK_iff hk
  obtain ⟨wr, U, cs, rfl⟩ : ∃ wr U cs, x1 = .cells wr U cs := by
    cases x1 with
    | cells wr U cs => exact ⟨_, _, _, rfl⟩
    | _ => exact hk.elim
  simp only at hk
  split at hk
  case h_2 => exact hk.elim
  rename_i hck
  simp only [Bool.and_eq_true, beq_iff_eq] at hck
  obtain ⟨⟨hn, hsz⟩, hints⟩ := hck
  obtain ⟨hlt, hk⟩ := setK_iff hk
  obtain ⟨inf, hinf, hsz'⟩ := szOf_pos (n := 0) hsz
  obtain ⟨arr, g1, g2, g3⟩ := obj_cells hs.wi h1
  generalize hx : a.eval x = ex at hr
  cases hr with | ptr hlt' =>
  unfold Oper.wp
  have hrun : (execOp a.eval o).run S.P w = .ok (.value (.slice (some ⟨g.bs i, 0, none⟩) n n)) w := by
    simp only [execOp, ho, hx, Sem.run_bind, Instr.sliceAt, run_underlying hu, Result.andThen_ok, Instr.sureAddr, Option.map_none, Instr.sliceBounds, run_size hinf]
    simp [Addr.add]
  rw [hrun]
  have hw := WInv.freeze hs.wi h1 cs.length
  have he := Ext.freeze hs.wi (g.bs i) cs.length
  have hcell : ∀ x ∈ cs, x.cells = [x] ∧ x.okCell = true := fun x hx => by
    have := List.all_eq_true.1 hints x hx
    cases x <;> simp_all [V.cells, V.okCell]
  have hflat : ∀ l : List V, (∀ x ∈ l, x.cells = [x] ∧ x.okCell = true) → l.flatMap V.cells = l := fun l => by
    induction l with
    | nil => simp
    | cons y r ih => intro h; rw [List.flatMap_cons, ih fun x hx => h x (by simp [hx]), (h y (by simp)).1]; rfl
  refine H.val (.sl cs .ex) _ ⟨t, ob.set i (.cells false U cs), nt, df⟩ _ _ a hk ⟨hw, by simpa using he.tinv hs.ti, by simpa using he.drel hs.di⟩ rfl (.of ?_ rfl)
  refine .sl (sz := 1) (fun k => arr.getD k undef) hn.symm (Nat.le_refl _) (fun _ => rfl) (fun x hx => ?_) (fun k v hk => ?_) (fun k v hk => ?_)
  · rw [(hcell x hx).1]; simp [(hcell x hx).2]
  · rw [hflat cs hcell] at hk
    have hlt : k < arr.size := by rw [← g2]; exact (List.getElem?_eq_some_iff.1 hk).1
    refine ⟨?_, .inr ⟨rfl, by rw [g2]; omega⟩⟩
    simp [World.cell?, g1, Array.getD, hlt]
  · rw [hflat cs hcell] at hk
    have hlt : k < arr.size := by rw [← g2]; exact (List.getElem?_eq_some_iff.1 hk).1
    have hv := (he.vt (g3 k v arr[k] hk (by simp [hlt])).1).rel
    have hi := List.all_eq_true.1 hints v (List.mem_of_getElem? hk)
    have : arr.getD k undef = arr[k] := by simp [Array.getD, hlt]
    rw [this]
    exact hv.low (by cases v <;> simp_all [V.low])


/-! ### conversions, assertions -/

theorem bytesV_get {s : ByteArray} {k : Nat} {v : V} (h : (bytesV s)[k]? = some v) : ∃ (hk : k < s.size), v = .int .u8 (s.data[k]'hk).toNat := by
  unfold bytesV at h
  rw [List.getElem?_map] at h
  obtain ⟨x, hx, rfl⟩ := Option.map_eq_some_iff.1 h
  rw [Array.getElem?_toList] at hx
  obtain ⟨hk, hx⟩ := Array.getElem?_eq_some_iff.1 hx
  exact ⟨hk, by rw [hx]⟩

theorem bytesV_cells (s : ByteArray) : (bytesV s).flatMap V.cells = bytesV s := by
  unfold bytesV
  generalize s.data.toList = l
  induction l with
  | nil => rfl
  | cons x r ih => rw [List.map_cons, List.flatMap_cons, ih]; rfl

theorem bytesV_ok (s : ByteArray) : ∀ x ∈ bytesV s, x.cells.length = 1 ∧ x.cells.all V.okCell = true := by
  intro x hx
  obtain ⟨y, _, rfl⟩ := List.mem_map.1 hx
  exact ⟨rfl, rfl⟩

theorem bytesV_length (s : ByteArray) : (bytesV s).length = s.size := by unfold bytesV; rw [List.length_map]; rfl

theorem bytes_of {bs : Nat → Nat} {I : Nat → Nat → Prop} {n : Nat} {s : ByteArray} {r : Room} {x : Value} (h : VRel bs I w n (.sl (bytesV s) r) x) :
    (x = .slice none 0 0 ∧ s.size = 0) ∨ ∃ b off cap, x = .slice (some ⟨b, off, none⟩) s.size cap ∧ ∀ j (hj : j < s.size), w.cell? ⟨b, off + j, none⟩ = some (.int .u8 (s.data[j]'hj).toNat) := by
  generalize hl : bytesV s = l at h
  cases h with
  | slnil => exact .inl ⟨rfl, by rw [← bytesV_length, hl]; rfl⟩
  | @sl _ _ _ b off len cap sz u hlen hcap hr hz hc hu =>
    subst hl
    rw [bytesV_cells] at hc hu
    rw [bytesV_length] at hlen
    subst hlen
    refine .inr ⟨b, off, cap, rfl, fun j hj => ?_⟩
    have hj' : j < (bytesV s).length := by rw [bytesV_length]; exact hj
    have hg := List.getElem?_eq_getElem hj'
    obtain ⟨h1, _⟩ := hc j _ hg
    have h2 := hu j _ hg
    obtain ⟨_, e⟩ := bytesV_get hg
    rw [e] at h2
    rw [h1]
    generalize u j = y at h2
    cases h2; rfl

theorem sound_convert {A B : TypeId} {x : Operand} (ho : o.op = .convert A B x) (H : Nexts c a o.dst K KP next Q) (hs : Sim c g w a ⟨t, ob, nt, df⟩)
    (h : ev t x fun x => convK S.P A B x fun v => K v ⟨t, ob, nt, df⟩) : o.wp S.P a w next Q := by
  obtain ⟨p, hp, hk⟩ := ev_sound hs.ti h
  clear h
  have hr := hp.rel
  unfold convK at hk
  split at hk
  · rename_i hA hB
    generalize hx : a.eval x = e at hr
    cases hr
    refine H.same hs (x := .int _ (IntKind.wrap _ _)) ?_ (.of .int rfl) hk
    simp [execOp, ho, hx, convert, run_underlying hA, run_underlying hB, Conv.intToInt]
  · rename_i hA hB
    generalize hx : a.eval x = e at hr
    cases hr
    refine H.same hs (x := .string _) ?_ (.of .str rfl) hk
    simp [execOp, ho, hx, convert, run_underlying hA, run_underlying hB]
  · rename_i e s hA hB
    split at hk
    case h_2 => exact hk.elim
    rename_i he
    generalize hx : a.eval x = ex at hr
    cases hr
    have hrun := run_bytes_of_string (P := S.P) w A B e s hA hB he
    unfold Oper.wp
    have he' : (execOp a.eval o).run S.P w = .ok (.value (.slice (some ⟨w.heap.size, 0, none⟩) s.size (grownCap w s.size 0 e)))
        (w.drew.alloc (.cells (bytesRow s (grownCap w s.size 0 e)) e ((bytesRow s (grownCap w s.size 0 e)).size, (bytesRow s (grownCap w s.size 0 e)).size + 1))) := by
      simp only [execOp, ho, hx, Sem.run_bind, hrun, Result.andThen_ok]
      rfl
    rw [he']
    have hw1 := hs.wi.drew
    have e1 := Ext.drew g w ob.length nt
    have hw2 := WInv.data hw1 (.cells (bytesRow s (grownCap w s.size 0 e)) e ((bytesRow s (grownCap w s.size 0 e)).size, (bytesRow s (grownCap w s.size 0 e)).size + 1)) s.size
    have e2 := Ext.data hw1 (.cells (bytesRow s (grownCap w s.size 0 e)) e ((bytesRow s (grownCap w s.size 0 e)).size, (bytesRow s (grownCap w s.size 0 e)).size + 1)) s.size
    refine H.val (.sl (bytesV s) .no) _ ⟨t, ob, nt, df⟩ _ _ a hk ⟨hw2, e2.tinv (e1.tinv hs.ti), e2.drel (e1.drel hs.di)⟩ rfl (.of ?_ rfl)
    refine .sl (sz := 1) (fun k => (bytesRow s (grownCap w s.size 0 e)).getD k undef) (bytesV_length s).symm ?_ (by simp) (bytesV_ok s) (fun k v hk => ?_) (fun k v hk => ?_)
    · have : s.size ≤ grownCap w s.size 0 e := by unfold grownCap Question.cut; simp
      exact this
    · rw [bytesV_cells] at hk
      obtain ⟨hlt, _⟩ := bytesV_get hk
      have hsz : k < (bytesRow s (grownCap w s.size 0 e)).size := by
        unfold bytesRow; rw [Array.size_append, Array.size_map]
        have : k < s.data.size := hlt
        omega
      refine ⟨?_, .inr ⟨rfl, by omega⟩⟩
      rw [Nat.zero_add]
      rw [show w.heap.size = w.drew.heap.size from rfl, World.cell?_alloc_mark]
      simp [Array.getD, hsz]
    · rw [bytesV_cells] at hk
      obtain ⟨hlt, rfl⟩ := bytesV_get hk
      have hlt' : k < s.data.size := hlt
      have : (bytesRow s (grownCap w s.size 0 e)).getD k undef = .int .u8 (s.data[k]).toNat := by
        unfold bytesRow
        have h1 : k < (s.data.map (fun b : UInt8 => Value.int .u8 b.toNat) ++ Array.replicate (grownCap w s.size 0 e - s.size) (Value.int .u8 0)).size := by
          rw [Array.size_append, Array.size_map]; omega
        rw [Array.getD, dif_pos h1, Array.getInternal_eq_getElem, Array.getElem_append_left (by rw [Array.size_map]; exact hlt'), Array.getElem_map]
      rw [this]
      exact .int
  · rename_i e l r hA hB
    split at hk
    case h_2 => exact hk.elim
    rename_i he
    obtain ⟨s, rfl, hk⟩ := hk
    have hrun : (convert A B (a.eval x)).run S.P w = .ok (.string s) w := by
      rcases bytes_of hr with ⟨hx, h0⟩ | ⟨b, off, cap, hx, hc⟩
      · rw [hx, run_convert_bytes_nil w A e hA he 0 0 B hB]
        have : s = ByteArray.empty := by
          obtain ⟨d⟩ := s
          have : d = #[] := Array.eq_empty_of_size_eq_zero h0
          subst this; rfl
        rw [this]
      · rw [hx]
        have := run_convert_bytes_back (P := S.P) w A B e ⟨b, off, none⟩ cap s.data.toList hA he hB (fun j hj => by
          rw [Addr.add_mid]
          rw [hc j (by rw [Array.length_toList] at hj; exact hj)]
          simp)
        rw [Array.length_toList] at this
        exact this
    refine H.same hs (x := .string s) ?_ (.of .str rfl) hk
    simp only [execOp, ho, Sem.run_bind, hrun, Result.andThen_ok]
    rfl
  · exact hk.elim

theorem sound_typeAssert {T U : TypeId} {x : Operand} {ok : Bool} (ho : o.op = .typeAssert x U T ok) (H : Nexts c a o.dst K KP next Q) (hs : Sim c g w a ⟨t, ob, nt, df⟩)
    (h : ev t x fun x => match S.P.underlying T with
    | some (.interface _) => False
    | some _ => assertK S.P T ok x fun v => K v ⟨t, ob, nt, df⟩
    | none => False) : o.wp S.P a w next Q := by
  obtain ⟨p, hp, hk0⟩ := ev_sound hs.ti h
  clear h
  have hr := hp.rel
  obtain ⟨d, hu, hd, hk⟩ : ∃ d, S.P.underlying T = some d ∧ (∀ ms, d ≠ .interface ms) ∧ assertK S.P T ok p fun v => K v ⟨t, ob, nt, df⟩ := by
    cases hu : S.P.underlying T with
    | none => rw [hu] at hk0; exact hk0.elim
    | some d =>
      rw [hu] at hk0
      cases d <;> first | exact hk0.elim | exact ⟨_, rfl, by simp, hk0⟩
  clear hk0
  have hz : ∀ {i : TypeInfo} {z : Value}, S.P.info? T = some i → i.zero = some z → (zeroValue T).run S.P w = .ok z w := fun h1 h2 => by simp [zeroValue, typeInfo, h1, h2]
  have htup : ∀ {z : Value} {v : V} {b : Bool}, VRel g.bs g.I w ob.length v z → VRel g.bs g.I w ob.length (.tup [v, .bool b]) (.tuple #[z, .bool b]) := fun hv => .tup rfl fun k v c h1 h2 => by
    match k with
    | 0 => simp at h1 h2; subst h1; subst h2; exact hv
    | 1 => simp at h1 h2; subst h1; subst h2; exact .bool
    | k + 2 => simp at h1
  unfold assertK at hk
  split at hk
  · rename_i T' v
    generalize hx : a.eval x = e at hr
    cases hr with | @ifc _ _ _ y hy =>
    split at hk
    · rename_i hT
      have hT : T' = T := Nat.eq_of_beq_eq_true hT
      subst hT
      simp only [V.untokK, force_eq] at hk
      cases ok with
      | true =>
        refine H.same hs (x := .tuple #[y, .bool true]) ?_ (.of (htup hy.untok) rfl) hk
        simp only [execOp, ho, hx, Instr.typeAssert, Sem.run_bind, run_underlying hu, Result.andThen_ok]
        cases d <;> simp_all
      | false =>
        refine H.same hs (x := y) ?_ (.of hy.untok (untok_noTok _)) hk
        simp only [execOp, ho, hx, Instr.typeAssert, Sem.run_bind, run_underlying hu, Result.andThen_ok]
        cases d <;> simp_all
    · rename_i hT
      have hT : ¬ T' = T := Nat.ne_of_beq_eq_false hT
      cases ok with
      | false => exact hk.elim
      | true =>
        obtain ⟨i, z, h1, h2, hk⟩ := zeroV_iff hk
        refine H.same hs (x := .tuple #[z, .bool false]) ?_ (.of (htup (ofConstAgg_rel z)) rfl) hk
        simp only [execOp, ho, hx, Instr.typeAssert, Sem.run_bind, run_underlying hu, Result.andThen_ok]
        cases d <;> simp_all
  · generalize hx : a.eval x = e at hr
    cases hr
    cases ok with
    | false => exact hk.elim
    | true =>
      obtain ⟨i, z, h1, h2, hk⟩ := zeroV_iff hk
      refine H.same hs (x := .tuple #[z, .bool false]) ?_ (.of (htup (ofConstAgg_rel z)) rfl) hk
      simp only [execOp, ho, hx, Instr.typeAssert, Sem.run_bind, run_underlying hu, Result.andThen_ok]
      cases d <;> simp_all
  · exact hk.elim

end
end VL

namespace VL
open Go
set_option linter.unusedVariables false
set_option linter.unusedSimpArgs false

section
variable {S : Sys} {c : Ctx} {g : G} {w : World} {a : Act} {o : Oper} {K KP : V → St → Prop} {next : Act → World → Prop} {Q : Exit → Act → World → Prop}
  {t : List V} {ob : List VObj} {nt : Nat} {df : List (Fn × List V × List V)}

theorem partsK_sound {g : G} {n nt : Nat} (h : TInv g w n nt a.tmps t) : ∀ {ps : List (Nat × Operand)} {K : List (Nat × V) → Prop}, partsK t ps K →
    ∃ vs : List (Nat × V), vs.length = ps.length ∧ (∀ (k : Nat) v x, vs[k]? = some v → ps[k]? = some x → v.1 = x.1 ∧ VRel g.bs g.I w n v.2 (a.eval x.2) ∧ v.2.noTok = true) ∧ K vs
  | [], K, hk => ⟨[], rfl, by simp, hk⟩
  | (i, x) :: r, K, hk => by
    obtain ⟨v, h1, h2⟩ := ev_sound h hk
    simp only [V.untokK, force_eq] at h2
    obtain ⟨vs, h3, h4, h5⟩ := partsK_sound h h2
    refine ⟨(i, v.untok) :: vs, by simp [h3], fun k u y hu hy => ?_, h5⟩
    cases k with
    | zero => simp at hu hy; subst hu; subst hy; exact ⟨rfl, h1.rel.untok, untok_noTok v⟩
    | succ k => exact h4 k u y (by simpa using hu) (by simpa using hy)

/-- cells laid into cells, one by one -/
theorem foldl_set : ∀ (vs : List Value) (j off : Nat) (cs : Array Value), ((vs.zipIdx j).foldl (fun cs (x : Value × Nat) => cs.setIfInBounds (off + x.2) x.1) cs).size = cs.size ∧
    ∀ k, ((vs.zipIdx j).foldl (fun cs (x : Value × Nat) => cs.setIfInBounds (off + x.2) x.1) cs)[k]? = if off + j ≤ k ∧ k < off + j + vs.length ∧ k < cs.size then vs[k - (off + j)]? else cs[k]?
  | [], j, off, cs => ⟨rfl, fun k => by rw [if_neg (by simp only [List.length_nil]; omega)]; rfl⟩
  | v :: vs, j, off, cs => by
    obtain ⟨h1, h2⟩ := foldl_set vs (j + 1) off (cs.setIfInBounds (off + j) v)
    rw [Array.size_setIfInBounds] at h1 h2
    refine ⟨by rw [List.zipIdx_cons, List.foldl_cons]; exact h1, fun k => ?_⟩
    rw [List.zipIdx_cons, List.foldl_cons, h2 k, List.length_cons]
    by_cases hk : k = off + j
    · subst hk
      rw [if_neg (by omega)]
      rw [Array.getElem?_setIfInBounds]
      by_cases hs : off + j < cs.size
      · rw [if_pos rfl, if_pos hs, if_pos (by omega)]; simp
      · rw [if_pos rfl, if_neg hs, if_neg (by omega)]
        exact (Array.getElem?_eq_none (by omega)).symm
    · rw [Array.getElem?_setIfInBounds, if_neg (Ne.symm hk)]
      by_cases hc : off + (j + 1) ≤ k ∧ k < off + (j + 1) + vs.length ∧ k < cs.size
      · rw [if_pos hc, if_pos (by omega)]
        rw [show k - (off + j) = (k - (off + (j + 1))) + 1 by omega, List.getElem?_cons_succ]
      · rw [if_neg hc, if_neg (by omega)]

/-- cells, and the machine's -/
def CRel (bs : Nat → Nat) (I : Nat → Nat → Prop) (w : World) (n : Nat) (cs : List V) (ca : Array Value) : Prop :=
  cs.length = ca.size ∧ ∀ (k : Nat) v c, cs[k]? = some v → ca[k]? = some c → VRel bs I w n v c

theorem any_cells {bs : Nat → Nat} {I : Nat → Nat → Prop} {n : Nat} {v : V} {x : Value} (h : VRel bs I w n v x) (hv : v ≠ .undef) : CRel bs I w n v.cells x.cells := by
  cases h with
  | undef => exact absurd rfl hv
  | agg hl hh => exact ⟨hl, hh⟩
  | _ => refine ⟨rfl, fun k u y hu hy => ?_⟩; (cases k <;> simp [V.cells, Value.cells] at hu hy); subst hu; subst hy; constructor <;> assumption

theorem fill_sound {bs : Nat → Nat} {I : Nat → Nat → Prop} {n : Nat} {place : Nat → Option (Nat × Nat)} : ∀ {ps : List (Nat × V)} {qs : List (Nat × Value)} {cs : List V} {ca : Array Value} {K : List V → Prop},
    CRel bs I w n cs ca → ps.length = qs.length → (∀ (k : Nat) v x, ps[k]? = some v → qs[k]? = some x → v.1 = x.1 ∧ VRel bs I w n v.2 x.2) → fillK place cs ps K →
    ∃ cs' ca', Instr.fill place ca qs = some ca' ∧ CRel bs I w n cs' ca' ∧ K cs'
  | [], [], cs, ca, K, hc, _, _, hk => ⟨cs, ca, rfl, hc, hk⟩
  | [], _ :: _, _, _, _, _, h, _, _ => by simp at h
  | _ :: _, [], _, _, _, _, h, _, _ => by simp at h
  | (i, v) :: r, (j, x) :: qs, cs, ca, K, hc, hl, hr, hk => by
    obtain ⟨e, hv⟩ := hr 0 _ _ rfl rfl
    simp only at e hv
    subst e
    unfold fillK at hk
    split at hk
    case h_2 => exact hk.elim
    rename_i off size hp
    rw [force_eq] at hk
    split at hk
    case h_2 => exact hk.elim
    rename_i hsz
    simp only [Bool.and_eq_true, beq_iff_eq] at hsz
    obtain ⟨hsz, hok⟩ := hsz
    obtain ⟨hfit, hk⟩ := spliceK_iff hk
    have hvn : v ≠ .undef := by rintro rfl; simp [V.cells, V.okCell] at hok
    obtain ⟨hvl, hvr⟩ := any_cells hv hvn
    have hx : x.cells.size = size := by rw [← hvl, hsz]
    have hcl := hc.1
    unfold Instr.fill
    rw [hp]
    simp only
    rw [if_neg (by simp only [Bool.or_eq_true, decide_eq_true_eq, not_or, ne_eq, Classical.not_not]; omega)]
    have hf := foldl_set x.cells.toList 0 off ca
    have hfold : x.cells.zipIdx.foldl (fun cs (c, j) => cs.setIfInBounds (off + j) c) ca = (x.cells.toList.zipIdx 0).foldl (fun cs (x : Value × Nat) => cs.setIfInBounds (off + x.2) x.1) ca := by
      rw [← Array.foldl_toList, Array.toList_zipIdx]
    rw [hfold]
    refine fill_sound (cs := cs.take off ++ v.cells ++ cs.drop (off + v.cells.length)) ⟨?_, fun k u y hu hy => ?_⟩ (by simpa using hl) (fun k v x h1 h2 => hr (k + 1) v x (by simpa using h1) (by simpa using h2)) hk
    · rw [hf.1]; simp; omega
    · rw [hf.2] at hy
      have hl1 : (cs.take off ++ v.cells).length = off + v.cells.length := by simp; omega
      have hl3 : (cs.take off).length = off := by simp; omega
      rw [List.getElem?_append, hl1] at hu
      rw [Array.length_toList, Nat.add_zero] at hy
      split at hu
      · rename_i hk1
        rw [List.getElem?_append, hl3] at hu
        split at hu
        · rename_i hk2
          rw [if_neg (by omega)] at hy
          rw [List.getElem?_take, if_pos hk2] at hu
          exact hc.2 k u y hu hy
        · rename_i hk2
          rw [if_pos (by omega)] at hy
          exact hvr _ u y hu (by simpa using hy)
      · rename_i hk1
        rw [if_neg (by omega)] at hy
        rw [List.getElem?_drop, show off + v.cells.length + (k - (off + v.cells.length)) = k by omega] at hu
        exact hc.2 k u y hu hy

theorem run_parts {n : Nat} {ps : List (Nat × Operand)} {vs : List (Nat × V)} (hl : vs.length = ps.length)
    (hr : ∀ (k : Nat) v x, vs[k]? = some v → ps[k]? = some x → v.1 = x.1 ∧ VRel g.bs g.I w n v.2 (a.eval x.2) ∧ v.2.noTok = true) :
    ∀ (k : Nat) v x, vs[k]? = some v → (ps.map fun (i, x) => (i, a.eval x))[k]? = some x → v.1 = x.1 ∧ VRel g.bs g.I w n v.2 x.2 := by
  intro k v x h1 h2
  rw [List.getElem?_map] at h2
  obtain ⟨y, hy, rfl⟩ := Option.map_eq_some_iff.1 h2
  exact ⟨(hr k v y h1 hy).1, (hr k v y h1 hy).2.1⟩

theorem agg_cells {bs : Nat → Nat} {I : Nat → Nat → Prop} {n : Nat} (z : Value) : CRel bs I w n (ofConstAgg z).cells z.cells := by
  have h : VRel bs I w n (ofConstAgg z) z := ofConstAgg_rel z
  have one : (∀ cs, z ≠ .agg cs) → CRel bs I w n (ofConstAgg z).cells z.cells := fun hv => by
    have e0 : ofConstAgg z = ofConst z := by cases z <;> first | rfl | exact absurd rfl (hv _)
    have e1 : (ofConst z).cells = [ofConst z] := by unfold ofConst; split <;> rfl
    have e2 : z.cells = #[z] := by cases z <;> first | rfl | exact absurd rfl (hv _)
    rw [e0, e1, e2]
    refine ⟨rfl, fun k u y hu hy => ?_⟩
    cases k with
    | zero => simp at hu hy; subst hu; subst hy; exact ofConst_rel z
    | succ k => simp at hu
  cases z with
  | agg cs => cases h with | agg hl hh => exact ⟨hl, hh⟩
  | _ => exact one (by simp)

theorem sound_build {T : TypeId} {parts : Array (Nat × Operand)} (ho : o.op = .build T parts) (H : Nexts c a o.dst K KP next Q) (hs : Sim c g w a ⟨t, ob, nt, df⟩)
    (h : partsK t parts.toList fun ps => buildK S.P T ps fun v => K v ⟨t, ob, nt, df⟩) : o.wp S.P a w next Q := by
  obtain ⟨ps, hl, hr, hk⟩ := partsK_sound hs.ti h
  unfold buildK at hk
  obtain ⟨i, z, hi, hz, hk⟩ := zeroV_iff hk
  have hrp := run_parts hl hr
  have key : ∀ {place : Nat → Option (Nat × Nat)}, fillK place (ofConstAgg z).cells ps (fun cs => K (.agg cs) ⟨t, ob, nt, df⟩) → (∀ ca, Instr.fill place z.cells (parts.toList.map fun (i, x) => (i, a.eval x)) = some ca → S.P.built T (parts.toList.map fun (i, x) => (i, a.eval x)) = some ca) →
      o.wp S.P a w next Q := fun hk hb => by
    obtain ⟨cs, ca, h1, h2, h3⟩ := fill_sound (agg_cells z) (by simp [hl]) hrp hk
    have hrun := run_build (P := S.P) w T (parts.map fun (i, x) => (i, a.eval x)) ca (by rw [Array.toList_map]; exact hb ca h1)
    refine H.same hs (x := .agg ca) ?_ (.of (.agg h2.1 h2.2) rfl) h3
    simp only [execOp, ho, Sem.run_bind, hrun, Result.andThen_ok]
    rfl
  split at hk
  · rename_i fs hu
    split at hk
    case h_2 => exact hk.elim
    rename_i hall
    have hex : ∃ places : List (Nat × Nat), fs.toList.mapM (fun f : Field => (S.P.info? f.type).map fun i => (f.offset, i.size)) = some places ∧ ∀ i : Nat, places[i]? = (fs.toList[i]?).map fun f : Field => (f.offset, szOf S.P f.type) := by
      generalize fs.toList = l at hall
      clear hk hu
      induction l with
      | nil => exact ⟨[], rfl, by simp⟩
      | cons f r ih =>
        simp only [List.all_cons, Bool.and_eq_true] at hall
        obtain ⟨inf, hinf⟩ := Option.isSome_iff_exists.1 hall.1
        obtain ⟨p, hp, hg⟩ := ih hall.2
        refine ⟨(f.offset, inf.size) :: p, ?_, fun i => ?_⟩
        · rw [List.mapM_cons]; simp [hinf, hp]
        · cases i with
          | zero => simp [szOf, hinf]
          | succ i => simpa using hg i
    obtain ⟨places, hp, hg⟩ := hex
    refine key hk fun ca hf => ?_
    unfold Program.built
    rw [hi, hu]
    simp only [hz, hp]
    rw [← hf]
    congr 1
    funext i
    rw [List.getElem?_toArray]
    exact hg i
  · rename_i n e hu
    split at hk
    case h_2 => exact hk.elim
    rename_i he
    obtain ⟨inf, hinf⟩ := Option.isSome_iff_exists.1 he
    refine key hk fun ca hf => ?_
    unfold Program.built
    rw [hi, hu]
    simp only [hz, hinf]
    rw [← hf, szOf_info hinf]
  · exact hk.elim

theorem inOrder_len : ∀ {ps : List (Nat × V)} {i : Nat} {l : List V}, inOrder i ps = some l → ps.length = l.length
  | [], i, l, h => by simp [inOrder] at h; subst h; rfl
  | (j, v) :: r, i, l, h => by
    simp only [inOrder] at h
    split at h
    · obtain ⟨l', hl', rfl⟩ := Option.map_eq_some_iff.1 h
      simp [inOrder_len hl']
    · cases h

theorem sizesOk_get {n : Nat} : ∀ {l : List V}, sizesOk n l = true → ∀ x ∈ l, x.cells.length = n ∧ x.cells.all V.okCell = true ∧ x.tokOk = true
  | [], _, x, hx => by simp at hx
  | v :: r, h, x, hx => by
    simp only [sizesOk, Bool.and_eq_true, beq_iff_eq] at h
    cases hx with
    | head => exact ⟨h.1.1.1, h.1.1.2, h.1.2⟩
    | tail _ hx => exact sizesOk_get h.2 x hx

theorem fill_row {bs : Nat → Nat} {I : Nat → Nat → Prop} {n size : Nat} : ∀ {ps : List (Nat × V)} {qs : List (Nat × Value)} {i : Nat} {l : List V} {ca : Array Value},
    inOrder i ps = some l → ps.length = qs.length → (∀ (k : Nat) v x, ps[k]? = some v → qs[k]? = some x → v.1 = x.1 ∧ VRel bs I w n v.2 x.2) →
    (∀ x ∈ l, x.cells.length = size ∧ x.cells.all V.okCell = true ∧ x.tokOk = true) → (i + ps.length) * size ≤ ca.size →
    ∃ ca', Instr.fill (fun i => some (i * size, size)) ca qs = some ca' ∧ ca'.size = ca.size ∧ (∀ k, k < i * size → ca'[k]? = ca[k]?) ∧ l.length = ps.length ∧
      ∀ (k : Nat) v c, (l.flatMap V.cells)[k]? = some v → ca'[i * size + k]? = some c → VRel bs I w n v c
  | [], [], i, l, ca, hi, _, _, _, _ => by
    simp [inOrder] at hi; subst hi
    exact ⟨ca, rfl, rfl, fun _ _ => rfl, rfl, by simp⟩
  | [], _ :: _, _, _, _, _, h, _, _, _ => by simp at h
  | _ :: _, [], _, _, _, _, h, _, _, _ => by simp at h
  | (j, v) :: r, (j', x) :: qs, i, l, ca, hi, hl, hr, hz, hfit => by
    obtain ⟨e, hv⟩ := hr 0 _ _ rfl rfl
    simp only at e hv
    subst e
    simp only [inOrder] at hi
    split at hi
    case isFalse => cases hi
    rename_i hij
    subst hij
    obtain ⟨l', hl', rfl⟩ := Option.map_eq_some_iff.1 hi
    obtain ⟨hsz, hok, _⟩ := hz v (by simp)
    have hvn : v ≠ .undef := by rintro rfl; simp [V.cells, V.okCell] at hok
    obtain ⟨hvl, hvr⟩ := any_cells hv hvn
    have hx : x.cells.size = size := by rw [← hvl, hsz]
    simp only [List.length_cons] at hfit hl
    have hmul : (i + (r.length + 1)) * size = i * size + size + r.length * size := by rw [Nat.add_mul, Nat.add_mul]; omega
    have hf := foldl_set x.cells.toList 0 (i * size) ca
    have hfold : x.cells.zipIdx.foldl (fun cs (c, j) => cs.setIfInBounds (i * size + j) c) ca = (x.cells.toList.zipIdx 0).foldl (fun cs (x : Value × Nat) => cs.setIfInBounds (i * size + x.2) x.1) ca := by
      rw [← Array.foldl_toList, Array.toList_zipIdx]
    obtain ⟨ca', h1, h2, h3, h4, h5⟩ := fill_row (qs := qs) (ca := (x.cells.toList.zipIdx 0).foldl (fun cs (x : Value × Nat) => cs.setIfInBounds (i * size + x.2) x.1) ca) hl' (by omega)
      (fun k v x g1 g2 => hr (k + 1) v x (by simpa using g1) (by simpa using g2)) (fun x hx => hz x (by simp [hx])) (by rw [hf.1, Nat.add_mul, Nat.succ_mul]; omega)
    refine ⟨ca', ?_, by rw [h2, hf.1], fun k hk => ?_, by simp [h4], fun k u c hu hc => ?_⟩
    · unfold Instr.fill
      simp only
      rw [if_neg (by simp only [Bool.or_eq_true, decide_eq_true_eq, not_or, ne_eq, Classical.not_not]; omega), hfold]
      exact h1
    · rw [h3 k (by rw [Nat.succ_mul]; omega), hf.2, if_neg (by omega)]
    · rw [List.flatMap_cons, List.getElem?_append, hsz] at hu
      split at hu
      · rename_i hks
        rw [h3 _ (by rw [Nat.succ_mul]; omega), hf.2, Array.length_toList, if_pos (by omega)] at hc
        rw [show i * size + k - (i * size + 0) = k by omega] at hc
        exact hvr k u c hu (by simpa using hc)
      · rename_i hks
        refine h5 (k - size) u c hu ?_
        rwa [Nat.succ_mul, show i * size + size + (k - size) = i * size + k by omega]

theorem sound_buildSlice {T : TypeId} {n : Nat} {parts : Array (Nat × Operand)} (ho : o.op = .buildSlice T n parts) (H : Nexts c a o.dst K KP next Q) (hs : Sim c g w a ⟨t, ob, nt, df⟩)
    (h : partsK t parts.toList fun ps => match inOrder 0 ps with
    | some l => match l.length == n && sizesOk (szOf S.P (elemT S.P T)) l with
      | true => szK S.P (elemT S.P T) fun z => match Nat.blt 16777216 (n * z), (S.P.info? (elemT S.P T)).bind (·.zero) with
        | false, some zv => (match zv.cells.size == z with
          | true => (match S.P.underlying T, S.P.underlying (elemT S.P T) with
            | some (.slice _), some (.func ..) => K (.slp l) ⟨t, ob, nt, df⟩
            | some (.slice _), some (.pointer _) => K (.slp l) ⟨t, ob, nt, df⟩
            | some (.slice _), _ => (match V.lowL 0 l with | true => K (.sl l .ex) ⟨t, ob, nt, df⟩ | false => False)
            | _, _ => False)
          | false => False)
        | _, _ => False
      | false => False
    | none => False) : o.wp S.P a w next Q := by
  obtain ⟨ps, hl, hr, hk⟩ := partsK_sound hs.ti h
  clear h
  split at hk
  case h_2 => exact hk.elim
  rename_i l hio
  split at hk
  case h_2 => exact hk.elim
  rename_i hck
  simp only [Bool.and_eq_true, beq_iff_eq] at hck
  obtain ⟨hln, hsz⟩ := hck
  obtain ⟨inf, hinf, hpos, hk⟩ := szK_iff hk
  split at hk
  case h_2 => exact hk.elim
  rename_i zv hb hzv
  have hb : ¬ 16777216 < n * inf.size := by
    intro e
    have : Nat.blt 16777216 (n * inf.size) = true := by rw [Nat.blt_eq]; exact e
    rw [this] at hb; cases hb
  split at hk
  case h_2 => exact hk.elim
  rename_i hzs
  have hzs : zv.cells.size = inf.size := by simpa using hzs
  rw [szOf_info hinf] at hsz
  have hzz := sizesOk_get hsz
  have hzero : inf.zero = some zv := by simpa [hinf] using hzv
  have main : ∀ {e : TypeId}, S.P.underlying T = some (.slice e) → ∃ cells : Array Value, (execOp a.eval o).run S.P w = .ok (.value (.slice (some ⟨w.heap.size, 0, none⟩) n n)) (w.alloc (.cells cells e)) ∧ cells.size = n * inf.size ∧
      (∀ (k : Nat) v c, (l.flatMap V.cells)[k]? = some v → cells[k]? = some c → VRel g.bs g.I w ob.length v c) ∧ l.length = n := fun {e} hu => by
    have he : elemT S.P T = e := by simp [elemT, hu]
    rw [he] at hinf
    have hpl : ps.length = l.length := inOrder_len hio
    have hbase : ((Array.range (n * inf.size)).map (zv.cells[· % zv.cells.size]!)).size = n * inf.size := by simp
    obtain ⟨ca, h1, h2, h3, h4, h5⟩ := fill_row (w := w) (bs := g.bs) (I := g.I) (n := ob.length) (size := inf.size) (ca := (Array.range (n * inf.size)).map (zv.cells[· % zv.cells.size]!)) hio
      (qs := parts.toList.map fun (i, x) => (i, a.eval x)) (by simp [hl]) (run_parts hl hr) hzz (by rw [hbase, Nat.zero_add, hpl, hln]; exact Nat.le_refl _)
    refine ⟨ca, ?_, by rw [h2, hbase], fun k v c hv hc => h5 k v c hv (by simpa using hc), hln⟩
    simp only [execOp, ho, Instr.buildSlice, Sem.run_bind, run_underlying hu, Result.andThen_ok, run_size hinf]
    rw [if_neg hb]
    by_cases h0 : n * inf.size = 0
    · have hca : ca = #[] := Array.eq_empty_of_size_eq_zero (by rw [h2, hbase, h0])
      rw [h0] at h1
      simp only [h0, if_true, Sem.run_pure, Result.andThen_ok]
      have h1' : Instr.fill (fun i => some (i * inf.size, inf.size)) ((Array.range 0).map fun x => (#[] : Array Value)[x % (#[] : Array Value).size]!) (parts.map fun (i, x) => (i, a.eval x)).toList = some ca := by
        rw [Array.toList_map]
        have e0 : ∀ f : Nat → Value, (Array.range 0).map f = #[] := fun f => by simp [Array.range]
        rw [e0] at h1 ⊢
        exact h1
      simp only [h1', newRow, Sem.run_bind, run_newObj_alloc, Result.andThen_ok, Sem.run_pure]
    · have hzr : (zeroValue e).run S.P w = .ok zv w := by simp [zeroValue, typeInfo, hinf, hzero]
      have h1' : Instr.fill (fun i => some (i * inf.size, inf.size)) ((Array.range (n * inf.size)).map fun x => zv.cells[x % zv.cells.size]!) (parts.map fun (i, x) => (i, a.eval x)).toList = some ca := by
        rw [Array.toList_map]; exact h1
      simp only [h0, if_false, Sem.run_bind, hzr, Sem.run_pure, Result.andThen_ok, h1', newRow, run_newObj_alloc]
  have fin : ∀ {e : TypeId} {v : V}, S.P.underlying T = some (.slice e) → (∀ (cells : Array Value), cells.size = n * inf.size → (∀ (k : Nat) v c, (l.flatMap V.cells)[k]? = some v → cells[k]? = some c → VRel g.bs g.I w ob.length v c) → l.length = n →
      VRel g.bs (g.data w.heap.size (n * inf.size)).I (w.alloc (.cells cells e)) ob.length v (.slice (some ⟨w.heap.size, 0, none⟩) n n)) → v.noTok = true → K v ⟨t, ob, nt, df⟩ → o.wp S.P a w next Q := fun {e v} hu hv hnt hk => by
    obtain ⟨cells, hrun, h1, h2, h3⟩ := main hu
    unfold Oper.wp
    rw [hrun]
    have hw := WInv.data hs.wi (.cells cells e) (n * inf.size)
    have he := Ext.data hs.wi (.cells cells e) (n * inf.size)
    exact H.val v _ _ _ _ a hk ⟨hw, he.tinv hs.ti, he.drel hs.di⟩ rfl (.of (hv cells h1 h2 h3) hnt)
  have hcell : ∀ (cells : Array Value) (e : TypeId), cells.size = n * inf.size → l.length = n → ∀ (k : Nat) v, (l.flatMap V.cells)[k]? = some v →
      (w.alloc (.cells cells e)).cell? ⟨w.heap.size, 0 + k, none⟩ = some (cells.getD k undef) ∧ (g.data w.heap.size (n * inf.size)).I w.heap.size (0 + k) := fun cells e h1 h3 k v hk => by
    have hlt : k < n * inf.size := by
      have := (List.getElem?_eq_some_iff.1 hk).1
      rwa [flat_len (fun x hx => (hzz x hx).1), h3] at this
    rw [Nat.zero_add]
    refine ⟨?_, .inr ⟨rfl, hlt⟩⟩
    rw [World.cell?_alloc_new]
    simp [Array.getD, h1, hlt]
  have hslp : ∀ {e : TypeId}, S.P.underlying T = some (.slice e) → K (.slp l) ⟨t, ob, nt, df⟩ → o.wp S.P a w next Q := fun {e} hu hk => by
    refine fin hu (fun cells h1 h2 h3 => ?_) rfl hk
    have he := Ext.data hs.wi (.cells cells e) (n * inf.size)
    refine .slp (sz := inf.size) (fun k => cells.getD k undef) h3.symm (Nat.le_refl _) (fun x hx => ⟨(hzz x hx).1, (hzz x hx).2.1⟩) (hcell cells e h1 h3) (fun k v hk => ?_)
    have hlt : k < cells.size := by
      have := (List.getElem?_eq_some_iff.1 hk).1
      rwa [flat_len (fun x hx => (hzz x hx).1), h3, ← h1] at this
    have : cells.getD k undef = cells[k] := by simp [Array.getD, hlt]
    rw [this]
    exact he.reln (h2 k v _ hk (by simp [hlt]))
  split at hk
  · rename_i hu _; exact hslp hu hk
  · rename_i hu _; exact hslp hu hk
  · rename_i hu _ _
    split at hk
    case h_2 => exact hk.elim
    rename_i hlow
    obtain ⟨e', hu'⟩ : ∃ e', S.P.underlying T = some (.slice e') := ⟨_, hu⟩
    refine fin hu' (fun cells h1 h2 h3 => ?_) rfl hk
    have he := Ext.data hs.wi (.cells cells e') (n * inf.size)
    refine .sl (sz := inf.size) (fun k => cells.getD k undef) h3.symm (Nat.le_refl _) (fun _ => rfl) (fun x hx => ⟨(hzz x hx).1, (hzz x hx).2.1⟩) (hcell cells e' h1 h3) (fun k v hk => ?_)
    have hlt : k < cells.size := by
      have := (List.getElem?_eq_some_iff.1 hk).1
      rwa [flat_len (fun x hx => (hzz x hx).1), h3, ← h1] at this
    have : cells.getD k undef = cells[k] := by simp [Array.getD, hlt]
    rw [this]
    exact (he.reln (h2 k v _ hk (by simp [hlt]))).low (flat_low hlow hk)
  · exact hk.elim

end
end VL

namespace VL
open Go
set_option linter.unusedVariables false
set_option linter.unusedSimpArgs false

section
variable {P : Program} {w : World}

theorem srcOk_cases {ts : Array TypeId} (h : srcOk P ts = true) : ts[1]? = none ∨ ∃ u d, ts[1]? = some u ∧ P.underlying u = some d ∧ ∀ k, d ≠ .int k := by
  unfold srcOk at h
  split at h
  · exact .inl (by assumption)
  · rename_i u e
    split at h
    · cases h
    · rename_i d h1 h2
      exact .inr ⟨u, _, e, h2, fun k hk => h1 k (by rw [hk])⟩
    · cases h

theorem append_one {ts : Array TypeId} {T ty : TypeId} {args : Array Value} (h0 : ts[0]? = some T) (hs : srcOk P ts = true) :
    (Builtin.append_ ts ty args).run P w = (Builtin.append_ #[T] ty args).run P w := by
  rcases srcOk_cases hs with h2 | ⟨u, d, h2, hu2, hd⟩
  · unfold Builtin.append_
    rw [h0, h2]
    rfl
  · have hm : ∀ w', (Go.underlying u).run P w' = .ok d w' := fun w' => run_underlying hu2 w'
    unfold Builtin.append_
    rw [h0, h2]
    have e1 : (#[T] : Array TypeId)[0]? = some T := rfl
    have e2 : (#[T] : Array TypeId)[1]? = none := rfl
    rw [e1, e2]
    cases args[0]? with
    | none => rfl
    | some s =>
      cases args[1]? with
      | none => rfl
      | some x =>
        simp only [Sem.run_bind]
        congr 1
        funext el w1
        cases el <;> first | rfl | skip
        cases s <;> first | rfl | skip
        all_goals simp only [Sem.run_bind]
        all_goals congr 1
        all_goals funext sz w2
        all_goals simp only [Sem.run_bind, hm, Result.andThen_ok, Sem.run_pure]
        all_goals (cases d <;> first | rfl | exact absurd rfl (hd _))

theorem run_append_room' {ts : Array TypeId} {T e ty : TypeId} {inf : TypeInfo} (h0 : ts[0]? = some T) (hs : srcOk P ts = true) (hu : P.underlying T = some (.slice e)) (hi : P.info? e = some inf) {b off len cap m : Nat} {x : Value}
    (hlen : (Builtin.lenOf x).run P w = .ok m w) {news : List Value} (hf : (Builtin.firstCells inf.size m x).run P w = .ok news.toArray w) (hfit : len + m ≤ cap) {arr : Array Value} {U : TypeId} (hh : w.heap[b]? = some (.cells arr U (0, 0)))
    (hl : off + len * inf.size + news.length ≤ arr.size) (h1 : ∀ y ∈ news, y.oneCell' = true) :
    (Builtin.append_ ts ty #[.slice (some ⟨b, off, none⟩) len cap, x]).run P w =
      .ok (.slice (some ⟨b, off, none⟩) (len + m) cap) (w.setRow b (arr.toList.take (off + len * inf.size) ++ news ++ arr.toList.drop (off + len * inf.size + news.length)).toArray) := by
  have hst := run_storeCells_at (P := P) b (off + len * inf.size) U news 0 arr w hh (by simpa using hl) h1
  simp only [Nat.add_zero] at hst
  have hsz : (Go.sizeOf e).run P w = .ok inf.size w := run_size hi
  rw [append_one h0 hs]
  simp [Builtin.append_, run_underlying hu, hsz, hlen, hfit, hf, Addr.add_mid, hst]

theorem run_append_nil' {ts : Array TypeId} {T e ty : TypeId} {inf : TypeInfo} (h0 : ts[0]? = some T) (hs : srcOk P ts = true) (hu : P.underlying T = some (.slice e)) (hi : P.info? e = some inf) {x : Value}
    (hlen : (Builtin.lenOf x).run P w = .ok 0 w) {news : Array Value} (hf : (Builtin.firstCells inf.size 0 x).run P w = .ok news w) :
    (Builtin.append_ ts ty #[.slice none 0 0, x]).run P w = .ok (.slice none 0 0) w := by
  have hsz : (Go.sizeOf e).run P w = .ok inf.size w := run_size hi
  rw [append_one h0 hs]
  simp [Builtin.append_, run_underlying hu, hsz, hlen, hf]

theorem run_append_grow' {ts : Array TypeId} {T e ty : TypeId} {inf : TypeInfo} {z : Value} (h0 : ts[0]? = some T) (hs : srcOk P ts = true) (hu : P.underlying T = some (.slice e)) (hi : P.info? e = some inf) (hz : inf.zero = some z)
    {base : Option Addr} {len cap m : Nat} {x : Value} (hlen : (Builtin.lenOf x).run P w = .ok m w) {olds news : List Value} (ho : (Builtin.firstCells inf.size len (.slice base len cap)).run P w.drew = .ok olds.toArray w.drew)
    (hf : (Builtin.firstCells inf.size m x).run P w.drew = .ok news.toArray w.drew) (hgrow : cap < len + m) (h63 : ((len + m : Nat) : Int) ≤ 9223372036854775807) (hfit : (len + m) * inf.bytes ≤ 140737488355328) :
    (Builtin.append_ ts ty #[.slice base len cap, x]).run P w = .ok (.slice (some ⟨w.heap.size, 0, none⟩) (len + m) (grownCap w (len + m) cap e))
      (w.drew.alloc (.cells (olds.toArray ++ news.toArray ++ Builtin.zeroCells z.cells (grownCap w (len + m) cap e - (len + m))) e)) := by
  have hsz : (Go.sizeOf e).run P w = .ok inf.size w := run_size hi
  have hn : ¬ (len + m ≤ cap) := by omega
  have h63' : ¬ (9223372036854775807 < ((len : Int) + (m : Int))) := by omega
  have h48 := growslice_fits (bytes := inf.bytes) hgrow hfit
  have h48' : ¬ (281474976710656 < Builtin.nextslicecap (len + m) cap * inf.bytes) := by omega
  rw [append_one h0 hs]
  simp [Builtin.append_, run_underlying hu, hsz, typeInfo, zeroValue, hi, hz, hlen, hn, h63', h48', Question.forced, hf, ho, newRow, grownCap]
  congr 2
  apply Array.ext'
  simp [List.append_assoc]

end
end VL

namespace VL
open Go
set_option linter.unusedVariables false
set_option linter.unusedSimpArgs false

section
variable {P : Program} {c : Ctx} {g : G} {w : World} {a : Act} {t : List V} {ob : List VObj} {nt : Nat} {df : List (Fn × List V × List V)}

theorem TInv.claim {n i : Nat} {tm : Array Value} (h : TInv g w n nt tm t) (hf : ∀ v ∈ t, V.free i v) (f : Fam) : TInv (g.claim i f) w n nt tm t :=
  ⟨h.size, fun k v x hv hx => (h.rel k v x hv hx).claim (hf v (List.mem_of_getElem? hv)) f⟩

theorem DRel.same {g' : G} {n : Nat} {ds : List Deferred} (h : DRel g w n ds df) (h1 : g'.bs = g.bs) (h2 : g'.I = g.I) : DRel g' w n ds df := by
  induction h with
  | nil => exact .nil
  | cons h _ ih =>
    obtain ⟨cap, a1, a2, a3, a4, a5⟩ := h
    exact .cons ⟨cap, a1, a2, a3, fun k v c hv hc => by rw [h1, h2]; exact a4 k v c hv hc, fun k v c hv hc => by rw [h1, h2]; exact a5 k v c hv hc⟩ ih

/-- the cells of what is appended -/
structure Src (P : Program) (g : G) (w : World) (z : Nat) (x : Value) (m : List V) (news : List Value) : Prop where
  len : ∀ w', (Builtin.lenOf x).run P w' = .ok m.length w'
  cells : ∀ w' : World, w'.heap = w.heap → (Builtin.firstCells z m.length x).run P w' = .ok news.toArray w'
  size : news.length = m.length * z
  one : ∀ y ∈ news, y.oneCell' = true
  rel : ∀ (k : Nat) v y, (m.flatMap V.cells)[k]? = some v → news[k]? = some y → VRel g.bs g.I w 0 v y
  ok : ∀ x ∈ m, x.cells.length = z ∧ x.cells.all V.okCell = true

theorem src_slice {n z : Nat} {m : List V} {r : Room} {x : Value} (h : VRel g.bs g.I w n (.sl m r) x) (hz : ∀ y ∈ m, y.cells.length = z) : ∃ news, Src P g w z x m news := by
  cases h with
  | slnil => exact ⟨[], fun _ => rfl, fun w' _ => rfl, by simp, by simp, by simp, by simp⟩
  | @sl _ _ _ b off len cap sz u hl hcap hr hok hc hu =>
    have hlen := flat_len hz
    have hflat : ∀ k, k < (m.flatMap V.cells).length → ∃ v, (m.flatMap V.cells)[k]? = some v := fun k hk => ⟨_, List.getElem?_eq_getElem hk⟩
    refine ⟨(List.range (m.length * z)).map u, fun w' => by simp [Builtin.lenOf, hl], fun w' hw' => ?_, by simp, fun y hy => ?_, fun k v y hv hy => ?_, fun x hx => ⟨hz x hx, (hok x hx).2⟩⟩
    · refine run_firstCells_some (P := P) w' z m.length ⟨b, off, none⟩ len cap _ (by simp) fun j v hj => ?_
      have hlt : j < m.length * z := by have := (List.getElem?_eq_some_iff.1 hj).1; simpa using this
      obtain ⟨v', hv'⟩ := hflat j (by rw [hlen]; exact hlt)
      rw [List.getElem?_map, List.getElem?_range hlt] at hj
      cases hj
      rw [Addr.add_mid]
      have := (hc j v' hv').1
      simpa [World.cell?, hw'] using this
    · obtain ⟨k, hk, rfl⟩ := List.mem_map.1 hy
      have hlt : k < m.length * z := by simpa using hk
      obtain ⟨v', hv'⟩ := hflat k (by rw [hlen]; exact hlt)
      obtain ⟨x', hx', hvx⟩ := List.mem_flatMap.1 (List.mem_of_getElem? hv')
      exact (hu k v' hv').oneCell (List.all_eq_true.1 (hok x' hx').2 v' hvx)
    · have hlt : k < m.length * z := by have := (List.getElem?_eq_some_iff.1 hy).1; simpa using this
      rw [List.getElem?_map, List.getElem?_range hlt] at hy
      cases hy
      exact hu k v hv

theorem src_string (s : ByteArray) : ∃ news, Src P g w 1 (.string s) (bytesV s) news := by
  refine ⟨Lib.strCells s, fun w' => by rw [bytesV_length]; rfl, fun w' _ => by rw [bytesV_length]; exact Lib.run_firstCells_string w' 1 s, ?_, Lib.strCells_oneCell s, fun k v y hv hy => ?_, bytesV_ok s⟩
  · rw [bytesV_length, Nat.mul_one]; exact Lib.strCells_length s
  · rw [bytesV_cells] at hv
    obtain ⟨hlt, rfl⟩ := bytesV_get hv
    unfold Lib.strCells at hy
    rw [List.getElem?_map] at hy
    obtain ⟨b, hb, rfl⟩ := Option.map_eq_some_iff.1 hy
    rw [Array.getElem?_toList] at hb
    obtain ⟨_, hb⟩ := Array.getElem?_eq_some_iff.1 hb
    rw [← hb]
    exact .int

theorem run_append_zero {ts : Array TypeId} {T e ty : TypeId} {inf : TypeInfo} (h0 : ts[0]? = some T) (hs : srcOk P ts = true) (hu : P.underlying T = some (.slice e)) (hi : P.info? e = some inf) {base : Option Addr} {len cap : Nat} {x : Value}
    (hlen : (Builtin.lenOf x).run P w = .ok 0 w) (hf : (Builtin.firstCells inf.size 0 x).run P w = .ok #[] w) (hfit : len ≤ cap) :
    (Builtin.append_ ts ty #[.slice base len cap, x]).run P w = .ok (.slice base len cap) w := by
  have hsz : (Go.sizeOf e).run P w = .ok inf.size w := run_size hi
  rw [append_one h0 hs]
  cases base <;> simp [Builtin.append_, run_underlying hu, hsz, hlen, hf, hfit, storeCells]

/-- append, where the slice's room is claim i, and nothing else holds that claim -/
theorem append_tok {ts : Array TypeId} {T e ty : TypeId} {inf : TypeInfo} {zv : Value} (h0 : ts[0]? = some T) (hso : srcOk P ts = true) (hu : P.underlying T = some (.slice e)) (hi : P.info? e = some inf) (hz : inf.zero = some zv) (hzs : zv.cells.size = inf.size)
    (hpos : 0 < inf.size) (hby : 0 < inf.bytes) (hs : Sim c g w a ⟨t, ob, nt, df⟩) {i : Nat} (hnt : i < nt) (hft : ∀ v ∈ t, V.free i v) (hfo : freeO i ob) {l m : List V} {base : Option Addr} {len cap : Nat} {x : Value} {news : List Value}
    (hl : VRel g.bs g.I w ob.length (.sl l .no) (.slice base len cap)) (hlz : ∀ y ∈ l, y.cells.length = inf.size)
    (hroom : cap = len ∨ ∃ off, base = some ⟨(g.fam i).blk, off, none⟩ ∧ off + len * inf.size = (g.fam i).st ∧ (cap - len) * inf.size ≤ (g.fam i).n)
    (hsrc : Src P g w inf.size x m news) (hfit : (l.length + m.length) * inf.bytes ≤ 140737488355328) :
    ∃ x' w' g', (Builtin.append_ ts ty #[.slice base len cap, x]).run P w = .ok x' w' ∧ Sim c g' w' a ⟨t, ob, nt, df⟩ ∧ VT g' w' ob.length nt (.sl (l ++ m) (.tok i inf.size)) x' := by
  have hlen : len = l.length := by cases hl <;> first | rfl | assumption
  have hcap : len ≤ cap := by cases hl <;> first | exact Nat.le_refl _ | assumption
  have hallz : ∀ y ∈ l ++ m, y.cells.length = inf.size := fun y hy => by
    rcases List.mem_append.1 hy with h | h
    · exact hlz y h
    · exact (hsrc.ok y h).1
  have hall : ∀ y ∈ l ++ m, y.cells.length = inf.size ∧ y.cells.all V.okCell = true := fun y hy => by
    rcases List.mem_append.1 hy with h | h
    · cases hl with
      | slnil => simp at h
      | sl u _ _ _ hok _ _ => exact ⟨hlz y h, (hok y h).2⟩
    · exact hsrc.ok y h
  have hfl : (l.flatMap V.cells).length = len * inf.size := by rw [flat_len hlz, hlen]
  by_cases hm : m = []
  · -- nothing is appended
    subst hm
    have hf0 : (Builtin.firstCells inf.size 0 x).run P w = .ok #[] w := by
      have := hsrc.cells w rfl
      have hn : news = [] := List.eq_nil_of_length_eq_zero (by rw [hsrc.size]; simp)
      rw [hn] at this; exact this
    refine ⟨_, w, g, run_append_zero h0 hso hu hi (hsrc.len w) hf0 hcap, hs, ⟨?_, ?_⟩⟩
    · rw [List.append_nil]; exact hl.room _ (by simp)
    · rw [List.append_nil]
      exact ⟨hnt, hpos, hlz, _, _, _, rfl, hroom⟩
  · have hmpos : 0 < m.length := List.length_pos_iff.2 hm
    have hneed : len + m.length ≤ 140737488355328 := by
      rw [hlen]
      exact Nat.le_trans (Nat.le_mul_of_pos_right _ hby) hfit
    by_cases hgrow : cap < len + m.length
    · -- a new row
      have hold : ∃ olds : List Value, olds.length = len * inf.size ∧ (Builtin.firstCells inf.size len (.slice base len cap)).run P w.drew = .ok olds.toArray w.drew ∧
          ∀ (k : Nat) v y, (l.flatMap V.cells)[k]? = some v → olds[k]? = some y → VRel g.bs g.I w 0 v y := by
        obtain ⟨olds, ho⟩ := src_slice (P := P) hl hlz
        refine ⟨olds, by rw [ho.size, hlen], ?_, ho.rel⟩
        have := ho.cells w.drew rfl
        rwa [← hlen] at this
      obtain ⟨olds, ho1, ho2, ho3⟩ := hold
      have hrun := run_append_grow' (ty := ty) h0 hso hu hi hz (hsrc.len w) ho2 (hsrc.cells w.drew rfl) hgrow (by omega) (by rw [hlen]; exact hfit)
      generalize hnc : grownCap w (len + m.length) cap e = nc at hrun
      have hncge : len + m.length ≤ nc := by rw [← hnc]; exact grownCap_ge w _ _ e
      generalize hrow : olds.toArray ++ news.toArray ++ Builtin.zeroCells zv.cells (nc - (len + m.length)) = row at hrun
      have hrowsz : row.size = nc * inf.size := by
        rw [← hrow]
        simp only [Array.size_append, List.size_toArray, ho1, hsrc.size, size_zeroCells, hzs]
        rw [← Nat.add_mul, ← Nat.add_mul]; congr 1; omega
      have hw1 := hs.wi.drew
      have e1 := Ext.drew g w ob.length nt
      have hw2 := WInv.data hw1 (.cells row e) ((len + m.length) * inf.size)
      have e2 := Ext.data hw1 (.cells row e) ((len + m.length) * inf.size)
      have ht2 := e2.tinv (e1.tinv hs.ti)
      have hd2 := e2.drel (e1.drel hs.di)
      have hblk : w.drew.heap.size = w.heap.size := rfl
      have hw3 := hw2.claim (i := i) hfo ⟨w.heap.size, (len + m.length) * inf.size, (nc - (len + m.length)) * inf.size⟩ (fun _ => by
        refine ⟨.inl hs.wi.size, ⟨row, e, heap_alloc_new w.drew _, ?_⟩, ?_, ?_, ?_⟩
        · rw [hrowsz]; simp only; rw [← Nat.add_mul]; exact Nat.mul_le_mul_right _ (by omega)
        · rintro k hk (hI | ⟨_, hlt⟩)
          · exact hw1.gN _ _ (Nat.le_refl _) hI
          · simp only at hk; omega
        · intro o y hy hne e'
          have := hs.wi.lt o y hy hne
          have e'' : g.bs o = w.heap.size := e'
          omega
        · intro j hj hji hn e'
          obtain ⟨_, ⟨arr, U, hh, _⟩, _, _⟩ := hs.wi.f1 j hj hn
          have e'' : (g.fam j).blk = w.heap.size := e'
          rw [e'', Array.getElem?_eq_none (Nat.le_refl _)] at hh
          cases hh)
      refine ⟨_, _, _, hrun, ⟨hw3, ht2.claim hft _, hd2.same rfl rfl⟩, ⟨?_, ?_⟩⟩
      · have hflen : ((l ++ m).flatMap V.cells).length = (len + m.length) * inf.size := by rw [flat_len hallz, List.length_append, hlen]
        refine .sl (sz := inf.size) (fun k => row.getD k undef) (by rw [List.length_append, hlen]) hncge (by simp) hall (fun k v hk => ?_) (fun k v hk => ?_)
        · have hlt : k < (len + m.length) * inf.size := by rw [← hflen]; exact (List.getElem?_eq_some_iff.1 hk).1
          have hlt2 : k < row.size := by rw [hrowsz]; exact Nat.lt_of_lt_of_le hlt (Nat.mul_le_mul_right _ hncge)
          rw [Nat.zero_add]
          refine ⟨?_, .inr ⟨rfl, hlt⟩⟩
          rw [show w.heap.size = w.drew.heap.size from rfl, World.cell?_alloc_new]
          simp [Array.getD, hlt2]
        · have hlt : k < (len + m.length) * inf.size := by rw [← hflen]; exact (List.getElem?_eq_some_iff.1 hk).1
          have hlt2 : k < row.size := by rw [hrowsz]; exact Nat.lt_of_lt_of_le hlt (Nat.mul_le_mul_right _ hncge)
          have hget : ∃ y, row[k]? = some y ∧ VRel g.bs g.I w 0 v y := by
            rw [List.flatMap_append, List.getElem?_append, hfl] at hk
            rw [← hrow, Array.getElem?_append]
            have hs1 : (olds.toArray ++ news.toArray).size = (len + m.length) * inf.size := by simp [ho1, hsrc.size, Nat.add_mul]
            rw [hs1, if_pos hlt, Array.getElem?_append]
            have hs2 : olds.toArray.size = len * inf.size := by simp [ho1]
            rw [hs2]
            split at hk
            · rename_i hk1
              rw [if_pos hk1]
              have : k < olds.length := by rw [ho1]; exact hk1
              exact ⟨olds[k], by simp [this], ho3 k v _ hk (by simp [this])⟩
            · rename_i hk1
              rw [if_neg hk1]
              have : k - len * inf.size < news.length := by rw [hsrc.size]; rw [Nat.add_mul] at hlt; omega
              exact ⟨news[k - len * inf.size], by simp [this], hsrc.rel _ v _ hk (by simp [this])⟩
          obtain ⟨y, hy, hvr⟩ := hget
          have : row.getD k undef = y := by simp only [Array.getD]; rw [dif_pos hlt2]; exact (Array.getElem?_eq_some_iff.1 hy).2
          rw [this]
          exact e2.rel0 (e1.rel0 hvr)
      · refine ⟨hnt, hpos, hallz, _, _, _, rfl, .inr ⟨0, ?_, ?_, ?_⟩⟩
        · simp [G.claim]
        · simp [G.claim]
        · simp [G.claim]
    · -- in the room
      have hcl : ¬ cap = len := by omega
      obtain ⟨off, hb, hst, hn⟩ := hroom.resolve_left hcl
      subst hb
      have hcapm : m.length ≤ cap - len := by omega
      have hnm : m.length * inf.size ≤ (g.fam i).n := Nat.le_trans (Nat.mul_le_mul_right _ hcapm) hn
      have hnpos : 0 < (g.fam i).n := Nat.lt_of_lt_of_le (Nat.mul_pos hmpos hpos) hnm
      obtain ⟨f1, ⟨arr, U, f2, f3⟩, f4, f5⟩ := hs.wi.f1 i hnt hnpos
      have hrun := run_append_room' (ty := ty) h0 hso hu hi (hsrc.len w) (hsrc.cells w rfl) (by omega : len + m.length ≤ cap) f2 (by rw [hst, hsrc.size]; omega) hsrc.one
      generalize hrow : (arr.toList.take (off + len * inf.size) ++ news ++ arr.toList.drop (off + len * inf.size + news.length)).toArray = row at hrun
      have hrsz : row.size = arr.size := by
        rw [← hrow]; simp; rw [hst, hsrc.size]; omega
      have hrow1 : ∀ k, k < (g.fam i).st → row[k]? = arr[k]? := fun k hk => by
        rw [← hrow, List.getElem?_toArray, List.append_assoc, List.getElem?_append_left (by simp; omega), List.getElem?_take, if_pos (by omega)]; simp
      have hrow2 : ∀ k, k < news.length → row[(g.fam i).st + k]? = news[k]? := fun k hk => by
        rw [← hrow, List.getElem?_toArray, List.append_assoc, List.getElem?_append_right (by simp; omega)]
        have : (arr.toList.take (off + len * inf.size)).length = (g.fam i).st := by simp; omega
        rw [this, List.getElem?_append_left (by omega)]
        congr 1; omega
      -- the claim is laid down
      have hw1 := hs.wi.claim (i := i) hfo ⟨0, 0, 0⟩ (fun h => absurd h (by simp))
      have ht1 := hs.ti.claim hft ⟨0, 0, 0⟩
      have hd1 : DRel (g.claim i ⟨0, 0, 0⟩) w ob.length a.defers df := hs.di.same rfl rfl
      have hff : ∀ j, j < nt → 0 < ((g.claim i ⟨0, 0, 0⟩).fam j).n → ((g.claim i ⟨0, 0, 0⟩).fam j).blk ≠ (g.fam i).blk := fun j hj hnj => by
        by_cases e' : j = i
        · subst e'; simp [G.claim] at hnj
        · simp only [G.claim, if_neg e'] at hnj ⊢
          exact hs.wi.f2 j i hj hnt e' hnj hnpos
      have hw2 := hw1.fill (e := (g.fam i).st + m.length * inf.size) arr row U f2 f4 hrow1 f1 f5 hff
      have e2 := Ext.fill (e := (g.fam i).st + m.length * inf.size) hw1 arr row U f2 f4 hrow1
      have ht2 := e2.tinv ht1
      have hd2 := e2.drel hd1
      have hw3 := hw2.claim (i := i) hfo ⟨(g.fam i).blk, (g.fam i).st + m.length * inf.size, (g.fam i).n - m.length * inf.size⟩ (fun hp => by
        refine ⟨f1, ⟨row, U, setRow_heap _ _ _ _ _ _ f2, ?_⟩, ?_, f5, fun j hj hji hnj => hff j hj hnj⟩
        · simp only at hp ⊢; rw [hrsz]; omega
        · rintro k hk (hI | ⟨_, _, hlt⟩)
          · exact f4 k (by simp only at hk; omega) hI
          · simp only at hk; omega)
      refine ⟨_, _, _, hrun, ⟨hw3, ht2.claim hft _, hd2.same rfl rfl⟩, ⟨?_, ?_⟩⟩
      · have hflen : ((l ++ m).flatMap V.cells).length = (len + m.length) * inf.size := by rw [flat_len hallz, List.length_append, hlen]
        have hl2 := (hl.mono (bs' := g.bs) (I' := ((g.claim i ⟨0, 0, 0⟩).part (g.fam i).blk (g.fam i).st ((g.fam i).st + m.length * inf.size)).I) (w' := w.setRow (g.fam i).blk row) (n' := ob.length) (fun o ho => ⟨ho, rfl⟩) e2.hI)
        cases hl2 with
        | @sl _ _ _ _ _ _ _ sz u h1 h2 h3 h4 h5 h6 =>
          refine .sl (sz := inf.size) (fun k => if k < len * inf.size then u k else news.getD (k - len * inf.size) undef) (by rw [List.length_append, hlen]) (by omega) (by simp) hall (fun k v hk => ?_) (fun k v hk => ?_)
          · have hlt : k < (len + m.length) * inf.size := by rw [← hflen]; exact (List.getElem?_eq_some_iff.1 hk).1
            rw [List.flatMap_append, List.getElem?_append, hfl] at hk
            split at hk
            · rename_i hk1
              simp only [if_pos hk1]
              exact h5 k v hk
            · rename_i hk1
              simp only [if_neg hk1]
              have hlt2 : k - len * inf.size < news.length := by rw [hsrc.size]; rw [Nat.add_mul] at hlt; omega
              refine ⟨?_, .inr ⟨rfl, by omega, by rw [Nat.add_mul] at hlt; omega⟩⟩
              rw [cell_setRow_same _ _ _ _ _ _ _ f2, show off + k = (g.fam i).st + (k - len * inf.size) by omega, hrow2 _ hlt2]
              simp [hlt2]
          · have hlt : k < (len + m.length) * inf.size := by rw [← hflen]; exact (List.getElem?_eq_some_iff.1 hk).1
            rw [List.flatMap_append, List.getElem?_append, hfl] at hk
            split at hk
            · rename_i hk1
              simp only [if_pos hk1]
              exact h6 k v hk
            · rename_i hk1
              simp only [if_neg hk1]
              have hlt2 : k - len * inf.size < news.length := by rw [hsrc.size]; rw [Nat.add_mul] at hlt; omega
              have hg : news.getD (k - len * inf.size) undef = news[k - len * inf.size] := by simp [hlt2]
              rw [hg]
              exact e2.rel0 (hsrc.rel _ v _ hk (by simp [hlt2]))
      · refine ⟨hnt, hpos, hallz, _, _, _, rfl, .inr ⟨off, ?_, ?_, ?_⟩⟩
        · simp [G.claim]
        · simp only [G.claim, if_true]; rw [Nat.add_mul]; omega
        · simp only [G.claim, if_true]
          rw [show cap - (len + m.length) = cap - len - m.length by omega, Nat.sub_mul]
          omega

end
end VL

namespace VL
open Go
set_option linter.unusedVariables false
set_option linter.unusedSimpArgs false

theorem mapK_strip {K : List V → Prop} {i : Nat} : ∀ {l : List V}, mapK (fun v K => (V.strip i v).force K) l K → K (l.map (V.strip i))
  | [], h => h
  | x :: r, h => by
    have h : (V.strip i x).force _ := h
    rw [force_eq] at h
    exact mapK_strip (l := r) h

theorem mapK_stripO {K : List VObj → Prop} {i : Nat} : ∀ {l : List VObj}, mapK (fun o K => match o with
    | VObj.cells w T cs => mapK (fun v K => (V.strip i v).force K) cs fun cs => K (VObj.cells w T cs)
    | o => K o) l K → K (l.map (stripO i))
  | [], h => h
  | x :: r, h => by
    simp only [mapK] at h
    cases x with
    | cells w T cs => exact mapK_stripO (l := r) (mapK_strip h)
    | none => exact mapK_stripO (l := r) h
    | map es => exact mapK_stripO (l := r) h

theorem strips_iff {i : Nat} {t : List V} {ob : List VObj} {nt : Nat} {df : List (Fn × List V × List V)} {K : St → Prop} (h : strips i ⟨t, ob, nt, df⟩ K) : K ⟨t.map (V.strip i), ob.map (stripO i), nt, df⟩ :=
  mapK_stripO (mapK_strip h)

section
variable {S : Sys} {c : Ctx} {g : G} {w : World} {a : Act} {o : Oper} {K KP : V → St → Prop} {next : Act → World → Prop} {Q : Exit → Act → World → Prop}
  {t : List V} {ob : List VObj} {nt : Nat} {df : List (Fn × List V × List V)}

theorem Sim.strips (h : Sim c g w a ⟨t, ob, nt, df⟩) (i : Nat) : Sim c g w a ⟨t.map (V.strip i), ob.map (stripO i), nt, df⟩ := by
  have hl : (ob.map (stripO i)).length = ob.length := List.length_map ..
  refine ⟨h.wi.strips i, ⟨by simp [h.ti.size], fun k v x hv hx => ?_⟩, ?_⟩
  · rw [List.getElem?_map] at hv
    obtain ⟨u, hu, rfl⟩ := Option.map_eq_some_iff.1 hv
    show VT g w (ob.map (stripO i)).length nt _ _
    rw [hl]
    exact (h.ti.rel k u x hu hx).strip i
  · show DRel g w (ob.map (stripO i)).length _ _
    rw [hl]; exact h.di

theorem append_sound {ts : Array TypeId} {e ty : TypeId} {T : TypeId} (h0 : ts[0]? = some T) (hu : S.P.underlying T = some (.slice e)) (hso : srcOk S.P ts = true) (H : Nexts c a o.dst K KP next Q) (hs : Sim c g w a ⟨t, ob, nt, df⟩)
    {l m : List V} {r : Room} {cs cx : Value} (hl : VT g w ob.length nt (.sl l r) cs) (hx : ∀ z, (∀ y ∈ m, y.cells.length = z) → z = szOf S.P e → ∃ news, Src S.P g w z cx m news)
    (hrun : ∀ x' w', (Builtin.append_ ts ty #[cs, cx]).run S.P w = .ok x' w' → (execOp a.eval o).run S.P w = .ok (.value x') w')
    (h : appendK S.P e l r m ⟨t, ob, nt, df⟩ K) : o.wp S.P a w next Q := by
  unfold appendK at h
  obtain ⟨inf, hi, hpos, h⟩ := szK_iff h
  split at h
  case h_2 => exact h.elim
  rename_i zv by_ hzv hby
  split at h
  case h_2 => exact h.elim
  rename_i hzs
  have hzs : zv.cells.size = inf.size := by simpa using hzs
  have hz : inf.zero = some zv := by simpa [hi] using hzv
  have hbi : inf.bytes = by_ + 1 := by simpa [byOf, hi] using hby
  obtain ⟨hfit, hmz, h⟩ := h
  obtain ⟨news, hsrc⟩ := hx _ hmz (szOf_info hi).symm
  obtain ⟨base, len, cap, rfl, hcl⟩ : ∃ base len cap, cs = .slice base len cap ∧ len = l.length := by
    cases hl.rel with
    | slnil => exact ⟨_, _, _, rfl, rfl⟩
    | sl u h1 => exact ⟨_, _, _, rfl, h1⟩
  have hl0 : VRel g.bs g.I w ob.length (.sl l .no) (.slice base len cap) := hl.rel.room _ (by simp)
  cases r with
  | no => exact h.elim
  | ex =>
    obtain ⟨hlz, hk⟩ := h
    have hcap : cap = len := by
      cases hl.rel with
      | slnil => rfl
      | sl u h1 h2 h3 => exact h3 rfl
    have hs' : Sim c (g.claim nt ⟨0, 0, 0⟩) w a ⟨t, ob, nt + 1, df⟩ := by
      refine ⟨hs.wi.more ⟨0, 0, 0⟩ (fun h => absurd h (by simp)), ⟨hs.ti.size, fun k v x hv hx => ?_⟩, hs.di.same rfl rfl⟩
      have := hs.ti.rel k v x hv hx
      exact ⟨this.rel, (this.tok.fam this.tok.nt fun j hj => by simp [G.claim, hj]).ext (Nat.le_succ nt) fun _ _ => rfl⟩
    have hsrc' : Src S.P (g.claim nt ⟨0, 0, 0⟩) w inf.size cx m news := ⟨hsrc.len, hsrc.cells, hsrc.size, hsrc.one, hsrc.rel, hsrc.ok⟩
    have hft : ∀ v ∈ t, V.free nt v := fun v hv => by
      obtain ⟨k, hk⟩ := List.mem_iff_getElem?.1 hv
      have hlt : k < a.tmps.size := by rw [← hs.ti.size]; exact (List.getElem?_eq_some_iff.1 hk).1
      exact (hs.ti.rel k v a.tmps[k] hk (by simp [hlt])).tok.nt
    have hfo : freeO nt ob := fun o wr U cs ho v hv => by
      obtain ⟨arr, _, g2, g3⟩ := obj_cells hs.wi ho
      obtain ⟨k, hk⟩ := List.mem_iff_getElem?.1 hv
      have hlt : k < arr.size := by rw [← g2]; exact (List.getElem?_eq_some_iff.1 hk).1
      exact (g3 k v arr[k] hk (by simp [hlt])).1.tok.nt
    obtain ⟨x', w', g', h1, h2, h3⟩ := append_tok (ty := ty) h0 hso hu hi hz hzs hpos (by omega) hs' (i := nt) (Nat.lt_succ_self nt) hft hfo hl0 hlz (.inl hcap) hsrc' (by rw [hbi]; exact hfit)
    unfold Oper.wp
    rw [hrun _ _ h1]
    exact H.val _ _ _ _ _ a hk h2 rfl h3
  | tok i sz =>
    simp only at h
    split at h
    case h_2 => exact h.elim
    rename_i hsz
    have hsz : sz = inf.size := Nat.eq_of_beq_eq_true hsz
    subst hsz
    have hk := strips_iff h
    obtain ⟨hnt, _, hlz, ad, len', cap', he, hroom⟩ := hl.tok
    cases he
    have hs' := hs.strips i
    have hft : ∀ v ∈ t.map (V.strip i), V.free i v := fun v hv => by
      obtain ⟨u, _, rfl⟩ := List.mem_map.1 hv
      exact strip_free i u
    have hlen : (ob.map (stripO i)).length = ob.length := List.length_map ..
    obtain ⟨x', w', g', h1, h2, h3⟩ := append_tok (ty := ty) h0 hso hu hi hz hzs hpos (by omega) hs' (i := i) hnt hft (strips_free i ob) (by rw [hlen]; exact hl0) hlz hroom hsrc (by rw [hbi]; exact hfit)
    unfold Oper.wp
    rw [hrun _ _ h1]
    exact H.val _ _ _ _ _ a hk h2 rfl h3

end
end VL

namespace VL
open Go
set_option linter.unusedVariables false
set_option linter.unusedSimpArgs false

section
variable {S : Sys} {c : Ctx} {g : G} {w : World} {a : Act} {o : Oper} {K KP : V → St → Prop} {next : Act → World → Prop} {Q : Exit → Act → World → Prop}
  {t : List V} {ob : List VObj} {nt : Nat} {df : List (Fn × List V × List V)}

theorem args_of {n nt : Nat} {cl : Call} {vs : List V} (h1 : vs.length = cl.args.toList.length) (h2 : ∀ (k : Nat) v x, vs[k]? = some v → cl.args.toList[k]? = some x → VT g w n nt v (a.eval x)) :
    vs.length = (cl.args.map a.eval).size ∧ ∀ (k : Nat) v x, vs[k]? = some v → (cl.args.map a.eval)[k]? = some x → VT g w n nt v x := by
  refine ⟨by simp [h1], fun k v x hv hx => ?_⟩
  rw [Array.getElem?_map] at hx
  obtain ⟨y, hy, rfl⟩ := Option.map_eq_some_iff.1 hx
  exact h2 k v y hv (by simpa using hy)

theorem arg1 {n nt : Nat} {ca : Array Value} {x : V} (h1 : [x].length = ca.size) (h2 : ∀ (k : Nat) v y, [x][k]? = some v → ca[k]? = some y → VT g w n nt v y) :
    ∃ c1, ca = #[c1] ∧ VT g w n nt x c1 := by
  obtain ⟨l⟩ := ca
  match l, h1 with
  | [c1], _ => exact ⟨c1, rfl, h2 0 x c1 rfl rfl⟩

theorem arg2 {n nt : Nat} {ca : Array Value} {x y : V} (h1 : [x, y].length = ca.size) (h2 : ∀ (k : Nat) v z, [x, y][k]? = some v → ca[k]? = some z → VT g w n nt v z) :
    ∃ c1 c2, ca = #[c1, c2] ∧ VT g w n nt x c1 ∧ VT g w n nt y c2 := by
  obtain ⟨l⟩ := ca
  match l, h1 with
  | [c1, c2], _ => exact ⟨c1, c2, rfl, h2 0 x c1 rfl rfl, h2 1 y c2 rfl rfl⟩

theorem exec_builtin {b : Builtin} {cl : Call} (ho : o.op = .call cl) (hc : cl.callee = .builtin b) :
    execOp a.eval o = Go.builtin b cl.argTypes o.type (cl.args.map fun | .const _ => true | _ => false) (cl.args.map a.eval) := by
  simp only [execOp, ho, resolve, hc]
  rfl

theorem argT_some {P : Program} {ts : Array TypeId} {d : TypeDesc} (h : argT P ts = some d) : ∃ T, ts[0]? = some T ∧ P.underlying T = some d := by
  unfold argT at h
  cases h0 : ts[0]? with
  | none => simp [h0] at h
  | some T => exact ⟨T, rfl, by simpa [h0] using h⟩

theorem sl_shape {n : Nat} {v : V} {x : Value} {l : List V} (h : VRel g.bs g.I w n v x) (hv : (∃ r, v = .sl l r) ∨ v = .slp l ∨ ∃ m, v = .spare l m) : ∃ base cap, x = .slice base l.length cap ∧ ∀ m, v = .spare l m → cap = l.length + m.length := by
  cases h <;> simp at hv
  · obtain ⟨rfl, _⟩ := hv; exact ⟨_, _, rfl, by simp⟩
  · rename_i hl _ _ _ _ _; obtain ⟨rfl, _⟩ := hv; exact ⟨_, _, by rw [hl], by simp⟩
  · rename_i hl _ _ _ _; subst hv; exact ⟨_, _, by rw [hl], by simp⟩
  · rename_i hl hcap _ _ _
    obtain rfl := hv
    exact ⟨_, _, by rw [hl], fun m e => by cases e; exact hcap⟩

theorem sound_builtinF {b : Builtin} {cl : Call} (ho : o.op = .call cl) (hc : cl.callee = .builtin b) (H : Nexts c a o.dst K KP next Q) (hs : Sim c g w a ⟨t, ob, nt, df⟩)
    (hh : evs t cl.args.toList fun args => vbuiltinF S b cl.argTypes args fun v => K v ⟨t, ob, nt, df⟩) : o.wp S.P a w next Q := by
  obtain ⟨vs, k1, k2, h⟩ := evs_sound hs.ti hh
  clear hh
  obtain ⟨h1, h2⟩ := args_of k1 k2
  clear k1 k2
  have hx := exec_builtin (a := a) ho hc
  generalize cl.args.map a.eval = ca at h1 h2 hx
  have hval : ∀ {v : V} {x : Value}, (Go.builtin b cl.argTypes o.type (cl.args.map fun | .const _ => true | _ => false) ca).run S.P w = .ok (.value x) w → VT g w ob.length nt v x → K v ⟨t, ob, nt, df⟩ → o.wp S.P a w next Q :=
    fun hr hv hk => H.same hs (by rw [hx]; exact hr) hv hk
  unfold vbuiltinF at h
  split at h
  · rename_i hT
    obtain ⟨T, h0, hu⟩ := argT_some hT
    obtain ⟨c1, rfl, r1⟩ := arg1 h1 h2
    have hr := r1.rel
    cases hr
    exact hval (x := _) (by simp [Go.builtin, Builtin.len_, h0, run_underlying hu]; rfl) (.of .int rfl) h
  · rename_i hT
    obtain ⟨T, h0, hu⟩ := argT_some hT
    obtain ⟨c1, rfl, r1⟩ := arg1 h1 h2
    obtain ⟨base, cap, rfl, _⟩ := sl_shape r1.rel (.inl ⟨_, rfl⟩)
    exact hval (x := _) (by simp [Go.builtin, Builtin.len_, h0, run_underlying hu]; rfl) (.of .int rfl) h
  · rename_i hT
    obtain ⟨T, h0, hu⟩ := argT_some hT
    obtain ⟨c1, rfl, r1⟩ := arg1 h1 h2
    obtain ⟨base, cap, rfl, _⟩ := sl_shape r1.rel (.inr (.inl rfl))
    exact hval (x := _) (by simp [Go.builtin, Builtin.len_, h0, run_underlying hu]; rfl) (.of .int rfl) h
  · rename_i hT
    obtain ⟨T, h0, hu⟩ := argT_some hT
    obtain ⟨c1, rfl, r1⟩ := arg1 h1 h2
    obtain ⟨base, cap, rfl, _⟩ := sl_shape r1.rel (.inr (.inr ⟨_, rfl⟩))
    exact hval (x := _) (by simp [Go.builtin, Builtin.len_, h0, run_underlying hu]; rfl) (.of .int rfl) h
  · rename_i hT
    obtain ⟨T, h0, hu⟩ := argT_some hT
    obtain ⟨c1, rfl, r1⟩ := arg1 h1 h2
    exact hval (x := _) (by simp [Go.builtin, Builtin.len_, h0, run_underlying hu]; rfl) (.of .int rfl) h
  · rename_i hT
    obtain ⟨T, h0, hu⟩ := argT_some hT
    obtain ⟨c1, rfl, r1⟩ := arg1 h1 h2
    obtain ⟨base, cap, rfl, hcap⟩ := sl_shape r1.rel (.inr (.inr ⟨_, rfl⟩))
    rw [hcap _ rfl] at hx hval
    exact hval (x := _) (by simp only [Go.builtin, Builtin.cap_, h0]; simp [run_underlying hu]; rfl) (.of .int rfl) h
  · obtain ⟨c1, c2, rfl, r1, r2⟩ := arg2 h1 h2
    have e1 := r1.rel
    have e2 := r2.rel
    cases e1; cases e2
    exact hval (x := _) (by simp [Go.builtin, Builtin.min_, Builtin.min2]) (.of .int rfl) h.2
  · obtain ⟨c1, c2, rfl, r1, r2⟩ := arg2 h1 h2
    have e1 := r1.rel
    have e2 := r2.rel
    cases e1; cases e2
    exact hval (x := _) (by simp [Go.builtin, Builtin.max_, Builtin.max2]) (.of .int rfl) h.2
  · exact h.elim

theorem sound_append {cl : Call} (ho : o.op = .call cl) (hc : cl.callee = .builtin .append) (H : Nexts c a o.dst K KP next Q) (hs : Sim c g w a ⟨t, ob, nt, df⟩)
    (hh : evs t cl.args.toList fun args => vappend S cl.argTypes args ⟨t, ob, nt, df⟩ K) : o.wp S.P a w next Q := by
  obtain ⟨vs, k1, k2, h⟩ := evs_sound hs.ti hh
  clear hh
  obtain ⟨h1, h2⟩ := args_of k1 k2
  clear k1 k2
  have hx := exec_builtin (a := a) ho hc
  generalize cl.args.map a.eval = ca at h1 h2 hx
  unfold vappend at h
  split at h
  · rename_i e l r m r' hT
    obtain ⟨T, h0, hu⟩ := argT_some hT
    obtain ⟨c1, c2, rfl, r1, r2⟩ := arg2 h1 h2
    split at h
    case h_2 => exact h.elim
    rename_i hso
    refine append_sound (ty := o.type) h0 hu hso H hs r1 (cx := c2) (fun z hz _ => src_slice r2.rel hz) (fun x' w' hr => ?_) h
    rw [hx]
    simp [Go.builtin, hr]
  · rename_i e l r m m' hT
    obtain ⟨T, h0, hu⟩ := argT_some hT
    obtain ⟨c1, c2, rfl, r1, r2⟩ := arg2 h1 h2
    split at h
    case h_2 => exact h.elim
    rename_i hso
    obtain ⟨r3, hr3⟩ : ∃ r, VRel g.bs g.I w ob.length (.sl m r) c2 := by
      have := r2.rel
      cases this with
      | spare u hl hcap hz hc hu =>
        refine ⟨.no, .sl u hl (by omega) (by simp) (fun x hx => hz x (List.mem_append_left _ hx)) (fun k v hk => hc k v ?_) (fun k v hk => hu k v ?_)⟩ <;>
        · rw [List.flatMap_append, List.getElem?_append_left (List.getElem?_eq_some_iff.1 hk).1]; exact hk
    refine append_sound (ty := o.type) h0 hu hso H hs r1 (cx := c2) (fun z hz _ => src_slice hr3 hz) (fun x' w' hr => ?_) h
    rw [hx]
    simp [Go.builtin, hr]
  · rename_i e l r s hT
    obtain ⟨T, h0, hu⟩ := argT_some hT
    obtain ⟨c1, c2, rfl, r1, r2⟩ := arg2 h1 h2
    split at h
    case h_2 => exact h.elim
    rename_i hso hz1
    have he := r2.rel
    cases he
    refine append_sound (ty := o.type) h0 hu hso H hs r1 (cx := .string s) (fun z hz he => ?_) (fun x' w' hr => ?_) h
    · rw [he, hz1]; exact src_string s
    · rw [hx]
      simp [Go.builtin, hr]
  · exact h.elim

theorem untok_args {n : Nat} {vs : List V} {ca : Array Value} (h1 : vs.length = ca.size) (h2 : ∀ (k : Nat) v x, vs[k]? = some v → ca[k]? = some x → VRel g.bs g.I w n v x) :
    (vs.map V.untok).length = ca.size ∧ ∀ (k : Nat) v x, (vs.map V.untok)[k]? = some v → ca[k]? = some x → VRel g.bs g.I w n v x := by
  refine ⟨by simp [h1], fun k v x hv hx => ?_⟩
  rw [List.getElem?_map] at hv
  obtain ⟨u, hu, rfl⟩ := Option.map_eq_some_iff.1 hv
  exact (h2 k u x hu hx).untok

theorem append_args {n : Nat} {vs us : List V} {ca da : Array Value} (h1 : vs.length = ca.size) (h2 : ∀ (k : Nat) v x, vs[k]? = some v → ca[k]? = some x → VRel g.bs g.I w n v x)
    (h3 : us.length = da.size) (h4 : ∀ (k : Nat) v x, us[k]? = some v → da[k]? = some x → VRel g.bs g.I w n v x) :
    (vs ++ us).length = (ca ++ da).size ∧ ∀ (k : Nat) v x, (vs ++ us)[k]? = some v → (ca ++ da)[k]? = some x → VRel g.bs g.I w n v x := by
  refine ⟨by simp [h1, h3], fun k v x hv hx => ?_⟩
  rw [List.getElem?_append] at hv
  rw [Array.getElem?_append] at hx
  rw [h1] at hv
  split at hv
  · rename_i hk; rw [if_pos hk] at hx; exact h2 k v x hv hx
  · rename_i hk; rw [if_neg hk] at hx; exact h4 _ v x hv hx

theorem sound_panic {x : Operand} (ho : o.op = .panic x) (H : Nexts c a o.dst K KP next Q) (hs : Sim c g w a ⟨t, ob, nt, df⟩)
    (h : ev t x fun x => match x with
      | .ifc T v => KP (.ifc T v) ⟨t, ob, nt, df⟩
      | _ => False) : o.wp S.P a w next Q := by
  obtain ⟨v, hv, hk⟩ := ev_sound hs.ti h
  cases v <;> try exact hk.elim
  rename_i T v
  have hr := hv.rel
  generalize hx : a.eval x = e at hr
  cases hr
  rename_i y hy
  unfold Oper.wp
  have : (execOp a.eval o).run S.P w = .halt (.panic (.iface T y)) w := by simp [execOp, ho, hx, Instr.panic, goPanic]
  rw [this, Oper.upon_panic]
  exact H.pan _ _ _ g w a hk hs (.ifc hy)

theorem sound_defer {cl : Call} {f : Operand} (ho : o.op = .defer cl) (hc : cl.callee = .value f) (H : Nexts c a o.dst K KP next Q) (hs : Sim c g w a ⟨t, ob, nt, df⟩)
    (h0 : ev t f fun f => evs t cl.args.toList fun args => match f with
      | .fn (.func g) first cap => mapK V.untokK (first ++ args) fun a => mapK V.untokK cap fun cap => K (.tup []) ⟨t, ob, nt, (.func g, a, cap) :: df⟩
      | _ => False) : o.wp S.P a w next Q := by
  obtain ⟨v, hv, h00⟩ := ev_sound hs.ti h0
  clear h0
  obtain ⟨vs, k1, k2, h⟩ := evs_sound hs.ti h00
  clear h00
  obtain ⟨h1, h2⟩ := args_of k1 k2
  cases v <;> try exact h.elim
  rename_i f' first cap
  cases f' <;> try exact h.elim
  rename_i fid
  have h := mapK_untok (mapK_untok h)
  have hr := hv.rel
  generalize hx : a.eval f = e at hr
  cases hr
  rename_i ca cb ha hb i1 i2
  unfold Oper.wp
  have hrun : (execOp a.eval o).run S.P w = .ok (.defer { target := .fn (.func fid) cb, args := ca ++ cl.args.map a.eval }) w := by
    simp [execOp, ho, resolve, hc, hx, Deferred.ofValue]
  rw [hrun, Oper.upon_defer]
  obtain ⟨j1, j2⟩ := append_args ha hb h1 fun k v x hv hx => (h2 k v x hv hx).rel
  obtain ⟨m1, m2⟩ := untok_args j1 j2
  obtain ⟨n1, n2⟩ := untok_args i1 i2
  exact H.val _ _ ⟨t, ob, nt, _⟩ g w { a with defers := _ :: a.defers } h ⟨hs.wi, hs.ti, .cons ⟨cb, rfl, m1, n1, m2, n2⟩ hs.di⟩ rfl (.of (.tup rfl (by simp)) rfl)

end
end VL

namespace VL
open Go
set_option linter.unusedVariables false
set_option linter.unusedSimpArgs false

def Ends (g : G) (w : World) (n : Nat) : Out → Ending → Prop
  | .ret v, .returned x => VT g w n 0 v x
  | .pan v, .panicked ch => ∃ x, ch = [{ v := x, recovered := false }] ∧ VRel g.bs g.I w n v x
  | _, _ => False

/-- a function's contract: whatever the world, it comes to an end that K tells of -/
def VCall0 (P : Program) (f : FuncId) (args : List V) (ob : List VObj) (K : Out → List VObj → Prop) : Prop :=
  (∃ fn, P.funcs[f]? = some fn ∧ (fn.name == "runtime.NumGoroutine") = false ∧ fn.body.isNone = false) ∧
  ∀ (w : World) (g : G) (cargs : Array Value), WInv ⟨w, ob.length, g.bs, g.I, fun _ => False⟩ g w ob 0 → args.length = cargs.size →
    (∀ (k : Nat) v x, args[k]? = some v → cargs[k]? = some x → VT g w ob.length 0 v x) →
    Calls P f cargs w fun e w' => ∃ out ob' g', K out ob' ∧ WInv ⟨w, ob.length, g.bs, g.I, fun _ => False⟩ g' w' ob' 0 ∧ Ends g' w' ob'.length out e

structure VCall (P : Program) (f : FuncId) (args : List V) (ob : List VObj) (K : Out → List VObj → Prop) : Prop where
  shut :: «open» : VCall0 P f args ob K

theorem memN_iff {i : Nat} : ∀ {l : List Nat}, memN i l = true ↔ i ∈ l
  | [] => by simp [memN]
  | j :: r => by
    simp only [memN, List.mem_cons]
    cases h : Nat.beq i j with
    | true => simp [Nat.eq_of_beq_eq_true h]
    | false => simp only [memN_iff (l := r)]; exact ⟨.inr, fun h' => h'.resolve_left fun e => by subst e; simp at h⟩

theorem nodupN_iff : ∀ {l : List Nat}, nodupN l = true → l.Nodup
  | [], _ => .nil
  | i :: r, h => by
    simp only [nodupN, Bool.and_eq_true, Bool.not_eq_true'] at h
    refine List.nodup_cons.2 ⟨fun hm => ?_, nodupN_iff h.2⟩
    rw [memN_iff.2 hm] at h; simp at h

theorem allIn_iff {idx : List Nat} : ∀ {l : List Nat}, allIn idx l = true → ∀ i ∈ l, i ∈ idx
  | j :: r, h, i, hi => by
    simp only [allIn, Bool.and_eq_true] at h
    cases hi with
    | head => exact memN_iff.1 h.1
    | tail _ hi => exact allIn_iff h.2 i hi

theorem shutN_iff {ob : List VObj} {idx : List Nat} : ∀ {l : List Nat}, shutN ob idx l = true → ∀ i ∈ l, ∀ x, ob[i]? = some x → ∀ o ∈ ptrsO x, o ∈ idx
  | j :: r, h, i, hi, x, hx, o, ho => by
    simp only [shutN, Bool.and_eq_true] at h
    cases hi with
    | head => exact allIn_iff h.1 o (by rw [hx]; simpa using ho)
    | tail _ hi => exact shutN_iff h.2 i hi x hx o ho

theorem posN_get : ∀ {l : List Nat} {i k : Nat}, i ∈ l → k ≤ posN i l k ∧ posN i l k < k + l.length ∧ l[posN i l k - k]? = some i
  | j :: r, i, k, h => by
    simp only [posN]
    cases hb : Nat.beq i j with
    | true => rw [Nat.eq_of_beq_eq_true hb]; simp
    | false =>
      have hr : i ∈ r := by
        cases h with
        | head => simp at hb
        | tail _ h => exact h
      obtain ⟨h1, h2, h3⟩ := posN_get (k := k + 1) hr
      refine ⟨by simp only; omega, by simp only [List.length_cons]; omega, ?_⟩
      simp only
      rw [show posN i r (k + 1) - k = (posN i r (k + 1) - (k + 1)) + 1 by omega]
      simpa using h3

def untokO : VObj → VObj
  | .cells w T cs => .cells w T (cs.map V.untok)
  | o => o

theorem untokO_iff {o : VObj} {K : VObj → Prop} (h : o.untokK K) : o ≠ .none ∧ K (untokO o) := by
  cases o with
  | none => exact h.elim
  | cells w T cs => exact ⟨by simp, mapK_untok h⟩
  | map es => exact ⟨by simp, h⟩

mutual
theorem ren_nil (f : Nat → Nat) : ∀ v : V, ptrs v = [] → ren f v = v
  | .undef, _ | .int _ _, _ | .bool _, _ | .str _, _ | .nilp, _ | .sl _ _, _ | .spare _ _, _ | .niln, _ | .nili, _ | .nilm, _ => rfl
  | .ptr _ _, h => by simp [ptrs] at h
  | .mp _, h => by simp [ptrs] at h
  | .slp l, h => by simp only [ren, renL_nil f l (by simpa [ptrs] using h)]
  | .dp l, h => by simp only [ren, renL_nil f l (by simpa [ptrs] using h)]
  | .agg l, h => by simp only [ren, renL_nil f l (by simpa [ptrs] using h)]
  | .tup l, h => by simp only [ren, renL_nil f l (by simpa [ptrs] using h)]
  | .ifc t v, h => by simp only [ren, ren_nil f v (by simpa [ptrs] using h)]
  | .fn g a b, h => by
    have h : ptrsL a = [] ∧ ptrsL b = [] := by simpa [ptrs] using h
    simp only [ren, renL_nil f a h.1, renL_nil f b h.2]
theorem renL_nil (f : Nat → Nat) : ∀ l : List V, ptrsL l = [] → renL f l = l
  | [], _ => rfl
  | v :: r, h => by
    have h : ptrs v = [] ∧ ptrsL r = [] := by simpa [ptrsL] using h
    simp only [renL, ren_nil f v h.1, renL_nil f r h.2]
end

theorem natK_iff {n : Nat} {K : Nat → Prop} (h : natK n K) : K n := by cases n <;> exact h

theorem listK_iff : ∀ {l : List Nat} {K : List Nat → Prop}, listK l K → K l
  | [], K, h => h
  | i :: r, K, h => listK_iff (l := r) (natK_iff h)

theorem renP_iff {f : Nat → Nat} {v : V} {K : V → Prop} (h : renP f v K) : K (ren f v) := by
  unfold renP at h
  split at h
  · exact natK_iff h
  · split at h
    · rename_i e; rw [ren_nil f v e]; exact h
    · exact h

theorem mapK_renP {f : Nat → Nat} {K : List V → Prop} : ∀ {l : List V}, mapK (renP f) l K → K (renL f l)
  | [], h => h
  | x :: r, h => mapK_renP (l := r) (renP_iff h)

theorem renOP_iff {f : Nat → Nat} {o : VObj} {K : VObj → Prop} (h : renOP f o K) : K (renO f o) := by
  unfold renOP at h
  split at h
  · rename_i w T cs
    split at h
    · rename_i e
      simp only [renO, renL_nil f cs e]; exact h
    · exact mapK_renP h
  · cases o with
    | cells w T cs => rename_i hn; exact absurd rfl (hn w T cs)
    | _ => exact h

theorem mapK_renOP {f : Nat → Nat} {K : List VObj → Prop} : ∀ {l : List VObj}, mapK (renOP f) l K → K (l.map (renO f))
  | [], h => h
  | x :: r, h => mapK_renOP (l := r) (renOP_iff h)

theorem getsK_iff {ob : List VObj} {f : Nat → Nat} : ∀ {idx : List Nat} {K : List VObj → Prop}, getsK ob f idx K →
    ∃ sub, sub.length = idx.length ∧ (∀ (j i : Nat), idx[j]? = some i → ∃ o, ob[i]? = some o ∧ o ≠ .none ∧ sub[j]? = some (renO f (untokO o))) ∧ K sub
  | [], K, h => ⟨[], rfl, by simp, h⟩
  | i :: r, K, h => by
    obtain ⟨o, h1, h2⟩ := getK_iff h
    obtain ⟨h3, h4⟩ := untokO_iff h2
    obtain ⟨sub, h5, h6, h7⟩ := getsK_iff h4
    have h7 := renOP_iff h7
    refine ⟨_ :: sub, by simp [h5], fun j k hj => ?_, h7⟩
    cases j with
    | zero => simp at hj; subst hj; exact ⟨o, h1, h3, rfl⟩
    | succ j => exact h6 j k (by simpa using hj)

theorem backK_iff {f : Nat → Nat} : ∀ {idx : List Nat} {os ob : List VObj} {K : List VObj → Prop}, idx.Nodup → backK f idx os ob K →
    ∃ ob', idx.length ≤ os.length ∧ ob'.length = ob.length + (os.length - idx.length) ∧ (∀ (j i : Nat) o, idx[j]? = some i → os[j]? = some o → ob'[i]? = some (renO f o)) ∧
      (∀ i, i < ob.length → i ∉ idx → ob'[i]? = ob[i]?) ∧ (∀ (k : Nat) o, os[idx.length + k]? = some o → ob'[ob.length + k]? = some (renO f o)) ∧ K ob'
  | [], os, ob, K, _, h => ⟨ob ++ os.map (renO f), by simp, by simp, by simp, fun i hi _ => by rw [List.getElem?_append_left hi], fun k o ho => by
      rw [List.getElem?_append_right (by omega), Nat.add_sub_cancel_left, List.getElem?_map]
      simp at ho; simp [ho], mapK_renOP h⟩
  | i :: r, [], ob, K, _, h => h.elim
  | i :: r, o :: os, ob, K, hn, h => by
    obtain ⟨hi, h⟩ := setK_iff (renOP_iff h)
    obtain ⟨hir, hr⟩ := List.nodup_cons.1 hn
    obtain ⟨ob', h1, h2, h3, h4, h5, h6⟩ := backK_iff hr h
    simp only [List.length_set] at h2 h4 h5
    refine ⟨ob', by simp; omega, by simp only [List.length_cons]; omega, fun j k x hj hx => ?_, fun k hk hk' => ?_, fun k x hx => ?_, h6⟩
    · cases j with
      | zero =>
        simp at hj hx; subst hj; subst hx
        rw [h4 i hi hir, List.getElem?_set_self hi]
      | succ j => exact h3 j k x (by simpa using hj) (by simpa using hx)
    · simp only [List.mem_cons, not_or] at hk'
      rw [h4 k hk hk'.2, List.getElem?_set_ne (by omega)]
    · exact h5 k x (by
        have : (i :: r).length + k = (r.length + k) + 1 := by simp; omega
        rw [this] at hx; simpa using hx)


end VL

namespace VL
open Go
set_option linter.unusedVariables false
set_option linter.unusedSimpArgs false

theorem noTok_ren {f : Nat → Nat} {v : V} (h : v.noTok = true) : (ren f v).noTok = true := by
  cases v <;> simp [ren, V.noTok] at h ⊢
  exact h

theorem noTok_of {fam : Nat → Fam} {v : V} {x : Value} (h : Tok fam 0 v x) : v.noTok = true := by
  cases v with
  | sl l r => cases r with
    | tok i sz => exact absurd h.1 (by omega)
    | _ => rfl
  | _ => rfl

theorem ptrs_untok (v : V) : ptrs (V.untok v) = ptrs v := by
  unfold V.untok; split <;> simp [ptrs]

theorem ptrsL_untok (l : List V) : ptrsL (l.map V.untok) = ptrsL l := by
  induction l with
  | nil => rfl
  | cons x r ih => simp [ptrsL, ptrs_untok, ih]

section
variable {c : Ctx} {g : G} {w : World} {ob : List VObj} {nt : Nat} {idx : List Nat} {sub : List VObj}

/-- what the callee finds -/
def inG (g : G) (idx : List Nat) : G := { g with bs := fun j => g.bs ((idx[j]?).getD 0) }

theorem in_rel {n m : Nat} {v : V} {x : Value} (h : VRel g.bs g.I w n v x) (hp : ∀ o ∈ ptrs v, o ∈ idx) (hm : m = idx.length) :
    VRel (inG g idx).bs (inG g idx).I w m (ren (fun i => posN i idx 0) v) x := by
  refine h.ren fun o ho _ => ?_
  obtain ⟨_, h2, h3⟩ := posN_get (k := 0) (hp o ho)
  rw [Nat.sub_zero] at h3
  refine ⟨by omega, ?_⟩
  show g.bs ((idx[posN o idx 0]?).getD 0) = _
  rw [h3]; rfl

theorem call_in (h : WInv c g w ob nt) (hnd : idx.Nodup) (hshut : ∀ i ∈ idx, ∀ x, ob[i]? = some x → ∀ o ∈ ptrsO x, o ∈ idx) (hl : sub.length = idx.length)
    (hsub : ∀ (j i : Nat), idx[j]? = some i → ∃ o, ob[i]? = some o ∧ o ≠ .none ∧ sub[j]? = some (renO (fun i => posN i idx 0) (untokO o))) :
    WInv ⟨w, sub.length, (inG g idx).bs, g.I, fun _ => False⟩ (inG g idx) w sub 0 := by
  have hget : ∀ (j : Nat) x, sub[j]? = some x → ∃ i o, idx[j]? = some i ∧ ob[i]? = some o ∧ o ≠ .none ∧ x = renO (fun i => posN i idx 0) (untokO o) ∧ (inG g idx).bs j = g.bs i := fun j x hx => by
    have hlt : j < idx.length := by rw [← hl]; exact (List.getElem?_eq_some_iff.1 hx).1
    obtain ⟨o, h1, h2, h3⟩ := hsub j idx[j] (List.getElem?_eq_getElem hlt)
    rw [hx] at h3
    exact ⟨idx[j], o, List.getElem?_eq_getElem hlt, h1, h2, by simpa using h3, by simp [inG, hlt]⟩
  refine ⟨rfl, rfl, rfl, Nat.le_refl _, fun _ _ _ _ => rfl, Nat.le_refl _, ?_, ?_, ?_, fun _ _ => rfl, ?_, fun _ _ h => h, fun _ _ _ _ _ h => h, h.i3, ?_, ?_, fun i hi => absurd hi (by omega), fun i j hi => absurd hi (by omega), fun _ _ _ => rfl⟩
  · intro j x hx
    obtain ⟨i, o, h1, h2, h3, rfl, hb⟩ := hget j x hx
    have ho := h.obj i o h2
    have hsh := hshut i (List.mem_of_getElem? h1) o h2
    rw [hb]
    cases o with
    | none => exact absurd rfl h3
    | map es =>
      obtain ⟨arr, clk, a1, a2, a3⟩ := ho
      exact ⟨arr, clk, a1, a2, fun k e c he hc => ⟨(a3 k e c he hc).1.mono (fun o ho => absurd ho (by omega)) fun b k hi => ⟨hi, rfl⟩, (a3 k e c he hc).2.mono (fun o ho => absurd ho (by omega)) fun b k hi => ⟨hi, rfl⟩⟩⟩
    | cells wr T cs =>
      obtain ⟨arr, a1, a2, a3⟩ := ho
      refine ⟨arr, a1, by rw [renL_length]; simp [a2], fun k v c hv hc => ?_⟩
      rw [renL_get, List.getElem?_map] at hv
      obtain ⟨v', hv', rfl⟩ := Option.map_eq_some_iff.1 hv
      obtain ⟨v'', hv'', rfl⟩ := Option.map_eq_some_iff.1 hv'
      refine ⟨⟨in_rel (a3 k v'' c hv'' hc).1.rel.untok (fun o ho => hsh o ?_) hl, .of_no (noTok_ren (untok_noTok _))⟩, (a3 k v'' c hv'' hc).2⟩
      rw [ptrs_untok] at ho
      exact ptrsL_get hv'' ho
  · intro j x hx hne
    obtain ⟨i, o, h1, h2, h3, rfl, hb⟩ := hget j x hx
    rw [hb]; exact h.lt i o h2 h3
  · intro j j' x x' hx hx' _ _ e
    obtain ⟨i, o, h1, h2, h3, rfl, hb⟩ := hget j x hx
    obtain ⟨i', o', h1', h2', h3', rfl, hb'⟩ := hget j' x' hx'
    rw [hb, hb'] at e
    have e' := h.inj i i' o o' h2 h2' h3 h3' e
    subst e'
    have l1 := (List.getElem?_eq_some_iff.1 h1).1
    have l2 := (List.getElem?_eq_some_iff.1 h1').1
    have hp := List.pairwise_iff_getElem.1 hnd
    have he : idx[j] = idx[j'] := by rw [(List.getElem?_eq_some_iff.1 h1).2, (List.getElem?_eq_some_iff.1 h1').2]
    rcases Nat.lt_trichotomy j j' with hlt | rfl | hlt
    · exact absurd he (hp j j' l1 l2 hlt)
    · rfl
    · exact absurd he.symm (hp j' j l2 l1 hlt)
  · intro j x hj hx
    have := (List.getElem?_eq_some_iff.1 hx).1
    simp only at hj; omega
  · intro j T cs k hx
    obtain ⟨i, o, h1, h2, h3, he, hb⟩ := hget j _ hx
    cases o with
    | cells wr U ds =>
      simp [untokO, renO] at he
      obtain ⟨rfl, _, _⟩ := he
      rw [hb]; exact h.i4 i _ _ k h2
    | _ => simp [untokO, renO] at he
  · intro j es k hx
    obtain ⟨i, o, h1, h2, h3, he, hb⟩ := hget j _ hx
    cases o with
    | map es' => rw [hb]; exact h.i5 i _ k h2
    | _ => simp [untokO, renO] at he

def backN (idx : List Nat) (n : Nat) (j : Nat) : Nat := (idx[j]?).getD (n + (j - idx.length))

/-- the caller's, behind the call -/
def outG (g g' : G) (n m : Nat) : G := { bs := fun o => if o < n then g.bs o else g'.bs (o - n + m), I := g'.I, fam := g.fam }

variable {g' : G} {w' : World} {os ob' : List VObj}

theorem call_out (h : WInv c g w ob nt) (hnd : idx.Nodup) (hidx : ∀ i ∈ idx, ∃ o, ob[i]? = some o ∧ o ≠ .none)
    (h' : WInv ⟨w, idx.length, (inG g idx).bs, g.I, fun _ => False⟩ g' w' os 0) (hlen : ob'.length = ob.length + (os.length - idx.length))
    (h1 : ∀ (j i : Nat) o, idx[j]? = some i → os[j]? = some o → ob'[i]? = some (renO (backN idx ob.length) o))
    (h2 : ∀ i, i < ob.length → i ∉ idx → ob'[i]? = ob[i]?) (h3 : ∀ (k : Nat) o, os[idx.length + k]? = some o → ob'[ob.length + k]? = some (renO (backN idx ob.length) o)) :
    WInv c (outG g g' ob.length idx.length) w' ob' nt ∧ Ext g w ob.length nt (outG g g' ob.length idx.length) w' ob'.length nt ∧
      (∀ v x, VT g' w' os.length 0 v x → VT (outG g g' ob.length idx.length) w' ob'.length nt (ren (backN idx ob.length) v) x) ∧
      ∀ v x, VRel g'.bs g'.I w' os.length v x → VRel (outG g g' ob.length idx.length).bs (outG g g' ob.length idx.length).I w' ob'.length (ren (backN idx ob.length) v) x := by
  have hle : idx.length ≤ os.length := h'.len
  have hsz : w.heap.size ≤ w'.heap.size := h'.size
  have hb0 : ∀ j i, idx[j]? = some i → (inG g idx).bs j = g.bs i := fun j i hj => by simp [inG, hj]
  have hbs : ∀ j i, idx[j]? = some i → g'.bs j = g.bs i := fun j i hj => by
    rw [← hb0 j i hj]; exact h'.old j (List.getElem?_eq_some_iff.1 hj).1
  have hkeep : ∀ b, b < w.heap.size → (∀ i ∈ idx, b ≠ g.bs i) → w'.heap[b]? = w.heap[b]? ∧ ∀ k, g'.I b k → g.I b k := fun b hb hn => by
    have hx : ∀ o, o < idx.length → b ≠ (inG g idx).bs o := fun o ho => by
      rw [hb0 o idx[o] (List.getElem?_eq_getElem ho)]; exact hn _ (List.getElem_mem ho)
    exact ⟨h'.keep b hb hx fun h => h, fun k => h'.i2 b k hb hx fun h => h⟩
  have hcell : ∀ b k, g.I b k → g'.I b k ∧ w'.cell? ⟨b, k, none⟩ = w.cell? ⟨b, k, none⟩ := fun b k hI => ⟨h'.i1 b k hI, h'.i6 b k hI⟩
  have hext : Ext g w ob.length nt (outG g g' ob.length idx.length) w' ob'.length nt :=
    ⟨by omega, Nat.le_refl _, fun o ho => by simp [outG, ho], hcell, fun _ _ => rfl⟩
  have hback : ∀ j, j < os.length → backN idx ob.length j < ob'.length ∧ (outG g g' ob.length idx.length).bs (backN idx ob.length j) = g'.bs j := fun j hj => by
    rcases Nat.lt_or_ge j idx.length with hlt | hge
    · obtain ⟨o, ho, _⟩ := hidx idx[j] (List.getElem_mem hlt)
      have hb : idx[j] < ob.length := (List.getElem?_eq_some_iff.1 ho).1
      have hbn : backN idx ob.length j = idx[j] := by simp [backN, hlt]
      rw [hbn]
      exact ⟨by omega, by simp only [outG, if_pos hb]; exact (hbs j _ (List.getElem?_eq_getElem hlt)).symm⟩
    · have hbn : backN idx ob.length j = ob.length + (j - idx.length) := by simp [backN, List.getElem?_eq_none hge]
      rw [hbn]
      refine ⟨by omega, ?_⟩
      simp only [outG]
      rw [if_neg (by omega)]
      congr 1; omega
  have hrel : ∀ v x, VRel g'.bs g'.I w' os.length v x → VRel (outG g g' ob.length idx.length).bs (outG g g' ob.length idx.length).I w' ob'.length (ren (backN idx ob.length) v) x :=
    fun v x hv => hv.ren fun o _ ho => hback o ho
  have hvt : ∀ v x, VT g' w' os.length 0 v x → VT (outG g g' ob.length idx.length) w' ob'.length nt (ren (backN idx ob.length) v) x :=
    fun v x hv => ⟨hrel v x hv.rel, .of_no (noTok_ren (noTok_of hv.tok))⟩
  have horel : ∀ b o, ORel g' w' os.length 0 b o → ORel (outG g g' ob.length idx.length) w' ob'.length nt b (renO (backN idx ob.length) o) := fun b o ho => by
    cases o with
    | none => trivial
    | map es =>
      obtain ⟨arr, clk, a1, a2, a3⟩ := ho
      exact ⟨arr, clk, a1, a2, fun k e c he hc => ⟨(a3 k e c he hc).1.mono (fun o ho => absurd ho (by omega)) fun b k hi => ⟨hi, rfl⟩, (a3 k e c he hc).2.mono (fun o ho => absurd ho (by omega)) fun b k hi => ⟨hi, rfl⟩⟩⟩
    | cells wr T cs =>
      obtain ⟨arr, a1, a2, a3⟩ := ho
      refine ⟨arr, a1, by rw [renL_length, a2], fun k v c hv hc => ?_⟩
      rw [renL_get] at hv
      obtain ⟨v', hv', rfl⟩ := Option.map_eq_some_iff.1 hv
      exact ⟨hvt v' c (a3 k v' c hv' hc).1, (a3 k v' c hv' hc).2⟩
  have hren0 : ∀ o, renO (backN idx ob.length) o ≠ .none → o ≠ .none := fun o h e => by subst e; exact h rfl
  -- which object is it
  have hget : ∀ (i : Nat) y, ob'[i]? = some y →
      (i < ob.length ∧ i ∉ idx ∧ ob[i]? = some y ∧ (outG g g' ob.length idx.length).bs i = g.bs i) ∨
      (∃ j o, os[j]? = some o ∧ y = renO (backN idx ob.length) o ∧ (outG g g' ob.length idx.length).bs i = g'.bs j ∧ i = backN idx ob.length j ∧
        ((j < idx.length ∧ i < ob.length ∧ idx[j]? = some i) ∨ (idx.length ≤ j ∧ ob.length ≤ i))) := fun i y hy => by
    have hi := (List.getElem?_eq_some_iff.1 hy).1
    rcases Nat.lt_or_ge i ob.length with hlt | hge
    · by_cases hm : i ∈ idx
      · obtain ⟨j, hj⟩ := List.mem_iff_getElem?.1 hm
        have hjl := (List.getElem?_eq_some_iff.1 hj).1
        have hjo : os[j]? = some os[j] := List.getElem?_eq_getElem (by omega)
        have := h1 j i _ hj hjo
        rw [hy] at this
        refine .inr ⟨j, _, hjo, by simpa using this, ?_, by simp [backN, hj], .inl ⟨hjl, hlt, hj⟩⟩
        simp only [outG, if_pos hlt]; exact (hbs j i hj).symm
      · refine .inl ⟨hlt, hm, ?_, by simp [outG, hlt]⟩
        rw [← h2 i hlt hm]; exact hy
    · have hjo : os[idx.length + (i - ob.length)]? = some os[idx.length + (i - ob.length)] := List.getElem?_eq_getElem (by omega)
      have := h3 _ _ hjo
      rw [show ob.length + (i - ob.length) = i by omega, hy] at this
      refine .inr ⟨_, _, hjo, by simpa using this, ?_, ?_, .inr ⟨by omega, hge⟩⟩
      · simp only [outG]; rw [if_neg (by omega)]; congr 1; omega
      · simp only [backN]; rw [List.getElem?_eq_none (by omega)]; simp; omega
  -- a block that is no object's of the caller's
  have hfree : ∀ b, b < c.w0.heap.size → (∀ o, o < c.n0 → b ≠ c.b0 o) → ∀ i ∈ idx, b ≠ g.bs i := fun b hb hn i hi e => by
    obtain ⟨o, ho, hne⟩ := hidx i hi
    rcases Nat.lt_or_ge i c.n0 with hlt | hge
    · exact hn i hlt (by rw [e, h.old i hlt])
    · have := h.new i o hge ho hne; omega
  have hold : ∀ i y, i < ob.length → i ∉ idx → ob[i]? = some y → y ≠ .none → w'.heap[g.bs i]? = w.heap[g.bs i]? ∧ ∀ k, g'.I (g.bs i) k → g.I (g.bs i) k := fun i y hi hm hy hne => by
    refine hkeep _ (h.lt i y hy hne) fun i' hi' e => ?_
    obtain ⟨o, ho, hne'⟩ := hidx i' hi'
    have := h.inj i i' y o hy ho hne hne' e
    subst this; exact hm hi'
  have hwlt : ∀ j o, os[j]? = some o → o ≠ .none → idx.length ≤ j → w.heap.size ≤ g'.bs j := fun j o ho hne hj => h'.new j o hj ho hne
  refine ⟨⟨?_, ?_, ?_, ?_, ?_, ?_, ?_, ?_, ?_, ?_, ?_, ?_, ?_, ?_, ?_, ?_, ?_, ?_, ?_⟩, hext, hvt, hrel⟩
  · exact h'.os.trans h.os
  · exact h'.tape.trans h.tape
  · exact h'.output.trans h.output
  · exact Nat.le_trans h.size hsz
  · intro b hb hn hw
    rw [(hkeep b (by have := h.size; omega) (hfree b hb hn)).1]
    exact h.keep b hb hn hw
  · have := h.len; omega
  · intro i y hy
    rcases hget i y hy with ⟨a1, a2, a3, a4⟩ | ⟨j, o, a1, rfl, a3, _, _⟩
    · rw [a4]
      cases y with
      | none => trivial
      | cells wr T cs => exact hext.orel (h.obj i _ a3) (hold i _ a1 a2 a3 (by simp)).1
      | map es => exact hext.orel (h.obj i _ a3) (hold i _ a1 a2 a3 (by simp)).1
    · rw [a3]; exact horel _ _ (h'.obj j o a1)
  · intro i y hy hne
    rcases hget i y hy with ⟨a1, a2, a3, a4⟩ | ⟨j, o, a1, rfl, a3, _, _⟩
    · rw [a4]; have := h.lt i y a3 hne; omega
    · rw [a3]; exact h'.lt j o a1 (hren0 o hne)
  · intro i i' y y' hy hy' hne hne' e
    rcases hget i y hy with ⟨a1, a2, a3, a4⟩ | ⟨j, o, a1, rfl, a3, a4, a5⟩ <;> rcases hget i' y' hy' with ⟨b1, b2, b3, b4⟩ | ⟨j', o', b1, rfl, b3, b4, b5⟩
    · rw [a4, b4] at e; exact h.inj i i' y y' a3 b3 hne hne' e
    · rw [a4, b3] at e
      rcases b5 with ⟨q1, q2, q3⟩ | ⟨q1, q2⟩
      · obtain ⟨x, hx, hxn⟩ := hidx i' (List.mem_of_getElem? q3)
        rw [hbs j' i' q3] at e
        exact h.inj i i' y x a3 hx hne hxn e
      · have := hwlt j' o' b1 (hren0 _ hne') q1
        have := h.lt i y a3 hne
        omega
    · rw [a3, b4] at e
      rcases a5 with ⟨q1, q2, q3⟩ | ⟨q1, q2⟩
      · obtain ⟨x, hx, hxn⟩ := hidx i (List.mem_of_getElem? q3)
        rw [hbs j i q3] at e
        exact h.inj i i' x y' hx b3 hxn hne' e
      · have := hwlt j o a1 (hren0 _ hne) q1
        have := h.lt i' y' b3 hne'
        omega
    · rw [a3, b3] at e
      have := h'.inj j j' o o' a1 b1 (hren0 _ hne) (hren0 _ hne') e
      subst this; rw [a4, b4]
  · intro o ho
    have : o < ob.length := by have := h.len; omega
    simp only [outG, if_pos this]; exact h.old o ho
  · intro i y hi hy hne
    rcases hget i y hy with ⟨a1, a2, a3, a4⟩ | ⟨j, o, a1, rfl, a3, a4, a5⟩
    · rw [a4]; exact h.new i y hi a3 hne
    · rw [a3]
      rcases a5 with ⟨q1, q2, q3⟩ | ⟨q1, q2⟩
      · obtain ⟨x, hx, hxn⟩ := hidx i (List.mem_of_getElem? q3)
        rw [hbs j i q3]; exact h.new i x hi hx hxn
      · have := hwlt j o a1 (hren0 _ hne) q1
        have := h.size; omega
  · intro b k hI; exact h'.i1 b k (h.i1 b k hI)
  · intro b k hb hn hw hI
    exact h.i2 b k hb hn hw ((hkeep b (by have := h.size; omega) (hfree b hb hn)).2 k hI)
  · exact h'.i3
  · intro i T cs k hy
    rcases hget i _ hy with ⟨a1, a2, a3, a4⟩ | ⟨j, o, a1, he, a3, a4, a5⟩
    · rw [a4]; exact fun hI => h.i4 i T cs k a3 ((hold i _ a1 a2 a3 (by simp)).2 k hI)
    · rw [a3]
      cases o with
      | cells wr U ds => simp [renO] at he; obtain ⟨rfl, _, _⟩ := he; exact h'.i4 j _ _ k a1
      | _ => simp [renO] at he
  · intro i es k hy
    rcases hget i _ hy with ⟨a1, a2, a3, a4⟩ | ⟨j, o, a1, he, a3, a4, a5⟩
    · rw [a4]; exact fun hI => h.i5 i es k a3 ((hold i _ a1 a2 a3 (by simp)).2 k hI)
    · rw [a3]
      cases o with
      | map es' => exact h'.i5 j _ k a1
      | _ => simp [renO] at he
  · intro i hi hn
    obtain ⟨f1, ⟨arr, T, f2, f2'⟩, f3, f4⟩ := h.f1 i hi hn
    have hlt : (g.fam i).blk < w.heap.size := by
      rcases Nat.lt_or_ge (g.fam i).blk w.heap.size with h | h
      · exact h
      · rw [Array.getElem?_eq_none h] at f2; cases f2
    obtain ⟨k1, k2⟩ := hkeep (g.fam i).blk hlt fun i' hi' e => by
      obtain ⟨o, ho, hne⟩ := hidx i' hi'
      exact f4 i' o ho hne e.symm
    refine ⟨f1, ⟨arr, T, by rw [← f2]; exact k1, f2'⟩, fun k hk hI => f3 k hk (k2 k hI), fun i' y hy hne => ?_⟩
    rcases hget i' y hy with ⟨a1, a2, a3, a4⟩ | ⟨j, o, a1, rfl, a3, a4, a5⟩
    · rw [a4]; exact f4 i' y a3 hne
    · rw [a3]
      rcases a5 with ⟨q1, q2, q3⟩ | ⟨q1, q2⟩
      · obtain ⟨x, hx, hxn⟩ := hidx i' (List.mem_of_getElem? q3)
        rw [hbs j i' q3]; exact f4 i' x hx hxn
      · have := hwlt j o a1 (hren0 _ hne) q1
        intro e
        have e' : g'.bs j = (g.fam i).blk := e
        omega
  · exact h.f2
  · intro b k hI
    rw [h'.i6 b k (h.i1 b k hI)]; exact h.i6 b k hI

end

section
variable {S : Sys} {c : Ctx} {g : G} {w : World} {a : Act} {o : Oper} {K KP : V → St → Prop} {next : Act → World → Prop} {Q : Exit → Act → World → Prop}
  {t : List V} {ob : List VObj} {nt : Nat} {df : List (Fn × List V × List V)}

theorem sound_call {cl : Call} {f : Operand} (hS : ∀ g args ob K, S.call g args ob K → VCall0 S.P g args ob K) (ho : o.op = .call cl) (hc : cl.callee = .value f) (H : Nexts c a o.dst K KP next Q)
    (hs : Sim c g w a ⟨t, ob, nt, df⟩) (h0 : ev t f fun f => evs t cl.args.toList fun args => vcall S f args ⟨t, ob, nt, df⟩ K KP) : o.wp S.P a w next Q := by
  obtain ⟨v, hv, h00⟩ := ev_sound hs.ti h0
  clear h0
  obtain ⟨vs, k1, k2, h⟩ := evs_sound hs.ti h00
  clear h00
  obtain ⟨h1, h2⟩ := args_of k1 k2
  cases v <;> try exact h.elim
  rename_i f' first cap
  cases f' <;> try exact h.elim
  rename_i fid
  have h := mapK_untok h
  have hr := hv.rel
  generalize hx : a.eval f = e at hr
  cases hr
  rename_i ca cb ha hb i1 i2
  obtain ⟨j1, j2⟩ := append_args ha hb h1 fun k v x hv hx => (h2 k v x hv hx).rel
  obtain ⟨j1, j2⟩ := append_args j1 j2 i1 i2
  obtain ⟨m1, m2⟩ := untok_args j1 j2
  have hno : ∀ v ∈ (first ++ vs ++ cap).map V.untok, v.noTok = true := fun v hv => by
    obtain ⟨u, _, rfl⟩ := List.mem_map.1 hv; exact untok_noTok u
  have hexec : execOp a.eval o = callFunc fid (ca ++ cl.args.map a.eval ++ cb) := by
    simp only [execOp, ho, resolve, hc, hx]
    rfl
  generalize (first ++ vs ++ cap).map V.untok = args at h m1 m2 hno
  generalize ca ++ cl.args.map a.eval ++ cb = cargs at m1 m2 hexec
  simp only at h
  have h := listK_iff h
  generalize reach ob 64 (ptrsL args) [] = idx at h
  split at h
  case h_1 => exact h.elim
  rename_i hchk
  simp only [Bool.and_eq_true] at hchk
  obtain ⟨⟨hnd, hin⟩, hshut⟩ := hchk
  have hnd := nodupN_iff hnd
  obtain ⟨sub, hl, hsub, h⟩ := getsK_iff h
  have h := mapK_renP h
  obtain ⟨⟨fn, hfn, hname, hbody⟩, hcall⟩ := hS _ _ _ _ h
  have hwi := call_in hs.wi hnd (shutN_iff hshut) hl hsub
  have hidx : ∀ i ∈ idx, ∃ o, ob[i]? = some o ∧ o ≠ .none := fun i hi => by
    obtain ⟨j, hj⟩ := List.mem_iff_getElem?.1 hi
    obtain ⟨o, ho, hne, _⟩ := hsub j i hj
    exact ⟨o, ho, hne⟩
  have hcalls := hcall w (inG g idx) cargs hwi (by rw [renL_length]; exact m1) (fun k v x hv hx => by
    rw [renL_get] at hv
    obtain ⟨u, hu, rfl⟩ := Option.map_eq_some_iff.1 hv
    exact ⟨in_rel (m2 k u x hu hx) (fun o ho => allIn_iff hin o (ptrsL_get hu ho)) hl, .of_no (noTok_ren (hno u (List.mem_of_getElem? hu)))⟩)
  unfold Oper.wp
  have hrun : (execOp a.eval o).run S.P w = .ok (.enter fid cargs) w := by
    rw [hexec]
    have hname' : ¬ fn.name = "runtime.NumGoroutine" := by simpa using hname
    obtain ⟨bd, hbd⟩ : ∃ b, fn.body = some b := by
      cases hb : fn.body with
      | none => rw [hb] at hbody; simp at hbody
      | some b => exact ⟨b, rfl⟩
    simp [callFunc, hfn, hname', hbd]
  rw [hrun, Oper.upon_enter]
  refine hcalls.mono fun e w' he => ?_
  obtain ⟨out, os, g', hk, hw', hend⟩ := he
  rw [hl] at hw'
  obtain ⟨ob', b1, b2, b3, b4, b5, b6⟩ := backK_iff hnd hk
  obtain ⟨q1, q2, q3, q4⟩ := call_out hs.wi hnd hidx hw' b2 b3 b4 b5
  have hsim : Sim c (outG g g' ob.length idx.length) w' a ⟨t, ob', nt, df⟩ := ⟨q1, q2.tinv hs.ti, q2.drel hs.di⟩
  cases out with
  | ret v =>
    cases e <;> try exact hend.elim
    exact H.val _ _ _ _ _ a (renP_iff b6) hsim rfl (q3 _ _ hend)
  | pan v =>
    cases e <;> try exact hend.elim
    obtain ⟨x, rfl, hx⟩ := hend
    exact H.pan _ _ _ _ _ a (renP_iff b6) hsim (q4 _ _ hx)

end
end VL

namespace VL
open Go
set_option linter.unusedVariables false
set_option linter.unusedSimpArgs false

section
variable {S : Sys} {c : Ctx} {g : G} {w : World} {a : Act} {o : Oper} {K KP : V → St → Prop} {next : Act → World → Prop} {Q : Exit → Act → World → Prop}
  {t : List V} {ob : List VObj} {nt : Nat} {df : List (Fn × List V × List V)}

theorem sound_binOp {op : BinOp} {T U : TypeId} {x y : Operand} (ho : o.op = .binOp op T x y U) (H : Nexts c a o.dst K KP next Q) (hs : Sim c g w a ⟨t, ob, nt, df⟩)
    (h : ev t x fun x => ev t y fun y => binopK S.P op T x y fun v => K v ⟨t, ob, nt, df⟩) : o.wp S.P a w next Q := by
  obtain ⟨u, hu, hk⟩ := ev_sound hs.ti h
  obtain ⟨v, hv, hk⟩ := ev_sound hs.ti hk
  obtain ⟨r, cr, h1, h2, h3, h4⟩ := binop_sound (w := w) (ox := x) (oy := y) hu.rel hv.rel hk
  refine H.same hs (x := cr) ?_ (.of h2 h3) h1
  simp only [execOp, ho]
  simp only [Sem.run_bind, Sem.run_pure] at h4 ⊢
  generalize Sem.run S.P (eqGuard op T x y (a.eval x) (a.eval y)) w = r at h4 ⊢
  cases r with
  | ok u w1 =>
    simp only [Result.andThen] at h4 ⊢
    rw [h4]
  | halt h w1 => simp [Result.andThen] at h4

theorem sound_flo (H : Nexts c a o.dst K KP next Q) (hs : Sim c g w a ⟨t, ob, nt, df⟩) (h : vflo S o t ob fun v => K v ⟨t, ob, nt, df⟩) : o.wp S.P a w next Q := by
  unfold vflo at h
  split at h
  next ho => exact sound_move (.inl ho) H hs h
  next ho => exact sound_move (.inr ho) H hs h
  next ho => exact sound_pick ho H hs h
  next ho => exact sound_build ho H hs h
  next ho => exact sound_buildSlice ho H hs h
  next ho => exact sound_load ho H hs h
  next ho => exact sound_nilCheck ho H hs h
  next ho => exact sound_binOp ho H hs h
  next ho => exact sound_unOp ho H hs h
  next ho => exact sound_convert ho H hs h
  next ho => exact sound_makeInterface ho H hs h
  next ho => exact sound_makeFunc ho H hs h
  next ho => exact sound_fieldAddr ho H hs h
  next ho => exact sound_field ho H hs h
  next ho => exact sound_indexAddr ho H hs h
  next ho => exact sound_index ho H hs h
  next ho => exact sound_typeAssert ho H hs h
  next ho => exact sound_extract ho H hs h
  next ho => exact sound_sliceF ho H hs h
  next ho =>
    split at h
    next hc => exact sound_builtinF ho hc H hs h
    next hc => exact h.elim
  next ho => exact h.elim

theorem sound_op (hS : ∀ g args ob K, S.call g args ob K → VCall0 S.P g args ob K) (H : Nexts c a o.dst K KP next Q) (hs : Sim c g w a ⟨t, ob, nt, df⟩)
    (h : vop S o ⟨t, ob, nt, df⟩ K KP) : o.wp S.P a w next Q := by
  simp only [vop] at h
  split at h
  next ho => exact sound_alloc ho H hs h
  next ho => exact sound_box ho H hs h
  next ho => exact sound_store ho H hs h
  next ho =>
    obtain ⟨p, hp, hk⟩ := ev_sound hs.ti h
    split at hk
    · split at hk
      next hu => exact sound_sliceP ho H hs hp hu hk
      next => exact hk.elim
    · exact sound_flo H hs hk
  next ho =>
    split at h
    next hc => exact sound_call hS ho hc H hs h
    next hc => exact sound_append ho hc H hs h
    next hc => exact sound_flo H hs h
    next hc => exact h.elim
  next ho =>
    split at h
    next hc => exact sound_defer ho hc H hs h
    next hc => exact h.elim
  next ho => exact sound_panic ho H hs h
  next => exact sound_flo H hs h

end
end VL

namespace VL
open Go
set_option linter.unusedVariables false
set_option linter.unusedSimpArgs false

/-- what the reckoning tells of an end is what is asked of it -/
structure Fits (c : Ctx) (K : Ex → St → Prop) (Q : Exit → Act → World → Prop) : Prop where
  normal : ∀ s g w a, K .normal s → Sim c g w a s → Q .normal a w
  exit : ∀ i s g w a, K (.exit i) s → Sim c g w a s → Q (.exit i) a w
  ret : ∀ s g w a, K .ret s → Sim c g w a s → Q .ret a w
  pan : ∀ v x s g w a, K (.pan v) s → Sim c g w a s → VRel g.bs g.I w s.objs.length v x → Q (.panic [{ v := x, recovered := false }]) a w

section
variable {S : Sys} {c : Ctx} {Q : Exit → Act → World → Prop}

theorem TInv.set {g : G} {w : World} {n nt : Nat} {tm : Array Value} {t : List V} (h : TInv g w n nt tm t) {i : Nat} {v : V} {x : Value} (hv : VT g w n nt v x) : TInv g w n nt (tm.setIfInBounds i x) (t.set i v) := by
  refine ⟨by simp [h.size], fun k u y hu hy => ?_⟩
  rw [List.getElem?_set] at hu
  rw [Array.getElem?_setIfInBounds] at hy
  by_cases e : i = k
  · subst e
    by_cases hlt : i < t.length
    · rw [if_pos rfl, if_pos hlt] at hu
      rw [if_pos rfl, if_pos (by rw [← h.size]; exact hlt)] at hy
      cases hu; cases hy
      exact hv
    · rw [if_pos rfl, if_neg hlt] at hu; cases hu
  · rw [if_neg e] at hu hy
    exact h.rel k u y hu hy

theorem put_sound {s : St} {g : G} {w : World} {b : Act} {dst : Option Tmp} {v : V} {x : Value} {K : St → Prop} (hs : Sim c g w b s) (hv : VT g w s.objs.length s.nt v x) (h : s.put dst v K) :
    ∃ s', K s' ∧ Sim c g w (b.put dst x) s' := by
  obtain ⟨t, ob, nt, df⟩ := s
  cases dst with
  | none => exact ⟨_, h, hs⟩
  | some i =>
    simp only [St.put, force_eq] at h
    obtain ⟨_, h⟩ := setK_iff h
    exact ⟨_, h, hs.wi, hs.ti.set hv, hs.di⟩

theorem not_bool {bs : Nat → Nat} {I : Nat → Nat → Prop} {w : World} {n : Nat} {v : V} {b : Bool} (h : VRel bs I w n v (.bool b)) : v = .undef ∨ v = .bool b := by
  cases h <;> simp

theorem yield_some {g : G} {w : World} {n nt : Nat} {tm : Array Value} {t : List V} (h : TInv g w n nt tm t) {ops : Array Oper} {j d : Nat} (hj : (ops.toList[j]?).bind (·.dst) = some d) {v : V} (hv : t[d]? = some v) :
    (∀ b, v = .bool b → yielded ops tm j = some b ∧ tm[d]? = some (.bool b)) ∧ (v ≠ .undef → (∀ b, v ≠ .bool b) → yielded ops tm j = none) := by
  have hlt : d < tm.size := by rw [← h.size]; exact (List.getElem?_eq_some_iff.1 hv).1
  obtain ⟨e, he⟩ : ∃ e, tm[d]? = some e := ⟨tm[d], Array.getElem?_eq_getElem hlt⟩
  have hr := (h.rel d v e hv he).rel
  have hj' : (ops[j]?).bind (·.dst) = some d := by simpa using hj
  have hy : ∀ e, tm[d]? = some e → yielded ops tm j = (match e with | .bool b => some b | _ => none) := by
    intro e he
    unfold yielded
    rw [hj', Option.bind_some, he]
    cases e <;> rfl
  have hy := hy e he
  constructor
  · rintro b rfl
    cases hr
    exact ⟨hy, he⟩
  · intro h1 h2
    rw [hy]
    cases e <;> simp
    rcases not_bool hr with h | h
    · exact h1 h
    · exact h2 _ h

theorem sound_ops (hS : ∀ g args ob K, S.call g args ob K → VCall0 S.P g args ob K) {ops : Array Oper} {K : St → Prop} {KP : V → St → Prop}
    (hk : ∀ s g w a, K s → Sim c g w a s → Q .normal a w)
    (hp : ∀ v x s g w a, KP v s → Sim c g w a s → VRel g.bs g.I w s.objs.length v x → Q (.panic [{ v := x, recovered := false }]) a w) :
    ∀ (l : List Oper) (s : St) (g : G) (w : World) (a : Act), Sim c g w a s → vops S ops.toList l s K KP → wpList S.P ops Q l a w
  | [], s, g, w, a, hs, h => hk s g w a h hs
  | o :: r, ⟨t, ob, nt, df⟩, g, w, a, hs, h => by
    have hrest : ∀ (s : St) g w a, Sim c g w a s → vops S ops.toList r s K KP → wpList S.P ops Q r a w := fun s g w a => sound_ops hS hk hp r s g w a
    have hnext : ∀ a, Nexts c a o.dst (fun v s => s.put o.dst v fun s => vops S ops.toList r s K KP) KP (wpList S.P ops Q r) Q := fun a => {
      val := fun v x s g w b hk' hs' _ hv => by
        obtain ⟨s', h1, h2⟩ := put_sound hs' hv hk'
        exact hrest s' g w _ h2 h1
      pan := fun v x s g w b hk' hs' hv => hp v x s g w b hk' hs' hv }
    have hskip : ∀ {t : List V}, Sim c g w a ⟨t, ob, nt, df⟩ → (St.put ⟨t, ob, nt, df⟩ o.dst (.tup []) fun s => vops S ops.toList r s K KP) → wpList S.P ops Q r (a.put o.dst undef) w := fun hs' h => by
      obtain ⟨s', h1, h2⟩ := put_sound (v := .tup []) (x := undef) hs' (.of (.tup rfl (by simp)) rfl) h
      exact hrest s' g w _ h2 h1
    unfold wpList
    cases hg : o.guard with
    | none =>
      simp only [vops, hg] at h
      have hw : Region.wanted o (yielded ops a.tmps) = true := by simp [Region.wanted, hg]
      rw [hw, if_pos rfl]
      exact .inl (sound_op hS (hnext a) hs h)
    | some jw =>
      obtain ⟨j, want⟩ := jw
      simp only [vops, hg] at h
      cases hj : (ops.toList[j]?).bind (·.dst) with
      | none => rw [hj] at h; exact h.elim
      | some d =>
        rw [hj] at h
        obtain ⟨v, h1, h2⟩ := getK_iff h
        obtain ⟨y1, y2⟩ := yield_some hs.ti hj h1
        split at h2
        · rename_i b
          obtain ⟨y1, yd⟩ := y1 b rfl
          have hset : ∀ b', b' = b → Sim c g w a ⟨t.set d (.bool b'), ob, nt, df⟩ := fun b' e => by
            subst e
            have := hs.ti.set (i := d) (v := .bool b') (x := .bool b') (.of .bool rfl)
            have heq : a.tmps.setIfInBounds d (.bool b') = a.tmps := by
              apply Array.ext_getElem?
              intro k
              rw [Array.getElem?_setIfInBounds]
              split
              · rename_i e; subst e
                split
                · exact yd.symm
                · rename_i hlt; rw [Array.getElem?_eq_none (by omega)]
              · rfl
            rw [heq] at this
            exact ⟨hs.wi, this, hs.di⟩
          have hw : Region.wanted o (yielded ops a.tmps) = (b == want) := by
            simp [Region.wanted, hg, y1]
          rw [hw]
          rcases bif_elim h2 with ⟨rfl, h2⟩ | ⟨rfl, h2⟩
          · obtain ⟨_, h2⟩ := setK_iff h2
            cases want with
            | true => rw [if_pos (by simp)]; exact .inl (sound_op hS (hnext a) (hset true rfl) h2)
            | false => rw [if_neg (by simp)]; exact hskip (hset true rfl) h2
          · obtain ⟨_, h2⟩ := setK_iff h2
            cases want with
            | false => rw [if_pos (by simp)]; exact .inl (sound_op hS (hnext a) (hset false rfl) h2)
            | true => rw [if_neg (by simp)]; exact hskip (hset false rfl) h2
        · exact h2.elim
        · rename_i hn1 hn2
          have hw : Region.wanted o (yielded ops a.tmps) = false := by
            simp [Region.wanted, hg, y2 (fun e => hn2 e) (fun b e => hn1 b e)]
          rw [hw, if_neg (by simp)]
          exact hskip hs h2

end
end VL

namespace VL
open Go
set_option linter.unusedVariables false
set_option linter.unusedSimpArgs false

def Det {α : Type} (F : (α → Prop) → Prop) : Prop := ∀ K, F K → ∃ v, K v ∧ ∀ K' : α → Prop, K' v → F K'

theorem Det.bind {α β : Type} {F : (α → Prop) → Prop} {G : α → (β → Prop) → Prop} (hF : Det F) (hG : ∀ a, Det (G a)) : Det fun K => F fun a => G a K := fun K h => by
  obtain ⟨a, h1, h2⟩ := hF _ h
  obtain ⟨b, h3, h4⟩ := hG a _ h1
  exact ⟨b, h3, fun K' h => h2 _ (h4 K' h)⟩

theorem Det.ret {α : Type} (v : α) : Det fun K : α → Prop => K v := fun K h => ⟨v, h, fun _ h => h⟩
theorem Det.no {α : Type} : Det fun _ : α → Prop => False := fun _ h => h.elim
theorem Det.and {α : Type} {A : Prop} {F : (α → Prop) → Prop} (h : A → Det F) : Det fun K => A ∧ F K := fun K ⟨ha, hk⟩ => by
  obtain ⟨v, h1, h2⟩ := h ha K hk
  exact ⟨v, h1, fun K' h => ⟨ha, h2 K' h⟩⟩
theorem Det.ex {α β : Type} {F : β → (α → Prop) → Prop} (h : ∀ b, Det (F b)) : Det fun K => ∃ b, F b K := fun K ⟨b, hk⟩ => by
  obtain ⟨v, h1, h2⟩ := h b K hk
  exact ⟨v, h1, fun K' h => ⟨b, h2 K' h⟩⟩
theorem Det.bif {α : Type} {b : Bool} {F G : (α → Prop) → Prop} (hF : Det F) (hG : Det G) : Det fun K => @Bool.rec (fun _ => Prop) (G K) (F K) b := by
  cases b
  · exact hG
  · exact hF
theorem Det.ite {α : Type} {p : Prop} [Decidable p] {F G : (α → Prop) → Prop} (hF : Det F) (hG : Det G) : Det fun K => if p then F K else G K := fun K h => by
  split at h
  · rename_i hp
    obtain ⟨v, h1, h2⟩ := hF K h
    exact ⟨v, h1, fun K' h => by simp only [if_pos hp]; exact h2 K' h⟩
  · rename_i hp
    obtain ⟨v, h1, h2⟩ := hG K h
    exact ⟨v, h1, fun K' h => by simp only [if_neg hp]; exact h2 K' h⟩

theorem det_force (v : V) : Det v.force := by cases v <;> exact .ret _

theorem det_natK (n : Nat) : Det (natK n) := by cases n <;> exact .ret _

theorem det_listK : ∀ l : List Nat, Det (listK l)
  | [] => .ret _
  | i :: r => show Det fun K => natK i fun i => listK r fun r => K (i :: r) from Det.bind (det_natK i) fun i => Det.bind (det_listK r) fun r => .ret (i :: r)

theorem det_renP (f : Nat → Nat) (v : V) : Det (renP f v) := fun K h => by
  unfold renP at h ⊢
  split at h
  · exact (Det.bind (det_natK _) fun o => .ret _) K h
  · split at h
    · exact ⟨_, h, fun _ h => h⟩
    · exact ⟨_, h, fun _ h => h⟩

theorem det_getK {α : Type} : ∀ (l : List α) (i : Nat), Det (getK l i)
  | [], _ => .no
  | x :: _, 0 => .ret x
  | _ :: r, n + 1 => det_getK r n

theorem det_setK {α : Type} : ∀ (l : List α) (i : Nat) (v : α), Det (setK l i v)
  | [], _, _ => .no
  | x :: r, 0, v => .ret (v :: r)
  | x :: r, n + 1, v => show Det fun K => setK r n v fun r' => K (x :: r') from Det.bind (det_setK r n v) fun r' => .ret (x :: r')

theorem det_dropK {α : Type} : ∀ (l : List α) (i : Nat), Det (dropK l i)
  | l, 0 => by cases l <;> exact .ret _
  | [], _ + 1 => .no
  | _ :: r, n + 1 => det_dropK r n

theorem det_takeK {α : Type} : ∀ (l : List α) (i : Nat), Det (takeK l i)
  | l, 0 => by cases l <;> exact .ret _
  | [], _ + 1 => .no
  | x :: r, n + 1 => show Det fun K => takeK r n fun l => K (x :: l) from Det.bind (det_takeK r n) fun l => .ret (x :: l)

theorem det_spliceK {α : Type} : ∀ (l : List α) (n : Nat) (vs : List α), Det (spliceK l n vs)
  | l, 0, [] => by cases l <;> exact .ret _
  | [], 0, _ :: _ => .no
  | _ :: r, 0, v :: vs => show Det fun K => spliceK r 0 vs fun l => K (v :: l) from Det.bind (det_spliceK r 0 vs) fun l => .ret (v :: l)
  | [], _ + 1, _ => .no
  | x :: r, n + 1, vs => show Det fun K => spliceK r n vs fun l => K (x :: l) from Det.bind (det_spliceK r n vs) fun l => .ret (x :: l)

theorem det_mapK {α β : Type} {f : α → (β → Prop) → Prop} (hf : ∀ x, Det (f x)) : ∀ l : List α, Det (mapK f l)
  | [] => .ret _
  | x :: r => show Det fun K => f x fun y => mapK f r fun ys => K (y :: ys) from Det.bind (hf x) fun y => Det.bind (det_mapK hf r) fun ys => .ret (y :: ys)

theorem det_untok (v : V) : Det v.untokK := show Det fun K => v.force fun v => v.untok.force K from Det.bind (det_force v) fun v => det_force _

theorem det_snocK {α : Type} : ∀ (l : List α) (v : α), Det fun K : (Nat × List α) → Prop => snocK l v fun n l => K (n, l)
  | [], v => .ret (0, [v])
  | x :: r, v => fun K h => by
    obtain ⟨p, h1, h2⟩ := det_snocK r v (fun p => K (p.1 + 1, x :: p.2)) h
    exact ⟨_, h1, fun K' h => h2 (fun p => K' (p.1 + 1, x :: p.2)) h⟩

theorem det_ofConst (c : Value) : Det (ofConstAgg c).force := det_force _

theorem det_ev (t : List V) (x : Operand) : Det (ev t x) := by
  cases x with
  | tmp i => exact det_getK t i
  | const c => exact det_force _
  | func f => exact .ret _
  | global b => exact .no

theorem det_evs (t : List V) : ∀ l, Det (evs t l)
  | [] => .ret _
  | x :: r => show Det fun K => ev t x fun v => evs t r fun vs => K (v :: vs) from Det.bind (det_ev t x) fun v => Det.bind (det_evs t r) fun vs => .ret (v :: vs)

theorem det_szK (P : Program) (T : TypeId) : Det (szK P T) := fun K h => by
  unfold szK at h ⊢
  split at h
  · exact h.elim
  · exact ⟨_, h, fun _ h => h⟩

theorem det_loadK (P : Program) (T : TypeId) (cs : List V) : Det (loadK P T cs) := fun K h => by
  unfold loadK at h ⊢
  split at h
  · exact (Det.bind (det_takeK cs _) fun l => Det.bind (det_mapK det_untok l) fun l => .ret (.agg l)) K h
  · exact (Det.bind (det_takeK cs _) fun l => Det.bind (det_mapK det_untok l) fun l => .ret (.agg l)) K h
  · split at h
    · exact det_force _ K h
    · exact h.elim
  · exact h.elim

theorem det_zeroV (P : Program) (T : TypeId) : Det (zeroV P T) := fun K h => by
  unfold zeroV at h ⊢
  split at h
  · exact det_force _ K h
  · exact h.elim

theorem det_assertK (P : Program) (T : TypeId) (ok : Bool) (x : V) : Det (assertK P T ok x) := fun K h => by
  unfold assertK at h ⊢
  split at h
  · split at h
    · cases ok
      · exact (Det.bind (det_untok _) fun v => .ret v) K h
      · exact (Det.bind (det_untok _) fun v => .ret _) K h
    · cases ok
      · exact h.elim
      · exact (Det.bind (det_zeroV P T) fun z => .ret _) K h
  · cases ok
    · exact h.elim
    · exact (Det.bind (det_zeroV P T) fun z => .ret _) K h
  · exact h.elim

theorem det_fillK (place : Nat → Option (Nat × Nat)) : ∀ (ps : List (Nat × V)) (cs : List V), Det (fillK place cs ps)
  | [], cs => .ret cs
  | (i, v) :: r, cs => fun K h => by
    unfold fillK at h ⊢
    split at h
    · refine (Det.bind (det_force v) fun v K h => ?_) K h
      split at h
      · rename_i hc
        obtain ⟨u, h1, h2⟩ := (Det.bind (det_spliceK _ _ _) fun cs => det_fillK place r cs) K h
        exact ⟨u, h1, fun K' h => h2 K' h⟩
      · exact h.elim
    · exact h.elim

theorem det_partsK (t : List V) : ∀ l, Det (partsK t l)
  | [] => .ret _
  | (i, x) :: r => show Det fun K => ev t x fun v => v.untokK fun v => partsK t r fun ps => K ((i, v) :: ps) from Det.bind (det_ev t x) fun v => Det.bind (det_untok v) fun v => Det.bind (det_partsK t r) fun ps => .ret ((i, v) :: ps)

theorem det_buildK (P : Program) (T : TypeId) (ps : List (Nat × V)) : Det (buildK P T ps) := by
  show Det fun K => buildK P T ps K
  unfold buildK
  refine Det.bind (det_zeroV P T) fun z K h => ?_
  split at h
  · split at h
    · rename_i hc
      obtain ⟨u, h1, h2⟩ := (Det.bind (det_fillK _ ps _) fun cs => .ret (V.agg cs)) K h
      exact ⟨u, h1, fun K' h => h2 K' h⟩
    · exact h.elim
  · split at h
    · rename_i hc
      obtain ⟨u, h1, h2⟩ := (Det.bind (det_fillK _ ps _) fun cs => .ret (V.agg cs)) K h
      exact ⟨u, h1, fun K' h => h2 K' h⟩
    · exact h.elim
  · exact h.elim

theorem det_lowK (t : List V) (lo : Option Operand) : Det (lowK t lo) := by
  cases lo with
  | none => exact .ret 0
  | some y =>
    show Det fun K => lowK t (some y) K
    unfold lowK
    refine Det.bind (det_ev t y) fun v => ?_
    cases v <;> first | exact .no | exact .ret _


theorem det_binopK (P : Program) (op : BinOp) (T : TypeId) (x y : V) : Det (binopK P op T x y) := fun K h => by
  unfold binopK at h ⊢
  split at h
  all_goals first
    | exact h.elim
    | exact ⟨_, h, fun _ h => h⟩
    | (obtain ⟨a, h⟩ := h; exact ⟨_, h, fun _ h => ⟨a, h⟩⟩)
    | (by_cases hk : ‹IntKind› = ‹IntKind›
       · rename_i k _ k' _ _ _
         by_cases hk : k = k'
         · subst hk
           simp only [if_true] at h ⊢
           split at h
           all_goals first
            | exact h.elim
            | exact ⟨_, h, fun _ h => h⟩
            | (obtain ⟨a, h⟩ := h; exact ⟨_, h, fun _ h => ⟨a, h⟩⟩)
         · simp only [if_neg hk] at h
       · exact absurd rfl hk)
    | (split at h
       all_goals first
        | exact h.elim
        | exact ⟨_, h, fun _ h => h⟩
        | (split at h
           all_goals first
            | exact h.elim
            | exact ⟨_, h, fun _ h => h⟩))

theorem det_convK (P : Program) (A B : TypeId) (x : V) : Det (convK P A B x) := fun K h => by
  unfold convK at h ⊢
  split at h
  all_goals first
    | exact h.elim
    | exact ⟨_, h, fun _ h => h⟩
    | (split at h
       all_goals first
        | exact h.elim
        | exact ⟨_, h, fun _ h => h⟩
        | (obtain ⟨a, b, h⟩ := h; exact ⟨_, h, fun _ h => ⟨a, b, h⟩⟩))

variable (S : Sys)

theorem det_vbuiltinF (b : Builtin) (ts : Array TypeId) (args : List V) : Det (vbuiltinF S b ts args) := fun K h => by
  unfold vbuiltinF at h ⊢
  split at h
  all_goals first
    | exact h.elim
    | exact ⟨_, h, fun _ h => h⟩
    | (obtain ⟨a, h⟩ := h; exact ⟨_, h, fun _ h => ⟨a, h⟩⟩)

theorem det_slice (T : TypeId) (t : List V) (hi : Option Operand) (x : V) (l : Int) : Det fun K : V → Prop => (match x with
    | .str b => match S.P.underlying T with
      | some .string => (match hi with
        | none => 0 ≤ l ∧ l ≤ b.size ∧ K (.str (b.extract l.toNat b.size))
        | some y => ev t y fun y => match y with
          | .int _ h => 0 ≤ l ∧ l ≤ h ∧ h ≤ b.size ∧ K (.str (b.extract l.toNat h.toNat))
          | _ => False)
      | _ => False
    | .sl xs r => match S.P.underlying T with
      | some (.slice e) => szK S.P e fun z => (match hi with
        | none => 0 ≤ l ∧ l ≤ xs.length ∧ (∀ x ∈ xs, x.cells.length = z) ∧ K (.sl (xs.drop l.toNat) r)
        | some y => ev t y fun y => match y with
          | .int _ h => 0 ≤ l ∧ l ≤ h ∧ h ≤ xs.length ∧ (∀ x ∈ xs, x.cells.length = z) ∧ K (.sl ((xs.take h.toNat).drop l.toNat) .no)
          | _ => False)
      | _ => False
    | _ => False) := by
  cases x with
  | str b =>
    simp only
    split
    · cases hi with
      | none => exact .and fun _ => .and fun _ => .ret _
      | some y =>
        refine Det.bind (det_ev t y) fun v => ?_
        cases v <;> first | exact .no | exact .and fun _ => .and fun _ => .and fun _ => .ret _
    · exact .no
  | sl xs r =>
    simp only
    split
    · refine Det.bind (det_szK S.P _) fun z => ?_
      cases hi with
      | none => exact .and fun _ => .and fun _ => .and fun _ => .ret _
      | some y =>
        refine Det.bind (det_ev t y) fun v => ?_
        cases v <;> first | exact .no | exact .and fun _ => .and fun _ => .and fun _ => .and fun _ => .ret _
    · exact .no
  | _ => exact .no

theorem det_vflo (o : Oper) (t : List V) (ob : List VObj) : Det (vflo S o t ob) := by
  show Det fun K => vflo S o t ob K
  unfold vflo
  split
  · exact det_ev t _
  · exact det_ev t _
  · refine Det.bind (det_ev t _) fun v => ?_
    cases v <;> first | exact .no | exact .bif (det_ev t _) (det_ev t _)
  · exact Det.bind (det_partsK t _) fun ps => det_buildK _ _ _
  · refine Det.bind (det_partsK t _) fun ps K h => ?_
    split at h
    · split at h
      · obtain ⟨z, h1, h2⟩ := det_szK S.P _ _ h
        split at h1
        · split at h1
          · split at h1
            · exact ⟨_, h1, fun K' h => h2 _ (by simp_all)⟩
            · exact ⟨_, h1, fun K' h => h2 _ (by simp_all)⟩
            · split at h1
              · exact ⟨_, h1, fun K' h => h2 _ (by simp_all)⟩
              · exact h1.elim
            · exact h1.elim
          · exact h1.elim
        · exact h1.elim
      · exact h.elim
    · exact h.elim
  · refine Det.bind (det_ev t _) fun v => ?_
    cases v <;> try exact .no
    · refine Det.bind (det_getK ob _) fun x => ?_
      cases x <;> try exact .no
      exact Det.bind (det_dropK _ _) fun cs => det_loadK _ _ _
    · exact Det.bind (det_loadK _ _ _) fun v => det_untok v
  · refine Det.bind (det_ev t _) fun v => ?_
    cases v <;> try first | exact .no | exact .ret _
    rename_i f a b
    cases f <;> first | exact .no | exact .ret _
  · exact Det.bind (det_ev t _) fun x => Det.bind (det_ev t _) fun y => det_binopK _ _ _ _ _
  · refine Det.bind (det_ev t _) fun v => ?_
    split <;> first | exact .no | exact .ret _
  · exact Det.bind (det_ev t _) fun x => det_convK _ _ _ _
  · refine Det.bind (det_ev t _) fun v => Det.bind (det_untok v) fun v => ?_
    split <;> first | exact .no | exact .ret _
  · exact Det.bind (det_evs t _) fun a => Det.bind (det_evs t _) fun b => Det.bind (det_mapK det_untok a) fun a => Det.bind (det_mapK det_untok b) fun b => .ret _
  · refine Det.bind (det_ev t _) fun v => ?_
    split
    · split
      · exact .no
      · cases v <;> first | exact .no | exact .ret _ | exact Det.bind (det_dropK _ _) fun c => .ret _
    · exact .no
  · refine Det.bind (det_ev t _) fun v => ?_
    split
    · exact Det.bind (det_dropK _ _) fun cs => Det.bind (det_loadK _ _ _) fun v => det_untok v
    · exact .no
  · refine Det.bind (det_ev t _) fun p => Det.bind (det_ev t _) fun i => ?_
    cases i <;> try exact .no
    simp only
    split
    · exact Det.bind (det_szK _ _) fun z => .and fun _ => .and fun _ => .ret _
    · exact Det.bind (det_szK _ _) fun z => .and fun _ => .and fun _ => Det.bind (det_dropK _ _) fun c => .ret _
    · exact Det.bind (det_szK _ _) fun z => .and fun _ => .ex fun _ => .and fun _ => .and fun _ => .ret _
    · exact Det.bind (det_szK _ _) fun z => .and fun _ => .ex fun _ => .and fun _ => .and fun _ => .ret _
    · exact Det.bind (det_szK _ _) fun z => .and fun _ => .ex fun _ => .and fun _ => .and fun _ => .ret _
    · exact .no
  · refine Det.bind (det_ev t _) fun p => Det.bind (det_ev t _) fun i => ?_
    cases i <;> try exact .no
    simp only
    split
    · exact .and fun _ => .ex fun _ => .and fun _ => .ret _
    · exact Det.bind (det_szK _ _) fun z => .and fun _ => .and fun _ => Det.bind (det_dropK _ _) fun c => Det.bind (det_loadK _ _ _) fun v => det_untok v
    · exact .no
  · refine Det.bind (det_ev t _) fun v => ?_
    split
    · exact .no
    · exact det_assertK _ _ _ _
    · exact .no
  · refine Det.bind (det_ev t _) fun v => ?_
    cases v <;> try exact .no
    exact Det.bind (det_getK _ _) fun v => det_untok v
  · exact Det.bind (det_ev t _) fun x => Det.bind (det_lowK t _) fun l => det_slice S _ t _ x l
  · split
    · exact Det.bind (det_evs t _) fun args => det_vbuiltinF S _ _ _
    · exact .no
  · exact .no

end VL

namespace VL
open Go
set_option linter.unusedVariables false
set_option linter.unusedSimpArgs false

theorem evs_congr {t t' : List V} : ∀ {l : List Operand}, (∀ x ∈ l, ev t x = ev t' x) → evs t l = evs t' l
  | [], _ => by funext K; rfl
  | x :: r, h => by
    funext K
    simp only [evs, h x (by simp), evs_congr (l := r) fun y hy => h y (by simp [hy])]

theorem partsK_congr {t t' : List V} : ∀ {l : List (Nat × Operand)}, (∀ x ∈ l.map (·.2), ev t x = ev t' x) → partsK t l = partsK t' l
  | [], _ => by funext K; rfl
  | (i, x) :: r, h => by
    funext K
    simp only [partsK, h x (by simp), partsK_congr (l := r) fun y hy => h y (by simp at hy ⊢; exact .inr hy)]

theorem lowK_congr {t t' : List V} {lo : Option Operand} (h : ∀ x ∈ lo.toList, ev t x = ev t' x) : lowK t lo = lowK t' lo := by
  funext K
  cases lo with
  | none => rfl
  | some y => simp only [lowK, h y (by simp)]

theorem vflo_congr (S : Sys) {o : Oper} {t t' : List V} (ob : List VObj) (h : ∀ x ∈ o.op.operands.toList, ev t x = ev t' x) : vflo S o t ob = vflo S o t' ob := by
  funext K
  unfold vflo
  split
  next x ho => rw [h x (by simp [ho, Op.operands])]
  next x ho => rw [h x (by simp [ho, Op.operands])]
  next x y z ho => rw [h x (by simp [ho, Op.operands]), h y (by simp [ho, Op.operands]), h z (by simp [ho, Op.operands])]
  next T ps ho => rw [partsK_congr fun x hx => h x (by simp [ho, Op.operands] at hx ⊢; exact hx)]
  next T n ps ho => rw [partsK_congr fun x hx => h x (by simp [ho, Op.operands] at hx ⊢; exact hx)]
  next x ho => rw [h _ (by rw [ho]; simp [Op.operands])]
  next x ho => rw [h _ (by rw [ho]; simp [Op.operands])]
  next ho =>
    rename_i x y U
    rw [h x (by simp [ho, Op.operands]), h y (by simp [ho, Op.operands])]
  next ho => rw [h _ (by rw [ho]; simp [Op.operands])]
  next ho => rw [h _ (by rw [ho]; simp [Op.operands])]
  next ho => rw [h _ (by rw [ho]; simp [Op.operands])]
  next f a b ho => rw [evs_congr fun x hx => h x (by simp [ho, Op.operands]; exact .inl (by simpa using hx)), evs_congr fun x hx => h x (by simp [ho, Op.operands]; exact .inr (by simpa using hx))]
  next ho => rw [h _ (by rw [ho]; simp [Op.operands])]
  next ho => rw [h _ (by rw [ho]; simp [Op.operands])]
  next T x ix ho => rw [h x (by simp [ho, Op.operands]), h ix (by simp [ho, Op.operands])]
  next T x ix ho => rw [h x (by simp [ho, Op.operands]), h ix (by simp [ho, Op.operands])]
  next ho => rw [h _ (by rw [ho]; simp [Op.operands])]
  next ho => rw [h _ (by rw [ho]; simp [Op.operands])]
  next T x lo hi ho =>
    rw [h x (by simp [ho, Op.operands]), lowK_congr (lo := lo) fun y hy => h y (by simp [ho, Op.operands]; simp at hy; simp [hy])]
    cases hi with
    | none => rfl
    | some y => simp only [h y (by simp [ho, Op.operands])]
  next c ho =>
    split
    next hc => rw [evs_congr fun x hx => h x (by simp [ho, Op.operands, Call.operands, hc]; simpa using hx)]
    next => rfl
  next => rfl

/-- slots that are not told of -/
def masked (m : Nat → Bool) (t : List V) : List V := t.mapIdx fun i v => if m i then .undef else v

theorem masked_get {m : Nat → Bool} {t : List V} {i : Nat} : (masked m t)[i]? = (t[i]?).map fun v => if m i then .undef else v := by
  simp [masked, List.getElem?_mapIdx]

theorem masked_length {m : Nat → Bool} {t : List V} : (masked m t).length = t.length := by simp [masked]

theorem getK_eq {α : Type} {K : α → Prop} : ∀ (l : List α) (i : Nat), getK l i K = match l[i]? with | some x => K x | none => False
  | [], _ => by simp [getK]
  | x :: _, 0 => by simp [getK]
  | _ :: r, n + 1 => by simp only [getK, getK_eq r n, List.getElem?_cons_succ]

theorem ev_masked {m : Nat → Bool} {t : List V} {x : Operand} (h : ∀ d, x = .tmp d → m d = false) : ev (masked m t) x = ev t x := by
  funext K
  cases x with
  | tmp d =>
    simp only [ev, getK_eq, masked_get, h d rfl]
    cases t[d]? <;> rfl
  | _ => rfl

theorem masked_map {m : Nat → Bool} {t : List V} {i : Nat} : masked m (t.map (V.strip i)) = (masked m t).map (V.strip i) := by
  apply List.ext_getElem?
  intro k
  rw [masked_get, List.getElem?_map, List.getElem?_map, masked_get]
  cases t[k]? with
  | none => rfl
  | some v =>
    simp only [Option.map_some]
    split <;> rfl

def maskS (m : Nat → Bool) : St → St
  | ⟨t, ob, nt, df⟩ => ⟨masked m t, ob, nt, df⟩


theorem det_renOP (f : Nat → Nat) (o : VObj) : Det (renOP f o) := fun K h => by
  unfold renOP at h ⊢
  split at h
  · split at h
    · exact ⟨_, h, fun _ h => h⟩
    · exact (Det.bind (det_mapK (det_renP f) _) fun cs => .ret _) K h
  · exact ⟨_, h, fun _ h => h⟩

theorem det_backK (f : Nat → Nat) : ∀ (idx : List Nat) (os ob : List VObj), Det (backK f idx os ob)
  | i :: r, o :: os, ob => show Det fun K => renOP f o fun o => setK ob i o fun ob => backK f r os ob K from Det.bind (det_renOP _ _) fun o => Det.bind (det_setK _ _ _) fun ob => det_backK f r os ob
  | [], os, ob => show Det fun K => mapK (renOP f) os fun os => K (ob ++ os) from Det.bind (det_mapK (det_renOP f) os) fun os => .ret _
  | _ :: _, [], _ => .no

theorem det_untokO (o : VObj) : Det o.untokK := by
  cases o with
  | none => exact .no
  | cells w T cs => exact (Det.bind (det_mapK det_untok cs) fun cs => .ret (VObj.cells w T cs) : Det fun K => mapK V.untokK cs fun cs => K (VObj.cells w T cs))
  | map es => exact .ret _

theorem det_getsK (ob : List VObj) (f : Nat → Nat) : ∀ idx, Det (getsK ob f idx)
  | [] => .ret _
  | i :: r => show Det fun K => getK ob i fun o => o.untokK fun o => getsK ob f r fun os => renOP f o fun o => K (o :: os) from
      Det.bind (det_getK _ _) fun o => Det.bind (det_untokO o) fun o => Det.bind (det_getsK ob f r) fun os => Det.bind (det_renOP _ _) fun o => .ret _

theorem det_strips (i : Nat) (s : St) : Det (strips i s) := by
  obtain ⟨t, ob, nt, df⟩ := s
  show Det fun K => strips i ⟨t, ob, nt, df⟩ K
  unfold strips
  refine Det.bind (det_mapK (fun v => det_force _) t) fun t => ?_
  refine Det.bind (det_mapK (fun o => ?_) ob) fun ob => .ret _
  cases o with
  | cells w T cs => exact (Det.bind (det_mapK (fun v => det_force _) cs) fun cs => .ret (VObj.cells w T cs) : Det fun K => mapK (fun v K => (V.strip i v).force K) cs fun cs => K (VObj.cells w T cs))
  | _ => exact .ret _

theorem strips_of {i : Nat} {t : List V} {ob : List VObj} {nt : Nat} {df : List (Fn × List V × List V)} {K : St → Prop} (h : K ⟨t.map (V.strip i), ob.map (stripO i), nt, df⟩) : strips i ⟨t, ob, nt, df⟩ K := by
  obtain ⟨v, h1, h2⟩ := det_strips i ⟨t, ob, nt, df⟩ (fun s => s = ⟨t.map (V.strip i), ob.map (stripO i), nt, df⟩) (by
    have hm : ∀ l : List V, ∀ K : List V → Prop, K (l.map (V.strip i)) → mapK (fun v K => (V.strip i v).force K) l K := fun l => by
      induction l with
      | nil => intro K h; exact h
      | cons x r ih => intro K h; show (V.strip i x).force _; rw [force_eq]; exact ih _ h
    have ho : ∀ l : List VObj, ∀ K : List VObj → Prop, K (l.map (stripO i)) → mapK (fun o K => match o with
        | VObj.cells w T cs => mapK (fun v K => (V.strip i v).force K) cs fun cs => K (VObj.cells w T cs)
        | o => K o) l K := fun l => by
      induction l with
      | nil => intro K h; exact h
      | cons x r ih =>
        intro K h
        cases x with
        | cells w T cs => exact hm cs _ (ih _ h)
        | _ => exact ih _ h
    exact hm t _ (ho ob _ rfl))
  exact h2 K (h1 ▸ h)

variable (S : Sys)

/-- a call's contract may be told for less -/
def CallMono : Prop := ∀ g args ob (K K' : Out → List VObj → Prop), (∀ o ob, K o ob → K' o ob) → S.call g args ob K → S.call g args ob K'

theorem vop_mask (hm : CallMono S) {o : Oper} {m : Nat → Bool} (hU : ∀ x ∈ o.op.operands.toList, ∀ d, x = .tmp d → m d = false) {t : List V} {ob : List VObj} {nt : Nat} {df : List (Fn × List V × List V)}
    {K : V → St → Prop} (h : vop S o ⟨t, ob, nt, df⟩ K fun _ _ => False) : vop S o (maskS m ⟨t, ob, nt, df⟩) (fun v s' => ∃ s1, K v s1 ∧ s' = maskS m s1) fun _ _ => False := by
  have hev : ∀ x ∈ o.op.operands.toList, ev (masked m t) x = ev t x := fun x hx => ev_masked (hU x hx)
  have hflo : ∀ {K0 : V → St → Prop}, (vflo S o t ob fun v => K0 v ⟨t, ob, nt, df⟩) → vflo S o (masked m t) ob fun v => (fun v s' => ∃ s1, K0 v s1 ∧ s' = maskS m s1) v ⟨masked m t, ob, nt, df⟩ := fun {K0} h => by
    rw [vflo_congr S ob hev]
    obtain ⟨v, h1, h2⟩ := det_vflo S o t ob _ h
    exact h2 _ ⟨_, h1, rfl⟩
  show vop S o ⟨masked m t, ob, nt, df⟩ _ _
  unfold vop at h ⊢
  simp only at h ⊢
  split at h
  next T ho =>
    obtain ⟨z, h1, h2⟩ := det_zeroV _ _ _ h
    refine h2 _ ?_
    split at h1
    next hc =>
      obtain ⟨p, h3, h4⟩ := det_snocK _ _ (fun p => K (.ptr p.1 0) ⟨t, p.2, nt, df⟩) h1
      exact h4 (fun p => ∃ s1, K (.ptr p.1 0) s1 ∧ (⟨masked m t, p.2, nt, df⟩ : St) = maskS m s1) ⟨_, h3, rfl⟩
    next => exact h1.elim
  next T x ho =>
    rw [hev x (by simp [ho, Op.operands])]
    obtain ⟨v, h1, h2⟩ := det_ev _ _ _ h
    refine h2 _ ?_
    obtain ⟨v', h1, h3⟩ := det_untok _ _ h1
    refine h3 _ ?_
    split at h1
    next hc =>
      obtain ⟨p, h3, h4⟩ := det_snocK _ _ (fun p => K (.ptr p.1 0) ⟨t, p.2, nt, df⟩) h1
      exact h4 (fun p => ∃ s1, K (.ptr p.1 0) s1 ∧ (⟨masked m t, p.2, nt, df⟩ : St) = maskS m s1) ⟨_, h3, rfl⟩
    next => exact h1.elim
  next T x y ho =>
    rw [hev x (by simp [ho, Op.operands]), hev y (by simp [ho, Op.operands])]
    obtain ⟨p, h1, h2⟩ := det_ev _ _ _ h
    refine h2 _ ?_
    obtain ⟨v, h1, h3⟩ := det_ev _ _ _ h1
    refine h3 _ ?_
    obtain ⟨v, h1, h4⟩ := det_force _ _ h1
    refine h4 _ ?_
    split at h1
    next i off =>
      obtain ⟨x1, h1, h5⟩ := det_getK _ _ _ h1
      refine h5 _ ?_
      split at h1
      next U cs =>
        split at h1
        next hc =>
          obtain ⟨cs', h1, h6⟩ := det_spliceK _ _ _ _ h1
          refine h6 _ ?_
          obtain ⟨ob', h1, h7⟩ := det_setK _ _ _ _ h1
          exact h7 _ ⟨_, h1, rfl⟩
        next => exact h1.elim
      next => exact h1.elim
    next => exact h1.elim
  next T x lo hi mx ho =>
    rw [hev x (by simp [ho, Op.operands])]
    obtain ⟨p, h1, h2⟩ := det_ev _ _ _ h
    refine h2 _ ?_
    split at h1
    · split at h1
      next hu =>
        obtain ⟨x1, h1, h5⟩ := det_getK _ _ _ h1
        refine h5 _ ?_
        split at h1
        next U cs =>
          split at h1
          next hc =>
            obtain ⟨ob', h1, h7⟩ := det_setK _ _ _ _ h1
            exact h7 _ ⟨_, h1, rfl⟩
          next => exact h1.elim
        next => exact h1.elim
      next => exact h1.elim
    · exact hflo h1
  next c ho =>
    split at h
    next f hc =>
      rw [hev f (by simp [ho, Op.operands, Call.operands, hc]), evs_congr fun x hx => hev x (by simp [ho, Op.operands, Call.operands, hc]; exact .inr (by simpa using hx))]
      obtain ⟨f, h1, h2⟩ := det_ev _ _ _ h
      refine h2 _ ?_
      obtain ⟨args, h1, h3⟩ := det_evs _ _ _ h1
      refine h3 _ ?_
      clear h2 h3
      cases f with
      | fn f first cap =>
        cases f with
        | func g =>
          simp only [vcall] at h1 ⊢
          obtain ⟨as, h1, h4⟩ := det_mapK det_untok _ _ h1
          refine h4 _ ?_
          obtain ⟨idx, h1, h8⟩ := det_listK _ _ h1
          refine h8 _ ?_
          split at h1
          next => exact h1.elim
          next hck =>
            obtain ⟨sub, h1, h5⟩ := det_getsK _ _ _ _ h1
            refine h5 _ ?_
            obtain ⟨as, h1, h9⟩ := det_mapK (det_renP _) _ _ h1
            refine h9 _ ?_
            refine hm _ _ _ _ _ (fun out sub' hk => ?_) h1
            obtain ⟨ob', h1, h6⟩ := det_backK _ _ _ _ _ hk
            refine h6 _ ?_
            cases out with
            | ret v =>
              obtain ⟨v', h1, h7⟩ := det_renP _ _ _ h1
              exact h7 _ ⟨_, h1, rfl⟩
            | pan v => exact h1
        | _ => exact h1.elim
      | _ => exact h1.elim
    next hc =>
      rw [evs_congr fun x hx => hev x (by simp [ho, Op.operands, Call.operands, hc]; simpa using hx)]
      obtain ⟨args, h1, h3⟩ := det_evs _ _ _ h
      refine h3 _ ?_
      have happ : ∀ {e : TypeId} {l : List V} {r : Room} {u : List V}, appendK S.P e l r u ⟨t, ob, nt, df⟩ K → appendK S.P e l r u ⟨masked m t, ob, nt, df⟩ fun v s' => ∃ s1, K v s1 ∧ s' = maskS m s1 := fun {e l r u} h => by
        unfold appendK at h ⊢
        obtain ⟨z, h1, h2⟩ := det_szK _ _ _ h
        refine h2 _ ?_
        split at h1
        next =>
          split at h1
          next hz =>
            obtain ⟨a1, a2, h1⟩ := h1
            refine ⟨a1, a2, ?_⟩
            cases r with
            | no => exact h1
            | ex => exact ⟨h1.1, _, h1.2, rfl⟩
            | tok i sz =>
              simp only at h1 ⊢
              split at h1
              next =>
                refine strips_of ?_
                have := strips_iff h1
                exact ⟨_, this, by simp only [maskS, masked_map]⟩
              next => exact h1.elim
          next => exact h1.elim
        next => exact h1.elim
      unfold vappend at h1 ⊢
      split at h1
      · split at h1
        · exact happ h1
        · exact h1.elim
      · split at h1
        · exact happ h1
        · exact h1.elim
      · split at h1
        · exact happ h1
        · exact h1.elim
      · exact h1.elim
    next => exact hflo h
    next => exact h.elim
  next c ho =>
    split at h
    next f hc =>
      rw [hev f (by simp [ho, Op.operands, Call.operands, hc]), evs_congr fun x hx => hev x (by simp [ho, Op.operands, Call.operands, hc]; exact .inr (by simpa using hx))]
      obtain ⟨f, h1, h2⟩ := det_ev _ _ _ h
      refine h2 _ ?_
      obtain ⟨args, h1, h3⟩ := det_evs _ _ _ h1
      refine h3 _ ?_
      split at h1
      next =>
        obtain ⟨a, h1, h4⟩ := det_mapK det_untok _ _ h1
        refine h4 _ ?_
        obtain ⟨b, h1, h5⟩ := det_mapK det_untok _ _ h1
        exact h5 _ ⟨_, h1, rfl⟩
      next => exact h1.elim
    next => exact h.elim
  next x ho =>
    rw [hev x (by simp [ho, Op.operands])]
    exact h
  next => exact hflo h

end VL
