/- Part We of the proof: VLBridge VLBridge2 VLBridge3 VLRow VLLaw VLUse. -/
import Derived.Test.YtopoljadcjeflaaWd
import Derived.Carry
import Derived.SizedLaws
import Derived.ChangeOld
import Derived.ChangeShapes
import Derived.DataReads
import Derived.ProofKit
namespace VL
open Go
set_option linter.unusedVariables false
set_option linter.unusedSimpArgs false

inductive Ty where
  | bool
  | int (k : IntKind)
  | str
  | sl (e : Ty) (z by_ : Nat) (agg : Bool)
  | row (ps : List Ty)

mutual
def Ty.flat : Ty → Bool
  | .sl .. => false
  | .row ps => Ty.flats ps
  | _ => true
def Ty.flats : List Ty → Bool
  | [] => true
  | p :: r => p.flat && Ty.flats r
end

mutual
def Ty.size : Ty → Nat
  | .row ps => Ty.sizes ps
  | _ => 1
def Ty.sizes : List Ty → Nat
  | [] => 0
  | p :: r => p.size + Ty.sizes r
end

/-- a struct's fields lie one behind the other -/
def fieldsAt (sz : TypeId → Nat) : Nat → List Field → Bool
  | _, [] => true
  | i, f :: r => Nat.beq f.offset i && fieldsAt sz (i + sz f.type) r

def isRowD : TypeDesc → Bool
  | .struct _ | .array _ _ => true
  | _ => false

def tyOf (P : Program) : Nat → TypeId → Option Ty
  | 0, _ => none
  | n + 1, t => match P.underlying t with
    | some .bool => some .bool
    | some (.int k) => some (.int k)
    | some .string => some .str
    | some (.slice e) => match tyOf P n e, P.underlying e with
      | some x, some d => if x.flat && Nat.beq x.size (P.cellsOf e) && Nat.blt 0 x.size && Nat.blt 0 (P.bytesOf e) then some (.sl x (P.cellsOf e) (P.bytesOf e) (isRowD d)) else none
      | _, _ => none
    | some (.struct fs) => match fs.toList.mapM (fun f => tyOf P n f.type) with
      | some ps => if fieldsAt P.cellsOf 0 fs.toList && Nat.beq (Ty.sizes ps) (P.cellsOf t) && (fs.toList.zip ps).all (fun x => Nat.beq x.2.size (P.cellsOf x.1.type)) then some (.row ps) else none
      | none => none
    | some (.array m e) => match tyOf P n e with
      | some x => if Nat.beq x.size (P.cellsOf e) && Nat.beq (m * x.size) (P.cellsOf t) then some (.row (List.replicate m x)) else none
      | none => none
    | _ => none

mutual
/-- what is told of a value's cells -/
def ShT : Ty → List V → Prop
  | .bool, vs => ∃ b, vs = [.bool b]
  | .int k, vs => ∃ n, vs = [.int k n] ∧ (Lit.int k n).wf = true
  | .str, vs => ∃ s, vs = [.str s] ∧ s.size ≤ 140737488351232
  | .sl e z by_ agg, vs => ∃ l, vs = [.sl l .no] ∧ l.length * by_ ≤ 140737488351232 ∧ ∀ x ∈ l, (if agg then ∃ cs, x = .agg cs ∧ ShT e cs else ShT e [x])
  | .row ps, vs => ShTs ps vs
def ShTs : List Ty → List V → Prop
  | [], vs => vs = []
  | p :: r, vs => ∃ a b, vs = a ++ b ∧ ShT p a ∧ ShTs r b
end

def SpotOk (c : Value) : Prop := ∀ a len cap, c = .slice (some a) len cap → a.spot = none

theorem okWide_spot {P : Program} {w : World} {r : Reach} {base : Nat} {t : TypeId} {v : Value} (h : Cell.okWide P w r base t v) : SpotOk v := by
  rintro a len cap rfl
  cases hd : P.underlying t with
  | none => simp [Cell.okWide, Cell.ok, hd] at h
  | some d =>
    cases d <;> simp [Cell.okWide, Cell.ok, hd] at h
    exact h.2.2.2.1

theorem okWide_spots {P : Program} {w : World} {r : Reach} {base : Nat} {t : TypeId} {v : Value} (h : Value.okWide P w r base t v) : ∀ c ∈ v.cells.toList, SpotOk c := by
  have row : ∀ cs, v = .agg cs → Row.okWide P w r base t cs → ∀ c ∈ v.cells.toList, SpotOk c := fun cs hv hr c hc => by
    subst hv
    obtain ⟨ts, _, _, h3⟩ := hr
    obtain ⟨i, hi⟩ := List.mem_iff_getElem?.1 hc
    obtain ⟨u, _, h4⟩ := h3 i c (by simpa [Value.cells] using hi)
    exact okWide_spot h4
  have one : Cell.okWide P w r base t v → (∀ cs, v ≠ .agg cs) → ∀ c ∈ v.cells.toList, SpotOk c := fun hc hn c h => by
    have : v.cells = #[v] := by cases v <;> first | rfl | exact absurd rfl (hn _)
    rw [this] at h; simp at h; subst h; exact okWide_spot hc
  unfold Value.okWide at h
  split at h
  · obtain ⟨cs, hv, _, hr⟩ := h; exact row cs hv hr
  · obtain ⟨cs, hv, _, hr⟩ := h; exact row cs hv hr
  · rename_i h1 h2
    refine one h fun cs e => ?_
    subst e
    cases hd : P.underlying t with
    | none => simp [Cell.okWide, Cell.ok, hd] at h
    | some d => cases d <;> simp [Cell.okWide, Cell.ok, hd] at h

mutual
theorem ShT_length : ∀ (t : Ty) (vs : List V), ShT t vs → vs.length = t.size
  | .bool, vs, h => by obtain ⟨b, rfl⟩ := h; rfl
  | .int k, vs, h => by obtain ⟨b, rfl, _⟩ := h; rfl
  | .str, vs, h => by obtain ⟨b, rfl, _⟩ := h; rfl
  | .sl e z b a, vs, h => by obtain ⟨l, rfl, _⟩ := h; rfl
  | .row ps, vs, h => ShTs_length ps vs h
theorem ShTs_length : ∀ (t : List Ty) (vs : List V), ShTs t vs → vs.length = Ty.sizes t
  | [], vs, h => by have : vs = [] := h; subst this; rfl
  | p :: r, vs, h => by
    obtain ⟨a, b, rfl, h1, h2⟩ := h
    rw [List.length_append, ShT_length p a h1, ShTs_length r b h2]; rfl
end

/-- the cells cs as abstract values -/
def Told (w : World) (cs : List Value) (vs : List V) : Prop :=
  vs.length = cs.length ∧ ∀ (k : Nat) v c, vs[k]? = some v → cs[k]? = some c → VRel (fun _ => 0) (fun b _ => b < w.heap.size) w 0 v c ∧ v.noTok = true ∧ v.okCell = true

theorem Told.one {w : World} {v : V} {c : Value} (h : VRel (fun _ => 0) (fun b _ => b < w.heap.size) w 0 v c) (h1 : v.noTok = true) (h2 : v.okCell = true) : Told w [c] [v] :=
  ⟨rfl, fun k u d hu hd => by
    cases k with
    | zero => simp at hu hd; subst hu; subst hd; exact ⟨h, h1, h2⟩
    | succ k => simp at hu⟩

theorem Told.append {w : World} {cs ds : List Value} {vs us : List V} (h : Told w cs vs) (k : Told w ds us) : Told w (cs ++ ds) (vs ++ us) := by
  refine ⟨by simp [h.1, k.1], fun i v c hv hc => ?_⟩
  rw [List.getElem?_append] at hv hc
  rw [h.1] at hv
  split at hv
  · rename_i hlt; rw [if_pos hlt] at hc; exact h.2 i v c hv hc
  · rename_i hlt; rw [if_neg hlt] at hc; exact k.2 _ v c hv hc

end VL

namespace VL
open Go
set_option linter.unusedVariables false
set_option linter.unusedSimpArgs false

section
variable {H : Type} {enc : TypeId × Value → H} {P : Program} {w : World} {base : Nat} {spare : Nat → Bool} {held : Bool}

theorem trod_bool {m : Nat} {t : TypeId} {cs : List Value} {d : DataW H} {ps : List MemPlace} (hu : P.underlying t = some .bool) (h : DataW.trod enc P w base spare held m t cs = some (d, ps)) : ∃ b, cs = [.bool b] := by
  cases m with
  | zero => simp [DataW.trod] at h
  | succ m =>
    unfold DataW.trod at h
    rw [hu] at h
    split at h <;> rename_i h1 <;> first | (cases h1; done) | skip
    all_goals first | exact ⟨_, rfl⟩ | (simp at h)

theorem trod_int {m : Nat} {t : TypeId} {k : IntKind} {cs : List Value} {d : DataW H} {ps : List MemPlace} (hu : P.underlying t = some (.int k)) (h : DataW.trod enc P w base spare held m t cs = some (d, ps)) : ∃ n, cs = [.int k n] ∧ (Lit.int k n).wf = true := by
  cases m with
  | zero => simp [DataW.trod] at h
  | succ m =>
    unfold DataW.trod at h
    rw [hu] at h
    split at h
    all_goals first
      | (simp only [reduceCtorEq] at h; done)
      | (rename_i h1; cases h1
         split at h
         · rename_i hk; obtain ⟨rfl, hk⟩ := hk; exact ⟨_, rfl, hk⟩
         · cases h)
      | (rename_i h1; cases h1; done)
      | (simp at h)

theorem trod_str {m : Nat} {t : TypeId} {cs : List Value} {d : DataW H} {ps : List MemPlace} (hu : P.underlying t = some .string) (h : DataW.trod enc P w base spare held m t cs = some (d, ps)) : ∃ s, cs = [.string s] ∧ d = .lit (.string s.data.toList) := by
  cases m with
  | zero => simp [DataW.trod] at h
  | succ m =>
    unfold DataW.trod at h
    rw [hu] at h
    split at h
    all_goals first
      | (simp only [reduceCtorEq] at h; done)
      | (rename_i h1; cases h1
         split at h
         · simp at h; exact ⟨_, rfl, h.1.symm⟩
         · cases h)
      | (rename_i h1; cases h1; done)
      | (simp at h)

theorem trod_struct {m : Nat} {t : TypeId} {fs : Array Field} {cs : List Value} {d : DataW H} {ps : List MemPlace} (hu : P.underlying t = some (.struct fs)) (h : DataW.trod enc P w base spare held m t cs = some (d, ps)) :
    ∃ m' xs, cs.length = P.cellsOf t ∧ (fs.toList.mapM fun f => DataW.trod enc P w base spare held m' f.type ((cs.drop f.offset).take (P.cellsOf f.type))) = some xs ∧ d = .agg (xs.map (·.1)) := by
  cases m with
  | zero => simp [DataW.trod] at h
  | succ m =>
    unfold DataW.trod at h
    rw [hu] at h
    split at h
    all_goals first
      | (simp only [reduceCtorEq] at h; done)
      | (rename_i h1; cases h1
         split at h
         · rename_i hlen
           obtain ⟨xs, h2, h3⟩ := Option.map_eq_some_iff.1 h
           simp at h3; exact ⟨m, xs, hlen, h2, h3.1.symm⟩
         · cases h)
      | (rename_i h1; cases h1; done)
      | (simp at h; obtain ⟨hl, a, h2, h3, _⟩ := h; exact ⟨m, a, hl, h2, h3.symm⟩)

theorem trod_array {m : Nat} {t e : TypeId} {n : Nat} {cs : List Value} {d : DataW H} {ps : List MemPlace} (hu : P.underlying t = some (.array n e)) (h : DataW.trod enc P w base spare held m t cs = some (d, ps)) :
    ∃ m' xs, cs.length = P.cellsOf t ∧ ((List.range n).mapM fun i => DataW.trod enc P w base spare held m' e ((cs.drop (i * P.cellsOf e)).take (P.cellsOf e))) = some xs ∧ d = .agg (xs.map (·.1)) := by
  cases m with
  | zero => simp [DataW.trod] at h
  | succ m =>
    unfold DataW.trod at h
    rw [hu] at h
    split at h
    all_goals first
      | (simp only [reduceCtorEq] at h; done)
      | (rename_i h1; cases h1
         split at h
         · rename_i hlen
           obtain ⟨xs, h2, h3⟩ := Option.map_eq_some_iff.1 h
           simp at h3; exact ⟨m, xs, hlen, h2, h3.1.symm⟩
         · cases h)
      | (rename_i h1; cases h1; done)
      | (simp at h; obtain ⟨hl, a, h2, h3, _⟩ := h; exact ⟨m, a, hl, h2, h3.symm⟩)

theorem trod_slice {m : Nat} {t e : TypeId} {cs : List Value} {d : DataW H} {ps : List MemPlace} (hu : P.underlying t = some (.slice e)) (h : DataW.trod enc P w base spare held m t cs = some (d, ps)) :
    cs = [.slice none 0 0] ∨ ∃ m' a len cap xs rest, cs = [.slice (some a) len cap] ∧ len ≤ cap ∧
      ((List.range len).mapM fun i => (w.cells? base (a.add (i * P.cellsOf e)) (P.cellsOf e)).bind (DataW.trod enc P w base spare held m' e)) = some xs ∧ d = .slice (xs.map (·.1)) rest := by
  cases m with
  | zero => simp [DataW.trod] at h
  | succ m =>
    unfold DataW.trod at h
    rw [hu] at h
    split at h
    all_goals first
      | (simp only [reduceCtorEq] at h; done)
      | (rename_i h1; cases h1; exact .inl rfl)
      | (rename_i h1; cases h1
         simp only at h
         split at h
         · rename_i hlen
           obtain ⟨xs, h2, h3⟩ := Option.bind_eq_some_iff.1 h
           obtain ⟨rest, h4, h5⟩ := Option.map_eq_some_iff.1 h3
           simp at h5
           exact .inr ⟨m, _, _, _, xs, _, rfl, hlen.2.1, h2, h5.1.symm⟩
         · cases h)
      | (rename_i h1; cases h1; done)
      | (simp at h)

end
end VL

namespace VL
open Go
set_option linter.unusedVariables false
set_option linter.unusedSimpArgs false

theorem exists_list {α : Type} {R : Nat → α → Prop} : ∀ (n : Nat), (∀ i, i < n → ∃ y, R i y) → ∃ L : List α, L.length = n ∧ ∀ (i : Nat) y, L[i]? = some y → R i y
  | 0, _ => ⟨[], rfl, by simp⟩
  | n + 1, h => by
    obtain ⟨L, h1, h2⟩ := exists_list n fun i hi => h i (by omega)
    obtain ⟨y, hy⟩ := h n (by omega)
    refine ⟨L ++ [y], by simp [h1], fun i z hz => ?_⟩
    rw [List.getElem?_append] at hz
    split at hz
    · exact h2 i z hz
    · have : i = n := by
        rcases Nat.lt_or_ge (i - L.length) 1 with hlt | hge
        · omega
        · rw [List.getElem?_eq_none (by simpa using hge)] at hz; cases hz
      subst this
      rw [h1] at hz; simp at hz; subst hz; exact hy

theorem flat_inv {sz : Nat} (hp : 0 < sz) : ∀ {l : List V} (hz : ∀ x ∈ l, x.cells.length = sz) {k : Nat} {v : V}, (l.flatMap V.cells)[k]? = some v → ∃ i j x, l[i]? = some x ∧ x.cells[j]? = some v ∧ k = i * sz + j ∧ j < sz
  | [], _, k, v, h => by simp at h
  | x :: r, hz, k, v, h => by
    rw [List.flatMap_cons, List.getElem?_append] at h
    have hx := hz x (by simp)
    split at h
    · rename_i hlt
      exact ⟨0, k, x, rfl, h, by omega, by omega⟩
    · obtain ⟨i, j, y, h1, h2, h3, h4⟩ := flat_inv hp (fun y hy => hz y (by simp [hy])) h
      exact ⟨i + 1, j, y, by simpa using h1, h2, by rw [Nat.add_mul]; omega, h4⟩

theorem weightsAll_mem {H : Type} {P : Program} {e : TypeId} : ∀ {ds : List (DataW H)} {d : DataW H}, d ∈ ds → ∀ x ∈ d.weights P e, x ∈ DataW.weightsAll P e ds
  | d :: r, _, .head _, x, hx => by simp only [DataW.weightsAll, List.mem_append]; exact .inl hx
  | _ :: r, d, .tail _ h, x, hx => by simp only [DataW.weightsAll, List.mem_append]; exact .inr (weightsAll_mem h x hx)


section
variable {H : Type} {enc : TypeId × Value → H} {P : Program} {w : World} {base : Nat} {spare : Nat → Bool} {held : Bool}

theorem add_none {a : Addr} (h : a.spot = none) (n : Nat) : a.add n = ⟨a.block, a.off + n, none⟩ := by
  obtain ⟨b, o, s⟩ := a
  simp only at h; subst h
  unfold Addr.add
  split
  · rename_i e; simp [e]
  · rfl

theorem cell_lt {b k : Nat} {c : Value} (h : w.cell? ⟨b, k, none⟩ = some c) : b < w.heap.size := by
  rcases Nat.lt_or_ge b w.heap.size with h1 | h1
  · exact h1
  · simp [World.cell?, Array.getElem?_eq_none h1] at h

theorem ShT_single {ty : Ty} {vs : List V} (h : ShT ty vs) (hs : ∀ ps, ty ≠ .row ps) : ∃ v, vs = [v] ∧ v.cells = [v] := by
  cases ty with
  | bool => obtain ⟨b, rfl⟩ := h; exact ⟨_, rfl, rfl⟩
  | int k => obtain ⟨b, rfl, _⟩ := h; exact ⟨_, rfl, rfl⟩
  | str => obtain ⟨b, rfl, _⟩ := h; exact ⟨_, rfl, rfl⟩
  | sl e z b a => obtain ⟨l, rfl, _⟩ := h; exact ⟨_, rfl, rfl⟩
  | row ps => exact absurd rfl (hs ps)

theorem tyOf_row {n : Nat} {t : TypeId} {ty : Ty} {d : TypeDesc} (h : tyOf P n t = some ty) (hu : P.underlying t = some d) (hd : isRowD d = false) : ∀ ps, ty ≠ .row ps := by
  rintro ps rfl
  cases n with
  | zero => simp [tyOf] at h
  | succ n =>
    unfold tyOf at h
    rw [hu] at h
    cases d <;> simp [isRowD] at hd h
    split at h
    · split at h <;> simp at h
    · simp at h

theorem Told.take_drop {cs : List Value} {i a b : Nat} {vs us : List V} (h : Told w ((cs.drop i).take a) vs) (k : Told w ((cs.drop (i + a)).take b) us) : Told w ((cs.drop i).take (a + b)) (vs ++ us) := by
  have : (cs.drop i).take (a + b) = (cs.drop i).take a ++ (cs.drop (i + a)).take b := by
    rw [List.take_add, List.drop_drop]
  rw [this]; exact h.append k

theorem trod_V : ∀ (n : Nat) (t : TypeId) (ty : Ty), tyOf P n t = some ty → ∀ (m : Nat) (cs : List Value) (d : DataW H) (ps : List MemPlace), DataW.trod enc P w base spare held m t cs = some (d, ps) →
    (∀ x ∈ d.weights P t, x ≤ reachBytes) → (ty.flat = true ∨ ∀ c ∈ cs, SpotOk c) → ∃ vs, Told w cs vs ∧ ShT ty vs := by
  intro n
  induction n with
  | zero => intro t ty h; simp [tyOf] at h
  | succ n ih =>
    intro t ty hty m cs d ps h hw hsp
    unfold tyOf at hty
    split at hty
    · rename_i hu
      cases hty
      obtain ⟨b, rfl⟩ := trod_bool hu h
      exact ⟨[.bool b], .one .bool rfl rfl, b, rfl⟩
    · rename_i k hu
      cases hty
      obtain ⟨x, rfl, hwf⟩ := trod_int hu h
      exact ⟨[.int k x], .one .int rfl rfl, x, rfl, hwf⟩
    · rename_i hu
      cases hty
      obtain ⟨s, rfl, rfl⟩ := trod_str hu h
      refine ⟨[.str s], .one .str rfl rfl, s, rfl, ?_⟩
      have := hw s.data.toList.length (by unfold DataW.weights; exact List.mem_singleton.2 rfl)
      have e : s.data.toList.length = s.size := Array.length_toList ..
      rw [e] at this; exact this
    · rename_i e hu
      split at hty
      · rename_i x dsc he hue
        split at hty
        · rename_i hc
          cases hty
          simp only [Bool.and_eq_true] at hc
          obtain ⟨⟨⟨hflat, hsz⟩, hpos⟩, hby⟩ := hc
          have hsz := Nat.eq_of_beq_eq_true hsz
          have hpos : 0 < x.size := by simpa [Nat.blt_eq] using hpos
          rcases trod_slice hu h with rfl | ⟨m', a, len, cap, xs, rest, rfl, hlen, hxs, rfl⟩
          · exact ⟨[.sl [] .no], .one .slnil rfl rfl, [], rfl, by simp, by simp⟩
          · have hspot : a.spot = none := by
              rcases hsp with hf | hsp
              · simp [Ty.flat] at hf
              · exact hsp _ (by simp) a len cap rfl
            have hlx : xs.length = len := by rw [mapM_some_length hxs]; simp
            have hel : ∀ i, i < len → ∃ vi : List V, ∃ ci, w.cells? base (a.add (i * P.cellsOf e)) (P.cellsOf e) = some ci ∧ Told w ci vi ∧ ShT x vi := fun i hi => by
              have hg := mapM_some_get hxs i i (by rw [List.getElem?_range hi])
              rw [List.getElem?_eq_getElem (by omega)] at hg
              obtain ⟨ci, h1, h2⟩ := Option.bind_eq_some_iff.1 hg
              have hmem : xs[i] ∈ xs := List.getElem_mem _
              obtain ⟨vi, h3, h4⟩ := ih e x he m' ci xs[i].1 xs[i].2 h2 (fun y hy => hw y (by
                simp only [DataW.weights, hu, List.mem_cons, List.mem_append]
                exact .inr (.inl (weightsAll_mem (List.mem_map.2 ⟨xs[i], hmem, rfl⟩) y hy)))) (.inl hflat)
              exact ⟨vi, ci, h1, h3, h4⟩
            obtain ⟨L, hL, hLR⟩ := exists_list len hel
            -- an element as one value
            let mk : List V → V := fun vs => if isRowD dsc then .agg vs else vs.headD .undef
            have hmk : ∀ i vi, L[i]? = some vi → (mk vi).cells = vi ∧ (if isRowD dsc = true then ∃ cs, mk vi = .agg cs ∧ ShT x cs else ShT x [mk vi]) := fun i vi hi => by
              obtain ⟨ci, _, _, h3⟩ := hLR i vi hi
              by_cases hr : isRowD dsc = true
              · simp only [mk, hr, if_true]; exact ⟨rfl, _, rfl, h3⟩
              · have hr : isRowD dsc = false := by simpa using hr
                obtain ⟨v, rfl, hv⟩ := ShT_single h3 (tyOf_row he hue hr)
                simp only [mk, hr]
                exact ⟨hv, h3⟩
            have hlt : ∀ i vi, L[i]? = some vi → i < len := fun i vi hi => by rw [← hL]; exact (List.getElem?_eq_some_iff.1 hi).1
            have hml : ∀ y ∈ L.map mk, y.cells.length = P.cellsOf e ∧ y.cells.all V.okCell = true := fun y hy => by
              obtain ⟨vi, hvi, rfl⟩ := List.mem_map.1 hy
              obtain ⟨i, hi⟩ := List.mem_iff_getElem?.1 hvi
              obtain ⟨ci, h1, h2, h3⟩ := hLR i vi hi
              rw [(hmk i vi hi).1]
              obtain ⟨_, hcl, _⟩ := World.cells?_some h1
              refine ⟨by rw [h2.1, hcl], List.all_eq_true.2 fun v hv => ?_⟩
              obtain ⟨j, hj⟩ := List.mem_iff_getElem?.1 hv
              have hjl : j < ci.length := by rw [← h2.1]; exact (List.getElem?_eq_some_iff.1 hj).1
              exact (h2.2 j v ci[j] hj (List.getElem?_eq_getElem hjl)).2.2
            have hcell : ∀ k v, ((L.map mk).flatMap V.cells)[k]? = some v → ∃ c, w.cell? ⟨a.block, a.off + k, none⟩ = some c ∧ VRel (fun _ => 0) (fun b _ => b < w.heap.size) w 0 v c := fun k v hk => by
              obtain ⟨i, j, y, h1, h2, rfl, h4⟩ := flat_inv (by rw [← hsz]; exact hpos) (fun y hy => (hml y hy).1) hk
              rw [List.getElem?_map] at h1
              obtain ⟨vi, hvi, rfl⟩ := Option.map_eq_some_iff.1 h1
              rw [(hmk i vi hvi).1] at h2
              obtain ⟨ci, g1, g2, g3⟩ := hLR i vi hvi
              obtain ⟨_, hcl, hcc⟩ := World.cells?_some g1
              have hjl : j < ci.length := by omega
              have := hcc j h4
              rw [add_none hspot, add_none rfl, List.getElem?_eq_getElem hjl] at this
              refine ⟨ci[j], ?_, (g2.2 j v ci[j] h2 (List.getElem?_eq_getElem hjl)).1⟩
              rw [← this]; simp only [Nat.add_assoc]
            obtain ⟨ab, ao, as⟩ := a
            simp only at hspot; subst hspot
            refine ⟨[.sl (L.map mk) .no], .one (.sl (sz := P.cellsOf e) (fun k => (w.cell? ⟨ab, ao + k, none⟩).getD undef) (by simp [hL]) hlen (by simp) hml (fun k v hk => ?_) fun k v hk => ?_) rfl rfl, L.map mk, rfl, ?_, fun y hy => ?_⟩
            · obtain ⟨c, h1, _⟩ := hcell k v hk
              simp only at h1 ⊢
              rw [h1]; exact ⟨rfl, cell_lt h1⟩
            · obtain ⟨c, h1, h2⟩ := hcell k v hk
              simp only at h1
              rw [h1]; exact h2
            · rw [List.length_map, hL]
              have := hw ((xs.map (·.1)).length + rest.length |>.mul (P.bytesOf e)) (by simp [DataW.weights, hu])
              have h2 : len * P.bytesOf e ≤ ((xs.map (·.1)).length + rest.length) * P.bytesOf e := Nat.mul_le_mul_right _ (by rw [List.length_map, hlx]; omega)
              exact Nat.le_trans h2 this
            · obtain ⟨vi, hvi, rfl⟩ := List.mem_map.1 hy
              obtain ⟨i, hi⟩ := List.mem_iff_getElem?.1 hvi
              exact (hmk i vi hi).2
        · cases hty
      · cases hty
    · rename_i fs hu
      split at hty
      · rename_i tys htys
        split at hty
        · rename_i hc
          cases hty
          simp only [Bool.and_eq_true] at hc
          obtain ⟨⟨hat, htot⟩, hszs⟩ := hc
          have htot := Nat.eq_of_beq_eq_true htot
          obtain ⟨m', xs, hlen, hxs, rfl⟩ := trod_struct hu h
          have key : ∀ (l : List Field) (i : Nat) (tl : List Ty) (ys : List (DataW H × List MemPlace)), fieldsAt P.cellsOf i l = true → l.mapM (fun f => tyOf P n f.type) = some tl →
              (l.mapM fun f => DataW.trod enc P w base spare held m' f.type ((cs.drop f.offset).take (P.cellsOf f.type))) = some ys → (l.zip tl).all (fun x => Nat.beq x.2.size (P.cellsOf x.1.type)) = true →
              (∀ x ∈ DataW.weightsEach P (l.map (·.type)) (ys.map (·.1)), x ≤ reachBytes) → (Ty.flats tl = true ∨ ∀ c ∈ cs, SpotOk c) → ∃ vs, Told w ((cs.drop i).take (Ty.sizes tl)) vs ∧ ShTs tl vs := by
            intro l
            induction l with
            | nil =>
              intro i tl ys _ h1 _ _ _ _
              simp at h1; subst h1
              exact ⟨[], ⟨by simp [Ty.sizes], by simp⟩, rfl⟩
            | cons f r ihl =>
              intro i tl ys hat h1 h2 h3 h4 h5
              simp only [fieldsAt, Bool.and_eq_true] at hat
              simp only [List.mapM_cons, bind, Option.bind_eq_some_iff] at h1 h2
              obtain ⟨t1, a1, tr, a2, a3⟩ := h1
              obtain ⟨y1, b1, yr, b2, b3⟩ := h2
              simp only [pure, Option.some.injEq] at a3 b3
              subst a3; subst b3
              simp only [List.zip_cons_cons, List.all_cons, Bool.and_eq_true] at h3
              have hsz1 := Nat.eq_of_beq_eq_true h3.1
              have hoff := Nat.eq_of_beq_eq_true hat.1
              rw [hoff] at b1
              obtain ⟨va, c1, c2⟩ := ih f.type t1 a1 m' _ y1.1 y1.2 b1 (fun x hx => h4 x (by simp only [List.map_cons, DataW.weightsEach, List.mem_append]; exact .inl hx)) (by
                rcases h5 with h5 | h5
                · simp only [Ty.flats, Bool.and_eq_true] at h5; exact .inl h5.1
                · exact .inr fun c hc => h5 c (List.mem_of_mem_drop (List.mem_of_mem_take hc)))
              obtain ⟨vb, d1, d2⟩ := ihl _ tr yr hat.2 a2 b2 h3.2 (fun x hx => h4 x (by simp only [List.map_cons, DataW.weightsEach, List.mem_append]; exact .inr hx)) (by
                rcases h5 with h5 | h5
                · simp only [Ty.flats, Bool.and_eq_true] at h5; exact .inl h5.2
                · exact .inr h5)
              refine ⟨va ++ vb, ?_, va, vb, rfl, c2, d2⟩
              simp only [Ty.sizes]
              rw [hsz1]
              exact c1.take_drop d1
          obtain ⟨vs, k1, k2⟩ := key fs.toList 0 tys xs hat htys hxs hszs (fun x hx => hw x (by simp only [DataW.weights, hu]; exact hx)) (by
            rcases hsp with h | h
            · exact .inl (by simpa [Ty.flat] using h)
            · exact .inr h)
          refine ⟨vs, ?_, k2⟩
          rw [List.drop_zero, htot, ← hlen, List.take_length] at k1
          exact k1
        · cases hty
      · cases hty
    · rename_i k e hu
      split at hty
      · rename_i x he
        split at hty
        · rename_i hc
          cases hty
          simp only [Bool.and_eq_true] at hc
          have hsz := Nat.eq_of_beq_eq_true hc.1
          have htot := Nat.eq_of_beq_eq_true hc.2
          obtain ⟨m', xs, hlen, hxs, rfl⟩ := trod_array hu h
          have hlx : xs.length = k := by rw [mapM_some_length hxs]; simp
          have hx : k = 0 ∨ x.flat = true ∨ ∀ c ∈ cs, SpotOk c := by
            rcases hsp with h | h
            · cases k with
              | zero => exact .inl rfl
              | succ k =>
                simp only [Ty.flat, List.replicate_succ, Ty.flats, Bool.and_eq_true] at h; exact .inr (.inl h.1)
            · exact .inr (.inr h)
          have key : ∀ j, j ≤ k → ∃ vs, Told w ((cs.drop ((k - j) * P.cellsOf e)).take (j * P.cellsOf e)) vs ∧ ShTs (List.replicate j x) vs := by
            intro j
            induction j with
            | zero => intro _; exact ⟨[], ⟨by simp, by simp⟩, rfl⟩
            | succ j ihj =>
              intro hj
              obtain ⟨vb, d1, d2⟩ := ihj (by omega)
              have hg := mapM_some_get hxs (k - (j + 1)) (k - (j + 1)) (by rw [List.getElem?_range (by omega)])
              rw [List.getElem?_eq_getElem (by omega)] at hg
              have hmem : xs[k - (j + 1)]'(by omega) ∈ xs := List.getElem_mem _
              obtain ⟨va, c1, c2⟩ := ih e x he m' _ _ _ hg (fun y hy => hw y (by
                simp only [DataW.weights, hu]
                exact weightsAll_mem (List.mem_map.2 ⟨_, hmem, rfl⟩) y hy)) (by
                rcases hx with h | h | h
                · omega
                · exact .inl h
                · exact .inr fun c hc => h c (List.mem_of_mem_drop (List.mem_of_mem_take hc)))
              refine ⟨va ++ vb, ?_, va, vb, rfl, c2, d2⟩
              have e1 : (j + 1) * P.cellsOf e = P.cellsOf e + j * P.cellsOf e := by rw [Nat.add_mul]; omega
              have e2 : (k - j) * P.cellsOf e = (k - (j + 1)) * P.cellsOf e + P.cellsOf e := by rw [show k - j = (k - (j + 1)) + 1 by omega, Nat.add_mul]; omega
              rw [e2] at d1
              rw [e1]
              exact c1.take_drop d1
          obtain ⟨vs, k1, k2⟩ := key k (Nat.le_refl _)
          refine ⟨vs, ?_, k2⟩
          rw [Nat.sub_self, Nat.zero_mul, List.drop_zero, ← hsz, htot, ← hlen, List.take_length] at k1
          exact k1
        · cases hty
      · cases hty
    · cases hty

end
end VL

namespace VL
open Go Go.RowKit
set_option linter.unusedVariables false
set_option linter.unusedSimpArgs false

def ShA (t : Ty) (agg : Bool) (x : V) : Prop := if agg then ∃ cs, x = .agg cs ∧ ShT t cs else ShT t [x]

def ShAs : List (Ty × Bool) → List V → Prop
  | [], xs => xs = []
  | (t, a) :: r, xs => ∃ x ys, xs = x :: ys ∧ ShA t a x ∧ ShAs r ys

def argTy (P : Program) (n : Nat) (t : TypeId) : Option (Ty × Bool) := (tyOf P n t).bind fun ty => (P.underlying t).map fun d => (ty, isRowD d)

section
variable {H : Type} {enc : TypeId × Value → H} {P : Program} {w : World} {base : Nat}

theorem arg_V {n : Nat} {t : TypeId} {ty : Ty} {agg : Bool} {v : Value} {d : DataW H} {ps : List MemPlace} {r : Reach} {b : Nat} (hty : argTy P n t = some (ty, agg)) (h : DataW.Trod enc P w 0 (fun _ => true) true t v d ps)
    (hv : Value.okWide P w r b t v) (hw : ∀ x ∈ d.weights P t, x ≤ reachBytes) : ∃ x, VRel (fun _ => 0) (fun b _ => b < w.heap.size) w 0 x v ∧ x.noTok = true ∧ ShA ty agg x := by
  obtain ⟨ty', h1, h2⟩ := Option.bind_eq_some_iff.1 hty
  obtain ⟨dsc, h3, h4⟩ := Option.map_eq_some_iff.1 h2
  simp only [Prod.mk.injEq] at h4
  obtain ⟨rfl, rfl⟩ := h4
  obtain ⟨m, hm⟩ := h
  obtain ⟨vs, k1, k2⟩ := trod_V n t ty' h1 m _ d ps hm hw (.inr (okWide_spots hv))
  have hval := hv
  unfold Value.okWide at hval
  rw [h3] at hval
  by_cases hr : isRowD dsc = true
  · have : ∃ cs, v = .agg cs := by
      cases dsc <;> simp [isRowD] at hr <;> obtain ⟨cs, h, _⟩ := hval <;> exact ⟨cs, h⟩
    obtain ⟨cs, rfl⟩ := this
    refine ⟨.agg vs, .agg (by rw [k1.1]; simp [Value.cells]) fun k u c hu hc => (k1.2 k u c hu (by simpa [Value.cells] using hc)).1, rfl, ?_⟩
    unfold ShA; rw [if_pos hr]; exact ⟨vs, rfl, k2⟩
  · have hr : isRowD dsc = false := by simpa using hr
    obtain ⟨x, rfl, hx⟩ := ShT_single k2 (tyOf_row h1 h3 hr)
    have hl := k1.1
    have hcv : v.cells.toList = [v] := by
      cases v with
      | agg cs =>
        exfalso
        cases dsc <;> simp [isRowD] at hr <;> simp [Cell.okWide, Cell.ok, h3] at hval
      | _ => rfl
    rw [hcv] at k1
    have := k1.2 0 x v rfl rfl
    refine ⟨x, this.1, this.2.1, ?_⟩
    unfold ShA; rw [if_neg (by simp [hr])]; exact k2

theorem args_V {n : Nat} {r : Reach} {b : Nat} : ∀ {ts : List TypeId} {tys : List (Ty × Bool)} {vs : List Value} {ds : List (DataW H)} {ps : List MemPlace}, ts.mapM (argTy P n) = some tys → DataW.TrodAll enc P w 0 (fun _ => true) true ts vs ds ps →
    (∀ (j : Nat) t v, ts[j]? = some t → vs[j]? = some v → Value.okWide P w r b t v) → (∀ x ∈ DataW.weightsEach P ts ds, x ≤ reachBytes) →
    ∃ xs : List V, xs.length = vs.length ∧ (∀ (k : Nat) x v, xs[k]? = some x → vs[k]? = some v → VRel (fun _ => 0) (fun b _ => b < w.heap.size) w 0 x v ∧ x.noTok = true) ∧ ShAs tys xs
  | [], tys, vs, ds, ps, h, ht, hv, hw => by
    simp at h; subst h
    cases vs with
    | nil => exact ⟨[], rfl, by simp, rfl⟩
    | cons v vs => cases ds <;> exact ht.elim
  | t :: ts, tys, vs, ds, ps, h, ht, hv, hw => by
    simp only [List.mapM_cons, bind, Option.bind_eq_some_iff] at h
    obtain ⟨t1, a1, tr, a2, a3⟩ := h
    simp only [pure, Option.some.injEq] at a3
    subst a3
    cases vs with
    | nil => exact ht.elim
    | cons v vs =>
      cases ds with
      | nil => exact ht.elim
      | cons d ds =>
        obtain ⟨p, q, h1, h2, rfl⟩ := ht
        obtain ⟨ty, agg⟩ := t1
        obtain ⟨x, b1, b2, b3⟩ := arg_V a1 h1 (hv 0 t v rfl rfl) (fun x hx => hw x (by simp only [DataW.weightsEach, List.mem_append]; exact .inl hx))
        obtain ⟨xs, c1, c2, c3⟩ := args_V a2 h2 (fun j t v h h' => hv (j + 1) t v (by simpa using h) (by simpa using h')) (fun x hx => hw x (by simp only [DataW.weightsEach, List.mem_append]; exact .inr hx))
        refine ⟨x :: xs, by simp [c1], fun k y z hy hz => ?_, x, xs, rfl, b3, c3⟩
        cases k with
        | zero => simp at hy hz; subst hy; subst hz; exact ⟨b1, b2⟩
        | succ k => exact c2 k y z (by simpa using hy) (by simpa using hz)

theorem trodAll_below (hl : laidOutB P = true) {W W' : World} (hb : Below W.heap.size W W') : ∀ {ts : List TypeId} {vs : List Value} {ds : List (DataW H)} {ps : List MemPlace},
    (ts.all fun t => P.readableRec t && decide (t < P.types.size)) = true → DataW.TrodAll enc P W 0 (fun _ => true) true ts vs ds ps → DataW.TrodAll enc P W' 0 (fun b => decide (b < W.heap.size)) true ts vs ds ps
  | [], [], [], _, _, h => h
  | [], [], _ :: _, _, _, h => h.elim
  | [], _ :: _, _, _, _, h => h.elim
  | _ :: _, [], _, _, _, h => h.elim
  | _ :: _, _ :: _, [], _, _, h => h.elim
  | t :: ts, v :: vs, d :: ds, ps, hr, h => by
    simp only [List.all_cons, Bool.and_eq_true, decide_eq_true_eq] at hr
    obtain ⟨p, q, h1, h2, rfl⟩ := h
    refine ⟨p, q, Below.trod hl hr.1.1 hr.1.2 h1 hb ?_, trodAll_below hl hb hr.2 h2, rfl⟩
    obtain ⟨m, hm⟩ := h1
    exact DataW.trod_lt m _ _ _ hm

/-- what a law's contract comes to in the machine -/
theorem law_calls {n f : Nat} {fn : Func} {body : Code} {r : Reach} {b : Nat} {ts : List TypeId} {tys : List (Ty × Bool)} {args : Array Value} {ds : List (DataW H)} {ps : List MemPlace} (hf : P.funcs[f]? = some fn) (hb : fn.body = some body)
    (hn : (fn.name == "runtime.NumGoroutine") = false) (hty : ts.mapM (argTy P n) = some tys)
    (ht : DataW.TrodAll enc P w 0 (fun _ => true) true ts args.toList ds ps) (hv : ∀ (j : Nat) t v, ts[j]? = some t → args[j]? = some v → Value.okWide P w r b t v) (hw : ∀ x ∈ DataW.weightsEach P ts ds, x ≤ reachBytes)
    (hlaw : ∀ xs, ShAs tys xs → VCall P f xs [] fun out _ => out = .ret (.bool true)) : Calls P f args w fun e w' => e = .returned (.bool true) ∧ Below w.heap.size w w' := by
  obtain ⟨xs, h1, h2, h3⟩ := args_V hty ht (fun j t v h h' => hv j t v h (by simpa using h')) hw
  have hc := VCall.open (hlaw xs h3)
  have hinit : WInv ⟨w, 0, fun _ => 0, fun b _ => b < w.heap.size, Owns ⟨fun _ => 0, fun b _ => b < w.heap.size, fun _ => ⟨0, 0, 0⟩⟩ []⟩ ⟨fun _ => 0, fun b _ => b < w.heap.size, fun _ => ⟨0, 0, 0⟩⟩ w [] 0 :=
    ⟨rfl, rfl, rfl, Nat.le_refl _, fun _ _ _ => rfl, Nat.le_refl _, fun o x h => by simp at h, fun o x h => by simp at h, fun o o' x x' h => by simp at h, fun o x _ h => by simp at h, fun o x h => by simp at h, fun _ _ h => h, fun _ _ _ _ h => h, fun _ _ h => h,
      fun o T cs k h => by simp at h, fun o x k h => by simp at h, fun i h => absurd h (by omega), fun i j h => absurd h (by omega), fun _ _ _ => rfl⟩
  refine (Does.calls hf hb hn).1 ((hc w ⟨fun _ => 0, fun b _ => b < w.heap.size, fun _ => ⟨0, 0, 0⟩⟩ args hinit (by simpa using h1) (fun k v x hx hy => ?_)).mono fun e w' he => ?_)
  · obtain ⟨a1, a2⟩ := h2 k v x hx (by simpa using hy)
    exact ⟨a1, .of_no a2⟩
  · obtain ⟨out, ob', g', rfl, hwi, hend⟩ := he
    cases e with
    | returned x =>
      have hx := hend.rel
      cases hx
      exact ⟨rfl, hwi.os, hwi.tape, hwi.output, hwi.size, fun k hk => hwi.keep k hk (fun ⟨o, x, ho, _⟩ => by simp at ho)⟩
    | _ => exact hend.elim

end
end VL

namespace VL
open Go Go.RowKit Go.ChangeShapes
set_option linter.unusedVariables false
set_option linter.unusedSimpArgs false

theorem trodAll_length {H : Type} {enc : TypeId × Value → H} {P : Program} {W : World} {b : Nat} {sp : Nat → Bool} {hd : Bool} : ∀ {ts : List TypeId} {vs : List Value} {ds : List (DataW H)} {ps : List MemPlace},
    DataW.TrodAll enc P W b sp hd ts vs ds ps → ds.length = ts.length
  | [], [], [], _, _ => rfl
  | [], [], _ :: _, _, h => h.elim
  | [], _ :: _, _, _, h => h.elim
  | _ :: _, [], _, _, h => h.elim
  | _ :: _, _ :: _, [], _, h => h.elim
  | t :: ts, v :: vs, d :: ds, ps, h => by
    obtain ⟨p, q, h1, h2, rfl⟩ := h
    simp [trodAll_length h2]

theorem law_lift {C : Checked} {H : Type} {enc : TypeId × Value → H} {f : FuncId} {fn : Func} {s : ChangeSpec} {n : Nat} {tys : List (Ty × Bool)} {ts : List TypeId} {tb : TypeId} (hts : fn.params.toList = ts) (hl : laidOutB C.prog = true)
    (hty : ts.mapM (argTy C.prog n) = some tys) (hvars : s.vars = []) (hrt : fn.resultTypes = #[tb]) (htb : C.prog.underlying tb = some .bool)
    (hread : (ts.all fun t => C.prog.readableRec t && decide (t < C.prog.types.size)) = true)
    (hs : ∀ ds : List (DataW H), ds.length = ts.length → s.fn H ds = { results := [.lit (.bool true)], args := ds, vars := [] })
    {body : Code} (hf : C.prog.funcs[f]? = some fn) (hb : fn.body = some body) (hn : (fn.name == "runtime.NumGoroutine") = false)
    (hlaw : ∀ xs, ShAs tys xs → VCall C.prog f xs [] fun out _ => out = .ret (.bool true))
    (W : World) (base : Nat) (args : Array Value) (ds gs : List (DataW H)) (before : List MemPlace)
    (hval : ∀ (j : Nat) t v, fn.params[j]? = some t → args[j]? = some v → Value.okWide C.prog W .any base t v)
    (hW : DataW.Whole enc C.prog fn.params.toList s.vars false W args.toList ds gs before)
    (hsz : (DataW.weightsEach C.prog (fn.params.toList ++ s.plain.varTypes C.prog) (ds ++ gs)).all (· ≤ reachBytes) = true) :
    Calls C.prog f args W fun e W' => ∃ v, e = .returned v ∧ s.post enc C.prog fn false true false false W args v W' := by
  have hW' := hW
  obtain ⟨p, q, hA, hV, rfl, _, _⟩ := hW
  rw [hvars] at hV
  obtain ⟨rfl, rfl⟩ := trodVars_none hV
  have hpl : s.plain.varTypes C.prog = [] := by simp [DataSpec.varTypes, ChangeSpec.plain, hvars]
  rw [hpl, List.append_nil, List.append_nil] at hsz
  rw [hts] at hA hsz
  have hlen := trodAll_length hA
  have hlt : ∀ x ∈ p ++ [], x.block < W.heap.size := fun x hx => by simpa using hW'.lt x hx
  refine (law_calls (r := .any) (b := base) hf hb hn hty hA (fun j t v h1 h2 => hval j t v (by rw [← hts] at h1; simpa using h1) h2) (fun x hx => by simpa using List.all_eq_true.1 hsz x hx) hlaw).mono fun e W' ⟨he, hb⟩ => ?_
  have hs' := hs ds hlen
  refine ⟨_, he, ds, [], p ++ [], [], p, [], hW', ?_, ?_, ?_, hb.frame _, fun h => by cases h⟩
  · rw [List.append_nil, hs', hrt]
    exact trodAll_mk1 (shut_bool htb true)
  · rw [List.append_nil, hs', hts]
    exact trodAll_below hl hb hread hA
  · rw [hvars, List.append_nil, hs']; exact rfl
end VL

namespace VL
open Go
set_option linter.unusedVariables false
set_option linter.unusedSimpArgs false

theorem VLoop.ind {P : Program} {m : Nat} {code : Code} {K : Ex → St → Prop} (S : Nat → St) (N : Nat) (h : ∀ i, i < N → VLoop P m code (S (i + 1)) K → VLoop P m code (S i) K) (hN : VLoop P m code (S N) K) : VLoop P m code (S 0) K := by
  have key : ∀ k i, i + k = N → VLoop P m code (S i) K := fun k => by
    induction k with
    | zero => intro i hi; rw [show i = N by omega]; exact hN
    | succ k ih => intro i hi; exact h i (by omega) (ih (i + 1) (by omega))
  exact key N 0 (by omega)

theorem wrap64 {x : Int} (h1 : -9223372036854775808 ≤ x) (h2 : x ≤ 9223372036854775807) : IntKind.i64.wrap x = x := by rw [IntKind.wrap_i64]; omega

/-- a way that is not gone -/
theorem yes {b : Bool} {x y : Prop} (hb : b = true) (h : x) : @Bool.rec (fun _ => Prop) y x b := by subst hb; exact h
theorem no {b : Bool} {x y : Prop} (hb : b = false) (h : y) : @Bool.rec (fun _ => Prop) y x b := by subst hb; exact h

def bL (l : List Int) : List V := l.map (V.int .u8)
theorem bL_len (l : List Int) : (bL l).length = l.length := by simp [bL]
theorem bL_cells {l : List Int} : ∀ x ∈ bL l, x.cells.length = 1 := by
  intro x hx
  obtain ⟨n, _, rfl⟩ := List.mem_map.1 hx
  rfl
theorem bL_app (l m : List Int) : bL l ++ bL m = bL (l ++ m) := by simp [bL]
theorem bL_get (l : List Int) (i : Nat) : (bL l)[i]? = (l[i]?).map (V.int .u8) := by simp [bL]

-- a law's data, laid open

theorem ShTs.int {k : IntKind} {r : List Ty} {vs : List V} (h : ShTs (.int k :: r) vs) : ∃ n b, vs = .int k n :: b ∧ (Lit.int k n).wf = true ∧ ShTs r b := by
  simp only [ShTs, ShT] at h
  obtain ⟨a, b, rfl, ⟨n, rfl, hw⟩, hb⟩ := h
  exact ⟨n, b, rfl, hw, hb⟩

theorem ShTs.ints {k : IntKind} : ∀ (m : Nat) {vs : List V}, ShTs (List.replicate m (.int k)) vs → ∃ l : List Int, l.length = m ∧ vs = l.map (V.int k) ∧ ∀ x ∈ l, (Lit.int k x).wf = true
  | 0, vs, h => ⟨[], rfl, by simpa [ShTs] using h, by simp⟩
  | m + 1, vs, h => by
    obtain ⟨n, b, rfl, hw, hb⟩ := ShTs.int h
    obtain ⟨l, h1, rfl, h3⟩ := ShTs.ints m hb
    exact ⟨n :: l, by simp [h1], rfl, fun x hx => by
      cases hx with
      | head => exact hw
      | tail _ hx => exact h3 x hx⟩

theorem ints_of {k : IntKind} : ∀ {l : List V}, (∀ x ∈ l, ∃ n, [x] = [V.int k n] ∧ (Lit.int k n).wf = true) → ∃ ns : List Int, l = ns.map (V.int k) ∧ ∀ n ∈ ns, (Lit.int k n).wf = true
  | [], _ => ⟨[], rfl, by simp⟩
  | x :: r, h => by
    obtain ⟨n, hn, hw⟩ := h x (.head _)
    obtain ⟨ns, h1, h2⟩ := ints_of (l := r) fun y hy => h y (.tail _ hy)
    simp only [List.cons.injEq, and_true] at hn
    subst hn
    exact ⟨n :: ns, by rw [h1]; rfl, fun m hm => by
      cases hm with
      | head => exact hw
      | tail _ hm => exact h2 m hm⟩

end VL
