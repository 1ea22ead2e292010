/- Part Xe of the proof: C28c C28d C29 C30 C31 C32 C33 CR1 CR2 CR3 CR4 CR5 CR6 CR7 CR8 CR9 CRA CRB CRC CRD. -/
import Derived.Test.YtdjbfmfkeokfaaaGreatXd
import Derived.Test.YtdjbfmfkeokfaaaGreatXc
import Derived.HandedShaped
import Derived.Shelf.Vars
set_option linter.unusedVariables false
set_option linter.unusedSimpArgs false
namespace C28c
open Go Go.Proofs VL D1 B10 B12 B13 C8 BB6 BB10 BB14 C1 C2 C3 C4 C6 C15 C20 C22 C23 C24 C25 C26 C27 C28
set_option maxRecDepth 100000
def CL (w : List Int) (f : FuncId) : Prop := ∀ (k : List C3.Tok) (i : Nat) (hk : endT (k.drop i)) (hl : okT k) (x : PS) (hx : x.p.resets.length + x.p.late.length + x.p.hol.length < 1000000) (K : Out → List VObj → Prop)
  (h0 : ∀ q r i' x', clauseS w x.p (k.drop i) = some (.ok q r) → k.drop i' = r → endT r → x'.p = q → x'.sn = x.sn → K (.ret (.tup [])) (xO true true true k i' x'))
  (h1 : ∀ p e i' x', clauseS w x.p (k.drop i) = some (.err p e) → K (.pan (fltP p e)) (xO false false false k i' x')),
  VCall Tryz.prog f [.ptr 0 0] (xO false false false k i x) K
theorem wkO {k : List C3.Tok} {i : Nat} {x : PS} : Weak 5 ⟨[.tup []], xO false false false k i x, 0, []⟩ ⟨[.tup []], xO true true true k i x, 0, []⟩ := by
  unfold xO
  exact weak_of (.cons (.eq rfl) .nil) (.cons (.eq rfl) (.cons .moved (.cons .moved (.cons .moved (.cons (.eq rfl) .nil))))) rfl rfl rfl
theorem cs_count {p l} : clauseS w_count p l = some ((pickS [w_thirty, w_fixed, w_actual] l).bind fun k r => .ok { p with count := k } r) := rfl
theorem cs_round {p l} : clauseS w_round p l = some ((pickS [w_half_up, w_down] l).bind fun k r => .ok { p with rnd := if k = 1 then 1 else 3 } r) := rfl
theorem cs_kind {p l} : clauseS w_kind p l = some ((pickS [w_annuity, w_equal, w_bullet] l).bind fun k r => .ok { p with kind := k } r) := rfl
theorem cs_every {p l} : clauseS w_every p l = some ((numberS l).bind fun k r => .ok { p with every := k } r) := rfl
theorem cs_times {p l} : clauseS w_times p l = some ((numberS l).bind fun k r => .ok { p with times := k } r) := rfl
theorem cs_grace {p l} : clauseS w_grace p l = some ((numberS l).bind fun k r => .ok { p with grace := k } r) := rfl
theorem cs_rate {p l} : clauseS w_rate p l = some ((takenS takeR l).bind fun k r => .ok { p with rate := k } r) := rfl
theorem cs_penalty {p l} : clauseS w_penalty p l = some ((takenS takeR l).bind fun k r => .ok { p with pen := k } r) := rfl
theorem cs_reset {p l} : clauseS w_reset p l = some ((numberS l).bind fun k r => (takenS takeR r).bind fun v r => .ok { p with resets := p.resets ++ [⟨k, v⟩] } r) := rfl
theorem cs_late {p l} : clauseS w_late p l = some ((numberS l).bind fun k r => (takenS takeM r).bind fun v r => .ok { p with late := p.late ++ [⟨k, v⟩] } r) := rfl
theorem cs_cap {p l} : clauseS w_cap p l = some ((takenS takeM l).bind fun k r => .ok { p with cap := k } r) := rfl
theorem cs_holiday {p l} : clauseS w_holiday p l = some ((takenS takeD l).bind fun k r => .ok { p with hol := p.hol ++ [k] } r) := rfl
theorem cs_order {p l} : clauseS w_order p l = some ((orderN 4 [] l).bind fun o r => .ok { p with o1 := o.getD 0 0, o2 := o.getD 1 0, o3 := o.getD 2 0, o4 := o.getD 3 0 } r) := rfl
theorem cs_over {p l} : clauseS w_over p l = some ((pickS [w_hold, w_prepay, w_refund] l).bind fun k r => .ok { p with over := k } r) := rfl
theorem cs_roll {p l} : clauseS w_roll p l = some ((pickS [w_stay, w_next, w_within, w_previous] l).bind fun k r => .ok { p with roll := k } r) := rfl
theorem CL_count : CL w_count 98 := by
  intro k i hk hl x hx K h0 h1
  exact VCall.weak (c_cl_count k i hk hl x _ (fun n r i' e hd he => ⟨_, _, wkO, h0 _ r i' _ (by rw [cs_count, e]; rfl) hd he rfl rfl⟩) (fun p e i' he => h1 p e i' _ (by rw [cs_count, he]; rfl)))
theorem CL_round : CL w_round 99 := by
  intro k i hk hl x hx K h0 h1
  exact VCall.weak (c_cl_round k i hk hl x _ (fun n r i' e hd he => ⟨_, _, wkO, h0 _ r i' _ (by rw [cs_round, e]; rfl) hd he rfl rfl⟩) (fun p e i' he => h1 p e i' _ (by rw [cs_round, he]; rfl)))
theorem CL_kind : CL w_kind 100 := by
  intro k i hk hl x hx K h0 h1
  exact VCall.weak (c_cl_kind k i hk hl x _ (fun n r i' e hd he => ⟨_, _, wkO, h0 _ r i' _ (by rw [cs_kind, e]; rfl) hd he rfl rfl⟩) (fun p e i' he => h1 p e i' _ (by rw [cs_kind, he]; rfl)))
theorem CL_every : CL w_every 101 := by
  intro k i hk hl x hx K h0 h1
  exact VCall.weak (c_cl_every k i hk hl x _ (fun n r i' e hd he => ⟨_, _, wkO, h0 _ r i' _ (by rw [cs_every, e]; rfl) hd he rfl rfl⟩) (fun p e i' he => h1 p e i' _ (by rw [cs_every, he]; rfl)))
theorem CL_times : CL w_times 102 := by
  intro k i hk hl x hx K h0 h1
  exact VCall.weak (c_cl_times k i hk hl x _ (fun n r i' e hd he => ⟨_, _, wkO, h0 _ r i' _ (by rw [cs_times, e]; rfl) hd he rfl rfl⟩) (fun p e i' he => h1 p e i' _ (by rw [cs_times, he]; rfl)))
theorem CL_grace : CL w_grace 103 := by
  intro k i hk hl x hx K h0 h1
  exact VCall.weak (c_cl_grace k i hk hl x _ (fun n r i' e hd he => ⟨_, _, wkO, h0 _ r i' _ (by rw [cs_grace, e]; rfl) hd he rfl rfl⟩) (fun p e i' he => h1 p e i' _ (by rw [cs_grace, he]; rfl)))
theorem CL_rate : CL w_rate 104 := by
  intro k i hk hl x hx K h0 h1
  exact VCall.weak (c_cl_rate k i hk hl x _ (fun n r i' e hd he => ⟨_, _, wkO, h0 _ r i' _ (by rw [cs_rate, e]; rfl) hd he rfl rfl⟩) (fun p e i' he => h1 p e i' _ (by rw [cs_rate, he]; rfl)))
theorem CL_penalty : CL w_penalty 105 := by
  intro k i hk hl x hx K h0 h1
  exact VCall.weak (c_cl_pen k i hk hl x _ (fun n r i' e hd he => ⟨_, _, wkO, h0 _ r i' _ (by rw [cs_penalty, e]; rfl) hd he rfl rfl⟩) (fun p e i' he => h1 p e i' _ (by rw [cs_penalty, he]; rfl)))
theorem CL_cap : CL w_cap 108 := by
  intro k i hk hl x hx K h0 h1
  exact VCall.weak (c_cl_cap k i hk hl x _ (fun n r i' e hd he => ⟨_, _, wkO, h0 _ r i' _ (by rw [cs_cap, e]; rfl) hd he rfl rfl⟩) (fun p e i' he => h1 p e i' _ (by rw [cs_cap, he]; rfl)))
theorem CL_over : CL w_over 111 := by
  intro k i hk hl x hx K h0 h1
  exact VCall.weak (c_cl_over k i hk hl x _ (fun n r i' e hd he => ⟨_, _, wkO, h0 _ r i' _ (by rw [cs_over, e]; rfl) hd he rfl rfl⟩) (fun p e i' he => h1 p e i' _ (by rw [cs_over, he]; rfl)))
theorem CL_roll : CL w_roll 112 := by
  intro k i hk hl x hx K h0 h1
  exact VCall.weak (c_cl_roll k i hk hl x _ (fun n r i' e hd he => ⟨_, _, wkO, h0 _ r i' _ (by rw [cs_roll, e]; rfl) hd he rfl rfl⟩) (fun p e i' he => h1 p e i' _ (by rw [cs_roll, he]; rfl)))
theorem CL_order : CL w_order 110 := by
  intro k i hk hl x hx K h0 h1
  refine VCall.weak (c_cl_order k i hk hl x _ (fun o r i' e hd he => ⟨_, _, wkO, h0 _ r i' _ (by rw [cs_order, e]; rfl) hd he ?_ rfl⟩) (fun p e i' x' he => h1 p e i' _ (by rw [cs_order, he]; rfl)))
  have hlen := orderN_len _ _ _ _ _ e
  rcases o with _ | ⟨a1, _ | ⟨a2, _ | ⟨a3, _ | ⟨a4, o⟩⟩⟩⟩
  all_goals first | (exfalso; revert hlen; simp; done) | rfl
theorem CL_reset : CL w_reset 106 := by
  intro k i hk hl x hx K h0 h1
  exact c_cl_reset k i hk hl x (by omega) _ (fun n v r r' i' s1 e e2 hd he => h0 _ r' i' _ (by rw [cs_reset, e]; show some ((takenS takeR r).bind _) = _; rw [e2]; rfl) hd he rfl rfl) (fun p e i' he => h1 p e i' _ (by rw [cs_reset, he]; rfl)) (fun n r p e i' he he2 => h1 p e i' _ (by rw [cs_reset, he]; show some ((takenS takeR r).bind _) = _; rw [he2]; rfl))
theorem CL_late : CL w_late 107 := by
  intro k i hk hl x hx K h0 h1
  exact c_cl_late k i hk hl x (by omega) _ (fun n v r r' i' s1 e e2 hd he => h0 _ r' i' _ (by rw [cs_late, e]; show some ((takenS takeM r).bind _) = _; rw [e2]; rfl) hd he rfl rfl) (fun p e i' he => h1 p e i' _ (by rw [cs_late, he]; rfl)) (fun n r p e i' he he2 => h1 p e i' _ (by rw [cs_late, he]; show some ((takenS takeM r).bind _) = _; rw [he2]; rfl))
theorem CL_holiday : CL w_holiday 109 := by
  intro k i hk hl x hx K h0 h1
  exact c_cl_hol k i hk hl x (by omega) _ (fun v r' i' s1 e hd he => h0 _ r' i' _ (by rw [cs_holiday, e]; rfl) hd he rfl rfl) (fun p e i' he => h1 p e i' _ (by rw [cs_holiday, he]; rfl))
theorem c_clauseA (w : List Int) (hw : ∀ x ∈ w, 0 ≤ x ∧ x < 256) (k : List C3.Tok) (i : Nat) (x : PS) (K : Out → List VObj → Prop)
    (h : ∀ f, CL w f → (∀ p l, ∃ y, clauseS w p l = some y) → K (.ret (.tup [.fn (.func f) [.ptr 0 0] [], .bool (manyW w)])) (xO false false false k i x))
    (h_none : (∀ p l, clauseS w p l = none) → K (.ret (.tup [.niln, .bool false])) (xO false false false k i x)) :
    VCall Tryz.prog 81 [.ptr 0 0, .str (toBA w)] (xO false false false k i x) K := by
  refine c_clause w hw k i x K ?_ ?_ ?_ ?_ ?_ ?_ ?_ ?_ ?_ ?_ ?_ ?_ ?_ ?_ ?_ ?_
  · rintro rfl
    exact h _ CL_count (fun p l => ⟨_, cs_count⟩)
  · rintro rfl
    exact h _ CL_round (fun p l => ⟨_, cs_round⟩)
  · rintro rfl
    exact h _ CL_kind (fun p l => ⟨_, cs_kind⟩)
  · rintro rfl
    exact h _ CL_every (fun p l => ⟨_, cs_every⟩)
  · rintro rfl
    exact h _ CL_times (fun p l => ⟨_, cs_times⟩)
  · rintro rfl
    exact h _ CL_grace (fun p l => ⟨_, cs_grace⟩)
  · rintro rfl
    exact h _ CL_rate (fun p l => ⟨_, cs_rate⟩)
  · rintro rfl
    exact h _ CL_penalty (fun p l => ⟨_, cs_penalty⟩)
  · rintro rfl
    exact h _ CL_reset (fun p l => ⟨_, cs_reset⟩)
  · rintro rfl
    exact h _ CL_late (fun p l => ⟨_, cs_late⟩)
  · rintro rfl
    exact h _ CL_cap (fun p l => ⟨_, cs_cap⟩)
  · rintro rfl
    exact h _ CL_holiday (fun p l => ⟨_, cs_holiday⟩)
  · rintro rfl
    exact h _ CL_order (fun p l => ⟨_, cs_order⟩)
  · rintro rfl
    exact h _ CL_over (fun p l => ⟨_, cs_over⟩)
  · rintro rfl
    exact h _ CL_roll (fun p l => ⟨_, cs_roll⟩)
  · intro n1 n2 n3 n4 n5 n6 n7 n8 n9 n10 n11 n12 n13 n14 n15
    exact h_none (fun p l => by unfold clauseS; simp only [n1, n2, n3, n4, n5, n6, n7, n8, n9, n10, n11, n12, n13, n14, n15, if_false])
end C28c

namespace C28d
open Go Go.Proofs VL D1 B10 B12 B13 BB4 BB5 BB6 BB10 BB14 C1 C2 C3 C4 C6 C19 C20 C22 C26 C28 C28b C28c
set_option maxRecDepth 100000
structure POk (p : Prod) : Prop where
  name : p.name.size < 1000000
  count : I64 p.count
  rnd : I64 p.rnd
  kind : I64 p.kind
  every : I64 p.every
  times : I64 p.times
  grace : I64 p.grace
  rate : I64 p.rate
  pen : I64 p.pen
  o1 : I64 p.o1
  o2 : I64 p.o2
  o3 : I64 p.o3
  o4 : I64 p.o4
  over : I64 p.over
  cap : I64 p.cap
  roll : I64 p.roll
  resets : ∀ x ∈ p.resets, I64 x.aft ∧ I64 x.rate
  late : ∀ x ∈ p.late, I64 x.days ∧ I64 x.fee
  hol : ∀ x ∈ p.hol, I64 x
theorem POk.full {p : Prod} (h : POk p) (h1 : p.resets.length < 1000000) (h2 : p.late.length < 1000000) (h3 : p.hol.length < 1000000) : p.ok :=
  ⟨h.name, h.count, h.rnd, h.kind, h.every, h.times, h.grace, h.rate, h.pen, h.o1, h.o2, h.o3, h.o4, h.over, h.cap, h.roll, h.resets, h.late, h.hol, h1, h2, h3⟩
theorem numS_I {l : List Int} {n : Int} (h : numS l = some n) : I64 n := by
  unfold numS at h
  split at h
  · rename_i hc
    injection h with h; subst h
    have h1 := vl_lt l hc.1
    have h2 : 10 ^ l.length ≤ 10 ^ 9 := Nat.pow_le_pow_right (by omega) hc.2.1
    unfold I64; omega
  · cases h
theorem numberS_I {l r : List C3.Tok} {n : Int} (h : numberS l = .ok n r) : I64 n := by
  obtain ⟨t, s, h1, h2⟩ := bind_ok h
  split at h2
  · rename_i n' hn
    injection h2 with a b
    subst a
    exact numS_I hn
  · cases h2
theorem takenS_I {f : List Int → Int × Int} (hf : ∀ l, (f l).2 = 0 → I64 (f l).1) {l r : List C3.Tok} {n : Int} (h : takenS f l = .ok n r) : I64 n := by
  obtain ⟨t, s, h1, h2⟩ := bind_ok h
  split at h2
  · rename_i hn
    injection h2 with a b
    subst a
    exact hf _ hn
  · cases h2
theorem takeR_I (l : List Int) : (takeR l).2 = 0 → I64 (takeR l).1 := by
  intro h
  unfold takeR at h ⊢
  split
  · rename_i hc
    have h1 := hc.2.2.1
    unfold I64
    simp only
    split <;> omega
  · simp only; unfold I64; omega
theorem takeM_I (l : List Int) : (takeM l).2 = 0 → I64 (takeM l).1 := by
  intro h
  unfold takeM at h ⊢
  split
  · simp only; unfold I64; omega
  · split
    · simp only; unfold I64; omega
    · split
      · simp only; unfold I64; omega
      · simp only; unfold I64; split <;> omega
theorem takeD_I (l : List Int) : (takeD l).2 = 0 → I64 (takeD l).1 := by
  intro h
  unfold takeD at h ⊢
  split
  · generalize vl ((l.take 4).drop 0) = y
    generalize vl ((l.take 7).drop 5) = m
    generalize vl ((l.take 10).drop 8) = d
    unfold numberD
    split
    · rename_i hd
      unfold DateP at hd
      have hml := mlen_le y m
      have hcm : cum y m ≤ 400 := by
        have := cum_mono (y := y) hd.2.1.1 hd.2.1.2
        have h12 := cum12 y
        split at h12 <;> omega
      simp only
      unfold I64 opens; omega
    · simp only; unfold I64; omega
  · simp only; unfold I64; omega
theorem pickS_I {ws : List (List Int)} (hw : ws.length < 1000) {l r : List C3.Tok} {n : Int} (h : pickS ws l = .ok n r) : I64 n := by
  have := C25.pick_range h
  unfold I64; omega
theorem orderN_I : ∀ (n : Nat) {a : List Int} {l r : List C3.Tok} {o : List Int}, (∀ x ∈ a, I64 x) → orderN n a l = .ok o r → ∀ x ∈ o, I64 x
  | 0, a, l, r, o, ha, h => by
    unfold orderN at h
    injection h with h1 h2
    subst h1; exact ha
  | n + 1, a, l, r, o, ha, h => by
    unfold orderN at h
    obtain ⟨t, s, h1, h2⟩ := bind_ok h
    have := pickS_I (by decide) h1
    split at h2
    · cases h2
    · exact orderN_I n (fun x hx => by
        rcases List.mem_append.1 hx with hx | hx
        · exact ha x hx
        · simp at hx; subst hx; exact this) h2
theorem getD_I {o : List Int} (h : ∀ x ∈ o, I64 x) (n : Nat) : I64 (o.getD n 0) := by
  rw [List.getD_eq_getElem?_getD]
  cases e : o[n]? with
  | none => simp; unfold I64; omega
  | some x => exact h x (List.mem_of_getElem? e)
theorem clauseS_I {w : List Int} {p q : Prod} {l r : List C3.Tok} {x : Res Prod} (hp : POk p) (hx : clauseS w p l = some x) (h : x = .ok q r) : POk q := by
  subst h
  unfold clauseS at hx
  rcases ite_or hx with hx | hx
  · injection hx with hx
    obtain ⟨a, s, h1, h2⟩ := bind_ok hx
    injection h2 with ha hb; subst ha hb
    exact { hp with count := pickS_I (by decide) h1 }
  rcases ite_or hx with hx | hx
  · injection hx with hx
    obtain ⟨a, s, h1, h2⟩ := bind_ok hx
    injection h2 with ha hb; subst ha hb
    exact { hp with rnd := (by simp only; split <;> (unfold I64; omega)) }
  rcases ite_or hx with hx | hx
  · injection hx with hx
    obtain ⟨a, s, h1, h2⟩ := bind_ok hx
    injection h2 with ha hb; subst ha hb
    exact { hp with kind := pickS_I (by decide) h1 }
  rcases ite_or hx with hx | hx
  · injection hx with hx
    obtain ⟨a, s, h1, h2⟩ := bind_ok hx
    injection h2 with ha hb; subst ha hb
    exact { hp with every := numberS_I h1 }
  rcases ite_or hx with hx | hx
  · injection hx with hx
    obtain ⟨a, s, h1, h2⟩ := bind_ok hx
    injection h2 with ha hb; subst ha hb
    exact { hp with times := numberS_I h1 }
  rcases ite_or hx with hx | hx
  · injection hx with hx
    obtain ⟨a, s, h1, h2⟩ := bind_ok hx
    injection h2 with ha hb; subst ha hb
    exact { hp with grace := numberS_I h1 }
  rcases ite_or hx with hx | hx
  · injection hx with hx
    obtain ⟨a, s, h1, h2⟩ := bind_ok hx
    injection h2 with ha hb; subst ha hb
    exact { hp with rate := takenS_I takeR_I h1 }
  rcases ite_or hx with hx | hx
  · injection hx with hx
    obtain ⟨a, s, h1, h2⟩ := bind_ok hx
    injection h2 with ha hb; subst ha hb
    exact { hp with pen := takenS_I takeR_I h1 }
  rcases ite_or hx with hx | hx
  · injection hx with hx
    obtain ⟨a, s, h1, h2⟩ := bind_ok hx
    obtain ⟨a2, s2, h3, h4⟩ := bind_ok h2
    injection h4 with ha hb; subst ha hb
    have hq : ∀ x ∈ p.resets ++ [⟨a, a2⟩], I64 x.aft ∧ I64 x.rate := by
      intro x hx
      rcases List.mem_append.1 hx with hx | hx
      · exact hp.resets x hx
      · simp at hx; subst hx; exact ⟨numberS_I h1, takenS_I takeR_I h3⟩
    exact { hp with resets := hq }
  rcases ite_or hx with hx | hx
  · injection hx with hx
    obtain ⟨a, s, h1, h2⟩ := bind_ok hx
    obtain ⟨a2, s2, h3, h4⟩ := bind_ok h2
    injection h4 with ha hb; subst ha hb
    have hq : ∀ x ∈ p.late ++ [⟨a, a2⟩], I64 x.days ∧ I64 x.fee := by
      intro x hx
      rcases List.mem_append.1 hx with hx | hx
      · exact hp.late x hx
      · simp at hx; subst hx; exact ⟨numberS_I h1, takenS_I takeM_I h3⟩
    exact { hp with late := hq }
  rcases ite_or hx with hx | hx
  · injection hx with hx
    obtain ⟨a, s, h1, h2⟩ := bind_ok hx
    injection h2 with ha hb; subst ha hb
    exact { hp with cap := takenS_I takeM_I h1 }
  rcases ite_or hx with hx | hx
  · injection hx with hx
    obtain ⟨a, s, h1, h2⟩ := bind_ok hx
    injection h2 with ha hb; subst ha hb
    have hq : ∀ x ∈ p.hol ++ [a], I64 x := by
      intro x hx
      rcases List.mem_append.1 hx with hx | hx
      · exact hp.hol x hx
      · simp at hx; subst hx; exact takenS_I takeD_I h1
    exact { hp with hol := hq }
  rcases ite_or hx with hx | hx
  · injection hx with hx
    obtain ⟨a, s, h1, h2⟩ := bind_ok hx
    injection h2 with ha hb; subst ha hb
    have hI := orderN_I 4 (by simp) h1
    exact { hp with o1 := getD_I hI 0, o2 := getD_I hI 1, o3 := getD_I hI 2, o4 := getD_I hI 3 }
  rcases ite_or hx with hx | hx
  · injection hx with hx
    obtain ⟨a, s, h1, h2⟩ := bind_ok hx
    injection h2 with ha hb; subst ha hb
    exact { hp with over := pickS_I (by decide) h1 }
  rcases ite_or hx with hx | hx
  · injection hx with hx
    obtain ⟨a, s, h1, h2⟩ := bind_ok hx
    injection h2 with ha hb; subst ha hb
    exact { hp with roll := pickS_I (by decide) h1 }
  cases hx
theorem groupS_I : ∀ (f : Nat) {d : Nat} {l : List C3.Tok} {p : Prod} {sn : List (List Int)} {q : Prod × List (List Int)} {r : List C3.Tok}, POk p → groupS f d l p sn = .ok q r → POk q.1
  | 0, d, l, p, sn, q, r, hp, h => by cases h
  | f + 1, d, l, p, sn, q, r, hp, h => by
    unfold groupS at h
    split at h
    · injection h with a b
      subst a; exact hp
    · split at h
      · split at h
        · cases h
        · obtain ⟨a, s, h1, h2⟩ := bind_ok h
          exact groupS_I f (groupS_I f hp h1) h2
      · split at h
        · cases h
        · split at h
          · cases h
          · rename_i x hx
            split at h
            · cases h
            · obtain ⟨a, s, h1, h2⟩ := bind_ok h
              obtain ⟨a2, s2, h3, h4⟩ := bind_ok h2
              exact groupS_I f (clauseS_I hp hx h1) h4
end C28d

namespace C29
open Go Go.Proofs VL D1 B10 B12 B13 C8 BB6 BB10 BB14 C1 C2 C3 C4 C6 C15 C20 C22 C23 C24 C25 C26 C27 C28 C28b C28c
set_option maxRecDepth 100000
theorem group_step {f d : Nat} {l : List C3.Tok} {p : Prod} {sn : List (List Int)} : groupS (f + 1) d l p sn =
    if (nextT l).1.kind = 3 ∧ (nextT l).1.text = [125] then .ok (p, sn) (nextT l).2
    else if (nextT l).1.kind = 3 ∧ (nextT l).1.text = [123] then
      if 32 ≤ d then .err (nextT l).1.at_ 8 else (groupS f (d + 1) (nextT l).2 p sn).bind fun q r => groupS f d r q.1 q.2
    else if (nextT l).1.kind ≠ 1 then .err (nextT l).1.at_ 7
    else match clauseS (nextT l).1.text p (nextT l).2 with
      | none => .err (nextT l).1.at_ 7
      | some x => if (nextT l).1.text ∈ sn ∧ manyW (nextT l).1.text = false then .err (nextT l).1.at_ 7
        else x.bind fun q r => (wantS 3 [59] r).bind fun _ r => groupS f d r q ((nextT l).1.text :: sn) := rfl
theorem next_lt {l : List C3.Tok} (h : endT l) (hk : (nextT l).1.kind ≠ 0) : (nextT l).2.length < l.length := by
  obtain ⟨_, t, r, hd, e1, e2⟩ := endT_next h
  rw [e1] at hk
  rcases e2 with ⟨e2, _⟩ | ⟨_, e2⟩
  · exact absurd e2 hk
  · rw [e2, hd]; simp
theorem SnR_plain (m : Nat) {e : List (V × V)} {sn : List (List Int)} (h : SnR e sn) : ∀ x ∈ e, plainKey (VL.sys Tryz.prog m []).P 9 x.1 = true := by
  obtain ⟨l, rfl, _⟩ := h
  intro x hx
  obtain ⟨p, _, rfl⟩ := List.mem_map.1 hx
  rfl
set_option maxHeartbeats 8000000 in
theorem c_group : ∀ (f : Nat) (d : Nat) (hd : d ≤ 32) (k : List C3.Tok) (i : Nat) (hk : endT (k.drop i)) (hl : okT k) (hf : (k.drop i).length < f) (x : PS) (sn : List (List Int)) (hsn : SnR x.sn sn) (hx : x.p.resets.length + x.p.late.length + x.p.hol.length + (k.drop i).length < 1000000) (K : Out → List VObj → Prop)
    (h0 : ∀ q r i' x', groupS f d (k.drop i) x.p sn = .ok q r → k.drop i' = r → endT r → x'.p = q.1 → SnR x'.sn q.2 → q.1.resets.length + q.1.late.length + q.1.hol.length + r.length < 1000000 → K (.ret (.tup [])) (xO true true true k i' x'))
    (h1 : ∀ p e i' x', groupS f d (k.drop i) x.p sn = .err p e → K (.pan (fltP p e)) (xO true true true k i' x')),
    VCall Tryz.prog 44 [.ptr 0 0, .int .i64 d] (xO false false false k i x) K := by
  intro f
  induction f using Nat.strongRecOn with
  | ind f ihf =>
  intro d hd k i hk hl hf x sn hsn hx K h0 h1
  let S : Nat × Nat × PS × List (List Int) → St := fun q => ⟨(.ptr 0 0 :: .int .i64 d :: .undef :: .undef :: .undef :: .undef :: .undef :: .undef :: .undef :: .undef :: .undef :: .undef :: .undef :: .undef :: .undef :: .undef :: .undef :: .undef :: .undef :: .undef :: .undef :: .undef :: .undef :: .undef :: .undef :: .undef :: .undef :: .undef :: .undef :: .undef :: .undef :: .undef :: .undef :: .undef :: .undef :: .undef :: .undef :: .undef :: .undef :: .undef :: .undef :: .undef :: .undef :: .undef :: .undef :: .undef :: .undef :: .undef :: .undef :: .undef :: .undef :: .undef :: .undef :: .undef :: .undef :: .undef :: .undef :: .undef :: .undef :: .undef :: .undef :: .undef :: .undef :: .undef :: .undef :: .undef :: .undef :: .undef :: .undef :: .undef :: .undef :: .undef :: .undef :: .undef :: .undef :: .undef :: .undef :: []), xO true true true k q.2.1 q.2.2.1, 0, []⟩
  have hnx := fun i hk x => @c_next k i hk hl.1 x
  have hwn := fun i hk x => @c_want k i hk hl x 3 [59] (by decide)
  unfold xO
  refine call_fun [] 5 Tryz.func44 (by rfl) (by rfl) ?_
  conv => whnf
  (repeat' first | (refine step_go [] ?_; conv => whnf) | (refine two (fun g => ?_) (fun g => ?_) <;> (try simp only [bsx] at g) <;> (conv => whnf)) | (refine And.intro rfl ?_; conv => whnf) | fail)
  refine VLoop.enter (s' := S (f, i, x, sn)) (weak_of ?_ (.cons (.eq rfl) (.cons .moved (.cons .moved (.cons .moved (.cons (.eq rfl) .nil))))) rfl rfl rfl)
    (VLoop.indW S (fun q => q.1) (fun q => q.1 ≤ f ∧ endT (k.drop q.2.1) ∧ (k.drop q.2.1).length < q.1 ∧ SnR q.2.2.1.sn q.2.2.2 ∧ q.2.2.1.p.resets.length + q.2.2.1.p.late.length + q.2.2.1.p.hol.length + (k.drop q.2.1).length < 1000000 ∧ groupS f d (k.drop i) x.p sn = groupS q.1 d (k.drop q.2.1) q.2.2.1.p q.2.2.2) ?_ (f, i, x, sn) ⟨Nat.le_refl _, hk, hf, hsn, hx, rfl⟩)
  · (repeat' first | exact VWs.nil | refine VWs.cons VW.undef ?_ | refine VWs.cons (VW.eq rfl) ?_ | refine VWs.cons (VW.eq (congrArg (V.int .i64) (by (try simp only); rw [wrap64 (by omega) (by omega)]; (try omega)))) ?_)
  rintro ⟨q, i1, x1, sn1⟩ ⟨hq, hk1, hf1, hsn1, hx1, he⟩ ih
  simp only at hq hk1 hf1 hsn1 hx1 he
  obtain ⟨q, rfl⟩ : ∃ q', q = q' + 1 := ⟨q - 1, by omega⟩
  obtain ⟨hen, _⟩ := endT_next hk1
  have hm := next_mem hk1
  have hlt := next_lt hk1
  rw [group_step] at he
  have hn1 := hnx i1 hk1 x1
  obtain ⟨t, ht⟩ : ∃ t, (nextT (k.drop i1)).1 = t := ⟨_, rfl⟩
  obtain ⟨l2, hl2⟩ : ∃ l, (nextT (k.drop i1)).2 = l := ⟨_, rfl⟩
  rw [ht, hl2] at he hn1
  rw [ht, hl2] at hlt
  rw [hl2] at hen
  rw [ht] at hm
  have hb := hl.2 t hm
  have e1 : (toBA t.text).toList = (⟨#[125]⟩ : ByteArray).toList ↔ t.text = [125] := toBA_eq hb.1 (b := [125]) (by decide)
  have e2 : (toBA t.text).toList = (⟨#[123]⟩ : ByteArray).toList ↔ t.text = [123] := toBA_eq hb.1 (b := [123]) (by decide)
  have hA : t.kind = 3 → t.text = [125] → groupS f d (k.drop i) x.p sn = .ok (x1.p, sn1) l2 := fun a b => by rw [he, if_pos ⟨a, b⟩]
  have hB : t.kind = 3 → t.text = [123] → 32 ≤ d → groupS f d (k.drop i) x.p sn = .err t.at_ 8 := fun a b c => by rw [he, if_neg (fun h => by rw [b] at h; exact absurd h.2 (by decide)), if_pos ⟨a, b⟩, if_pos c]
  have hC : t.kind = 3 → t.text = [123] → ¬ 32 ≤ d → groupS f d (k.drop i) x.p sn = (groupS q (d + 1) l2 x1.p sn1).bind fun q' r => groupS q d r q'.1 q'.2 := fun a b c => by rw [he, if_neg (fun h => by rw [b] at h; exact absurd h.2 (by decide)), if_pos ⟨a, b⟩, if_neg c]
  have hD : ¬ (t.kind = 3 ∧ t.text = [125]) → ¬ (t.kind = 3 ∧ t.text = [123]) → ¬ t.kind = 1 → groupS f d (k.drop i) x.p sn = .err t.at_ 7 := fun a b c => by rw [he, if_neg a, if_neg b, if_pos c]
  have hn3 : t.kind = 1 → ∀ w, ¬ (t.kind = 3 ∧ t.text = w) := fun a w h => by omega
  have hE : t.kind = 1 → clauseS t.text x1.p l2 = none → groupS f d (k.drop i) x.p sn = .err t.at_ 7 := fun a c => by rw [he, if_neg (hn3 a _), if_neg (hn3 a _), if_neg (fun h => h a), c]
  have hF : t.kind = 1 → ∀ y, clauseS t.text x1.p l2 = some y → (t.text ∈ sn1 ∧ manyW t.text = false) → groupS f d (k.drop i) x.p sn = .err t.at_ 7 := fun a y c e => by rw [he, if_neg (hn3 a _), if_neg (hn3 a _), if_neg (fun h => h a), c]; exact if_pos e
  have hG : t.kind = 1 → ∀ y, clauseS t.text x1.p l2 = some y → ¬ (t.text ∈ sn1 ∧ manyW t.text = false) → groupS f d (k.drop i) x.p sn = y.bind fun q' r => (wantS 3 [59] r).bind fun _ r => groupS q d r q' (t.text :: sn1) := fun a y c e => by rw [he, if_neg (hn3 a _), if_neg (hn3 a _), if_neg (fun h => h a), c]; exact if_neg e
  clear he
  have hfind := SnR_find hsn1 hb.1
  have hupd := SnR_upd hsn1 hb.1
  dsimp only [S]
  refine loop_round [] ?_; conv => whnf
  (repeat' first | (refine step_go [] ?_; conv => whnf) | (refine two (fun g => ?_) (fun g => ?_) <;> (try simp only [bsx] at g) <;> (conv => whnf)) | (refine And.intro rfl ?_; conv => whnf) | fail)
  refine hn1 _ (fun i2 hi2 => ?_)
  conv => whnf
  (repeat' first | (refine step_go [] ?_; conv => whnf) | (refine two (fun g => ?_) (fun g => ?_) <;> (try simp only [bsx, e1, e2] at g) <;> (conv => whnf)) | (refine And.intro rfl ?_; conv => whnf) | (refine c_wrong t _ ?_; conv => whnf) | fail)
  all_goals first
    | (exfalso; omega)
    | exact h1 _ 8 i2 x1 (hB (by assumption) (by assumption) (by omega))
    | exact h1 _ 7 i2 x1 (hD (by rintro ⟨a, b⟩; contradiction) (by rintro ⟨a, b⟩; contradiction) (by assumption))
    | skip
  · refine ⟨_, Weak.refl, ?_⟩
    conv => whnf
    (repeat' first | (refine step_go [] ?_; conv => whnf) | (refine two (fun g => ?_) (fun g => ?_) <;> (try simp only [bsx] at g) <;> (conv => whnf)) | (refine And.intro rfl ?_; conv => whnf) | fail)
    have hz := hlt (by omega)
    refine h0 _ _ i2 x1 (hA (by assumption) (by assumption)) hi2 hen rfl hsn1 ?_
    simp only; omega
  all_goals have hll := hlt (by omega)
  · rename_i g1 g2 g3
    have hd31 : ¬ 32 ≤ d := by omega
    rw [show IntKind.i64.wrap ((d : Int) + 1) = ((d + 1 : Nat) : Int) by rw [wrap64 (by omega) (by omega)]; omega]
    refine ihf q (by omega) (d + 1) (by omega) k i2 (by rw [hi2]; exact hen) hl (by rw [hi2]; omega) x1 sn1 hsn1 (by rw [hi2]; omega) _ (fun q' r i3 x3 e hd3 he3 hp3 hs3 hz3 => ?_) (fun p e i3 x3 he3 => ?_)
    · rw [hi2] at e
      have hle := groupS_le _ e
      have hinv : q ≤ f ∧ endT (k.drop i3) ∧ (k.drop i3).length < q ∧ SnR x3.sn q'.2 ∧ x3.p.resets.length + x3.p.late.length + x3.p.hol.length + (k.drop i3).length < 1000000 ∧ groupS f d (k.drop i) x.p sn = groupS q d (k.drop i3) x3.p q'.2 := by
        rw [hd3, hp3]
        refine ⟨by omega, he3, by omega, hs3, hz3, ?_⟩
        rw [hC (by assumption) (by assumption) hd31, e]; rfl
      conv => whnf
      (repeat' first | (refine step_go [] ?_; conv => whnf) | (refine two (fun g => ?_) (fun g => ?_) <;> (try simp only [bsx] at g) <;> (conv => whnf)) | (refine And.intro rfl ?_; conv => whnf) | fail)
      refine weak_sel (src := [0, 1, 2, 3, 4]) ?_; conv => whnf
      refine VLoop.enter (s' := S (q, i3, x3, q'.2)) (weak_of ?_ (.cons (.eq rfl) (.cons (.eq rfl) (.cons (.eq rfl) (.cons (.eq rfl) (.cons (.eq rfl) .nil))))) rfl rfl rfl) (ih (q, i3, x3, q'.2) hinv (by simp only; omega))
      (repeat' first | exact VWs.nil | refine VWs.cons VW.undef ?_ | refine VWs.cons (VW.eq rfl) ?_ | refine VWs.cons (VW.eq (congrArg (V.int .i64) (by (try simp only); rw [wrap64 (by omega) (by omega)]; (try omega)))) ?_)
    · rw [hi2] at he3
      have hp := h1 p e i3 x3 (by rw [hC (by assumption) (by assumption) hd31, he3]; rfl)
      conv => whnf
      (repeat' first | (refine step_go [] ?_; conv => whnf) | (refine two (fun g => ?_) (fun g => ?_) <;> (try simp only [bsx] at g) <;> (conv => whnf)) | (refine And.intro rfl ?_; conv => whnf) | fail)
      exact hp
  all_goals
    have hk1 : t.kind = 1 := by assumption
    refine c_clauseA t.text hb.1 k i2 x1 _ (fun fn hcl hex => ?_) (fun hnone => ?_)
    rotate_left
    · have hp := h1 t.at_ 7 i2 x1 (hE hk1 (hnone _ _))
      conv => whnf
      (repeat' first | (refine step_go [] ?_; conv => whnf) | (refine two (fun g => ?_) (fun g => ?_) <;> (try simp only [bsx] at g) <;> (conv => whnf)) | (refine And.intro rfl ?_; conv => whnf) | (refine dr_go (by decide +kernel) ?_; conv => whnf) | (refine c_wrong t _ ?_; conv => whnf) | fail)
      first
        | exact hp
        | done
    obtain ⟨y, hy⟩ := hex x1.p l2
    have hpl := SnR_plain 5 hsn1
    by_cases hs : t.text ∈ sn1
    all_goals first | rw [if_pos hs] at hfind | rw [if_neg hs] at hfind
    all_goals
      conv => whnf
      (repeat' first | (refine step_go [] ?_; conv => whnf) | (refine two (fun g => ?_) (fun g => ?_) <;> (try simp only [bsx] at g) <;> (conv => whnf)) | (refine And.intro rfl ?_; conv => whnf) | (refine dr_go (by decide +kernel) ?_; conv => whnf) | (refine c_wrong t _ ?_; conv => whnf) | (refine ⟨hpl, _, hfind, ?_⟩; conv => whnf) | fail)
      all_goals first
        | exact h1 _ 7 i2 x1 (hF hk1 y hy ⟨hs, by assumption⟩)
        | skip
    all_goals
      have hnot : ¬ (t.text ∈ sn1 ∧ manyW t.text = false) := by
        rintro ⟨a, b⟩
        first | exact hs a | exact Bool.noConfusion (b.symm.trans (show manyW t.text = true by assumption))
      refine ⟨hpl, ?_⟩
      conv => whnf
      (repeat' first | (refine step_go [] ?_; conv => whnf) | (refine two (fun g => ?_) (fun g => ?_) <;> (try simp only [bsx] at g) <;> (conv => whnf)) | (refine And.intro rfl ?_; conv => whnf) | (refine dr_go (by decide +kernel) ?_; conv => whnf) | fail)
      refine hcl k i2 (by rw [hi2]; exact hen) hl { x1 with sn := updV (.str (toBA t.text)) (.bool true) x1.sn } (by simp only; omega) _ (fun q' r i3 x3 e hd3 he3 hp3 hs3 => ?_) (fun p e i3 x3 he3 => ?_)
      rotate_left
      · rw [hi2] at he3
        have hp := h1 p e i3 x3 (by rw [hG hk1 _ he3 hnot]; rfl)
        conv => whnf
        (repeat' first | (refine step_go [] ?_; conv => whnf) | (refine two (fun g => ?_) (fun g => ?_) <;> (try simp only [bsx] at g) <;> (conv => whnf)) | (refine And.intro rfl ?_; conv => whnf) | fail)
        exact hp
      rw [hi2] at e
      have hle := clauseS_le e rfl
      simp only at hle
      have hq := hG hk1 _ e hnot
      have hq : groupS f d (k.drop i) x.p sn = (wantS 3 [59] r).bind fun _ r => groupS q d r q' (t.text :: sn1) := hq
      conv => whnf
      (repeat' first | (refine step_go [] ?_; conv => whnf) | (refine two (fun g => ?_) (fun g => ?_) <;> (try simp only [bsx] at g) <;> (conv => whnf)) | (refine And.intro rfl ?_; conv => whnf) | fail)
      refine hwn i3 (by rw [hd3]; exact he3) x3 _ (fun t4 r4 i4 e4 hd4 he4 hm4 => ?_) (fun p e i4 he4 => ?_)
      rotate_left
      · rw [hd3] at he4
        have hp := h1 p e i4 x3 (by rw [hq, he4]; rfl)
        conv => whnf
        (repeat' first | (refine step_go [] ?_; conv => whnf) | (refine two (fun g => ?_) (fun g => ?_) <;> (try simp only [bsx] at g) <;> (conv => whnf)) | (refine And.intro rfl ?_; conv => whnf) | fail)
        exact hp
      rw [hd3] at e4
      have hle4 := wantS_le e4
      have hinv : q ≤ f ∧ endT (k.drop i4) ∧ (k.drop i4).length < q ∧ SnR x3.sn (t.text :: sn1) ∧ x3.p.resets.length + x3.p.late.length + x3.p.hol.length + (k.drop i4).length < 1000000 ∧ groupS f d (k.drop i) x.p sn = groupS q d (k.drop i4) x3.p (t.text :: sn1) := by
        rw [hd4, hp3, hs3]
        refine ⟨by omega, he4, by omega, hupd, by omega, ?_⟩
        rw [hq, e4]; rfl
      conv => whnf
      (repeat' first | (refine step_go [] ?_; conv => whnf) | (refine two (fun g => ?_) (fun g => ?_) <;> (try simp only [bsx] at g) <;> (conv => whnf)) | (refine And.intro rfl ?_; conv => whnf) | fail)
      refine weak_sel (src := [0, 1, 2, 3, 4]) ?_; conv => whnf
      refine VLoop.enter (s' := S (q, i4, x3, t.text :: sn1)) (weak_of ?_ (.cons (.eq rfl) (.cons (.eq rfl) (.cons (.eq rfl) (.cons (.eq rfl) (.cons (.eq rfl) .nil))))) rfl rfl rfl) (ih (q, i4, x3, t.text :: sn1) hinv (by simp only; omega))
      (repeat' first | exact VWs.nil | refine VWs.cons VW.undef ?_ | refine VWs.cons (VW.eq rfl) ?_ | refine VWs.cons (VW.eq (congrArg (V.int .i64) (by (try simp only); rw [wrap64 (by omega) (by omega)]; (try omega)))) ?_)
end C29

namespace C30
open Go Go.Proofs VL D1 B10 C1 C2 C3 C4 C6 C22
set_option maxRecDepth 100000
theorem lexF_props : ∀ (f : Nat) (l : List Int) (i : Nat) (k : List C3.Tok), lexF f l i = .ok k → endT k ∧ (∀ t ∈ k, (∀ x ∈ t.text, x ∈ l) ∧ t.text.length ≤ l.length ∧ (t.kind ≠ 0 → t.text ≠ []) ∧ t.at_ ≤ i + l.length) ∧ k.length ≤ l.length + 1
  | 0, l, i, k, h => by cases h
  | f + 1, l, i, k, h => by
    have hs := skipN_le false l
    unfold lexF at h
    split at h
    · injection h with h; subst h
      refine ⟨rfl, ?_, by simp⟩
      intro t ht
      rw [List.mem_singleton] at ht; subst ht
      refine ⟨by simp, by simp, fun h => absurd rfl h, ?_⟩
      show i + skipN false l ≤ _
      omega
    · rename_i c r hd
      split at h
      · cases h
      · rename_i kd hk
        have hlen := congrArg List.length hd
        rw [List.length_drop, List.length_cons] at hlen
        have htw := congrArg List.length (List.takeWhile_append_dropWhile (p := goesB kd) (l := r)); rw [List.length_append] at htw
        have hk0 : kd ≠ 0 := by
          unfold kindS at hk
          repeat' split at hk
          all_goals first | (injection hk with hk; omega) | cases hk
        have hsub : ∀ x, x ∈ c :: r → x ∈ l := fun x hx => List.mem_of_mem_drop (by rw [hd]; exact hx)
        cases h2 : lexF f (r.dropWhile (goesB kd)) (i + skipN false l + 1 + (r.takeWhile (goesB kd)).length) with
        | bad p => rw [h2] at h; cases h
        | ok k2 =>
          rw [h2] at h
          injection h with h; subst h
          obtain ⟨a1, a2, a3⟩ := lexF_props f _ _ k2 h2
          refine ⟨?_, ?_, by rw [List.length_cons]; omega⟩
          · cases k2 with
            | nil => exact a1.elim
            | cons t r => exact ⟨hk0, a1⟩
          · intro t ht
            rcases List.mem_cons.1 ht with rfl | ht
            · refine ⟨fun x hx => hsub x ?_, ?_, fun _ => by simp, ?_⟩
              · rcases List.mem_cons.1 hx with rfl | hx
                · exact .head _
                · exact .tail _ ((List.takeWhile_sublist _).subset hx)
              · show (c :: r.takeWhile (goesB kd)).length ≤ _
                rw [List.length_cons]; omega
              · show i + skipN false l ≤ _
                omega
            · obtain ⟨b1, b2, b3, b4⟩ := a2 t ht
              exact ⟨fun x hx => hsub x (.tail _ ((List.dropWhile_sublist _).subset (b1 x hx))), by omega, b3, by omega⟩
theorem lexS_props {l : List Int} {k : List C3.Tok} (h : lexS l = .ok k) (hb : ∀ x ∈ l, 0 ≤ x ∧ x < 256) : endT k ∧ okT k ∧ (∀ t ∈ k, t.kind ≠ 0 → t.text ≠ []) ∧ (∀ t ∈ k, t.at_ ≤ l.length) ∧ l.length ≤ 20000 ∧ k.length ≤ l.length + 1 := by
  unfold lexS at h
  split at h
  · cases h
  · rename_i hn
    split at h
    · rename_i t ht
      injection h with h; subst h
      obtain ⟨a1, a2, a3⟩ := lexF_props _ _ _ _ ht
      refine ⟨a1, ⟨by omega, fun t ht => ⟨fun x hx => hb x ((a2 t ht).1 x hx), ?_⟩⟩, fun t ht => (a2 t ht).2.2.1, fun t ht => ?_, by omega, a3⟩
      · have := (a2 t ht).2.1; omega
      · have := (a2 t ht).2.2.2; omega
    · cases h
theorem lexS_err {l : List Int} {p : Nat} {e : Int} (h : lexS l = .error (p, e)) : (e = 3 ∧ p = 0) ∨ e = 6 := by
  unfold lexS at h
  split at h
  · injection h with h; injection h with h1 h2; exact .inl ⟨h2.symm, h1.symm⟩
  · split at h
    · cases h
    · injection h with h; injection h with h1 h2; exact .inr h2.symm
end C30

namespace C31
open Go Go.Proofs VL D1 B10 B12 B13 C8 BB6 BB10 BB14 C1 C2 C3 C4 C6 C11 C15 C20 C22 C23 C24 C25 C26 C27 C28 C28b C28c C28d C29 C30
set_option maxRecDepth 100000
set_option maxHeartbeats 8000000 in
theorem c_text (k : List C3.Tok) (i : Nat) (hk : endT (k.drop i)) (hl : okT k) (x : PS) (hsn : x.sn = []) (hp : x.p = { prod0 with over := 1, roll := 1 }) (K : Out → List VObj → Prop)
    (h0 : ∀ q r i' x', textP (k.drop i) = .ok q r → x'.p = q.1 → SnR x'.sn q.2 → q.1.resets.length + q.1.late.length + q.1.hol.length < 1000000 → K (.ret (.tup [])) (xO true true true k i' x'))
    (h1 : ∀ p e i' x', textP (k.drop i) = .err p e → K (.pan (fltP p e)) (xO true true true k i' x') ∧ K (.pan (fltP p e)) (xO false false false k i' x')) :
    VCall Tryz.prog 19 [.ptr 0 0] (xO false false false k i x) K := by
  have hw1 := @c_want k i hk hl x 1 w_product (by decide)
  unfold xO at hw1 ⊢
  refine call_fun [] 5 Tryz.func19 (by rfl) (by rfl) ?_
  conv => whnf
  (repeat' first | (refine step_go [] ?_; conv => whnf) | (refine two (fun g => ?_) (fun g => ?_) <;> (try simp only [bsx] at g) <;> (conv => whnf)) | (refine And.intro rfl ?_; conv => whnf) | fail)
  refine hw1 _ (fun t1 r1 i1 e1 hd1 he1 hm1 => ?_) (fun p e i1 he => ?_)
  rotate_left
  · have hp := (h1 p e i1 x (by unfold textP; rw [he]; rfl)).2
    conv => whnf
    (repeat' first | (refine step_go [] ?_; conv => whnf) | (refine two (fun g => ?_) (fun g => ?_) <;> (try simp only [bsx] at g) <;> (conv => whnf)) | (refine And.intro rfl ?_; conv => whnf) | fail)
    exact hp
  have hw2 := @c_want k i1 (by rw [hd1]; exact he1) hl x 1 [] (by decide)
  rw [hd1] at hw2
  unfold xO at hw2
  have ht1 : textP (k.drop i) = (wantS 1 [] r1).bind fun t l =>
    open Classical in if nameP t.text then (wantS 3 [123] l).bind fun _ l => (groupS (l.length + 1) 1 l { prod0 with name := toBA t.text, over := 1, roll := 1 } []).bind fun q l => (wantS 0 [] l).bind fun _ l => .ok q l
    else .err t.at_ 7 := by unfold textP; rw [e1]; rfl
  conv => whnf
  (repeat' first | (refine step_go [] ?_; conv => whnf) | (refine two (fun g => ?_) (fun g => ?_) <;> (try simp only [bsx] at g) <;> (conv => whnf)) | (refine And.intro rfl ?_; conv => whnf) | fail)
  refine hw2 _ (fun t2 r2 i2 e2 hd2 he2 hm2 => ?_) (fun p e i2 he => ?_)
  rotate_left
  · have hp := (h1 p e i2 x (by rw [ht1, he]; rfl)).2
    conv => whnf
    (repeat' first | (refine step_go [] ?_; conv => whnf) | (refine two (fun g => ?_) (fun g => ?_) <;> (try simp only [bsx] at g) <;> (conv => whnf)) | (refine And.intro rfl ?_; conv => whnf) | fail)
    exact hp
  have hb := hl.2 t2 hm2
  have ht2 : textP (k.drop i) = open Classical in if nameP t2.text then (wantS 3 [123] r2).bind fun _ l => (groupS (l.length + 1) 1 l { prod0 with name := toBA t2.text, over := 1, roll := 1 } []).bind fun q l => (wantS 0 [] l).bind fun _ l => .ok q l
    else .err t2.at_ 7 := by rw [ht1, e2]; rfl
  conv => whnf
  (repeat' first | (refine step_go [] ?_; conv => whnf) | (refine two (fun g => ?_) (fun g => ?_) <;> (try simp only [bsx] at g) <;> (conv => whnf)) | (refine And.intro rfl ?_; conv => whnf) | fail)
  refine c_Name (toBA t2.text) (by rw [toBA_size]; exact hb.2) _ ?_
  rw [sB_toBA hb.1]
  obtain ⟨b, hbn⟩ : ∃ b, nameB t2.text = b := ⟨_, rfl⟩
  rw [hbn]
  cases b with
  | false =>
    have hno : ¬ nameP t2.text := fun h => by rw [(nameB_iff _).2 h] at hbn; cases hbn
    rw [if_neg hno] at ht2
    have hp := (h1 _ _ i2 x ht2).2
    conv => whnf
    (repeat' first | (refine step_go [] ?_; conv => whnf) | (refine two (fun g => ?_) (fun g => ?_) <;> (try simp only [bsx] at g) <;> (conv => whnf)) | (refine And.intro rfl ?_; conv => whnf) | (refine c_wrong t2 _ ?_; conv => whnf) | fail)
    exact hp
  | true =>
  have hyes : nameP t2.text := (nameB_iff _).1 hbn
  rw [if_pos hyes] at ht2
  obtain ⟨x2, hx2⟩ : ∃ x2, x2 = { x with p := { x.p with name := toBA t2.text } } := ⟨_, rfl⟩
  have hp2 : x2.p = { prod0 with name := toBA t2.text, over := 1, roll := 1 } := by rw [hx2]; simp only; rw [hp]
  have hs2 : SnR x2.sn [] := by rw [hx2]; simp only; rw [hsn]; exact SnR_nil
  have hw3 := @c_want k i2 (by rw [hd2]; exact he2) hl x2 3 [123] (by decide)
  rw [hd2] at hw3
  rw [hx2] at hw3
  unfold xO at hw3
  conv => whnf
  (repeat' first | (refine step_go [] ?_; conv => whnf) | (refine two (fun g => ?_) (fun g => ?_) <;> (try simp only [bsx] at g) <;> (conv => whnf)) | (refine And.intro rfl ?_; conv => whnf) | fail)
  refine hw3 _ (fun t3 r3 i3 e3 hd3 he3 hm3 => ?_) (fun p e i3 he => ?_)
  rotate_left
  · have hp := (h1 p e i3 x2 (by rw [ht2, he]; rfl)).2
    rw [hx2] at hp
    conv => whnf
    (repeat' first | (refine step_go [] ?_; conv => whnf) | (refine two (fun g => ?_) (fun g => ?_) <;> (try simp only [bsx] at g) <;> (conv => whnf)) | (refine And.intro rfl ?_; conv => whnf) | fail)
    exact hp
  have ht3 : textP (k.drop i) = (groupS (r3.length + 1) 1 r3 { prod0 with name := toBA t2.text, over := 1, roll := 1 } []).bind fun q l => (wantS 0 [] l).bind fun _ l => .ok q l := by rw [ht2, e3]; rfl
  have hk3 : (k.drop i3).length ≤ k.length := by rw [List.length_drop]; omega
  have hkl := hl.1
  have hgr := @c_group (r3.length + 1) 1 (by decide) k i3 (by rw [hd3]; exact he3) hl (by rw [hd3]; omega) x2 [] hs2 (by rw [hp2]; show 0 + 0 + 0 + _ < _; omega)
  rw [hd3] at hgr
  rw [hp2] at hgr
  have hgr2 := hgr
  rw [hx2] at hgr
  unfold xO at hgr
  conv => whnf
  (repeat' first | (refine step_go [] ?_; conv => whnf) | (refine two (fun g => ?_) (fun g => ?_) <;> (try simp only [bsx] at g) <;> (conv => whnf)) | (refine And.intro rfl ?_; conv => whnf) | fail)
  refine hgr _ (fun q r i4 x4 e4 hd4 he4 hp4 hs4 hz4 => ?_) (fun p e i4 x4 he => ?_)
  rotate_left
  · have hp := (h1 p e i4 x4 (by rw [ht3, he]; rfl)).1
    conv => whnf
    (repeat' first | (refine step_go [] ?_; conv => whnf) | (refine two (fun g => ?_) (fun g => ?_) <;> (try simp only [bsx] at g) <;> (conv => whnf)) | (refine And.intro rfl ?_; conv => whnf) | fail)
    exact hp
  have ht4 : textP (k.drop i) = (wantS 0 [] r).bind fun _ l => .ok q l := by rw [ht3, e4]; rfl
  have hw5 := @c_want k i4 (by rw [hd4]; exact he4) hl x4 0 [] (by decide)
  rw [hd4] at hw5
  unfold xO at hw5
  conv => whnf
  (repeat' first | (refine step_go [] ?_; conv => whnf) | (refine two (fun g => ?_) (fun g => ?_) <;> (try simp only [bsx] at g) <;> (conv => whnf)) | (refine And.intro rfl ?_; conv => whnf) | fail)
  refine hw5 _ (fun t5 r5 i5 e5 hd5 he5 hm5 => ?_) (fun p e i5 he => ?_)
  rotate_left
  · have hp := (h1 p e i5 x4 (by rw [ht4, he]; rfl)).1
    conv => whnf
    (repeat' first | (refine step_go [] ?_; conv => whnf) | (refine two (fun g => ?_) (fun g => ?_) <;> (try simp only [bsx] at g) <;> (conv => whnf)) | (refine And.intro rfl ?_; conv => whnf) | fail)
    exact hp
  have hf := h0 q r5 i5 x4 (by rw [ht4, e5]; rfl) hp4 hs4 (by omega)
  conv => whnf
  (repeat' first | (refine step_go [] ?_; conv => whnf) | (refine two (fun g => ?_) (fun g => ?_) <;> (try simp only [bsx] at g) <;> (conv => whnf)) | (refine And.intro rfl ?_; conv => whnf) | fail)
  exact hf
end C31

namespace C32
open Go Go.Proofs VL D1 B10 B12 B13 C8 BB6 BB10 BB14 C1 C2 C3 C4 C6 C11 C15 C20 C22 C23 C24 C25 C26 C27 C28 C28b C28c C28d C29 C30 C31
set_option maxRecDepth 100000
set_option maxHeartbeats 8000000 in
theorem c_whole (k : List C3.Tok) (i : Nat) (x : PS) (sn : List (List Int)) (hsn : SnR x.sn sn) (K : Out → List VObj → Prop)
    (h1 : wholeP sn → K (.ret (.bool true)) (xO false false false k i x)) (h0 : ¬ wholeP sn → K (.ret (.bool false)) (xO false false false k i x)) :
    VCall Tryz.prog 20 [.ptr 0 0] (xO false false false k i x) K := by
  have hpl := SnR_plain 5 hsn
  have f_count := SnR_find hsn (w := w_count) (by unfold Byt; decide)
  have f_round := SnR_find hsn (w := w_round) (by unfold Byt; decide)
  have f_kind := SnR_find hsn (w := w_kind) (by unfold Byt; decide)
  have f_every := SnR_find hsn (w := w_every) (by unfold Byt; decide)
  have f_times := SnR_find hsn (w := w_times) (by unfold Byt; decide)
  have f_rate := SnR_find hsn (w := w_rate) (by unfold Byt; decide)
  have f_order := SnR_find hsn (w := w_order) (by unfold Byt; decide)
  unfold xO at h0 h1 ⊢
  refine call_fun [] 5 Tryz.func20 (by rfl) (by rfl) ?_
  conv => whnf
  (repeat' first | (refine step_go [] ?_; conv => whnf) | (refine two (fun g => ?_) (fun g => ?_) <;> (try simp only [bsx] at g) <;> (conv => whnf)) | (refine And.intro rfl ?_; conv => whnf) | (refine loop_round [] ?_; conv => whnf) | (refine ⟨by decide, _, rfl, rfl, ?_⟩; conv => whnf) | (refine ⟨_, Weak.refl, ?_⟩; conv => whnf) | fail)
  by_cases c_count : w_count ∈ sn
  rotate_left
  · rw [if_neg c_count] at f_count
    refine ⟨hpl, _, f_count, ?_⟩
    conv => whnf
    (repeat' first | (refine step_go [] ?_; conv => whnf) | (refine two (fun g => ?_) (fun g => ?_) <;> (try simp only [bsx] at g) <;> (conv => whnf)) | (refine And.intro rfl ?_; conv => whnf) | (refine ⟨_, Weak.refl, ?_⟩; conv => whnf) | fail)
    exact h0 fun h => c_count h.1
  rw [if_pos c_count] at f_count
  refine ⟨hpl, _, f_count, ?_⟩
  conv => whnf
  (repeat' first | (refine step_go [] ?_; conv => whnf) | (refine two (fun g => ?_) (fun g => ?_) <;> (try simp only [bsx] at g) <;> (conv => whnf)) | (refine And.intro rfl ?_; conv => whnf) | (refine loop_round [] ?_; conv => whnf) | (refine ⟨by decide, _, rfl, rfl, ?_⟩; conv => whnf) | (refine ⟨_, Weak.refl, ?_⟩; conv => whnf) | fail)
  by_cases c_round : w_round ∈ sn
  rotate_left
  · rw [if_neg c_round] at f_round
    refine ⟨hpl, _, f_round, ?_⟩
    conv => whnf
    (repeat' first | (refine step_go [] ?_; conv => whnf) | (refine two (fun g => ?_) (fun g => ?_) <;> (try simp only [bsx] at g) <;> (conv => whnf)) | (refine And.intro rfl ?_; conv => whnf) | (refine ⟨_, Weak.refl, ?_⟩; conv => whnf) | fail)
    exact h0 fun h => c_round h.2.1
  rw [if_pos c_round] at f_round
  refine ⟨hpl, _, f_round, ?_⟩
  conv => whnf
  (repeat' first | (refine step_go [] ?_; conv => whnf) | (refine two (fun g => ?_) (fun g => ?_) <;> (try simp only [bsx] at g) <;> (conv => whnf)) | (refine And.intro rfl ?_; conv => whnf) | (refine loop_round [] ?_; conv => whnf) | (refine ⟨by decide, _, rfl, rfl, ?_⟩; conv => whnf) | (refine ⟨_, Weak.refl, ?_⟩; conv => whnf) | fail)
  by_cases c_kind : w_kind ∈ sn
  rotate_left
  · rw [if_neg c_kind] at f_kind
    refine ⟨hpl, _, f_kind, ?_⟩
    conv => whnf
    (repeat' first | (refine step_go [] ?_; conv => whnf) | (refine two (fun g => ?_) (fun g => ?_) <;> (try simp only [bsx] at g) <;> (conv => whnf)) | (refine And.intro rfl ?_; conv => whnf) | (refine ⟨_, Weak.refl, ?_⟩; conv => whnf) | fail)
    exact h0 fun h => c_kind h.2.2.1
  rw [if_pos c_kind] at f_kind
  refine ⟨hpl, _, f_kind, ?_⟩
  conv => whnf
  (repeat' first | (refine step_go [] ?_; conv => whnf) | (refine two (fun g => ?_) (fun g => ?_) <;> (try simp only [bsx] at g) <;> (conv => whnf)) | (refine And.intro rfl ?_; conv => whnf) | (refine loop_round [] ?_; conv => whnf) | (refine ⟨by decide, _, rfl, rfl, ?_⟩; conv => whnf) | (refine ⟨_, Weak.refl, ?_⟩; conv => whnf) | fail)
  by_cases c_every : w_every ∈ sn
  rotate_left
  · rw [if_neg c_every] at f_every
    refine ⟨hpl, _, f_every, ?_⟩
    conv => whnf
    (repeat' first | (refine step_go [] ?_; conv => whnf) | (refine two (fun g => ?_) (fun g => ?_) <;> (try simp only [bsx] at g) <;> (conv => whnf)) | (refine And.intro rfl ?_; conv => whnf) | (refine ⟨_, Weak.refl, ?_⟩; conv => whnf) | fail)
    exact h0 fun h => c_every h.2.2.2.1
  rw [if_pos c_every] at f_every
  refine ⟨hpl, _, f_every, ?_⟩
  conv => whnf
  (repeat' first | (refine step_go [] ?_; conv => whnf) | (refine two (fun g => ?_) (fun g => ?_) <;> (try simp only [bsx] at g) <;> (conv => whnf)) | (refine And.intro rfl ?_; conv => whnf) | (refine loop_round [] ?_; conv => whnf) | (refine ⟨by decide, _, rfl, rfl, ?_⟩; conv => whnf) | (refine ⟨_, Weak.refl, ?_⟩; conv => whnf) | fail)
  by_cases c_times : w_times ∈ sn
  rotate_left
  · rw [if_neg c_times] at f_times
    refine ⟨hpl, _, f_times, ?_⟩
    conv => whnf
    (repeat' first | (refine step_go [] ?_; conv => whnf) | (refine two (fun g => ?_) (fun g => ?_) <;> (try simp only [bsx] at g) <;> (conv => whnf)) | (refine And.intro rfl ?_; conv => whnf) | (refine ⟨_, Weak.refl, ?_⟩; conv => whnf) | fail)
    exact h0 fun h => c_times h.2.2.2.2.1
  rw [if_pos c_times] at f_times
  refine ⟨hpl, _, f_times, ?_⟩
  conv => whnf
  (repeat' first | (refine step_go [] ?_; conv => whnf) | (refine two (fun g => ?_) (fun g => ?_) <;> (try simp only [bsx] at g) <;> (conv => whnf)) | (refine And.intro rfl ?_; conv => whnf) | (refine loop_round [] ?_; conv => whnf) | (refine ⟨by decide, _, rfl, rfl, ?_⟩; conv => whnf) | (refine ⟨_, Weak.refl, ?_⟩; conv => whnf) | fail)
  by_cases c_rate : w_rate ∈ sn
  rotate_left
  · rw [if_neg c_rate] at f_rate
    refine ⟨hpl, _, f_rate, ?_⟩
    conv => whnf
    (repeat' first | (refine step_go [] ?_; conv => whnf) | (refine two (fun g => ?_) (fun g => ?_) <;> (try simp only [bsx] at g) <;> (conv => whnf)) | (refine And.intro rfl ?_; conv => whnf) | (refine ⟨_, Weak.refl, ?_⟩; conv => whnf) | fail)
    exact h0 fun h => c_rate h.2.2.2.2.2.1
  rw [if_pos c_rate] at f_rate
  refine ⟨hpl, _, f_rate, ?_⟩
  conv => whnf
  (repeat' first | (refine step_go [] ?_; conv => whnf) | (refine two (fun g => ?_) (fun g => ?_) <;> (try simp only [bsx] at g) <;> (conv => whnf)) | (refine And.intro rfl ?_; conv => whnf) | (refine loop_round [] ?_; conv => whnf) | (refine ⟨by decide, _, rfl, rfl, ?_⟩; conv => whnf) | (refine ⟨_, Weak.refl, ?_⟩; conv => whnf) | fail)
  by_cases c_order : w_order ∈ sn
  rotate_left
  · rw [if_neg c_order] at f_order
    refine ⟨hpl, _, f_order, ?_⟩
    conv => whnf
    (repeat' first | (refine step_go [] ?_; conv => whnf) | (refine two (fun g => ?_) (fun g => ?_) <;> (try simp only [bsx] at g) <;> (conv => whnf)) | (refine And.intro rfl ?_; conv => whnf) | (refine ⟨_, Weak.refl, ?_⟩; conv => whnf) | fail)
    exact h0 fun h => c_order h.2.2.2.2.2.2
  rw [if_pos c_order] at f_order
  refine ⟨hpl, _, f_order, ?_⟩
  conv => whnf
  (repeat' first | (refine step_go [] ?_; conv => whnf) | (refine two (fun g => ?_) (fun g => ?_) <;> (try simp only [bsx] at g) <;> (conv => whnf)) | (refine And.intro rfl ?_; conv => whnf) | (refine loop_round [] ?_; conv => whnf) | (refine ⟨by decide, _, rfl, rfl, ?_⟩; conv => whnf) | (refine ⟨_, Weak.refl, ?_⟩; conv => whnf) | fail)
  exact h1 ⟨c_count, c_round, c_kind, c_every, c_times, c_rate, c_order⟩
end C32

namespace C33
open Go Go.Proofs VL D1 B10 B12 B13 C8 BB6 BB10 BB14 C1 C2 C3 C4 C6 C11 C14 C15 C20 C22 C23 C24 C25 C26 C27 C28 C28b C28c C28d C29 C30 C31 C32
set_option maxRecDepth 100000
def zP : List V := [.str ⟨#[]⟩, .int .i64 0, .int .i64 0, .int .i64 0, .int .i64 0, .int .i64 0, .int .i64 0, .int .i64 0, .sl [] .ex, .int .i64 0, .int .i64 0, .int .i64 0, .int .i64 0, .int .i64 0, .int .i64 0, .sl [] .ex, .int .i64 0, .int .i64 0, .sl [] .ex]
def pO (l : List V) (a e : Int) : List VObj := [.cells true 28 l, .cells true 3 [.int .i64 a], .cells true 29 [.int .i64 e]]
theorem d_parse1 (a e p f : Int) (K) (h : K true (pO zP p f)) : VCallD Tryz.prog 17 [.ptr 0 0, .ptr 1 0, .ptr 2 0] (pO zP a e) (some (fltP p f)) K := by
  unfold fltP
  unfold pO zP at h ⊢
  refine calld_fun [] 3 Tryz.func17 (by rfl) (by rfl) ?_
  conv => whnf
  refine ⟨rfl, ?_⟩
  conv => whnf
  (repeat' first | (refine step_go [] ?_; conv => whnf) | (refine two (fun g => ?_) (fun g => ?_) <;> (try simp only [bsx] at g) <;> (conv => whnf)) | (refine And.intro rfl ?_; conv => whnf) | (refine dr_go (by decide +kernel) ?_; conv => whnf) | fail)
  exact h
theorem d_parse0 (l : List V) (hl : l = zP) (a e : Int) (K) (h : K false (pO l a e)) : VCallD Tryz.prog 17 [.ptr 0 0, .ptr 1 0, .ptr 2 0] (pO l a e) none K := by
  subst hl
  unfold pO zP at h ⊢
  refine calld_fun [] 3 Tryz.func17 (by rfl) (by rfl) ?_
  conv => whnf
  refine ⟨rfl, ?_⟩
  conv => whnf
  (repeat' first | (refine step_go [] ?_; conv => whnf) | (refine two (fun g => ?_) (fun g => ?_) <;> (try simp only [bsx] at g) <;> (conv => whnf)) | (refine And.intro rfl ?_; conv => whnf) | (refine dr_go (by decide +kernel) ?_; conv => whnf) | fail)
  exact h
def pCr (k : Nat) (p : Prod) (s1 s2 s3 : List V) : List V := [.str p.name, .int .i64 p.count, .int .i64 p.rnd, .int .i64 p.kind, .int .i64 p.every, .int .i64 p.times, .int .i64 p.grace, .int .i64 p.rate, .slo k 2 0 p.resets.length (p.resets.length + s1.length), .int .i64 p.pen, .int .i64 p.o1, .int .i64 p.o2, .int .i64 p.o3, .int .i64 p.o4, .int .i64 p.over, .slo (k + 1) 2 0 p.late.length (p.late.length + s2.length), .int .i64 p.cap, .int .i64 p.roll, .slo (k + 2) 1 0 p.hol.length (p.hol.length + s3.length)]
theorem d_parse2 (p : Prod) (s1 s2 s3 : List V) (K) (h : K false (pO (pCr 3 p s1 s2 s3) 0 0 ++ [.buf false 2 (rL p.resets ++ s1), .buf false 2 (tL p.late ++ s2), .buf false 1 (iL p.hol ++ s3)])) :
    VCallD Tryz.prog 17 [.ptr 0 0, .ptr 1 0, .ptr 2 0] (pO (pCr 3 p s1 s2 s3) 0 0 ++ [.buf false 2 (rL p.resets ++ s1), .buf false 2 (tL p.late ++ s2), .buf false 1 (iL p.hol ++ s3)]) none K := by
  unfold pO pCr at h ⊢
  refine calld_fun [] 6 Tryz.func17 (by rfl) (by rfl) ?_
  conv => whnf
  refine ⟨rfl, ?_⟩
  conv => whnf
  (repeat' first | (refine step_go [] ?_; conv => whnf) | (refine two (fun g => ?_) (fun g => ?_) <;> (try simp only [bsx] at g) <;> (conv => whnf)) | (refine And.intro rfl ?_; conv => whnf) | (refine dr_go (by decide +kernel) ?_; conv => whnf) | fail)
  exact h
theorem tk_r {l : List Rs} {s : List V} : List.take l.length (List.drop 0 (rL l ++ s)) = rL l := by rw [List.drop_zero, show l.length = (rL l).length by simp [rL], List.take_left]
theorem tk_t {l : List Ti} {s : List V} : List.take l.length (List.drop 0 (tL l ++ s)) = tL l := by rw [List.drop_zero, show l.length = (tL l).length by simp [tL], List.take_left]
theorem tk_i {l : List Int} {s : List V} : List.take l.length (List.drop 0 (iL l ++ s)) = iL l := by rw [List.drop_zero, show l.length = (iL l).length by simp [iL], List.take_left]
theorem frz_then (i : Nat) (sp : Bool) {m : Nat} {s F : St} (h : St.frzK i sp s fun s' => Weak m s' F) : Weak m s F := by
  obtain ⟨s', h1, h2⟩ := weak_frz (m := m) i sp h
  exact h1.trans h2
theorem end_frz3 {p : Prod} {a b c : Bool} {s1 s2 s3 : List V} {K : Out → List VObj → Prop} (h : K (.ret (.tup [encP p, .int .i64 0, .int .i64 0])) []) :
    ∃ v' sub', Weak 0 ⟨[.tup [.agg (pCr 0 p s1 s2 s3), .int .i64 0, .int .i64 0]], [.buf a 2 (rL p.resets ++ s1), .buf b 2 (tL p.late ++ s2), .buf c 1 (iL p.hol ++ s3)], 0, []⟩ ⟨[v'], sub', 0, []⟩ ∧ K (.ret v') sub' := by
  refine ⟨.tup [encP p, .int .i64 0, .int .i64 0], [], ?_, h⟩
  unfold pCr
  refine frz_then 0 false ?_
  conv => whnf
  refine ⟨by simp [rL], ?_⟩
  rw [tk_r]
  conv => whnf
  refine frz_then 1 false ?_
  conv => whnf
  refine ⟨by simp [tL], ?_⟩
  rw [tk_t]
  conv => whnf
  refine frz_then 2 false ?_
  conv => whnf
  refine ⟨by simp [iL], ?_⟩
  rw [tk_i]
  conv => whnf
  exact weak_of (.cons (.eq rfl) .nil) .nil rfl rfl rfl
theorem parse_err {s : List Int} {l : List C3.Tok} {p : Nat} {e : Int} (hl : lexS s = .ok l) (h : textP l = .err p e) : parseS s = (prod0, (p : Int), e) := by unfold parseS; rw [hl]; simp only; rw [h]
theorem parse_yes {s : List Int} {l : List C3.Tok} {q r} (hl : lexS s = .ok l) (h : textP l = .ok q r) (hw : wholeP q.2) (hc : checkP q.1) : parseS s = (q.1, 0, 0) := by unfold parseS; rw [hl]; simp only; rw [h]; simp only; rw [if_pos ⟨hw, hc⟩]
theorem parse_no {s : List Int} {l : List C3.Tok} {q r} (hl : lexS s = .ok l) (h : textP l = .ok q r) (hw : ¬ (wholeP q.2 ∧ checkP q.1)) : parseS s = (prod0, (((nextT l).1.at_ : Nat) : Int), 9) := by unfold parseS; rw [hl]; simp only; rw [h]; simp only; rw [if_neg hw]
theorem parse_lex {s : List Int} {p : Nat} {e : Int} (hl : lexS s = .error (p, e)) : parseS s = (prod0, (p : Int), e) := by unfold parseS; rw [hl]
theorem POk0 : POk { prod0 with over := 1, roll := 1 } := by
  refine ⟨by decide, ?_, ?_, ?_, ?_, ?_, ?_, ?_, ?_, ?_, ?_, ?_, ?_, ?_, ?_, ?_, fun x hx => ?_, fun x hx => ?_, fun x hx => ?_⟩
  all_goals first
    | (unfold I64; decide)
    | (exact absurd hx (by simp [prod0]))
theorem textP_I {l : List C3.Tok} {q r} (ht : ∀ t ∈ l, t.text.length < 1000000) (hl : endT l) (h : textP l = .ok q r) : POk q.1 := by
  unfold textP at h
  obtain ⟨a1, s1, h1, h2⟩ := bind_ok h
  obtain ⟨a2, s2, h3, h4⟩ := bind_ok h2
  split at h4
  · obtain ⟨a3, s3, h5, h6⟩ := bind_ok h4
    obtain ⟨a4, s4, h7, h8⟩ := bind_ok h6
    obtain ⟨a5, s5, h9, h10⟩ := bind_ok h8
    injection h10 with e1 e2
    subst e1
    refine groupS_I _ ?_ h7
    rename_i hn
    have hn20 : a2.text.length ≤ 20 := hn.1.2.1
    exact { POk0 with name := by rw [toBA_size]; omega }
  · cases h4
set_option maxHeartbeats 8000000 in
theorem c_Parse (s : ByteArray) (hs : s.size < 1000000) (K : Out → List VObj → Prop)
    (h : K (.ret (.tup [encP (parseS (sB s)).1, .int .i64 (parseS (sB s)).2.1, .int .i64 (parseS (sB s)).2.2])) []) : VCall Tryz.prog 10 [.str s] [] K := by
  refine VCall.weak (call_fun [] 0 Tryz.func10 (by rfl) (by rfl) ?_)
  conv => whnf
  (repeat' first | (refine step_go [] ?_; conv => whnf) | (refine two (fun g => ?_) (fun g => ?_) <;> (try simp only [bsx] at g) <;> (conv => whnf)) | (refine And.intro rfl ?_; conv => whnf) | (refine dr_go (by decide +kernel) ?_; conv => whnf) | fail)
  refine C8.c_All s hs _ (fun l hl => ?_) (fun p e hl => ?_)
  rotate_left
  · rw [parse_lex hl] at h
    have he := lexS_err hl
    conv => whnf
    (repeat' first | (refine step_go [] ?_; conv => whnf) | (refine two (fun g => ?_) (fun g => ?_) <;> (try simp only [bsx] at g) <;> (conv => whnf)) | (refine And.intro rfl ?_; conv => whnf) | (refine dr_go (by decide +kernel) ?_; conv => whnf) | fail)
    rotate_left
    · exfalso; omega
    · refine d_parse0 zP rfl p e _ ?_
      conv => whnf
      (repeat' first | (refine step_go [] ?_; conv => whnf) | (refine two (fun g => ?_) (fun g => ?_) <;> (try simp only [bsx] at g) <;> (conv => whnf)) | (refine And.intro rfl ?_; conv => whnf) | fail)
      refine ⟨_, _, weak_of (.cons (.tup (.cons (.agg ?_) (.cons (.eq rfl) (.cons (.eq rfl) .nil)))) .nil) .nil rfl rfl rfl, h⟩
      (repeat' first | exact VQs.nil | refine VQs.cons VQ.no ?_ | refine VQs.cons VQ.spare ?_ | refine VQs.cons (VQ.eq rfl) ?_)
  obtain ⟨hend, hok, hne, hat, hsz, hkl⟩ := lexS_props hl (sB_byte s)
  conv => whnf
  (refine step_go [] ?_; conv => whnf)
  (refine step_go [] ?_; conv => whnf)
  (refine step_go [] ?_; conv => whnf)
  let S1 : St := ⟨(.str s :: .undef :: .ptr 0 0 :: .ptr 1 0 :: .ptr 2 0 :: .sl (kL l) .no :: .ptr 4 0 :: .undef :: .undef :: .undef :: .undef :: .undef :: .undef :: .undef :: .undef :: .undef :: .undef :: .undef :: .undef :: .undef :: .undef :: .undef :: .undef :: .undef :: .undef :: .undef :: .undef :: .undef :: .undef :: .undef :: .undef :: .undef :: .undef :: .undef :: .undef :: .undef :: .undef :: .undef :: .undef :: .undef :: .undef :: .undef :: .undef :: .undef :: .undef :: .undef :: .undef :: []), pO zP 0 0 ++ [.map [], .cells true 54 [.sl (kL l) .no, .int .i64 0, .str ⟨#[]⟩, .int .i64 0, .int .i64 0, .int .i64 0, .int .i64 0, .int .i64 0, .int .i64 0, .int .i64 0, .slo 5 2 0 0 0, .int .i64 0, .int .i64 0, .int .i64 0, .int .i64 0, .int .i64 0, .int .i64 1, .slo 6 2 0 0 0, .int .i64 0, .int .i64 1, .slo 7 1 0 0 0, .mp 3], .buf false 2 [], .buf false 2 [], .buf false 1 []], 0, [(.func 17, [], [.ptr 0 0, .ptr 1 0, .ptr 2 0])]⟩
  refine VStep.weak (s' := S1) (Weak.trans (weak_nil 4 10 2 none rfl rfl (Nat.zero_le _)) (Weak.trans (weak_nil 4 17 2 none rfl rfl (Nat.zero_le _)) (Weak.trans (weak_nil 4 20 1 none rfl rfl (Nat.zero_le _)) (weak_of ?_ (.cons (.eq rfl) (.cons (.eq rfl) (.cons (.eq rfl) (.cons (.eq rfl) (.cons (.eq rfl) (.cons (.eq rfl) (.cons (.eq rfl) (.cons (.eq rfl) .nil)))))))) rfl rfl rfl)))) ?_
  · (repeat' first | exact VWs.nil | refine VWs.cons VW.undef ?_ | refine VWs.cons (VW.eq rfl) ?_)
  dsimp only [S1, pO, zP, List.cons_append, List.nil_append]
  conv => whnf
  (repeat' first | (refine step_go [] ?_; conv => whnf) | (refine two (fun g => ?_) (fun g => ?_) <;> (try simp only [bsx] at g) <;> (conv => whnf)) | (refine And.intro rfl ?_; conv => whnf) | fail)
  refine c_text l 0 (by rw [List.drop_zero]; exact hend) hok ⟨{ prod0 with over := 1, roll := 1 }, [], [], [], []⟩ rfl rfl _ (fun q r i' x' e hq hsn hz => ?_) (fun p e i' x' he => ?_)
  rotate_left
  · rw [List.drop_zero] at he
    rw [parse_err hl he] at h
    refine ⟨?_, ?_⟩
    all_goals
      conv => whnf
      (repeat' first | (refine step_go [] ?_; conv => whnf) | (refine two (fun g => ?_) (fun g => ?_) <;> (try simp only [bsx] at g) <;> (conv => whnf)) | (refine And.intro rfl ?_; conv => whnf) | fail)
      refine d_parse1 0 0 p e _ ?_
      conv => whnf
      (repeat' first | (refine step_go [] ?_; conv => whnf) | (refine two (fun g => ?_) (fun g => ?_) <;> (try simp only [bsx] at g) <;> (conv => whnf)) | (refine And.intro rfl ?_; conv => whnf) | fail)
      refine ⟨_, _, weak_of (.cons (.tup (.cons (.agg ?_) (.cons (.eq rfl) (.cons (.eq rfl) .nil)))) .nil) .nil rfl rfl rfl, h⟩
      (repeat' first | exact VQs.nil | refine VQs.cons VQ.no ?_ | refine VQs.cons VQ.spare ?_ | refine VQs.cons (VQ.eq rfl) ?_)
  rw [List.drop_zero] at e
  obtain ⟨_, t, r0, hlt, hnt, _⟩ := endT_next hend
  have hget : (kL l)[Int.toNat 0]? = some (encK t) := by rw [hlt]; rfl
  have hno : ¬ (wholeP q.2 ∧ checkP q.1) → K (.ret (.tup [encP prod0, .int .i64 (t.at_ : Nat), .int .i64 9])) [] := fun hh => by rw [parse_no hl e hh, hnt] at h; exact h
  have hyes : wholeP q.2 → checkP q.1 → K (.ret (.tup [encP q.1, .int .i64 0, .int .i64 0])) [] := fun a b => by rw [parse_yes hl e a b] at h; exact h
  have hI := textP_I (fun t ht => (hok.2 t ht).2) hend e
  rw [← hq] at hI hz hno hyes
  have hPok : x'.p.ok := hI.full (by omega) (by omega) (by omega)
  clear h
  conv => whnf
  (repeat' first | (refine step_go [] ?_; conv => whnf) | (refine two (fun g => ?_) (fun g => ?_) <;> (try simp only [bsx] at g) <;> (conv => whnf)) | (refine And.intro rfl ?_; conv => whnf) | fail)
  refine c_whole l i' x' q.2 hsn _ (fun hw => ?_) (fun hw => ?_)
  rotate_left
  · have hf := hno fun hh => hw hh.1
    conv => whnf
    (repeat' first | (refine step_go [] ?_; conv => whnf) | (refine two (fun g => ?_) (fun g => ?_) <;> (try simp only [bsx] at g) <;> (conv => whnf)) | (refine And.intro rfl ?_; conv => whnf) | (refine ⟨by decide, _, hget, rfl, ?_⟩; conv => whnf) | fail)
    refine d_parse1 0 0 t.at_ 9 _ ?_
    conv => whnf
    (repeat' first | (refine step_go [] ?_; conv => whnf) | (refine two (fun g => ?_) (fun g => ?_) <;> (try simp only [bsx] at g) <;> (conv => whnf)) | (refine And.intro rfl ?_; conv => whnf) | fail)
    refine ⟨_, _, weak_of (.cons (.tup (.cons (.agg ?_) (.cons (.eq rfl) (.cons (.eq rfl) .nil)))) .nil) .nil rfl rfl rfl, hf⟩
    (repeat' first | exact VQs.nil | refine VQs.cons VQ.no ?_ | refine VQs.cons VQ.spare ?_ | refine VQs.cons (VQ.eq rfl) ?_)
  conv => whnf
  (repeat' first | (refine step_go [] ?_; conv => whnf) | (refine two (fun g => ?_) (fun g => ?_) <;> (try simp only [bsx] at g) <;> (conv => whnf)) | (refine And.intro rfl ?_; conv => whnf) | fail)
  refine VCall.lendC ?_
  conv => whnf
  refine ⟨by simp [rL], ?_⟩
  conv => whnf
  refine ⟨by simp [tL], ?_⟩
  conv => whnf
  refine ⟨by simp [iL], ?_⟩
  conv => whnf
  rw [tk_r, tk_t, tk_i]
  refine c_Check x'.p hPok _ ?_
  conv => whnf
  refine ⟨rfl, ?_⟩
  conv => whnf
  have hcc : checkP x'.p → checkC x'.p = 0 := fun hh => by unfold checkC; rw [if_pos hh]
  have hcn : ¬ checkP x'.p → checkC x'.p = 9 := fun hh => by unfold checkC; rw [if_neg hh]
  obtain ⟨cc, hcd⟩ : ∃ cc, checkC x'.p = cc := ⟨_, rfl⟩
  rw [hcd] at hcc hcn ⊢
  (repeat' first | (refine step_go [] ?_; conv => whnf) | (refine two (fun g => ?_) (fun g => ?_) <;> (try simp only [bsx] at g) <;> (conv => whnf)) | (refine And.intro rfl ?_; conv => whnf) | (refine ⟨by decide, _, hget, rfl, ?_⟩; conv => whnf) | fail)
  · have hf := hno fun hh => g (hcc hh.2)
    refine d_parse1 0 0 t.at_ 9 _ ?_
    conv => whnf
    (repeat' first | (refine step_go [] ?_; conv => whnf) | (refine two (fun g => ?_) (fun g => ?_) <;> (try simp only [bsx] at g) <;> (conv => whnf)) | (refine And.intro rfl ?_; conv => whnf) | fail)
    refine ⟨_, _, weak_of (.cons (.tup (.cons (.agg ?_) (.cons (.eq rfl) (.cons (.eq rfl) .nil)))) .nil) .nil rfl rfl rfl, hf⟩
    (repeat' first | exact VQs.nil | refine VQs.cons VQ.no ?_ | refine VQs.cons VQ.spare ?_ | refine VQs.cons (VQ.eq rfl) ?_)
  · have hck : checkP x'.p := by
      by_cases hh : checkP x'.p
      · exact hh
      · have := hcn hh; omega
    have hf := hyes hw hck
    refine d_parse2 x'.p x'.s1 x'.s2 x'.s3 _ ?_
    conv => whnf
    (repeat' first | (refine step_go [] ?_; conv => whnf) | (refine two (fun g => ?_) (fun g => ?_) <;> (try simp only [bsx] at g) <;> (conv => whnf)) | (refine And.intro rfl ?_; conv => whnf) | fail)
    exact end_frz3 (s1 := x'.s1) (s2 := x'.s2) (s3 := x'.s3) hf
end C33

namespace CR1
open Go Go.Proofs VL D1 B10 B12 B13 C8 BB6 BB10 BB14 C1 C2 C3 C4 C6 C15 C20 C22 C28 C28b
set_option maxRecDepth 100000
structure RS where
  p : Prod
  s1 : List V
  s2 : List V
  s3 : List V
  h : List (List Int)
  s4 : List V
  err : Int
  at_ : Int
end CR1

namespace CR2
open Go Go.Proofs VL D1 B10 B12 B13 B20 B21 B22 C8 BB6 BB10 BB14 C1 C2 C3 C4 C6 C15 C20 C21 C22 C25 C26 C28 C28b CR1
set_option maxRecDepth 100000
end CR2

namespace CR3
open Go Go.Proofs VL D1 B10 B12 B13 B20 B21 B22 C8 BB6 BB10 BB14 C1 C2 C3 C4 C6 C15 C20 C21 C22 C25 C26 C28 C28b CR1 CR2
set_option maxRecDepth 100000
end CR3

namespace CR4
open Go Go.Proofs VL D1 B10 B12 B13 B20 B21 B22 C8 BB6 BB10 BB14 C1 C2 C3 C4 C6 C15 C20 C21 C22 C25 C26 C28 C28b CR1 CR2 CR3
set_option maxRecDepth 100000
end CR4

namespace CR5
open Go Go.Proofs VL D1 B10 B12 B13 B20 B21 B22 C8 BB6 BB10 BB14 C1 C2 C3 C4 C6 C15 C20 C21 C22 C25 C26 C28 C28b C28c CR1 CR2 CR3 CR4
set_option maxRecDepth 100000
end CR5

namespace CR6
open Go Go.Proofs VL D1 B10 B12 B13 B20 B21 B22 C8 BB6 BB10 BB14 C1 C2 C3 C4 C6 C15 C20 C21 C22 C25 C26 C28 C28b C28c C29 CR1 CR2 CR3 CR4 CR5
set_option maxRecDepth 100000
end CR6

namespace CR7
open Go Go.Proofs VL D1 B10 B12 B13 B20 B21 B22 C8 BB6 BB10 BB14 C1 C2 C3 C4 C6 C15 C18 C20 C21 C22 C25 C26 C28 C28b C28c C28d C29 C30 C33 CR1 CR2 CR3 CR4 CR5 CR6
set_option maxRecDepth 100000
end CR7

namespace CR8
open Go Go.Proofs VL D1 B10 C1 C2 BB10 BB14 C6 C22 C28d
set_option maxRecDepth 100000
theorem fl_Reset (m : Nat) (a b : Int) : flatT (VL.sys Tryz.prog m []).P 68 [.int .i64 a, .int .i64 b] = true := by kernel_rfl
theorem eq_Reset (a : Rs) (K : Out → List VObj → Prop) (h : K (.ret (.bool true)) []) : VCall Tryz.prog 64 [encR a, encR a] [] K := by
  refine call_fun [] 0 Tryz.func64 (by rfl) (by rfl) ?_
  conv => whnf
  repeat' first
    | (refine step_go [] ?_; conv => whnf)
    | (rw [fl_Reset]; conv => whnf)
  refine Eq.mp (congrArg (fun b => K (.ret (.bool b)) []) ?_) h
  simp
theorem sm_Reset (l : List Rs) (hl : l.length < 1000000) (K : Out → List VObj → Prop) (h : K (.ret (.bool true)) []) : VCall Tryz.prog 63 [.sl (rL l) .no, .sl (rL l) .no, .fn (.func 64) [] []] [] K := by
  have hlen : (rL l).length = l.length := by simp [rL]
  refine call_fun [] 0 Tryz.func63 (by rfl) (by rfl) ?_
  conv => whnf
  (repeat' first | (refine step_go [] ?_; conv => whnf) | (refine two (fun g => ?_) (fun g => ?_) <;> (try simp only [bsx] at g) <;> (conv => whnf)) | (refine And.intro rfl ?_; conv => whnf) | fail)
  · exact absurd trivial g
  let S : Nat → St := fun i => ⟨(.sl (rL l) .no :: .sl (rL l) .no :: .fn (.func 64) [] [] :: .undef :: .undef :: .undef :: .bool false :: .int .i64 (i : Nat) :: .undef :: .undef :: .undef :: .undef :: .undef :: .undef :: .undef :: .undef :: .undef :: .undef :: .undef :: .undef :: .undef :: .undef :: .undef :: .undef :: .undef :: .undef :: .undef :: .undef :: .undef :: .undef :: []), [], 0, []⟩
  refine VLoop.enter (s' := S 0) (weak_of ?_ .nil rfl rfl rfl) (VLoop.indW S (fun i => l.length - i) (fun i => i ≤ l.length) ?_ 0 (Nat.zero_le _))
  · (repeat' first | exact VWs.nil | refine VWs.cons VW.undef ?_ | refine VWs.cons (VW.eq rfl) ?_)
  intro i hi ih
  refine loop_round [] ?_; conv => whnf
  (repeat' first | (refine step_go [] ?_; conv => whnf) | (refine two (fun g => ?_) (fun g => ?_) <;> (try simp only [bsx] at g) <;> (conv => whnf)) | (refine And.intro rfl ?_; conv => whnf) | fail)
  · rw [hlen] at g
    have hil : i < l.length := by omega
    have hget : (rL l)[(i : Int).toNat]? = some (encR (l[i])) := by rw [Int.toNat_natCast]; simp [rL, List.getElem?_eq_getElem hil]
    (repeat' first | (refine step_go [] ?_; conv => whnf) | (refine two (fun g => ?_) (fun g => ?_) <;> (try simp only [bsx] at g) <;> (conv => whnf)) | (refine And.intro rfl ?_; conv => whnf) | (refine dr_go (by decide +kernel) ?_; conv => whnf) | (refine ⟨by omega, _, hget, rfl, ?_⟩; conv => whnf) | (refine eq_Reset _ _ ?_; conv => whnf) | fail)
    have wi : IntKind.i64.wrap ((i : Int) + 1) = ((i + 1 : Nat) : Int) := by rw [wrap64 (by omega) (by omega)]; omega
    exact ⟨S (i + 1), weak_of (by rw [wi]; (repeat' first | exact VWs.nil | refine VWs.cons VW.undef ?_ | refine VWs.cons (VW.eq rfl) ?_)) .nil rfl rfl rfl, ih (i + 1) (by omega) (by omega)⟩
  · refine ⟨_, Weak.refl, ?_⟩; conv => whnf
    (repeat' first | (refine step_go [] ?_; conv => whnf) | (refine two (fun g => ?_) (fun g => ?_) <;> (try simp only [bsx] at g) <;> (conv => whnf)) | (refine And.intro rfl ?_; conv => whnf) | fail)
    exact h
theorem pl_Reset (l : List Rs) (hl : l.length < 1000000) (K : Out → List VObj → Prop) (h : K (.ret (.bool true)) []) : VCall Tryz.prog 30 [.sl (rL l) .no, .sl (rL l) .no] [] K := by
  refine call_fun [] 0 Tryz.func30 (by rfl) (by rfl) ?_
  conv => whnf
  (repeat' first | (refine step_go [] ?_; conv => whnf) | (refine two (fun g => ?_) (fun g => ?_) <;> (try simp only [bsx] at g) <;> (conv => whnf)) | (refine And.intro rfl ?_; conv => whnf) | (refine sm_Reset l hl _ ?_; conv => whnf) | fail)
  exact h
theorem fl_Tier (m : Nat) (a b : Int) : flatT (VL.sys Tryz.prog m []).P 71 [.int .i64 a, .int .i64 b] = true := by kernel_rfl
theorem eq_Tier (a : Ti) (K : Out → List VObj → Prop) (h : K (.ret (.bool true)) []) : VCall Tryz.prog 66 [encT a, encT a] [] K := by
  refine call_fun [] 0 Tryz.func66 (by rfl) (by rfl) ?_
  conv => whnf
  repeat' first
    | (refine step_go [] ?_; conv => whnf)
    | (rw [fl_Tier]; conv => whnf)
  refine Eq.mp (congrArg (fun b => K (.ret (.bool b)) []) ?_) h
  simp
theorem sm_Tier (l : List Ti) (hl : l.length < 1000000) (K : Out → List VObj → Prop) (h : K (.ret (.bool true)) []) : VCall Tryz.prog 65 [.sl (tL l) .no, .sl (tL l) .no, .fn (.func 66) [] []] [] K := by
  have hlen : (tL l).length = l.length := by simp [tL]
  refine call_fun [] 0 Tryz.func65 (by rfl) (by rfl) ?_
  conv => whnf
  (repeat' first | (refine step_go [] ?_; conv => whnf) | (refine two (fun g => ?_) (fun g => ?_) <;> (try simp only [bsx] at g) <;> (conv => whnf)) | (refine And.intro rfl ?_; conv => whnf) | fail)
  · exact absurd trivial g
  let S : Nat → St := fun i => ⟨(.sl (tL l) .no :: .sl (tL l) .no :: .fn (.func 66) [] [] :: .undef :: .undef :: .undef :: .bool false :: .int .i64 (i : Nat) :: .undef :: .undef :: .undef :: .undef :: .undef :: .undef :: .undef :: .undef :: .undef :: .undef :: .undef :: .undef :: .undef :: .undef :: .undef :: .undef :: .undef :: .undef :: .undef :: .undef :: .undef :: .undef :: []), [], 0, []⟩
  refine VLoop.enter (s' := S 0) (weak_of ?_ .nil rfl rfl rfl) (VLoop.indW S (fun i => l.length - i) (fun i => i ≤ l.length) ?_ 0 (Nat.zero_le _))
  · (repeat' first | exact VWs.nil | refine VWs.cons VW.undef ?_ | refine VWs.cons (VW.eq rfl) ?_)
  intro i hi ih
  refine loop_round [] ?_; conv => whnf
  (repeat' first | (refine step_go [] ?_; conv => whnf) | (refine two (fun g => ?_) (fun g => ?_) <;> (try simp only [bsx] at g) <;> (conv => whnf)) | (refine And.intro rfl ?_; conv => whnf) | fail)
  · rw [hlen] at g
    have hil : i < l.length := by omega
    have hget : (tL l)[(i : Int).toNat]? = some (encT (l[i])) := by rw [Int.toNat_natCast]; simp [tL, List.getElem?_eq_getElem hil]
    (repeat' first | (refine step_go [] ?_; conv => whnf) | (refine two (fun g => ?_) (fun g => ?_) <;> (try simp only [bsx] at g) <;> (conv => whnf)) | (refine And.intro rfl ?_; conv => whnf) | (refine dr_go (by decide +kernel) ?_; conv => whnf) | (refine ⟨by omega, _, hget, rfl, ?_⟩; conv => whnf) | (refine eq_Tier _ _ ?_; conv => whnf) | fail)
    have wi : IntKind.i64.wrap ((i : Int) + 1) = ((i + 1 : Nat) : Int) := by rw [wrap64 (by omega) (by omega)]; omega
    exact ⟨S (i + 1), weak_of (by rw [wi]; (repeat' first | exact VWs.nil | refine VWs.cons VW.undef ?_ | refine VWs.cons (VW.eq rfl) ?_)) .nil rfl rfl rfl, ih (i + 1) (by omega) (by omega)⟩
  · refine ⟨_, Weak.refl, ?_⟩; conv => whnf
    (repeat' first | (refine step_go [] ?_; conv => whnf) | (refine two (fun g => ?_) (fun g => ?_) <;> (try simp only [bsx] at g) <;> (conv => whnf)) | (refine And.intro rfl ?_; conv => whnf) | fail)
    exact h
theorem pl_Tier (l : List Ti) (hl : l.length < 1000000) (K : Out → List VObj → Prop) (h : K (.ret (.bool true)) []) : VCall Tryz.prog 31 [.sl (tL l) .no, .sl (tL l) .no] [] K := by
  refine call_fun [] 0 Tryz.func31 (by rfl) (by rfl) ?_
  conv => whnf
  (repeat' first | (refine step_go [] ?_; conv => whnf) | (refine two (fun g => ?_) (fun g => ?_) <;> (try simp only [bsx] at g) <;> (conv => whnf)) | (refine And.intro rfl ?_; conv => whnf) | (refine sm_Tier l hl _ ?_; conv => whnf) | fail)
  exact h
theorem eq_int (a : Int) (K : Out → List VObj → Prop) (h : K (.ret (.bool true)) []) : VCall Tryz.prog 68 [.int .i64 a, .int .i64 a] [] K := by
  refine call_fun [] 0 Tryz.func68 (by rfl) (by rfl) ?_
  conv => whnf
  repeat' first
    | (refine step_go [] ?_; conv => whnf)
    | fail
  refine Eq.mp (congrArg (fun b => K (.ret (.bool b)) []) ?_) h
  simp
theorem sm_int (l : List Int) (hl : l.length < 1000000) (K : Out → List VObj → Prop) (h : K (.ret (.bool true)) []) : VCall Tryz.prog 67 [.sl (iL l) .no, .sl (iL l) .no, .fn (.func 68) [] []] [] K := by
  have hlen : (iL l).length = l.length := by simp [iL]
  refine call_fun [] 0 Tryz.func67 (by rfl) (by rfl) ?_
  conv => whnf
  (repeat' first | (refine step_go [] ?_; conv => whnf) | (refine two (fun g => ?_) (fun g => ?_) <;> (try simp only [bsx] at g) <;> (conv => whnf)) | (refine And.intro rfl ?_; conv => whnf) | fail)
  · exact absurd trivial g
  let S : Nat → St := fun i => ⟨(.sl (iL l) .no :: .sl (iL l) .no :: .fn (.func 68) [] [] :: .undef :: .undef :: .undef :: .bool false :: .int .i64 (i : Nat) :: .undef :: .undef :: .undef :: .undef :: .undef :: .undef :: .undef :: .undef :: .undef :: .undef :: .undef :: .undef :: .undef :: .undef :: .undef :: .undef :: .undef :: .undef :: .undef :: .undef :: .undef :: .undef :: []), [], 0, []⟩
  refine VLoop.enter (s' := S 0) (weak_of ?_ .nil rfl rfl rfl) (VLoop.indW S (fun i => l.length - i) (fun i => i ≤ l.length) ?_ 0 (Nat.zero_le _))
  · (repeat' first | exact VWs.nil | refine VWs.cons VW.undef ?_ | refine VWs.cons (VW.eq rfl) ?_)
  intro i hi ih
  refine loop_round [] ?_; conv => whnf
  (repeat' first | (refine step_go [] ?_; conv => whnf) | (refine two (fun g => ?_) (fun g => ?_) <;> (try simp only [bsx] at g) <;> (conv => whnf)) | (refine And.intro rfl ?_; conv => whnf) | fail)
  · rw [hlen] at g
    have hil : i < l.length := by omega
    have hget : (iL l)[(i : Int).toNat]? = some ((V.int .i64) (l[i])) := by rw [Int.toNat_natCast]; simp [iL, List.getElem?_eq_getElem hil]
    (repeat' first | (refine step_go [] ?_; conv => whnf) | (refine two (fun g => ?_) (fun g => ?_) <;> (try simp only [bsx] at g) <;> (conv => whnf)) | (refine And.intro rfl ?_; conv => whnf) | (refine dr_go (by decide +kernel) ?_; conv => whnf) | (refine ⟨by omega, _, hget, rfl, ?_⟩; conv => whnf) | (refine eq_int _ _ ?_; conv => whnf) | fail)
    have wi : IntKind.i64.wrap ((i : Int) + 1) = ((i + 1 : Nat) : Int) := by rw [wrap64 (by omega) (by omega)]; omega
    exact ⟨S (i + 1), weak_of (by rw [wi]; (repeat' first | exact VWs.nil | refine VWs.cons VW.undef ?_ | refine VWs.cons (VW.eq rfl) ?_)) .nil rfl rfl rfl, ih (i + 1) (by omega) (by omega)⟩
  · refine ⟨_, Weak.refl, ?_⟩; conv => whnf
    (repeat' first | (refine step_go [] ?_; conv => whnf) | (refine two (fun g => ?_) (fun g => ?_) <;> (try simp only [bsx] at g) <;> (conv => whnf)) | (refine And.intro rfl ?_; conv => whnf) | fail)
    exact h
theorem pl_int (l : List Int) (hl : l.length < 1000000) (K : Out → List VObj → Prop) (h : K (.ret (.bool true)) []) : VCall Tryz.prog 32 [.sl (iL l) .no, .sl (iL l) .no] [] K := by
  refine call_fun [] 0 Tryz.func32 (by rfl) (by rfl) ?_
  conv => whnf
  (repeat' first | (refine step_go [] ?_; conv => whnf) | (refine two (fun g => ?_) (fun g => ?_) <;> (try simp only [bsx] at g) <;> (conv => whnf)) | (refine And.intro rfl ?_; conv => whnf) | (refine sm_int l hl _ ?_; conv => whnf) | fail)
  exact h
set_option maxHeartbeats 4000000 in
theorem c_same (p : Prod) (h1 : p.resets.length < 1000000) (h2 : p.late.length < 1000000) (h3 : p.hol.length < 1000000) (K : Out → List VObj → Prop) (h : K (.ret (.bool true)) []) : VCall Tryz.prog 12 [encP p, encP p] [] K := by
  unfold encP cellsP
  refine call_fun [] 0 Tryz.func12 (by rfl) (by rfl) ?_
  conv => whnf
  (repeat' first | (refine step_go [] ?_; conv => whnf) | (refine two (fun g => ?_) (fun g => ?_) <;> (try simp only [bsx] at g) <;> (conv => whnf)) | (refine And.intro rfl ?_; conv => whnf) | (refine pl_Reset p.resets h1 _ ?_; conv => whnf) | (refine pl_Tier p.late h2 _ ?_; conv => whnf) | (refine pl_int p.hol h3 _ ?_; conv => whnf) | (rw [fl_4]; conv => whnf) | fail)
  all_goals first
    | exact h
    | exact absurd trivial g
    | (exfalso; simp at g; done)
    | trace_state
end CR8

namespace CR9
open Go Go.Proofs VL D1 B10 B12 B13 BB5 BB6 BB10 BB14 C1 C2 C3 C4 C6 C11 C15 C20 C22 C28 C28b C28d C29 C30 C33 CR8
set_option maxRecDepth 100000
def nameC (l : List Int) : Bool := (decide (1 ≤ l.length) && decide (l.length ≤ 20) && (match l with | x :: _ => decide (Small x) | [] => true) && l.all fun x => decide (Inner x)) && !(decide (l ∈ wordsL))
theorem nameC_iff (l : List Int) : nameC l = true ↔ nameP l := by
  unfold nameC nameP
  simp only [Bool.and_eq_true, decide_eq_true_eq, Bool.not_eq_true', decide_eq_false_iff_not, List.all_eq_true]
  cases l with
  | nil => simp
  | cons x r => simp [and_assoc]
noncomputable def textC (l : List C3.Tok) : Res (Prod × List (List Int)) :=
  (wantS 1 w_product l).bind fun _ l => (wantS 1 [] l).bind fun t l =>
    if nameC t.text = true then (wantS 3 [123] l).bind fun _ l => (groupS (l.length + 1) 1 l { prod0 with name := toBA t.text, over := 1, roll := 1 } []).bind fun q l => (wantS 0 [] l).bind fun _ l => .ok q l
    else .err t.at_ 7
open Classical in
theorem textC_eq (l : List C3.Tok) : textP l = textC l := by
  unfold textP textC
  cases wantS 1 w_product l with
  | err p e => rfl
  | ok t l1 =>
    show Res.bind (wantS 1 [] l1) _ = Res.bind (wantS 1 [] l1) _
    cases wantS 1 [] l1 with
    | err p e => rfl
    | ok t l2 =>
      show (if nameP t.text then _ else _) = (if nameC t.text = true then _ else _)
      by_cases h : nameP t.text
      · rw [if_pos h, if_pos ((nameC_iff _).2 h)]
      · rw [if_neg h, if_neg (fun hh => h ((nameC_iff _).1 hh))]
noncomputable def readC (s : List Int) : Option (Res (Prod × List (List Int))) := match lexS s with
  | .ok l => some (textC l)
  | .error _ => none
theorem read_ok {s : List Int} {q : Prod × List (List Int)} {r : List C3.Tok} (h : readC s = some (.ok q r)) (hw : wholeP q.2) (hc : checkP q.1) : parseS s = (q.1, 0, 0) := by
  unfold readC at h
  split at h
  · rename_i l hl
    injection h with h
    rw [← textC_eq] at h
    exact parse_yes hl h hw hc
  · cases h
theorem read_err {s : List Int} {p : Nat} {e : Int} (h : readC s = some (.err p e)) : parseS s = (prod0, (p : Int), e) := by
  unfold readC at h
  split at h
  · rename_i l hl
    injection h with h
    rw [← textC_eq] at h
    exact parse_err hl h
  · cases h
theorem read_no {s : List Int} {q : Prod × List (List Int)} {r : List C3.Tok} (h : readC s = some (.ok q r)) (hw : ¬ wholeP q.2) : ∃ p : Nat, parseS s = (prod0, (p : Int), 9) ∧ ∀ l, lexS s = .ok l → p = (nextT l).1.at_ := by
  unfold readC at h
  split at h
  · rename_i l hl
    injection h with h
    rw [← textC_eq] at h
    exact ⟨_, parse_no hl h (fun hh => hw hh.1), fun l' hl' => by injection hl.symm.trans hl' with e; rw [e]⟩
  · cases h
def eqP (p q : Prod) : Bool := decide (p.name.data = q.name.data) && decide (p.count = q.count) && decide (p.rnd = q.rnd) && decide (p.kind = q.kind) && decide (p.every = q.every) && decide (p.times = q.times) && decide (p.grace = q.grace) && decide (p.rate = q.rate) && decide (p.resets.map (fun r => (r.aft, r.rate)) = q.resets.map (fun r => (r.aft, r.rate))) && decide (p.pen = q.pen) && decide (p.o1 = q.o1) && decide (p.o2 = q.o2) && decide (p.o3 = q.o3) && decide (p.o4 = q.o4) && decide (p.over = q.over) && decide (p.late.map (fun r => (r.days, r.fee)) = q.late.map (fun r => (r.days, r.fee))) && decide (p.cap = q.cap) && decide (p.roll = q.roll) && decide (p.hol = q.hol)
theorem map_rs : ∀ {a b : List Rs}, a.map (fun r => (r.aft, r.rate)) = b.map (fun r => (r.aft, r.rate)) → a = b
  | [], [], _ => rfl
  | [], _ :: _, h => by simp at h
  | _ :: _, [], h => by simp at h
  | x :: a, y :: b, h => by
    simp only [List.map_cons, List.cons.injEq, _root_.Prod.mk.injEq] at h
    obtain ⟨⟨h1, h2⟩, h3⟩ := h
    cases x; cases y
    simp only at h1 h2
    rw [h1, h2, map_rs h3]
theorem map_ti : ∀ {a b : List Ti}, a.map (fun r => (r.days, r.fee)) = b.map (fun r => (r.days, r.fee)) → a = b
  | [], [], _ => rfl
  | [], _ :: _, h => by simp at h
  | _ :: _, [], h => by simp at h
  | x :: a, y :: b, h => by
    simp only [List.map_cons, List.cons.injEq, _root_.Prod.mk.injEq] at h
    obtain ⟨⟨h1, h2⟩, h3⟩ := h
    cases x; cases y
    simp only at h1 h2
    rw [h1, h2, map_ti h3]
theorem eqP_eq {p q : Prod} (h : eqP p q = true) : p = q := by
  unfold eqP at h
  simp only [Bool.and_eq_true, decide_eq_true_eq] at h
  obtain ⟨⟨⟨⟨⟨⟨⟨⟨⟨⟨⟨⟨⟨⟨⟨⟨⟨⟨h1, h2⟩, h3⟩, h4⟩, h5⟩, h6⟩, h7⟩, h8⟩, h9⟩, h10⟩, h11⟩, h12⟩, h13⟩, h14⟩, h15⟩, h16⟩, h17⟩, h18⟩, h19⟩ := h
  have h9 := map_rs h9
  have h16 := map_ti h16
  have h1 := ByteArray.ext h1
  cases p; cases q
  simp only at *
  subst h1 h2 h3 h4 h5 h6 h7 h8 h9 h10 h11 h12 h13 h14 h15 h16 h17 h18 h19
  rfl
def wholeC (sn : List (List Int)) : Bool := decide (w_count ∈ sn) && decide (w_round ∈ sn) && decide (w_kind ∈ sn) && decide (w_every ∈ sn) && decide (w_times ∈ sn) && decide (w_rate ∈ sn) && decide (w_order ∈ sn)
theorem wholeC_iff (sn : List (List Int)) : wholeC sn = true ↔ wholeP sn := by
  unfold wholeC wholeP
  simp only [Bool.and_eq_true, decide_eq_true_eq, and_assoc]
noncomputable def isC (s : List Int) (p : Prod) : Bool := match readC s with
  | some (.ok q _) => eqP q.1 p && wholeC q.2
  | _ => false
theorem is_ok {s : List Int} {p : Prod} (h : isC s p = true) (hc : checkP p) : parseS s = (p, 0, 0) := by
  unfold isC at h
  split at h
  · rename_i q r e
    rw [Bool.and_eq_true] at h
    have hp := eqP_eq h.1
    subst hp
    exact read_ok e ((wholeC_iff _).1 h.2) hc
  · cases h
noncomputable def errC (s : List Int) (p : Nat) (e : Int) : Bool := match readC s with
  | some (.err p' e') => decide (p' = p) && decide (e' = e)
  | _ => false
theorem is_err {s : List Int} {p : Nat} {e : Int} (h : errC s p e = true) : parseS s = (prod0, (p : Int), e) := by
  unfold errC at h
  split at h
  · rename_i p' e' hr
    simp only [Bool.and_eq_true, decide_eq_true_eq] at h
    rw [h.1, h.2] at hr
    exact read_err hr
  · cases h
def T0 : List Int := [112, 114, 111, 100, 117, 99, 116, 32, 104, 111, 109, 101, 32, 123, 32, 99, 111, 117, 110, 116, 32, 102, 105, 120, 101, 100, 59, 32, 114, 111, 117, 110, 100, 32, 104, 97, 108, 102, 45, 117, 112, 59, 32, 107, 105, 110, 100, 32, 97, 110, 110, 117, 105, 116, 121, 59, 32, 101, 118, 101, 114, 121, 32, 49, 59, 32, 116, 105, 109, 101, 115, 32, 49, 50, 59, 32, 114, 97, 116, 101, 32, 54, 37, 59, 32, 111, 114, 100, 101, 114, 32, 102, 101, 101, 115, 32, 112, 101, 110, 97, 108, 116, 121, 32, 105, 110, 116, 101, 114, 101, 115, 116, 32, 112, 114, 105, 110, 99, 105, 112, 97, 108, 59, 32, 125]
def homeP : Prod := { prod0 with name := ⟨#[104, 111, 109, 101]⟩, count := 2, rnd := 1, kind := 1, every := 1, times := 12, rate := 60000000, o1 := 1, o2 := 2, o3 := 3, o4 := 4, over := 1, roll := 1 }
theorem read_T0 : isC T0 homeP = true := by kernel_rfl
theorem home_ok : checkP homeP := by
  refine ⟨⟨⟨?_, by decide, by decide, by decide⟩, by unfold shape2; decide, by unfold shape3; decide⟩, ⟨by decide, by decide, by decide, trivial⟩, ⟨by unfold orderP; decide, by decide⟩, ⟨by decide, by decide, by decide, trivial⟩, ⟨⟨by decide, trivial⟩, by decide, by decide⟩⟩
  exact (nameC_iff _).1 (by decide)
theorem parse_T0 : parseS T0 = (homeP, 0, 0) := is_ok read_T0 home_ok
theorem parse_nil : parseS [] = (prod0, 0, 7) := is_err (p := 0) (by kernel_rfl)
def T0B : ByteArray := ⟨#[112, 114, 111, 100, 117, 99, 116, 32, 104, 111, 109, 101, 32, 123, 32, 99, 111, 117, 110, 116, 32, 102, 105, 120, 101, 100, 59, 32, 114, 111, 117, 110, 100, 32, 104, 97, 108, 102, 45, 117, 112, 59, 32, 107, 105, 110, 100, 32, 97, 110, 110, 117, 105, 116, 121, 59, 32, 101, 118, 101, 114, 121, 32, 49, 59, 32, 116, 105, 109, 101, 115, 32, 49, 50, 59, 32, 114, 97, 116, 101, 32, 54, 37, 59, 32, 111, 114, 100, 101, 114, 32, 102, 101, 101, 115, 32, 112, 101, 110, 97, 108, 116, 121, 32, 105, 110, 116, 101, 114, 101, 115, 116, 32, 112, 114, 105, 110, 99, 105, 112, 97, 108, 59, 32, 125]⟩
theorem sB_T0B : sB T0B = T0 := by decide +kernel
theorem c_text09 (K : Out → List VObj → Prop) (h : K (.ret (.str T0B)) []) : VCall Tryz.prog 16 [] [] K := by
  refine call_fun [] 0 Tryz.func16 (by rfl) (by rfl) ?_
  conv => whnf
  (repeat' first | (refine step_go [] ?_; conv => whnf) | (refine two (fun g => ?_) (fun g => ?_) <;> (try simp only [bsx] at g) <;> (conv => whnf)) | (refine And.intro rfl ?_; conv => whnf) | fail)
  exact h
set_option maxHeartbeats 4000000 in
theorem c_awake (K : Out → List VObj → Prop) (h : K (.ret (.bool true)) []) : VCall Tryz.prog 9 [] [] K := by
  have hn0 : sB ⟨#[]⟩ = [] := rfl
  obtain ⟨P, hP⟩ : ∃ P, P = homeP := ⟨_, rfl⟩
  have hp := parse_T0
  rw [← hP] at hp
  have p1 : P.name.toList = (⟨#[104, 111, 109, 101]⟩ : ByteArray).toList := by rw [hP]; rfl
  have p2 : P.times = 12 := by rw [hP]; rfl
  have p3 : P.over = 1 := by rw [hP]; rfl
  clear hP
  obtain ⟨a0, ha0⟩ : ∃ a : Int, a = 0 := ⟨_, rfl⟩
  obtain ⟨a7, ha7⟩ : ∃ a : Int, a = 7 := ⟨_, rfl⟩
  have hp : parseS T0 = (P, a0, a0) := by rw [ha0]; exact hp
  have hq : parseS [] = (prod0, a0, a7) := by rw [ha0, ha7]; exact parse_nil
  refine call_fun [] 0 Tryz.func9 (by rfl) (by rfl) ?_
  conv => whnf
  (repeat' first | (refine step_go [] ?_; conv => whnf) | (refine two (fun g => ?_) (fun g => ?_) <;> (try simp only [bsx] at g) <;> (conv => whnf)) | (refine And.intro rfl ?_; conv => whnf) | fail)
  refine c_text09 _ ?_
  conv => whnf
  (repeat' first | (refine step_go [] ?_; conv => whnf) | (refine two (fun g => ?_) (fun g => ?_) <;> (try simp only [bsx] at g) <;> (conv => whnf)) | (refine And.intro rfl ?_; conv => whnf) | fail)
  refine c_Parse T0B (by decide +kernel) _ ?_
  rw [sB_T0B, hp]
  conv => whnf
  (repeat' first | (refine step_go [] ?_; conv => whnf) | (refine two (fun g => ?_) (fun g => ?_) <;> (try simp only [bsx] at g) <;> (conv => whnf)) | (refine And.intro rfl ?_; conv => whnf) | fail)
  refine c_Parse ⟨#[]⟩ (by decide) _ ?_
  rw [hn0, hq]
  conv => whnf
  (repeat' first | (refine step_go [] ?_; conv => whnf) | (refine two (fun g => ?_) (fun g => ?_) <;> (try simp only [bsx] at g) <;> (conv => whnf)) | (refine And.intro rfl ?_; conv => whnf) | fail)
  all_goals first
    | exact absurd (by assumption) (by assumption)
    | exact absurd ha0 (by assumption)
    | exact absurd p1 (by assumption)
    | exact absurd p2 (by assumption)
    | exact absurd p3 (by assumption)
    | exact absurd ha7 (by assumption)
    | (refine Eq.mp (congrArg (fun b => K (.ret (.bool b)) []) ?_) h
       simp [ha0, ha7, p2, p3]; done)
    | trace_state
theorem parse_len (s : List Int) : (parseS s).1.resets.length < 1000000 ∧ (parseS s).1.late.length < 1000000 ∧ (parseS s).1.hol.length < 1000000 := by
  have h0 : prod0.resets.length < 1000000 ∧ prod0.late.length < 1000000 ∧ prod0.hol.length < 1000000 := by refine ⟨?_, ?_, ?_⟩ <;> decide
  unfold parseS
  split
  · exact h0
  · split
    · exact h0
    · split
      · rename_i q r hq hc
        have hc := hc.2
        have h1 := hc.2.1.2.2.1
        have h2 := hc.2.2.2.1.1
        have h3 := hc.2.2.2.2.1.1
        exact ⟨by simp only; omega, by simp only; omega, by simp only; omega⟩
      · exact h0
theorem hgi (W : World) (hsh : W.ShapedOpen Tryz.prog) : ∀ b, globI b = true → ∃ m, W.cell? ⟨b, 0, none⟩ = some (.int .i64 m) := by
  intro b hb
  match b, hb with
  | 0, _ => exact cell_of_shapedOpen_int (P := Tryz.prog) (g := 0) (t := 3) (zero := #[.int .i64 0]) hsh (of_decide_eq_true (by kernel_rfl)) (by kernel_rfl) rfl (by kernel_rfl) (by kernel_rfl) (by kernel_rfl)
end CR9

namespace CRA
open Go Go.Proofs VL D1 B10 B12 B13 BB5 BB6 BB10 BB14 C1 C2 C3 C4 C6 C11 C15 C20 C22 C28 C28b C28d C29 C30 C33 CR7 CR8 CR9
set_option maxRecDepth 100000
theorem lexF_bad : ∀ (f : Nat) (l : List Int) (i p : Nat), l.length < f → lexF f l i = .bad p → p ≤ i + l.length
  | 0, l, i, p, hf, h => by omega
  | f + 1, l, i, p, hf, h => by
    have hs := skipN_le false l
    unfold lexF at h
    split at h
    · cases h
    · rename_i c r hd
      have hlen := congrArg List.length hd
      rw [List.length_drop, List.length_cons] at hlen
      split at h
      · injection h with h; omega
      · rename_i kd hk
        have htw := congrArg List.length (List.takeWhile_append_dropWhile (p := goesB kd) (l := r)); rw [List.length_append] at htw
        cases h2 : lexF f (r.dropWhile (goesB kd)) (i + skipN false l + 1 + (r.takeWhile (goesB kd)).length) with
        | bad p' =>
          rw [h2] at h
          injection h with h; subst h
          have := lexF_bad f _ _ p' (by omega) h2
          omega
        | ok k2 => rw [h2] at h; cases h
theorem lex_place {l : List Int} {p : Nat} {e : Int} (h : lexS l = .error (p, e)) : p ≤ l.length := by
  unfold lexS at h
  split at h
  · injection h with h; injection h with h1 h2; omega
  · split at h
    · cases h
    · rename_i p' h'
      injection h with h; injection h with h1 h2
      have := lexF_bad _ _ _ _ (by omega) h'
      omega
theorem lex_at {l : List Int} {k : List C3.Tok} (h : lexS l = .ok k) : ∀ t ∈ k, t.at_ ≤ l.length := by
  unfold lexS at h
  split at h
  · cases h
  · split at h
    · rename_i t ht
      injection h with h; subst h
      obtain ⟨a1, a2, a3⟩ := lexF_props _ _ _ _ ht
      intro t ht
      have := (a2 t ht).2.2.2; omega
    · cases h
theorem lex_end {l : List Int} {k : List C3.Tok} (h : lexS l = .ok k) : endT k := by
  unfold lexS at h
  split at h
  · cases h
  · split at h
    · rename_i t ht
      injection h with h; subst h
      exact (lexF_props _ _ _ _ ht).1
    · cases h
def atT (l : List C3.Tok) (p : Nat) (e : Int) : Prop := (e = 7 ∨ e = 8) ∧ ∃ t ∈ l, t.at_ = p
theorem next_in {l : List C3.Tok} (h : endT l) : (nextT l).1 ∈ l ∧ ∀ t ∈ (nextT l).2, t ∈ l := by
  obtain ⟨_, t, r, hd, e1, e2⟩ := endT_next h
  rw [e1]
  subst hd
  refine ⟨by simp, ?_⟩
  rcases e2 with ⟨_, e2⟩ | ⟨_, e2⟩ <;> rw [e2]
  · exact fun t h => h
  · exact fun t h => .tail _ h
theorem atT.mono {l l' : List C3.Tok} {p : Nat} {e : Int} (h : atT l p e) (hs : ∀ t ∈ l, t ∈ l') : atT l' p e := by
  obtain ⟨h1, t, h2, h3⟩ := h
  exact ⟨h1, t, hs t h2, h3⟩
def GR {α : Type} (l : List C3.Tok) : Res α → Prop
  | .ok _ r => endT r ∧ ∀ t ∈ r, t ∈ l
  | .err p e => atT l p e
def Good {α : Type} (f : List C3.Tok → Res α) : Prop := ∀ l, endT l → GR l (f l)
theorem GR.mono {α : Type} {l l' : List C3.Tok} {x : Res α} (h : GR l x) (hs : ∀ t ∈ l, t ∈ l') : GR l' x := by
  cases x with
  | ok a r => exact ⟨h.1, fun t ht => hs t (h.2 t ht)⟩
  | err p e => exact atT.mono h hs
theorem good_want (k : Int) (w : List Int) : Good (wantS k w) := by
  intro l hl
  obtain ⟨h1, h2⟩ := next_in hl
  unfold wantS
  split
  · exact ⟨(endT_next hl).1, h2⟩
  · exact ⟨.inl rfl, _, h1, rfl⟩
theorem good_bind {α β : Type} {f : List C3.Tok → Res α} {g : α → List C3.Tok → Res β} (hf : Good f) (hg : ∀ a, Good (g a)) : Good (fun l => (f l).bind g) := by
  intro l hl
  have h1 := hf l hl
  simp only
  cases hc : f l with
  | err p e => rw [hc] at h1; exact h1
  | ok a r =>
    rw [hc] at h1
    have h2 := hg a r h1.1
    show GR l (g a r)
    cases hc2 : g a r with
    | err p e => rw [hc2] at h2; exact h2.mono h1.2
    | ok b r2 => rw [hc2] at h2; exact ⟨h2.1, fun t ht => h1.2 t (h2.2 t ht)⟩
theorem good_ok {α : Type} (a : α) : Good (fun l => Res.ok a l) := fun l hl => ⟨hl, fun t h => h⟩
theorem good_wantb {β : Type} {k : Int} {w : List Int} {g : C3.Tok → List C3.Tok → Res β} (hg : ∀ l t r, endT l → wantS k w l = .ok t r → t ∈ l → endT r → (∀ t ∈ r, t ∈ l) → GR l (g t r)) : Good (fun l => (wantS k w l).bind g) := by
  intro l hl
  have h1 := good_want k w l hl
  obtain ⟨h3, h4⟩ := next_in hl
  simp only
  cases hc : wantS k w l with
  | err p e => rw [hc] at h1; exact h1
  | ok a r =>
    rw [hc] at h1
    have ha : a ∈ l := by
      unfold wantS at hc
      split at hc
      · injection hc with h1 h2; rw [← h1]; exact h3
      · cases hc
    exact hg l a r hl hc ha h1.1 h1.2
theorem good_number : Good numberS := by
  refine good_wantb fun l t r hl _ ht hr hs => ?_
  show GR l ((match numS t.text with | some n => Res.ok n r | none => .err t.at_ 7))
  split
  · exact ⟨hr, hs⟩
  · exact ⟨.inl rfl, t, ht, rfl⟩
theorem good_taken (f : List Int → Int × Int) : Good (takenS f) := by
  refine good_wantb fun l t r hl _ ht hr hs => ?_
  split
  · exact ⟨hr, hs⟩
  · exact ⟨.inl rfl, t, ht, rfl⟩
theorem good_pick (ws : List (List Int)) : Good (pickS ws) := by
  refine good_wantb fun l t r hl _ ht hr hs => ?_
  split
  · exact ⟨hr, hs⟩
  · exact ⟨.inl rfl, t, ht, rfl⟩
theorem good_order : ∀ (n : Nat) (a : List Int), Good (orderN n a)
  | 0, a => good_ok a
  | n + 1, a => by
    intro l hl
    have h1 := good_pick owords l hl
    obtain ⟨h3, _⟩ := next_in hl
    show GR l ((pickS owords l).bind (fun k r => if k ∈ a then .err (nextT l).1.at_ 7 else orderN n (a ++ [k]) r))
    cases hc : pickS owords l with
    | err p e => rw [hc] at h1; exact h1
    | ok k r =>
      rw [hc] at h1
      show GR l ((if k ∈ a then Res.err (nextT l).1.at_ 7 else orderN n (a ++ [k]) r))
      by_cases hk : k ∈ a
      · rw [if_pos hk]; exact ⟨.inl rfl, _, h3, rfl⟩
      · rw [if_neg hk]
        have h2 := good_order n (a ++ [k]) r h1.1
        cases hc2 : orderN n (a ++ [k]) r with
        | err p e => rw [hc2] at h2; exact h2.mono h1.2
        | ok b r2 => rw [hc2] at h2; exact ⟨h2.1, fun t ht => h1.2 t (h2.2 t ht)⟩
theorem good_clause {w : List Int} {p : Prod} {l : List C3.Tok} {x : Res Prod} (hl : endT l) (hx : clauseS w p l = some x) : GR l (x) := by
  have key : ∀ {f : List C3.Tok → Res Prod}, Good f → some (f l) = some x → GR l (x) := fun hf h => by
    injection h with h
    rw [← h]; exact hf l hl
  unfold clauseS at hx
  rcases ite_or hx with hx | hx
  · exact key (good_bind (good_pick _) fun _ => good_ok _) hx
  rcases ite_or hx with hx | hx
  · exact key (good_bind (good_pick _) fun _ => good_ok _) hx
  rcases ite_or hx with hx | hx
  · exact key (good_bind (good_pick _) fun _ => good_ok _) hx
  rcases ite_or hx with hx | hx
  · exact key (good_bind good_number fun _ => good_ok _) hx
  rcases ite_or hx with hx | hx
  · exact key (good_bind good_number fun _ => good_ok _) hx
  rcases ite_or hx with hx | hx
  · exact key (good_bind good_number fun _ => good_ok _) hx
  rcases ite_or hx with hx | hx
  · exact key (good_bind (good_taken _) fun _ => good_ok _) hx
  rcases ite_or hx with hx | hx
  · exact key (good_bind (good_taken _) fun _ => good_ok _) hx
  rcases ite_or hx with hx | hx
  · exact key (good_bind good_number fun _ => good_bind (good_taken _) fun _ => good_ok _) hx
  rcases ite_or hx with hx | hx
  · exact key (good_bind good_number fun _ => good_bind (good_taken _) fun _ => good_ok _) hx
  rcases ite_or hx with hx | hx
  · exact key (good_bind (good_taken _) fun _ => good_ok _) hx
  rcases ite_or hx with hx | hx
  · exact key (good_bind (good_taken _) fun _ => good_ok _) hx
  rcases ite_or hx with hx | hx
  · exact key (good_bind (good_order _ _) fun _ => good_ok _) hx
  rcases ite_or hx with hx | hx
  · exact key (good_bind (good_pick _) fun _ => good_ok _) hx
  rcases ite_or hx with hx | hx
  · exact key (good_bind (good_pick _) fun _ => good_ok _) hx
  cases hx
theorem good_group : ∀ (f d : Nat) (p : Prod) (sn : List (List Int)) (l : List C3.Tok), endT l → l.length < f → GR l (groupS f d l p sn)
  | 0, d, p, sn, l, hl, hf => by omega
  | f + 1, d, p, sn, l, hl, hf => by
    obtain ⟨h1, h2⟩ := next_in hl
    have hen := (endT_next hl).1
    have hlt := next_lt hl
    rw [group_step]
    by_cases hA : (nextT l).1.kind = 3 ∧ (nextT l).1.text = [125]
    · rw [if_pos hA]; exact ⟨hen, h2⟩
    rw [if_neg hA]
    by_cases hB : (nextT l).1.kind = 3 ∧ (nextT l).1.text = [123]
    · rw [if_pos hB]
      have hlt := hlt (by omega)
      by_cases hd : 32 ≤ d
      · rw [if_pos hd]; exact ⟨.inr rfl, _, h1, rfl⟩
      rw [if_neg hd]
      have g1 := good_group f (d + 1) p sn (nextT l).2 hen (by omega)
      cases hc : groupS f (d + 1) (nextT l).2 p sn with
      | err p e => rw [hc] at g1; exact g1.mono h2
      | ok q r =>
        rw [hc] at g1
        have hle := groupS_le _ hc
        have g2 := good_group f d q.1 q.2 r g1.1 (by omega)
        show GR l (groupS f d r q.1 q.2)
        cases hc2 : groupS f d r q.1 q.2 with
        | err p e => rw [hc2] at g2; exact g2.mono fun t ht => h2 t (g1.2 t ht)
        | ok q2 r2 => rw [hc2] at g2; exact ⟨g2.1, fun t ht => h2 t (g1.2 t (g2.2 t ht))⟩
    rw [if_neg hB]
    by_cases hC : (nextT l).1.kind = 1
    · rw [if_neg (fun h => h hC)]
      have hlt := hlt (by omega)
      cases hc : clauseS (nextT l).1.text p (nextT l).2 with
      | none => exact ⟨.inl rfl, _, h1, rfl⟩
      | some x =>
        show GR l ((if (nextT l).1.text ∈ sn ∧ manyW (nextT l).1.text = false then Res.err (nextT l).1.at_ 7 else x.bind fun q r => (wantS 3 [59] r).bind fun _ r => groupS f d r q ((nextT l).1.text :: sn)))
        by_cases hD : (nextT l).1.text ∈ sn ∧ manyW (nextT l).1.text = false
        · rw [if_pos hD]; exact ⟨.inl rfl, _, h1, rfl⟩
        rw [if_neg hD]
        have g1 := good_clause hen hc
        cases x with
        | err p e => exact g1.mono h2
        | ok q r =>
          have hle := (clauseS_le hc rfl).1
          have g2 := good_want 3 [59] r g1.1
          show GR l ((wantS 3 [59] r).bind (fun _ r => groupS f d r q ((nextT l).1.text :: sn)))
          cases hc2 : wantS 3 [59] r with
          | err p e => rw [hc2] at g2; exact g2.mono fun t ht => h2 t (g1.2 t ht)
          | ok t r2 =>
            rw [hc2] at g2
            have hle2 := wantS_le hc2
            have g3 := good_group f d q ((nextT l).1.text :: sn) r2 g2.1 (by omega)
            show GR l (groupS f d r2 q ((nextT l).1.text :: sn))
            cases hc3 : groupS f d r2 q ((nextT l).1.text :: sn) with
            | err p e => rw [hc3] at g3; exact g3.mono fun t ht => h2 t (g1.2 t (g2.2 t ht))
            | ok q2 r3 => rw [hc3] at g3; exact ⟨g3.1, fun t ht => h2 t (g1.2 t (g2.2 t (g3.2 t ht)))⟩
    · rw [if_pos hC]; exact ⟨.inl rfl, _, h1, rfl⟩
theorem good_text : Good textP := by
  refine good_bind (good_want _ _) fun _ => good_wantb fun l t r hl _ ht hr hs => ?_
  by_cases hn : nameP t.text
  · rw [if_pos hn]
    have h : Good (fun l => (wantS 3 [123] l).bind fun _ l => (groupS (l.length + 1) 1 l { prod0 with name := toBA t.text, over := 1, roll := 1 } []).bind fun q l => (wantS 0 [] l).bind fun _ l => Res.ok q l) :=
      good_bind (good_want _ _) fun _ => good_bind (f := fun l => groupS (l.length + 1) 1 l { prod0 with name := toBA t.text, over := 1, roll := 1 } []) (fun l hl => good_group _ _ _ _ l hl (Nat.lt_succ_self _)) fun q => good_bind (good_want _ _) fun _ => good_ok q
    have h2 := h r hr
    simp only at h2
    exact h2.mono hs
  · rw [if_neg hn]; exact ⟨.inl rfl, t, ht, rfl⟩
theorem text_place {l : List C3.Tok} {p : Nat} {e : Int} (hl : endT l) (h : textP l = .err p e) : atT l p e := by
  have := good_text l hl
  rw [h] at this; exact this
set_option maxHeartbeats 4000000 in
theorem parse_place (s : List Int) : ((parseS s).2.2 = 0 ∧ (parseS s).2.1 = 0) ∨ (((parseS s).2.2 = 3 ∨ (parseS s).2.2 = 6 ∨ (parseS s).2.2 = 7 ∨ (parseS s).2.2 = 8 ∨ (parseS s).2.2 = 9) ∧ 0 ≤ (parseS s).2.1 ∧ (parseS s).2.1 ≤ s.length ∧ (parseS s).1 = prod0) := by
  have hw : ∀ {k w l p e}, wantS k w l = .err p e → e = 7 ∧ p = (nextT l).1.at_ := fun {k w l p e} h => by
    unfold wantS at h
    split at h
    · cases h
    · injection h with h1 h2; exact ⟨h2.symm, h1.symm⟩
  unfold parseS
  split
  · rename_i p e hl
    rcases lexS_err hl with ⟨h1, h2⟩ | h1
    · exact .inr ⟨.inl h1, by simp only; omega, by simp only; omega, rfl⟩
    · exact .inr ⟨.inr (.inl h1), by simp only; omega, by simp only; have := lex_place hl; omega, rfl⟩
  · rename_i l hl
    have hpos := lex_at hl
    have hend := lex_end hl
    split
    · rename_i p e ht
      obtain ⟨h1, h2⟩ := text_place hend ht
      obtain ⟨t, ht, h2⟩ := h2
      have := hpos t ht
      exact .inr ⟨by rcases h1 with h1 | h1 <;> simp [h1], by simp only; omega, by simp only; omega, rfl⟩
    · split
      · exact .inl ⟨rfl, rfl⟩
      · have := hpos _ (by have := next_mem (k := l) (i := 0) (by rw [List.drop_zero]; exact hend); rw [List.drop_zero] at this; exact this)
        exact .inr ⟨.inr (.inr (.inr (.inr rfl))), by simp only; omega, by simp only; omega, rfl⟩
theorem g_places (s : ByteArray) : VCall Tryz.prog 4 [.str s] [] fun out _ => out = .ret (.bool true) := by
  have hl := parse_len (sB s)
  have hpl := parse_place (sB s)
  have hsl := sB_len s
  refine call_fun [] 0 Tryz.func4 (by rfl) (by rfl) ?_
  conv => whnf
  (repeat' first | (refine step_go [] ?_; conv => whnf) | (refine two (fun g => ?_) (fun g => ?_) <;> (try simp only [bsx] at g) <;> (conv => whnf)) | (refine And.intro rfl ?_; conv => whnf) | (refine c_awake _ ?_; conv => whnf) | fail)
  have hp := c_Parse s (by omega)
  obtain ⟨X, hX⟩ : ∃ X, X = parseS (sB s) := ⟨_, rfl⟩
  rw [← hX] at hl hp hpl
  obtain ⟨P, A, E⟩ := X
  clear hX
  simp only at hl hp hpl
  rcases hpl with ⟨e0, a0⟩ | ⟨ee, a1, a2, rfl⟩
  · refine hp _ ?_
    conv => whnf
    (repeat' first | (refine step_go [] ?_; conv => whnf) | (refine two (fun g => ?_) (fun g => ?_) <;> (try simp only [bsx] at g) <;> (conv => whnf)) | (refine And.intro rfl ?_; conv => whnf) | (refine c_awake _ ?_; conv => whnf) | fail)
    all_goals first
      | (exfalso; omega)
      | (refine congrArg (fun b => Out.ret (V.bool b)) ?_
         simp; omega)
      | trace_state
  · refine hp _ ?_
    conv => whnf
    (repeat' first | (refine step_go [] ?_; conv => whnf) | (refine two (fun g => ?_) (fun g => ?_) <;> (try simp only [bsx] at g) <;> (conv => whnf)) | (refine And.intro rfl ?_; conv => whnf) | (refine c_awake _ ?_; conv => whnf) | fail)
    all_goals first
      | (exfalso; omega)
      | (refine VCall.args (args' := [encP prod0, encP prod0]) (.cons (.eq rfl) (.cons (.agg ?_) .nil)) rfl (c_same prod0 hl.1 hl.2.1 hl.2.2 _ ?_)
         · (repeat' first | exact VQs.nil | refine VQs.cons VQ.no ?_ | refine VQs.cons VQ.spare ?_ | refine VQs.cons (VQ.eq rfl) ?_)
         · conv => whnf
           (repeat' first | (refine step_go [] ?_; conv => whnf) | (refine two (fun g => ?_) (fun g => ?_) <;> (try simp only [bsx] at g) <;> (conv => whnf)) | (refine And.intro rfl ?_; conv => whnf) | fail)
           try rfl)
      | trace_state
end CRA

namespace CRB
open Go Go.Proofs VL D1 B10 B12 B13 BB5 BB6 BB10 BB14 C1 C2 C3 C4 C6 C11 C15 C20 C22 C28 C28b C28d C29 C30 C33 CR7 CR8 CR9 CRA
set_option maxRecDepth 100000
noncomputable def errE (s : List Int) (e : Int) : Bool := match readC s with
  | some (.err _ e') => decide (e' = e)
  | _ => false
theorem is_errE {s : List Int} {e : Int} (h : errE s e = true) : ∃ p : Nat, parseS s = (prod0, (p : Int), e) := by
  unfold errE at h
  split at h
  · rename_i p' e' hr
    rw [decide_eq_true_eq] at h
    rw [h] at hr
    exact ⟨_, read_err hr⟩
  · cases h
noncomputable def noC (s : List Int) : Bool := match readC s, lexS s with
  | some (.ok q _), .ok l => !wholeC q.2 && decide ((nextT l).1.at_ = 0)
  | _, _ => false
theorem is_no {s : List Int} (h : noC s = true) : parseS s = (prod0, 0, 9) := by
  unfold noC at h
  split at h
  · rename_i q r l hq hl
    simp only [Bool.and_eq_true, Bool.not_eq_true', decide_eq_true_eq] at h
    obtain ⟨p, hp, hp2⟩ := read_no hq (fun hw => by rw [(wholeC_iff _).2 hw] at h; exact absurd h.1 (by decide))
    rw [hp, hp2 _ hl, h.2]; rfl
  · cases h
theorem c_ParseNo (s : ByteArray) (hs : s.size < 1000000) (h : noC (sB s) = true) (K : Out → List VObj → Prop) (hk : K (.ret (.tup [encP prod0, .int .i64 0, .int .i64 9])) []) : VCall Tryz.prog 10 [.str s] [] K :=
  c_Parse s hs K (by rw [is_no h]; exact hk)
theorem c_ParseE (s : ByteArray) (e : Int) (hs : s.size < 1000000) (h : errE (sB s) e = true) (K : Out → List VObj → Prop) (hk : ∀ p : Int, K (.ret (.tup [encP prod0, .int .i64 p, .int .i64 e])) []) : VCall Tryz.prog 10 [.str s] [] K := by
  obtain ⟨p, hp⟩ := is_errE h
  exact c_Parse s hs K (by rw [hp]; exact hk p)
theorem same0 (K : Out → List VObj → Prop) (h : K (.ret (.bool true)) []) : VCall Tryz.prog 12 [encP prod0, .agg zP] [] K := by
  refine VCall.args (args' := [encP prod0, encP prod0]) (.cons (.eq rfl) (.cons (.agg ?_) .nil)) rfl (c_same prod0 (by decide) (by decide) (by decide) _ h)
  unfold zP cellsP
  (repeat' first | exact VQs.nil | refine VQs.cons VQ.no ?_ | refine VQs.cons VQ.spare ?_ | refine VQs.cons (VQ.eq rfl) ?_)
theorem mod14 (a : Int) : ∃ w : Nat, w < 14 ∧ IntKind.i64.wrap ((IntKind.u64.wrap a).tmod 14) = w := by
  have h0 : 0 ≤ IntKind.u64.wrap a := by rw [IntKind.wrap_u64]; omega
  have h1 : (IntKind.u64.wrap a).tmod 14 = IntKind.u64.wrap a % 14 := Int.tmod_eq_emod_of_nonneg h0
  refine ⟨(IntKind.u64.wrap a % 14).toNat, by omega, ?_⟩
  rw [h1, wrap64 (by omega) (by omega)]; omega
set_option maxHeartbeats 16000000 in
theorem g_less (what : Int) : VCall Tryz.prog 6 [.int .i64 what] [] fun out _ => out = .ret (.bool true) := by
  obtain ⟨w, hw, hmod⟩ := mod14 what
  refine call_fun [] 0 Tryz.func6 (by rfl) (by rfl) ?_
  conv => whnf
  (repeat' first | (refine step_go [] ?_; conv => whnf) | (refine two (fun g => ?_) (fun g => ?_) <;> (try simp only [bsx] at g) <;> (conv => whnf)) | (refine And.intro rfl ?_; conv => whnf) | (refine ⟨by decide, ?_⟩; conv => whnf) | fail)
  rw [hmod]
  have hc : (w = 0 ∨ w = 1 ∨ w = 2 ∨ w = 3 ∨ w = 4 ∨ w = 5 ∨ w = 6) ∨ (w = 7 ∨ w = 8 ∨ w = 9 ∨ w = 10 ∨ w = 11 ∨ w = 12 ∨ w = 13) := by omega
  clear hmod hw
  rcases hc with hc | hc
  · rcases hc with rfl | rfl | rfl | rfl | rfl | rfl | rfl
    all_goals
      (repeat' first | (refine step_go [] ?_; conv => whnf) | (refine two (fun g => ?_) (fun g => ?_) <;> (try simp only [bsx] at g) <;> (conv => whnf)) | (refine And.intro rfl ?_; conv => whnf) | (refine loop_round [] ?_; conv => whnf) | (refine ⟨_, Weak.refl, ?_⟩; conv => whnf) | (refine ⟨by decide, _, rfl, rfl, ?_⟩; conv => whnf) | (refine ⟨by decide +kernel, ?_⟩; conv => whnf) | fail)
      refine c_ParseNo _ (by decide +kernel) (by kernel_rfl) _ ?_
      conv => whnf
      (repeat' first | (refine step_go [] ?_; conv => whnf) | (refine two (fun g => ?_) (fun g => ?_) <;> (try simp only [bsx] at g) <;> (conv => whnf)) | (refine And.intro rfl ?_; conv => whnf) | (refine c_awake _ ?_; conv => whnf) | fail)
      refine same0 _ ?_
      conv => whnf
      (repeat' first | (refine step_go [] ?_; conv => whnf) | (refine two (fun g => ?_) (fun g => ?_) <;> (try simp only [bsx] at g) <;> (conv => whnf)) | (refine And.intro rfl ?_; conv => whnf) | fail)
      try rfl
  · rcases hc with rfl | rfl | rfl | rfl | rfl | rfl | rfl
    all_goals
      (repeat' first | (refine step_go [] ?_; conv => whnf) | (refine two (fun g => ?_) (fun g => ?_) <;> (try simp only [bsx] at g) <;> (conv => whnf)) | (refine And.intro rfl ?_; conv => whnf) | (refine loop_round [] ?_; conv => whnf) | (refine ⟨_, Weak.refl, ?_⟩; conv => whnf) | (refine ⟨by decide, _, rfl, rfl, ?_⟩; conv => whnf) | (refine ⟨by decide +kernel, ?_⟩; conv => whnf) | fail)
      refine c_ParseE _ 7 (by decide +kernel) (by kernel_rfl) _ fun p => ?_
      conv => whnf
      (repeat' first | (refine step_go [] ?_; conv => whnf) | (refine two (fun g => ?_) (fun g => ?_) <;> (try simp only [bsx] at g) <;> (conv => whnf)) | (refine And.intro rfl ?_; conv => whnf) | (refine c_awake _ ?_; conv => whnf) | fail)
      refine same0 _ ?_
      conv => whnf
      (repeat' first | (refine step_go [] ?_; conv => whnf) | (refine two (fun g => ?_) (fun g => ?_) <;> (try simp only [bsx] at g) <;> (conv => whnf)) | (refine And.intro rfl ?_; conv => whnf) | fail)
      try rfl
end CRB

namespace CRC
open Go Go.Proofs VL D1 D3 B10 B12 B13 BB5 BB6 BB7 BB10 BB14 C1 C2 C3 C4 C6 C11 C15 C20 C22 C28 C28b C28d C29 C30 C33 CR7 CR8 CR9 CRA CRB
set_option maxRecDepth 100000
def wA : List Int := [112, 114, 111, 100, 117, 99, 116, 32, 97, 32, 123, 32, 116, 105, 109, 101, 115, 32]
def wB : List Int := [59, 32, 99, 111, 117, 110, 116, 32, 97, 99, 116, 117, 97, 108, 59, 32, 114, 111, 117, 110, 100, 32, 100, 111, 119, 110, 59, 32, 107, 105, 110, 100, 32, 98, 117, 108, 108, 101, 116, 59, 32, 101, 118, 101, 114, 121, 32, 49, 50, 59, 32, 114, 97, 116, 101, 32, 48, 37, 59, 32, 111, 114, 100, 101, 114, 32, 112, 114, 105, 110, 99, 105, 112, 97, 108, 32, 105, 110, 116, 101, 114, 101, 115, 116, 32, 112, 101, 110, 97, 108, 116, 121, 32, 102, 101, 101, 115, 59, 32, 125]
def dgs (n : Nat) : List Int := if n < 10 then dgw 1 n else if n < 100 then dgw 2 n else dgw 3 n
theorem dgs_eq (n : Nat) (h : n < 1000) (h1 : 1 ≤ n) : dgn 1 n = dgs n := by
  have e : dg n = dgs n := by
    unfold dgs
    split
    · exact dg_dgw 0 n (by omega) (by omega)
    · split
      · exact dg_dgw 1 n (by omega) (by omega)
      · exact dg_dgw 2 n (by omega) (by omega)
  unfold dgn
  rw [e]
  have : 1 ≤ (dgs n).length := by
    unfold dgs
    split
    · rw [dgw_len]; omega
    · split <;> (rw [dgw_len]; omega)
  rw [show 1 - (dgs n).length = 0 by omega]; rfl
def woP (n : Nat) : Prod := { prod0 with name := ⟨#[97]⟩, count := 3, rnd := 3, kind := 3, every := 12, times := n, o1 := 4, o2 := 3, o3 := 2, o4 := 1, over := 1, roll := 1 }
theorem wo_all : ∀ n, n < 601 → n = 0 ∨ isC (wA ++ dgs n ++ wB) (woP n) = true := by decide +kernel
theorem wo_ok (n : Nat) (h1 : 1 ≤ n) (h2 : n ≤ 600) : checkP (woP n) := by
  refine ⟨⟨⟨(nameC_iff _).1 ?_, by simp [woP, prod0], by simp [woP, prod0], by simp [woP, prod0]⟩, by unfold shape2; simp [woP, prod0], ?_⟩, ⟨by simp [woP, prod0], by simp [woP, prod0], by simp [woP, prod0], trivial⟩, ⟨by unfold orderP; simp [woP, prod0], by simp [woP, prod0]⟩, ⟨by simp [woP, prod0], by simp [woP, prod0], by simp [woP, prod0], trivial⟩, ⟨⟨by simp [woP, prod0], trivial⟩, by simp [woP, prod0], by simp [woP, prod0]⟩⟩
  · show nameC (sB ⟨#[97]⟩) = true
    decide
  · unfold shape3 woP prod0
    simp only
    refine ⟨⟨by omega, by omega⟩, ⟨by omega, by omega⟩, .inr (by first | rfl | trivial)⟩
theorem mod600 (a : Int) : ∃ n : Nat, 1 ≤ n ∧ n ≤ 600 ∧ IntKind.i64.wrap (1 + IntKind.i64.wrap ((IntKind.u64.wrap a).tmod 600)) = n := by
  have h0 : 0 ≤ IntKind.u64.wrap a := by rw [IntKind.wrap_u64]; omega
  have h1 : (IntKind.u64.wrap a).tmod 600 = IntKind.u64.wrap a % 600 := Int.tmod_eq_emod_of_nonneg h0
  refine ⟨(IntKind.u64.wrap a % 600).toNat + 1, by omega, by omega, ?_⟩
  rw [h1, wrap64 (x := IntKind.u64.wrap a % 600) (by omega) (by omega), wrap64 (by omega) (by omega)]; omega
theorem dgs_b (n : Nat) : ∀ x ∈ dgs n, 0 ≤ x ∧ x < 256 := by
  have hd : ∀ w n, ∀ x ∈ dgw w n, 0 ≤ x ∧ x < 256 := fun w n x hx => by have := dgw_dig w n x hx; unfold Dig at this; omega
  unfold dgs
  split
  · exact hd _ _
  · split <;> exact hd _ _
end CRC

namespace CRD
open Go Go.Proofs VL D1 D3 B10 B12 B13 BB5 BB6 BB7 BB10 BB14 C1 C2 C3 C4 C6 C11 C15 C20 C22 C28 C28b C28d C29 C30 C33 CR7 CR8 CR9 CRA CRB CRC
set_option maxRecDepth 100000
theorem str_leN {a b : Nat} (h : a + b < 1000000) : (((a + b : Nat) : Int) ≤ IntKind.i64.max) := Int.le_trans (b := 1000000) (by omega) (by decide)
theorem dgs_len (n : Nat) : (dgs n).length ≤ 3 := by
  unfold dgs
  split
  · rw [dgw_len]; omega
  · split <;> (rw [dgw_len]; omega)
theorem szW1 (n : Nat) (a : ByteArray) (ha : a.size ≤ 1000) : (((a.size + (toBA (dgs n)).size : Nat) : Int) ≤ IntKind.i64.max) := by
  have := dgs_len n
  exact str_leN (by rw [toBA_size]; omega)
theorem szW2 (n : Nat) (a b : ByteArray) (ha : a.size ≤ 1000) (hb : b.size ≤ 1000) : ((((a ++ toBA (dgs n)).size + b.size : Nat) : Int) ≤ IntKind.i64.max) := by
  have := dgs_len n
  exact str_leN (by rw [ByteArray.size_append, toBA_size]; omega)
theorem c_ParseW (n : Nat) (hn1 : 1 ≤ n) (hn2 : n ≤ 600) (a b : ByteArray) (ha : a.size ≤ 1000) (hb : b.size ≤ 1000) (ea : sB a = wA) (eb : sB b = wB) (K : Out → List VObj → Prop) (hk : K (.ret (.tup [encP (woP n), .int .i64 0, .int .i64 0])) []) :
    VCall Tryz.prog 10 [.str (a ++ toBA (dgs n) ++ b)] [] K := by
  have hp := is_ok ((wo_all n (by omega)).resolve_left (by omega)) (wo_ok n hn1 hn2)
  have := dgs_len n
  refine c_Parse _ (by rw [ByteArray.size_append, ByteArray.size_append, toBA_size]; omega) _ ?_
  rw [sB_app, sB_app, ea, eb, sB_toBA (dgs_b n), hp]
  exact hk
set_option maxHeartbeats 4000000 in
theorem g_without (times : Int) : VCall Tryz.prog 8 [.int .i64 times] [] fun out _ => out = .ret (.bool true) := by
  obtain ⟨n, hn1, hn2, hmod⟩ := mod600 times
  refine call_fun [] 0 Tryz.func8 (by rfl) (by rfl) ?_
  conv => whnf
  (repeat' first | (refine step_go [] ?_; conv => whnf) | (refine two (fun g => ?_) (fun g => ?_) <;> (try simp only [bsx] at g) <;> (conv => whnf)) | (refine And.intro rfl ?_; conv => whnf) | (refine ⟨by decide, ?_⟩; conv => whnf) | fail)
  rw [hmod]
  refine c_hDigits n 1 (by omega) (by omega) (by omega) _ ?_
  rw [dgs_eq n (by omega) hn1]
  conv => whnf
  (repeat' first | (refine step_go [] ?_; conv => whnf) | (refine two (fun g => ?_) (fun g => ?_) <;> (try simp only [bsx] at g) <;> (conv => whnf)) | (refine And.intro rfl ?_; conv => whnf) | fail)
  refine ⟨szW1 n _ (by decide +kernel), ?_⟩
  conv => whnf
  (repeat' first | (refine step_go [] ?_; conv => whnf) | (refine two (fun g => ?_) (fun g => ?_) <;> (try simp only [bsx] at g) <;> (conv => whnf)) | (refine And.intro rfl ?_; conv => whnf) | fail)
  refine ⟨szW2 n _ _ (by decide +kernel) (by decide +kernel), ?_⟩
  conv => whnf
  (repeat' first | (refine step_go [] ?_; conv => whnf) | (refine two (fun g => ?_) (fun g => ?_) <;> (try simp only [bsx] at g) <;> (conv => whnf)) | (refine And.intro rfl ?_; conv => whnf) | fail)
  refine c_ParseW n hn1 hn2 _ _ (by decide +kernel) (by decide +kernel) (by decide +kernel) (by decide +kernel) _ ?_
  obtain ⟨e0, he0⟩ : ∃ e0 : Int, e0 = 0 := ⟨_, rfl⟩
  rw [← he0]
  conv => whnf
  (repeat' first | (refine step_go [] ?_; conv => whnf) | (refine two (fun g => ?_) (fun g => ?_) <;> (try simp only [bsx] at g) <;> (conv => whnf)) | (refine And.intro rfl ?_; conv => whnf) | (refine c_awake _ ?_; conv => whnf) | fail)
  · refine VCall.args (args' := [encP (woP n), encP (woP n)]) (.cons (.eq rfl) (.cons (.agg ?_) .nil)) rfl (c_same (woP n) (by simp [woP, prod0]) (by simp [woP, prod0]) (by simp [woP, prod0]) _ ?_)
    · unfold cellsP woP prod0
      (repeat' first | exact VQs.nil | refine VQs.cons VQ.no ?_ | refine VQs.cons VQ.spare ?_ | refine VQs.cons (VQ.eq rfl) ?_)
    conv => whnf
    (repeat' first | (refine step_go [] ?_; conv => whnf) | (refine two (fun g => ?_) (fun g => ?_) <;> (try simp only [bsx] at g) <;> (conv => whnf)) | (refine And.intro rfl ?_; conv => whnf) | fail)
    try rfl
  all_goals first
    | exact absurd he0 (by assumption)
    | exact absurd trivial (by assumption)
    | trace_state
end CRD

