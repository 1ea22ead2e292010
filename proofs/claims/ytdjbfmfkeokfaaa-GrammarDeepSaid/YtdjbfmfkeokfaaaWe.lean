/- Part We of the proof: C28d C29 C30 C31 C32 C33 CR1 CR2 CR3 CR4 CR5 CR6 CR7 CR8 CR9 CRE CRF. -/
import Derived.Test.YtdjbfmfkeokfaaaWd
import Derived.Test.YtdjbfmfkeokfaaaWc
import Derived.HandedShaped
import Derived.Shelf.Vars
set_option linter.unusedVariables false
set_option linter.unusedSimpArgs false
namespace C28d
open Go Go.Proofs VL D1 B10 B12 B13 BB4 BB5 BB6 BB10 BB14 C1 C2 C3 C4 C6 C19 C20 C22 C26 C28 C28b C28c
set_option maxRecDepth 100000
structure POk (p : Prod) : Prop where
  name : p.name.size < 1000000
  count : I64 p.count
  rnd : I64 p.rnd
  kind : I64 p.kind
  every : I64 p.every
  times : I64 p.times
  grace : I64 p.grace
  rate : I64 p.rate
  pen : I64 p.pen
  o1 : I64 p.o1
  o2 : I64 p.o2
  o3 : I64 p.o3
  o4 : I64 p.o4
  over : I64 p.over
  cap : I64 p.cap
  roll : I64 p.roll
  resets : ∀ x ∈ p.resets, I64 x.aft ∧ I64 x.rate
  late : ∀ x ∈ p.late, I64 x.days ∧ I64 x.fee
  hol : ∀ x ∈ p.hol, I64 x
theorem POk.full {p : Prod} (h : POk p) (h1 : p.resets.length < 1000000) (h2 : p.late.length < 1000000) (h3 : p.hol.length < 1000000) : p.ok :=
  ⟨h.name, h.count, h.rnd, h.kind, h.every, h.times, h.grace, h.rate, h.pen, h.o1, h.o2, h.o3, h.o4, h.over, h.cap, h.roll, h.resets, h.late, h.hol, h1, h2, h3⟩
theorem numS_I {l : List Int} {n : Int} (h : numS l = some n) : I64 n := by
  unfold numS at h
  split at h
  · rename_i hc
    injection h with h; subst h
    have h1 := vl_lt l hc.1
    have h2 : 10 ^ l.length ≤ 10 ^ 9 := Nat.pow_le_pow_right (by omega) hc.2.1
    unfold I64; omega
  · cases h
theorem numberS_I {l r : List C3.Tok} {n : Int} (h : numberS l = .ok n r) : I64 n := by
  obtain ⟨t, s, h1, h2⟩ := bind_ok h
  split at h2
  · rename_i n' hn
    injection h2 with a b
    subst a
    exact numS_I hn
  · cases h2
theorem takenS_I {f : List Int → Int × Int} (hf : ∀ l, (f l).2 = 0 → I64 (f l).1) {l r : List C3.Tok} {n : Int} (h : takenS f l = .ok n r) : I64 n := by
  obtain ⟨t, s, h1, h2⟩ := bind_ok h
  split at h2
  · rename_i hn
    injection h2 with a b
    subst a
    exact hf _ hn
  · cases h2
theorem takeR_I (l : List Int) : (takeR l).2 = 0 → I64 (takeR l).1 := by
  intro h
  unfold takeR at h ⊢
  split
  · rename_i hc
    have h1 := hc.2.2.1
    unfold I64
    simp only
    split <;> omega
  · simp only; unfold I64; omega
theorem takeM_I (l : List Int) : (takeM l).2 = 0 → I64 (takeM l).1 := by
  intro h
  unfold takeM at h ⊢
  split
  · simp only; unfold I64; omega
  · split
    · simp only; unfold I64; omega
    · split
      · simp only; unfold I64; omega
      · simp only; unfold I64; split <;> omega
theorem takeD_I (l : List Int) : (takeD l).2 = 0 → I64 (takeD l).1 := by
  intro h
  unfold takeD at h ⊢
  split
  · generalize vl ((l.take 4).drop 0) = y
    generalize vl ((l.take 7).drop 5) = m
    generalize vl ((l.take 10).drop 8) = d
    unfold numberD
    split
    · rename_i hd
      unfold DateP at hd
      have hml := mlen_le y m
      have hcm : cum y m ≤ 400 := by
        have := cum_mono (y := y) hd.2.1.1 hd.2.1.2
        have h12 := cum12 y
        split at h12 <;> omega
      simp only
      unfold I64 opens; omega
    · simp only; unfold I64; omega
  · simp only; unfold I64; omega
theorem pickS_I {ws : List (List Int)} (hw : ws.length < 1000) {l r : List C3.Tok} {n : Int} (h : pickS ws l = .ok n r) : I64 n := by
  have := C25.pick_range h
  unfold I64; omega
theorem orderN_I : ∀ (n : Nat) {a : List Int} {l r : List C3.Tok} {o : List Int}, (∀ x ∈ a, I64 x) → orderN n a l = .ok o r → ∀ x ∈ o, I64 x
  | 0, a, l, r, o, ha, h => by
    unfold orderN at h
    injection h with h1 h2
    subst h1; exact ha
  | n + 1, a, l, r, o, ha, h => by
    unfold orderN at h
    obtain ⟨t, s, h1, h2⟩ := bind_ok h
    have := pickS_I (by decide) h1
    split at h2
    · cases h2
    · exact orderN_I n (fun x hx => by
        rcases List.mem_append.1 hx with hx | hx
        · exact ha x hx
        · simp at hx; subst hx; exact this) h2
theorem getD_I {o : List Int} (h : ∀ x ∈ o, I64 x) (n : Nat) : I64 (o.getD n 0) := by
  rw [List.getD_eq_getElem?_getD]
  cases e : o[n]? with
  | none => simp; unfold I64; omega
  | some x => exact h x (List.mem_of_getElem? e)
theorem clauseS_I {w : List Int} {p q : Prod} {l r : List C3.Tok} {x : Res Prod} (hp : POk p) (hx : clauseS w p l = some x) (h : x = .ok q r) : POk q := by
  subst h
  unfold clauseS at hx
  rcases ite_or hx with hx | hx
  · injection hx with hx
    obtain ⟨a, s, h1, h2⟩ := bind_ok hx
    injection h2 with ha hb; subst ha hb
    exact { hp with count := pickS_I (by decide) h1 }
  rcases ite_or hx with hx | hx
  · injection hx with hx
    obtain ⟨a, s, h1, h2⟩ := bind_ok hx
    injection h2 with ha hb; subst ha hb
    exact { hp with rnd := (by simp only; split <;> (unfold I64; omega)) }
  rcases ite_or hx with hx | hx
  · injection hx with hx
    obtain ⟨a, s, h1, h2⟩ := bind_ok hx
    injection h2 with ha hb; subst ha hb
    exact { hp with kind := pickS_I (by decide) h1 }
  rcases ite_or hx with hx | hx
  · injection hx with hx
    obtain ⟨a, s, h1, h2⟩ := bind_ok hx
    injection h2 with ha hb; subst ha hb
    exact { hp with every := numberS_I h1 }
  rcases ite_or hx with hx | hx
  · injection hx with hx
    obtain ⟨a, s, h1, h2⟩ := bind_ok hx
    injection h2 with ha hb; subst ha hb
    exact { hp with times := numberS_I h1 }
  rcases ite_or hx with hx | hx
  · injection hx with hx
    obtain ⟨a, s, h1, h2⟩ := bind_ok hx
    injection h2 with ha hb; subst ha hb
    exact { hp with grace := numberS_I h1 }
  rcases ite_or hx with hx | hx
  · injection hx with hx
    obtain ⟨a, s, h1, h2⟩ := bind_ok hx
    injection h2 with ha hb; subst ha hb
    exact { hp with rate := takenS_I takeR_I h1 }
  rcases ite_or hx with hx | hx
  · injection hx with hx
    obtain ⟨a, s, h1, h2⟩ := bind_ok hx
    injection h2 with ha hb; subst ha hb
    exact { hp with pen := takenS_I takeR_I h1 }
  rcases ite_or hx with hx | hx
  · injection hx with hx
    obtain ⟨a, s, h1, h2⟩ := bind_ok hx
    obtain ⟨a2, s2, h3, h4⟩ := bind_ok h2
    injection h4 with ha hb; subst ha hb
    have hq : ∀ x ∈ p.resets ++ [⟨a, a2⟩], I64 x.aft ∧ I64 x.rate := by
      intro x hx
      rcases List.mem_append.1 hx with hx | hx
      · exact hp.resets x hx
      · simp at hx; subst hx; exact ⟨numberS_I h1, takenS_I takeR_I h3⟩
    exact { hp with resets := hq }
  rcases ite_or hx with hx | hx
  · injection hx with hx
    obtain ⟨a, s, h1, h2⟩ := bind_ok hx
    obtain ⟨a2, s2, h3, h4⟩ := bind_ok h2
    injection h4 with ha hb; subst ha hb
    have hq : ∀ x ∈ p.late ++ [⟨a, a2⟩], I64 x.days ∧ I64 x.fee := by
      intro x hx
      rcases List.mem_append.1 hx with hx | hx
      · exact hp.late x hx
      · simp at hx; subst hx; exact ⟨numberS_I h1, takenS_I takeM_I h3⟩
    exact { hp with late := hq }
  rcases ite_or hx with hx | hx
  · injection hx with hx
    obtain ⟨a, s, h1, h2⟩ := bind_ok hx
    injection h2 with ha hb; subst ha hb
    exact { hp with cap := takenS_I takeM_I h1 }
  rcases ite_or hx with hx | hx
  · injection hx with hx
    obtain ⟨a, s, h1, h2⟩ := bind_ok hx
    injection h2 with ha hb; subst ha hb
    have hq : ∀ x ∈ p.hol ++ [a], I64 x := by
      intro x hx
      rcases List.mem_append.1 hx with hx | hx
      · exact hp.hol x hx
      · simp at hx; subst hx; exact takenS_I takeD_I h1
    exact { hp with hol := hq }
  rcases ite_or hx with hx | hx
  · injection hx with hx
    obtain ⟨a, s, h1, h2⟩ := bind_ok hx
    injection h2 with ha hb; subst ha hb
    have hI := orderN_I 4 (by simp) h1
    exact { hp with o1 := getD_I hI 0, o2 := getD_I hI 1, o3 := getD_I hI 2, o4 := getD_I hI 3 }
  rcases ite_or hx with hx | hx
  · injection hx with hx
    obtain ⟨a, s, h1, h2⟩ := bind_ok hx
    injection h2 with ha hb; subst ha hb
    exact { hp with over := pickS_I (by decide) h1 }
  rcases ite_or hx with hx | hx
  · injection hx with hx
    obtain ⟨a, s, h1, h2⟩ := bind_ok hx
    injection h2 with ha hb; subst ha hb
    exact { hp with roll := pickS_I (by decide) h1 }
  cases hx
theorem groupS_I : ∀ (f : Nat) {d : Nat} {l : List C3.Tok} {p : Prod} {sn : List (List Int)} {q : Prod × List (List Int)} {r : List C3.Tok}, POk p → groupS f d l p sn = .ok q r → POk q.1
  | 0, d, l, p, sn, q, r, hp, h => by cases h
  | f + 1, d, l, p, sn, q, r, hp, h => by
    unfold groupS at h
    split at h
    · injection h with a b
      subst a; exact hp
    · split at h
      · split at h
        · cases h
        · obtain ⟨a, s, h1, h2⟩ := bind_ok h
          exact groupS_I f (groupS_I f hp h1) h2
      · split at h
        · cases h
        · split at h
          · cases h
          · rename_i x hx
            split at h
            · cases h
            · obtain ⟨a, s, h1, h2⟩ := bind_ok h
              obtain ⟨a2, s2, h3, h4⟩ := bind_ok h2
              exact groupS_I f (clauseS_I hp hx h1) h4
end C28d

namespace C29
open Go Go.Proofs VL D1 B10 B12 B13 C8 BB6 BB10 BB14 C1 C2 C3 C4 C6 C15 C20 C22 C23 C24 C25 C26 C27 C28 C28b C28c
set_option maxRecDepth 100000
theorem group_step {f d : Nat} {l : List C3.Tok} {p : Prod} {sn : List (List Int)} : groupS (f + 1) d l p sn =
    if (nextT l).1.kind = 3 ∧ (nextT l).1.text = [125] then .ok (p, sn) (nextT l).2
    else if (nextT l).1.kind = 3 ∧ (nextT l).1.text = [123] then
      if 32 ≤ d then .err (nextT l).1.at_ 8 else (groupS f (d + 1) (nextT l).2 p sn).bind fun q r => groupS f d r q.1 q.2
    else if (nextT l).1.kind ≠ 1 then .err (nextT l).1.at_ 7
    else match clauseS (nextT l).1.text p (nextT l).2 with
      | none => .err (nextT l).1.at_ 7
      | some x => if (nextT l).1.text ∈ sn ∧ manyW (nextT l).1.text = false then .err (nextT l).1.at_ 7
        else x.bind fun q r => (wantS 3 [59] r).bind fun _ r => groupS f d r q ((nextT l).1.text :: sn) := rfl
theorem next_lt {l : List C3.Tok} (h : endT l) (hk : (nextT l).1.kind ≠ 0) : (nextT l).2.length < l.length := by
  obtain ⟨_, t, r, hd, e1, e2⟩ := endT_next h
  rw [e1] at hk
  rcases e2 with ⟨e2, _⟩ | ⟨_, e2⟩
  · exact absurd e2 hk
  · rw [e2, hd]; simp
theorem SnR_plain (m : Nat) {e : List (V × V)} {sn : List (List Int)} (h : SnR e sn) : ∀ x ∈ e, plainKey (VL.sys Try.prog m []).P 9 x.1 = true := by
  obtain ⟨l, rfl, _⟩ := h
  intro x hx
  obtain ⟨p, _, rfl⟩ := List.mem_map.1 hx
  rfl
set_option maxHeartbeats 8000000 in
theorem c_group : ∀ (f : Nat) (d : Nat) (hd : d ≤ 32) (k : List C3.Tok) (i : Nat) (hk : endT (k.drop i)) (hl : okT k) (hf : (k.drop i).length < f) (x : PS) (sn : List (List Int)) (hsn : SnR x.sn sn) (hx : x.p.resets.length + x.p.late.length + x.p.hol.length + (k.drop i).length < 1000000) (K : Out → List VObj → Prop)
    (h0 : ∀ q r i' x', groupS f d (k.drop i) x.p sn = .ok q r → k.drop i' = r → endT r → x'.p = q.1 → SnR x'.sn q.2 → q.1.resets.length + q.1.late.length + q.1.hol.length + r.length < 1000000 → K (.ret (.tup [])) (xO true true true k i' x'))
    (h1 : ∀ p e i' x', groupS f d (k.drop i) x.p sn = .err p e → K (.pan (fltP p e)) (xO true true true k i' x')),
    VCall Try.prog 17 [.ptr 0 0, .int .i64 d] (xO false false false k i x) K := by
  intro f
  induction f using Nat.strongRecOn with
  | ind f ihf =>
  intro d hd k i hk hl hf x sn hsn hx K h0 h1
  let S : Nat × Nat × PS × List (List Int) → St := fun q => ⟨(.ptr 0 0 :: .int .i64 d :: .undef :: .undef :: .undef :: .undef :: .undef :: .undef :: .undef :: .undef :: .undef :: .undef :: .undef :: .undef :: .undef :: .undef :: .undef :: .undef :: .undef :: .undef :: .undef :: .undef :: .undef :: .undef :: .undef :: .undef :: .undef :: .undef :: .undef :: .undef :: .undef :: .undef :: .undef :: .undef :: .undef :: .undef :: .undef :: .undef :: .undef :: .undef :: .undef :: .undef :: .undef :: .undef :: .undef :: .undef :: .undef :: .undef :: .undef :: .undef :: .undef :: .undef :: .undef :: .undef :: .undef :: .undef :: .undef :: .undef :: .undef :: .undef :: .undef :: .undef :: .undef :: .undef :: .undef :: .undef :: .undef :: .undef :: .undef :: .undef :: .undef :: .undef :: .undef :: .undef :: .undef :: .undef :: .undef :: []), xO true true true k q.2.1 q.2.2.1, 0, []⟩
  have hnx := fun i hk x => @c_next k i hk hl.1 x
  have hwn := fun i hk x => @c_want k i hk hl x 3 [59] (by decide)
  unfold xO
  refine call_fun [] 5 Try.func17 (by rfl) (by rfl) ?_
  conv => whnf
  (repeat' first | (refine step_go [] ?_; conv => whnf) | (refine two (fun g => ?_) (fun g => ?_) <;> (try simp only [bsx] at g) <;> (conv => whnf)) | (refine And.intro rfl ?_; conv => whnf) | fail)
  refine VLoop.enter (s' := S (f, i, x, sn)) (weak_of ?_ (.cons (.eq rfl) (.cons .moved (.cons .moved (.cons .moved (.cons (.eq rfl) .nil))))) rfl rfl rfl)
    (VLoop.indW S (fun q => q.1) (fun q => q.1 ≤ f ∧ endT (k.drop q.2.1) ∧ (k.drop q.2.1).length < q.1 ∧ SnR q.2.2.1.sn q.2.2.2 ∧ q.2.2.1.p.resets.length + q.2.2.1.p.late.length + q.2.2.1.p.hol.length + (k.drop q.2.1).length < 1000000 ∧ groupS f d (k.drop i) x.p sn = groupS q.1 d (k.drop q.2.1) q.2.2.1.p q.2.2.2) ?_ (f, i, x, sn) ⟨Nat.le_refl _, hk, hf, hsn, hx, rfl⟩)
  · (repeat' first | exact VWs.nil | refine VWs.cons VW.undef ?_ | refine VWs.cons (VW.eq rfl) ?_ | refine VWs.cons (VW.eq (congrArg (V.int .i64) (by (try simp only); rw [wrap64 (by omega) (by omega)]; (try omega)))) ?_)
  rintro ⟨q, i1, x1, sn1⟩ ⟨hq, hk1, hf1, hsn1, hx1, he⟩ ih
  simp only at hq hk1 hf1 hsn1 hx1 he
  obtain ⟨q, rfl⟩ : ∃ q', q = q' + 1 := ⟨q - 1, by omega⟩
  obtain ⟨hen, _⟩ := endT_next hk1
  have hm := next_mem hk1
  have hlt := next_lt hk1
  rw [group_step] at he
  have hn1 := hnx i1 hk1 x1
  obtain ⟨t, ht⟩ : ∃ t, (nextT (k.drop i1)).1 = t := ⟨_, rfl⟩
  obtain ⟨l2, hl2⟩ : ∃ l, (nextT (k.drop i1)).2 = l := ⟨_, rfl⟩
  rw [ht, hl2] at he hn1
  rw [ht, hl2] at hlt
  rw [hl2] at hen
  rw [ht] at hm
  have hb := hl.2 t hm
  have e1 : (toBA t.text).toList = (⟨#[125]⟩ : ByteArray).toList ↔ t.text = [125] := toBA_eq hb.1 (b := [125]) (by decide)
  have e2 : (toBA t.text).toList = (⟨#[123]⟩ : ByteArray).toList ↔ t.text = [123] := toBA_eq hb.1 (b := [123]) (by decide)
  have hA : t.kind = 3 → t.text = [125] → groupS f d (k.drop i) x.p sn = .ok (x1.p, sn1) l2 := fun a b => by rw [he, if_pos ⟨a, b⟩]
  have hB : t.kind = 3 → t.text = [123] → 32 ≤ d → groupS f d (k.drop i) x.p sn = .err t.at_ 8 := fun a b c => by rw [he, if_neg (fun h => by rw [b] at h; exact absurd h.2 (by decide)), if_pos ⟨a, b⟩, if_pos c]
  have hC : t.kind = 3 → t.text = [123] → ¬ 32 ≤ d → groupS f d (k.drop i) x.p sn = (groupS q (d + 1) l2 x1.p sn1).bind fun q' r => groupS q d r q'.1 q'.2 := fun a b c => by rw [he, if_neg (fun h => by rw [b] at h; exact absurd h.2 (by decide)), if_pos ⟨a, b⟩, if_neg c]
  have hD : ¬ (t.kind = 3 ∧ t.text = [125]) → ¬ (t.kind = 3 ∧ t.text = [123]) → ¬ t.kind = 1 → groupS f d (k.drop i) x.p sn = .err t.at_ 7 := fun a b c => by rw [he, if_neg a, if_neg b, if_pos c]
  have hn3 : t.kind = 1 → ∀ w, ¬ (t.kind = 3 ∧ t.text = w) := fun a w h => by omega
  have hE : t.kind = 1 → clauseS t.text x1.p l2 = none → groupS f d (k.drop i) x.p sn = .err t.at_ 7 := fun a c => by rw [he, if_neg (hn3 a _), if_neg (hn3 a _), if_neg (fun h => h a), c]
  have hF : t.kind = 1 → ∀ y, clauseS t.text x1.p l2 = some y → (t.text ∈ sn1 ∧ manyW t.text = false) → groupS f d (k.drop i) x.p sn = .err t.at_ 7 := fun a y c e => by rw [he, if_neg (hn3 a _), if_neg (hn3 a _), if_neg (fun h => h a), c]; exact if_pos e
  have hG : t.kind = 1 → ∀ y, clauseS t.text x1.p l2 = some y → ¬ (t.text ∈ sn1 ∧ manyW t.text = false) → groupS f d (k.drop i) x.p sn = y.bind fun q' r => (wantS 3 [59] r).bind fun _ r => groupS q d r q' (t.text :: sn1) := fun a y c e => by rw [he, if_neg (hn3 a _), if_neg (hn3 a _), if_neg (fun h => h a), c]; exact if_neg e
  clear he
  have hfind := SnR_find hsn1 hb.1
  have hupd := SnR_upd hsn1 hb.1
  dsimp only [S]
  refine loop_round [] ?_; conv => whnf
  (repeat' first | (refine step_go [] ?_; conv => whnf) | (refine two (fun g => ?_) (fun g => ?_) <;> (try simp only [bsx] at g) <;> (conv => whnf)) | (refine And.intro rfl ?_; conv => whnf) | fail)
  refine hn1 _ (fun i2 hi2 => ?_)
  conv => whnf
  (repeat' first | (refine step_go [] ?_; conv => whnf) | (refine two (fun g => ?_) (fun g => ?_) <;> (try simp only [bsx, e1, e2] at g) <;> (conv => whnf)) | (refine And.intro rfl ?_; conv => whnf) | (refine c_wrong t _ ?_; conv => whnf) | fail)
  all_goals first
    | (exfalso; omega)
    | exact h1 _ 8 i2 x1 (hB (by assumption) (by assumption) (by omega))
    | exact h1 _ 7 i2 x1 (hD (by rintro ⟨a, b⟩; contradiction) (by rintro ⟨a, b⟩; contradiction) (by assumption))
    | skip
  · refine ⟨_, Weak.refl, ?_⟩
    conv => whnf
    (repeat' first | (refine step_go [] ?_; conv => whnf) | (refine two (fun g => ?_) (fun g => ?_) <;> (try simp only [bsx] at g) <;> (conv => whnf)) | (refine And.intro rfl ?_; conv => whnf) | fail)
    have hz := hlt (by omega)
    refine h0 _ _ i2 x1 (hA (by assumption) (by assumption)) hi2 hen rfl hsn1 ?_
    simp only; omega
  all_goals have hll := hlt (by omega)
  · rename_i g1 g2 g3
    have hd31 : ¬ 32 ≤ d := by omega
    rw [show IntKind.i64.wrap ((d : Int) + 1) = ((d + 1 : Nat) : Int) by rw [wrap64 (by omega) (by omega)]; omega]
    refine ihf q (by omega) (d + 1) (by omega) k i2 (by rw [hi2]; exact hen) hl (by rw [hi2]; omega) x1 sn1 hsn1 (by rw [hi2]; omega) _ (fun q' r i3 x3 e hd3 he3 hp3 hs3 hz3 => ?_) (fun p e i3 x3 he3 => ?_)
    · rw [hi2] at e
      have hle := groupS_le _ e
      have hinv : q ≤ f ∧ endT (k.drop i3) ∧ (k.drop i3).length < q ∧ SnR x3.sn q'.2 ∧ x3.p.resets.length + x3.p.late.length + x3.p.hol.length + (k.drop i3).length < 1000000 ∧ groupS f d (k.drop i) x.p sn = groupS q d (k.drop i3) x3.p q'.2 := by
        rw [hd3, hp3]
        refine ⟨by omega, he3, by omega, hs3, hz3, ?_⟩
        rw [hC (by assumption) (by assumption) hd31, e]; rfl
      conv => whnf
      (repeat' first | (refine step_go [] ?_; conv => whnf) | (refine two (fun g => ?_) (fun g => ?_) <;> (try simp only [bsx] at g) <;> (conv => whnf)) | (refine And.intro rfl ?_; conv => whnf) | fail)
      refine weak_sel (src := [0, 1, 2, 3, 4]) ?_; conv => whnf
      refine VLoop.enter (s' := S (q, i3, x3, q'.2)) (weak_of ?_ (.cons (.eq rfl) (.cons (.eq rfl) (.cons (.eq rfl) (.cons (.eq rfl) (.cons (.eq rfl) .nil))))) rfl rfl rfl) (ih (q, i3, x3, q'.2) hinv (by simp only; omega))
      (repeat' first | exact VWs.nil | refine VWs.cons VW.undef ?_ | refine VWs.cons (VW.eq rfl) ?_ | refine VWs.cons (VW.eq (congrArg (V.int .i64) (by (try simp only); rw [wrap64 (by omega) (by omega)]; (try omega)))) ?_)
    · rw [hi2] at he3
      have hp := h1 p e i3 x3 (by rw [hC (by assumption) (by assumption) hd31, he3]; rfl)
      conv => whnf
      (repeat' first | (refine step_go [] ?_; conv => whnf) | (refine two (fun g => ?_) (fun g => ?_) <;> (try simp only [bsx] at g) <;> (conv => whnf)) | (refine And.intro rfl ?_; conv => whnf) | fail)
      exact hp
  all_goals
    have hk1 : t.kind = 1 := by assumption
    refine c_clauseA t.text hb.1 k i2 x1 _ (fun fn hcl hex => ?_) (fun hnone => ?_)
    rotate_left
    · have hp := h1 t.at_ 7 i2 x1 (hE hk1 (hnone _ _))
      conv => whnf
      (repeat' first | (refine step_go [] ?_; conv => whnf) | (refine two (fun g => ?_) (fun g => ?_) <;> (try simp only [bsx] at g) <;> (conv => whnf)) | (refine And.intro rfl ?_; conv => whnf) | (refine dr_go (by decide +kernel) ?_; conv => whnf) | (refine c_wrong t _ ?_; conv => whnf) | fail)
      first
        | exact hp
        | done
    obtain ⟨y, hy⟩ := hex x1.p l2
    have hpl := SnR_plain 5 hsn1
    by_cases hs : t.text ∈ sn1
    all_goals first | rw [if_pos hs] at hfind | rw [if_neg hs] at hfind
    all_goals
      conv => whnf
      (repeat' first | (refine step_go [] ?_; conv => whnf) | (refine two (fun g => ?_) (fun g => ?_) <;> (try simp only [bsx] at g) <;> (conv => whnf)) | (refine And.intro rfl ?_; conv => whnf) | (refine dr_go (by decide +kernel) ?_; conv => whnf) | (refine c_wrong t _ ?_; conv => whnf) | (refine ⟨hpl, _, hfind, ?_⟩; conv => whnf) | fail)
      all_goals first
        | exact h1 _ 7 i2 x1 (hF hk1 y hy ⟨hs, by assumption⟩)
        | skip
    all_goals
      have hnot : ¬ (t.text ∈ sn1 ∧ manyW t.text = false) := by
        rintro ⟨a, b⟩
        first | exact hs a | exact Bool.noConfusion (b.symm.trans (show manyW t.text = true by assumption))
      refine ⟨hpl, ?_⟩
      conv => whnf
      (repeat' first | (refine step_go [] ?_; conv => whnf) | (refine two (fun g => ?_) (fun g => ?_) <;> (try simp only [bsx] at g) <;> (conv => whnf)) | (refine And.intro rfl ?_; conv => whnf) | (refine dr_go (by decide +kernel) ?_; conv => whnf) | fail)
      refine hcl k i2 (by rw [hi2]; exact hen) hl { x1 with sn := updV (.str (toBA t.text)) (.bool true) x1.sn } (by simp only; omega) _ (fun q' r i3 x3 e hd3 he3 hp3 hs3 => ?_) (fun p e i3 x3 he3 => ?_)
      rotate_left
      · rw [hi2] at he3
        have hp := h1 p e i3 x3 (by rw [hG hk1 _ he3 hnot]; rfl)
        conv => whnf
        (repeat' first | (refine step_go [] ?_; conv => whnf) | (refine two (fun g => ?_) (fun g => ?_) <;> (try simp only [bsx] at g) <;> (conv => whnf)) | (refine And.intro rfl ?_; conv => whnf) | fail)
        exact hp
      rw [hi2] at e
      have hle := clauseS_le e rfl
      simp only at hle
      have hq := hG hk1 _ e hnot
      have hq : groupS f d (k.drop i) x.p sn = (wantS 3 [59] r).bind fun _ r => groupS q d r q' (t.text :: sn1) := hq
      conv => whnf
      (repeat' first | (refine step_go [] ?_; conv => whnf) | (refine two (fun g => ?_) (fun g => ?_) <;> (try simp only [bsx] at g) <;> (conv => whnf)) | (refine And.intro rfl ?_; conv => whnf) | fail)
      refine hwn i3 (by rw [hd3]; exact he3) x3 _ (fun t4 r4 i4 e4 hd4 he4 hm4 => ?_) (fun p e i4 he4 => ?_)
      rotate_left
      · rw [hd3] at he4
        have hp := h1 p e i4 x3 (by rw [hq, he4]; rfl)
        conv => whnf
        (repeat' first | (refine step_go [] ?_; conv => whnf) | (refine two (fun g => ?_) (fun g => ?_) <;> (try simp only [bsx] at g) <;> (conv => whnf)) | (refine And.intro rfl ?_; conv => whnf) | fail)
        exact hp
      rw [hd3] at e4
      have hle4 := wantS_le e4
      have hinv : q ≤ f ∧ endT (k.drop i4) ∧ (k.drop i4).length < q ∧ SnR x3.sn (t.text :: sn1) ∧ x3.p.resets.length + x3.p.late.length + x3.p.hol.length + (k.drop i4).length < 1000000 ∧ groupS f d (k.drop i) x.p sn = groupS q d (k.drop i4) x3.p (t.text :: sn1) := by
        rw [hd4, hp3, hs3]
        refine ⟨by omega, he4, by omega, hupd, by omega, ?_⟩
        rw [hq, e4]; rfl
      conv => whnf
      (repeat' first | (refine step_go [] ?_; conv => whnf) | (refine two (fun g => ?_) (fun g => ?_) <;> (try simp only [bsx] at g) <;> (conv => whnf)) | (refine And.intro rfl ?_; conv => whnf) | fail)
      refine weak_sel (src := [0, 1, 2, 3, 4]) ?_; conv => whnf
      refine VLoop.enter (s' := S (q, i4, x3, t.text :: sn1)) (weak_of ?_ (.cons (.eq rfl) (.cons (.eq rfl) (.cons (.eq rfl) (.cons (.eq rfl) (.cons (.eq rfl) .nil))))) rfl rfl rfl) (ih (q, i4, x3, t.text :: sn1) hinv (by simp only; omega))
      (repeat' first | exact VWs.nil | refine VWs.cons VW.undef ?_ | refine VWs.cons (VW.eq rfl) ?_ | refine VWs.cons (VW.eq (congrArg (V.int .i64) (by (try simp only); rw [wrap64 (by omega) (by omega)]; (try omega)))) ?_)
end C29

namespace C30
open Go Go.Proofs VL D1 B10 C1 C2 C3 C4 C6 C22
set_option maxRecDepth 100000
theorem lexF_props : ∀ (f : Nat) (l : List Int) (i : Nat) (k : List C3.Tok), lexF f l i = .ok k → endT k ∧ (∀ t ∈ k, (∀ x ∈ t.text, x ∈ l) ∧ t.text.length ≤ l.length ∧ (t.kind ≠ 0 → t.text ≠ []) ∧ t.at_ ≤ i + l.length) ∧ k.length ≤ l.length + 1
  | 0, l, i, k, h => by cases h
  | f + 1, l, i, k, h => by
    have hs := skipN_le false l
    unfold lexF at h
    split at h
    · injection h with h; subst h
      refine ⟨rfl, ?_, by simp⟩
      intro t ht
      rw [List.mem_singleton] at ht; subst ht
      refine ⟨by simp, by simp, fun h => absurd rfl h, ?_⟩
      show i + skipN false l ≤ _
      omega
    · rename_i c r hd
      split at h
      · cases h
      · rename_i kd hk
        have hlen := congrArg List.length hd
        rw [List.length_drop, List.length_cons] at hlen
        have htw := congrArg List.length (List.takeWhile_append_dropWhile (p := goesB kd) (l := r)); rw [List.length_append] at htw
        have hk0 : kd ≠ 0 := by
          unfold kindS at hk
          repeat' split at hk
          all_goals first | (injection hk with hk; omega) | cases hk
        have hsub : ∀ x, x ∈ c :: r → x ∈ l := fun x hx => List.mem_of_mem_drop (by rw [hd]; exact hx)
        cases h2 : lexF f (r.dropWhile (goesB kd)) (i + skipN false l + 1 + (r.takeWhile (goesB kd)).length) with
        | bad p => rw [h2] at h; cases h
        | ok k2 =>
          rw [h2] at h
          injection h with h; subst h
          obtain ⟨a1, a2, a3⟩ := lexF_props f _ _ k2 h2
          refine ⟨?_, ?_, by rw [List.length_cons]; omega⟩
          · cases k2 with
            | nil => exact a1.elim
            | cons t r => exact ⟨hk0, a1⟩
          · intro t ht
            rcases List.mem_cons.1 ht with rfl | ht
            · refine ⟨fun x hx => hsub x ?_, ?_, fun _ => by simp, ?_⟩
              · rcases List.mem_cons.1 hx with rfl | hx
                · exact .head _
                · exact .tail _ ((List.takeWhile_sublist _).subset hx)
              · show (c :: r.takeWhile (goesB kd)).length ≤ _
                rw [List.length_cons]; omega
              · show i + skipN false l ≤ _
                omega
            · obtain ⟨b1, b2, b3, b4⟩ := a2 t ht
              exact ⟨fun x hx => hsub x (.tail _ ((List.dropWhile_sublist _).subset (b1 x hx))), by omega, b3, by omega⟩
theorem lexS_props {l : List Int} {k : List C3.Tok} (h : lexS l = .ok k) (hb : ∀ x ∈ l, 0 ≤ x ∧ x < 256) : endT k ∧ okT k ∧ (∀ t ∈ k, t.kind ≠ 0 → t.text ≠ []) ∧ (∀ t ∈ k, t.at_ ≤ l.length) ∧ l.length ≤ 20000 ∧ k.length ≤ l.length + 1 := by
  unfold lexS at h
  split at h
  · cases h
  · rename_i hn
    split at h
    · rename_i t ht
      injection h with h; subst h
      obtain ⟨a1, a2, a3⟩ := lexF_props _ _ _ _ ht
      refine ⟨a1, ⟨by omega, fun t ht => ⟨fun x hx => hb x ((a2 t ht).1 x hx), ?_⟩⟩, fun t ht => (a2 t ht).2.2.1, fun t ht => ?_, by omega, a3⟩
      · have := (a2 t ht).2.1; omega
      · have := (a2 t ht).2.2.2; omega
    · cases h
theorem lexS_err {l : List Int} {p : Nat} {e : Int} (h : lexS l = .error (p, e)) : (e = 3 ∧ p = 0) ∨ e = 6 := by
  unfold lexS at h
  split at h
  · injection h with h; injection h with h1 h2; exact .inl ⟨h2.symm, h1.symm⟩
  · split at h
    · cases h
    · injection h with h; injection h with h1 h2; exact .inr h2.symm
end C30

namespace C31
open Go Go.Proofs VL D1 B10 B12 B13 C8 BB6 BB10 BB14 C1 C2 C3 C4 C6 C11 C15 C20 C22 C23 C24 C25 C26 C27 C28 C28b C28c C28d C29 C30
set_option maxRecDepth 100000
set_option maxHeartbeats 8000000 in
theorem c_text (k : List C3.Tok) (i : Nat) (hk : endT (k.drop i)) (hl : okT k) (x : PS) (hsn : x.sn = []) (hp : x.p = { prod0 with over := 1, roll := 1 }) (K : Out → List VObj → Prop)
    (h0 : ∀ q r i' x', textP (k.drop i) = .ok q r → x'.p = q.1 → SnR x'.sn q.2 → q.1.resets.length + q.1.late.length + q.1.hol.length < 1000000 → K (.ret (.tup [])) (xO true true true k i' x'))
    (h1 : ∀ p e i' x', textP (k.drop i) = .err p e → K (.pan (fltP p e)) (xO true true true k i' x') ∧ K (.pan (fltP p e)) (xO false false false k i' x')) :
    VCall Try.prog 8 [.ptr 0 0] (xO false false false k i x) K := by
  have hw1 := @c_want k i hk hl x 1 w_product (by decide)
  unfold xO at hw1 ⊢
  refine call_fun [] 5 Try.func8 (by rfl) (by rfl) ?_
  conv => whnf
  (repeat' first | (refine step_go [] ?_; conv => whnf) | (refine two (fun g => ?_) (fun g => ?_) <;> (try simp only [bsx] at g) <;> (conv => whnf)) | (refine And.intro rfl ?_; conv => whnf) | fail)
  refine hw1 _ (fun t1 r1 i1 e1 hd1 he1 hm1 => ?_) (fun p e i1 he => ?_)
  rotate_left
  · have hp := (h1 p e i1 x (by unfold textP; rw [he]; rfl)).2
    conv => whnf
    (repeat' first | (refine step_go [] ?_; conv => whnf) | (refine two (fun g => ?_) (fun g => ?_) <;> (try simp only [bsx] at g) <;> (conv => whnf)) | (refine And.intro rfl ?_; conv => whnf) | fail)
    exact hp
  have hw2 := @c_want k i1 (by rw [hd1]; exact he1) hl x 1 [] (by decide)
  rw [hd1] at hw2
  unfold xO at hw2
  have ht1 : textP (k.drop i) = (wantS 1 [] r1).bind fun t l =>
    open Classical in if nameP t.text then (wantS 3 [123] l).bind fun _ l => (groupS (l.length + 1) 1 l { prod0 with name := toBA t.text, over := 1, roll := 1 } []).bind fun q l => (wantS 0 [] l).bind fun _ l => .ok q l
    else .err t.at_ 7 := by unfold textP; rw [e1]; rfl
  conv => whnf
  (repeat' first | (refine step_go [] ?_; conv => whnf) | (refine two (fun g => ?_) (fun g => ?_) <;> (try simp only [bsx] at g) <;> (conv => whnf)) | (refine And.intro rfl ?_; conv => whnf) | fail)
  refine hw2 _ (fun t2 r2 i2 e2 hd2 he2 hm2 => ?_) (fun p e i2 he => ?_)
  rotate_left
  · have hp := (h1 p e i2 x (by rw [ht1, he]; rfl)).2
    conv => whnf
    (repeat' first | (refine step_go [] ?_; conv => whnf) | (refine two (fun g => ?_) (fun g => ?_) <;> (try simp only [bsx] at g) <;> (conv => whnf)) | (refine And.intro rfl ?_; conv => whnf) | fail)
    exact hp
  have hb := hl.2 t2 hm2
  have ht2 : textP (k.drop i) = open Classical in if nameP t2.text then (wantS 3 [123] r2).bind fun _ l => (groupS (l.length + 1) 1 l { prod0 with name := toBA t2.text, over := 1, roll := 1 } []).bind fun q l => (wantS 0 [] l).bind fun _ l => .ok q l
    else .err t2.at_ 7 := by rw [ht1, e2]; rfl
  conv => whnf
  (repeat' first | (refine step_go [] ?_; conv => whnf) | (refine two (fun g => ?_) (fun g => ?_) <;> (try simp only [bsx] at g) <;> (conv => whnf)) | (refine And.intro rfl ?_; conv => whnf) | fail)
  refine c_Name (toBA t2.text) (by rw [toBA_size]; exact hb.2) _ ?_
  rw [sB_toBA hb.1]
  obtain ⟨b, hbn⟩ : ∃ b, nameB t2.text = b := ⟨_, rfl⟩
  rw [hbn]
  cases b with
  | false =>
    have hno : ¬ nameP t2.text := fun h => by rw [(nameB_iff _).2 h] at hbn; cases hbn
    rw [if_neg hno] at ht2
    have hp := (h1 _ _ i2 x ht2).2
    conv => whnf
    (repeat' first | (refine step_go [] ?_; conv => whnf) | (refine two (fun g => ?_) (fun g => ?_) <;> (try simp only [bsx] at g) <;> (conv => whnf)) | (refine And.intro rfl ?_; conv => whnf) | (refine c_wrong t2 _ ?_; conv => whnf) | fail)
    exact hp
  | true =>
  have hyes : nameP t2.text := (nameB_iff _).1 hbn
  rw [if_pos hyes] at ht2
  obtain ⟨x2, hx2⟩ : ∃ x2, x2 = { x with p := { x.p with name := toBA t2.text } } := ⟨_, rfl⟩
  have hp2 : x2.p = { prod0 with name := toBA t2.text, over := 1, roll := 1 } := by rw [hx2]; simp only; rw [hp]
  have hs2 : SnR x2.sn [] := by rw [hx2]; simp only; rw [hsn]; exact SnR_nil
  have hw3 := @c_want k i2 (by rw [hd2]; exact he2) hl x2 3 [123] (by decide)
  rw [hd2] at hw3
  rw [hx2] at hw3
  unfold xO at hw3
  conv => whnf
  (repeat' first | (refine step_go [] ?_; conv => whnf) | (refine two (fun g => ?_) (fun g => ?_) <;> (try simp only [bsx] at g) <;> (conv => whnf)) | (refine And.intro rfl ?_; conv => whnf) | fail)
  refine hw3 _ (fun t3 r3 i3 e3 hd3 he3 hm3 => ?_) (fun p e i3 he => ?_)
  rotate_left
  · have hp := (h1 p e i3 x2 (by rw [ht2, he]; rfl)).2
    rw [hx2] at hp
    conv => whnf
    (repeat' first | (refine step_go [] ?_; conv => whnf) | (refine two (fun g => ?_) (fun g => ?_) <;> (try simp only [bsx] at g) <;> (conv => whnf)) | (refine And.intro rfl ?_; conv => whnf) | fail)
    exact hp
  have ht3 : textP (k.drop i) = (groupS (r3.length + 1) 1 r3 { prod0 with name := toBA t2.text, over := 1, roll := 1 } []).bind fun q l => (wantS 0 [] l).bind fun _ l => .ok q l := by rw [ht2, e3]; rfl
  have hk3 : (k.drop i3).length ≤ k.length := by rw [List.length_drop]; omega
  have hkl := hl.1
  have hgr := @c_group (r3.length + 1) 1 (by decide) k i3 (by rw [hd3]; exact he3) hl (by rw [hd3]; omega) x2 [] hs2 (by rw [hp2]; show 0 + 0 + 0 + _ < _; omega)
  rw [hd3] at hgr
  rw [hp2] at hgr
  have hgr2 := hgr
  rw [hx2] at hgr
  unfold xO at hgr
  conv => whnf
  (repeat' first | (refine step_go [] ?_; conv => whnf) | (refine two (fun g => ?_) (fun g => ?_) <;> (try simp only [bsx] at g) <;> (conv => whnf)) | (refine And.intro rfl ?_; conv => whnf) | fail)
  refine hgr _ (fun q r i4 x4 e4 hd4 he4 hp4 hs4 hz4 => ?_) (fun p e i4 x4 he => ?_)
  rotate_left
  · have hp := (h1 p e i4 x4 (by rw [ht3, he]; rfl)).1
    conv => whnf
    (repeat' first | (refine step_go [] ?_; conv => whnf) | (refine two (fun g => ?_) (fun g => ?_) <;> (try simp only [bsx] at g) <;> (conv => whnf)) | (refine And.intro rfl ?_; conv => whnf) | fail)
    exact hp
  have ht4 : textP (k.drop i) = (wantS 0 [] r).bind fun _ l => .ok q l := by rw [ht3, e4]; rfl
  have hw5 := @c_want k i4 (by rw [hd4]; exact he4) hl x4 0 [] (by decide)
  rw [hd4] at hw5
  unfold xO at hw5
  conv => whnf
  (repeat' first | (refine step_go [] ?_; conv => whnf) | (refine two (fun g => ?_) (fun g => ?_) <;> (try simp only [bsx] at g) <;> (conv => whnf)) | (refine And.intro rfl ?_; conv => whnf) | fail)
  refine hw5 _ (fun t5 r5 i5 e5 hd5 he5 hm5 => ?_) (fun p e i5 he => ?_)
  rotate_left
  · have hp := (h1 p e i5 x4 (by rw [ht4, he]; rfl)).1
    conv => whnf
    (repeat' first | (refine step_go [] ?_; conv => whnf) | (refine two (fun g => ?_) (fun g => ?_) <;> (try simp only [bsx] at g) <;> (conv => whnf)) | (refine And.intro rfl ?_; conv => whnf) | fail)
    exact hp
  have hf := h0 q r5 i5 x4 (by rw [ht4, e5]; rfl) hp4 hs4 (by omega)
  conv => whnf
  (repeat' first | (refine step_go [] ?_; conv => whnf) | (refine two (fun g => ?_) (fun g => ?_) <;> (try simp only [bsx] at g) <;> (conv => whnf)) | (refine And.intro rfl ?_; conv => whnf) | fail)
  exact hf
end C31

namespace C32
open Go Go.Proofs VL D1 B10 B12 B13 C8 BB6 BB10 BB14 C1 C2 C3 C4 C6 C11 C15 C20 C22 C23 C24 C25 C26 C27 C28 C28b C28c C28d C29 C30 C31
set_option maxRecDepth 100000
set_option maxHeartbeats 8000000 in
theorem c_whole (k : List C3.Tok) (i : Nat) (x : PS) (sn : List (List Int)) (hsn : SnR x.sn sn) (K : Out → List VObj → Prop)
    (h1 : wholeP sn → K (.ret (.bool true)) (xO false false false k i x)) (h0 : ¬ wholeP sn → K (.ret (.bool false)) (xO false false false k i x)) :
    VCall Try.prog 9 [.ptr 0 0] (xO false false false k i x) K := by
  have hpl := SnR_plain 5 hsn
  have f_count := SnR_find hsn (w := w_count) (by unfold Byt; decide)
  have f_round := SnR_find hsn (w := w_round) (by unfold Byt; decide)
  have f_kind := SnR_find hsn (w := w_kind) (by unfold Byt; decide)
  have f_every := SnR_find hsn (w := w_every) (by unfold Byt; decide)
  have f_times := SnR_find hsn (w := w_times) (by unfold Byt; decide)
  have f_rate := SnR_find hsn (w := w_rate) (by unfold Byt; decide)
  have f_order := SnR_find hsn (w := w_order) (by unfold Byt; decide)
  unfold xO at h0 h1 ⊢
  refine call_fun [] 5 Try.func9 (by rfl) (by rfl) ?_
  conv => whnf
  (repeat' first | (refine step_go [] ?_; conv => whnf) | (refine two (fun g => ?_) (fun g => ?_) <;> (try simp only [bsx] at g) <;> (conv => whnf)) | (refine And.intro rfl ?_; conv => whnf) | (refine loop_round [] ?_; conv => whnf) | (refine ⟨by decide, _, rfl, rfl, ?_⟩; conv => whnf) | (refine ⟨_, Weak.refl, ?_⟩; conv => whnf) | fail)
  by_cases c_count : w_count ∈ sn
  rotate_left
  · rw [if_neg c_count] at f_count
    refine ⟨hpl, _, f_count, ?_⟩
    conv => whnf
    (repeat' first | (refine step_go [] ?_; conv => whnf) | (refine two (fun g => ?_) (fun g => ?_) <;> (try simp only [bsx] at g) <;> (conv => whnf)) | (refine And.intro rfl ?_; conv => whnf) | (refine ⟨_, Weak.refl, ?_⟩; conv => whnf) | fail)
    exact h0 fun h => c_count h.1
  rw [if_pos c_count] at f_count
  refine ⟨hpl, _, f_count, ?_⟩
  conv => whnf
  (repeat' first | (refine step_go [] ?_; conv => whnf) | (refine two (fun g => ?_) (fun g => ?_) <;> (try simp only [bsx] at g) <;> (conv => whnf)) | (refine And.intro rfl ?_; conv => whnf) | (refine loop_round [] ?_; conv => whnf) | (refine ⟨by decide, _, rfl, rfl, ?_⟩; conv => whnf) | (refine ⟨_, Weak.refl, ?_⟩; conv => whnf) | fail)
  by_cases c_round : w_round ∈ sn
  rotate_left
  · rw [if_neg c_round] at f_round
    refine ⟨hpl, _, f_round, ?_⟩
    conv => whnf
    (repeat' first | (refine step_go [] ?_; conv => whnf) | (refine two (fun g => ?_) (fun g => ?_) <;> (try simp only [bsx] at g) <;> (conv => whnf)) | (refine And.intro rfl ?_; conv => whnf) | (refine ⟨_, Weak.refl, ?_⟩; conv => whnf) | fail)
    exact h0 fun h => c_round h.2.1
  rw [if_pos c_round] at f_round
  refine ⟨hpl, _, f_round, ?_⟩
  conv => whnf
  (repeat' first | (refine step_go [] ?_; conv => whnf) | (refine two (fun g => ?_) (fun g => ?_) <;> (try simp only [bsx] at g) <;> (conv => whnf)) | (refine And.intro rfl ?_; conv => whnf) | (refine loop_round [] ?_; conv => whnf) | (refine ⟨by decide, _, rfl, rfl, ?_⟩; conv => whnf) | (refine ⟨_, Weak.refl, ?_⟩; conv => whnf) | fail)
  by_cases c_kind : w_kind ∈ sn
  rotate_left
  · rw [if_neg c_kind] at f_kind
    refine ⟨hpl, _, f_kind, ?_⟩
    conv => whnf
    (repeat' first | (refine step_go [] ?_; conv => whnf) | (refine two (fun g => ?_) (fun g => ?_) <;> (try simp only [bsx] at g) <;> (conv => whnf)) | (refine And.intro rfl ?_; conv => whnf) | (refine ⟨_, Weak.refl, ?_⟩; conv => whnf) | fail)
    exact h0 fun h => c_kind h.2.2.1
  rw [if_pos c_kind] at f_kind
  refine ⟨hpl, _, f_kind, ?_⟩
  conv => whnf
  (repeat' first | (refine step_go [] ?_; conv => whnf) | (refine two (fun g => ?_) (fun g => ?_) <;> (try simp only [bsx] at g) <;> (conv => whnf)) | (refine And.intro rfl ?_; conv => whnf) | (refine loop_round [] ?_; conv => whnf) | (refine ⟨by decide, _, rfl, rfl, ?_⟩; conv => whnf) | (refine ⟨_, Weak.refl, ?_⟩; conv => whnf) | fail)
  by_cases c_every : w_every ∈ sn
  rotate_left
  · rw [if_neg c_every] at f_every
    refine ⟨hpl, _, f_every, ?_⟩
    conv => whnf
    (repeat' first | (refine step_go [] ?_; conv => whnf) | (refine two (fun g => ?_) (fun g => ?_) <;> (try simp only [bsx] at g) <;> (conv => whnf)) | (refine And.intro rfl ?_; conv => whnf) | (refine ⟨_, Weak.refl, ?_⟩; conv => whnf) | fail)
    exact h0 fun h => c_every h.2.2.2.1
  rw [if_pos c_every] at f_every
  refine ⟨hpl, _, f_every, ?_⟩
  conv => whnf
  (repeat' first | (refine step_go [] ?_; conv => whnf) | (refine two (fun g => ?_) (fun g => ?_) <;> (try simp only [bsx] at g) <;> (conv => whnf)) | (refine And.intro rfl ?_; conv => whnf) | (refine loop_round [] ?_; conv => whnf) | (refine ⟨by decide, _, rfl, rfl, ?_⟩; conv => whnf) | (refine ⟨_, Weak.refl, ?_⟩; conv => whnf) | fail)
  by_cases c_times : w_times ∈ sn
  rotate_left
  · rw [if_neg c_times] at f_times
    refine ⟨hpl, _, f_times, ?_⟩
    conv => whnf
    (repeat' first | (refine step_go [] ?_; conv => whnf) | (refine two (fun g => ?_) (fun g => ?_) <;> (try simp only [bsx] at g) <;> (conv => whnf)) | (refine And.intro rfl ?_; conv => whnf) | (refine ⟨_, Weak.refl, ?_⟩; conv => whnf) | fail)
    exact h0 fun h => c_times h.2.2.2.2.1
  rw [if_pos c_times] at f_times
  refine ⟨hpl, _, f_times, ?_⟩
  conv => whnf
  (repeat' first | (refine step_go [] ?_; conv => whnf) | (refine two (fun g => ?_) (fun g => ?_) <;> (try simp only [bsx] at g) <;> (conv => whnf)) | (refine And.intro rfl ?_; conv => whnf) | (refine loop_round [] ?_; conv => whnf) | (refine ⟨by decide, _, rfl, rfl, ?_⟩; conv => whnf) | (refine ⟨_, Weak.refl, ?_⟩; conv => whnf) | fail)
  by_cases c_rate : w_rate ∈ sn
  rotate_left
  · rw [if_neg c_rate] at f_rate
    refine ⟨hpl, _, f_rate, ?_⟩
    conv => whnf
    (repeat' first | (refine step_go [] ?_; conv => whnf) | (refine two (fun g => ?_) (fun g => ?_) <;> (try simp only [bsx] at g) <;> (conv => whnf)) | (refine And.intro rfl ?_; conv => whnf) | (refine ⟨_, Weak.refl, ?_⟩; conv => whnf) | fail)
    exact h0 fun h => c_rate h.2.2.2.2.2.1
  rw [if_pos c_rate] at f_rate
  refine ⟨hpl, _, f_rate, ?_⟩
  conv => whnf
  (repeat' first | (refine step_go [] ?_; conv => whnf) | (refine two (fun g => ?_) (fun g => ?_) <;> (try simp only [bsx] at g) <;> (conv => whnf)) | (refine And.intro rfl ?_; conv => whnf) | (refine loop_round [] ?_; conv => whnf) | (refine ⟨by decide, _, rfl, rfl, ?_⟩; conv => whnf) | (refine ⟨_, Weak.refl, ?_⟩; conv => whnf) | fail)
  by_cases c_order : w_order ∈ sn
  rotate_left
  · rw [if_neg c_order] at f_order
    refine ⟨hpl, _, f_order, ?_⟩
    conv => whnf
    (repeat' first | (refine step_go [] ?_; conv => whnf) | (refine two (fun g => ?_) (fun g => ?_) <;> (try simp only [bsx] at g) <;> (conv => whnf)) | (refine And.intro rfl ?_; conv => whnf) | (refine ⟨_, Weak.refl, ?_⟩; conv => whnf) | fail)
    exact h0 fun h => c_order h.2.2.2.2.2.2
  rw [if_pos c_order] at f_order
  refine ⟨hpl, _, f_order, ?_⟩
  conv => whnf
  (repeat' first | (refine step_go [] ?_; conv => whnf) | (refine two (fun g => ?_) (fun g => ?_) <;> (try simp only [bsx] at g) <;> (conv => whnf)) | (refine And.intro rfl ?_; conv => whnf) | (refine loop_round [] ?_; conv => whnf) | (refine ⟨by decide, _, rfl, rfl, ?_⟩; conv => whnf) | (refine ⟨_, Weak.refl, ?_⟩; conv => whnf) | fail)
  exact h1 ⟨c_count, c_round, c_kind, c_every, c_times, c_rate, c_order⟩
end C32

namespace C33
open Go Go.Proofs VL D1 B10 B12 B13 C8 BB6 BB10 BB14 C1 C2 C3 C4 C6 C11 C14 C15 C20 C22 C23 C24 C25 C26 C27 C28 C28b C28c C28d C29 C30 C31 C32
set_option maxRecDepth 100000
def zP : List V := [.str ⟨#[]⟩, .int .i64 0, .int .i64 0, .int .i64 0, .int .i64 0, .int .i64 0, .int .i64 0, .int .i64 0, .sl [] .ex, .int .i64 0, .int .i64 0, .int .i64 0, .int .i64 0, .int .i64 0, .int .i64 0, .sl [] .ex, .int .i64 0, .int .i64 0, .sl [] .ex]
def pO (l : List V) (a e : Int) : List VObj := [.cells true 28 l, .cells true 3 [.int .i64 a], .cells true 29 [.int .i64 e]]
theorem d_parse1 (a e p f : Int) (K) (h : K true (pO zP p f)) : VCallD Try.prog 6 [.ptr 0 0, .ptr 1 0, .ptr 2 0] (pO zP a e) (some (fltP p f)) K := by
  unfold fltP
  unfold pO zP at h ⊢
  refine calld_fun [] 3 Try.func6 (by rfl) (by rfl) ?_
  conv => whnf
  refine ⟨rfl, ?_⟩
  conv => whnf
  (repeat' first | (refine step_go [] ?_; conv => whnf) | (refine two (fun g => ?_) (fun g => ?_) <;> (try simp only [bsx] at g) <;> (conv => whnf)) | (refine And.intro rfl ?_; conv => whnf) | (refine dr_go (by decide +kernel) ?_; conv => whnf) | fail)
  exact h
theorem d_parse0 (l : List V) (hl : l = zP) (a e : Int) (K) (h : K false (pO l a e)) : VCallD Try.prog 6 [.ptr 0 0, .ptr 1 0, .ptr 2 0] (pO l a e) none K := by
  subst hl
  unfold pO zP at h ⊢
  refine calld_fun [] 3 Try.func6 (by rfl) (by rfl) ?_
  conv => whnf
  refine ⟨rfl, ?_⟩
  conv => whnf
  (repeat' first | (refine step_go [] ?_; conv => whnf) | (refine two (fun g => ?_) (fun g => ?_) <;> (try simp only [bsx] at g) <;> (conv => whnf)) | (refine And.intro rfl ?_; conv => whnf) | (refine dr_go (by decide +kernel) ?_; conv => whnf) | fail)
  exact h
def pCr (k : Nat) (p : Prod) (s1 s2 s3 : List V) : List V := [.str p.name, .int .i64 p.count, .int .i64 p.rnd, .int .i64 p.kind, .int .i64 p.every, .int .i64 p.times, .int .i64 p.grace, .int .i64 p.rate, .slo k 2 0 p.resets.length (p.resets.length + s1.length), .int .i64 p.pen, .int .i64 p.o1, .int .i64 p.o2, .int .i64 p.o3, .int .i64 p.o4, .int .i64 p.over, .slo (k + 1) 2 0 p.late.length (p.late.length + s2.length), .int .i64 p.cap, .int .i64 p.roll, .slo (k + 2) 1 0 p.hol.length (p.hol.length + s3.length)]
theorem d_parse2 (p : Prod) (s1 s2 s3 : List V) (K) (h : K false (pO (pCr 3 p s1 s2 s3) 0 0 ++ [.buf false 2 (rL p.resets ++ s1), .buf false 2 (tL p.late ++ s2), .buf false 1 (iL p.hol ++ s3)])) :
    VCallD Try.prog 6 [.ptr 0 0, .ptr 1 0, .ptr 2 0] (pO (pCr 3 p s1 s2 s3) 0 0 ++ [.buf false 2 (rL p.resets ++ s1), .buf false 2 (tL p.late ++ s2), .buf false 1 (iL p.hol ++ s3)]) none K := by
  unfold pO pCr at h ⊢
  refine calld_fun [] 6 Try.func6 (by rfl) (by rfl) ?_
  conv => whnf
  refine ⟨rfl, ?_⟩
  conv => whnf
  (repeat' first | (refine step_go [] ?_; conv => whnf) | (refine two (fun g => ?_) (fun g => ?_) <;> (try simp only [bsx] at g) <;> (conv => whnf)) | (refine And.intro rfl ?_; conv => whnf) | (refine dr_go (by decide +kernel) ?_; conv => whnf) | fail)
  exact h
theorem tk_r {l : List Rs} {s : List V} : List.take l.length (List.drop 0 (rL l ++ s)) = rL l := by rw [List.drop_zero, show l.length = (rL l).length by simp [rL], List.take_left]
theorem tk_t {l : List Ti} {s : List V} : List.take l.length (List.drop 0 (tL l ++ s)) = tL l := by rw [List.drop_zero, show l.length = (tL l).length by simp [tL], List.take_left]
theorem tk_i {l : List Int} {s : List V} : List.take l.length (List.drop 0 (iL l ++ s)) = iL l := by rw [List.drop_zero, show l.length = (iL l).length by simp [iL], List.take_left]
theorem frz_then (i : Nat) (sp : Bool) {m : Nat} {s F : St} (h : St.frzK i sp s fun s' => Weak m s' F) : Weak m s F := by
  obtain ⟨s', h1, h2⟩ := weak_frz (m := m) i sp h
  exact h1.trans h2
theorem end_frz3 {p : Prod} {a b c : Bool} {s1 s2 s3 : List V} {K : Out → List VObj → Prop} (h : K (.ret (.tup [encP p, .int .i64 0, .int .i64 0])) []) :
    ∃ v' sub', Weak 0 ⟨[.tup [.agg (pCr 0 p s1 s2 s3), .int .i64 0, .int .i64 0]], [.buf a 2 (rL p.resets ++ s1), .buf b 2 (tL p.late ++ s2), .buf c 1 (iL p.hol ++ s3)], 0, []⟩ ⟨[v'], sub', 0, []⟩ ∧ K (.ret v') sub' := by
  refine ⟨.tup [encP p, .int .i64 0, .int .i64 0], [], ?_, h⟩
  unfold pCr
  refine frz_then 0 false ?_
  conv => whnf
  refine ⟨by simp [rL], ?_⟩
  rw [tk_r]
  conv => whnf
  refine frz_then 1 false ?_
  conv => whnf
  refine ⟨by simp [tL], ?_⟩
  rw [tk_t]
  conv => whnf
  refine frz_then 2 false ?_
  conv => whnf
  refine ⟨by simp [iL], ?_⟩
  rw [tk_i]
  conv => whnf
  exact weak_of (.cons (.eq rfl) .nil) .nil rfl rfl rfl
theorem parse_err {s : List Int} {l : List C3.Tok} {p : Nat} {e : Int} (hl : lexS s = .ok l) (h : textP l = .err p e) : parseS s = (prod0, (p : Int), e) := by unfold parseS; rw [hl]; simp only; rw [h]
theorem parse_yes {s : List Int} {l : List C3.Tok} {q r} (hl : lexS s = .ok l) (h : textP l = .ok q r) (hw : wholeP q.2) (hc : checkP q.1) : parseS s = (q.1, 0, 0) := by unfold parseS; rw [hl]; simp only; rw [h]; simp only; rw [if_pos ⟨hw, hc⟩]
theorem parse_no {s : List Int} {l : List C3.Tok} {q r} (hl : lexS s = .ok l) (h : textP l = .ok q r) (hw : ¬ (wholeP q.2 ∧ checkP q.1)) : parseS s = (prod0, (((nextT l).1.at_ : Nat) : Int), 9) := by unfold parseS; rw [hl]; simp only; rw [h]; simp only; rw [if_neg hw]
theorem parse_lex {s : List Int} {p : Nat} {e : Int} (hl : lexS s = .error (p, e)) : parseS s = (prod0, (p : Int), e) := by unfold parseS; rw [hl]
theorem POk0 : POk { prod0 with over := 1, roll := 1 } := by
  refine ⟨by decide, ?_, ?_, ?_, ?_, ?_, ?_, ?_, ?_, ?_, ?_, ?_, ?_, ?_, ?_, ?_, fun x hx => ?_, fun x hx => ?_, fun x hx => ?_⟩
  all_goals first
    | (unfold I64; decide)
    | (exact absurd hx (by simp [prod0]))
theorem textP_I {l : List C3.Tok} {q r} (ht : ∀ t ∈ l, t.text.length < 1000000) (hl : endT l) (h : textP l = .ok q r) : POk q.1 := by
  unfold textP at h
  obtain ⟨a1, s1, h1, h2⟩ := bind_ok h
  obtain ⟨a2, s2, h3, h4⟩ := bind_ok h2
  split at h4
  · obtain ⟨a3, s3, h5, h6⟩ := bind_ok h4
    obtain ⟨a4, s4, h7, h8⟩ := bind_ok h6
    obtain ⟨a5, s5, h9, h10⟩ := bind_ok h8
    injection h10 with e1 e2
    subst e1
    refine groupS_I _ ?_ h7
    rename_i hn
    have hn20 : a2.text.length ≤ 20 := hn.1.2.1
    exact { POk0 with name := by rw [toBA_size]; omega }
  · cases h4
set_option maxHeartbeats 8000000 in
theorem c_Parse (s : ByteArray) (hs : s.size < 1000000) (K : Out → List VObj → Prop)
    (h : K (.ret (.tup [encP (parseS (sB s)).1, .int .i64 (parseS (sB s)).2.1, .int .i64 (parseS (sB s)).2.2])) []) : VCall Try.prog 4 [.str s] [] K := by
  refine VCall.weak (call_fun [] 0 Try.func4 (by rfl) (by rfl) ?_)
  conv => whnf
  (repeat' first | (refine step_go [] ?_; conv => whnf) | (refine two (fun g => ?_) (fun g => ?_) <;> (try simp only [bsx] at g) <;> (conv => whnf)) | (refine And.intro rfl ?_; conv => whnf) | (refine dr_go (by decide +kernel) ?_; conv => whnf) | fail)
  refine C8.c_All s hs _ (fun l hl => ?_) (fun p e hl => ?_)
  rotate_left
  · rw [parse_lex hl] at h
    have he := lexS_err hl
    conv => whnf
    (repeat' first | (refine step_go [] ?_; conv => whnf) | (refine two (fun g => ?_) (fun g => ?_) <;> (try simp only [bsx] at g) <;> (conv => whnf)) | (refine And.intro rfl ?_; conv => whnf) | (refine dr_go (by decide +kernel) ?_; conv => whnf) | fail)
    rotate_left
    · exfalso; omega
    · refine d_parse0 zP rfl p e _ ?_
      conv => whnf
      (repeat' first | (refine step_go [] ?_; conv => whnf) | (refine two (fun g => ?_) (fun g => ?_) <;> (try simp only [bsx] at g) <;> (conv => whnf)) | (refine And.intro rfl ?_; conv => whnf) | fail)
      refine ⟨_, _, weak_of (.cons (.tup (.cons (.agg ?_) (.cons (.eq rfl) (.cons (.eq rfl) .nil)))) .nil) .nil rfl rfl rfl, h⟩
      (repeat' first | exact VQs.nil | refine VQs.cons VQ.no ?_ | refine VQs.cons VQ.spare ?_ | refine VQs.cons (VQ.eq rfl) ?_)
  obtain ⟨hend, hok, hne, hat, hsz, hkl⟩ := lexS_props hl (sB_byte s)
  conv => whnf
  (refine step_go [] ?_; conv => whnf)
  (refine step_go [] ?_; conv => whnf)
  (refine step_go [] ?_; conv => whnf)
  let S1 : St := ⟨(.str s :: .undef :: .ptr 0 0 :: .ptr 1 0 :: .ptr 2 0 :: .sl (kL l) .no :: .ptr 4 0 :: .undef :: .undef :: .undef :: .undef :: .undef :: .undef :: .undef :: .undef :: .undef :: .undef :: .undef :: .undef :: .undef :: .undef :: .undef :: .undef :: .undef :: .undef :: .undef :: .undef :: .undef :: .undef :: .undef :: .undef :: .undef :: .undef :: .undef :: .undef :: .undef :: .undef :: .undef :: .undef :: .undef :: .undef :: .undef :: .undef :: .undef :: .undef :: .undef :: .undef :: []), pO zP 0 0 ++ [.map [], .cells true 42 [.sl (kL l) .no, .int .i64 0, .str ⟨#[]⟩, .int .i64 0, .int .i64 0, .int .i64 0, .int .i64 0, .int .i64 0, .int .i64 0, .int .i64 0, .slo 5 2 0 0 0, .int .i64 0, .int .i64 0, .int .i64 0, .int .i64 0, .int .i64 0, .int .i64 1, .slo 6 2 0 0 0, .int .i64 0, .int .i64 1, .slo 7 1 0 0 0, .mp 3], .buf false 2 [], .buf false 2 [], .buf false 1 []], 0, [(.func 6, [], [.ptr 0 0, .ptr 1 0, .ptr 2 0])]⟩
  refine VStep.weak (s' := S1) (Weak.trans (weak_nil 4 10 2 none rfl rfl (Nat.zero_le _)) (Weak.trans (weak_nil 4 17 2 none rfl rfl (Nat.zero_le _)) (Weak.trans (weak_nil 4 20 1 none rfl rfl (Nat.zero_le _)) (weak_of ?_ (.cons (.eq rfl) (.cons (.eq rfl) (.cons (.eq rfl) (.cons (.eq rfl) (.cons (.eq rfl) (.cons (.eq rfl) (.cons (.eq rfl) (.cons (.eq rfl) .nil)))))))) rfl rfl rfl)))) ?_
  · (repeat' first | exact VWs.nil | refine VWs.cons VW.undef ?_ | refine VWs.cons (VW.eq rfl) ?_)
  dsimp only [S1, pO, zP, List.cons_append, List.nil_append]
  conv => whnf
  (repeat' first | (refine step_go [] ?_; conv => whnf) | (refine two (fun g => ?_) (fun g => ?_) <;> (try simp only [bsx] at g) <;> (conv => whnf)) | (refine And.intro rfl ?_; conv => whnf) | fail)
  refine c_text l 0 (by rw [List.drop_zero]; exact hend) hok ⟨{ prod0 with over := 1, roll := 1 }, [], [], [], []⟩ rfl rfl _ (fun q r i' x' e hq hsn hz => ?_) (fun p e i' x' he => ?_)
  rotate_left
  · rw [List.drop_zero] at he
    rw [parse_err hl he] at h
    refine ⟨?_, ?_⟩
    all_goals
      conv => whnf
      (repeat' first | (refine step_go [] ?_; conv => whnf) | (refine two (fun g => ?_) (fun g => ?_) <;> (try simp only [bsx] at g) <;> (conv => whnf)) | (refine And.intro rfl ?_; conv => whnf) | fail)
      refine d_parse1 0 0 p e _ ?_
      conv => whnf
      (repeat' first | (refine step_go [] ?_; conv => whnf) | (refine two (fun g => ?_) (fun g => ?_) <;> (try simp only [bsx] at g) <;> (conv => whnf)) | (refine And.intro rfl ?_; conv => whnf) | fail)
      refine ⟨_, _, weak_of (.cons (.tup (.cons (.agg ?_) (.cons (.eq rfl) (.cons (.eq rfl) .nil)))) .nil) .nil rfl rfl rfl, h⟩
      (repeat' first | exact VQs.nil | refine VQs.cons VQ.no ?_ | refine VQs.cons VQ.spare ?_ | refine VQs.cons (VQ.eq rfl) ?_)
  rw [List.drop_zero] at e
  obtain ⟨_, t, r0, hlt, hnt, _⟩ := endT_next hend
  have hget : (kL l)[Int.toNat 0]? = some (encK t) := by rw [hlt]; rfl
  have hno : ¬ (wholeP q.2 ∧ checkP q.1) → K (.ret (.tup [encP prod0, .int .i64 (t.at_ : Nat), .int .i64 9])) [] := fun hh => by rw [parse_no hl e hh, hnt] at h; exact h
  have hyes : wholeP q.2 → checkP q.1 → K (.ret (.tup [encP q.1, .int .i64 0, .int .i64 0])) [] := fun a b => by rw [parse_yes hl e a b] at h; exact h
  have hI := textP_I (fun t ht => (hok.2 t ht).2) hend e
  rw [← hq] at hI hz hno hyes
  have hPok : x'.p.ok := hI.full (by omega) (by omega) (by omega)
  clear h
  conv => whnf
  (repeat' first | (refine step_go [] ?_; conv => whnf) | (refine two (fun g => ?_) (fun g => ?_) <;> (try simp only [bsx] at g) <;> (conv => whnf)) | (refine And.intro rfl ?_; conv => whnf) | fail)
  refine c_whole l i' x' q.2 hsn _ (fun hw => ?_) (fun hw => ?_)
  rotate_left
  · have hf := hno fun hh => hw hh.1
    conv => whnf
    (repeat' first | (refine step_go [] ?_; conv => whnf) | (refine two (fun g => ?_) (fun g => ?_) <;> (try simp only [bsx] at g) <;> (conv => whnf)) | (refine And.intro rfl ?_; conv => whnf) | (refine ⟨by decide, _, hget, rfl, ?_⟩; conv => whnf) | fail)
    refine d_parse1 0 0 t.at_ 9 _ ?_
    conv => whnf
    (repeat' first | (refine step_go [] ?_; conv => whnf) | (refine two (fun g => ?_) (fun g => ?_) <;> (try simp only [bsx] at g) <;> (conv => whnf)) | (refine And.intro rfl ?_; conv => whnf) | fail)
    refine ⟨_, _, weak_of (.cons (.tup (.cons (.agg ?_) (.cons (.eq rfl) (.cons (.eq rfl) .nil)))) .nil) .nil rfl rfl rfl, hf⟩
    (repeat' first | exact VQs.nil | refine VQs.cons VQ.no ?_ | refine VQs.cons VQ.spare ?_ | refine VQs.cons (VQ.eq rfl) ?_)
  conv => whnf
  (repeat' first | (refine step_go [] ?_; conv => whnf) | (refine two (fun g => ?_) (fun g => ?_) <;> (try simp only [bsx] at g) <;> (conv => whnf)) | (refine And.intro rfl ?_; conv => whnf) | fail)
  refine VCall.lendC ?_
  conv => whnf
  refine ⟨by simp [rL], ?_⟩
  conv => whnf
  refine ⟨by simp [tL], ?_⟩
  conv => whnf
  refine ⟨by simp [iL], ?_⟩
  conv => whnf
  rw [tk_r, tk_t, tk_i]
  refine c_Check x'.p hPok _ ?_
  conv => whnf
  refine ⟨rfl, ?_⟩
  conv => whnf
  have hcc : checkP x'.p → checkC x'.p = 0 := fun hh => by unfold checkC; rw [if_pos hh]
  have hcn : ¬ checkP x'.p → checkC x'.p = 9 := fun hh => by unfold checkC; rw [if_neg hh]
  obtain ⟨cc, hcd⟩ : ∃ cc, checkC x'.p = cc := ⟨_, rfl⟩
  rw [hcd] at hcc hcn ⊢
  (repeat' first | (refine step_go [] ?_; conv => whnf) | (refine two (fun g => ?_) (fun g => ?_) <;> (try simp only [bsx] at g) <;> (conv => whnf)) | (refine And.intro rfl ?_; conv => whnf) | (refine ⟨by decide, _, hget, rfl, ?_⟩; conv => whnf) | fail)
  · have hf := hno fun hh => g (hcc hh.2)
    refine d_parse1 0 0 t.at_ 9 _ ?_
    conv => whnf
    (repeat' first | (refine step_go [] ?_; conv => whnf) | (refine two (fun g => ?_) (fun g => ?_) <;> (try simp only [bsx] at g) <;> (conv => whnf)) | (refine And.intro rfl ?_; conv => whnf) | fail)
    refine ⟨_, _, weak_of (.cons (.tup (.cons (.agg ?_) (.cons (.eq rfl) (.cons (.eq rfl) .nil)))) .nil) .nil rfl rfl rfl, hf⟩
    (repeat' first | exact VQs.nil | refine VQs.cons VQ.no ?_ | refine VQs.cons VQ.spare ?_ | refine VQs.cons (VQ.eq rfl) ?_)
  · have hck : checkP x'.p := by
      by_cases hh : checkP x'.p
      · exact hh
      · have := hcn hh; omega
    have hf := hyes hw hck
    refine d_parse2 x'.p x'.s1 x'.s2 x'.s3 _ ?_
    conv => whnf
    (repeat' first | (refine step_go [] ?_; conv => whnf) | (refine two (fun g => ?_) (fun g => ?_) <;> (try simp only [bsx] at g) <;> (conv => whnf)) | (refine And.intro rfl ?_; conv => whnf) | fail)
    exact end_frz3 (s1 := x'.s1) (s2 := x'.s2) (s3 := x'.s3) hf
end C33

namespace CR1
open Go Go.Proofs VL D1 B10 B12 B13 C8 BB6 BB10 BB14 C1 C2 C3 C4 C6 C15 C20 C22 C28 C28b
set_option maxRecDepth 100000
structure RS where
  p : Prod
  s1 : List V
  s2 : List V
  s3 : List V
  h : List (List Int)
  s4 : List V
  err : Int
  at_ : Int
end CR1

namespace CR2
open Go Go.Proofs VL D1 B10 B12 B13 B20 B21 B22 C8 BB6 BB10 BB14 C1 C2 C3 C4 C6 C15 C20 C21 C22 C25 C26 C28 C28b CR1
set_option maxRecDepth 100000
end CR2

namespace CR3
open Go Go.Proofs VL D1 B10 B12 B13 B20 B21 B22 C8 BB6 BB10 BB14 C1 C2 C3 C4 C6 C15 C20 C21 C22 C25 C26 C28 C28b CR1 CR2
set_option maxRecDepth 100000
end CR3

namespace CR4
open Go Go.Proofs VL D1 B10 B12 B13 B20 B21 B22 C8 BB6 BB10 BB14 C1 C2 C3 C4 C6 C15 C20 C21 C22 C25 C26 C28 C28b CR1 CR2 CR3
set_option maxRecDepth 100000
end CR4

namespace CR5
open Go Go.Proofs VL D1 B10 B12 B13 B20 B21 B22 C8 BB6 BB10 BB14 C1 C2 C3 C4 C6 C15 C20 C21 C22 C25 C26 C28 C28b C28c CR1 CR2 CR3 CR4
set_option maxRecDepth 100000
end CR5

namespace CR6
open Go Go.Proofs VL D1 B10 B12 B13 B20 B21 B22 C8 BB6 BB10 BB14 C1 C2 C3 C4 C6 C15 C20 C21 C22 C25 C26 C28 C28b C28c C29 CR1 CR2 CR3 CR4 CR5
set_option maxRecDepth 100000
end CR6

namespace CR7
open Go Go.Proofs VL D1 B10 B12 B13 B20 B21 B22 C8 BB6 BB10 BB14 C1 C2 C3 C4 C6 C15 C18 C20 C21 C22 C25 C26 C28 C28b C28c C28d C29 C30 C33 CR1 CR2 CR3 CR4 CR5 CR6
set_option maxRecDepth 100000
end CR7

namespace CR8
open Go Go.Proofs VL D1 B10 C1 C2 BB10 BB14 C6 C22 C28d
set_option maxRecDepth 100000
end CR8

namespace CR9
open Go Go.Proofs VL D1 B10 B12 B13 BB5 BB6 BB10 BB14 C1 C2 C3 C4 C6 C11 C15 C20 C22 C28 C28b C28d C29 C30 C33 CR8
set_option maxRecDepth 100000
def nameC (l : List Int) : Bool := (decide (1 ≤ l.length) && decide (l.length ≤ 20) && (match l with | x :: _ => decide (Small x) | [] => true) && l.all fun x => decide (Inner x)) && !(decide (l ∈ wordsL))
theorem nameC_iff (l : List Int) : nameC l = true ↔ nameP l := by
  unfold nameC nameP
  simp only [Bool.and_eq_true, decide_eq_true_eq, Bool.not_eq_true', decide_eq_false_iff_not, List.all_eq_true]
  cases l with
  | nil => simp
  | cons x r => simp [and_assoc]
noncomputable def textC (l : List C3.Tok) : Res (Prod × List (List Int)) :=
  (wantS 1 w_product l).bind fun _ l => (wantS 1 [] l).bind fun t l =>
    if nameC t.text = true then (wantS 3 [123] l).bind fun _ l => (groupS (l.length + 1) 1 l { prod0 with name := toBA t.text, over := 1, roll := 1 } []).bind fun q l => (wantS 0 [] l).bind fun _ l => .ok q l
    else .err t.at_ 7
open Classical in
theorem textC_eq (l : List C3.Tok) : textP l = textC l := by
  unfold textP textC
  cases wantS 1 w_product l with
  | err p e => rfl
  | ok t l1 =>
    show Res.bind (wantS 1 [] l1) _ = Res.bind (wantS 1 [] l1) _
    cases wantS 1 [] l1 with
    | err p e => rfl
    | ok t l2 =>
      show (if nameP t.text then _ else _) = (if nameC t.text = true then _ else _)
      by_cases h : nameP t.text
      · rw [if_pos h, if_pos ((nameC_iff _).2 h)]
      · rw [if_neg h, if_neg (fun hh => h ((nameC_iff _).1 hh))]
noncomputable def readC (s : List Int) : Option (Res (Prod × List (List Int))) := match lexS s with
  | .ok l => some (textC l)
  | .error _ => none
theorem read_ok {s : List Int} {q : Prod × List (List Int)} {r : List C3.Tok} (h : readC s = some (.ok q r)) (hw : wholeP q.2) (hc : checkP q.1) : parseS s = (q.1, 0, 0) := by
  unfold readC at h
  split at h
  · rename_i l hl
    injection h with h
    rw [← textC_eq] at h
    exact parse_yes hl h hw hc
  · cases h
theorem read_err {s : List Int} {p : Nat} {e : Int} (h : readC s = some (.err p e)) : parseS s = (prod0, (p : Int), e) := by
  unfold readC at h
  split at h
  · rename_i l hl
    injection h with h
    rw [← textC_eq] at h
    exact parse_err hl h
  · cases h
def eqP (p q : Prod) : Bool := decide (p.name.data = q.name.data) && decide (p.count = q.count) && decide (p.rnd = q.rnd) && decide (p.kind = q.kind) && decide (p.every = q.every) && decide (p.times = q.times) && decide (p.grace = q.grace) && decide (p.rate = q.rate) && decide (p.resets.map (fun r => (r.aft, r.rate)) = q.resets.map (fun r => (r.aft, r.rate))) && decide (p.pen = q.pen) && decide (p.o1 = q.o1) && decide (p.o2 = q.o2) && decide (p.o3 = q.o3) && decide (p.o4 = q.o4) && decide (p.over = q.over) && decide (p.late.map (fun r => (r.days, r.fee)) = q.late.map (fun r => (r.days, r.fee))) && decide (p.cap = q.cap) && decide (p.roll = q.roll) && decide (p.hol = q.hol)
theorem map_rs : ∀ {a b : List Rs}, a.map (fun r => (r.aft, r.rate)) = b.map (fun r => (r.aft, r.rate)) → a = b
  | [], [], _ => rfl
  | [], _ :: _, h => by simp at h
  | _ :: _, [], h => by simp at h
  | x :: a, y :: b, h => by
    simp only [List.map_cons, List.cons.injEq, _root_.Prod.mk.injEq] at h
    obtain ⟨⟨h1, h2⟩, h3⟩ := h
    cases x; cases y
    simp only at h1 h2
    rw [h1, h2, map_rs h3]
theorem map_ti : ∀ {a b : List Ti}, a.map (fun r => (r.days, r.fee)) = b.map (fun r => (r.days, r.fee)) → a = b
  | [], [], _ => rfl
  | [], _ :: _, h => by simp at h
  | _ :: _, [], h => by simp at h
  | x :: a, y :: b, h => by
    simp only [List.map_cons, List.cons.injEq, _root_.Prod.mk.injEq] at h
    obtain ⟨⟨h1, h2⟩, h3⟩ := h
    cases x; cases y
    simp only at h1 h2
    rw [h1, h2, map_ti h3]
theorem eqP_eq {p q : Prod} (h : eqP p q = true) : p = q := by
  unfold eqP at h
  simp only [Bool.and_eq_true, decide_eq_true_eq] at h
  obtain ⟨⟨⟨⟨⟨⟨⟨⟨⟨⟨⟨⟨⟨⟨⟨⟨⟨⟨h1, h2⟩, h3⟩, h4⟩, h5⟩, h6⟩, h7⟩, h8⟩, h9⟩, h10⟩, h11⟩, h12⟩, h13⟩, h14⟩, h15⟩, h16⟩, h17⟩, h18⟩, h19⟩ := h
  have h9 := map_rs h9
  have h16 := map_ti h16
  have h1 := ByteArray.ext h1
  cases p; cases q
  simp only at *
  subst h1 h2 h3 h4 h5 h6 h7 h8 h9 h10 h11 h12 h13 h14 h15 h16 h17 h18 h19
  rfl
def wholeC (sn : List (List Int)) : Bool := decide (w_count ∈ sn) && decide (w_round ∈ sn) && decide (w_kind ∈ sn) && decide (w_every ∈ sn) && decide (w_times ∈ sn) && decide (w_rate ∈ sn) && decide (w_order ∈ sn)
theorem wholeC_iff (sn : List (List Int)) : wholeC sn = true ↔ wholeP sn := by
  unfold wholeC wholeP
  simp only [Bool.and_eq_true, decide_eq_true_eq, and_assoc]
noncomputable def isC (s : List Int) (p : Prod) : Bool := match readC s with
  | some (.ok q _) => eqP q.1 p && wholeC q.2
  | _ => false
theorem is_ok {s : List Int} {p : Prod} (h : isC s p = true) (hc : checkP p) : parseS s = (p, 0, 0) := by
  unfold isC at h
  split at h
  · rename_i q r e
    rw [Bool.and_eq_true] at h
    have hp := eqP_eq h.1
    subst hp
    exact read_ok e ((wholeC_iff _).1 h.2) hc
  · cases h
noncomputable def errC (s : List Int) (p : Nat) (e : Int) : Bool := match readC s with
  | some (.err p' e') => decide (p' = p) && decide (e' = e)
  | _ => false
theorem is_err {s : List Int} {p : Nat} {e : Int} (h : errC s p e = true) : parseS s = (prod0, (p : Int), e) := by
  unfold errC at h
  split at h
  · rename_i p' e' hr
    simp only [Bool.and_eq_true, decide_eq_true_eq] at h
    rw [h.1, h.2] at hr
    exact read_err hr
  · cases h
def T0 : List Int := [112, 114, 111, 100, 117, 99, 116, 32, 104, 111, 109, 101, 32, 123, 32, 99, 111, 117, 110, 116, 32, 102, 105, 120, 101, 100, 59, 32, 114, 111, 117, 110, 100, 32, 104, 97, 108, 102, 45, 117, 112, 59, 32, 107, 105, 110, 100, 32, 97, 110, 110, 117, 105, 116, 121, 59, 32, 101, 118, 101, 114, 121, 32, 49, 59, 32, 116, 105, 109, 101, 115, 32, 49, 50, 59, 32, 114, 97, 116, 101, 32, 54, 37, 59, 32, 111, 114, 100, 101, 114, 32, 102, 101, 101, 115, 32, 112, 101, 110, 97, 108, 116, 121, 32, 105, 110, 116, 101, 114, 101, 115, 116, 32, 112, 114, 105, 110, 99, 105, 112, 97, 108, 59, 32, 125]
def homeP : Prod := { prod0 with name := ⟨#[104, 111, 109, 101]⟩, count := 2, rnd := 1, kind := 1, every := 1, times := 12, rate := 60000000, o1 := 1, o2 := 2, o3 := 3, o4 := 4, over := 1, roll := 1 }
theorem read_T0 : isC T0 homeP = true := by kernel_rfl
theorem home_ok : checkP homeP := by
  refine ⟨⟨⟨?_, by decide, by decide, by decide⟩, by unfold shape2; decide, by unfold shape3; decide⟩, ⟨by decide, by decide, by decide, trivial⟩, ⟨by unfold orderP; decide, by decide⟩, ⟨by decide, by decide, by decide, trivial⟩, ⟨⟨by decide, trivial⟩, by decide, by decide⟩⟩
  exact (nameC_iff _).1 (by decide)
theorem parse_T0 : parseS T0 = (homeP, 0, 0) := is_ok read_T0 home_ok
theorem parse_nil : parseS [] = (prod0, 0, 7) := is_err (p := 0) (by kernel_rfl)
def T0B : ByteArray := ⟨#[112, 114, 111, 100, 117, 99, 116, 32, 104, 111, 109, 101, 32, 123, 32, 99, 111, 117, 110, 116, 32, 102, 105, 120, 101, 100, 59, 32, 114, 111, 117, 110, 100, 32, 104, 97, 108, 102, 45, 117, 112, 59, 32, 107, 105, 110, 100, 32, 97, 110, 110, 117, 105, 116, 121, 59, 32, 101, 118, 101, 114, 121, 32, 49, 59, 32, 116, 105, 109, 101, 115, 32, 49, 50, 59, 32, 114, 97, 116, 101, 32, 54, 37, 59, 32, 111, 114, 100, 101, 114, 32, 102, 101, 101, 115, 32, 112, 101, 110, 97, 108, 116, 121, 32, 105, 110, 116, 101, 114, 101, 115, 116, 32, 112, 114, 105, 110, 99, 105, 112, 97, 108, 59, 32, 125]⟩
theorem sB_T0B : sB T0B = T0 := by decide +kernel
theorem c_text09 (K : Out → List VObj → Prop) (h : K (.ret (.str T0B)) []) : VCall Try.prog 11 [] [] K := by
  refine call_fun [] 0 Try.func11 (by rfl) (by rfl) ?_
  conv => whnf
  (repeat' first | (refine step_go [] ?_; conv => whnf) | (refine two (fun g => ?_) (fun g => ?_) <;> (try simp only [bsx] at g) <;> (conv => whnf)) | (refine And.intro rfl ?_; conv => whnf) | fail)
  exact h
set_option maxHeartbeats 4000000 in
theorem c_awake (K : Out → List VObj → Prop) (h : K (.ret (.bool true)) []) : VCall Try.prog 5 [] [] K := by
  have hn0 : sB ⟨#[]⟩ = [] := rfl
  obtain ⟨P, hP⟩ : ∃ P, P = homeP := ⟨_, rfl⟩
  have hp := parse_T0
  rw [← hP] at hp
  have p1 : P.name.toList = (⟨#[104, 111, 109, 101]⟩ : ByteArray).toList := by rw [hP]; rfl
  have p2 : P.times = 12 := by rw [hP]; rfl
  have p3 : P.over = 1 := by rw [hP]; rfl
  clear hP
  obtain ⟨a0, ha0⟩ : ∃ a : Int, a = 0 := ⟨_, rfl⟩
  obtain ⟨a7, ha7⟩ : ∃ a : Int, a = 7 := ⟨_, rfl⟩
  have hp : parseS T0 = (P, a0, a0) := by rw [ha0]; exact hp
  have hq : parseS [] = (prod0, a0, a7) := by rw [ha0, ha7]; exact parse_nil
  refine call_fun [] 0 Try.func5 (by rfl) (by rfl) ?_
  conv => whnf
  (repeat' first | (refine step_go [] ?_; conv => whnf) | (refine two (fun g => ?_) (fun g => ?_) <;> (try simp only [bsx] at g) <;> (conv => whnf)) | (refine And.intro rfl ?_; conv => whnf) | fail)
  refine c_text09 _ ?_
  conv => whnf
  (repeat' first | (refine step_go [] ?_; conv => whnf) | (refine two (fun g => ?_) (fun g => ?_) <;> (try simp only [bsx] at g) <;> (conv => whnf)) | (refine And.intro rfl ?_; conv => whnf) | fail)
  refine c_Parse T0B (by decide +kernel) _ ?_
  rw [sB_T0B, hp]
  conv => whnf
  (repeat' first | (refine step_go [] ?_; conv => whnf) | (refine two (fun g => ?_) (fun g => ?_) <;> (try simp only [bsx] at g) <;> (conv => whnf)) | (refine And.intro rfl ?_; conv => whnf) | fail)
  refine c_Parse ⟨#[]⟩ (by decide) _ ?_
  rw [hn0, hq]
  conv => whnf
  (repeat' first | (refine step_go [] ?_; conv => whnf) | (refine two (fun g => ?_) (fun g => ?_) <;> (try simp only [bsx] at g) <;> (conv => whnf)) | (refine And.intro rfl ?_; conv => whnf) | fail)
  all_goals first
    | exact absurd (by assumption) (by assumption)
    | exact absurd ha0 (by assumption)
    | exact absurd p1 (by assumption)
    | exact absurd p2 (by assumption)
    | exact absurd p3 (by assumption)
    | exact absurd ha7 (by assumption)
    | (refine Eq.mp (congrArg (fun b => K (.ret (.bool b)) []) ?_) h
       simp [ha0, ha7, p2, p3]; done)
    | trace_state
theorem hgi (W : World) (hsh : W.ShapedOpen Try.prog) : ∀ b, globI b = true → ∃ m, W.cell? ⟨b, 0, none⟩ = some (.int .i64 m) := by
  intro b hb
  match b, hb with
  | 0, _ => exact cell_of_shapedOpen_int (P := Try.prog) (g := 0) (t := 3) (zero := #[.int .i64 0]) hsh (of_decide_eq_true (by kernel_rfl)) (by kernel_rfl) rfl (by kernel_rfl) (by kernel_rfl) (by kernel_rfl)
end CR9

namespace CRE
open Go Go.Proofs VL D1 B10 B12 B13 BB5 BB6 BB10 BB14 C1 C2 C3 C4 C6 C11 C15 C20 C22 C28 C28b C28d C29 C30 C33 CR8 CR9
set_option maxRecDepth 100000
def dH : List Int := [112, 114, 111, 100, 117, 99, 116, 32, 104, 111, 109, 101, 32, 123, 32, 99, 111, 117, 110, 116, 32, 102, 105, 120, 101, 100, 59, 32, 114, 111, 117, 110, 100, 32, 104, 97, 108, 102, 45, 117, 112, 59, 32, 107, 105, 110, 100, 32, 97, 110, 110, 117, 105, 116, 121, 59, 32, 101, 118, 101, 114, 121, 32, 49, 59, 32, 116, 105, 109, 101, 115, 32, 49, 50, 59, 32, 114, 97, 116, 101, 32, 54, 37, 59, 32]
def dM : List Int := [111, 114, 100, 101, 114, 32, 102, 101, 101, 115, 32, 112, 101, 110, 97, 108, 116, 121, 32, 105, 110, 116, 101, 114, 101, 115, 116, 32, 112, 114, 105, 110, 99, 105, 112, 97, 108, 59, 32]
def repL (l : List Int) : Nat → List Int
  | 0 => []
  | n + 1 => repL l n ++ l
def opB : Bool → List Int
  | true => [123, 32, 125, 32]
  | false => [123, 32]
def shB : Bool → List Int
  | true => []
  | false => [125, 32]
def deepT (b : Bool) (n : Nat) : List Int := dH ++ repL (opB b) n ++ dM ++ repL (shB b) n ++ [125]
theorem deep_beside : ∀ n, n < 40 → isC (deepT true n) homeP = true := by decide +kernel
theorem deep_in : ∀ n, n < 32 → isC (deepT false n) homeP = true := by decide +kernel
theorem deep_far : ∀ n, n < 40 → n < 32 ∨ errC (deepT false n) 147 8 = true := by decide +kernel
end CRE

namespace CRF
open Go Go.Proofs VL D1 B10 B12 B13 BB5 BB6 BB10 BB14 C1 C2 C3 C4 C6 C11 C15 C20 C22 C28 C28b C28d C29 C30 C33 CR8 CR9 CRE
set_option maxRecDepth 100000
theorem str_leN {a b : Nat} (h : a + b < 1000000) : (((a + b : Nat) : Int) ≤ IntKind.i64.max) := Int.le_trans (b := 1000000) (by omega) (by decide)
theorem szA {a b : ByteArray} {n m : Nat} (ha : a.size ≤ n) (hb : b.size ≤ m) : (a ++ b).size ≤ n + m := by rw [ByteArray.size_append]; omega
theorem szL {a b : ByteArray} {n m : Nat} (ha : a.size ≤ n) (hb : b.size ≤ m) (h : n + m < 1000000) : (((a.size + b.size : Nat) : Int) ≤ IntKind.i64.max) := str_leN (by omega)
theorem repL_len (l : List Int) (n : Nat) : (repL l n).length = l.length * n := by
  induction n with
  | zero => rfl
  | succ n ih => simp only [repL, List.length_append, ih, Nat.mul_succ]
theorem repL_nil (n : Nat) : repL [] n = [] := by
  induction n with
  | zero => rfl
  | succ n ih => simp only [repL, ih, List.append_nil]
theorem repL_b (l : List Int) (hl : ∀ x ∈ l, 0 ≤ x ∧ x < 256) (n : Nat) : ∀ x ∈ repL l n, 0 ≤ x ∧ x < 256 := by
  induction n with
  | zero => intro x hx; cases hx
  | succ n ih =>
    intro x hx
    rcases List.mem_append.1 hx with hx | hx
    · exact ih x hx
    · exact hl x hx
theorem mod40 (a : Int) : ∃ n : Nat, n < 40 ∧ IntKind.i64.wrap ((IntKind.u64.wrap a).tmod 40) = n := by
  have h0 : 0 ≤ IntKind.u64.wrap a := by rw [IntKind.wrap_u64]; omega
  have h1 : (IntKind.u64.wrap a).tmod 40 = IntKind.u64.wrap a % 40 := Int.tmod_eq_emod_of_nonneg h0
  refine ⟨(IntKind.u64.wrap a % 40).toNat, by omega, ?_⟩
  rw [h1, wrap64 (by omega) (by omega)]; omega
theorem toBA_snoc (a m : List Int) (b : ByteArray) (hm : b = toBA m) : toBA a ++ b = toBA (a ++ m) := by
  rw [hm, toBA_app]
theorem c_ParseD (o s : List Int) (n : Nat) (h m sb e : ByteArray) (ho : ∀ x ∈ o, 0 ≤ x ∧ x < 256) (hs : ∀ x ∈ s, 0 ≤ x ∧ x < 256) (hn : n < 40) (hh : h.size ≤ 100) (hm : m.size ≤ 100) (hsb : sb.size ≤ 1000) (he : e.size ≤ 10)
    (eh : sB h = dH) (em : sB m = dM) (es : sB sb = s) (ee : sB e = [125]) (K : Out → List VObj → Prop)
    (hk : K (.ret (.tup [encP (parseS (dH ++ repL o n ++ dM ++ s ++ [125])).1, .int .i64 (parseS (dH ++ repL o n ++ dM ++ s ++ [125])).2.1, .int .i64 (parseS (dH ++ repL o n ++ dM ++ s ++ [125])).2.2])) []) (hol : o.length ≤ 10) :
    VCall Try.prog 4 [.str (h ++ toBA (repL o n) ++ m ++ sb ++ e)] [] K := by
  have hl := repL_len o n
  have hl2 : o.length * n ≤ 10 * 40 := Nat.mul_le_mul hol (by omega)
  refine c_Parse _ (by simp only [ByteArray.size_append, toBA_size]; omega) _ ?_
  rw [sB_app, sB_app, sB_app, sB_app, eh, em, es, ee, sB_toBA (repL_b o ho n)]
  exact hk
set_option maxHeartbeats 4000000 in
theorem g_deep_true (a : Int) : VCall Try.prog 3 [.int .i64 a, .bool true] [] fun out _ => out = .ret (.bool true) := by
  obtain ⟨n, hn, hmod⟩ := mod40 a
  obtain ⟨P, hP⟩ : ∃ P, P = homeP := ⟨_, rfl⟩
  have p1 : P.name.toList = (⟨#[104, 111, 109, 101]⟩ : ByteArray).toList := by rw [hP]; rfl
  obtain ⟨a0, ha0⟩ : ∃ a : Int, a = 0 := ⟨_, rfl⟩
  let S : Nat → St := fun i => ⟨(.int .i64 (n : Nat) :: .bool true :: .undef :: .undef :: .bool false :: .str (toBA (repL [123, 32, 125, 32] i)) :: .str ⟨#[]⟩ :: .int .i64 (i : Nat) :: .undef :: .undef :: .undef :: .undef :: .undef :: .undef :: .undef :: .undef :: .undef :: .undef :: .undef :: .undef :: .undef :: .undef :: .undef :: .undef :: .undef :: .undef :: .undef :: .undef :: .undef :: .undef :: .undef :: .undef :: .undef :: .undef :: .undef :: .undef :: .undef :: .undef :: .undef :: .undef :: .undef :: .undef :: .undef :: .undef :: .undef :: .undef :: .undef :: .undef :: .undef :: .undef :: .undef :: .undef :: .undef :: .undef :: .undef :: .undef :: .undef :: .undef :: .undef :: .undef :: .undef :: .undef :: .undef :: .undef :: .undef :: .undef :: .undef :: .undef :: []), [], 0, []⟩
  refine call_fun [] 0 Try.func3 (by rfl) (by rfl) ?_
  conv => whnf
  (repeat' first | (refine step_go [] ?_; conv => whnf) | (refine two (fun g => ?_) (fun g => ?_) <;> (try simp only [bsx] at g) <;> (conv => whnf)) | (refine And.intro rfl ?_; conv => whnf) | (refine ⟨by decide, ?_⟩; conv => whnf) | fail)
  rw [hmod]
  refine VLoop.enter (s' := S 0) (weak_of ?_ .nil rfl rfl rfl) (VLoop.indW S (fun i => n - i) (fun i => i ≤ n) ?_ 0 (Nat.zero_le _))
  · (repeat' first | exact VWs.nil | refine VWs.cons VW.undef ?_ | refine VWs.cons (VW.eq rfl) ?_)
  intro i hi ih
  have hlen := repL_len [123, 32, 125, 32] i
  have hlen2 := repL_len [125, 32] i
  simp only [List.length_cons, List.length_nil] at hlen hlen2
  refine loop_round [] ?_; conv => whnf
  (repeat' first | (refine step_go [] ?_; conv => whnf) | (refine two (fun g => ?_) (fun g => ?_) <;> (try simp only [bsx] at g) <;> (conv => whnf)) | (refine And.intro rfl ?_; conv => whnf) | fail)
  · have wi : IntKind.i64.wrap ((i : Int) + 1) = ((i + 1 : Nat) : Int) := by rw [wrap64 (by omega) (by omega)]; omega
    refine ⟨szL (n := 160) (m := 4) (by rw [toBA_size]; omega) (by decide) (by decide), ?_⟩
    conv => whnf
    (repeat' first | (refine step_go [] ?_; conv => whnf) | (refine two (fun g => ?_) (fun g => ?_) <;> (try simp only [bsx] at g) <;> (conv => whnf)) | (refine And.intro rfl ?_; conv => whnf) | fail)
    refine ⟨S (i + 1), weak_of ?_ .nil rfl rfl rfl, ih (i + 1) (by omega) (by omega)⟩
    rw [wi]
    repeat' first
      | exact VWs.nil
      | refine VWs.cons VW.undef ?_
      | refine VWs.cons (VW.eq rfl) ?_
      | refine VWs.cons (VW.eq (congrArg V.str (toBA_snoc _ _ _ (by decide +kernel)))) ?_
  · have hin : i = n := by omega
    subst hin
    have hO : (toBA (repL [123, 32, 125, 32] i)).size ≤ 160 := by rw [toBA_size]; omega
    have hC : (toBA (repL [125, 32] i)).size ≤ 160 := by rw [toBA_size]; omega
    refine ⟨_, Weak.refl, ?_⟩; conv => whnf
    (repeat' first | (refine step_go [] ?_; conv => whnf) | (refine two (fun g => ?_) (fun g => ?_) <;> (try simp only [bsx] at g) <;> (conv => whnf)) | (refine And.intro rfl ?_; conv => whnf) | fail)
    refine ⟨szL (n := 100) (m := 160) (by decide +kernel) hO (by decide), ?_⟩
    conv => whnf
    (repeat' first | (refine step_go [] ?_; conv => whnf) | (refine two (fun g => ?_) (fun g => ?_) <;> (try simp only [bsx] at g) <;> (conv => whnf)) | (refine And.intro rfl ?_; conv => whnf) | fail)
    refine ⟨szL (n := 260) (m := 100) (szA (n := 100) (m := 160) (by decide +kernel) hO) (by decide +kernel) (by decide), ?_⟩
    conv => whnf
    (repeat' first | (refine step_go [] ?_; conv => whnf) | (refine two (fun g => ?_) (fun g => ?_) <;> (try simp only [bsx] at g) <;> (conv => whnf)) | (refine And.intro rfl ?_; conv => whnf) | fail)
    refine ⟨szL (n := 360) (m := 160) (szA (n := 260) (m := 100) (szA (n := 100) (m := 160) (by decide +kernel) hO) (by decide +kernel)) (by decide) (by decide), ?_⟩
    conv => whnf
    (repeat' first | (refine step_go [] ?_; conv => whnf) | (refine two (fun g => ?_) (fun g => ?_) <;> (try simp only [bsx] at g) <;> (conv => whnf)) | (refine And.intro rfl ?_; conv => whnf) | fail)
    refine ⟨szL (n := 520) (m := 4) (szA (n := 360) (m := 160) (szA (n := 260) (m := 100) (szA (n := 100) (m := 160) (by decide +kernel) hO) (by decide +kernel)) (by decide)) (by decide) (by decide), ?_⟩
    conv => whnf
    (repeat' first | (refine step_go [] ?_; conv => whnf) | (refine two (fun g => ?_) (fun g => ?_) <;> (try simp only [bsx] at g) <;> (conv => whnf)) | (refine And.intro rfl ?_; conv => whnf) | fail)
    refine c_ParseD [123, 32, 125, 32] [] i _ _ ⟨#[]⟩ _ (by decide) (by decide) hn (by decide +kernel) (by decide +kernel) (by decide) (by decide) (by decide +kernel) (by decide +kernel) rfl (by decide +kernel) _ ?_ (by decide)
    have hps := is_ok (deep_beside i hn) home_ok
    rw [show dH ++ repL [123, 32, 125, 32] i ++ dM ++ [] ++ [125] = deepT true i from by unfold deepT opB shB; rw [repL_nil], hps, ← hP, ← ha0]
    clear hP
    conv => whnf
    (repeat' first | (refine step_go [] ?_; conv => whnf) | (refine two (fun g => ?_) (fun g => ?_) <;> (try simp only [bsx] at g) <;> (conv => whnf)) | (refine And.intro rfl ?_; conv => whnf) | (refine c_awake _ ?_; conv => whnf) | fail)
    all_goals first
      | exact absurd ha0 (by assumption)
      | exact absurd p1 (by assumption)
      | exact absurd trivial (by assumption)
      | (refine congrArg (fun b => Out.ret (V.bool b)) ?_
         rw [beq_iff_eq]; exact p1)
      | trace_state
set_option maxHeartbeats 4000000 in
theorem g_deep_false (a : Int) : VCall Try.prog 3 [.int .i64 a, .bool false] [] fun out _ => out = .ret (.bool true) := by
  obtain ⟨n, hn, hmod⟩ := mod40 a
  obtain ⟨P, hP⟩ : ∃ P, P = homeP := ⟨_, rfl⟩
  have p1 : P.name.toList = (⟨#[104, 111, 109, 101]⟩ : ByteArray).toList := by rw [hP]; rfl
  obtain ⟨a0, ha0⟩ : ∃ a : Int, a = 0 := ⟨_, rfl⟩
  let S : Nat → St := fun i => ⟨(.int .i64 (n : Nat) :: .bool false :: .undef :: .undef :: .bool false :: .str (toBA (repL [123, 32] i)) :: .str (toBA (repL [125, 32] i)) :: .int .i64 (i : Nat) :: .undef :: .undef :: .undef :: .undef :: .undef :: .undef :: .undef :: .undef :: .undef :: .undef :: .undef :: .undef :: .undef :: .undef :: .undef :: .undef :: .undef :: .undef :: .undef :: .undef :: .undef :: .undef :: .undef :: .undef :: .undef :: .undef :: .undef :: .undef :: .undef :: .undef :: .undef :: .undef :: .undef :: .undef :: .undef :: .undef :: .undef :: .undef :: .undef :: .undef :: .undef :: .undef :: .undef :: .undef :: .undef :: .undef :: .undef :: .undef :: .undef :: .undef :: .undef :: .undef :: .undef :: .undef :: .undef :: .undef :: .undef :: .undef :: .undef :: .undef :: []), [], 0, []⟩
  refine call_fun [] 0 Try.func3 (by rfl) (by rfl) ?_
  conv => whnf
  (repeat' first | (refine step_go [] ?_; conv => whnf) | (refine two (fun g => ?_) (fun g => ?_) <;> (try simp only [bsx] at g) <;> (conv => whnf)) | (refine And.intro rfl ?_; conv => whnf) | (refine ⟨by decide, ?_⟩; conv => whnf) | fail)
  rw [hmod]
  refine VLoop.enter (s' := S 0) (weak_of ?_ .nil rfl rfl rfl) (VLoop.indW S (fun i => n - i) (fun i => i ≤ n) ?_ 0 (Nat.zero_le _))
  · (repeat' first | exact VWs.nil | refine VWs.cons VW.undef ?_ | refine VWs.cons (VW.eq rfl) ?_)
  intro i hi ih
  have hlen := repL_len [123, 32] i
  have hlen2 := repL_len [125, 32] i
  simp only [List.length_cons, List.length_nil] at hlen hlen2
  refine loop_round [] ?_; conv => whnf
  (repeat' first | (refine step_go [] ?_; conv => whnf) | (refine two (fun g => ?_) (fun g => ?_) <;> (try simp only [bsx] at g) <;> (conv => whnf)) | (refine And.intro rfl ?_; conv => whnf) | fail)
  · have wi : IntKind.i64.wrap ((i : Int) + 1) = ((i + 1 : Nat) : Int) := by rw [wrap64 (by omega) (by omega)]; omega
    refine ⟨szL (n := 160) (m := 4) (by rw [toBA_size]; omega) (by decide) (by decide), ?_⟩
    conv => whnf
    (repeat' first | (refine step_go [] ?_; conv => whnf) | (refine two (fun g => ?_) (fun g => ?_) <;> (try simp only [bsx] at g) <;> (conv => whnf)) | (refine And.intro rfl ?_; conv => whnf) | fail)
    refine ⟨szL (n := 160) (m := 4) (by rw [toBA_size]; omega) (by decide) (by decide), ?_⟩
    conv => whnf
    (repeat' first | (refine step_go [] ?_; conv => whnf) | (refine two (fun g => ?_) (fun g => ?_) <;> (try simp only [bsx] at g) <;> (conv => whnf)) | (refine And.intro rfl ?_; conv => whnf) | fail)
    refine ⟨S (i + 1), weak_of ?_ .nil rfl rfl rfl, ih (i + 1) (by omega) (by omega)⟩
    rw [wi]
    repeat' first
      | exact VWs.nil
      | refine VWs.cons VW.undef ?_
      | refine VWs.cons (VW.eq rfl) ?_
      | refine VWs.cons (VW.eq (congrArg V.str (toBA_snoc _ _ _ (by decide +kernel)))) ?_
  · have hin : i = n := by omega
    subst hin
    have hO : (toBA (repL [123, 32] i)).size ≤ 160 := by rw [toBA_size]; omega
    have hC : (toBA (repL [125, 32] i)).size ≤ 160 := by rw [toBA_size]; omega
    refine ⟨_, Weak.refl, ?_⟩; conv => whnf
    (repeat' first | (refine step_go [] ?_; conv => whnf) | (refine two (fun g => ?_) (fun g => ?_) <;> (try simp only [bsx] at g) <;> (conv => whnf)) | (refine And.intro rfl ?_; conv => whnf) | fail)
    refine ⟨szL (n := 100) (m := 160) (by decide +kernel) hO (by decide), ?_⟩
    conv => whnf
    (repeat' first | (refine step_go [] ?_; conv => whnf) | (refine two (fun g => ?_) (fun g => ?_) <;> (try simp only [bsx] at g) <;> (conv => whnf)) | (refine And.intro rfl ?_; conv => whnf) | fail)
    refine ⟨szL (n := 260) (m := 100) (szA (n := 100) (m := 160) (by decide +kernel) hO) (by decide +kernel) (by decide), ?_⟩
    conv => whnf
    (repeat' first | (refine step_go [] ?_; conv => whnf) | (refine two (fun g => ?_) (fun g => ?_) <;> (try simp only [bsx] at g) <;> (conv => whnf)) | (refine And.intro rfl ?_; conv => whnf) | fail)
    refine ⟨szL (n := 360) (m := 160) (szA (n := 260) (m := 100) (szA (n := 100) (m := 160) (by decide +kernel) hO) (by decide +kernel)) hC (by decide), ?_⟩
    conv => whnf
    (repeat' first | (refine step_go [] ?_; conv => whnf) | (refine two (fun g => ?_) (fun g => ?_) <;> (try simp only [bsx] at g) <;> (conv => whnf)) | (refine And.intro rfl ?_; conv => whnf) | fail)
    refine ⟨szL (n := 520) (m := 4) (szA (n := 360) (m := 160) (szA (n := 260) (m := 100) (szA (n := 100) (m := 160) (by decide +kernel) hO) (by decide +kernel)) hC) (by decide) (by decide), ?_⟩
    conv => whnf
    (repeat' first | (refine step_go [] ?_; conv => whnf) | (refine two (fun g => ?_) (fun g => ?_) <;> (try simp only [bsx] at g) <;> (conv => whnf)) | (refine And.intro rfl ?_; conv => whnf) | fail)
    refine c_ParseD [123, 32] (repL [125, 32] i) i _ _ (toBA (repL [125, 32] i)) _ (by decide) (repL_b _ (by decide) i) hn (by decide +kernel) (by decide +kernel) (by rw [toBA_size]; omega) (by decide) (by decide +kernel) (by decide +kernel) (sB_toBA (repL_b _ (by decide) i)) (by decide +kernel) _ ?_ (by decide)
    have hd : dH ++ repL [123, 32] i ++ dM ++ repL [125, 32] i ++ [125] = deepT false i := rfl
    rw [hd]
    by_cases h32 : i < 32
    · have hps := is_ok (deep_in i h32) home_ok
      rw [hps, ← hP, ← ha0]
      clear hP
      conv => whnf
      (repeat' first | (refine step_go [] ?_; conv => whnf) | (refine two (fun g => ?_) (fun g => ?_) <;> (try simp only [bsx] at g) <;> (conv => whnf)) | (refine And.intro rfl ?_; conv => whnf) | (refine c_awake _ ?_; conv => whnf) | fail)
      all_goals first
        | (exfalso; omega)
        | exact absurd ha0 (by assumption)
        | exact absurd p1 (by assumption)
        | exact absurd trivial (by assumption)
        | (refine congrArg (fun b => Out.ret (V.bool b)) ?_
           rw [beq_iff_eq]; exact p1)
        | trace_state
    · have hps := is_err ((deep_far i hn).resolve_left h32)
      obtain ⟨e8, he8⟩ : ∃ e : Int, e = 8 := ⟨_, rfl⟩
      obtain ⟨aa, haa⟩ : ∃ e : Nat, e = 147 := ⟨_, rfl⟩
      rw [← haa, ← he8] at hps
      rw [hps]
      conv => whnf
      (repeat' first | (refine step_go [] ?_; conv => whnf) | (refine two (fun g => ?_) (fun g => ?_) <;> (try simp only [bsx] at g) <;> (conv => whnf)) | (refine And.intro rfl ?_; conv => whnf) | (refine c_awake _ ?_; conv => whnf) | fail)
      all_goals first
        | (exfalso; omega)
        | exact absurd he8 (by assumption)
        | exact absurd trivial (by assumption)
        | (subst haa
           refine congrArg (fun b => Out.ret (V.bool b)) ?_
           show (((147 : Nat) : Int) == _) = true
           decide +kernel)
        | trace_state
theorem g_deep (a : Int) (b : Bool) : VCall Try.prog 3 [.int .i64 a, .bool b] [] fun out _ => out = .ret (.bool true) := by
  cases b with
  | true => exact g_deep_true a
  | false => exact g_deep_false a
end CRF

