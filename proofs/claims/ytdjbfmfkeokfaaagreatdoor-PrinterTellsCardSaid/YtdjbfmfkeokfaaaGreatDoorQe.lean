/- Part Qe of the proof: P2 CO1 PS1 PS2 PS3 PS4 BP1 BP2 BP3 BP4 BP5 PL1 BW1 BW2 BW3 BW4 PA1 PA2 LBP. -/
import Derived.Test.YtdjbfmfkeokfaaaGreatDoorQd
import Derived.Test.YtdjbfmfkeokfaaaGreatDoorQc
import Derived.Test.YtdjbfmfkeokfaaaGreatDoorRows
import Derived.Test.YtdjbfmfkeokfaaaGreatDoorTie
import Derived.Test.YtdjbfmfkeokfaaaGreatDoorCards
import Derived.Lib.LaidTab
import Derived.LaidLaws
import Derived.LaidHandle
import Derived.SevenTiedAt
import Derived.HandedShaped
import Derived.Shelf.Vars
set_option linter.unusedVariables false
set_option linter.unusedSimpArgs false
set_option maxRecDepth 100000
namespace P2
open Go Go.Proofs VL D1 B10 B12 B13 B20 BB4 BB5 BB6 BB7 BB8 BB9 BB10 BB14 C1 C2 C3 C4 C6 C15 C18 C20 C22 C28 C28b C28d P1
theorem szL {a b : ByteArray} {n m : Nat} (ha : a.size <= n) (hb : b.size <= m) (h : n + m < 1000000) : (((a.size + b.size : Nat) : Int) <= IntKind.i64.max) := str_leN (by omega)
theorem szA {a b : ByteArray} {n m : Nat} (ha : a.size <= n) (hb : b.size <= m) : (a ++ b).size <= n + m := by rw [ByteArray.size_append]; omega
theorem get_count {n : Int} (h1 : 1 <= n) (h2 : n <= 3) : 0 <= IntKind.i64.wrap (n - 1) /\ ([.str ⟨#[116, 104, 105, 114, 116, 121]⟩, .str ⟨#[102, 105, 120, 101, 100]⟩, .str ⟨#[97, 99, 116, 117, 97, 108]⟩] : List V)[(IntKind.i64.wrap (n - 1)).toNat]? = some (.str (toBA (countW n))) := by
 have hc : n = 1 \/ n = 2 \/ n = 3 := by omega
 clear h1 h2
 rcases hc with rfl | rfl | rfl <;> exact ⟨by decide, rfl⟩
theorem get_round {n : Int} (h : n = 1 \/ n = 3) : 0 <= IntKind.i64.wrap (n - 1) /\ ([.str ⟨#[104, 97, 108, 102, 45, 117, 112]⟩, .str ⟨#[]⟩, .str ⟨#[100, 111, 119, 110]⟩] : List V)[(IntKind.i64.wrap (n - 1)).toNat]? = some (.str (toBA (roundW n))) := by
 have hc := h
 clear h
 skip
 rcases hc with rfl | rfl <;> exact ⟨by decide, rfl⟩
theorem get_kind {n : Int} (h1 : 1 <= n) (h2 : n <= 3) : 0 <= IntKind.i64.wrap (n - 1) /\ ([.str ⟨#[97, 110, 110, 117, 105, 116, 121]⟩, .str ⟨#[101, 113, 117, 97, 108]⟩, .str ⟨#[98, 117, 108, 108, 101, 116]⟩] : List V)[(IntKind.i64.wrap (n - 1)).toNat]? = some (.str (toBA (kindW n))) := by
 have hc : n = 1 \/ n = 2 \/ n = 3 := by omega
 clear h1 h2
 rcases hc with rfl | rfl | rfl <;> exact ⟨by decide, rfl⟩
theorem get_over {n : Int} (h1 : 1 <= n) (h2 : n <= 3) : 0 <= IntKind.i64.wrap (n - 1) /\ ([.str ⟨#[104, 111, 108, 100]⟩, .str ⟨#[112, 114, 101, 112, 97, 121]⟩, .str ⟨#[114, 101, 102, 117, 110, 100]⟩] : List V)[(IntKind.i64.wrap (n - 1)).toNat]? = some (.str (toBA (overW n))) := by
 have hc : n = 1 \/ n = 2 \/ n = 3 := by omega
 clear h1 h2
 rcases hc with rfl | rfl | rfl <;> exact ⟨by decide, rfl⟩
theorem get_roll {n : Int} (h1 : 1 <= n) (h2 : n <= 4) : 0 <= IntKind.i64.wrap (n - 1) /\ ([.str ⟨#[115, 116, 97, 121]⟩, .str ⟨#[110, 101, 120, 116]⟩, .str ⟨#[119, 105, 116, 104, 105, 110]⟩, .str ⟨#[112, 114, 101, 118, 105, 111, 117, 115]⟩] : List V)[(IntKind.i64.wrap (n - 1)).toNat]? = some (.str (toBA (rollW n))) := by
 have hc : n = 1 \/ n = 2 \/ n = 3 \/ n = 4 := by omega
 clear h1 h2
 rcases hc with rfl | rfl | rfl | rfl <;> exact ⟨by decide, rfl⟩
theorem get_pay {n : Int} (h1 : 1 <= n) (h2 : n <= 4) : 0 <= IntKind.i64.wrap (n - 1) /\ ([.str ⟨#[102, 101, 101, 115]⟩, .str ⟨#[112, 101, 110, 97, 108, 116, 121]⟩, .str ⟨#[105, 110, 116, 101, 114, 101, 115, 116]⟩, .str ⟨#[112, 114, 105, 110, 99, 105, 112, 97, 108]⟩] : List V)[(IntKind.i64.wrap (n - 1)).toNat]? = some (.str (toBA (payW n))) := by
 have hc : n = 1 \/ n = 2 \/ n = 3 \/ n = 4 := by omega
 clear h1 h2
 rcases hc with rfl | rfl | rfl | rfl <;> exact ⟨by decide, rfl⟩
theorem countW_b (n : Int) : (∀ x ∈ countW n, 0 <= x /\ x < 256) /\ (toBA (countW n)).size <= 10 := by
 unfold countW
 repeat' split
 all_goals exact ⟨by decide, by decide⟩
theorem roundW_b (n : Int) : (∀ x ∈ roundW n, 0 <= x /\ x < 256) /\ (toBA (roundW n)).size <= 10 := by
 unfold roundW
 repeat' split
 all_goals exact ⟨by decide, by decide⟩
theorem kindW_b (n : Int) : (∀ x ∈ kindW n, 0 <= x /\ x < 256) /\ (toBA (kindW n)).size <= 10 := by
 unfold kindW
 repeat' split
 all_goals exact ⟨by decide, by decide⟩
theorem overW_b (n : Int) : (∀ x ∈ overW n, 0 <= x /\ x < 256) /\ (toBA (overW n)).size <= 10 := by
 unfold overW
 repeat' split
 all_goals exact ⟨by decide, by decide⟩
theorem rollW_b (n : Int) : (∀ x ∈ rollW n, 0 <= x /\ x < 256) /\ (toBA (rollW n)).size <= 10 := by
 unfold rollW
 repeat' split
 all_goals exact ⟨by decide, by decide⟩
theorem payW_b (n : Int) : (∀ x ∈ payW n, 0 <= x /\ x < 256) /\ (toBA (payW n)).size <= 10 := by
 unfold payW
 repeat' split
 all_goals exact ⟨by decide, by decide⟩
theorem res_in {times : Int} : ∀ {q : Option Rs} {l : List Rs}, resetsP times q l -> ∀ r ∈ l, 1 <= r.aft /\ r.aft <= times - 1
 | _, [], _, r, hr => by cases hr
 | q, x :: l, h, r, hr => by
   rcases List.mem_cons.1 hr with rfl | hr
   · exact h.1
   · exact res_in h.2.2.2 r hr
theorem tier_in : ∀ {q : Option Ti} {l : List Ti}, tiersP q l -> ∀ r ∈ l, 1 <= r.days /\ r.days <= 365
 | _, [], _, r, hr => by cases hr
 | q, x :: l, h, r, hr => by
   rcases List.mem_cons.1 hr with rfl | hr
   · exact h.1
   · exact tier_in h.2.2.2 r hr
theorem moneyS_b (v : Int) : ∀ x ∈ moneyS v, 0 <= x /\ x < 256 := by
 intro x hx
 unfold moneyS at hx
 rcases List.mem_append.1 hx with hx | hx
 · rcases List.mem_append.1 hx with hx | hx
   · rcases List.mem_append.1 hx with hx | hx
     · exact sgn_byte v x hx
     · have := dg_dig _ x hx; unfold Dig at this; omega
   · simp at hx; omega
 · have := dgw_dig _ _ x hx; unfold Dig at this; omega
theorem hol_in : ∀ {q : Option Int} {l : List Int}, holP q l -> ∀ r ∈ l, -25567 <= r /\ r <= 84370
 | _, [], _, r, hr => by cases hr
 | q, x :: l, h, r, hr => by
   rcases List.mem_cons.1 hr with rfl | hr
   · exact h.1
   · exact hol_in h.2.2 r hr
theorem dtS_b (y m d : Nat) : ∀ x ∈ dtS y m d, 0 <= x /\ x < 256 := by
 have hd : ∀ w n, ∀ x ∈ dgw w n, 0 <= x /\ x < 256 := fun w n x hx => by have := dgw_dig w n x hx; unfold Dig at this; omega
 intro x hx
 unfold dtS at hx
 simp only [List.mem_append, List.mem_singleton] at hx
 rcases hx with (((hx | hx) | hx) | hx) | hx
 · exact hd _ _ x hx
 · omega
 · exact hd _ _ x hx
 · omega
 · exact hd _ _ x hx
set_option maxHeartbeats 8000000 in
theorem c_rPrint (p : Prod) (hp : p.okW) (K : Out -> List VObj -> Prop)
 (h0 : checkP p -> (printS p).length <= 20000 -> ∀ t, sB t = printS p -> K (.ret (.tup [.str t, .int .i64 0])) [])
 (h1 : checkP p -> 20000 < (printS p).length -> K (.ret (.tup [.str ⟨#[]⟩, .int .i64 3])) [])
 (h2 : ¬ checkP p -> K (.ret (.tup [.str ⟨#[]⟩, .int .i64 9])) []) :
 VCall Tryz.prog 12 [encP p] [] K := by
 have hcc : checkP p -> checkC p = 0 := fun hh => by unfold checkC; rw [if_pos hh]
 have hcn : ¬ checkP p -> checkC p = 9 := fun hh => by unfold checkC; rw [if_neg hh]
 have hcall := c_rCheck p hp
 obtain ⟨cc, hcd⟩ : ∃ cc, checkC p = cc := ⟨_, rfl⟩
 rw [hcd] at hcc hcn hcall
 unfold encP cellsP at *
 refine call_fun [] 0 Tryz.func12 (by rfl) (by rfl) ?_
 conv=>whnf
 (repeat' first | (refine step_go [] ?_;conv=>whnf) | (refine two ?_ ?_<;>intro g<;>(try simp only[bsx]at g)<;>(conv=>whnf)) | (refine And.intro rfl ?_;conv=>whnf) | fail)
 refine hcall _ ?_
 conv=>whnf
 (repeat' first | (refine step_go [] ?_;conv=>whnf) | (refine two ?_ ?_<;>intro g<;>(try simp only[bsx]at g)<;>(conv=>whnf)) | (refine And.intro rfl ?_;conv=>whnf) | fail)
 · exact h2 fun hh => g (hcc hh)
 have hck : checkP p := by
  by_cases hh : checkP p
  · exact hh
  · have := hcn hh; omega
 clear h2 hcc hcn hcall hcd
 have CK := hck
 obtain ⟨⟨⟨hname, hcount, hrnd, hkind⟩, hevery, hshape⟩, ⟨hrate, hpen, hrl, hres⟩, ⟨hord, hover⟩, ⟨hll, hcap, hlc, htie⟩, ⟨⟨hhl, hhol⟩, hroll, hrh⟩⟩ := hck
 have hnl : p.name.size <= 20 := by have := hname.1.2.1; rw [sB_len] at this; exact this
 have hev : 0 <= p.every /\ p.every < 1000000 := by unfold shape2 at hevery; omega
 have hti : 0 <= p.times /\ p.times < 1000000 := by unfold shape3 at hshape; omega
 have hgr : 0 <= p.grace /\ p.grace < 1000000 := by unfold shape3 at hshape; omega
 refine ⟨szL (n := 10) (m := 20) (by decide) hnl (by decide), ?_⟩
 conv=>whnf
 (repeat' first | (refine step_go [] ?_;conv=>whnf) | (refine two ?_ ?_<;>intro g<;>(try simp only[bsx]at g)<;>(conv=>whnf)) | (refine And.intro rfl ?_;conv=>whnf) | fail)
 refine ⟨szL (n := 30) (m := 5) (szA (n := 10) (m := 20) (by decide) hnl) (by decide) (by decide), ?_⟩
 conv=>whnf
 obtain ⟨s1, hs1⟩ : ∃ s1 : ByteArray, s1 = ⟨#[112, 114, 111, 100, 117, 99, 116, 32]⟩ ++ p.name ++ ⟨#[32, 123, 10]⟩ := ⟨_, rfl⟩
 have es1 : sB s1 = w_product ++ [32] ++ sB p.name ++ [32, 123, 10] := by rw [hs1, sB_app, sB_app]; rfl
 have zs1 : s1.size <= 35 := by rw [hs1]; exact szA (n := 30) (m := 5) (szA (n := 10) (m := 20) (by decide) hnl) (by decide)
 rw [← hs1]
 clear hs1
 (repeat' first | (refine step_go [] ?_;conv=>whnf) | (refine two ?_ ?_<;>intro g<;>(try simp only[bsx]at g)<;>(conv=>whnf)) | (refine And.intro rfl ?_;conv=>whnf) | fail)
 obtain ⟨g1, g2⟩ := get_count hcount.1 hcount.2
 refine ⟨g1, _, g2, rfl, ?_⟩
 conv=>whnf
 (repeat' first | (refine step_go [] ?_;conv=>whnf) | (refine two ?_ ?_<;>intro g<;>(try simp only[bsx]at g)<;>(conv=>whnf)) | (refine And.intro rfl ?_;conv=>whnf) | fail)
 refine ⟨szL (n := 10) (m := 100) (by decide) (Nat.le_trans (countW_b _).2 (by decide)) (by decide), ?_⟩
 conv=>whnf
 (repeat' first | (refine step_go [] ?_;conv=>whnf) | (refine two ?_ ?_<;>intro g<;>(try simp only[bsx]at g)<;>(conv=>whnf)) | (refine And.intro rfl ?_;conv=>whnf) | (refine dr_go (by decide +kernel) ?_;conv=>whnf) | fail)
 refine c_rlineW _ _ (w_count ++ [32]) (countW p.count) rfl (sB_toBA (countW_b _).1) (by decide) (Nat.le_trans (countW_b _).2 (by decide)) _ (fun t ht hz => ?_)
 conv=>whnf
 (repeat' first | (refine step_go [] ?_;conv=>whnf) | (refine two ?_ ?_<;>intro g<;>(try simp only[bsx]at g)<;>(conv=>whnf)) | (refine And.intro rfl ?_;conv=>whnf) | (refine dr_go (by decide +kernel) ?_;conv=>whnf) | fail)
 refine ⟨szL (n := 35) (m := 134) zs1 hz (by decide), ?_⟩
 conv=>whnf
 obtain ⟨s2, hs2⟩ : ∃ s' : ByteArray, s' = s1 ++ t := ⟨_, rfl⟩
 have hz2 := hz
 have es2 : sB s2 = sB s1 ++ lnS (w_count ++ [32] ++ countW p.count) := by rw [hs2, sB_app, ht]
 have zs2 : s2.size <= 169 := by rw [hs2]; exact szA zs1 hz
 rw [← hs2]
 (repeat' first | (refine step_go [] ?_;conv=>whnf) | (refine two ?_ ?_<;>intro g<;>(try simp only[bsx]at g)<;>(conv=>whnf)) | (refine And.intro rfl ?_;conv=>whnf) | (refine dr_go (by decide +kernel) ?_;conv=>whnf) | fail)
 obtain ⟨g1, g2⟩ := get_round hrnd
 refine ⟨g1, _, g2, rfl, ?_⟩
 conv=>whnf
 (repeat' first | (refine step_go [] ?_;conv=>whnf) | (refine two ?_ ?_<;>intro g<;>(try simp only[bsx]at g)<;>(conv=>whnf)) | (refine And.intro rfl ?_;conv=>whnf) | (refine dr_go (by decide +kernel) ?_;conv=>whnf) | fail)
 refine ⟨szL (n := 10) (m := 100) (by decide) (Nat.le_trans (roundW_b _).2 (by decide)) (by decide), ?_⟩
 conv=>whnf
 (repeat' first | (refine step_go [] ?_;conv=>whnf) | (refine two ?_ ?_<;>intro g<;>(try simp only[bsx]at g)<;>(conv=>whnf)) | (refine And.intro rfl ?_;conv=>whnf) | (refine dr_go (by decide +kernel) ?_;conv=>whnf) | fail)
 refine c_rlineW _ _ (w_round ++ [32]) (roundW p.rnd) rfl (sB_toBA (roundW_b _).1) (by decide) (Nat.le_trans (roundW_b _).2 (by decide)) _ (fun t ht hz => ?_)
 conv=>whnf
 (repeat' first | (refine step_go [] ?_;conv=>whnf) | (refine two ?_ ?_<;>intro g<;>(try simp only[bsx]at g)<;>(conv=>whnf)) | (refine And.intro rfl ?_;conv=>whnf) | (refine dr_go (by decide +kernel) ?_;conv=>whnf) | fail)
 refine ⟨szL (n := 169) (m := 134) zs2 hz (by decide), ?_⟩
 conv=>whnf
 obtain ⟨s3, hs3⟩ : ∃ s' : ByteArray, s' = s2 ++ t := ⟨_, rfl⟩
 have hz3 := hz
 have es3a : sB s3 = sB s2 ++ lnS (w_round ++ [32] ++ roundW p.rnd) := by rw [hs3, sB_app, ht]
 have zs3 : s3.size <= 303 := by rw [hs3]; exact szA zs2 hz
 rw [← hs3]
 (repeat' first | (refine step_go [] ?_;conv=>whnf) | (refine two ?_ ?_<;>intro g<;>(try simp only[bsx]at g)<;>(conv=>whnf)) | (refine And.intro rfl ?_;conv=>whnf) | (refine dr_go (by decide +kernel) ?_;conv=>whnf) | fail)
 obtain ⟨g1, g2⟩ := get_kind hkind.1 hkind.2
 refine ⟨g1, _, g2, rfl, ?_⟩
 conv=>whnf
 (repeat' first | (refine step_go [] ?_;conv=>whnf) | (refine two ?_ ?_<;>intro g<;>(try simp only[bsx]at g)<;>(conv=>whnf)) | (refine And.intro rfl ?_;conv=>whnf) | (refine dr_go (by decide +kernel) ?_;conv=>whnf) | fail)
 refine ⟨szL (n := 10) (m := 100) (by decide) (Nat.le_trans (kindW_b _).2 (by decide)) (by decide), ?_⟩
 conv=>whnf
 (repeat' first | (refine step_go [] ?_;conv=>whnf) | (refine two ?_ ?_<;>intro g<;>(try simp only[bsx]at g)<;>(conv=>whnf)) | (refine And.intro rfl ?_;conv=>whnf) | (refine dr_go (by decide +kernel) ?_;conv=>whnf) | fail)
 refine c_rlineW _ _ (w_kind ++ [32]) (kindW p.kind) rfl (sB_toBA (kindW_b _).1) (by decide) (Nat.le_trans (kindW_b _).2 (by decide)) _ (fun t ht hz => ?_)
 conv=>whnf
 (repeat' first | (refine step_go [] ?_;conv=>whnf) | (refine two ?_ ?_<;>intro g<;>(try simp only[bsx]at g)<;>(conv=>whnf)) | (refine And.intro rfl ?_;conv=>whnf) | (refine dr_go (by decide +kernel) ?_;conv=>whnf) | fail)
 refine ⟨szL (n := 303) (m := 134) zs3 hz (by decide), ?_⟩
 conv=>whnf
 obtain ⟨s4, hs4⟩ : ∃ s' : ByteArray, s' = s3 ++ t := ⟨_, rfl⟩
 have hz4 := hz
 have es4 : sB s4 = sB s3 ++ lnS (w_kind ++ [32] ++ kindW p.kind) := by rw [hs4, sB_app, ht]
 have zs4 : s4.size <= 437 := by rw [hs4]; exact szA zs3 hz
 rw [← hs4]
 (repeat' first | (refine step_go [] ?_;conv=>whnf) | (refine two ?_ ?_<;>intro g<;>(try simp only[bsx]at g)<;>(conv=>whnf)) | (refine And.intro rfl ?_;conv=>whnf) | (refine dr_go (by decide +kernel) ?_;conv=>whnf) | fail)
 refine c_rnumI _ hev.1 hev.2 _ ?_
 conv=>whnf
 (repeat' first | (refine step_go [] ?_;conv=>whnf) | (refine two ?_ ?_<;>intro g<;>(try simp only[bsx]at g)<;>(conv=>whnf)) | (refine And.intro rfl ?_;conv=>whnf) | (refine dr_go (by decide +kernel) ?_;conv=>whnf) | fail)
 refine ⟨szL (n := 10) (m := 100) (by decide) (Nat.le_trans (dg_le _ hev.2).1 (by decide)) (by decide), ?_⟩
 conv=>whnf
 (repeat' first | (refine step_go [] ?_;conv=>whnf) | (refine two ?_ ?_<;>intro g<;>(try simp only[bsx]at g)<;>(conv=>whnf)) | (refine And.intro rfl ?_;conv=>whnf) | (refine dr_go (by decide +kernel) ?_;conv=>whnf) | fail)
 refine c_rlineW _ _ (w_every ++ [32]) (dg p.every.toNat) rfl (sB_toBA (dg_le _ hev.2).2) (by decide) (Nat.le_trans (dg_le _ hev.2).1 (by decide)) _ (fun t ht hz => ?_)
 conv=>whnf
 (repeat' first | (refine step_go [] ?_;conv=>whnf) | (refine two ?_ ?_<;>intro g<;>(try simp only[bsx]at g)<;>(conv=>whnf)) | (refine And.intro rfl ?_;conv=>whnf) | (refine dr_go (by decide +kernel) ?_;conv=>whnf) | fail)
 refine ⟨szL (n := 437) (m := 134) zs4 hz (by decide), ?_⟩
 conv=>whnf
 obtain ⟨s5, hs5⟩ : ∃ s' : ByteArray, s' = s4 ++ t := ⟨_, rfl⟩
 have hz5 := hz
 have es5 : sB s5 = sB s4 ++ lnS (w_every ++ [32] ++ dg p.every.toNat) := by rw [hs5, sB_app, ht]
 have zs5 : s5.size <= 571 := by rw [hs5]; exact szA zs4 hz
 rw [← hs5]
 (repeat' first | (refine step_go [] ?_;conv=>whnf) | (refine two ?_ ?_<;>intro g<;>(try simp only[bsx]at g)<;>(conv=>whnf)) | (refine And.intro rfl ?_;conv=>whnf) | (refine dr_go (by decide +kernel) ?_;conv=>whnf) | (refine ⟨szL zs4 hz5 (by decide), ?_⟩;conv=>whnf) | (refine And.intro (congrArg V.str hs5.symm) ?_;conv=>whnf) | fail)
 refine c_rnumI _ hti.1 hti.2 _ ?_
 conv=>whnf
 (repeat' first | (refine step_go [] ?_;conv=>whnf) | (refine two ?_ ?_<;>intro g<;>(try simp only[bsx]at g)<;>(conv=>whnf)) | (refine And.intro rfl ?_;conv=>whnf) | (refine dr_go (by decide +kernel) ?_;conv=>whnf) | (refine ⟨szL zs4 hz5 (by decide), ?_⟩;conv=>whnf) | (refine And.intro (congrArg V.str hs5.symm) ?_;conv=>whnf) | fail)
 refine ⟨szL (n := 10) (m := 100) (by decide) (Nat.le_trans (dg_le _ hti.2).1 (by decide)) (by decide), ?_⟩
 conv=>whnf
 (repeat' first | (refine step_go [] ?_;conv=>whnf) | (refine two ?_ ?_<;>intro g<;>(try simp only[bsx]at g)<;>(conv=>whnf)) | (refine And.intro rfl ?_;conv=>whnf) | (refine dr_go (by decide +kernel) ?_;conv=>whnf) | (refine ⟨szL zs4 hz5 (by decide), ?_⟩;conv=>whnf) | (refine And.intro (congrArg V.str hs5.symm) ?_;conv=>whnf) | fail)
 refine c_rlineW _ _ (w_times ++ [32]) (dg p.times.toNat) rfl (sB_toBA (dg_le _ hti.2).2) (by decide) (Nat.le_trans (dg_le _ hti.2).1 (by decide)) _ (fun t ht hz => ?_)
 conv=>whnf
 (repeat' first | (refine step_go [] ?_;conv=>whnf) | (refine two ?_ ?_<;>intro g<;>(try simp only[bsx]at g)<;>(conv=>whnf)) | (refine And.intro rfl ?_;conv=>whnf) | (refine dr_go (by decide +kernel) ?_;conv=>whnf) | (refine ⟨szL zs4 hz5 (by decide), ?_⟩;conv=>whnf) | (refine And.intro (congrArg V.str hs5.symm) ?_;conv=>whnf) | fail)
 refine ⟨szL (n := 571) (m := 134) zs5 hz (by decide), ?_⟩
 conv=>whnf
 obtain ⟨s6, hs6⟩ : ∃ s' : ByteArray, s' = s5 ++ t := ⟨_, rfl⟩
 have hz6 := hz
 have es6 : sB s6 = sB s5 ++ lnS (w_times ++ [32] ++ dg p.times.toNat) := by rw [hs6, sB_app, ht]
 have zs6 : s6.size <= 705 := by rw [hs6]; exact szA zs5 hz
 rw [← hs6]
 (repeat' first | (refine step_go [] ?_;conv=>whnf) | (refine two ?_ ?_<;>intro g<;>(try simp only[bsx]at g)<;>(conv=>whnf)) | (refine And.intro rfl ?_;conv=>whnf) | (refine dr_go (by decide +kernel) ?_;conv=>whnf) | (refine ⟨szL zs4 hz5 (by decide), ?_⟩;conv=>whnf) | (refine And.intro (congrArg V.str hs5.symm) ?_;conv=>whnf) | (refine ⟨szL zs5 hz6 (by decide), ?_⟩;conv=>whnf) | (refine And.intro (congrArg V.str hs6.symm) ?_;conv=>whnf) | fail)
 refine c_rnumI _ hgr.1 hgr.2 _ ?_
 conv=>whnf
 (repeat' first | (refine step_go [] ?_;conv=>whnf) | (refine two ?_ ?_<;>intro g<;>(try simp only[bsx]at g)<;>(conv=>whnf)) | (refine And.intro rfl ?_;conv=>whnf) | (refine dr_go (by decide +kernel) ?_;conv=>whnf) | (refine ⟨szL zs4 hz5 (by decide), ?_⟩;conv=>whnf) | (refine And.intro (congrArg V.str hs5.symm) ?_;conv=>whnf) | (refine ⟨szL zs5 hz6 (by decide), ?_⟩;conv=>whnf) | (refine And.intro (congrArg V.str hs6.symm) ?_;conv=>whnf) | fail)
 refine ⟨szL (n := 10) (m := 100) (by decide) (Nat.le_trans (dg_le _ hgr.2).1 (by decide)) (by decide), ?_⟩
 conv=>whnf
 (repeat' first | (refine step_go [] ?_;conv=>whnf) | (refine two ?_ ?_<;>intro g<;>(try simp only[bsx]at g)<;>(conv=>whnf)) | (refine And.intro rfl ?_;conv=>whnf) | (refine dr_go (by decide +kernel) ?_;conv=>whnf) | (refine ⟨szL zs4 hz5 (by decide), ?_⟩;conv=>whnf) | (refine And.intro (congrArg V.str hs5.symm) ?_;conv=>whnf) | (refine ⟨szL zs5 hz6 (by decide), ?_⟩;conv=>whnf) | (refine And.intro (congrArg V.str hs6.symm) ?_;conv=>whnf) | fail)
 refine c_rlineW _ _ (w_grace ++ [32]) (dg p.grace.toNat) rfl (sB_toBA (dg_le _ hgr.2).2) (by decide) (Nat.le_trans (dg_le _ hgr.2).1 (by decide)) _ (fun t ht hz => ?_)
 conv=>whnf
 (repeat' first | (refine step_go [] ?_;conv=>whnf) | (refine two ?_ ?_<;>intro g<;>(try simp only[bsx]at g)<;>(conv=>whnf)) | (refine And.intro rfl ?_;conv=>whnf) | (refine dr_go (by decide +kernel) ?_;conv=>whnf) | (refine ⟨szL zs4 hz5 (by decide), ?_⟩;conv=>whnf) | (refine And.intro (congrArg V.str hs5.symm) ?_;conv=>whnf) | (refine ⟨szL zs5 hz6 (by decide), ?_⟩;conv=>whnf) | (refine And.intro (congrArg V.str hs6.symm) ?_;conv=>whnf) | fail)
 refine ⟨szL (n := 705) (m := 134) zs6 hz (by decide), ?_⟩
 conv=>whnf
 obtain ⟨s7, hs7⟩ : ∃ s' : ByteArray, s' = s6 ++ t := ⟨_, rfl⟩
 have hz7 := hz
 have es7 : sB s7 = sB s6 ++ lnS (w_grace ++ [32] ++ dg p.grace.toNat) := by rw [hs7, sB_app, ht]
 have zs7 : s7.size <= 839 := by rw [hs7]; exact szA zs6 hz
 rw [← hs7]
 (repeat' first | (refine step_go [] ?_;conv=>whnf) | (refine two ?_ ?_<;>intro g<;>(try simp only[bsx]at g)<;>(conv=>whnf)) | (refine And.intro rfl ?_;conv=>whnf) | (refine dr_go (by decide +kernel) ?_;conv=>whnf) | (refine ⟨szL zs4 hz5 (by decide), ?_⟩;conv=>whnf) | (refine And.intro (congrArg V.str hs5.symm) ?_;conv=>whnf) | (refine ⟨szL zs5 hz6 (by decide), ?_⟩;conv=>whnf) | (refine And.intro (congrArg V.str hs6.symm) ?_;conv=>whnf) | (refine ⟨szL zs6 hz7 (by decide), ?_⟩;conv=>whnf) | (refine And.intro (congrArg V.str hs7.symm) ?_;conv=>whnf) | fail)
 refine c_rrate _ hp.rate _ ?_
 conv=>whnf
 (repeat' first | (refine step_go [] ?_;conv=>whnf) | (refine two ?_ ?_<;>intro g<;>(try simp only[bsx]at g)<;>(conv=>whnf)) | (refine And.intro rfl ?_;conv=>whnf) | (refine dr_go (by decide +kernel) ?_;conv=>whnf) | fail)
 refine ⟨szL (n := 10) (m := 100) (by decide) (by rw [toBA_size]; exact Nat.le_trans (B14.rateS_len hp.rate) (by decide)) (by decide), ?_⟩
 conv=>whnf
 (repeat' first | (refine step_go [] ?_;conv=>whnf) | (refine two ?_ ?_<;>intro g<;>(try simp only[bsx]at g)<;>(conv=>whnf)) | (refine And.intro rfl ?_;conv=>whnf) | (refine dr_go (by decide +kernel) ?_;conv=>whnf) | fail)
 refine c_rlineW _ _ (w_rate ++ [32]) (rateS p.rate) rfl (sB_toBA (B14.rateS_byte _)) (by decide) (by rw [toBA_size]; exact Nat.le_trans (B14.rateS_len hp.rate) (by decide)) _ (fun t ht hz => ?_)
 conv=>whnf
 (repeat' first | (refine step_go [] ?_;conv=>whnf) | (refine two ?_ ?_<;>intro g<;>(try simp only[bsx]at g)<;>(conv=>whnf)) | (refine And.intro rfl ?_;conv=>whnf) | (refine dr_go (by decide +kernel) ?_;conv=>whnf) | fail)
 refine ⟨szL (n := 839) (m := 134) zs7 hz (by decide), ?_⟩
 conv=>whnf
 obtain ⟨s8, hs8⟩ : ∃ s' : ByteArray, s' = s7 ++ t := ⟨_, rfl⟩
 have hz8 := hz
 have es8 : sB s8 = sB s7 ++ lnS (w_rate ++ [32] ++ rateS p.rate) := by rw [hs8, sB_app, ht]
 have zs8 : s8.size <= 973 := by rw [hs8]; exact szA zs7 hz
 rw [← hs8]
 (repeat' first | (refine step_go [] ?_;conv=>whnf) | (refine two ?_ ?_<;>intro g<;>(try simp only[bsx]at g)<;>(conv=>whnf)) | (refine And.intro rfl ?_;conv=>whnf) | (refine dr_go (by decide +kernel) ?_;conv=>whnf) | (refine ⟨szL zs7 hz8 (by decide), ?_⟩;conv=>whnf) | (refine And.intro (congrArg V.str hs8.symm) ?_;conv=>whnf) | fail)
 refine c_rrate _ hp.pen _ ?_
 conv=>whnf
 (repeat' first | (refine step_go [] ?_;conv=>whnf) | (refine two ?_ ?_<;>intro g<;>(try simp only[bsx]at g)<;>(conv=>whnf)) | (refine And.intro rfl ?_;conv=>whnf) | (refine dr_go (by decide +kernel) ?_;conv=>whnf) | (refine ⟨szL zs7 hz8 (by decide), ?_⟩;conv=>whnf) | (refine And.intro (congrArg V.str hs8.symm) ?_;conv=>whnf) | fail)
 refine ⟨szL (n := 10) (m := 100) (by decide) (by rw [toBA_size]; exact Nat.le_trans (B14.rateS_len hp.pen) (by decide)) (by decide), ?_⟩
 conv=>whnf
 (repeat' first | (refine step_go [] ?_;conv=>whnf) | (refine two ?_ ?_<;>intro g<;>(try simp only[bsx]at g)<;>(conv=>whnf)) | (refine And.intro rfl ?_;conv=>whnf) | (refine dr_go (by decide +kernel) ?_;conv=>whnf) | (refine ⟨szL zs7 hz8 (by decide), ?_⟩;conv=>whnf) | (refine And.intro (congrArg V.str hs8.symm) ?_;conv=>whnf) | fail)
 refine c_rlineW _ _ (w_penalty ++ [32]) (rateS p.pen) rfl (sB_toBA (B14.rateS_byte _)) (by decide) (by rw [toBA_size]; exact Nat.le_trans (B14.rateS_len hp.pen) (by decide)) _ (fun t ht hz => ?_)
 conv=>whnf
 (repeat' first | (refine step_go [] ?_;conv=>whnf) | (refine two ?_ ?_<;>intro g<;>(try simp only[bsx]at g)<;>(conv=>whnf)) | (refine And.intro rfl ?_;conv=>whnf) | (refine dr_go (by decide +kernel) ?_;conv=>whnf) | (refine ⟨szL zs7 hz8 (by decide), ?_⟩;conv=>whnf) | (refine And.intro (congrArg V.str hs8.symm) ?_;conv=>whnf) | fail)
 refine ⟨szL (n := 973) (m := 134) zs8 hz (by decide), ?_⟩
 conv=>whnf
 obtain ⟨s9, hs9⟩ : ∃ s' : ByteArray, s' = s8 ++ t := ⟨_, rfl⟩
 have hz9 := hz
 have es9 : sB s9 = sB s8 ++ lnS (w_penalty ++ [32] ++ rateS p.pen) := by rw [hs9, sB_app, ht]
 have zs9 : s9.size <= 1107 := by rw [hs9]; exact szA zs8 hz
 rw [← hs9]
 (repeat' first | (refine step_go [] ?_;conv=>whnf) | (refine two ?_ ?_<;>intro g<;>(try simp only[bsx]at g)<;>(conv=>whnf)) | (refine And.intro rfl ?_;conv=>whnf) | (refine dr_go (by decide +kernel) ?_;conv=>whnf) | (refine ⟨szL zs7 hz8 (by decide), ?_⟩;conv=>whnf) | (refine And.intro (congrArg V.str hs8.symm) ?_;conv=>whnf) | (refine ⟨szL zs8 hz9 (by decide), ?_⟩;conv=>whnf) | (refine And.intro (congrArg V.str hs9.symm) ?_;conv=>whnf) | fail)
 let Sr : Nat × ByteArray -> St := fun x => ⟨(.undef :: .ptr 0 0 :: .str ⟨#[]⟩ :: .int .i64 0 :: .str x.2 :: .int .i64 (x.1 : Nat) :: .undef :: .undef :: .undef :: .undef :: .undef :: .undef :: .undef :: .undef :: .undef :: .undef :: .undef :: .undef :: .undef :: .undef :: .undef :: .undef :: .undef :: .undef :: .undef :: .undef :: .undef :: .undef :: .undef :: .undef :: .undef :: .undef :: .undef :: .undef :: .undef :: .undef :: .undef :: .undef :: .undef :: .undef :: .undef :: .undef :: .undef :: .undef :: .undef :: .undef :: .undef :: .undef :: .undef :: .undef :: .undef :: .undef :: .undef :: .undef :: .undef :: .undef :: .undef :: .undef :: .undef :: .undef :: .undef :: .undef :: .undef :: .undef :: .undef :: .undef :: .undef :: .undef :: .undef :: .undef :: .undef :: .undef :: .undef :: .undef :: .undef :: .undef :: .undef :: .undef :: .undef :: .undef :: .undef :: .undef :: .undef :: .undef :: .undef :: .undef :: .undef :: .undef :: .undef :: .undef :: .undef :: .undef :: .undef :: .undef :: .undef :: .undef :: .undef :: .undef :: .undef :: .undef :: .undef :: .undef :: .undef :: .undef :: .undef :: .undef :: .undef :: .undef :: .undef :: .undef :: .undef :: .undef :: .undef :: .undef :: .undef :: .undef :: .undef :: .undef :: .undef :: .undef :: .undef :: .undef :: .undef :: .undef :: .undef :: .undef :: .undef :: .undef :: .undef :: .undef :: .undef :: .undef :: .undef :: .undef :: .undef :: .undef :: .undef :: .undef :: .undef :: .undef :: .undef :: .undef :: .undef :: .undef :: .undef :: .undef :: .undef :: .undef :: .undef :: .undef :: .undef :: .undef :: .undef :: .undef :: .undef :: .undef :: .undef :: .undef :: .undef :: .undef :: .undef :: .undef :: .undef :: .undef :: .undef :: .undef :: .undef :: .undef :: .undef :: .undef :: .undef :: .undef :: .undef :: .undef :: .undef :: .undef :: .undef :: .undef :: .undef :: .undef :: .undef :: .undef :: .undef :: .undef :: .undef :: .undef :: .undef :: .undef :: .undef :: .undef :: .undef :: .undef :: .undef :: .undef :: .undef :: .undef :: .undef :: .undef :: .undef :: .undef :: .undef :: .undef :: .undef :: .undef :: .undef :: .undef :: []), [.cells true 27 (cellsP p)], 0, []⟩
 have hlr : (rL p.resets).length = p.resets.length := by simp [rL]
 refine VLoop.enter (s' := Sr (0, s9)) (weak_of ?_ (.cons (.eq rfl) .nil) rfl rfl rfl) (VLoop.indW Sr (fun x => p.resets.length - x.1) (fun x => x.1 <= p.resets.length /\ sB x.2 = sB s9 ++ (p.resets.take x.1).flatMap resetS /\ x.2.size <= 1107 + 134 * x.1) ?_ (0, s9) ⟨Nat.zero_le _, by simp, by simpa using zs9⟩)
 · (repeat' first | exact VWs.nil | refine VWs.cons VW.undef ?_ | refine VWs.cons (VW.eq rfl) ?_)
 rintro ⟨i, s⟩ ⟨hi, es, zs⟩ ih
 simp only at hi es zs
 dsimp only [Sr]
 refine loop_round [] ?_; conv=>whnf
 (repeat' first | (refine step_go [] ?_;conv=>whnf) | (refine two ?_ ?_<;>intro g<;>(try simp only[bsx]at g)<;>(conv=>whnf)) | (refine And.intro rfl ?_;conv=>whnf) | fail)
 · have hil : i < p.resets.length := by omega
   obtain ⟨r, hr⟩ : ∃ r, p.resets[i] = r := ⟨_, rfl⟩
   have hmem : r ∈ p.resets := by rw [← hr]; exact List.getElem_mem _
   have hget : (rL p.resets)[(i : Int).toNat]? = some (encR r) := by rw [Int.toNat_natCast, ← hr]; simp [rL, List.getElem?_eq_getElem hil]
   have htk : p.resets.take (i + 1) = p.resets.take i ++ [r] := by rw [List.take_succ_eq_append_getElem hil, hr]
   have haf := res_in hres r hmem
   have hI := hp.resets r hmem
   have ht6 : p.times <= 600 := by unfold shape3 at hshape; omega
   have hd1 := (dg_le r.aft (by omega)).1
   have hd2 : (toBA (rateS r.rate)).size <= 60 := by rw [toBA_size]; exact Nat.le_trans (B14.rateS_len hI.2) (by decide)
   have hi20 : i < 20 := by omega
   have zs' : s.size <= 4000 := by omega
   have wi : IntKind.i64.wrap ((i : Int) + 1) = ((i + 1 : Nat) : Int) := by rw [wrap64 (by omega) (by omega)]; omega
   (repeat' first | (refine step_go [] ?_;conv=>whnf) | (refine two ?_ ?_<;>intro g<;>(try simp only[bsx]at g)<;>(conv=>whnf)) | (refine And.intro rfl ?_;conv=>whnf) | (refine dr_go (by decide +kernel) ?_;conv=>whnf) | (refine ⟨by omega, _, hget, rfl, ?_⟩;conv=>whnf) | fail)
   refine c_rnumI _ (by omega) (by omega) _ ?_
   conv=>whnf
   (repeat' first | (refine step_go [] ?_;conv=>whnf) | (refine two ?_ ?_<;>intro g<;>(try simp only[bsx]at g)<;>(conv=>whnf)) | (refine And.intro rfl ?_;conv=>whnf) | (refine dr_go (by decide +kernel) ?_;conv=>whnf) | (refine ⟨by omega, _, hget, rfl, ?_⟩;conv=>whnf) | (refine ⟨szL (n := 7) (m := 20) (by decide) hd1 (by decide), ?_⟩;conv=>whnf) | (refine ⟨szL (n := 27) (m := 1) (szA (n := 7) (m := 20) (by decide) hd1) (by decide) (by decide), ?_⟩;conv=>whnf) | (refine ⟨szL (n := 28) (m := 60) (szA (n := 27) (m := 1) (szA (n := 7) (m := 20) (by decide) hd1) (by decide)) hd2 (by decide), ?_⟩;conv=>whnf) | fail)
   refine c_rrate _ hI.2 _ ?_
   conv=>whnf
   (repeat' first | (refine step_go [] ?_;conv=>whnf) | (refine two ?_ ?_<;>intro g<;>(try simp only[bsx]at g)<;>(conv=>whnf)) | (refine And.intro rfl ?_;conv=>whnf) | (refine dr_go (by decide +kernel) ?_;conv=>whnf) | (refine ⟨by omega, _, hget, rfl, ?_⟩;conv=>whnf) | (refine ⟨szL (n := 7) (m := 20) (by decide) hd1 (by decide), ?_⟩;conv=>whnf) | (refine ⟨szL (n := 27) (m := 1) (szA (n := 7) (m := 20) (by decide) hd1) (by decide) (by decide), ?_⟩;conv=>whnf) | (refine ⟨szL (n := 28) (m := 60) (szA (n := 27) (m := 1) (szA (n := 7) (m := 20) (by decide) hd1) (by decide)) hd2 (by decide), ?_⟩;conv=>whnf) | fail)
   refine c_rlineW _ _ (w_reset ++ [32] ++ dg r.aft.toNat ++ [32]) (rateS r.rate) (by rw [sB_app, sB_app, sB_toBA (dg_le r.aft (by omega)).2]; rfl) (sB_toBA (B14.rateS_byte _)) (Nat.le_trans (szA (n := 27) (m := 1) (szA (n := 7) (m := 20) (by decide) hd1) (by decide)) (by decide)) (by omega) _ (fun t ht hz => ?_)
   conv=>whnf
   (repeat' first | (refine step_go [] ?_;conv=>whnf) | (refine two ?_ ?_<;>intro g<;>(try simp only[bsx]at g)<;>(conv=>whnf)) | (refine And.intro rfl ?_;conv=>whnf) | (refine dr_go (by decide +kernel) ?_;conv=>whnf) | (refine ⟨by omega, _, hget, rfl, ?_⟩;conv=>whnf) | (refine ⟨szL (n := 7) (m := 20) (by decide) hd1 (by decide), ?_⟩;conv=>whnf) | (refine ⟨szL (n := 27) (m := 1) (szA (n := 7) (m := 20) (by decide) hd1) (by decide) (by decide), ?_⟩;conv=>whnf) | (refine ⟨szL (n := 28) (m := 60) (szA (n := 27) (m := 1) (szA (n := 7) (m := 20) (by decide) hd1) (by decide)) hd2 (by decide), ?_⟩;conv=>whnf) | (refine ⟨szL zs' hz (by decide), ?_⟩;conv=>whnf) | fail)
   refine ⟨Sr (i + 1, s ++ t), weak_of ?_ (.cons (.eq rfl) .nil) rfl rfl rfl, ih (i + 1, s ++ t) ⟨by simp only; omega, ?_, ?_⟩ (by simp only; omega)⟩
   · rw [wi]
     (repeat' first | exact VWs.nil | refine VWs.cons VW.undef ?_ | refine VWs.cons (VW.eq rfl) ?_)
   · simp only
     rw [sB_app, es, ht, htk, List.flatMap_append, List.append_assoc]
     simp [resetS]
   · simp only
     exact Nat.le_trans (szA zs hz) (by omega)
 have hie : i = p.resets.length := by omega
 subst hie
 rw [List.take_length] at es
 have zs : s.size <= 4000 := by omega
 clear ih
 refine ⟨_, Weak.refl, ?_⟩
 conv=>whnf
 obtain ⟨q0, hq0⟩ : ∃ q0 : ByteArray, q0 = ⟨#[111, 114, 100, 101, 114]⟩ := ⟨_, rfl⟩
 have eq0 : sB q0 = w_order := by rw [hq0]; rfl
 have zq0 : q0.size <= 20 := by rw [hq0]; decide
 (repeat' first | (refine step_go [] ?_;conv=>whnf) | (refine two ?_ ?_<;>intro g<;>(try simp only[bsx]at g)<;>(conv=>whnf)) | (refine And.intro rfl ?_;conv=>whnf) | fail)
 rw [← hq0]
 clear hq0
 (repeat' first | (refine step_go [] ?_;conv=>whnf) | (refine two ?_ ?_<;>intro g<;>(try simp only[bsx]at g)<;>(conv=>whnf)) | (refine And.intro rfl ?_;conv=>whnf) | (refine loop_round [] ?_;conv=>whnf) | fail)
 refine ⟨szL (n := 20) (m := 1) zq0 (by decide) (by decide), ?_⟩
 conv=>whnf
 (repeat' first | (refine step_go [] ?_;conv=>whnf) | (refine two ?_ ?_<;>intro g<;>(try simp only[bsx]at g)<;>(conv=>whnf)) | (refine And.intro rfl ?_;conv=>whnf) | (refine ⟨by decide, by decide, ?_⟩;conv=>whnf) | fail)
 obtain ⟨go1, go2⟩ := get_pay (n := p.o1) hord.1.1 hord.1.2
 refine ⟨go1, _, go2, rfl, ?_⟩
 conv=>whnf
 (repeat' first | (refine step_go [] ?_;conv=>whnf) | (refine two ?_ ?_<;>intro g<;>(try simp only[bsx]at g)<;>(conv=>whnf)) | (refine And.intro rfl ?_;conv=>whnf) | fail)
 refine ⟨szL (n := 21) (m := 10) (szA (n := 20) (m := 1) zq0 (by decide)) (payW_b _).2 (by decide), ?_⟩
 conv=>whnf
 obtain ⟨q1, hq1⟩ : ∃ q : ByteArray, q = q0 ++ ⟨#[32]⟩ ++ toBA (payW p.o1) := ⟨_, rfl⟩
 have eq1 : sB q1 = sB q0 ++ [32] ++ payW p.o1 := by rw [hq1, sB_app, sB_app, sB_toBA (payW_b _).1]; rfl
 have zq1 : q1.size <= 40 := by rw [hq1]; exact Nat.le_trans (szA (n := 21) (m := 10) (szA (n := 20) (m := 1) zq0 (by decide)) (payW_b _).2) (by decide)
 rw [← hq1]
 clear hq1 go1 go2
 (repeat' first | (refine step_go [] ?_;conv=>whnf) | (refine two ?_ ?_<;>intro g<;>(try simp only[bsx]at g)<;>(conv=>whnf)) | (refine And.intro rfl ?_;conv=>whnf) | (refine loop_round [] ?_;conv=>whnf) | (refine ⟨_, Weak.refl, ?_⟩;conv=>whnf) | fail)
 refine ⟨szL (n := 40) (m := 1) zq1 (by decide) (by decide), ?_⟩
 conv=>whnf
 (repeat' first | (refine step_go [] ?_;conv=>whnf) | (refine two ?_ ?_<;>intro g<;>(try simp only[bsx]at g)<;>(conv=>whnf)) | (refine And.intro rfl ?_;conv=>whnf) | (refine ⟨by decide, by decide, ?_⟩;conv=>whnf) | fail)
 obtain ⟨go1, go2⟩ := get_pay (n := p.o2) hord.2.1.1 hord.2.1.2
 refine ⟨go1, _, go2, rfl, ?_⟩
 conv=>whnf
 (repeat' first | (refine step_go [] ?_;conv=>whnf) | (refine two ?_ ?_<;>intro g<;>(try simp only[bsx]at g)<;>(conv=>whnf)) | (refine And.intro rfl ?_;conv=>whnf) | fail)
 refine ⟨szL (n := 41) (m := 10) (szA (n := 40) (m := 1) zq1 (by decide)) (payW_b _).2 (by decide), ?_⟩
 conv=>whnf
 obtain ⟨q2, hq2⟩ : ∃ q : ByteArray, q = q1 ++ ⟨#[32]⟩ ++ toBA (payW p.o2) := ⟨_, rfl⟩
 have eq2 : sB q2 = sB q1 ++ [32] ++ payW p.o2 := by rw [hq2, sB_app, sB_app, sB_toBA (payW_b _).1]; rfl
 have zq2 : q2.size <= 60 := by rw [hq2]; exact Nat.le_trans (szA (n := 41) (m := 10) (szA (n := 40) (m := 1) zq1 (by decide)) (payW_b _).2) (by decide)
 rw [← hq2]
 clear hq2 go1 go2
 (repeat' first | (refine step_go [] ?_;conv=>whnf) | (refine two ?_ ?_<;>intro g<;>(try simp only[bsx]at g)<;>(conv=>whnf)) | (refine And.intro rfl ?_;conv=>whnf) | (refine loop_round [] ?_;conv=>whnf) | (refine ⟨_, Weak.refl, ?_⟩;conv=>whnf) | fail)
 refine ⟨szL (n := 60) (m := 1) zq2 (by decide) (by decide), ?_⟩
 conv=>whnf
 (repeat' first | (refine step_go [] ?_;conv=>whnf) | (refine two ?_ ?_<;>intro g<;>(try simp only[bsx]at g)<;>(conv=>whnf)) | (refine And.intro rfl ?_;conv=>whnf) | (refine ⟨by decide, by decide, ?_⟩;conv=>whnf) | fail)
 obtain ⟨go1, go2⟩ := get_pay (n := p.o3) hord.2.2.1.1 hord.2.2.1.2
 refine ⟨go1, _, go2, rfl, ?_⟩
 conv=>whnf
 (repeat' first | (refine step_go [] ?_;conv=>whnf) | (refine two ?_ ?_<;>intro g<;>(try simp only[bsx]at g)<;>(conv=>whnf)) | (refine And.intro rfl ?_;conv=>whnf) | fail)
 refine ⟨szL (n := 61) (m := 10) (szA (n := 60) (m := 1) zq2 (by decide)) (payW_b _).2 (by decide), ?_⟩
 conv=>whnf
 obtain ⟨q3, hq3⟩ : ∃ q : ByteArray, q = q2 ++ ⟨#[32]⟩ ++ toBA (payW p.o3) := ⟨_, rfl⟩
 have eq3 : sB q3 = sB q2 ++ [32] ++ payW p.o3 := by rw [hq3, sB_app, sB_app, sB_toBA (payW_b _).1]; rfl
 have zq3 : q3.size <= 80 := by rw [hq3]; exact Nat.le_trans (szA (n := 61) (m := 10) (szA (n := 60) (m := 1) zq2 (by decide)) (payW_b _).2) (by decide)
 rw [← hq3]
 clear hq3 go1 go2
 (repeat' first | (refine step_go [] ?_;conv=>whnf) | (refine two ?_ ?_<;>intro g<;>(try simp only[bsx]at g)<;>(conv=>whnf)) | (refine And.intro rfl ?_;conv=>whnf) | (refine loop_round [] ?_;conv=>whnf) | (refine ⟨_, Weak.refl, ?_⟩;conv=>whnf) | fail)
 refine ⟨szL (n := 80) (m := 1) zq3 (by decide) (by decide), ?_⟩
 conv=>whnf
 (repeat' first | (refine step_go [] ?_;conv=>whnf) | (refine two ?_ ?_<;>intro g<;>(try simp only[bsx]at g)<;>(conv=>whnf)) | (refine And.intro rfl ?_;conv=>whnf) | (refine ⟨by decide, by decide, ?_⟩;conv=>whnf) | fail)
 obtain ⟨go1, go2⟩ := get_pay (n := p.o4) hord.2.2.2.1.1 hord.2.2.2.1.2
 refine ⟨go1, _, go2, rfl, ?_⟩
 conv=>whnf
 (repeat' first | (refine step_go [] ?_;conv=>whnf) | (refine two ?_ ?_<;>intro g<;>(try simp only[bsx]at g)<;>(conv=>whnf)) | (refine And.intro rfl ?_;conv=>whnf) | fail)
 refine ⟨szL (n := 81) (m := 10) (szA (n := 80) (m := 1) zq3 (by decide)) (payW_b _).2 (by decide), ?_⟩
 conv=>whnf
 obtain ⟨q4, hq4⟩ : ∃ q : ByteArray, q = q3 ++ ⟨#[32]⟩ ++ toBA (payW p.o4) := ⟨_, rfl⟩
 have eq4 : sB q4 = sB q3 ++ [32] ++ payW p.o4 := by rw [hq4, sB_app, sB_app, sB_toBA (payW_b _).1]; rfl
 have zq4 : q4.size <= 100 := by rw [hq4]; exact Nat.le_trans (szA (n := 81) (m := 10) (szA (n := 80) (m := 1) zq3 (by decide)) (payW_b _).2) (by decide)
 rw [← hq4]
 clear hq4 go1 go2
 (repeat' first | (refine step_go [] ?_;conv=>whnf) | (refine two ?_ ?_<;>intro g<;>(try simp only[bsx]at g)<;>(conv=>whnf)) | (refine And.intro rfl ?_;conv=>whnf) | (refine loop_round [] ?_;conv=>whnf) | (refine ⟨_, Weak.refl, ?_⟩;conv=>whnf) | fail)
 obtain ⟨go1, go2⟩ := get_over hover.1 hover.2
 (repeat' first | (refine step_go [] ?_;conv=>whnf) | (refine two ?_ ?_<;>intro g<;>(try simp only[bsx]at g)<;>(conv=>whnf)) | (refine And.intro rfl ?_;conv=>whnf) | (refine dr_go (by decide +kernel) ?_;conv=>whnf) | (refine ⟨go1, _, go2, rfl, ?_⟩;conv=>whnf) | (refine ⟨szL (n := 10) (m := 10) (by decide) (overW_b _).2 (by decide), ?_⟩;conv=>whnf) | fail)
 refine c_rline q4 (by omega) _ (fun t ht hz => ?_)
 conv=>whnf
 (repeat' first | (refine step_go [] ?_;conv=>whnf) | (refine two ?_ ?_<;>intro g<;>(try simp only[bsx]at g)<;>(conv=>whnf)) | (refine And.intro rfl ?_;conv=>whnf) | (refine dr_go (by decide +kernel) ?_;conv=>whnf) | (refine ⟨go1, _, go2, rfl, ?_⟩;conv=>whnf) | (refine ⟨szL (n := 10) (m := 10) (by decide) (overW_b _).2 (by decide), ?_⟩;conv=>whnf) | fail)
 have hz4 : t.size <= 104 := by omega
 refine ⟨szL zs hz4 (by decide), ?_⟩
 conv=>whnf
 obtain ⟨sA, hsA⟩ : ∃ s' : ByteArray, s' = s ++ t := ⟨_, rfl⟩
 have esA : sB sA = sB s ++ lnS (sB q4) := by rw [hsA, sB_app, ht]
 have zsA : sA.size <= 4104 := by rw [hsA]; exact szA zs hz4
 rw [← hsA]
 (repeat' first | (refine step_go [] ?_;conv=>whnf) | (refine two ?_ ?_<;>intro g<;>(try simp only[bsx]at g)<;>(conv=>whnf)) | (refine And.intro rfl ?_;conv=>whnf) | (refine dr_go (by decide +kernel) ?_;conv=>whnf) | (refine ⟨go1, _, go2, rfl, ?_⟩;conv=>whnf) | (refine ⟨szL (n := 10) (m := 10) (by decide) (overW_b _).2 (by decide), ?_⟩;conv=>whnf) | (refine ⟨szL zs hz4 (by decide), ?_⟩;conv=>whnf) | (refine And.intro (congrArg V.str hsA.symm) ?_;conv=>whnf) | fail)
 refine c_rlineW _ _ (w_over ++ [32]) (overW p.over) rfl (sB_toBA (overW_b _).1) (by decide) (Nat.le_trans (overW_b _).2 (by decide)) _ (fun t2 ht2 hz2 => ?_)
 conv=>whnf
 (repeat' first | (refine step_go [] ?_;conv=>whnf) | (refine two ?_ ?_<;>intro g<;>(try simp only[bsx]at g)<;>(conv=>whnf)) | (refine And.intro rfl ?_;conv=>whnf) | (refine dr_go (by decide +kernel) ?_;conv=>whnf) | (refine ⟨go1, _, go2, rfl, ?_⟩;conv=>whnf) | (refine ⟨szL (n := 10) (m := 10) (by decide) (overW_b _).2 (by decide), ?_⟩;conv=>whnf) | (refine ⟨szL zs hz4 (by decide), ?_⟩;conv=>whnf) | (refine And.intro (congrArg V.str hsA.symm) ?_;conv=>whnf) | fail)
 refine ⟨szL zsA hz2 (by decide), ?_⟩
 conv=>whnf
 obtain ⟨sB1, hsB1⟩ : ∃ s' : ByteArray, s' = sA ++ t2 := ⟨_, rfl⟩
 have esB : sB sB1 = sB sA ++ lnS (w_over ++ [32] ++ overW p.over) := by rw [hsB1, sB_app, ht2]
 have zsB : sB1.size <= 4238 := by rw [hsB1]; exact szA zsA hz2
 rw [← hsB1]
 (repeat' first | (refine step_go [] ?_;conv=>whnf) | (refine two ?_ ?_<;>intro g<;>(try simp only[bsx]at g)<;>(conv=>whnf)) | (refine And.intro rfl ?_;conv=>whnf) | (refine dr_go (by decide +kernel) ?_;conv=>whnf) | fail)
 let Sl : Nat × ByteArray -> St := fun x => ⟨(.undef :: .ptr 0 0 :: .str ⟨#[]⟩ :: .int .i64 0 :: .str x.2 :: .undef :: .undef :: .undef :: .int .i64 (x.1 : Nat) :: .undef :: .undef :: .undef :: .undef :: .undef :: .undef :: .undef :: .undef :: .undef :: .undef :: .undef :: .undef :: .undef :: .undef :: .undef :: .undef :: .undef :: .undef :: .undef :: .undef :: .undef :: .undef :: .undef :: .undef :: .undef :: .undef :: .undef :: .undef :: .undef :: .undef :: .undef :: .undef :: .undef :: .undef :: .undef :: .undef :: .undef :: .undef :: .undef :: .undef :: .undef :: .undef :: .undef :: .undef :: .undef :: .undef :: .undef :: .undef :: .undef :: .undef :: .undef :: .undef :: .undef :: .undef :: .undef :: .undef :: .undef :: .undef :: .undef :: .undef :: .undef :: .undef :: .undef :: .undef :: .undef :: .undef :: .undef :: .undef :: .undef :: .undef :: .undef :: .undef :: .undef :: .undef :: .undef :: .undef :: .undef :: .undef :: .undef :: .undef :: .undef :: .undef :: .undef :: .undef :: .undef :: .undef :: .undef :: .undef :: .undef :: .undef :: .undef :: .undef :: .undef :: .undef :: .undef :: .undef :: .undef :: .undef :: .undef :: .undef :: .undef :: .undef :: .undef :: .undef :: .undef :: .undef :: .undef :: .undef :: .undef :: .undef :: .undef :: .undef :: .undef :: .undef :: .undef :: .undef :: .undef :: .undef :: .undef :: .undef :: .undef :: .undef :: .undef :: .undef :: .undef :: .undef :: .undef :: .undef :: .undef :: .undef :: .undef :: .undef :: .undef :: .undef :: .undef :: .undef :: .undef :: .undef :: .undef :: .undef :: .undef :: .undef :: .undef :: .undef :: .undef :: .undef :: .undef :: .undef :: .undef :: .undef :: .undef :: .undef :: .undef :: .undef :: .undef :: .undef :: .undef :: .undef :: .undef :: .undef :: .undef :: .undef :: .undef :: .undef :: .undef :: .undef :: .undef :: .undef :: .undef :: .undef :: .undef :: .undef :: .undef :: .undef :: .undef :: .undef :: .undef :: .undef :: .undef :: .undef :: .undef :: .undef :: .undef :: .undef :: .undef :: .undef :: .undef :: .undef :: .undef :: .undef :: .undef :: .undef :: .undef :: .undef :: .undef :: .undef :: .undef :: []), [.cells true 27 (cellsP p)], 0, []⟩
 have hll2 : (tL p.late).length = p.late.length := by simp [tL]
 refine VLoop.enter (s' := Sl (0, sB1)) (weak_of ?_ (.cons (.eq rfl) .nil) rfl rfl rfl) (VLoop.indW Sl (fun x => p.late.length - x.1) (fun x => x.1 <= p.late.length /\ sB x.2 = sB sB1 ++ (p.late.take x.1).flatMap lateS /\ x.2.size <= 4238 + 134 * x.1) ?_ (0, sB1) ⟨Nat.zero_le _, by simp, by simpa using zsB⟩)
 · (repeat' first | exact VWs.nil | refine VWs.cons VW.undef ?_ | refine VWs.cons (VW.eq rfl) ?_)
 clear hsB1 hsA ht ht2 hz hz2 hz4 g go1 go2
 rintro ⟨i, s2⟩ ⟨hi, es2', zs2'⟩ ih
 simp only at hi es2' zs2'
 dsimp only [Sl]
 refine loop_round [] ?_; conv=>whnf
 (repeat' first | (refine step_go [] ?_;conv=>whnf) | (refine two ?_ ?_<;>intro g<;>(try simp only[bsx]at g)<;>(conv=>whnf)) | (refine And.intro rfl ?_;conv=>whnf) | fail)
 · have hil : i < p.late.length := by omega
   obtain ⟨r, hr⟩ : ∃ r, p.late[i] = r := ⟨_, rfl⟩
   have hmem : r ∈ p.late := by rw [← hr]; exact List.getElem_mem _
   have hget : (tL p.late)[(i : Int).toNat]? = some (encT r) := by rw [Int.toNat_natCast, ← hr]; simp [tL, List.getElem?_eq_getElem hil]
   have htk : p.late.take (i + 1) = p.late.take i ++ [r] := by rw [List.take_succ_eq_append_getElem hil, hr]
   have haf := tier_in htie r hmem
   have hI := hp.late r hmem
   have hd1 := (dg_le r.days (by omega)).1
   have hd2 : (toBA (moneyS r.fee)).size <= 60 := by rw [toBA_size]; exact Nat.le_trans (B14.moneyS_len hI.2) (by decide)
   have zs' : s2.size <= 8000 := by omega
   have wi : IntKind.i64.wrap ((i : Int) + 1) = ((i + 1 : Nat) : Int) := by rw [wrap64 (by omega) (by omega)]; omega
   (repeat' first | (refine step_go [] ?_;conv=>whnf) | (refine two ?_ ?_<;>intro g<;>(try simp only[bsx]at g)<;>(conv=>whnf)) | (refine And.intro rfl ?_;conv=>whnf) | (refine dr_go (by decide +kernel) ?_;conv=>whnf) | (refine ⟨by omega, _, hget, rfl, ?_⟩;conv=>whnf) | fail)
   refine c_rnumI _ (by omega) (by omega) _ ?_
   conv=>whnf
   (repeat' first | (refine step_go [] ?_;conv=>whnf) | (refine two ?_ ?_<;>intro g<;>(try simp only[bsx]at g)<;>(conv=>whnf)) | (refine And.intro rfl ?_;conv=>whnf) | (refine dr_go (by decide +kernel) ?_;conv=>whnf) | (refine ⟨by omega, _, hget, rfl, ?_⟩;conv=>whnf) | (refine ⟨szL (n := 7) (m := 20) (by decide) hd1 (by decide), ?_⟩;conv=>whnf) | (refine ⟨szL (n := 27) (m := 1) (szA (n := 7) (m := 20) (by decide) hd1) (by decide) (by decide), ?_⟩;conv=>whnf) | (refine ⟨szL (n := 28) (m := 60) (szA (n := 27) (m := 1) (szA (n := 7) (m := 20) (by decide) hd1) (by decide)) hd2 (by decide), ?_⟩;conv=>whnf) | fail)
   refine c_rmoney _ hI.2 _ ?_
   conv=>whnf
   (repeat' first | (refine step_go [] ?_;conv=>whnf) | (refine two ?_ ?_<;>intro g<;>(try simp only[bsx]at g)<;>(conv=>whnf)) | (refine And.intro rfl ?_;conv=>whnf) | (refine dr_go (by decide +kernel) ?_;conv=>whnf) | (refine ⟨by omega, _, hget, rfl, ?_⟩;conv=>whnf) | (refine ⟨szL (n := 7) (m := 20) (by decide) hd1 (by decide), ?_⟩;conv=>whnf) | (refine ⟨szL (n := 27) (m := 1) (szA (n := 7) (m := 20) (by decide) hd1) (by decide) (by decide), ?_⟩;conv=>whnf) | (refine ⟨szL (n := 28) (m := 60) (szA (n := 27) (m := 1) (szA (n := 7) (m := 20) (by decide) hd1) (by decide)) hd2 (by decide), ?_⟩;conv=>whnf) | fail)
   refine c_rlineW _ _ (w_late ++ [32] ++ dg r.days.toNat ++ [32]) (moneyS r.fee) (by rw [sB_app, sB_app, sB_toBA (dg_le r.days (by omega)).2]; rfl) (sB_toBA (moneyS_b _)) (Nat.le_trans (szA (n := 27) (m := 1) (szA (n := 7) (m := 20) (by decide) hd1) (by decide)) (by decide)) (by omega) _ (fun t ht hz => ?_)
   conv=>whnf
   (repeat' first | (refine step_go [] ?_;conv=>whnf) | (refine two ?_ ?_<;>intro g<;>(try simp only[bsx]at g)<;>(conv=>whnf)) | (refine And.intro rfl ?_;conv=>whnf) | (refine dr_go (by decide +kernel) ?_;conv=>whnf) | (refine ⟨by omega, _, hget, rfl, ?_⟩;conv=>whnf) | (refine ⟨szL (n := 7) (m := 20) (by decide) hd1 (by decide), ?_⟩;conv=>whnf) | (refine ⟨szL (n := 27) (m := 1) (szA (n := 7) (m := 20) (by decide) hd1) (by decide) (by decide), ?_⟩;conv=>whnf) | (refine ⟨szL (n := 28) (m := 60) (szA (n := 27) (m := 1) (szA (n := 7) (m := 20) (by decide) hd1) (by decide)) hd2 (by decide), ?_⟩;conv=>whnf) | (refine ⟨szL zs' hz (by decide), ?_⟩;conv=>whnf) | fail)
   refine ⟨Sl (i + 1, s2 ++ t), weak_of ?_ (.cons (.eq rfl) .nil) rfl rfl rfl, ih (i + 1, s2 ++ t) ⟨by simp only; omega, ?_, ?_⟩ (by simp only; omega)⟩
   · rw [wi]
     (repeat' first | exact VWs.nil | refine VWs.cons VW.undef ?_ | refine VWs.cons (VW.eq rfl) ?_)
   · simp only
     rw [sB_app, es2', ht, htk, List.flatMap_append, List.append_assoc]
     simp [lateS]
   · simp only
     exact Nat.le_trans (szA zs2' hz) (by omega)
 have hie : i = p.late.length := by omega
 subst hie
 rw [List.take_length] at es2'
 have zsC : s2.size <= 8000 := by omega
 clear ih zs2' hi
 refine ⟨_, Weak.refl, ?_⟩
 conv=>whnf
 obtain ⟨go1, go2⟩ := get_roll hroll.1 hroll.2
 have hm60 : (toBA (moneyS p.cap)).size <= 60 := by rw [toBA_size]; exact Nat.le_trans (B14.moneyS_len hp.cap) (by decide)
 (repeat' first | (refine step_go [] ?_;conv=>whnf) | (refine two ?_ ?_<;>intro g<;>(try simp only[bsx]at g)<;>(conv=>whnf)) | (refine And.intro rfl ?_;conv=>whnf) | (refine dr_go (by decide +kernel) ?_;conv=>whnf) | (refine ⟨go1, _, go2, rfl, ?_⟩;conv=>whnf) | (refine ⟨szL (n := 10) (m := 10) (by decide) (rollW_b _).2 (by decide), ?_⟩;conv=>whnf) | fail)
 refine c_rmoney _ hp.cap _ ?_
 conv=>whnf
 (repeat' first | (refine step_go [] ?_;conv=>whnf) | (refine two ?_ ?_<;>intro g<;>(try simp only[bsx]at g)<;>(conv=>whnf)) | (refine And.intro rfl ?_;conv=>whnf) | (refine dr_go (by decide +kernel) ?_;conv=>whnf) | (refine ⟨go1, _, go2, rfl, ?_⟩;conv=>whnf) | (refine ⟨szL (n := 9) (m := 60) (by decide) hm60 (by decide), ?_⟩;conv=>whnf) | (refine ⟨szL (n := 10) (m := 10) (by decide) (rollW_b _).2 (by decide), ?_⟩;conv=>whnf) | fail)
 refine c_rlineW _ _ (w_cap ++ [32]) (moneyS p.cap) rfl (sB_toBA (moneyS_b _)) (by decide) (Nat.le_trans hm60 (by decide)) _ (fun t ht hz => ?_)
 conv=>whnf
 (repeat' first | (refine step_go [] ?_;conv=>whnf) | (refine two ?_ ?_<;>intro g<;>(try simp only[bsx]at g)<;>(conv=>whnf)) | (refine And.intro rfl ?_;conv=>whnf) | (refine dr_go (by decide +kernel) ?_;conv=>whnf) | (refine ⟨go1, _, go2, rfl, ?_⟩;conv=>whnf) | (refine ⟨szL (n := 9) (m := 60) (by decide) hm60 (by decide), ?_⟩;conv=>whnf) | (refine ⟨szL (n := 10) (m := 10) (by decide) (rollW_b _).2 (by decide), ?_⟩;conv=>whnf) | fail)
 refine ⟨szL zsC hz (by decide), ?_⟩
 conv=>whnf
 obtain ⟨sC, hsC⟩ : ∃ s' : ByteArray, s' = s2 ++ t := ⟨_, rfl⟩
 have esC : sB sC = sB s2 ++ lnS (w_cap ++ [32] ++ moneyS p.cap) := by rw [hsC, sB_app, ht]
 have zsD : sC.size <= 8134 := by rw [hsC]; exact szA zsC hz
 rw [← hsC]
 (repeat' first | (refine step_go [] ?_;conv=>whnf) | (refine two ?_ ?_<;>intro g<;>(try simp only[bsx]at g)<;>(conv=>whnf)) | (refine And.intro rfl ?_;conv=>whnf) | (refine dr_go (by decide +kernel) ?_;conv=>whnf) | (refine ⟨go1, _, go2, rfl, ?_⟩;conv=>whnf) | (refine ⟨szL (n := 9) (m := 60) (by decide) hm60 (by decide), ?_⟩;conv=>whnf) | (refine ⟨szL (n := 10) (m := 10) (by decide) (rollW_b _).2 (by decide), ?_⟩;conv=>whnf) | (refine ⟨szL zsC hz (by decide), ?_⟩;conv=>whnf) | (refine And.intro (congrArg V.str hsC.symm) ?_;conv=>whnf) | fail)
 refine c_rlineW _ _ (w_roll ++ [32]) (rollW p.roll) rfl (sB_toBA (rollW_b _).1) (by decide) (Nat.le_trans (rollW_b _).2 (by decide)) _ (fun t2 ht2 hz2 => ?_)
 conv=>whnf
 (repeat' first | (refine step_go [] ?_;conv=>whnf) | (refine two ?_ ?_<;>intro g<;>(try simp only[bsx]at g)<;>(conv=>whnf)) | (refine And.intro rfl ?_;conv=>whnf) | (refine dr_go (by decide +kernel) ?_;conv=>whnf) | (refine ⟨go1, _, go2, rfl, ?_⟩;conv=>whnf) | (refine ⟨szL (n := 9) (m := 60) (by decide) hm60 (by decide), ?_⟩;conv=>whnf) | (refine ⟨szL (n := 10) (m := 10) (by decide) (rollW_b _).2 (by decide), ?_⟩;conv=>whnf) | (refine ⟨szL zsC hz (by decide), ?_⟩;conv=>whnf) | (refine And.intro (congrArg V.str hsC.symm) ?_;conv=>whnf) | fail)
 refine ⟨szL zsD hz2 (by decide), ?_⟩
 conv=>whnf
 obtain ⟨sD, hsD⟩ : ∃ s' : ByteArray, s' = sC ++ t2 := ⟨_, rfl⟩
 have esD : sB sD = sB sC ++ lnS (w_roll ++ [32] ++ rollW p.roll) := by rw [hsD, sB_app, ht2]
 have zsE : sD.size <= 8268 := by rw [hsD]; exact szA zsD hz2
 rw [← hsD]
 (repeat' first | (refine step_go [] ?_;conv=>whnf) | (refine two ?_ ?_<;>intro g<;>(try simp only[bsx]at g)<;>(conv=>whnf)) | (refine And.intro rfl ?_;conv=>whnf) | (refine dr_go (by decide +kernel) ?_;conv=>whnf) | fail)
 let Sh : Nat × ByteArray -> St := fun x => ⟨(.undef :: .ptr 0 0 :: .str ⟨#[]⟩ :: .int .i64 0 :: .str x.2 :: .undef :: .undef :: .undef :: .undef :: .int .i64 (x.1 : Nat) :: .undef :: .undef :: .undef :: .undef :: .undef :: .undef :: .undef :: .undef :: .undef :: .undef :: .undef :: .undef :: .undef :: .undef :: .undef :: .undef :: .undef :: .undef :: .undef :: .undef :: .undef :: .undef :: .undef :: .undef :: .undef :: .undef :: .undef :: .undef :: .undef :: .undef :: .undef :: .undef :: .undef :: .undef :: .undef :: .undef :: .undef :: .undef :: .undef :: .undef :: .undef :: .undef :: .undef :: .undef :: .undef :: .undef :: .undef :: .undef :: .undef :: .undef :: .undef :: .undef :: .undef :: .undef :: .undef :: .undef :: .undef :: .undef :: .undef :: .undef :: .undef :: .undef :: .undef :: .undef :: .undef :: .undef :: .undef :: .undef :: .undef :: .undef :: .undef :: .undef :: .undef :: .undef :: .undef :: .undef :: .undef :: .undef :: .undef :: .undef :: .undef :: .undef :: .undef :: .undef :: .undef :: .undef :: .undef :: .undef :: .undef :: .undef :: .undef :: .undef :: .undef :: .undef :: .undef :: .undef :: .undef :: .undef :: .undef :: .undef :: .undef :: .undef :: .undef :: .undef :: .undef :: .undef :: .undef :: .undef :: .undef :: .undef :: .undef :: .undef :: .undef :: .undef :: .undef :: .undef :: .undef :: .undef :: .undef :: .undef :: .undef :: .undef :: .undef :: .undef :: .undef :: .undef :: .undef :: .undef :: .undef :: .undef :: .undef :: .undef :: .undef :: .undef :: .undef :: .undef :: .undef :: .undef :: .undef :: .undef :: .undef :: .undef :: .undef :: .undef :: .undef :: .undef :: .undef :: .undef :: .undef :: .undef :: .undef :: .undef :: .undef :: .undef :: .undef :: .undef :: .undef :: .undef :: .undef :: .undef :: .undef :: .undef :: .undef :: .undef :: .undef :: .undef :: .undef :: .undef :: .undef :: .undef :: .undef :: .undef :: .undef :: .undef :: .undef :: .undef :: .undef :: .undef :: .undef :: .undef :: .undef :: .undef :: .undef :: .undef :: .undef :: .undef :: .undef :: .undef :: .undef :: .undef :: .undef :: .undef :: .undef :: .undef :: .undef :: .undef :: []), [.cells true 27 (cellsP p)], 0, []⟩
 have hlh : (iL p.hol).length = p.hol.length := by simp [iL]
 refine VLoop.enter (s' := Sh (0, sD)) (weak_of ?_ (.cons (.eq rfl) .nil) rfl rfl rfl) (VLoop.indW Sh (fun x => p.hol.length - x.1) (fun x => x.1 <= p.hol.length /\ sB x.2 = sB sD ++ (p.hol.take x.1).flatMap holS /\ x.2.size <= 8268 + 134 * x.1) ?_ (0, sD) ⟨Nat.zero_le _, by simp, by simpa using zsE⟩)
 · (repeat' first | exact VWs.nil | refine VWs.cons VW.undef ?_ | refine VWs.cons (VW.eq rfl) ?_)
 clear hsC hsD ht ht2 hz hz2 go1 go2
 rintro ⟨i, s3⟩ ⟨hi, es3, zs3⟩ ih
 simp only at hi es3 zs3
 dsimp only [Sh]
 refine loop_round [] ?_; conv=>whnf
 (repeat' first | (refine step_go [] ?_;conv=>whnf) | (refine two ?_ ?_<;>intro g<;>(try simp only[bsx]at g)<;>(conv=>whnf)) | (refine And.intro rfl ?_;conv=>whnf) | fail)
 · have hil : i < p.hol.length := by omega
   obtain ⟨r, hr⟩ : ∃ r, p.hol[i] = r := ⟨_, rfl⟩
   have hmem : r ∈ p.hol := by rw [← hr]; exact List.getElem_mem _
   have hget : (iL p.hol)[(i : Int).toNat]? = some (.int .i64 r) := by rw [Int.toNat_natCast, ← hr]; simp [iL, List.getElem?_eq_getElem hil]
   have htk : p.hol.take (i + 1) = p.hol.take i ++ [r] := by rw [List.take_succ_eq_append_getElem hil, hr]
   have hin := hol_in hhol r hmem
   have zs' : s3.size <= 40000 := by omega
   have wi : IntKind.i64.wrap ((i : Int) + 1) = ((i + 1 : Nat) : Int) := by rw [wrap64 (by omega) (by omega)]; omega
   (repeat' first | (refine step_go [] ?_;conv=>whnf) | (refine two ?_ ?_<;>intro g<;>(try simp only[bsx]at g)<;>(conv=>whnf)) | (refine And.intro rfl ?_;conv=>whnf) | (refine dr_go (by decide +kernel) ?_;conv=>whnf) | (refine ⟨by omega, _, hget, rfl, ?_⟩;conv=>whnf) | fail)
   refine c_rtext r hin.1 hin.2 _ (fun y m d hd => ?_)
   have hdt := dateT_in hd
   have hd2 : (toBA (dtS y m d)).size <= 60 := by rw [toBA_size, dt_len]; decide
   have hdb : ∀ x ∈ dtS y m d, 0 <= x /\ x < 256 := dtS_b y m d
   conv=>whnf
   (repeat' first | (refine step_go [] ?_;conv=>whnf) | (refine two ?_ ?_<;>intro g<;>(try simp only[bsx]at g)<;>(conv=>whnf)) | (refine And.intro rfl ?_;conv=>whnf) | (refine dr_go (by decide +kernel) ?_;conv=>whnf) | (refine ⟨szL (n := 9) (m := 60) (by decide) hd2 (by decide), ?_⟩;conv=>whnf) | fail)
   refine c_rlineW _ _ (w_holiday ++ [32]) (dateT r) rfl (by rw [hdt]; exact sB_toBA hdb) (by decide) (Nat.le_trans hd2 (by decide)) _ (fun t ht hz => ?_)
   conv=>whnf
   (repeat' first | (refine step_go [] ?_;conv=>whnf) | (refine two ?_ ?_<;>intro g<;>(try simp only[bsx]at g)<;>(conv=>whnf)) | (refine And.intro rfl ?_;conv=>whnf) | (refine dr_go (by decide +kernel) ?_;conv=>whnf) | (refine ⟨szL zs' hz (by decide), ?_⟩;conv=>whnf) | fail)
   refine ⟨Sh (i + 1, s3 ++ t), weak_of ?_ (.cons (.eq rfl) .nil) rfl rfl rfl, ih (i + 1, s3 ++ t) ⟨by simp only; omega, ?_, ?_⟩ (by simp only; omega)⟩
   · rw [wi]
     (repeat' first | exact VWs.nil | refine VWs.cons VW.undef ?_ | refine VWs.cons (VW.eq rfl) ?_)
   · simp only
     rw [sB_app, es3, ht, htk, List.flatMap_append, List.append_assoc]
     simp [holS]
   · simp only
     exact Nat.le_trans (szA zs3 hz) (by omega)
 have hie : i = p.hol.length := by omega
 subst hie
 rw [List.take_length] at es3
 have zsF : s3.size <= 40000 := by omega
 clear ih zs3 hi
 refine ⟨_, Weak.refl, ?_⟩
 conv=>whnf
 (repeat' first | (refine step_go [] ?_;conv=>whnf) | (refine two ?_ ?_<;>intro g<;>(try simp only[bsx]at g)<;>(conv=>whnf)) | (refine And.intro rfl ?_;conv=>whnf) | (refine dr_go (by decide +kernel) ?_;conv=>whnf) | fail)
 refine ⟨szL (n := 40000) (m := 2) zsF (by decide) (by decide), ?_⟩
 conv=>whnf
 obtain ⟨sF, hsF⟩ : ∃ s' : ByteArray, s' = s3 ++ ⟨#[125, 10]⟩ := ⟨_, rfl⟩
 have esF : sB sF = printS p := by
  rw [hsF, sB_app, es3, esD, esC, es2', esB, esA, es, es9, es8, es7, es6, es5, es4, es3a, es2, es1, eq4, eq3, eq2, eq1, eq0]
  unfold printS
  simp only [List.append_assoc]
  rfl
 have hlF : sF.size = (printS p).length := by rw [← esF, sB_len]
 rw [← hsF]
 (repeat' first | (refine step_go [] ?_;conv=>whnf) | (refine two ?_ ?_<;>intro g<;>(try simp only[bsx]at g)<;>(conv=>whnf)) | (refine And.intro rfl ?_;conv=>whnf) | (refine dr_go (by decide +kernel) ?_;conv=>whnf) | fail)
 · exact h1 CK (by omega)
 · exact h0 CK (by omega) sF esF
end P2

namespace CO1
open Go Go.Proofs VL D1 B10 C1 C2 C3 C4 C6 C8
def kt (t : C3.Tok) : Int × List Int := (t.kind, t.text)
def preL (a : List C3.Tok) : Lx -> Lx
 | .ok l => .ok (a ++ l)
 | .bad p => .bad p
def LexTo (c : List Int) (ts : List (Int × List Int)) : Prop := ∀ f rest i, ∃ toks : List C3.Tok, toks.map kt = ts /\ lexF (f + ts.length) (c ++ rest) i = preL toks (lexF f rest (i + c.length))
theorem preL_app (a b : List C3.Tok) (x : Lx) : preL a (preL b x) = preL (a ++ b) x := by cases x <;> simp [preL]
theorem LexTo.app {c1 c2 : List Int} {t1 t2 : List (Int × List Int)} (h1 : LexTo c1 t1) (h2 : LexTo c2 t2) : LexTo (c1 ++ c2) (t1 ++ t2) := by
 intro f rest i
 obtain ⟨k1, e1, g1⟩ := h1 (f + t2.length) (c2 ++ rest) i
 obtain ⟨k2, e2, g2⟩ := h2 f rest (i + c1.length)
 refine ⟨k1 ++ k2, by rw [List.map_append, e1, e2], ?_⟩
 rw [List.append_assoc, List.length_append, show f + (t1.length + t2.length) = f + t2.length + t1.length by omega, g1, g2, preL_app, List.length_append, Nat.add_assoc]
theorem LexTo.nil : LexTo [] [] := fun f rest i => ⟨[], rfl, by
 show lexF f rest i = preL [] (lexF f rest i)
 cases lexF f rest i <;> rfl⟩
theorem tw3 (l : List Int) : l.takeWhile (goesB 3) = [] /\ l.dropWhile (goesB 3) = l := by
 cases l with
 | nil => exact ⟨rfl, rfl⟩
 | cons x r => exact ⟨rfl, rfl⟩
theorem lex_sign (c : Int) (hc : c = 123 \/ c = 125 \/ c = 59) : LexTo [c] [(3, [c])] := by
 intro f rest i
 refine ⟨[⟨3, i, [c]⟩], rfl, ?_⟩
 have hs : skipN false (c :: rest) = 0 := by rcases hc with rfl | rfl | rfl <;> rfl
 show lexF (f + 1) (c :: rest) i = preL _ (lexF f rest (i + 1))
 rw [C8.lexF_step, hs, List.drop_zero]
 simp only
 rw [kind3 rest hc]
 simp only
 rw [(tw3 rest).1, (tw3 rest).2]
 show Lx.cons _ (lexF f rest (i + 1)) = _
 cases lexF f rest (i + 1) <;> rfl
theorem lexF_blank (f : Nat) (l : List Int) (i : Nat) : lexF (f + 1) (32 :: l) i = lexF (f + 1) l (i + 1) := by
 have hs : skipN false (32 :: l) = 1 + skipN false l := by
  show (if (32 : Int) = 10 then _ else if (32 : Int) = 35 then _ else if false = false /\ (32 : Int) ≠ 32 /\ (32 : Int) ≠ 9 then 0 else 1 + skipN false l) = _
  rw [if_neg (by decide), if_neg (by decide), if_neg (by decide)]
 unfold lexF
 rw [hs, show (1 : Nat) + skipN false l = skipN false l + 1 by omega, List.drop_succ_cons]
 have e : i + (skipN false l + 1) = i + 1 + skipN false l := by omega
 rw [e]
def okTok : Int × List Int -> Bool
 | (k, c :: w) => (decide (k = 1) && letB c && w.all wordB) || (decide (k = 2) && digB c && w.all numB)
 | _ => false
theorem lex_tok {k : Int} {a : List Int} (h : okTok (k, a) = true) (x : Int) (hx : x = 32 \/ x = 59) (f : Nat) (rest : List Int) (i : Nat) : lexF (f + 1) (a ++ x :: rest) i = preL [⟨k, i, a⟩] (lexF f (x :: rest) (i + a.length)) := by
 cases a with
 | nil => cases h
 | cons c w =>
   have hgo : goesB k x = false /\ (∀ y ∈ w, goesB k y = true) /\ skipN false (c :: (w ++ x :: rest)) = 0 /\ kindS c (w ++ x :: rest) = some k := by
    simp only [okTok, Bool.or_eq_true, Bool.and_eq_true, decide_eq_true_eq, List.all_eq_true] at h
    have hsk : ∀ r, (c ≠ 10 /\ c ≠ 35 /\ c ≠ 32 /\ c ≠ 9) -> skipN false (c :: r) = 0 := fun r hc => by
     show (if c = 10 then _ else if c = 35 then _ else if false = false /\ c ≠ 32 /\ c ≠ 9 then 0 else _) = _
     rw [if_neg hc.1, if_neg hc.2.1, if_pos ⟨rfl, hc.2.2.1, hc.2.2.2⟩]
    rcases h with ⟨⟨rfl, hl⟩, hw⟩ | ⟨⟨rfl, hl⟩, hw⟩
    · have hl2 := (letB_iff c).1 hl
      exact ⟨by rcases hx with rfl | rfl <;> rfl, fun y hy => hw y hy, hsk _ (by omega), kind1 _ hl2⟩
    · have hl2 := (digB_iff c).1 hl
      exact ⟨by rcases hx with rfl | rfl <;> rfl, fun y hy => hw y hy, hsk _ (by omega), kind2 _ (by omega) (.inl hl2)⟩
   obtain ⟨g1, g2, g3, g4⟩ := hgo
   have t1 : (w ++ x :: rest).takeWhile (goesB k) = w := by
    rw [List.takeWhile_append_of_pos g2, List.takeWhile_cons, g1]; simp
   have t2 : (w ++ x :: rest).dropWhile (goesB k) = x :: rest := by
    rw [List.dropWhile_append_of_pos g2, List.dropWhile_cons, g1]; simp
   show lexF (f + 1) (c :: (w ++ x :: rest)) i = _
   rw [C8.lexF_step, g3, List.drop_zero]
   simp only
   rw [g4]
   simp only
   rw [t1, t2]
   show Lx.cons _ (lexF f (x :: rest) (i + 0 + 1 + w.length)) = _
   rw [show i + 0 + 1 + w.length = i + (c :: w).length by rw [List.length_cons]; omega]
   cases lexF f (x :: rest) (i + (c :: w).length) <;> rfl
def txt : List (Int × List Int) -> List Int
 | [] => [59]
 | [(_, a)] => a ++ [59]
 | (_, a) :: t :: r => a ++ 32 :: txt (t :: r)
theorem lex_txt : ∀ (ts : List (Int × List Int)), (∀ t ∈ ts, okTok t = true) -> LexTo (txt ts) (ts ++ [(3, [59])])
 | [], _ => lex_sign 59 (by decide)
 | [(k, a)], h => by
   intro f rest i
   obtain ⟨k1, e1, g1⟩ := lex_sign 59 (by decide) f rest (i + a.length)
   refine ⟨⟨k, i, a⟩ :: k1, by rw [List.map_cons, e1]; rfl, ?_⟩
   show lexF (f + 1 + 1) ((a ++ [59]) ++ rest) i = _
   rw [List.append_assoc]
   show lexF (f + 1 + 1) (a ++ 59 :: rest) i = _
   rw [lex_tok (h (k, a) (.head _)) 59 (by decide)]
   have g1 : lexF (f + 1) (59 :: rest) (i + a.length) = _ := g1
   rw [g1, preL_app]
   show preL _ (lexF f rest (i + a.length + 1)) = preL _ (lexF f rest (i + (txt [(k, a)]).length))
   rw [show (txt [(k, a)]).length = a.length + 1 by simp [txt], Nat.add_assoc]; rfl
 | (k, a) :: t :: r, h => by
  intro f rest i
  obtain ⟨k1, e1, g1⟩ := lex_txt (t :: r) (fun t ht => h t (.tail _ ht)) f rest (i + a.length + 1)
  refine ⟨⟨k, i, a⟩ :: k1, by rw [List.map_cons, e1]; rfl, ?_⟩
  show lexF (f + ((t :: r ++ [(3, [59])]).length + 1)) ((a ++ 32 :: txt (t :: r)) ++ rest) i = _
  rw [List.append_assoc]
  show lexF (f + (t :: r ++ [(3, [59])]).length + 1) (a ++ 32 :: (txt (t :: r) ++ rest)) i = _
  rw [lex_tok (h (k, a) (.head _)) 32 (by decide)]
  obtain ⟨m, hm⟩ : ∃ m, f + (t :: r ++ [(3, [59])]).length = m + 1 := ⟨f + (r ++ [(3, [59])]).length, by simp; omega⟩
  rw [hm, lexF_blank, ← hm, g1, preL_app]
  show preL _ (lexF f rest (i + a.length + 1 + (txt (t :: r)).length)) = preL _ (lexF f rest (i + (a ++ 32 :: txt (t :: r)).length))
  rw [show (a ++ 32 :: txt (t :: r)).length = a.length + 1 + (txt (t :: r)).length by simp; omega]
  rw [show i + (a.length + 1 + (txt (t :: r)).length) = i + a.length + 1 + (txt (t :: r)).length by omega]; rfl
end CO1

namespace PS1
open Go Go.Proofs VL D1 D2 B8 C19 B10 B12 B13 B14 B20 BB4 BB5 BB6 BB7 BB8 BB9 BB10 BB14 C1 C2 C3 C4 C6 C15 C18 C20 C22 C28 C28b C28d CO1 P1 P2
noncomputable def cls (p : Prod) : List (List (Int × List Int)) :=
 [[(1, w_count), (1, countW p.count)], [(1, w_round), (1, roundW p.rnd)], [(1, w_kind), (1, kindW p.kind)], [(1, w_every), (2, dg p.every.toNat)], [(1, w_times), (2, dg p.times.toNat)], [(1, w_grace), (2, dg p.grace.toNat)],
  [(1, w_rate), (2, rateS p.rate)], [(1, w_penalty), (2, rateS p.pen)]]
 ++ p.resets.map (fun r => [(1, w_reset), (2, dg r.aft.toNat), (2, rateS r.rate)])
 ++ [[(1, w_order), (1, payW p.o1), (1, payW p.o2), (1, payW p.o3), (1, payW p.o4)], [(1, w_over), (1, overW p.over)]]
 ++ p.late.map (fun r => [(1, w_late), (2, dg r.days.toNat), (2, moneyS r.fee)])
 ++ [[(1, w_cap), (2, moneyS p.cap)], [(1, w_roll), (1, rollW p.roll)]]
 ++ p.hol.map (fun n => [(1, w_holiday), (2, dateT n)])
def clT (ts : List (Int × List Int)) : List Int := [32, 32] ++ txt ts ++ [10]
theorem flat_map {α β : Type} (f : α -> β) (g : β -> List Int) : ∀ l : List α, (l.map f).flatMap g = l.flatMap (fun x => g (f x))
 | [] => rfl
 | x :: l => by rw [List.map_cons, List.flatMap_cons, List.flatMap_cons, flat_map f g l]
theorem printS_eq (p : Prod) : printS p = w_product ++ [32] ++ sB p.name ++ [32, 123, 10] ++ (cls p).flatMap clT ++ [125, 10] := by
 unfold printS cls
 simp only [List.flatMap_append, flat_map, List.flatMap_cons, List.flatMap_nil]
 have h1 : ∀ (k j : Int) (a b : List Int), clT [(k, a), (j, b)] = lnS (a ++ [32] ++ b) := fun k j a b => by unfold lnS clT; simp [txt]
 have h2 : (fun r : Rs => clT [(1, w_reset), (2, dg r.aft.toNat), (2, rateS r.rate)]) = resetS := by funext r; unfold resetS lnS clT; simp [txt]
 have h3 : (fun r : Ti => clT [(1, w_late), (2, dg r.days.toNat), (2, moneyS r.fee)]) = lateS := by funext r; unfold lateS lnS clT; simp [txt]
 have h4 : (fun n : Int => clT [(1, w_holiday), (2, dateT n)]) = holS := by funext r; unfold holS lnS clT; simp [txt]
 have h5 : lnS (w_order ++ [32] ++ payW p.o1 ++ [32] ++ payW p.o2 ++ [32] ++ payW p.o3 ++ [32] ++ payW p.o4) = clT [(1, w_order), (1, payW p.o1), (1, payW p.o2), (1, payW p.o3), (1, payW p.o4)] := by unfold lnS clT; simp [txt]
 rw [h2, h3, h4, h5]
 simp only [h1, List.append_assoc, List.nil_append, List.append_nil]
theorem ok_num' {k : Int} {a : List Int} (hk : k = 2) (h0 : a ≠ []) (h1 : ∀ x, a.head? = some x -> Dig x) (h : ∀ x ∈ a, Dig x \/ x = 46 \/ x = 45 \/ x = 47 \/ x = 37) : okTok (2, a) = true := by
 cases a with
 | nil => exact absurd rfl h0
 | cons c w =>
   subst hk
   show ((decide ((2 : Int) = 1) && letB c && w.all wordB) || (decide ((2 : Int) = 2) && digB c && w.all numB)) = true
   rw [(digB_iff c).2 (h1 c rfl), List.all_eq_true.2 fun x hx => (numB_iff x).2 ?_]
   · rfl
   rcases h x (List.mem_cons_of_mem _ hx) with h | h
   · exact .inl ((digB_iff x).2 h)
   · exact .inr h
theorem ok_num {a : List Int} (h0 : a ≠ []) (h1 : ∀ x, a.head? = some x -> Dig x) (h : ∀ x ∈ a, Dig x \/ x = 46 \/ x = 45 \/ x = 47 \/ x = 37) : okTok (2, a) = true := ok_num' rfl h0 h1 h
theorem dg_ne0 (n : Nat) : dg n ≠ [] := by rw [dg]; split <;> simp
theorem ok_dg (n : Nat) : okTok (2, dg n) = true := ok_num (dg_ne0 n) (fun x hx => dg_dig n x (List.mem_of_mem_head? hx)) (fun x hx => .inl (dg_dig n x hx))
theorem head_app {a b : List Int} (h : a ≠ []) : (a ++ b).head? = a.head? := by
 cases a with
 | nil => exact absurd rfl h
 | cons c w => rfl
theorem trimZ_mem {l : List Int} {x : Int} (h : x ∈ trimZ l) : x ∈ l := by
 unfold trimZ at h
 have := List.mem_reverse.1 h
 exact List.mem_reverse.1 ((List.dropWhile_sublist _).subset this)
theorem ok_rate {v : Int} (h : 0 <= v) : okTok (2, rateS v) = true := by
 have e : rateS v = dg (v.natAbs / 10000000) ++ (fracS (v.natAbs % 10000000) ++ [37]) := by rw [rateS_eq]; unfold sgn; rw [if_neg (by omega)]; simp
 rw [e]
 refine ok_num (by simp [dg_ne0]) (fun x hx => ?_) fun x hx => ?_
 · rw [head_app (dg_ne0 _)] at hx; exact dg_dig _ x (List.mem_of_mem_head? hx)
 · rcases List.mem_append.1 hx with hx | hx
   · exact .inl (dg_dig _ x hx)
   rcases List.mem_append.1 hx with hx | hx
   · unfold fracS at hx
     split at hx
     · cases hx
     · rcases List.mem_cons.1 hx with rfl | hx
       · exact .inr (.inl rfl)
       · exact .inl (dgw_dig _ _ x (trimZ_mem hx))
   · simp at hx; subst hx; exact .inr (.inr (.inr (.inr rfl)))
theorem ok_money {v : Int} (h : 0 <= v) : okTok (2, moneyS v) = true := by
 have e : moneyS v = dg (v.natAbs / 100) ++ 46 :: dgw 2 (v.natAbs % 100) := by rw [moneyS_eq]; unfold sgn; rw [if_neg (by omega)]; simp
 rw [e]
 refine ok_num (by simp [dg_ne0]) (fun x hx => ?_) fun x hx => ?_
 · rw [head_app (dg_ne0 _)] at hx; exact dg_dig _ x (List.mem_of_mem_head? hx)
 · rcases List.mem_append.1 hx with hx | hx
   · exact .inl (dg_dig _ x hx)
   rcases List.mem_cons.1 hx with rfl | hx
   · exact .inr (.inl rfl)
   · exact .inl (dgw_dig _ _ x hx)
theorem dgw_ne {w : Nat} (h : 0 < w) (n : Nat) : dgw w n ≠ [] := by
 intro hh; have := dgw_len w n; rw [hh] at this; simp at this; omega
theorem ok_dts (y m d : Nat) : okTok (2, dtS y m d) = true := by
 unfold dtS
 refine ok_num (by simp) (fun x hx => ?_) fun x hx => ?_
 · rw [List.append_assoc, List.append_assoc, List.append_assoc, head_app (dgw_ne (by decide) _)] at hx; exact dgw_dig _ _ x (List.mem_of_mem_head? hx)
 · simp only [List.mem_append, List.mem_singleton] at hx
   rcases hx with (((hx | hx) | hx) | hx) | hx
   · exact .inl (dgw_dig _ _ x hx)
   · exact .inr (.inr (.inl hx))
   · exact .inl (dgw_dig _ _ x hx)
   · exact .inr (.inr (.inl hx))
   · exact .inl (dgw_dig _ _ x hx)
theorem date_ex {n : Int} (h0 : -25567 <= n) (h1 : n <= 84370) : ∃ y m d, IsDate n y m d := by
 have hy : ∀ k : Nat, n < BB4.opens (1900 + k) -> ∃ y : Nat, 1900 <= y /\ y < 1900 + k /\ BB4.opens y <= n /\ n < BB4.opens (y + 1) := by
  intro k
  induction k with
  | zero =>
    intro h
    exfalso
    have e : BB4.opens 1900 = -25567 := by decide
    rw [Nat.add_zero] at h
    omega
  | succ k ih =>
    intro h
    by_cases hh : n < BB4.opens (1900 + k)
    · obtain ⟨y, a, b, c⟩ := ih hh
      exact ⟨y, a, by omega, c⟩
    · exact ⟨1900 + k, by omega, by omega, by omega, h⟩
 have e301 : BB4.opens (1900 + 301) = 84371 := by decide
 obtain ⟨y, y0, y1, g0, g1⟩ := hy 301 (by omega)
 rw [year_len (by omega)] at g1
 have hm : ∀ k : Nat, k <= 12 -> n < BB4.opens y + cum y (k + 1) -> ∃ m : Nat, 1 <= m /\ m <= k /\ BB4.opens y + cum y m <= n /\ n < BB4.opens y + cum y (m + 1) := by
  intro k
  induction k with
  | zero =>
    intro _ h
    exfalso
    have e : cum y (0 + 1) = 0 := rfl
    rw [e] at h
    omega
  | succ k ih =>
    intro hk h
    by_cases hh : n < BB4.opens y + cum y (k + 1)
    · obtain ⟨m, a, b, c⟩ := ih (by omega) hh
      exact ⟨m, a, by omega, c⟩
    · exact ⟨k + 1, by omega, by omega, by omega, h⟩
 have e : cum y 13 = cum y 12 + mlen y 12 := rfl
 rw [mlen12] at e
 obtain ⟨m, m0, m1, a, b⟩ := hm 12 (by decide) (by rw [e]; omega)
 rw [cum_step m0] at b
 exact ⟨y, m, (n - BB4.opens y - cum y m + 1).toNat, by omega, by omega, m0, m1, a, by omega, by omega⟩
theorem ok_date {n : Int} (h0 : -25567 <= n) (h1 : n <= 84370) : okTok (2, dateT n) = true := by
 obtain ⟨y, m, d, h⟩ := date_ex h0 h1
 rw [dateT_in h]; exact ok_dts y m d
theorem take_date {n : Int} (h0 : -25567 <= n) (h1 : n <= 84370) : takeD (dateT n) = (n, 0) := by
 obtain ⟨y, m, d, h⟩ := date_ex h0 h1
 rw [dateT_in h]
 have hy := h.y1; have hm := h.m1; have hd := h.dle
 have l4 := dgw_len 4 y; have l2 := dgw_len 2 m; have l1 := dgw_len 2 d
 have e0 : dtS y m d = dgw 4 y ++ (45 :: (dgw 2 m ++ (45 :: dgw 2 d))) := by unfold dtS; simp
 have t1 : ((dtS y m d).take 4).drop 0 = dgw 4 y := by rw [e0, List.drop_zero]; exact List.take_left' l4
 have t2 : ((dtS y m d).take 7).drop 5 = dgw 2 m := by
  rw [List.drop_take, e0, List.drop_append, l4, List.drop_of_length_le (by omega)]
  exact List.take_left' l2
 have t3 : ((dtS y m d).take 10).drop 8 = dgw 2 d := by
  rw [List.take_of_length_le (by rw [dt_len]; omega), e0, List.drop_append, l4, List.drop_of_length_le (by omega)]
  show List.drop (8 - 4) (45 :: (dgw 2 m ++ 45 :: dgw 2 d)) = _
  rw [List.drop_succ_cons, List.drop_append, l2, List.drop_of_length_le (by omega)]
  rfl
 have hF : dateF (dtS y m d) := by
  refine ⟨⟨dt_len _ _ _, ?_, ?_⟩, ?_, ?_, ?_⟩
  · rw [e0, List.getElem?_append_right (by omega), l4]; rfl
  · rw [e0, List.getElem?_append_right (by omega), l4]
    show (45 :: (dgw 2 m ++ 45 :: dgw 2 d))[3]? = _
    rw [List.getElem?_cons_succ, List.getElem?_append_right (by omega), l2]; rfl
  · rw [t1]; exact dgw_dig _ _
  · rw [t2]; exact dgw_dig _ _
  · rw [t3]; exact dgw_dig _ _
 have hP : DateP y m d := ⟨⟨h.y0, hy⟩, ⟨h.m0, hm⟩, by have := h.d; have := h.lo; omega, by have := h.d; have := h.hi; omega⟩
 unfold takeD
 rw [if_pos hF, t1, t2, t3, vl_dgw, vl_dgw, vl_dgw, Nat.mod_eq_of_lt (by omega), Nat.mod_eq_of_lt (by omega), Nat.mod_eq_of_lt (by omega)]
 unfold numberD
 rw [if_pos hP]
 have := h.d
 congr 1
 omega
theorem ok_name' {k : Int} {l : List Int} (hk : k = 1) (h : nameP l) : okTok (k, l) = true := by
 obtain ⟨⟨h1, h2, h3, h4⟩, _⟩ := h
 cases l with
 | nil => simp at h1
 | cons c w =>
   subst hk
   show ((decide ((1 : Int) = 1) && letB c && w.all wordB) || (decide ((1 : Int) = 2) && digB c && w.all numB)) = true
   have e1 := (letB_iff c).2 (by have := h3 c rfl; unfold Small at this; omega)
   rw [e1, List.all_eq_true.2 fun x hx => (wordB_iff x).2 ?_]
   · rfl
   have := h4 x (List.mem_cons_of_mem _ hx)
   unfold Inner Small at this
   rcases this with h | h | h
   · exact .inl ((letB_iff x).2 (by omega))
   · exact .inr (.inl ((digB_iff x).2 h))
   · exact .inr (.inr h)
theorem ok_name {l : List Int} (h : nameP l) : okTok (1, l) = true := ok_name' rfl h
theorem ok_words (n : Int) : okTok (1, countW n) = true /\ okTok (1, roundW n) = true /\ okTok (1, kindW n) = true /\ okTok (1, payW n) = true /\ okTok (1, overW n) = true /\ okTok (1, rollW n) = true := by
 unfold countW roundW kindW payW overW rollW
 refine ⟨?_, ?_, ?_, ?_, ?_, ?_⟩ <;> repeat' split
 all_goals decide +kernel
theorem cls_ok {p : Prod} (h : checkP p) : ∀ ts ∈ cls p, (∀ t ∈ ts, okTok t = true) /\ ∃ w r, ts = (1, w) :: r := by
 obtain ⟨⟨⟨hname, hcount, hrnd, hkind⟩, hevery, hshape⟩, ⟨hrate, hpen, hrl, hres⟩, ⟨hord, hover⟩, ⟨hll, hcap, hlc, htie⟩, ⟨⟨hhl, hhol⟩, hroll, hrh⟩⟩ := h
 have two : ∀ (w a : List Int) (k : Int), okTok (1, w) = true -> okTok (k, a) = true -> (∀ t ∈ [(1, w), (k, a)], okTok t = true) /\ ∃ w' r, [((1 : Int), w), (k, a)] = (1, w') :: r := fun w a k h1 h2 => ⟨fun t ht => by
  rcases List.mem_cons.1 ht with rfl | ht
  · exact h1
  · rw [List.mem_singleton.1 ht]; exact h2, _, _, rfl⟩
 have three : ∀ (w a b : List Int) (k j : Int), okTok (1, w) = true -> okTok (k, a) = true -> okTok (j, b) = true -> (∀ t ∈ [(1, w), (k, a), (j, b)], okTok t = true) /\ ∃ w' r, [((1 : Int), w), (k, a), (j, b)] = (1, w') :: r := fun w a b k j h1 h2 h3 => ⟨fun t ht => by
  rcases List.mem_cons.1 ht with rfl | ht
  · exact h1
  · rcases List.mem_cons.1 ht with rfl | ht
    · exact h2
    · rw [List.mem_singleton.1 ht]; exact h3, _, _, rfl⟩
 intro ts ht
 unfold cls at ht
 simp only [List.mem_append, List.mem_cons, List.not_mem_nil, or_false, List.mem_map] at ht
 rcases ht with ((((ht | ht) | ht) | ht) | ht) | ht
 · rcases ht with rfl | rfl | rfl | rfl | rfl | rfl | rfl | rfl
   · exact two _ _ _ rfl (ok_words _).1
   · exact two _ _ _ rfl (ok_words _).2.1
   · exact two _ _ _ rfl (ok_words _).2.2.1
   · exact two _ _ _ rfl (ok_dg _)
   · exact two _ _ _ rfl (ok_dg _)
   · exact two _ _ _ rfl (ok_dg _)
   · exact two _ _ _ rfl (ok_rate hrate.1)
   · exact two _ _ _ rfl (ok_rate hpen.1)
 · obtain ⟨r, hr, rfl⟩ := ht
   have : ∀ {q : Option Rs} {l : List Rs}, resetsP p.times q l -> ∀ r ∈ l, 0 <= r.rate := fun {q l} => by
    induction l generalizing q with
    | nil => intro _ r hr; cases hr
    | cons x l ih =>
      intro h r hr
      rcases List.mem_cons.1 hr with rfl | hr
      · exact h.2.1.1
      · exact ih h.2.2.2 r hr
   exact three _ _ _ _ _ rfl (ok_dg _) (ok_rate (this hres r hr))
 · rcases ht with rfl | rfl
   · refine ⟨fun t ht => ?_, _, _, rfl⟩
     simp only [List.mem_cons, List.not_mem_nil, or_false] at ht
     rcases ht with rfl | rfl | rfl | rfl | rfl
     · rfl
     all_goals exact (ok_words _).2.2.2.1
   · exact two _ _ _ rfl (ok_words _).2.2.2.2.1
 · obtain ⟨r, hr, rfl⟩ := ht
   have : ∀ {q : Option Ti} {l : List Ti}, tiersP q l -> ∀ r ∈ l, 0 <= r.fee := fun {q l} => by
    induction l generalizing q with
    | nil => intro _ r hr; cases hr
    | cons x l ih =>
      intro h r hr
      rcases List.mem_cons.1 hr with rfl | hr
      · exact h.2.1.1
      · exact ih h.2.2.2 r hr
   exact three _ _ _ _ _ rfl (ok_dg _) (ok_money (this htie r hr))
 · rcases ht with rfl | rfl
   · exact two _ _ _ rfl (ok_money hcap.1)
   · exact two _ _ _ rfl (ok_words _).2.2.2.2.2
 · obtain ⟨r, hr, rfl⟩ := ht
   have := hol_in hhol r hr
   exact two _ _ _ rfl (ok_date this.1 this.2)
end PS1

namespace PS2
open Go Go.Proofs VL D1 D2 B8 C19 B10 B12 B13 B14 B20 BB4 BB5 BB6 BB7 BB8 BB9 BB10 BB14 C1 C2 C3 C4 C6 C15 C18 C20 C22 C28 C28b C28c C28d C29 CO1 P1 P2 PS1
theorem next1 {t : C3.Tok} {r : List C3.Tok} (h : t.kind ≠ 0) : nextT (t :: r) = (t, r) := if_neg h
theorem want1 {k : Int} {w : List Int} {t : C3.Tok} {r : List C3.Tok} (hk : k ≠ 0) (h : t.kind = k) (hw : w = [] \/ t.text = w) : wantS k w (t :: r) = .ok t r := by
 unfold wantS
 rw [next1 (by rw [h]; exact hk), if_pos ⟨h, hw⟩]
theorem pick1 {ws : List (List Int)} {x : List Int} {t : C3.Tok} {r : List C3.Tok} (h : kt t = (1, x)) (hx : x ∈ ws) : pickS ws (t :: r) = .ok ((ws.idxOf x + 1 : Nat) : Int) r := by
 have h1 : t.kind = 1 := congrArg Prod.fst h
 have h2 : t.text = x := congrArg Prod.snd h
 unfold pickS
 rw [want1 (by decide) h1 (.inl rfl)]
 show (if t.text ∈ ws then _ else _) = _
 rw [h2, if_pos hx]
theorem dg_zero {n : Nat} (h : 2 <= (dg n).length) : (dg n).head? ≠ some 48 := by
 induction n using Nat.strongRecOn with
 | ind n ih =>
   rw [dg] at h ⊢
   split
   · rename_i h9; rw [if_pos h9] at h; simp at h
   · rename_i h9
     by_cases hs : n / 10 < 10
     · rw [dg_small hs]
       intro hh
       have : (48 : Int) + ((n / 10 : Nat) : Int) = 48 := by simpa using hh
       omega
     · have hl : 2 <= (dg (n / 10)).length := by
        rw [dg, if_neg hs, List.length_append]
        have := dg_ne0 (n / 10 / 10)
        have : 0 < (dg (n / 10 / 10)).length := List.length_pos_iff.2 this
        simp; omega
       have := ih (n / 10) (by omega) hl
       rw [head_app (dg_ne0 _)]; exact this
theorem numS_dg {n : Nat} (h : n < 1000000000) : numS (dg n) = some (n : Int) := by
 unfold numS
 rw [if_pos ⟨dg_dig n, by have := dg_len_le 8 n (by omega); omega, dg_zero⟩, vl_dg]
theorem num1 {v : Int} {t : C3.Tok} {r : List C3.Tok} (h : kt t = (2, dg v.toNat)) (h0 : 0 <= v) (hv : v < 1000000000) : numberS (t :: r) = .ok v r := by
 have h1 : t.kind = 2 := congrArg Prod.fst h
 have h2 : t.text = dg v.toNat := congrArg Prod.snd h
 unfold numberS
 rw [want1 (by decide) h1 (.inl rfl)]
 show (match numS t.text with | some n => Res.ok n r | none => .err t.at_ 7) = _
 rw [h2, numS_dg (by omega)]
 show Res.ok ((v.toNat : Nat) : Int) r = _
 rw [Int.toNat_of_nonneg h0]
theorem taken1 {f : List Int -> Int × Int} {x : List Int} {v : Int} {t : C3.Tok} {r : List C3.Tok} (h : kt t = (2, x)) (hf : f x = (v, 0)) : takenS f (t :: r) = .ok v r := by
 have h1 : t.kind = 2 := congrArg Prod.fst h
 have h2 : t.text = x := congrArg Prod.snd h
 unfold takenS
 rw [want1 (by decide) h1 (.inl rfl)]
 show (if (f t.text).2 = 0 then Res.ok (f t.text).1 r else .err t.at_ 7) = _
 rw [h2, hf, if_pos rfl]
structure Ef where
 w : List Int
 a : List (Int × List Int)
 u : Prod -> Prod
def Ef.ok (e : Ef) : Prop := ∀ (p : Prod) (ts r : List C3.Tok), ts.map kt = e.a -> clauseS e.w p (ts ++ r) = some (.ok (e.u p) r)
theorem map_one {ts : List C3.Tok} {x : Int × List Int} (h : ts.map kt = [x]) : ∃ t, ts = [t] /\ kt t = x := by
 cases ts with
 | nil => simp at h
 | cons t r =>
   rw [List.map_cons] at h
   injection h with h1 h2
   exact ⟨t, by rw [List.map_eq_nil_iff.1 h2], h1⟩
theorem map_cons {ts : List C3.Tok} {x : Int × List Int} {l : List (Int × List Int)} (h : ts.map kt = x :: l) : ∃ t r, ts = t :: r /\ kt t = x /\ r.map kt = l := by
 cases ts with
 | nil => simp at h
 | cons t r =>
   rw [List.map_cons] at h
   injection h with h1 h2
   exact ⟨t, r, rfl, h1, h2⟩
theorem ef_pick {w x : List Int} {ws : List (List Int)} {u : Int -> Prod -> Prod} (hx : x ∈ ws) (hc : ∀ p l, clauseS w p l = some ((pickS ws l).bind fun k r => .ok (u k p) r)) : Ef.ok ⟨w, [(1, x)], u ((ws.idxOf x + 1 : Nat) : Int)⟩ := fun p ts r h => by
 obtain ⟨t, rfl, ht⟩ := map_one h
 rw [hc, List.singleton_append, pick1 ht hx]; rfl
theorem ef_num {w : List Int} {v : Int} {u : Int -> Prod -> Prod} (h0 : 0 <= v) (hv : v < 1000000000) (hc : ∀ p l, clauseS w p l = some ((numberS l).bind fun k r => .ok (u k p) r)) : Ef.ok ⟨w, [(2, dg v.toNat)], u v⟩ := fun p ts r h => by
 obtain ⟨t, rfl, ht⟩ := map_one h
 rw [hc, List.singleton_append, num1 ht h0 hv]; rfl
theorem ef_taken {w x : List Int} {f : List Int -> Int × Int} {v : Int} {u : Int -> Prod -> Prod} (hf : f x = (v, 0)) (hc : ∀ p l, clauseS w p l = some ((takenS f l).bind fun k r => .ok (u k p) r)) : Ef.ok ⟨w, [(2, x)], u v⟩ := fun p ts r h => by
 obtain ⟨t, rfl, ht⟩ := map_one h
 rw [hc, List.singleton_append, taken1 ht hf]; rfl
theorem ef_two {w x : List Int} {f : List Int -> Int × Int} {n v : Int} {u : Int -> Int -> Prod -> Prod} (h0 : 0 <= n) (hv : n < 1000000000) (hf : f x = (v, 0)) (hc : ∀ p l, clauseS w p l = some ((numberS l).bind fun k r => (takenS f r).bind fun v r => .ok (u k v p) r)) : Ef.ok ⟨w, [(2, dg n.toNat), (2, x)], u n v⟩ := fun p ts r h => by
 obtain ⟨t, ts, rfl, ht, h⟩ := map_cons h
 obtain ⟨s, rfl, hs⟩ := map_one h
 rw [hc]
 show some ((numberS (t :: ([s] ++ r))).bind _) = _
 rw [num1 ht h0 hv]
 show some ((takenS f (s :: r)).bind _) = _
 rw [taken1 hs hf]; rfl
theorem grp (d : Nat) (last : C3.Tok) (hl : kt last = (3, [125])) : ∀ (es : List Ef) (q : Prod) (sn : List (List Int)) (ts r : List C3.Tok) (f : Nat), (∀ e ∈ es, e.ok) -> ts.map kt = es.flatMap (fun e => (1, e.w) :: e.a ++ [(3, [59])]) -> es.length < f ->
 (∀ e ∈ es, manyW e.w = false -> e.w ∉ sn) -> es.Pairwise (fun a b => manyW b.w = false -> a.w ≠ b.w) -> groupS f d (ts ++ last :: r) q sn = .ok (es.foldl (fun q e => e.u q) q, (es.map Ef.w).reverse ++ sn) r
 | [], q, sn, ts, r, f, _, ht, hf, _, _ => by
   have ht : ts.map kt = [] := ht
   rw [List.map_eq_nil_iff.1 ht]
   obtain ⟨f, rfl⟩ : ∃ g, f = g + 1 := ⟨f - 1, by omega⟩
   have h1 : last.kind = 3 := congrArg Prod.fst hl
   have h2 : last.text = [125] := congrArg Prod.snd hl
   rw [group_step, List.nil_append, next1 (by rw [h1]; decide), if_pos ⟨h1, h2⟩]; rfl
 | e :: es, q, sn, ts, r, f, hok, ht, hf, hs, hp => by
   obtain ⟨f, rfl⟩ : ∃ g, f = g + 1 := ⟨f - 1, by omega⟩
   rw [List.flatMap_cons, List.append_assoc] at ht
   obtain ⟨t, ts, rfl, h1, ht⟩ := map_cons ht
   obtain ⟨ta, ts, rfl, ha, ht⟩ := List.map_eq_append_iff.1 ht
   obtain ⟨tb, ts, rfl, hb, ht⟩ := map_cons ht
   have k1 : t.kind = 1 := congrArg Prod.fst h1
   have x1 : t.text = e.w := congrArg Prod.snd h1
   have hcl : clauseS e.w q (ta ++ (tb :: (ts ++ last :: r))) = some (.ok (e.u q) (tb :: (ts ++ last :: r))) := hok e (.head _) q ta _ ha
   rw [group_step, List.cons_append, List.append_assoc, List.cons_append, next1 (by rw [k1]; decide)]
   simp only
   rw [k1, x1, if_neg (fun h => absurd h.1 (by decide)), if_neg (fun h => absurd h.1 (by decide)), if_neg (fun h => h rfl), hcl]
   simp only
   rw [if_neg (fun h => hs e (.head _) h.2 h.1)]
   show ((wantS 3 [59] (tb :: (ts ++ last :: r))).bind fun _ r' => groupS f d r' (e.u q) (e.w :: sn)) = _
   rw [want1 (by decide) (congrArg Prod.fst hb) (.inr (congrArg Prod.snd hb))]
   show groupS f d (ts ++ last :: r) (e.u q) (e.w :: sn) = _
   rw [List.pairwise_cons] at hp
   rw [grp d last hl es (e.u q) (e.w :: sn) ts r f (fun e' h' => hok e' (.tail _ h')) ht (by rw [List.length_cons] at hf; omega) (fun e' h' hm hc => by
    rcases List.mem_cons.1 hc with hc | hc
    · exact hp.1 e' h' hm hc.symm
    · exact hs e' (.tail _ h') hm hc) hp.2]
   simp
end PS2

namespace PS3
open Go Go.Proofs VL D1 D2 B8 C19 B10 B12 B13 B14 B20 BB4 BB5 BB6 BB7 BB8 BB9 BB10 BB14 C1 C2 C3 C4 C6 C15 C18 C20 C22 C28 C28b C28c C28d C29 CO1 P1 P2 PS1 PS2
theorem lexF_nl (f : Nat) (l : List Int) (i : Nat) : lexF (f + 1) (10 :: l) i = lexF (f + 1) l (i + 1) := by
 have hs : skipN false (10 :: l) = 1 + skipN false l := by
  show (if (10 : Int) = 10 then 1 + skipN false l else _) = _
  rw [if_pos rfl]
 unfold lexF
 rw [hs, show (1 : Nat) + skipN false l = skipN false l + 1 by omega, List.drop_succ_cons]
 have e : i + (skipN false l + 1) = i + 1 + skipN false l := by omega
 rw [e]
theorem lex_then {k : Int} {a c : List Int} {t : Int × List Int} {ts : List (Int × List Int)} (h : okTok (k, a) = true) (hc : LexTo c (t :: ts)) : LexTo (a ++ 32 :: c) ((k, a) :: t :: ts) := by
 intro f rest i
 obtain ⟨k1, e1, g1⟩ := hc f rest (i + a.length + 1)
 refine ⟨⟨k, i, a⟩ :: k1, by rw [List.map_cons, e1]; rfl, ?_⟩
 show lexF (f + (ts.length + 1) + 1) ((a ++ 32 :: c) ++ rest) i = _
 rw [List.append_assoc]
 show lexF (f + (ts.length + 1) + 1) (a ++ 32 :: (c ++ rest)) i = _
 rw [lex_tok h 32 (by decide), ← Nat.add_assoc, lexF_blank]
 have g1 : lexF (f + ts.length + 1) (c ++ rest) (i + a.length + 1) = _ := g1
 rw [g1, preL_app]
 rw [show i + a.length + 1 + c.length = i + (a ++ 32 :: c).length by simp; omega]; rfl
theorem lex_nl {c : List Int} {t : Int × List Int} {ts : List (Int × List Int)} (hc : LexTo c (t :: ts)) : LexTo (10 :: c) (t :: ts) := by
 intro f rest i
 obtain ⟨k1, e1, g1⟩ := hc f rest (i + 1)
 refine ⟨k1, e1, ?_⟩
 show lexF (f + ts.length + 1) (10 :: (c ++ rest)) i = _
 rw [lexF_nl]
 refine g1.trans ?_
 rw [show i + 1 + c.length = i + (10 :: c).length by simp; omega]
theorem lex_bl {c : List Int} {t : Int × List Int} {ts : List (Int × List Int)} (hc : LexTo c (t :: ts)) : LexTo (32 :: c) (t :: ts) := by
 intro f rest i
 obtain ⟨k1, e1, g1⟩ := hc f rest (i + 1)
 refine ⟨k1, e1, ?_⟩
 show lexF (f + ts.length + 1) (32 :: (c ++ rest)) i = _
 rw [lexF_blank]
 refine g1.trans ?_
 rw [show i + 1 + c.length = i + (32 :: c).length by simp; omega]
def clU (ts : List (Int × List Int)) : List Int := 10 :: 32 :: 32 :: txt ts
def clK (ts : List (Int × List Int)) : List (Int × List Int) := ts ++ [(3, [59])]
theorem lex_cls : ∀ (l : List (List (Int × List Int))), (∀ ts ∈ l, (∀ t ∈ ts, okTok t = true) /\ ∃ w r, ts = (1, w) :: r) -> LexTo (l.flatMap clU) (l.flatMap clK)
 | [], _ => LexTo.nil
 | ts :: l, h => by
   rw [List.flatMap_cons, List.flatMap_cons]
   refine LexTo.app ?_ (lex_cls l fun ts h' => h ts (.tail _ h'))
   obtain ⟨h1, w, r, rfl⟩ := h _ (.head _)
   exact lex_nl (lex_bl (lex_bl (lex_txt _ h1)))
theorem shift : ∀ l : List (List (Int × List Int)), 10 :: l.flatMap clT = l.flatMap clU ++ [10]
 | [] => rfl
 | ts :: l => by
   rw [List.flatMap_cons, List.flatMap_cons, List.append_assoc, ← shift l]
   unfold clT clU
   simp
noncomputable def hdS (p : Prod) : List Int := w_product ++ 32 :: (sB p.name ++ 32 :: [123])
def hdT (p : Prod) : List (Int × List Int) := [(1, w_product), (1, sB p.name), (3, [123])]
theorem print_seg (p : Prod) : printS p = (hdS p ++ (cls p).flatMap clU ++ (10 :: [125])) ++ [10] := by
 rw [printS_eq]
 have h := shift (cls p)
 have : w_product ++ [32] ++ sB p.name ++ [32, 123, 10] ++ (cls p).flatMap clT ++ [125, 10] = hdS p ++ (10 :: (cls p).flatMap clT) ++ [125, 10] := by unfold hdS; simp
 rw [this, h]
 simp
noncomputable def allK (p : Prod) : List (Int × List Int) := hdT p ++ (cls p).flatMap clK ++ [(3, [125])]
theorem lex_print {p : Prod} (h : checkP p) : LexTo (hdS p ++ (cls p).flatMap clU ++ (10 :: [125])) (allK p) :=
 ((lex_then (by decide) (lex_then (ok_name h.1.1.1) (lex_sign 123 (by decide)))).app (lex_cls _ (cls_ok h))).app (lex_nl (lex_sign 125 (by decide)))
theorem txt_len : ∀ ts : List (Int × List Int), (∀ t ∈ ts, okTok t = true) -> ts.length + 1 <= (txt ts).length
 | [], _ => by decide
 | [(k, a)], h => by
   have : a ≠ [] := by rintro rfl; exact absurd (h _ (.head _)) (by simp [okTok])
   have := List.length_pos_iff.2 this
   simp [txt]; omega
 | (k, a) :: t :: r, h => by
  have := txt_len (t :: r) fun t ht => h t (.tail _ ht)
  simp [txt] at this ⊢; omega
theorem flat_le {α : Type} {β : Type} {γ : Type} (f : α -> List β) (g : α -> List γ) : ∀ l : List α, (∀ x ∈ l, (f x).length <= (g x).length) -> (l.flatMap f).length <= (l.flatMap g).length
 | [], _ => Nat.le_refl _
 | x :: l, h => by
   have h1 := h x (.head _)
   have h2 := flat_le f g l fun y hy => h y (.tail _ hy)
   rw [List.flatMap_cons, List.flatMap_cons, List.length_append, List.length_append]; omega
theorem lexS_print {p : Prod} (h : checkP p) (hl : (printS p).length <= 20000) : ∃ toks : List C3.Tok, toks.map kt = allK p /\ ∃ n, lexS (printS p) = .ok (toks ++ [⟨0, n, []⟩]) := by
 have hf := flat_le clK clU (cls p) fun ts ht => by
  have := txt_len ts (cls_ok h ts ht).1
  unfold clK clU; simp; omega
 have hlen : (allK p).length <= (printS p).length := by
  rw [print_seg]
  unfold allK hdT hdS
  simp only [List.length_append, List.length_cons, List.length_nil]
  have : w_product.length = 7 := rfl
  omega
 obtain ⟨f, hfu⟩ : ∃ f, (printS p).length + 1 = f + 1 + (allK p).length := ⟨(printS p).length - (allK p).length, by omega⟩
 obtain ⟨toks, e, g1⟩ := lex_print h (f + 1) [10] 0
 have e2 : ∀ m, lexF (f + 1) [10] m = .ok [⟨0, m + 1, []⟩] := fun m => by rw [lexF_nl]; rfl
 rw [← print_seg, e2] at g1
 refine ⟨toks, e, 0 + (hdS p ++ (cls p).flatMap clU ++ (10 :: [125])).length + 1, ?_⟩
 unfold lexS
 rw [if_neg (by omega), hfu, g1]
 rfl
def rEf (r : Rs) : Ef := ⟨w_reset, [(2, dg r.aft.toNat), (2, rateS r.rate)], fun q => { q with resets := q.resets ++ [⟨r.aft, r.rate⟩] }⟩
def tEf (r : Ti) : Ef := ⟨w_late, [(2, dg r.days.toNat), (2, moneyS r.fee)], fun q => { q with late := q.late ++ [⟨r.days, r.fee⟩] }⟩
noncomputable def hEf (n : Int) : Ef := ⟨w_holiday, [(2, dateT n)], fun q => { q with hol := q.hol ++ [n] }⟩
def efA (p : Prod) : List Ef := [⟨w_count, [(1, countW p.count)], fun q => { q with count := p.count }⟩, ⟨w_round, [(1, roundW p.rnd)], fun q => { q with rnd := p.rnd }⟩, ⟨w_kind, [(1, kindW p.kind)], fun q => { q with kind := p.kind }⟩,
 ⟨w_every, [(2, dg p.every.toNat)], fun q => { q with every := p.every }⟩, ⟨w_times, [(2, dg p.times.toNat)], fun q => { q with times := p.times }⟩, ⟨w_grace, [(2, dg p.grace.toNat)], fun q => { q with grace := p.grace }⟩,
 ⟨w_rate, [(2, rateS p.rate)], fun q => { q with rate := p.rate }⟩, ⟨w_penalty, [(2, rateS p.pen)], fun q => { q with pen := p.pen }⟩]
def efB (p : Prod) : List Ef := [⟨w_order, [(1, payW p.o1), (1, payW p.o2), (1, payW p.o3), (1, payW p.o4)], fun q => { q with o1 := p.o1, o2 := p.o2, o3 := p.o3, o4 := p.o4 }⟩, ⟨w_over, [(1, overW p.over)], fun q => { q with over := p.over }⟩]
def efC (p : Prod) : List Ef := [⟨w_cap, [(2, moneyS p.cap)], fun q => { q with cap := p.cap }⟩, ⟨w_roll, [(1, rollW p.roll)], fun q => { q with roll := p.roll }⟩]
noncomputable def effs (p : Prod) : List Ef := efA p ++ p.resets.map rEf ++ efB p ++ p.late.map tEf ++ efC p ++ p.hol.map hEf
theorem cls_effs (p : Prod) : cls p = (effs p).map fun e => (1, e.w) :: e.a := by
 unfold cls effs
 simp only [List.map_append, List.map_map]
 rfl
theorem ef_order {a b c d : Int} (h : orderP a b c d) : Ef.ok ⟨w_order, [(1, payW a), (1, payW b), (1, payW c), (1, payW d)], fun q => { q with o1 := a, o2 := b, o3 := c, o4 := d }⟩ := fun p ts r ht => by
 obtain ⟨h1, h2, h3, h4, n1, n2, n3, n4, n5, n6⟩ := h
 obtain ⟨t1, ts, rfl, k1, ht⟩ := map_cons ht
 obtain ⟨t2, ts, rfl, k2, ht⟩ := map_cons ht
 obtain ⟨t3, ts, rfl, k3, ht⟩ := map_cons ht
 obtain ⟨t4, rfl, k4⟩ := map_one ht
 have hix : ∀ x : Int, 1 <= x /\ x <= 4 -> payW x ∈ owords /\ ((owords.idxOf (payW x) + 1 : Nat) : Int) = x := fun x hx => by
  have : x = 1 \/ x = 2 \/ x = 3 \/ x = 4 := by omega
  rcases this with rfl | rfl | rfl | rfl <;> exact ⟨by decide, by decide⟩
 have pk : ∀ (x : Int) (t : C3.Tok) (r : List C3.Tok), 1 <= x /\ x <= 4 -> kt t = (1, payW x) -> pickS owords (t :: r) = .ok x r := fun x t r hx hk => by rw [pick1 hk (hix x hx).1, (hix x hx).2]
 have st : ∀ (n : Nat) (acc : List Int) (x : Int) (t : C3.Tok) (r : List C3.Tok), 1 <= x /\ x <= 4 -> kt t = (1, payW x) -> x ∉ acc -> orderN (n + 1) acc (t :: r) = orderN n (acc ++ [x]) r := fun n acc x t r hx hk hn => by
  show (pickS owords (t :: r)).bind _ = _
  rw [pk x t r hx hk]
  show (if x ∈ acc then _ else _) = _
  rw [if_neg hn]
 show some ((orderN 4 [] (t1 :: t2 :: t3 :: ([t4] ++ r))).bind _) = _
 rw [st 3 [] a t1 _ h1 k1 (by simp), st 2 _ b t2 _ h2 k2 (by simp; omega), st 1 _ c t3 _ h3 k3 (by simp; omega), List.singleton_append, st 0 _ d t4 _ h4 k4 (by simp; omega)]
 rfl
theorem effs_ok {p : Prod} (h : checkP p) : ∀ e ∈ effs p, e.ok := by
 obtain ⟨⟨⟨hname, hcount, hrnd, hkind⟩, hevery, hshape⟩, ⟨hrate, hpen, hrl, hres⟩, ⟨hord, hover⟩, ⟨hll, hcap, hlc, htie⟩, ⟨⟨hhl, hhol⟩, hroll, hrh⟩⟩ := h
 have hev : 0 <= p.every /\ p.every < 1000000000 := by unfold shape2 at hevery; omega
 have hti : 0 <= p.times /\ p.times < 1000000000 := by unfold shape3 at hshape; omega
 have hgr : 0 <= p.grace /\ p.grace < 1000000000 := by unfold shape3 at hshape; omega
 have ht6 : p.times <= 600 := by unfold shape3 at hshape; omega
 have tr : ∀ v : Int, 0 <= v /\ v <= 1000000000 -> takeR (rateS v) = (v, 0) := fun v hv => by rw [take_rate (by unfold I64; omega), if_pos (by omega)]
 have tm : ∀ v : Int, 0 <= v /\ v <= 10000000000000 -> takeM (moneyS v) = (v, 0) := fun v hv => by rw [take_money (by unfold I64; omega), if_pos (by omega)]
 intro e he
 unfold effs at he
 simp only [List.mem_append, List.mem_map] at he
 rcases he with ((((he | ⟨r, hr, rfl⟩) | he) | ⟨r, hr, rfl⟩) | he) | ⟨r, hr, rfl⟩
 · unfold efA at he
   simp only [List.mem_cons, List.not_mem_nil, or_false] at he
   rcases he with rfl | rfl | rfl | rfl | rfl | rfl | rfl | rfl
   · have : p.count = 1 \/ p.count = 2 \/ p.count = 3 := by omega
     rcases this with e | e | e <;> rw [e] <;> exact ef_pick (ws := [w_thirty, w_fixed, w_actual]) (u := fun k q => { q with count := k }) (by decide) fun _ _ => rfl
   · rcases hrnd with e | e <;> rw [e] <;> exact ef_pick (ws := [w_half_up, w_down]) (u := fun k q => { q with rnd := if k = 1 then 1 else 3 }) (by decide) fun _ _ => rfl
   · have : p.kind = 1 \/ p.kind = 2 \/ p.kind = 3 := by omega
     rcases this with e | e | e <;> rw [e] <;> exact ef_pick (ws := [w_annuity, w_equal, w_bullet]) (u := fun k q => { q with kind := k }) (by decide) fun _ _ => rfl
   · exact ef_num (u := fun k q => { q with every := k }) hev.1 hev.2 fun _ _ => rfl
   · exact ef_num (u := fun k q => { q with times := k }) hti.1 hti.2 fun _ _ => rfl
   · exact ef_num (u := fun k q => { q with grace := k }) hgr.1 hgr.2 fun _ _ => rfl
   · exact ef_taken (u := fun k q => { q with rate := k }) (tr _ hrate) fun _ _ => rfl
   · exact ef_taken (u := fun k q => { q with pen := k }) (tr _ hpen) fun _ _ => rfl
 · have h1 := res_in hres r hr
   have h2 : ∀ {q : Option Rs} {l : List Rs}, resetsP p.times q l -> ∀ r ∈ l, 0 <= r.rate /\ r.rate <= 1000000000 := fun {q l} => by
    induction l generalizing q with
    | nil => intro _ r hr; cases hr
    | cons x l ih =>
      intro h r hr
      rcases List.mem_cons.1 hr with rfl | hr
      · exact h.2.1
      · exact ih h.2.2.2 r hr
   exact ef_two (u := fun k v q => { q with resets := q.resets ++ [⟨k, v⟩] }) (by omega) (by omega) (tr _ (h2 hres r hr)) fun _ _ => rfl
 · unfold efB at he
   simp only [List.mem_cons, List.not_mem_nil, or_false] at he
   rcases he with rfl | rfl
   · exact ef_order hord
   · have : p.over = 1 \/ p.over = 2 \/ p.over = 3 := by omega
     rcases this with e | e | e <;> rw [e] <;> exact ef_pick (ws := [w_hold, w_prepay, w_refund]) (u := fun k q => { q with over := k }) (by decide) fun _ _ => rfl
 · have h1 := tier_in htie r hr
   have h2 : ∀ {q : Option Ti} {l : List Ti}, tiersP q l -> ∀ r ∈ l, 0 <= r.fee /\ r.fee <= 10000000000000 := fun {q l} => by
    induction l generalizing q with
    | nil => intro _ r hr; cases hr
    | cons x l ih =>
      intro h r hr
      rcases List.mem_cons.1 hr with rfl | hr
      · exact h.2.1
      · exact ih h.2.2.2 r hr
   exact ef_two (u := fun k v q => { q with late := q.late ++ [⟨k, v⟩] }) (by omega) (by omega) (tm _ (h2 htie r hr)) fun _ _ => rfl
 · unfold efC at he
   simp only [List.mem_cons, List.not_mem_nil, or_false] at he
   rcases he with rfl | rfl
   · exact ef_taken (u := fun k q => { q with cap := k }) (tm _ hcap) fun _ _ => rfl
   · have : p.roll = 1 \/ p.roll = 2 \/ p.roll = 3 \/ p.roll = 4 := by omega
     rcases this with e | e | e | e <;> rw [e] <;> exact ef_pick (ws := [w_stay, w_next, w_within, w_previous]) (u := fun k q => { q with roll := k }) (by decide) fun _ _ => rfl
 · have h1 := hol_in hhol r hr
   exact ef_taken (u := fun k q => { q with hol := q.hol ++ [k] }) (take_date h1.1 h1.2) fun _ _ => rfl
end PS3

namespace PS4
open Go Go.Proofs VL D1 D2 B8 C19 B10 B12 B13 B14 B20 BB4 BB5 BB6 BB7 BB8 BB9 BB10 BB14 C1 C2 C3 C4 C6 C15 C18 C20 C22 C28 C28b C28c C28d C29 CO1 P1 P2 PS1 PS2 PS3
theorem fold_r : ∀ (l : List Rs) (q : Prod), (l.map rEf).foldl (fun q e => e.u q) q = { q with resets := q.resets ++ l }
 | [], q => by simp
 | r :: l, q => by rw [List.map_cons, List.foldl_cons, fold_r l]; simp [rEf]
theorem fold_t : ∀ (l : List Ti) (q : Prod), (l.map tEf).foldl (fun q e => e.u q) q = { q with late := q.late ++ l }
 | [], q => by simp
 | r :: l, q => by rw [List.map_cons, List.foldl_cons, fold_t l]; simp [tEf]
theorem fold_h : ∀ (l : List Int) (q : Prod), (l.map hEf).foldl (fun q e => e.u q) q = { q with hol := q.hol ++ l }
 | [], q => by simp
 | r :: l, q => by rw [List.map_cons, List.foldl_cons, fold_h l]; simp [hEf]
theorem fold_effs (p : Prod) : (effs p).foldl (fun q e => e.u q) { prod0 with name := p.name, over := 1, roll := 1 } = p := by
 unfold effs
 rw [List.foldl_append, List.foldl_append, List.foldl_append, List.foldl_append, List.foldl_append, fold_h, fold_t, fold_r]
 rfl
theorem pw_words (p : Prod) : ((effs p).map Ef.w).Pairwise (fun a b => manyW b = false -> a ≠ b) := by
 have hr : (p.resets.map rEf).map Ef.w = List.replicate p.resets.length w_reset := by rw [List.map_map]; exact List.map_const' ..
 have ht : (p.late.map tEf).map Ef.w = List.replicate p.late.length w_late := by rw [List.map_map]; exact List.map_const' ..
 have hh : (p.hol.map hEf).map Ef.w = List.replicate p.hol.length w_holiday := by rw [List.map_map]; exact List.map_const' ..
 have hA : (efA p).map Ef.w = [w_count, w_round, w_kind, w_every, w_times, w_grace, w_rate, w_penalty] := rfl
 have hB : (efB p).map Ef.w = [w_order, w_over] := rfl
 have hC : (efC p).map Ef.w = [w_cap, w_roll] := rfl
 have rp : ∀ (n : Nat) (w : List Int), manyW w = true -> (List.replicate n w).Pairwise (fun a b => manyW b = false -> a ≠ b) := fun n w hw => List.pairwise_replicate.2 (.inr fun h => by rw [hw] at h; cases h)
 unfold effs
 simp only [List.map_append, hr, ht, hh, hA, hB, hC]
 have key : ∀ (X Y : List (List Int)), X.Pairwise (fun a b => manyW b = false -> a ≠ b) -> Y.Pairwise (fun a b => manyW b = false -> a ≠ b) -> (∀ a ∈ X, ∀ b ∈ Y, manyW b = false -> a ≠ b) -> (X ++ Y).Pairwise (fun a b => manyW b = false -> a ≠ b) := fun X Y h1 h2 h3 => List.pairwise_append.2 ⟨h1, h2, h3⟩
 have many : ∀ (X : List (List Int)) (n : Nat) (w : List Int), manyW w = true -> ∀ a ∈ X, ∀ b ∈ List.replicate n w, manyW b = false -> a ≠ b := fun X n w hw a _ b hb h => by rw [(List.mem_replicate.1 hb).2, hw] at h; cases h
 refine key _ _ (key _ _ (key _ _ (key _ _ (key _ _ (by decide) (rp _ _ rfl) (many _ _ _ rfl)) (by decide) ?_) (rp _ _ rfl) (many _ _ _ rfl)) (by decide) ?_) (rp _ _ rfl) (many _ _ _ rfl)
 · intro a ha b hb
   rcases List.mem_append.1 ha with h1 | h1 <;> clear ha
   · revert a; revert b; decide
   · rw [(List.mem_replicate.1 h1).2]; clear h1; revert b; decide
 · intro a ha b hb
   rcases List.mem_append.1 ha with h1 | h1 <;> clear ha
   · rcases List.mem_append.1 h1 with h2 | h2 <;> clear h1
     · rcases List.mem_append.1 h2 with h1 | h1 <;> clear h2
       · revert a; revert b; decide
       · rw [(List.mem_replicate.1 h1).2]; clear h1; revert b; decide
     · revert a; revert b; decide
   · rw [(List.mem_replicate.1 h1).2]; clear h1; revert b; decide
theorem whole_effs (p : Prod) : wholeP (((effs p).map Ef.w).reverse ++ []) := by
 have hm : ∀ w ∈ [w_count, w_round, w_kind, w_every, w_times, w_rate, w_order], w ∈ ((effs p).map Ef.w).reverse ++ [] := fun w hw => by
  rw [List.append_nil, List.mem_reverse]
  unfold effs
  simp only [List.map_append, List.mem_append]
  have : w ∈ (efA p).map Ef.w \/ w ∈ (efB p).map Ef.w := by
   have hA : (efA p).map Ef.w = [w_count, w_round, w_kind, w_every, w_times, w_grace, w_rate, w_penalty] := rfl
   have hB : (efB p).map Ef.w = [w_order, w_over] := rfl
   rw [hA, hB]; revert w; decide
  rcases this with h | h
  · exact .inl (.inl (.inl (.inl (.inl h))))
  · exact .inl (.inl (.inl (.inr h)))
 exact ⟨hm _ (by decide), hm _ (by decide), hm _ (by decide), hm _ (by decide), hm _ (by decide), hm _ (by decide), hm _ (by decide)⟩
open Classical in
theorem parse_print {p : Prod} (h : checkP p) (hl : (printS p).length <= 20000) : parseS (printS p) = (p, 0, 0) := by
 obtain ⟨toks, e, n, hlex⟩ := lexS_print h hl
 have htext : textP (toks ++ [⟨0, n, []⟩]) = .ok (p, ((effs p).map Ef.w).reverse ++ []) [⟨0, n, []⟩] := by
  unfold allK hdT at e
  rw [List.append_assoc] at e
  obtain ⟨t1, ts, rfl, k1, e⟩ := map_cons e
  obtain ⟨t2, ts, rfl, k2, e⟩ := map_cons e
  obtain ⟨t3, ts, rfl, k3, e⟩ := map_cons e
  have e : ts.map kt = (cls p).flatMap clK ++ [(3, [125])] := e
  obtain ⟨tb, tl, rfl, hb, e⟩ := List.map_eq_append_iff.1 e
  obtain ⟨last, rfl, kl⟩ := map_one e
  have hb2 : tb.map kt = (effs p).flatMap (fun e => (1, e.w) :: e.a ++ [(3, [59])]) := by rw [hb, cls_effs, List.flatMap_map]; rfl
  have x2 : t2.text = sB p.name := congrArg Prod.snd k2
  unfold textP
  show (wantS 1 w_product (t1 :: t2 :: t3 :: (tb ++ [last] ++ [⟨0, n, []⟩]))).bind _ = _
  rw [want1 (by decide) (congrArg Prod.fst k1) (.inr (congrArg Prod.snd k1))]
  show (wantS 1 [] (t2 :: t3 :: (tb ++ [last] ++ [⟨0, n, []⟩]))).bind _ = _
  rw [want1 (k := 1) (by decide) (congrArg Prod.fst k2) (.inl rfl)]
  show (if nameP t2.text then _ else _) = _
  rw [x2, if_pos h.1.1.1, want1 (by decide) (congrArg Prod.fst k3) (.inr (congrArg Prod.snd k3))]
  show (groupS ((tb ++ [last] ++ [(⟨0, n, []⟩ : C3.Tok)]).length + 1) 1 (tb ++ [last] ++ [(⟨0, n, []⟩ : C3.Tok)]) _ []).bind _ = _
  rw [List.append_assoc]
  have hle : (effs p).length < (tb ++ ([last] ++ [(⟨0, n, []⟩ : C3.Tok)])).length + 1 := by
   have h1 : tb.length = ((effs p).flatMap (fun e => (1, e.w) :: e.a ++ [(3, [59])])).length := by rw [← hb2, List.length_map]
   have h2 := flat_le (fun e : Ef => [e]) (fun e => (1, e.w) :: e.a ++ [((3 : Int), ([59] : List Int))]) (effs p) (fun e _ => by simp)
   rw [show (effs p).flatMap (fun e => [e]) = effs p by induction effs p with | nil => rfl | cons x l ih => rw [List.flatMap_cons, ih]; rfl] at h2
   rw [List.length_append]; omega
  have hg := grp 1 last kl (effs p) { prod0 with name := toBA (sB p.name), over := 1, roll := 1 } [] tb [⟨0, n, []⟩] _ (effs_ok h) hb2 hle (fun e _ _ hc => by cases hc) (List.pairwise_map.1 (pw_words p))
  rw [toBA_sB] at hg ⊢
  rw [fold_effs] at hg
  exact (congrArg (fun x => Res.bind x _) hg).trans rfl
 unfold parseS
 rw [hlex]
 simp only
 rw [htext]
 simp only
 rw [if_pos ⟨whole_effs p, h⟩]
theorem ln_len (s : List Int) : (lnS s).length = s.length + 4 := by unfold lnS; simp
theorem flat_bound {α : Type} (f : α -> List Int) (n : Nat) : ∀ l : List α, (∀ x ∈ l, (f x).length <= n) -> (l.flatMap f).length <= n * l.length
 | [], _ => Nat.zero_le _
 | x :: l, h => by
   have h1 := h x (.head _)
   have h2 := flat_bound f n l fun y hy => h y (.tail _ hy)
   rw [List.flatMap_cons, List.length_append, List.length_cons, Nat.mul_succ]; omega
theorem print_len {p : Prod} (h : checkP p) : (printS p).length <= 20000 := by
 obtain ⟨⟨⟨hname, hcount, hrnd, hkind⟩, hevery, hshape⟩, ⟨hrate, hpen, hrl, hres⟩, ⟨hord, hover⟩, ⟨hll, hcap, hlc, htie⟩, ⟨⟨hhl, hhol⟩, hroll, hrh⟩⟩ := h
 have hn : ∀ v : Int, v < 1000000 -> (dg v.toNat).length <= 20 := fun v hv => by have := (dg_le v hv).1; rw [toBA_size] at this; exact this
 have hev : p.every < 1000000 := by unfold shape2 at hevery; omega
 have hti : p.times < 1000000 := by unfold shape3 at hshape; omega
 have hgr : p.grace < 1000000 := by unfold shape3 at hshape; omega
 have hw : ∀ n, (countW n).length <= 10 /\ (roundW n).length <= 10 /\ (kindW n).length <= 10 /\ (overW n).length <= 10 /\ (rollW n).length <= 10 /\ (payW n).length <= 10 := fun n => by
  have h1 := (countW_b n).2; have h2 := (roundW_b n).2; have h3 := (kindW_b n).2; have h4 := (overW_b n).2; have h5 := (rollW_b n).2; have h6 := (payW_b n).2
  rw [toBA_size] at h1 h2 h3 h4 h5 h6
  exact ⟨h1, h2, h3, h4, h5, h6⟩
 have r1 := flat_bound resetS 80 p.resets fun r hr => by
  have h1 := res_in hres r hr
  have h2 := hn r.aft (by omega)
  have h3 : (rateS r.rate).length <= 40 := by
   have : ∀ {q : Option Rs} {l : List Rs}, resetsP p.times q l -> ∀ r ∈ l, 0 <= r.rate /\ r.rate <= 1000000000 := fun {q l} => by
    induction l generalizing q with
    | nil => intro _ r hr; cases hr
    | cons x l ih =>
      intro h r hr
      rcases List.mem_cons.1 hr with rfl | hr
      · exact h.2.1
      · exact ih h.2.2.2 r hr
   have := this hres r hr
   exact rateS_len (by unfold I64; omega)
  unfold resetS
  rw [ln_len]; simp only [List.length_append, List.length_cons, List.length_nil]
  have : w_reset.length = 5 := rfl
  omega
 have r2 := flat_bound lateS 80 p.late fun r hr => by
  have h1 := tier_in htie r hr
  have h2 := hn r.days (by omega)
  have h3 : (moneyS r.fee).length <= 30 := by
   have : ∀ {q : Option Ti} {l : List Ti}, tiersP q l -> ∀ r ∈ l, 0 <= r.fee /\ r.fee <= 10000000000000 := fun {q l} => by
    induction l generalizing q with
    | nil => intro _ r hr; cases hr
    | cons x l ih =>
      intro h r hr
      rcases List.mem_cons.1 hr with rfl | hr
      · exact h.2.1
      · exact ih h.2.2.2 r hr
   have := this htie r hr
   exact moneyS_len (by unfold I64; omega)
  unfold lateS
  rw [ln_len]; simp only [List.length_append, List.length_cons, List.length_nil]
  have : w_late.length = 4 := rfl
  omega
 have r3 := flat_bound holS 30 p.hol fun r hr => by
  have h2 := dateT_len r
  unfold holS
  rw [ln_len]; simp only [List.length_append, List.length_cons, List.length_nil]
  have : w_holiday.length = 7 := rfl
  omega
 have q1 := hn _ hev; have q2 := hn _ hti; have q3 := hn _ hgr
 have q4 : (rateS p.rate).length <= 40 := rateS_len (by unfold I64; omega)
 have q5 : (rateS p.pen).length <= 40 := rateS_len (by unfold I64; omega)
 have q6 : (moneyS p.cap).length <= 30 := moneyS_len (by unfold I64; omega)
 have a1 := hw p.count; have a2 := hw p.rnd; have a3 := hw p.kind; have a4 := hw p.over; have a5 := hw p.roll; have a6 := hw p.o1; have a7 := hw p.o2; have a8 := hw p.o3; have a9 := hw p.o4
 have nl := hname.1.2.1
 unfold printS
 simp only [List.length_append, ln_len, List.length_cons, List.length_nil]
 have z : w_product.length = 7 /\ w_count.length = 5 /\ w_round.length = 5 /\ w_kind.length = 4 /\ w_every.length = 5 /\ w_times.length = 5 /\ w_grace.length = 5 /\ w_rate.length = 4 /\ w_penalty.length = 7 /\ w_order.length = 5 /\ w_over.length = 4 /\ w_cap.length = 3 /\ w_roll.length = 4 := ⟨rfl, rfl, rfl, rfl, rfl, rfl, rfl, rfl, rfl, rfl, rfl, rfl, rfl⟩
 omega
theorem print_inj {p q : Prod} (hp : checkP p) (hq : checkP q) (h : printS p = printS q) : p = q := by
 have h1 := parse_print hp (print_len hp)
 have h2 := parse_print hq (print_len hq)
 rw [h, h2] at h1
 exact (congrArg Prod.fst h1).symm
end PS4

namespace BP1
open Go Go.Proofs VL BB1 BB2 BB14 B10 BB6 BB10 C1 C2
abbrev pBT (T : TypeId) (p : Prod) (a b : V) : VObj := .cells true T [.str p.name, .int .i64 p.count, .int .i64 p.rnd, .int .i64 p.kind, .int .i64 p.every, .int .i64 p.times, .int .i64 p.grace, .int .i64 p.rate, .sl (rL p.resets) .no, .int .i64 p.pen, .int .i64 p.o1, .int .i64 p.o2, .int .i64 p.o3, .int .i64 p.o4, .int .i64 p.over, .sl (tL p.late) .no, .int .i64 p.cap, .int .i64 p.roll, .sl (iL p.hol) .no, a, b]
abbrev pB (p : Prod) (a b : V) : VObj := pBT 58 p a b
def oN (p : Prod) : List VObj := [pB p .nilp (.sl [] .ex)]
def oS (p : Prod) (mv : Bool) (s : ByteArray) (sp : List V) : List VObj := [pB p (.ptr 0 19) (.slo 1 1 0 s.size (s.size + sp.length)), .buf mv 1 (bytesV s ++ sp) (some 5)]
theorem uokP {T : TypeId} (hT : T = 58) (p : Prod) (x : V) : unsafeOk (VL.sys Tryz.prog 1 []).P 131 53 (pBT T p .nilp x) 19 = true := by subst hT; kernel_rfl
theorem c_ccT {T : TypeId} (hT : T = 58) (p : Prod) (K) (h : K (.ret (.tup [])) [pBT T p (.ptr 0 19) (.slo 1 1 0 0 0), .buf false 1 [] (some 5)]) : VCall Tryz.prog 55 [.ptr 0 19] [pBT T p .nilp (.sl [] .ex)] K := by
 refine VCall.weak (call_fun [] 1 Tryz.func55 (by rfl) (by rfl) ?_)
 (conv=>whnf); (repeat (refine step_go [] ?_;conv=>whnf))
 refine c_ne _ _ _ _ ?_; (conv=>whnf); (repeat (refine step_go [] ?_;conv=>whnf))
 rw [uokP hT p (.sl [] .ex)]; (conv=>whnf); (repeat (refine step_go [] ?_;conv=>whnf))
 refine ⟨_, _, weak_nil 0 20 1 (some 5) (ob := [pBT T p (.ptr 0 19) (.sl [] .ex)]) (wr := true) (T := T) (cs := [.str p.name, .int .i64 p.count, .int .i64 p.rnd, .int .i64 p.kind, .int .i64 p.every, .int .i64 p.times, .int .i64 p.grace, .int .i64 p.rate, .sl (rL p.resets) .no, .int .i64 p.pen, .int .i64 p.o1, .int .i64 p.o2, .int .i64 p.o3, .int .i64 p.o4, .int .i64 p.over, .sl (tL p.late) .no, .int .i64 p.cap, .int .i64 p.roll, .sl (iL p.hol) .no, .ptr 0 19, .sl [] .ex]) rfl rfl (Nat.le_refl _), h⟩
theorem c_ccP (p : Prod) (K) (h : K (.ret (.tup [])) (oS p false ⟨#[]⟩ [])) : VCall Tryz.prog 55 [.ptr 0 19] (oN p) K := c_ccT rfl p K h
theorem c_ccQ (p : Prod) (mv : Bool) (s : ByteArray) (sp : List V) (K) (h : K (.ret (.tup [])) (oS p mv s sp)) : VCall Tryz.prog 55 [.ptr 0 19] (oS p mv s sp) K := by
 unfold oS at h ⊢
 cases mv with
 | true =>
   refine call_fun [] 2 Tryz.func55 (by rfl) (by rfl) ?_; (conv=>whnf); (repeat (refine step_go [] ?_;conv=>whnf))
   exact h
 | false =>
   refine call_fun [] 2 Tryz.func55 (by rfl) (by rfl) ?_; (conv=>whnf); (repeat (refine step_go [] ?_;conv=>whnf))
   exact h
theorem c_wsP (p : Prod) (mv : Bool) (s : ByteArray) (sp : List V) (u : ByteArray) (hb : s.size + u.size <= 140737488355328) (K)
 (h : ∀ sp' : List V, K (.ret (.tup [.int .i64 (u.size : Int), .nili])) (oS p true (s ++ u) sp')) :
 VCall Tryz.prog 22 [.ptr 0 19, .str u] (oS p mv s sp) K := by
 have e0 : (bytesV s).length = s.size := bytesV_length s
 have e1 : (bytesV u).length = u.size := bytesV_length u
 have e2 : bytesV (s ++ u) = bytesV s ++ bytesV u := by unfold bytesV; rw [ByteArray.data_append, Array.toList_append, List.map_append]
 have e3 : (s ++ u).size = s.size + u.size := ByteArray.size_append
 have hcc := fun mv' => c_ccQ p mv' s sp
 unfold oS at h hcc ⊢
 rw [e3, e2] at h
 cases mv
 all_goals
  refine VCall.weak (call_fun [] 2 Tryz.func22 (by rfl) (by rfl) ?_)
  (conv=>whnf); (repeat (refine step_go [] ?_;conv=>whnf))
  refine hcc _ _ ?_
  (conv=>whnf); (repeat (refine step_go [] ?_;conv=>whnf))
  refine ⟨by rw [Nat.zero_add, Nat.mul_one, e1]; exact hb, fun x hx => (bytesV_ok u x hx).1, ?_⟩; (conv=>whnf); (repeat (refine step_go [] ?_;conv=>whnf))
  rw [e1]
  refine two (fun g => ?_) (fun g => ?_)
  · have hc := Nat.le_of_ble_eq_true g
    refine ⟨by simp; omega, ?_⟩; (conv=>whnf); (repeat (refine step_go [] ?_;conv=>whnf))
    have h' := h (sp.drop u.size)
    have q1 : List.take (0 + s.size) (bytesV s ++ sp) ++ bytesV u ++ List.drop (0 + s.size + u.size) (bytesV s ++ sp) = bytesV s ++ bytesV u ++ sp.drop u.size := by
     rw [Nat.zero_add, ← e0, List.take_left, List.drop_append]
     simp
    have q2 : s.size + u.size + (sp.drop u.size).length = s.size + sp.length := by simp; omega
    rw [q2, ← q1] at h'
    first
     | exact ⟨_, _, weak_of (.cons (.eq rfl) .nil) (.cons (.eq rfl) (.cons .moved .nil)) rfl rfl rfl, h'⟩
     | exact ⟨_, _, weak_of (.cons (.eq rfl) .nil) (.cons (.eq rfl) (.cons (.eq rfl) .nil)) rfl rfl rfl, h'⟩
  · refine ⟨by simp; omega, fun sp' hsp' => ?_⟩; (conv=>whnf); (repeat (refine step_go [] ?_;conv=>whnf))
    have h' := h sp'
    have q1 : List.take s.size (List.drop 0 (bytesV s ++ sp)) ++ bytesV u ++ sp' = bytesV s ++ bytesV u ++ sp' := by
     rw [List.drop_zero, ← e0, List.take_left]
    rw [q1]
    refine ⟨_, _, ?_, h'⟩
    obtain ⟨s', hw, rfl⟩ := weak_sel (m := 2) (src := [0, 2]) (s := ⟨[.tup [.int .i64 (u.size : Int), .nili]], [pB p (.ptr 0 19) (.slo 2 1 0 (s.size + u.size) (s.size + u.size + sp'.length)), .buf _ 1 (bytesV s ++ sp) (some 5), .buf false 1 (bytesV s ++ bytesV u ++ sp') (some 5)], 0, []⟩)
     (K := fun s' => s' = ⟨[.tup [.int .i64 (u.size : Int), .nili]], [pB p (.ptr 0 19) (.slo 1 1 0 (s.size + u.size) (s.size + u.size + sp'.length)), .buf true 1 (bytesV s ++ bytesV u ++ sp') (some 5)], 0, []⟩) rfl
    exact hw
theorem c_wsP0 (p : Prod) (u : ByteArray) (hb : u.size <= 140737488355328) (K)
 (h : ∀ sp' : List V, K (.ret (.tup [.int .i64 (u.size : Int), .nili])) (oS p true u sp')) :
 VCall Tryz.prog 22 [.ptr 0 19, .str u] (oN p) K := by
 have e1 : (bytesV u).length = u.size := bytesV_length u
 have hcc := c_ccP p
 unfold oN oS at *
 refine VCall.weak (call_fun [] 1 Tryz.func22 (by rfl) (by rfl) ?_)
 (conv=>whnf); (repeat (refine step_go [] ?_;conv=>whnf))
 refine hcc _ ?_
 (conv=>whnf); (repeat (refine step_go [] ?_;conv=>whnf))
 refine ⟨by rw [Nat.zero_add, Nat.mul_one, e1]; show (⟨#[]⟩ : ByteArray).size + _ <= _; rw [show (⟨#[]⟩ : ByteArray).size = 0 from rfl, Nat.zero_add]; exact hb, fun x hx => (bytesV_ok u x hx).1, ?_⟩; (conv=>whnf); (repeat (refine step_go [] ?_;conv=>whnf))
 rw [e1]
 refine two (fun g => ?_) (fun g => ?_)
 · have hc := Nat.le_of_ble_eq_true g
   have hz : (⟨#[]⟩ : ByteArray).size = 0 := rfl
   have hu : u.size = 0 := by rw [hz] at hc; have : ([] : List V).length = 0 := rfl; omega
   have hu0 : bytesV u = [] := List.eq_nil_of_length_eq_zero (by omega)
   refine ⟨by show 0 + 0 <= (bytesV ⟨#[]⟩ ++ []).length; exact Nat.zero_le _, ?_⟩; (conv=>whnf); (repeat (refine step_go [] ?_;conv=>whnf))
   have h' := h []
   rw [hu, hu0] at h' ⊢
   exact ⟨_, _, weak_of (.cons (.eq rfl) .nil) (.cons (.eq rfl) (.cons .moved .nil)) rfl rfl rfl, h'⟩
 · refine ⟨Nat.zero_le _, fun sp' hsp' => ?_⟩; (conv=>whnf); (repeat (refine step_go [] ?_;conv=>whnf))
   have h' := h sp'
   refine ⟨_, _, ?_, h'⟩
   have hz : (⟨#[]⟩ : ByteArray).size = 0 := rfl
   have hz2 : bytesV ⟨#[]⟩ = [] := rfl
   simp only [hz, hz2, List.take_zero, List.drop_zero, List.nil_append, List.append_nil, Nat.zero_add]
   exact weak_of (.cons (.eq rfl) .nil) (.cons (.eq rfl) (.cons .moved .nil)) rfl rfl rfl
theorem c_strP (p : Prod) (mv : Bool) (s : ByteArray) (sp : List V) (h0 : 0 < s.size) (hb : s.size <= 140737488355328) (K)
 (h : K (.ret (.str s)) [pB p (.ptr 0 19) (.slo 1 1 0 s.size (s.size + sp.length)), .buf true 1 []]) :
 VCall Tryz.prog 29 [.ptr 0 19] (oS p mv s sp) K := by
 have e0 : (bytesV s).length = s.size := bytesV_length s
 unfold oS
 refine VCall.weak (call_fun [] 2 Tryz.func29 (by rfl) (by rfl) ?_)
 (conv=>whnf); (repeat (refine step_go [] ?_;conv=>whnf))
 (refine ⟨by decide +kernel, ?_⟩;conv=>whnf)
 (repeat (refine And.intro rfl ?_;conv=>whnf))
 refine ⟨by omega, ?_⟩; (conv=>whnf); (repeat (refine step_go [] ?_;conv=>whnf))
 (repeat (refine And.intro rfl ?_;conv=>whnf))
 refine ⟨by omega, by omega, by simp; omega, s, by rw [Int.toNat_natCast, ← e0, List.take_left], ?_⟩
 refine no (by rw [Int.toNat_natCast]; cases h : Nat.beq s.size 0 with | false => rfl | true => exact absurd (Nat.eq_of_beq_eq_true h) (by omega)) ?_; (conv=>whnf); (repeat (refine step_go [] ?_;conv=>whnf))
 (repeat (refine And.intro rfl ?_;conv=>whnf))
 exact ⟨_, _, Weak.refl, h⟩
theorem c_lenP (p : Prod) (mv : Bool) (s : ByteArray) (sp : List V) (K) (h : K (.ret (.int .i64 (s.size : Int))) (oS p mv s sp)) :
 VCall Tryz.prog 28 [.ptr 0 19] (oS p mv s sp) K := by
 unfold oS at *
 cases mv
 all_goals
  refine call_fun [] 2 Tryz.func28 (by rfl) (by rfl) ?_; (conv=>whnf); (repeat (refine step_go [] ?_;conv=>whnf))
  exact h
end BP1

namespace BP2
open Go Go.Proofs VL D1 B10 B12 B13 BB1 BB2 BB4 BB5 BB8 BB9 C1 C2 C4 BP1 P1
def lnB (x : ByteArray) : ByteArray := ⟨#[32, 32]⟩ ++ x ++ ⟨#[59, 10]⟩
theorem lnB_s (x : ByteArray) : sB (lnB x) = lnS (sB x) := by unfold lnB lnS; rw [sB_app, sB_app]; rfl
theorem lnB_z (x : ByteArray) : (lnB x).size = x.size + 4 := by
 unfold lnB; rw [ByteArray.size_append, ByteArray.size_append]
 have h1 : (⟨#[32, 32]⟩ : ByteArray).size = 2 := rfl
 have h2 : (⟨#[59, 10]⟩ : ByteArray).size = 2 := rfl
 omega
set_option maxHeartbeats 1000000 in
theorem c_plineN (p : Prod) {mv : Bool} (s : ByteArray) (sp : List V) (w : ByteArray) (l : List ByteArray) (h1 : 1 <= l.length) (h9 : l.length <= 9) (hj : (joinB (w :: l)).size <= 100000) (hs : s.size <= 1000000) (K)
 (h : ∀ t sp', sB t = sB s ++ lnS (sB (joinB (w :: l))) -> t.size = s.size + (joinB (w :: l)).size + 4 -> K (.ret (.tup [])) (oS p true t sp')) :
 VCall Tryz.prog 56 [.ptr 0 0, .sl ((w :: l).map V.str) .no] (oS p mv s sp) K := by
 obtain ⟨L, hL⟩ : ∃ L, (w :: l).map V.str = L := ⟨_, rfl⟩
 rw [hL]
 have hws : s.size + (lnB (joinB (w :: l))).size <= 140737488355328 := by rw [lnB_z]; omega
 have hwp := fun mv' => c_wsP p mv' s sp (lnB (joinB (w :: l))) hws
 unfold oS at hwp ⊢
 cases mv
 all_goals
  refine call_fun [] 2 Tryz.func56 (by rfl) (by rfl) ?_; (conv=>whnf); (repeat (refine step_go [] ?_;conv=>whnf))
  (refine ⟨by decide +kernel, ?_⟩;conv=>whnf)
  (repeat (refine And.intro rfl ?_;conv=>whnf))
  rw [← hL]
  refine c_join w l h1 h9 (by omega) _ ?_; (conv=>whnf); (repeat (refine step_go [] ?_;conv=>whnf))
  (repeat (refine And.intro rfl ?_;conv=>whnf))
  refine ⟨str_leN (by have : (⟨#[32, 32]⟩ : ByteArray).size = 2 := rfl; omega), ?_⟩; (conv=>whnf); (repeat (refine step_go [] ?_;conv=>whnf))
  (repeat (refine And.intro rfl ?_;conv=>whnf))
  refine ⟨str_leN (by rw [ByteArray.size_append]; have : (⟨#[32, 32]⟩ : ByteArray).size = 2 := rfl; have : (⟨#[59, 10]⟩ : ByteArray).size = 2 := rfl; omega), ?_⟩; (conv=>whnf); (repeat (refine step_go [] ?_;conv=>whnf))
  (repeat (refine And.intro rfl ?_;conv=>whnf))
  refine hwp _ _ fun sp' => ?_
  (conv=>whnf); (repeat (refine step_go [] ?_;conv=>whnf))
  (repeat (refine And.intro rfl ?_;conv=>whnf))
  exact h (s ++ lnB (joinB (w :: l))) sp' (by rw [sB_app, lnB_s]) (by rw [ByteArray.size_append, lnB_z]; omega)
theorem c_pline (p : Prod) {mv : Bool} (s : ByteArray) (sp : List V) (w : ByteArray) (l : List ByteArray) (h1 : 1 <= l.length) (h9 : l.length <= 9) (hj : (joinB (w :: l)).size <= 100000) (hs : s.size <= 1000000) (K)
 (h : ∀ t sp', sB t = sB s ++ lnS (sB (joinB (w :: l))) -> t.size = s.size + (joinB (w :: l)).size + 4 -> K (.ret (.tup [])) (oS p true t sp')) :
 VCall Tryz.prog 56 [.ptr 0 0, .sl ((w :: l).map V.str) .ex] (oS p mv s sp) K :=
 VCall.args (args' := [.ptr 0 0, .sl ((w :: l).map V.str) .no]) (by repeat' first | exact VWs.nil | refine VWs.cons (VW.eq rfl) ?_ | refine VWs.cons VW.no ?_) (by rfl) (c_plineN p s sp w l h1 h9 hj hs K h)
theorem join2 (a b : ByteArray) : joinB [a, b] = a ++ (spc ++ b ++ ⟨#[]⟩) := rfl
theorem join3 (a b c : ByteArray) : joinB [a, b, c] = a ++ (spc ++ b ++ (spc ++ c ++ ⟨#[]⟩)) := rfl
theorem sB_nil : sB ⟨#[]⟩ = [] := rfl
theorem sB_spc : sB spc = [32] := rfl
theorem c_p2 (p : Prod) {mv : Bool} (s : ByteArray) (sp : List V) (a b : ByteArray) (A B : List Int) (hA : sB a = A) (hB : sB b = B) (ha : a.size <= 30) (hb : b.size <= 60) (hs : s.size <= 500000) (K)
 (h : ∀ t sp', sB t = sB s ++ lnS (A ++ [32] ++ B) -> t.size <= s.size + 100 -> K (.ret (.tup [])) (oS p true t sp')) :
 VCall Tryz.prog 56 [.ptr 0 0, .sl [.str a, .str b] .ex] (oS p mv s sp) K := by
 have hz : (joinB [a, b]).size = a.size + b.size + 1 := by
  rw [join2]; simp only [ByteArray.size_append]
  have h1 : spc.size = 1 := rfl
  have h2 : (⟨#[]⟩ : ByteArray).size = 0 := rfl
  omega
 have he : sB (joinB [a, b]) = A ++ [32] ++ B := by rw [join2, sB_app, sB_app, sB_app, hA, hB, sB_nil, sB_spc]; simp
 exact c_pline p s sp a [b] (by simp) (by simp) (by omega) (by omega) K fun t sp' e1 e2 => h t sp' (by rw [e1, he]) (by omega)
theorem c_p3 (p : Prod) {mv : Bool} (s : ByteArray) (sp : List V) (a b c : ByteArray) (A B C : List Int) (hA : sB a = A) (hB : sB b = B) (hC : sB c = C) (ha : a.size <= 30) (hb : b.size <= 30) (hc : c.size <= 60) (hs : s.size <= 500000) (K)
 (h : ∀ t sp', sB t = sB s ++ lnS (A ++ [32] ++ B ++ [32] ++ C) -> t.size <= s.size + 130 -> K (.ret (.tup [])) (oS p true t sp')) :
 VCall Tryz.prog 56 [.ptr 0 0, .sl [.str a, .str b, .str c] .ex] (oS p mv s sp) K := by
 have hz : (joinB [a, b, c]).size = a.size + b.size + c.size + 2 := by
  rw [join3]; simp only [ByteArray.size_append]
  have h1 : spc.size = 1 := rfl
  have h2 : (⟨#[]⟩ : ByteArray).size = 0 := rfl
  omega
 have he : sB (joinB [a, b, c]) = A ++ [32] ++ B ++ [32] ++ C := by rw [join3, sB_app, sB_app, sB_app, sB_app, sB_app, hA, hB, hC, sB_nil, sB_spc]; simp
 exact c_pline p s sp a [b, c] (by simp) (by simp) (by omega) (by omega) K fun t sp' e1 e2 => h t sp' (by rw [e1, he]) (by omega)
theorem ix4 {m : Nat} {a0 a1 a2 a3 w : ByteArray} {c : Int} {K : V -> Prop} (h : (c = 1 /\ w = a1) \/ (c = 2 /\ w = a2) \/ (c = 3 /\ w = a3)) (hk : K (.str w)) :
 0 <= c /\ c < (4 : Nat) /\ dropK [V.str a0, .str a1, .str a2, .str a3] (c.toNat * 1) fun cs => loadK (VL.sys Tryz.prog m []).P 9 cs fun v => v.untokK fun v => K v := by
 rcases h with ⟨rfl, rfl⟩ | ⟨rfl, rfl⟩ | ⟨rfl, rfl⟩ <;> refine ⟨by decide, by decide, ?_⟩ <;> conv=>whnf
 all_goals exact hk
theorem ix5 {m : Nat} {a0 a1 a2 a3 a4 w : ByteArray} {c : Int} {K : V -> Prop} (h : (c = 1 /\ w = a1) \/ (c = 2 /\ w = a2) \/ (c = 3 /\ w = a3) \/ (c = 4 /\ w = a4)) (hk : K (.str w)) :
 0 <= c /\ c < (5 : Nat) /\ dropK [V.str a0, .str a1, .str a2, .str a3, .str a4] (c.toNat * 1) fun cs => loadK (VL.sys Tryz.prog m []).P 9 cs fun v => v.untokK fun v => K v := by
 rcases h with ⟨rfl, rfl⟩ | ⟨rfl, rfl⟩ | ⟨rfl, rfl⟩ | ⟨rfl, rfl⟩ <;> refine ⟨by decide, by decide, ?_⟩ <;> conv=>whnf
 all_goals exact hk
theorem pk_count {c : Int} (h : 1 <= c /\ c <= 3) : (c = 1 /\ toBA (countW c) = ⟨#[116, 104, 105, 114, 116, 121]⟩) \/ (c = 2 /\ toBA (countW c) = ⟨#[102, 105, 120, 101, 100]⟩) \/ (c = 3 /\ toBA (countW c) = ⟨#[97, 99, 116, 117, 97, 108]⟩) := by
 have : c = 1 \/ c = 2 \/ c = 3 := by omega
 rcases this with rfl | rfl | rfl
 · exact .inl ⟨rfl, rfl⟩
 · exact .inr (.inl ⟨rfl, rfl⟩)
 · exact .inr (.inr ⟨rfl, rfl⟩)
theorem pk_round {c : Int} (h : c = 1 \/ c = 3) : (c = 1 /\ toBA (roundW c) = ⟨#[104, 97, 108, 102, 45, 117, 112]⟩) \/ (c = 2 /\ toBA (roundW c) = ⟨#[]⟩) \/ (c = 3 /\ toBA (roundW c) = ⟨#[100, 111, 119, 110]⟩) := by
 rcases h with rfl | rfl
 · exact .inl ⟨rfl, rfl⟩
 · exact .inr (.inr ⟨rfl, rfl⟩)
theorem pk_kind {c : Int} (h : 1 <= c /\ c <= 3) : (c = 1 /\ toBA (kindW c) = ⟨#[97, 110, 110, 117, 105, 116, 121]⟩) \/ (c = 2 /\ toBA (kindW c) = ⟨#[101, 113, 117, 97, 108]⟩) \/ (c = 3 /\ toBA (kindW c) = ⟨#[98, 117, 108, 108, 101, 116]⟩) := by
 have : c = 1 \/ c = 2 \/ c = 3 := by omega
 rcases this with rfl | rfl | rfl
 · exact .inl ⟨rfl, rfl⟩
 · exact .inr (.inl ⟨rfl, rfl⟩)
 · exact .inr (.inr ⟨rfl, rfl⟩)
theorem pk_over {c : Int} (h : 1 <= c /\ c <= 3) : (c = 1 /\ toBA (overW c) = ⟨#[104, 111, 108, 100]⟩) \/ (c = 2 /\ toBA (overW c) = ⟨#[112, 114, 101, 112, 97, 121]⟩) \/ (c = 3 /\ toBA (overW c) = ⟨#[114, 101, 102, 117, 110, 100]⟩) := by
 have : c = 1 \/ c = 2 \/ c = 3 := by omega
 rcases this with rfl | rfl | rfl
 · exact .inl ⟨rfl, rfl⟩
 · exact .inr (.inl ⟨rfl, rfl⟩)
 · exact .inr (.inr ⟨rfl, rfl⟩)
theorem pk_pay {c : Int} (h : 1 <= c /\ c <= 4) : (c = 1 /\ toBA (payW c) = ⟨#[102, 101, 101, 115]⟩) \/ (c = 2 /\ toBA (payW c) = ⟨#[112, 101, 110, 97, 108, 116, 121]⟩) \/ (c = 3 /\ toBA (payW c) = ⟨#[105, 110, 116, 101, 114, 101, 115, 116]⟩) \/ (c = 4 /\ toBA (payW c) = ⟨#[112, 114, 105, 110, 99, 105, 112, 97, 108]⟩) := by
 have : c = 1 \/ c = 2 \/ c = 3 \/ c = 4 := by omega
 rcases this with rfl | rfl | rfl | rfl
 · exact .inl ⟨rfl, rfl⟩
 · exact .inr (.inl ⟨rfl, rfl⟩)
 · exact .inr (.inr (.inl ⟨rfl, rfl⟩))
 · exact .inr (.inr (.inr ⟨rfl, rfl⟩))
theorem pk_roll {c : Int} (h : 1 <= c /\ c <= 4) : (c = 1 /\ toBA (rollW c) = ⟨#[115, 116, 97, 121]⟩) \/ (c = 2 /\ toBA (rollW c) = ⟨#[110, 101, 120, 116]⟩) \/ (c = 3 /\ toBA (rollW c) = ⟨#[119, 105, 116, 104, 105, 110]⟩) \/ (c = 4 /\ toBA (rollW c) = ⟨#[112, 114, 101, 118, 105, 111, 117, 115]⟩) := by
 have : c = 1 \/ c = 2 \/ c = 3 \/ c = 4 := by omega
 rcases this with rfl | rfl | rfl | rfl
 · exact .inl ⟨rfl, rfl⟩
 · exact .inr (.inl ⟨rfl, rfl⟩)
 · exact .inr (.inr (.inl ⟨rfl, rfl⟩))
 · exact .inr (.inr (.inr ⟨rfl, rfl⟩))
end BP2

namespace BP3
open Go Go.Proofs VL D1 B5 B10 B12 B13 B14 BB1 BB2 BB4 BB5 BB8 BB9 C1 C2 C4 BP1 BP2 P1 P2
theorem dgi_pos {v : Int} (h : 0 <= v) : dgi v = dg v.toNat := by unfold dgi; rw [if_neg (by omega)]
theorem c_itoaP (v : Int) (h0 : 0 <= v) (hv : v < 1000000) (K : Out -> List VObj -> Prop) (h : K (.ret (.str (toBA (dg v.toNat)))) []) : VCall Tryz.prog 57 [.int .i64 v] [] K :=
 c_itoa v (by omega) (by omega) K (by rw [dgi_pos h0]; exact h)
def firstS (p : Prod) : List Int := lnS (w_count ++ [32] ++ countW p.count) ++ lnS (w_round ++ [32] ++ roundW p.rnd) ++ lnS (w_kind ++ [32] ++ kindW p.kind) ++ lnS (w_every ++ [32] ++ dg p.every.toNat) ++ lnS (w_times ++ [32] ++ dg p.times.toNat) ++ lnS (w_grace ++ [32] ++ dg p.grace.toNat)
theorem num_b {v : Int} (hv : 0 <= v /\ v < 1000000) : sB (toBA (dg v.toNat)) = dg v.toNat /\ (toBA (dg v.toNat)).size <= 30 := by
 have := dg_le v hv.2
 exact ⟨sB_toBA this.2, by omega⟩
theorem rate_b {v : Int} (hv : I64 v) : sB (toBA (rateS v)) = rateS v /\ (toBA (rateS v)).size <= 60 := ⟨sB_toBA (rateS_byte v), by rw [toBA_size]; have := rateS_len hv; omega⟩
theorem mon_b {v : Int} (hv : I64 v) : sB (toBA (moneyS v)) = moneyS v /\ (toBA (moneyS v)).size <= 60 := ⟨sB_toBA (moneyS_b v), by rw [toBA_size]; have := moneyS_len hv; omega⟩
set_option maxHeartbeats 4000000 in
theorem c_first (p : Prod) (hp : checkP p) {mv : Bool} (s : ByteArray) (sp : List V) (hs : s.size <= 400000) (K : Out -> List VObj -> Prop) (h : ∀ t sp', sB t = sB s ++ firstS p -> t.size <= s.size + 600 -> K (.ret (.tup [])) (oS p true t sp')) :
 VCall Tryz.prog 23 [.ptr 0 0] (oS p mv s sp) K := by
 obtain ⟨⟨⟨hname, hcount, hrnd, hkind⟩, hevery, hshape⟩, _⟩ := hp
 have hev : 0 <= p.every /\ p.every < 1000000 := by unfold shape2 at hevery; omega
 have hti : 0 <= p.times /\ p.times < 1000000 := by unfold shape3 at hshape; omega
 have hgr : 0 <= p.grace /\ p.grace < 1000000 := by unfold shape3 at hshape; omega
 unfold firstS at h
 unfold oS
 cases mv
 all_goals
  refine call_fun [] 2 Tryz.func23 (by rfl) (by rfl) ?_; (conv=>whnf); (repeat (refine step_go [] ?_;conv=>whnf))
  refine ix4 (pk_count hcount) ?_; (conv=>whnf); (repeat (refine step_go [] ?_;conv=>whnf))
  refine c_p2 p s sp _ _ w_count (countW p.count) (by rfl) (sB_toBA (countW_b _).1) (by decide) (Nat.le_trans (countW_b _).2 (by decide)) (by omega) _ fun t1 q1 e1 z1 => ?_
  (conv=>whnf); (repeat (refine step_go [] ?_;conv=>whnf))
  refine ix4 (pk_round hrnd) ?_; (conv=>whnf); (repeat (refine step_go [] ?_;conv=>whnf))
  refine c_p2 p t1 q1 _ _ w_round (roundW p.rnd) (by rfl) (sB_toBA (roundW_b _).1) (by decide) (Nat.le_trans (roundW_b _).2 (by decide)) (by omega) _ fun t2 q2 e2 z2 => ?_
  (conv=>whnf); (repeat (refine step_go [] ?_;conv=>whnf))
  refine ix4 (pk_kind hkind) ?_; (conv=>whnf); (repeat (refine step_go [] ?_;conv=>whnf))
  refine c_p2 p t2 q2 _ _ w_kind (kindW p.kind) (by rfl) (sB_toBA (kindW_b _).1) (by decide) (Nat.le_trans (kindW_b _).2 (by decide)) (by omega) _ fun t3 q3 e3 z3 => ?_
  (conv=>whnf); (repeat (refine step_go [] ?_;conv=>whnf))
  refine c_itoaP p.every hev.1 hev.2 _ ?_; (conv=>whnf); (repeat (refine step_go [] ?_;conv=>whnf))
  refine c_p2 p t3 q3 _ _ w_every (dg p.every.toNat) (by rfl) (num_b hev).1 (by decide) (Nat.le_trans (num_b hev).2 (by decide)) (by omega) _ fun t4 q4 e4 z4 => ?_
  (conv=>whnf); (repeat (refine step_go [] ?_;conv=>whnf))
  refine c_itoaP p.times hti.1 hti.2 _ ?_; (conv=>whnf); (repeat (refine step_go [] ?_;conv=>whnf))
  refine c_p2 p t4 q4 _ _ w_times (dg p.times.toNat) (by rfl) (num_b hti).1 (by decide) (Nat.le_trans (num_b hti).2 (by decide)) (by omega) _ fun t5 q5 e5 z5 => ?_
  (conv=>whnf); (repeat (refine step_go [] ?_;conv=>whnf))
  refine c_itoaP p.grace hgr.1 hgr.2 _ ?_; (conv=>whnf); (repeat (refine step_go [] ?_;conv=>whnf))
  refine c_p2 p t5 q5 _ _ w_grace (dg p.grace.toNat) (by rfl) (num_b hgr).1 (by decide) (Nat.le_trans (num_b hgr).2 (by decide)) (by omega) _ fun t6 q6 e6 z6 => ?_
  (conv=>whnf); (repeat (refine step_go [] ?_;conv=>whnf))
  exact h t6 q6 (by rw [e6, e5, e4, e3, e2, e1]; simp only [List.append_assoc]) (by omega)
theorem res_rt {times : Int} : ∀ {q : Option Rs} {l : List Rs}, resetsP times q l -> ∀ r ∈ l, 0 <= r.rate /\ r.rate <= 1000000000
 | _, [], _, r, hr => by cases hr
 | q, x :: l, h, r, hr => by
   rcases List.mem_cons.1 hr with rfl | hr
   · exact h.2.1
   · exact res_rt h.2.2.2 r hr
noncomputable def ratesS (p : Prod) : List Int := lnS (w_rate ++ [32] ++ rateS p.rate) ++ lnS (w_penalty ++ [32] ++ rateS p.pen) ++ p.resets.flatMap resetS
theorem take_flat {α : Type} (f : α -> List Int) (l : List α) (i : Nat) (h : i < l.length) : (l.take (i + 1)).flatMap f = (l.take i).flatMap f ++ f l[i] := by
 rw [List.take_succ_eq_append_getElem h, List.flatMap_append]; simp
set_option maxHeartbeats 4000000 in
theorem c_rates (p : Prod) (hp : checkP p) {mv : Bool} (s : ByteArray) (sp : List V) (hs : s.size <= 400000) (K : Out -> List VObj -> Prop) (h : ∀ t sp', sB t = sB s ++ ratesS p -> t.size <= s.size + 2800 -> K (.ret (.tup [])) (oS p true t sp')) :
 VCall Tryz.prog 24 [.ptr 0 0] (oS p mv s sp) K := by
 obtain ⟨⟨_, _, hshape⟩, ⟨hrate, hpen, hrl, hres⟩, _⟩ := hp
 unfold ratesS at h
 have hi1 : I64 p.rate := by unfold I64; omega
 have hi2 : I64 p.pen := by unfold I64; omega
 refine VCall.weak ?_
 unfold oS
 cases mv
 all_goals
  refine call_fun [] 2 Tryz.func24 (by rfl) (by rfl) ?_; (conv=>whnf); (repeat (refine step_go [] ?_;conv=>whnf))
  refine c_rate p.rate hi1 _ ?_; (conv=>whnf); (repeat (refine step_go [] ?_;conv=>whnf))
  refine c_p2 p s sp _ _ w_rate (rateS p.rate) (by rfl) (rate_b hi1).1 (by decide) (rate_b hi1).2 (by omega) _ fun t1 q1 e1 z1 => ?_
  (conv=>whnf); (repeat (refine step_go [] ?_;conv=>whnf))
  refine c_rate p.pen hi2 _ ?_; (conv=>whnf); (repeat (refine step_go [] ?_;conv=>whnf))
  refine c_p2 p t1 q1 _ _ w_penalty (rateS p.pen) (by rfl) (rate_b hi2).1 (by decide) (rate_b hi2).2 (by omega) _ fun t2 q2 e2 z2 => ?_
  (conv=>whnf); (repeat (refine step_go [] ?_;conv=>whnf))
  let S : Nat × ByteArray × List V -> St := fun x => ⟨(.ptr 0 0 :: .undef :: .undef :: .undef :: .undef :: .undef :: .undef :: .undef :: .undef :: .undef :: .undef :: .undef :: .undef :: .undef :: .undef :: .undef :: .undef :: .undef :: .undef :: .undef :: .undef :: .undef :: .undef :: .undef :: .undef :: .undef :: .sl (rL p.resets) .no :: .int .i64 (p.resets.length : Nat) :: .int .i64 (x.1 : Nat) :: .undef :: .undef :: .undef :: .undef :: .undef :: .undef :: .undef :: .undef :: .undef :: .undef :: .undef :: .undef :: .undef :: []), oS p true x.2.1 x.2.2, 0, []⟩
  have hlr : (rL p.resets).length = p.resets.length := by simp [rL]
  refine VLoop.enter (s' := S (0, t2, q2)) (weak_of (by rw [hlr]; (repeat' first | exact VWs.nil | refine VWs.cons VW.undef ?_ | refine VWs.cons (VW.eq rfl) ?_)) (.cons (.eq rfl) (.cons (.eq rfl) .nil)) rfl rfl rfl) (VLoop.indW S (fun x => p.resets.length - x.1) (fun x => x.1 <= p.resets.length /\ sB x.2.1 = sB t2 ++ (p.resets.take x.1).flatMap resetS /\ x.2.1.size <= t2.size + 130 * x.1) ?_ (0, t2, q2) ⟨Nat.zero_le _, by simp, by simp⟩)
  rintro ⟨i, t, q⟩ ⟨hi, es, zs⟩ ih
  simp only at hi es zs
  dsimp only [S]
  unfold oS
  refine loop_round [] ?_; conv=>whnf
  (repeat' first | (refine step_go [] ?_;conv=>whnf) | (refine two ?_ ?_<;>intro g<;>(try simp only[bsx]at g)<;>(conv=>whnf)) | (refine And.intro rfl ?_;conv=>whnf) | fail)
  · have hil : i < p.resets.length := by omega
    obtain ⟨r, hr⟩ : ∃ r, p.resets[i] = r := ⟨_, rfl⟩
    have hmem : r ∈ p.resets := by rw [← hr]; exact List.getElem_mem _
    have hget : (rL p.resets)[(i : Int).toNat]? = some (encR r) := by rw [Int.toNat_natCast, ← hr]; simp [rL, List.getElem?_eq_getElem hil]
    have haf := res_in hres r hmem
    have hrt := res_rt hres r hmem
    have ht6 : p.times <= 600 := by unfold shape3 at hshape; omega
    have hI : I64 r.rate := by unfold I64; omega
    have hn : 0 <= r.aft /\ r.aft < 1000000 := by omega
    have wi : IntKind.i64.wrap ((i : Int) + 1) = ((i + 1 : Nat) : Int) := by rw [wrap64 (by omega) (by omega)]; omega
    (repeat' first | (refine step_go [] ?_;conv=>whnf) | (refine two ?_ ?_<;>intro g<;>(try simp only[bsx]at g)<;>(conv=>whnf)) | (refine And.intro rfl ?_;conv=>whnf) | (refine dr_go (by decide +kernel) ?_;conv=>whnf) | (refine ⟨by omega, _, hget, rfl, ?_⟩;conv=>whnf) | (refine c_itoaP r.aft hn.1 hn.2 _ ?_;conv=>whnf) | (refine c_rate r.rate hI _ ?_;conv=>whnf) | fail)
    refine c_p3 p t q _ _ _ w_reset (dg r.aft.toNat) (rateS r.rate) (by rfl) (num_b hn).1 (rate_b hI).1 (by decide) (num_b hn).2 (rate_b hI).2 (by omega) _ fun t' q' e' z' => ?_
    conv=>whnf
    (repeat' first | (refine step_go [] ?_;conv=>whnf) | (refine two ?_ ?_<;>intro g<;>(try simp only[bsx]at g)<;>(conv=>whnf)) | (refine And.intro rfl ?_;conv=>whnf) | (refine dr_go (by decide +kernel) ?_;conv=>whnf) | (refine ⟨by omega, _, hget, rfl, ?_⟩;conv=>whnf) | fail)
    refine weak_sel (src := [0, 1]) ?_; conv=>whnf
    refine VLoop.enter (s' := S (i + 1, t', q')) (weak_of (by rw [wi]; (repeat' first | exact VWs.nil | refine VWs.cons VW.undef ?_ | refine VWs.cons (VW.eq rfl) ?_)) (.cons (.eq rfl) (.cons (.eq rfl) .nil)) rfl rfl rfl) (ih (i + 1, t', q') ⟨by simp only; omega, ?_, ?_⟩ (by simp only; omega))
    · simp only
      rw [e', es, take_flat _ _ _ hil, hr, List.append_assoc]; rfl
    · simp only; omega
  · have hie : i = p.resets.length := by omega
    subst hie
    rw [List.take_length] at es
    refine ⟨_, Weak.refl, ?_⟩
    conv=>whnf
    (repeat' first | (refine step_go [] ?_;conv=>whnf) | (refine two ?_ ?_<;>intro g<;>(try simp only[bsx]at g)<;>(conv=>whnf)) | (refine And.intro rfl ?_;conv=>whnf) | fail)
    exact ⟨_, _, Weak.refl, h t q (by rw [es, e2, e1]; simp only [List.append_assoc]) (by omega)⟩
end BP3

namespace BP4
open Go Go.Proofs VL D1 B5 B10 B12 B13 B14 BB1 BB2 BB4 BB5 BB8 BB9 C1 C2 C4 BP1 BP2 BP3 P1 P2
def orderS (p : Prod) : List Int := lnS (w_order ++ [32] ++ payW p.o1 ++ [32] ++ payW p.o2 ++ [32] ++ payW p.o3 ++ [32] ++ payW p.o4) ++ lnS (w_over ++ [32] ++ overW p.over)
theorem hm1 (b : ByteArray) : ∀ x : V, x ∈ [V.str b] -> x.cells.length = 0 + 1 := fun x hx => by rw [List.mem_singleton.1 hx]; rfl
theorem join5 (a b c d e : ByteArray) : joinB [a, b, c, d, e] = a ++ (spc ++ b ++ (spc ++ c ++ (spc ++ d ++ (spc ++ e ++ ⟨#[]⟩)))) := rfl
set_option maxHeartbeats 4000000 in
theorem c_order (p : Prod) (hp : checkP p) {mv : Bool} (s : ByteArray) (sp : List V) (hs : s.size <= 400000) (K : Out -> List VObj -> Prop) (h : ∀ t sp', sB t = sB s ++ orderS p -> t.size <= s.size + 200 -> K (.ret (.tup [])) (oS p true t sp')) :
 VCall Tryz.prog 25 [.ptr 0 0] (oS p mv s sp) K := by
 obtain ⟨_, _, ⟨⟨g1, g2, g3, g4, _⟩, hover⟩, _⟩ := hp
 unfold orderS at h
 have hz : ∀ n, (toBA (payW n)).size <= 10 := fun n => (payW_b n).2
 unfold oS
 cases mv
 all_goals
  refine call_fun [] 2 Tryz.func25 (by rfl) (by rfl) ?_; (conv=>whnf); (repeat (refine step_go [] ?_;conv=>whnf))
  (repeat' first | (refine step_go [] ?_;conv=>whnf) | (refine two ?_ ?_<;>intro g<;>(try simp only[bsx]at g)<;>(conv=>whnf)) | (refine And.intro rfl ?_;conv=>whnf) | (refine loop_round [] ?_;conv=>whnf) | (refine ⟨_, Weak.refl, ?_⟩;conv=>whnf) | (refine ⟨by decide, by decide, ?_⟩;conv=>whnf) | (refine ix5 (pk_pay g1) ?_;conv=>whnf) | (refine ix5 (pk_pay g2) ?_;conv=>whnf) | (refine ix5 (pk_pay g3) ?_;conv=>whnf) | (refine ix5 (pk_pay g4) ?_;conv=>whnf) | (refine ⟨Nat.le_of_ble_eq_true rfl, hm1 _, ?_⟩;conv=>whnf) | (refine ⟨hm1 _, ?_⟩;conv=>whnf) | fail)
  have hz5 : (joinB [⟨#[111, 114, 100, 101, 114]⟩, toBA (payW p.o1), toBA (payW p.o2), toBA (payW p.o3), toBA (payW p.o4)]).size <= 60 := by
   rw [join5]; simp only [ByteArray.size_append]
   have h1 : spc.size = 1 := rfl
   have h2 : (⟨#[]⟩ : ByteArray).size = 0 := rfl
   have h3 : (⟨#[111, 114, 100, 101, 114]⟩ : ByteArray).size = 5 := rfl
   have := hz p.o1; have := hz p.o2; have := hz p.o3; have := hz p.o4
   omega
  have he5 : sB (joinB [⟨#[111, 114, 100, 101, 114]⟩, toBA (payW p.o1), toBA (payW p.o2), toBA (payW p.o3), toBA (payW p.o4)]) = w_order ++ [32] ++ payW p.o1 ++ [32] ++ payW p.o2 ++ [32] ++ payW p.o3 ++ [32] ++ payW p.o4 := by
   rw [join5]
   simp only [sB_app, sB_toBA (payW_b _).1, sB_nil, sB_spc, List.append_assoc, List.append_nil]; rfl
  refine c_plineN p s sp ⟨#[111, 114, 100, 101, 114]⟩ [toBA (payW p.o1), toBA (payW p.o2), toBA (payW p.o3), toBA (payW p.o4)] (by simp) (by simp) (by omega) (by omega) _ fun t1 q1 e1 z1 => ?_
  conv=>whnf
  (repeat' first | (refine step_go [] ?_;conv=>whnf) | (refine two ?_ ?_<;>intro g<;>(try simp only[bsx]at g)<;>(conv=>whnf)) | (refine And.intro rfl ?_;conv=>whnf) | (refine ix4 (pk_over hover) ?_;conv=>whnf) | fail)
  refine c_p2 p t1 q1 _ _ w_over (overW p.over) (by rfl) (sB_toBA (overW_b _).1) (by decide) (Nat.le_trans (overW_b _).2 (by decide)) (by omega) _ fun t2 q2 e2 z2 => ?_
  conv=>whnf
  (repeat' first | (refine step_go [] ?_;conv=>whnf) | (refine two ?_ ?_<;>intro g<;>(try simp only[bsx]at g)<;>(conv=>whnf)) | (refine And.intro rfl ?_;conv=>whnf) | fail)
  exact h t2 q2 (by rw [e2, e1, he5, List.append_assoc]) (by omega)
theorem tier_fee : ∀ {q : Option Ti} {l : List Ti}, tiersP q l -> ∀ r ∈ l, 0 <= r.fee /\ r.fee <= 10000000000000
 | _, [], _, r, hr => by cases hr
 | q, x :: l, h, r, hr => by
   rcases List.mem_cons.1 hr with rfl | hr
   · exact h.2.1
   · exact tier_fee h.2.2.2 r hr
def lateL (p : Prod) : List Int := p.late.flatMap lateS ++ lnS (w_cap ++ [32] ++ moneyS p.cap)
set_option maxHeartbeats 4000000 in
theorem c_late (p : Prod) (hp : checkP p) {mv : Bool} (s : ByteArray) (sp : List V) (hs : s.size <= 400000) (K : Out -> List VObj -> Prop) (h : ∀ t sp', sB t = sB s ++ lateL p -> t.size <= s.size + 1140 -> K (.ret (.tup [])) (oS p true t sp')) :
 VCall Tryz.prog 26 [.ptr 0 0] (oS p mv s sp) K := by
 obtain ⟨_, _, _, ⟨hll, hcap, hlc, htie⟩, _⟩ := hp
 unfold lateL at h
 have hic : I64 p.cap := by unfold I64; omega
 have hlr : (tL p.late).length = p.late.length := by simp [tL]
 refine VCall.weak ?_
 unfold oS
 cases mv
 all_goals
  refine call_fun [] 2 Tryz.func26 (by rfl) (by rfl) ?_; (conv=>whnf); (repeat (refine step_go [] ?_;conv=>whnf))
  let S : Nat × ByteArray × List V -> St := fun x => ⟨(.ptr 0 0 :: .undef :: .undef :: .undef :: .undef :: .undef :: .undef :: .undef :: .sl (tL p.late) .no :: .int .i64 (p.late.length : Nat) :: .int .i64 (x.1 : Nat) :: .undef :: .undef :: .undef :: .undef :: .undef :: .undef :: .undef :: .undef :: .undef :: .undef :: .undef :: .undef :: .undef :: .undef :: .undef :: .undef :: .undef :: .undef :: .undef :: .undef :: .undef :: .undef :: []), oS p true x.2.1 x.2.2, 0, []⟩
  refine VLoop.enter (s' := S (0, s, sp)) (weak_of (by rw [hlr]; (repeat' first | exact VWs.nil | refine VWs.cons VW.undef ?_ | refine VWs.cons (VW.eq rfl) ?_)) (.cons (.eq rfl) (.cons (by first | exact .eq rfl | exact .moved) .nil)) rfl rfl rfl) (VLoop.indW S (fun x => p.late.length - x.1) (fun x => x.1 <= p.late.length /\ sB x.2.1 = sB s ++ (p.late.take x.1).flatMap lateS /\ x.2.1.size <= s.size + 130 * x.1) ?_ (0, s, sp) ⟨Nat.zero_le _, by simp, by simp⟩)
  rintro ⟨i, t, q⟩ ⟨hi, es, zs⟩ ih
  simp only at hi es zs
  dsimp only [S]
  unfold oS
  refine loop_round [] ?_; conv=>whnf
  (repeat' first | (refine step_go [] ?_;conv=>whnf) | (refine two ?_ ?_<;>intro g<;>(try simp only[bsx]at g)<;>(conv=>whnf)) | (refine And.intro rfl ?_;conv=>whnf) | fail)
  · have hil : i < p.late.length := by omega
    obtain ⟨r, hr⟩ : ∃ r, p.late[i] = r := ⟨_, rfl⟩
    have hmem : r ∈ p.late := by rw [← hr]; exact List.getElem_mem _
    have hget : (tL p.late)[(i : Int).toNat]? = some (encT r) := by rw [Int.toNat_natCast, ← hr]; simp [tL, List.getElem?_eq_getElem hil]
    have haf := tier_in htie r hmem
    have hrt := tier_fee htie r hmem
    have hI : I64 r.fee := by unfold I64; omega
    have hn : 0 <= r.days /\ r.days < 1000000 := by omega
    have wi : IntKind.i64.wrap ((i : Int) + 1) = ((i + 1 : Nat) : Int) := by rw [wrap64 (by omega) (by omega)]; omega
    (repeat' first | (refine step_go [] ?_;conv=>whnf) | (refine two ?_ ?_<;>intro g<;>(try simp only[bsx]at g)<;>(conv=>whnf)) | (refine And.intro rfl ?_;conv=>whnf) | (refine dr_go (by decide +kernel) ?_;conv=>whnf) | (refine ⟨by omega, _, hget, rfl, ?_⟩;conv=>whnf) | (refine c_itoaP r.days hn.1 hn.2 _ ?_;conv=>whnf) | (refine c_money r.fee hI _ ?_;conv=>whnf) | fail)
    refine c_p3 p t q _ _ _ w_late (dg r.days.toNat) (moneyS r.fee) (by rfl) (num_b hn).1 (mon_b hI).1 (by decide) (num_b hn).2 (mon_b hI).2 (by omega) _ fun t' q' e' z' => ?_
    conv=>whnf
    (repeat' first | (refine step_go [] ?_;conv=>whnf) | (refine two ?_ ?_<;>intro g<;>(try simp only[bsx]at g)<;>(conv=>whnf)) | (refine And.intro rfl ?_;conv=>whnf) | (refine dr_go (by decide +kernel) ?_;conv=>whnf) | (refine ⟨by omega, _, hget, rfl, ?_⟩;conv=>whnf) | fail)
    refine weak_sel (src := [0, 1]) ?_; conv=>whnf
    refine VLoop.enter (s' := S (i + 1, t', q')) (weak_of (by rw [wi]; (repeat' first | exact VWs.nil | refine VWs.cons VW.undef ?_ | refine VWs.cons (VW.eq rfl) ?_)) (.cons (.eq rfl) (.cons (.eq rfl) .nil)) rfl rfl rfl) (ih (i + 1, t', q') ⟨by simp only; omega, ?_, ?_⟩ (by simp only; omega))
    · simp only
      rw [e', es, take_flat _ _ _ hil, hr, List.append_assoc]; rfl
    · simp only; omega
  · have hie : i = p.late.length := by omega
    subst hie
    rw [List.take_length] at es
    refine ⟨_, Weak.refl, ?_⟩
    conv=>whnf
    (repeat' first | (refine step_go [] ?_;conv=>whnf) | (refine two ?_ ?_<;>intro g<;>(try simp only[bsx]at g)<;>(conv=>whnf)) | (refine And.intro rfl ?_;conv=>whnf) | (refine c_money p.cap hic _ ?_;conv=>whnf) | fail)
    refine c_p2 p t q _ _ w_cap (moneyS p.cap) (by rfl) (mon_b hic).1 (by decide) (mon_b hic).2 (by omega) _ fun t2 q2 e2 z2 => ?_
    conv=>whnf
    (repeat' first | (refine step_go [] ?_;conv=>whnf) | (refine two ?_ ?_<;>intro g<;>(try simp only[bsx]at g)<;>(conv=>whnf)) | (refine And.intro rfl ?_;conv=>whnf) | fail)
    exact ⟨_, _, Weak.refl, h t2 q2 (by rw [e2, es, List.append_assoc]) (by omega)⟩
noncomputable def daysL (p : Prod) : List Int := lnS (w_roll ++ [32] ++ rollW p.roll) ++ p.hol.flatMap holS
set_option maxHeartbeats 4000000 in
theorem c_days (p : Prod) (hp : checkP p) {mv : Bool} (s : ByteArray) (sp : List V) (hs : s.size <= 400000) (K : Out -> List VObj -> Prop) (h : ∀ t sp', sB t = sB s ++ daysL p -> t.size <= s.size + 20100 -> K (.ret (.tup [])) (oS p true t sp')) :
 VCall Tryz.prog 27 [.ptr 0 0] (oS p mv s sp) K := by
 obtain ⟨_, _, _, _, ⟨⟨hhl, hhol⟩, hroll, hrh⟩⟩ := hp
 unfold daysL at h
 have hlr : (BB14.iL p.hol).length = p.hol.length := by simp [BB14.iL]
 refine VCall.weak ?_
 unfold oS
 cases mv
 all_goals
  refine call_fun [] 2 Tryz.func27 (by rfl) (by rfl) ?_; (conv=>whnf); (repeat (refine step_go [] ?_;conv=>whnf))
  refine ix5 (pk_roll hroll) ?_; (conv=>whnf); (repeat (refine step_go [] ?_;conv=>whnf))
  refine c_p2 p s sp _ _ w_roll (rollW p.roll) (by rfl) (sB_toBA (rollW_b _).1) (by decide) (Nat.le_trans (rollW_b _).2 (by decide)) (by omega) _ fun t2 q2 e2 z2 => ?_
  (conv=>whnf); (repeat (refine step_go [] ?_;conv=>whnf))
  let S : Nat × ByteArray × List V -> St := fun x => ⟨(.ptr 0 0 :: .undef :: .undef :: .undef :: .undef :: .undef :: .undef :: .undef :: .undef :: .undef :: .undef :: .undef :: .undef :: .undef :: .undef :: .undef :: .undef :: .undef :: .undef :: .undef :: .sl (BB14.iL p.hol) .no :: .int .i64 (p.hol.length : Nat) :: .int .i64 (x.1 : Nat) :: .undef :: .undef :: .undef :: .undef :: .undef :: .undef :: .undef :: .undef :: .undef :: .undef :: .undef :: .undef :: .undef :: []), oS p true x.2.1 x.2.2, 0, []⟩
  refine VLoop.enter (s' := S (0, t2, q2)) (weak_of (by rw [hlr]; (repeat' first | exact VWs.nil | refine VWs.cons VW.undef ?_ | refine VWs.cons (VW.eq rfl) ?_)) (.cons (.eq rfl) (.cons (.eq rfl) .nil)) rfl rfl rfl) (VLoop.indW S (fun x => p.hol.length - x.1) (fun x => x.1 <= p.hol.length /\ sB x.2.1 = sB t2 ++ (p.hol.take x.1).flatMap holS /\ x.2.1.size <= t2.size + 100 * x.1) ?_ (0, t2, q2) ⟨Nat.zero_le _, by simp, by simp⟩)
  rintro ⟨i, t, q⟩ ⟨hi, es, zs⟩ ih
  simp only at hi es zs
  dsimp only [S]
  unfold oS
  refine loop_round [] ?_; conv=>whnf
  (repeat' first | (refine step_go [] ?_;conv=>whnf) | (refine two ?_ ?_<;>intro g<;>(try simp only[bsx]at g)<;>(conv=>whnf)) | (refine And.intro rfl ?_;conv=>whnf) | fail)
  · have hil : i < p.hol.length := by omega
    obtain ⟨r, hr⟩ : ∃ r, p.hol[i] = r := ⟨_, rfl⟩
    have hmem : r ∈ p.hol := by rw [← hr]; exact List.getElem_mem _
    have hget : (BB14.iL p.hol)[(i : Int).toNat]? = some (.int .i64 r) := by rw [Int.toNat_natCast, ← hr]; simp [BB14.iL, List.getElem?_eq_getElem hil]
    have haf := hol_in hhol r hmem
    have wi : IntKind.i64.wrap ((i : Int) + 1) = ((i + 1 : Nat) : Int) := by rw [wrap64 (by omega) (by omega)]; omega
    (repeat' first | (refine step_go [] ?_;conv=>whnf) | (refine two ?_ ?_<;>intro g<;>(try simp only[bsx]at g)<;>(conv=>whnf)) | (refine And.intro rfl ?_;conv=>whnf) | (refine ⟨by omega, _, hget, rfl, ?_⟩;conv=>whnf) | fail)
    refine c_ctext r haf.1 haf.2 _ fun y m d hd => ?_
    conv=>whnf
    (repeat' first | (refine step_go [] ?_;conv=>whnf) | (refine two ?_ ?_<;>intro g<;>(try simp only[bsx]at g)<;>(conv=>whnf)) | (refine And.intro rfl ?_;conv=>whnf) | fail)
    refine c_p2 p t q _ _ w_holiday (dateT r) (by rfl) (by rw [dateT_in hd]; exact sB_toBA (dtS_b y m d)) (by decide) (by rw [toBA_size, dt_len]; decide) (by omega) _ fun t' q' e' z' => ?_
    conv=>whnf
    (repeat' first | (refine step_go [] ?_;conv=>whnf) | (refine two ?_ ?_<;>intro g<;>(try simp only[bsx]at g)<;>(conv=>whnf)) | (refine And.intro rfl ?_;conv=>whnf) | fail)
    refine ⟨S (i + 1, t', q'), weak_of (by rw [wi]; (repeat' first | exact VWs.nil | refine VWs.cons VW.undef ?_ | refine VWs.cons (VW.eq rfl) ?_)) (.cons (.eq rfl) (.cons (.eq rfl) .nil)) rfl rfl rfl, ih (i + 1, t', q') ⟨by simp only; omega, ?_, ?_⟩ (by simp only; omega)⟩
    · simp only
      rw [e', es, take_flat _ _ _ hil, hr, List.append_assoc]; rfl
    · simp only; omega
  · have hie : i = p.hol.length := by omega
    subst hie
    rw [List.take_length] at es
    refine ⟨_, Weak.refl, ?_⟩
    conv=>whnf
    (repeat' first | (refine step_go [] ?_;conv=>whnf) | (refine two ?_ ?_<;>intro g<;>(try simp only[bsx]at g)<;>(conv=>whnf)) | (refine And.intro rfl ?_;conv=>whnf) | fail)
    exact ⟨_, _, Weak.refl, h t q (by rw [es, e2, List.append_assoc]) (by omega)⟩
end BP4

namespace BP5
open Go Go.Proofs VL D1 B5 B10 B12 B13 B14 BB1 BB2 BB4 BB5 BB8 BB9 C1 C2 C4 C6 C14 BP1 BP2 BP3 BP4 P1 P2
theorem print_parts (p : Prod) : printS p = (((((w_product ++ [32] ++ sB p.name ++ [32, 123, 10]) ++ firstS p) ++ ratesS p) ++ orderS p) ++ lateL p) ++ daysL p ++ [125, 10] := by
 unfold printS firstS ratesS orderS lateL daysL
 simp only [List.append_assoc]
set_option maxHeartbeats 4000000 in
theorem c_Print (p : Prod) (hp : p.ok) (K : Out -> List VObj -> Prop)
 (h0 : checkP p -> (printS p).length <= 20000 -> ∀ t, sB t = printS p -> K (.ret (.tup [.str t, .int .i64 0])) [])
 (h1 : checkP p -> 20000 < (printS p).length -> K (.ret (.tup [.str ⟨#[]⟩, .int .i64 3])) [])
 (h2 : ¬ checkP p -> K (.ret (.tup [.str ⟨#[]⟩, .int .i64 9])) []) :
 VCall Tryz.prog 11 [encP p] [] K := by
 have hcc : checkP p -> checkC p = 0 := fun hh => by unfold checkC; rw [if_pos hh]
 have hcn : ¬ checkP p -> checkC p = 9 := fun hh => by unfold checkC; rw [if_neg hh]
 have hcall := c_Check p hp
 obtain ⟨cc, hcd⟩ : ∃ cc, checkC p = cc := ⟨_, rfl⟩
 rw [hcd] at hcc hcn hcall
 unfold encP cellsP at *
 refine VCall.weak ?_
 refine call_fun [] 0 Tryz.func11 (by rfl) (by rfl) ?_
 conv=>whnf
 (repeat' first | (refine step_go [] ?_;conv=>whnf) | (refine two ?_ ?_<;>intro g<;>(try simp only[bsx]at g)<;>(conv=>whnf)) | (refine And.intro rfl ?_;conv=>whnf) | fail)
 refine hcall _ ?_
 conv=>whnf
 (repeat' first | (refine step_go [] ?_;conv=>whnf) | (refine two ?_ ?_<;>intro g<;>(try simp only[bsx]at g)<;>(conv=>whnf)) | (refine And.intro rfl ?_;conv=>whnf) | fail)
 · have hn : ¬ checkP p := fun hh => g (hcc hh)
   rw [hcn hn]
   exact ⟨_, _, Weak.refl, h2 hn⟩
 have hck : checkP p := by
  by_cases hh : checkP p
  · exact hh
  · have := hcn hh; omega
 clear h2 hcc hcn hcall hcd
 have hnl : p.name.size <= 20 := by have := hck.1.1.1.1.2.1; rw [sB_len] at this; exact this
 refine ⟨szL (n := 10) (m := 20) (by decide) hnl (by decide), ?_⟩
 conv=>whnf
 (repeat' first | (refine step_go [] ?_;conv=>whnf) | (refine two ?_ ?_<;>intro g<;>(try simp only[bsx]at g)<;>(conv=>whnf)) | (refine And.intro rfl ?_;conv=>whnf) | fail)
 refine ⟨szL (n := 30) (m := 5) (szA (n := 10) (m := 20) (by decide) hnl) (by decide) (by decide), ?_⟩
 conv=>whnf
 obtain ⟨s1, hs1⟩ : ∃ s1 : ByteArray, s1 = ⟨#[112, 114, 111, 100, 117, 99, 116, 32]⟩ ++ p.name ++ ⟨#[32, 123, 10]⟩ := ⟨_, rfl⟩
 have es1 : sB s1 = w_product ++ [32] ++ sB p.name ++ [32, 123, 10] := by rw [hs1, sB_app, sB_app]; rfl
 have zs1 : s1.size <= 35 := by rw [hs1]; exact szA (n := 30) (m := 5) (szA (n := 10) (m := 20) (by decide) hnl) (by decide)
 rw [← hs1]
 clear hs1
 (repeat' first | (refine step_go [] ?_;conv=>whnf) | (refine two ?_ ?_<;>intro g<;>(try simp only[bsx]at g)<;>(conv=>whnf)) | (refine And.intro rfl ?_;conv=>whnf) | fail)
 refine c_wsP0 p s1 (by omega) _ fun q0 => ?_
 conv=>whnf
 (repeat' first | (refine step_go [] ?_;conv=>whnf) | (refine two ?_ ?_<;>intro g<;>(try simp only[bsx]at g)<;>(conv=>whnf)) | (refine And.intro rfl ?_;conv=>whnf) | (refine loop_round [] ?_;conv=>whnf) | (refine ⟨_, Weak.refl, ?_⟩;conv=>whnf) | (refine ⟨by decide, _, rfl, rfl, ?_⟩;conv=>whnf) | fail)
 refine c_first p hck s1 q0 (by omega) _ fun t1 q1 e1 z1 => ?_
 conv=>whnf
 (repeat' first | (refine step_go [] ?_;conv=>whnf) | (refine two ?_ ?_<;>intro g<;>(try simp only[bsx]at g)<;>(conv=>whnf)) | (refine And.intro rfl ?_;conv=>whnf) | (refine loop_round [] ?_;conv=>whnf) | (refine ⟨_, Weak.refl, ?_⟩;conv=>whnf) | (refine ⟨by decide, _, rfl, rfl, ?_⟩;conv=>whnf) | fail)
 refine c_rates p hck t1 q1 (by omega) _ fun t2 q2 e2 z2 => ?_
 conv=>whnf
 (repeat' first | (refine step_go [] ?_;conv=>whnf) | (refine two ?_ ?_<;>intro g<;>(try simp only[bsx]at g)<;>(conv=>whnf)) | (refine And.intro rfl ?_;conv=>whnf) | (refine loop_round [] ?_;conv=>whnf) | (refine ⟨_, Weak.refl, ?_⟩;conv=>whnf) | (refine ⟨by decide, _, rfl, rfl, ?_⟩;conv=>whnf) | fail)
 refine c_order p hck t2 q2 (by omega) _ fun t3 q3 e3 z3 => ?_
 conv=>whnf
 (repeat' first | (refine step_go [] ?_;conv=>whnf) | (refine two ?_ ?_<;>intro g<;>(try simp only[bsx]at g)<;>(conv=>whnf)) | (refine And.intro rfl ?_;conv=>whnf) | (refine loop_round [] ?_;conv=>whnf) | (refine ⟨_, Weak.refl, ?_⟩;conv=>whnf) | (refine ⟨by decide, _, rfl, rfl, ?_⟩;conv=>whnf) | fail)
 refine c_late p hck t3 q3 (by omega) _ fun t4 q4 e4 z4 => ?_
 conv=>whnf
 (repeat' first | (refine step_go [] ?_;conv=>whnf) | (refine two ?_ ?_<;>intro g<;>(try simp only[bsx]at g)<;>(conv=>whnf)) | (refine And.intro rfl ?_;conv=>whnf) | (refine loop_round [] ?_;conv=>whnf) | (refine ⟨_, Weak.refl, ?_⟩;conv=>whnf) | (refine ⟨by decide, _, rfl, rfl, ?_⟩;conv=>whnf) | fail)
 refine c_days p hck t4 q4 (by omega) _ fun t5 q5 e5 z5 => ?_
 conv=>whnf
 (repeat' first | (refine step_go [] ?_;conv=>whnf) | (refine two ?_ ?_<;>intro g<;>(try simp only[bsx]at g)<;>(conv=>whnf)) | (refine And.intro rfl ?_;conv=>whnf) | (refine loop_round [] ?_;conv=>whnf) | (refine ⟨_, Weak.refl, ?_⟩;conv=>whnf) | fail)
 have hz : (⟨#[125, 10]⟩ : ByteArray).size = 2 := rfl
 refine c_wsP p _ t5 q5 ⟨#[125, 10]⟩ (by rw [hz]; omega) _ fun q6 => ?_
 have et : sB (t5 ++ ⟨#[125, 10]⟩) = printS p := by
  rw [sB_app, e5, e4, e3, e2, e1, es1, print_parts]; rfl
 have zt : (t5 ++ ⟨#[125, 10]⟩ : ByteArray).size <= 30000 := by rw [ByteArray.size_append, hz]; omega
 have zt0 : 0 < (t5 ++ ⟨#[125, 10]⟩ : ByteArray).size := by rw [ByteArray.size_append, hz]; omega
 obtain ⟨T, hT⟩ : ∃ T : ByteArray, T = t5 ++ ⟨#[125, 10]⟩ := ⟨_, rfl⟩
 rw [← hT] at et zt zt0 ⊢
 have hlen : (printS p).length = T.size := by rw [← et, sB_len]
 rw [hlen] at h0 h1
 conv=>whnf
 (repeat' first | (refine step_go [] ?_;conv=>whnf) | (refine two ?_ ?_<;>intro g<;>(try simp only[bsx]at g)<;>(conv=>whnf)) | (refine And.intro rfl ?_;conv=>whnf) | fail)
 refine c_lenP p _ T q6 _ ?_
 conv=>whnf
 (repeat' first | (refine step_go [] ?_;conv=>whnf) | (refine two ?_ ?_<;>intro g<;>(try simp only[bsx]at g)<;>(conv=>whnf)) | (refine And.intro rfl ?_;conv=>whnf) | fail)
 · exact ⟨_, _, Weak.refl, h1 hck (by omega)⟩
 refine c_strP p _ T q6 zt0 (by omega) _ ?_
 conv=>whnf
 (repeat' first | (refine step_go [] ?_;conv=>whnf) | (refine two ?_ ?_<;>intro g<;>(try simp only[bsx]at g)<;>(conv=>whnf)) | (refine And.intro rfl ?_;conv=>whnf) | fail)
 exact ⟨_, _, weak_of (.cons (.eq rfl) .nil) .nil rfl rfl rfl, h0 hck (by omega) T et⟩
end BP5

namespace PL1
open Go Go.Proofs VL D1 B2 B15 B10 BB6 BB10 BB14 C1 C2 C6 C10 C11 C12 C13 C14 C15 C16 C17 C18
def plain0 : Prod := ⟨⟨#[104, 111, 109, 101]⟩, 2, 1, 1, 1, 12, 0, 60000000, [], 100000000, 1, 2, 3, 4, 1, [], 0, 1, []⟩
theorem c_Plain (K : Out -> List VObj -> Prop) (h : K (.ret (encP plain0)) []) : VCall Tryz.prog 20 [] [] K := by
 refine VCall.weak ?_
 refine call_fun [] 0 Tryz.func20 (by rfl) (by rfl) ?_
 conv=>whnf
 (repeat' first | (refine step_go [] ?_;conv=>whnf) | (refine two ?_ ?_<;>intro g<;>(try simp only[bsx]at g)<;>(conv=>whnf)) | (refine And.intro rfl ?_;conv=>whnf) | fail)
 refine ⟨_, _, weak_of (.cons (.agg ?_) .nil) .nil rfl rfl rfl, h⟩
 (repeat' first | exact VQs.nil | refine VQs.cons VQ.no ?_ | refine VQs.cons VQ.spare ?_ | refine VQs.cons (VQ.eq rfl) ?_)
@[reducible] def um (v : Int) (n : Int) : Int := IntKind.i64.wrap ((IntKind.u64.wrap v).tmod n)
theorem um_in (v : Int) {n : Int} (h : 1 <= n) (h2 : n <= 4000000000000000000) : 0 <= um v n /\ um v n < n := by
 have h3 : 0 <= IntKind.u64.wrap v := (wrapu64_range v).1
 have h4 := Int.tmod_lt_of_pos (IntKind.u64.wrap v) (b := n) (by omega)
 have h5 := Int.tmod_nonneg n h3
 unfold um
 rw [wrap64 (by omega) (by omega)]
 exact ⟨h5, h4⟩
theorem um1 (v : Int) {n : Int} (h : 1 <= n) (h2 : n <= 4000000000000000000) : IntKind.i64.wrap (1 + um v n) = 1 + um v n := by
 have := um_in v h h2
 rw [wrap64 (by omega) (by omega)]
def rndP (n : Int) : Int := if n = 0 then 1 else 3
def everyP (n : Int) : Int := if n = 0 then 1 else if n = 1 then 2 else if n = 2 then 3 else if n = 3 then 4 else if n = 4 then 6 else 12
theorem get_rndP {n : Int} (h : 0 <= n /\ n < 2) : ([.int .i64 1, .int .i64 3] : List V)[n.toNat]? = some (.int .i64 (rndP n)) := by
 have : n = 0 \/ n = 1 := by omega
 rcases this with rfl | rfl <;> rfl
theorem get_everyP {n : Int} (h : 0 <= n /\ n < 6) : ([.int .i64 1, .int .i64 2, .int .i64 3, .int .i64 4, .int .i64 6, .int .i64 12] : List V)[n.toNat]? = some (.int .i64 (everyP n)) := by
 have : n = 0 \/ n = 1 \/ n = 2 \/ n = 3 \/ n = 4 \/ n = 5 := by omega
 rcases this with rfl | rfl | rfl | rfl | rfl | rfl <;> rfl
def near0 (p : Prod) (t : Int) : Prod := ⟨⟨#[104, 111, 109, 101]⟩, IntKind.i64.wrap (1 + um p.count 3), rndP (um p.rnd 2), IntKind.i64.wrap (1 + um p.kind 3), everyP (um p.every 6), IntKind.i64.wrap (1 + IntKind.i64.wrap ((IntKind.u64.wrap p.times).tmod (IntKind.u64.wrap t))), 0, um p.rate 300000000, [], um p.pen 500000000, 1, 2, 3, 4, IntKind.i64.wrap (1 + um p.over 3), [], 0, 1, []⟩
noncomputable def near1 (p : Prod) (t : Int) : Prod := if checkP p then p else near0 p t
def near2 (p : Prod) (t : Int) : Prod := if t < p.times then { p with times := t, resets := [] } else p
def near3 (p : Prod) : Prod := if p.times <= p.grace \/ p.kind = 3 then { p with grace := 0 } else p
noncomputable def playP (p : Prod) (t : Int) : Prod := near3 (near2 (near1 p t) t)
set_option maxHeartbeats 4000000 in
theorem c_play (p : Prod) (hp : p.okW) (t : Int) (ht : 1 <= t /\ t <= 600) (K : Out -> List VObj -> Prop) (h : K (.ret (encP (playP p t))) []) : VCall Tryz.prog 16 [encP p, .int .i64 t] [] K := by
 refine VCall.weak ?_
 have hcall := c_rCheck p hp
 have hc0 : checkC p = 0 -> near1 p t = p := fun hh => by unfold checkC at hh; split at hh; exact if_pos (by assumption); cases hh
 have hc9 : checkC p ≠ 0 -> near1 p t = near0 p t := fun hh => by unfold checkC at hh; split at hh; exact absurd rfl hh; exact if_neg (by assumption)
 obtain ⟨cc, hcd⟩ : ∃ cc, checkC p = cc := ⟨_, rfl⟩
 rw [hcd] at hcall hc0 hc9
 clear hcd
 unfold playP at h
 have hut : IntKind.u64.wrap t = t := wrapu64 (by omega) (by omega)
 refine call_fun [] 0 Tryz.func16 (by rfl) (by rfl) ?_
 conv=>whnf
 (repeat' first | (refine step_go [] ?_;conv=>whnf) | (refine two ?_ ?_<;>intro g<;>(try simp only[bsx]at g)<;>(conv=>whnf)) | (refine And.intro rfl ?_;conv=>whnf) | (refine dr_go (by decide +kernel) ?_;conv=>whnf) | (refine c_Plain _ ?_;conv=>whnf) | (refine hcall _ ?_;conv=>whnf) | (refine ⟨(by decide : (3 : Int) ≠ 0), ?_⟩;conv=>whnf) | (refine ⟨(by decide : (2 : Int) ≠ 0), ?_⟩;conv=>whnf) | (refine ⟨(by decide : (6 : Int) ≠ 0), ?_⟩;conv=>whnf) | (refine ⟨(by decide : (300000000 : Int) ≠ 0), ?_⟩;conv=>whnf) | (refine ⟨(by decide : (500000000 : Int) ≠ 0), ?_⟩;conv=>whnf) | (refine ⟨(by rw [hut]; omega : IntKind.u64.wrap t ≠ 0), ?_⟩;conv=>whnf) | (refine ⟨(um_in p.rnd (n := 2) (by decide) (by decide)).1, _, get_rndP (um_in p.rnd (n := 2) (by decide) (by decide)), rfl, ?_⟩;conv=>whnf) | (refine ⟨(um_in p.every (n := 6) (by decide) (by decide)).1, _, get_everyP (um_in p.every (n := 6) (by decide) (by decide)), rfl, ?_⟩;conv=>whnf) | fail)
 all_goals
  first
  | rw [hc0 (by assumption)] at h
  | rw [hc9 (by assumption)] at h
  unfold near2 at h
  first
  | rw [if_pos (by assumption)] at h
  | rw [if_neg (Int.not_lt.2 (by assumption))] at h
  unfold near3 at h
  first
  | rw [if_pos (Or.inl (by assumption))] at h
  | rw [if_pos (Or.inr (by assumption))] at h
  | rw [if_neg (not_or.2 ⟨Int.not_le.2 (by assumption), by assumption⟩)] at h
  refine ⟨_, _, weak_of (.cons (.agg ?_) .nil) .nil rfl rfl rfl, h⟩
  (repeat' first | exact VQs.nil | refine VQs.cons VQ.no ?_ | refine VQs.cons VQ.spare ?_ | refine VQs.cons (VQ.eq rfl) ?_)
end PL1

namespace BW1
open Go Go.Proofs VL B10 BB6 BB10 BB11 BB14 C1 C2
theorem r_len (l : List Rs) : (rL l).length = l.length := by simp [rL]
theorem r_app (l m : List Rs) : rL l ++ rL m = rL (l ++ m) := by simp [rL]
theorem r_get (l : List Rs) (i : Nat) : (rL l)[i]? = (l[i]?).map encR := by simp [rL]
theorem r_cells {l : List Rs} : ∀ x ∈ rL l, x.cells.length = 2 := by
 intro x hx
 obtain ⟨n, _, rfl⟩ := List.mem_map.1 hx
 rfl
theorem r_eq (a b : Rs) : a = b ↔ a.aft = b.aft /\ a.rate = b.rate := by
 constructor
 · rintro rfl; simp
 · cases a; cases b; simp
instance : DecidableEq Rs := fun a b => decidable_of_iff _ (r_eq a b).symm
theorem r_own (l : List Rs) (f : Rs) (hl : l.length < 1000000) (K) (h : K (.ret (.spare (rL l) (rL [f, f, f]))) []) : VCall Tryz.prog 8 [.sl (rL l) .no, encR f] [] K := by
 have hlen := r_len l
 refine call_fun [] 0 Tryz.func8 (by rfl) (by rfl) ?_
 conv=>whnf
 refine step_go [] ?_; conv=>whnf
 rw [show IntKind.i64.wrap (↑(rL l).length + 3) = (((rL l).length + 3 : Nat) : Int) by rw [wrap64 (by omega) (by omega)]; omega, Int.toNat_natCast]
 refine ⟨by omega, by omega, ?_, by omega, ?_⟩
 · show _ * ((16 : Nat) : Int) <= _; omega
 conv=>whnf
 refine step_go [] ?_; conv=>whnf
 refine ⟨by simp; omega, r_cells, yes (Nat.ble_eq_true_of_le (by omega)) ⟨by simp, ?_⟩⟩
 conv=>whnf
 refine step_go [] ?_; conv=>whnf
 rw [show IntKind.i64.wrap (↑(rL l).length + 3) = (((rL l).length + 3 : Nat) : Int) by rw [wrap64 (by omega) (by omega)]; omega, Int.toNat_natCast]
 refine ⟨by omega, by omega, by omega, ?_⟩
 conv=>whnf
 refine step_go [] ?_; conv=>whnf
 refine step_go [] ?_; conv=>whnf
 let S : Nat -> St := fun i => ⟨(.sl (rL l) .no :: encR f :: .undef :: .ptr 0 0 :: .sl [] .ex :: .slo 1 2 0 l.length (l.length + 3) :: .slo 1 2 0 (l.length + 3) (l.length + 3) :: .int .i64 ((l.length + i : Nat) : Int) :: .undef :: .undef :: .undef :: .undef :: .undef :: .undef :: .undef :: .undef :: .undef :: .undef :: .undef :: .undef :: .undef :: .undef :: .undef :: .undef :: .undef :: .undef :: .undef :: .undef :: .undef :: .undef :: .undef :: .undef :: .undef :: []), [.cells true 31 [.int .i64 f.aft, .int .i64 f.rate], .buf false 2 (rL l ++ rL (List.replicate i f ++ List.replicate (3 - i) ⟨0, 0⟩))], 0, []⟩
 refine VLoop.enter (s' := S 0) (weak_of ?_ ?_ rfl rfl rfl) (VLoop.ind S 3 ?_ ?_)
 · repeat' first
    | exact VWs.nil
    | refine VWs.cons VW.undef ?_
    | refine VWs.cons (VW.eq rfl) ?_
    | refine VWs.cons (VW.eq (by simp [hlen])) ?_
 · refine .cons (.eq rfl) (.cons (.eq ?_) .nil)
   rw [hlen]
   simp only [Int.toNat_zero, Nat.zero_add, List.take_zero, List.nil_append, List.drop_replicate, Nat.add_sub_cancel_left, hlen]
   rfl
 have hlt : ∀ (a b : Int), a < b -> decide (a < b) = true := fun a b h => by simpa using h
 · intro i hi ih
   refine loop_round [] ?_; conv=>whnf
   refine step_go [] ?_; conv=>whnf
   refine yes (hlt _ _ (by omega)) ?_; conv=>whnf
   refine step_go [] ?_; conv=>whnf
   rw [Int.toNat_natCast]
   refine ⟨by omega, by omega, ?_⟩; conv=>whnf
   refine ⟨encR ⟨0, 0⟩, ?_, ?_⟩
   · rw [Nat.zero_add, List.getElem?_append_right (by rw [hlen]; omega), hlen, Nat.add_sub_cancel_left, r_get, List.getElem?_append_right (by simp), List.length_replicate, Nat.sub_self, List.getElem?_replicate, if_pos (by omega)]
     rfl
   conv=>whnf
   refine step_go [] ?_; conv=>whnf
   refine ⟨S (i + 1), weak_of ?_ ?_ rfl rfl rfl, ih⟩
   · repeat' first
      | exact VWs.nil
      | refine VWs.cons VW.undef ?_
      | refine VWs.cons (VW.eq rfl) ?_
      | refine VWs.cons (VW.eq (congrArg (V.int .i64) (by rw [wrap64 (by omega) (by omega)]; omega))) ?_
   · refine .cons (.eq rfl) (.cons (.eq (congrArg (VObj.buf false 2 · none) ?_)) .nil)
     obtain rfl | rfl | rfl : i = 0 \/ i = 1 \/ i = 2 := by omega
     all_goals simp [rL, List.set_append, List.replicate, V.remake, encR]
 · refine loop_round [] ?_; conv=>whnf
   refine step_go [] ?_; conv=>whnf
   refine no (by simp) ?_; conv=>whnf
   refine weak_frz 1 true ?_; conv=>whnf
   have hl3 : (rL l ++ rL (List.replicate 3 f ++ List.replicate (3 - 3) ⟨0, 0⟩)).length = l.length + 3 := by simp [rL]
   repeat' first
    | (refine ⟨by rw [hl3]; omega, by omega, ?_⟩;conv=>whnf)
    | (refine step_go [] ?_;conv=>whnf)
   have e1 : ((rL l ++ rL (List.replicate 3 f ++ List.replicate (3 - 3) ⟨0, 0⟩)).drop 0).take l.length = rL l := by
    rw [List.drop_zero, ← hlen, List.take_left]
   have e2 : ((rL l ++ rL (List.replicate 3 f ++ List.replicate (3 - 3) ⟨0, 0⟩)).drop (0 + l.length)).take (l.length + 3 - l.length) = rL [f, f, f] := by
    rw [Nat.zero_add, ← hlen, List.drop_left, Nat.add_sub_cancel_left]; rfl
   rw [e1, e2]
   exact h
theorem r_flat (m : Nat) (a0 a1 : Int) : flatT (VL.sys Tryz.prog m []).P 31 [.int .i64 a0, .int .i64 a1] = true := by kernel_rfl
theorem r_eqE (a b : Rs) (K) (h : K (.ret (.bool (decide (a = b)))) []) : VCall Tryz.prog 66 [encR a, encR b] [] K := by
 refine call_fun [] 0 Tryz.func66 (by rfl) (by rfl) ?_
 conv=>whnf
 repeat' first
  | (refine step_go [] ?_;conv=>whnf)
  | (rw [r_flat];conv=>whnf)
 refine Eq.mp (congrArg (fun b => K (.ret (.bool b)) []) ?_) h
 rw [Bool.eq_iff_iff]
 simp [r_eq]
theorem r_same (l m : List Rs) (hl : l.length < 1000000) (K) (h : K (.ret (.bool (decide (l = m)))) []) : VCall Tryz.prog 65 [.sl (rL l) .no, .sl (rL m) .no, .fn (.func 66) [] []] [] K := by
 have hlen := r_len l
 have hlen2 := r_len m
 refine call_fun [] 0 Tryz.func65 (by rfl) (by rfl) ?_
 conv=>whnf
 repeat (refine step_go [] ?_;conv=>whnf)
 refine two (fun g => ?_) (fun g => ?_)
 · have hne : l ≠ m := by rintro rfl; simp at g
   rw [decide_eq_false hne] at h
   (conv=>whnf); (repeat (refine step_go [] ?_;conv=>whnf))
   exact h
 have hlm : l.length = m.length := by simp [hlen, hlen2] at g; omega
 (conv=>whnf); (repeat (refine step_go [] ?_;conv=>whnf))
 let S : Nat -> St := fun i => ⟨(.sl (rL l) .no :: .sl (rL m) .no :: .fn (.func 66) [] [] :: .undef :: .undef :: .undef :: .bool false :: .int .i64 i :: .undef :: .undef :: .undef :: .undef :: .undef :: .undef :: .undef :: .undef :: .undef :: .undef :: .undef :: .undef :: .undef :: .undef :: .undef :: .undef :: .undef :: .undef :: .undef :: .undef :: .undef :: .undef :: []), [], 0, []⟩
 refine VLoop.enter (s' := S 0) (weak_of ?_ .nil rfl rfl rfl) (VLoop.indW S (fun i => l.length - i) (fun i => i <= l.length /\ l.take i = m.take i) ?_ 0 ⟨by omega, by simp⟩)
 · (repeat' first | exact VWs.nil | refine VWs.cons VW.undef ?_ | refine VWs.cons (VW.eq rfl) ?_)
 · intro i hil ih
   obtain ⟨hi, ht⟩ := hil
   refine loop_round [] ?_; (conv=>whnf); (repeat (refine step_go [] ?_;conv=>whnf))
   refine two (fun g => ?_) (fun g => ?_)
   · have hi : i < l.length := by simp [hlen] at g; omega
     have hget : (rL l)[(i : Int).toNat]? = some (encR (l[i])) := by rw [Int.toNat_natCast, r_get, List.getElem?_eq_getElem hi]; rfl
     have hget2 : (rL m)[(i : Int).toNat]? = some (encR (m[i]'(by omega))) := by rw [Int.toNat_natCast, r_get, List.getElem?_eq_getElem (by omega)]; rfl
     (conv=>whnf); (repeat (refine step_go [] ?_;conv=>whnf))
     refine ⟨by decide +kernel, ?_⟩; conv=>whnf
     refine ⟨by omega, _, hget, rfl, ?_⟩; conv=>whnf
     refine ⟨by omega, _, hget2, rfl, ?_⟩; conv=>whnf
     refine r_eqE _ _ _ ?_; (conv=>whnf); (repeat (refine step_go [] ?_;conv=>whnf))
     refine two (fun g => ?_) (fun g => ?_)
     · have hne : l[i] ≠ m[i]'(by omega) := by simpa using g
       have hne : l ≠ m := by rintro rfl; exact hne rfl
       rw [decide_eq_false hne] at h
       (conv=>whnf); (repeat (refine step_go [] ?_;conv=>whnf))
       refine ⟨_, Weak.refl, ?_⟩; (conv=>whnf); (repeat (refine step_go [] ?_;conv=>whnf))
       exact h
     · have he : l[i] = m[i]'(by omega) := by simpa using g
       (conv=>whnf); (repeat (refine step_go [] ?_;conv=>whnf))
       refine ⟨S (i + 1), weak_of ?_ .nil rfl rfl rfl, ih (i + 1) ⟨by omega, by rw [List.take_succ_eq_append_getElem hi, List.take_succ_eq_append_getElem (by omega : i < m.length), ht, he]⟩ (by omega)⟩
       repeat' first
        | exact VWs.nil
        | refine VWs.cons VW.undef ?_
        | refine VWs.cons (VW.eq rfl) ?_
        | refine VWs.cons (VW.eq (congrArg (V.int .i64) (by rw [wrap64 (by omega) (by omega)]; omega))) ?_
   · have hi : i = l.length := by simp [hlen] at g; omega
     subst hi
     have he : l = m := by rw [List.take_length, hlm, List.take_length] at ht; exact ht
     rw [decide_eq_true he] at h
     (conv=>whnf); (repeat (refine step_go [] ?_;conv=>whnf))
     refine ⟨_, Weak.refl, ?_⟩; (conv=>whnf); (repeat (refine step_go [] ?_;conv=>whnf))
     exact h
theorem r_plain (l m : List Rs) (hl : l.length < 1000000) (K) (h : K (.ret (.bool (decide (l = m)))) []) : VCall Tryz.prog 35 [.sl (rL l) .no, .sl (rL m) .no] [] K := by
 refine call_fun [] 0 Tryz.func35 (by rfl) (by rfl) ?_
 (conv=>whnf); (repeat (refine step_go [] ?_;conv=>whnf))
 refine r_same l m hl _ ?_; (conv=>whnf); (repeat (refine step_go [] ?_;conv=>whnf))
 exact h
theorem r_kept (l : List Rs) (f : Rs) (hl : l.length < 1000000) (K) (h : K (.ret (.bool true)) []) : VCall Tryz.prog 13 [.spare (rL l) (rL [f, f, f]), .sl (rL l) .no, encR f] [] K := by
 have hlen := r_len l
 have h3 : (rL [f, f, f]).length = 3 := rfl
 refine call_fun [] 0 Tryz.func13 (by rfl) (by rfl) ?_
 (conv=>whnf); (repeat (refine step_go [] ?_;conv=>whnf))
 refine VCall.args (args' := [.sl (rL l) .no, .sl (rL l) .no]) (.cons .spare (.cons (.eq rfl) .nil)) rfl ?_
 refine r_plain l l hl _ ?_
 rw [decide_eq_true rfl]; (conv=>whnf); (repeat (refine step_go [] ?_;conv=>whnf))
 refine no (by rw [h3, wrap64 (by omega) (by omega)]; simp) ?_; (conv=>whnf); (repeat (refine step_go [] ?_;conv=>whnf))
 rw [show IntKind.i64.wrap (↑(rL l).length + 3) = (((rL l).length + 3 : Nat) : Int) by rw [wrap64 (by omega) (by omega)]; omega, Int.toNat_natCast]
 refine ⟨by omega, by omega, by rw [h3]; omega, ?_, ?_⟩
 · rw [r_app]; exact r_cells
 (conv=>whnf); (repeat (refine step_go [] ?_;conv=>whnf))
 let S : Nat -> St := fun i => ⟨(.spare (rL l) (rL [f, f, f]) :: .sl (rL l) .no :: encR f :: .undef :: .undef :: .ptr 0 0 :: .bool false :: .sl (rL (l ++ [f, f, f])) .no :: .int .i64 ((l.length + i : Nat) : Int) :: .undef :: .undef :: .undef :: .undef :: .undef :: .undef :: .undef :: .undef :: .undef :: .undef :: .undef :: .undef :: .undef :: .undef :: .undef :: .undef :: .undef :: .undef :: .undef :: .undef :: .undef :: .undef :: .undef :: .undef :: .undef :: .undef :: .undef :: .undef :: .undef :: .undef :: .undef :: []), [.cells true 31 [.int .i64 f.aft, .int .i64 f.rate]], 0, []⟩
 refine VLoop.enter (s' := S 0) (weak_of ?_ (.cons (.eq rfl) .nil) rfl rfl rfl) (VLoop.ind S 3 ?_ ?_)
 · have e : ((rL l ++ rL [f, f, f]).take ((rL l).length + 3)).drop (Int.toNat 0) = rL (l ++ [f, f, f]) := by
    rw [Int.toNat_zero, List.drop_zero, r_app, List.take_of_length_le (by simp [rL])]
   repeat' first
    | exact VWs.nil
    | refine VWs.cons VW.undef ?_
    | refine VWs.cons (VW.eq rfl) ?_
    | refine VWs.cons (VW.eq (by rw [e])) ?_
    | refine VWs.cons (VW.eq (by rw [hlen]; rfl)) ?_
 · intro i hi ih
   have hget : (rL (l ++ [f, f, f]))[((l.length + i : Nat) : Int).toNat]? = some (encR f) := by
    rw [Int.toNat_natCast, r_get, List.getElem?_append_right (by omega), Nat.add_sub_cancel_left]
    obtain rfl | rfl | rfl : i = 0 \/ i = 1 \/ i = 2 := by omega
    all_goals rfl
   have hll : (rL (l ++ [f, f, f])).length = l.length + 3 := by simp [rL]
   refine loop_round [] ?_; (conv=>whnf); (repeat (refine step_go [] ?_;conv=>whnf))
   refine yes (by simp [hll]; omega) ?_; (conv=>whnf); (repeat (refine step_go [] ?_;conv=>whnf))
   refine ⟨by decide +kernel, ?_⟩; conv=>whnf
   repeat' first
    | (refine step_go [] ?_;conv=>whnf)
    | (refine ⟨by omega, _, hget, rfl, ?_⟩;conv=>whnf)
    | (rw [r_flat];conv=>whnf)
    | (refine And.intro rfl ?_;conv=>whnf)
   refine no (by simp) ?_; (conv=>whnf); (repeat (refine step_go [] ?_;conv=>whnf))
   refine ⟨S (i + 1), weak_of ?_ (.cons (.eq rfl) .nil) rfl rfl rfl, ih⟩
   repeat' first
    | exact VWs.nil
    | refine VWs.cons VW.undef ?_
    | refine VWs.cons (VW.eq rfl) ?_
    | refine VWs.cons (VW.eq (congrArg (V.int .i64) (by rw [wrap64 (by omega) (by omega)]; omega))) ?_
 · have hll : (rL (l ++ [f, f, f])).length = l.length + 3 := by simp [rL]
   refine loop_round [] ?_; (conv=>whnf); (repeat (refine step_go [] ?_;conv=>whnf))
   refine no (by simp [hll]) ?_; (conv=>whnf); (repeat (refine step_go [] ?_;conv=>whnf))
   refine ⟨_, Weak.refl, ?_⟩; (conv=>whnf); (repeat (refine step_go [] ?_;conv=>whnf))
   exact h
end BW1

namespace BW2
open Go Go.Proofs VL B10 BB6 BB10 BB11 BB14 C1 C2
theorem t_len (l : List Ti) : (tL l).length = l.length := by simp [tL]
theorem t_app (l m : List Ti) : tL l ++ tL m = tL (l ++ m) := by simp [tL]
theorem t_get (l : List Ti) (i : Nat) : (tL l)[i]? = (l[i]?).map encT := by simp [tL]
theorem t_cells {l : List Ti} : ∀ x ∈ tL l, x.cells.length = 2 := by
 intro x hx
 obtain ⟨n, _, rfl⟩ := List.mem_map.1 hx
 rfl
theorem t_eq (a b : Ti) : a = b ↔ a.days = b.days /\ a.fee = b.fee := by
 constructor
 · rintro rfl; simp
 · cases a; cases b; simp
instance : DecidableEq Ti := fun a b => decidable_of_iff _ (t_eq a b).symm
theorem t_own (l : List Ti) (f : Ti) (hl : l.length < 1000000) (K) (h : K (.ret (.spare (tL l) (tL [f, f, f]))) []) : VCall Tryz.prog 9 [.sl (tL l) .no, encT f] [] K := by
 have hlen := t_len l
 refine call_fun [] 0 Tryz.func9 (by rfl) (by rfl) ?_
 conv=>whnf
 refine step_go [] ?_; conv=>whnf
 rw [show IntKind.i64.wrap (↑(tL l).length + 3) = (((tL l).length + 3 : Nat) : Int) by rw [wrap64 (by omega) (by omega)]; omega, Int.toNat_natCast]
 refine ⟨by omega, by omega, ?_, by omega, ?_⟩
 · show _ * ((16 : Nat) : Int) <= _; omega
 conv=>whnf
 refine step_go [] ?_; conv=>whnf
 refine ⟨by simp; omega, t_cells, yes (Nat.ble_eq_true_of_le (by omega)) ⟨by simp, ?_⟩⟩
 conv=>whnf
 refine step_go [] ?_; conv=>whnf
 rw [show IntKind.i64.wrap (↑(tL l).length + 3) = (((tL l).length + 3 : Nat) : Int) by rw [wrap64 (by omega) (by omega)]; omega, Int.toNat_natCast]
 refine ⟨by omega, by omega, by omega, ?_⟩
 conv=>whnf
 refine step_go [] ?_; conv=>whnf
 refine step_go [] ?_; conv=>whnf
 let S : Nat -> St := fun i => ⟨(.sl (tL l) .no :: encT f :: .undef :: .ptr 0 0 :: .sl [] .ex :: .slo 1 2 0 l.length (l.length + 3) :: .slo 1 2 0 (l.length + 3) (l.length + 3) :: .int .i64 ((l.length + i : Nat) : Int) :: .undef :: .undef :: .undef :: .undef :: .undef :: .undef :: .undef :: .undef :: .undef :: .undef :: .undef :: .undef :: .undef :: .undef :: .undef :: .undef :: .undef :: .undef :: .undef :: .undef :: .undef :: .undef :: .undef :: .undef :: .undef :: []), [.cells true 34 [.int .i64 f.days, .int .i64 f.fee], .buf false 2 (tL l ++ tL (List.replicate i f ++ List.replicate (3 - i) ⟨0, 0⟩))], 0, []⟩
 refine VLoop.enter (s' := S 0) (weak_of ?_ ?_ rfl rfl rfl) (VLoop.ind S 3 ?_ ?_)
 · repeat' first
    | exact VWs.nil
    | refine VWs.cons VW.undef ?_
    | refine VWs.cons (VW.eq rfl) ?_
    | refine VWs.cons (VW.eq (by simp [hlen])) ?_
 · refine .cons (.eq rfl) (.cons (.eq ?_) .nil)
   rw [hlen]
   simp only [Int.toNat_zero, Nat.zero_add, List.take_zero, List.nil_append, List.drop_replicate, Nat.add_sub_cancel_left, hlen]
   rfl
 have hlt : ∀ (a b : Int), a < b -> decide (a < b) = true := fun a b h => by simpa using h
 · intro i hi ih
   refine loop_round [] ?_; conv=>whnf
   refine step_go [] ?_; conv=>whnf
   refine yes (hlt _ _ (by omega)) ?_; conv=>whnf
   refine step_go [] ?_; conv=>whnf
   rw [Int.toNat_natCast]
   refine ⟨by omega, by omega, ?_⟩; conv=>whnf
   refine ⟨encT ⟨0, 0⟩, ?_, ?_⟩
   · rw [Nat.zero_add, List.getElem?_append_right (by rw [hlen]; omega), hlen, Nat.add_sub_cancel_left, t_get, List.getElem?_append_right (by simp), List.length_replicate, Nat.sub_self, List.getElem?_replicate, if_pos (by omega)]
     rfl
   conv=>whnf
   refine step_go [] ?_; conv=>whnf
   refine ⟨S (i + 1), weak_of ?_ ?_ rfl rfl rfl, ih⟩
   · repeat' first
      | exact VWs.nil
      | refine VWs.cons VW.undef ?_
      | refine VWs.cons (VW.eq rfl) ?_
      | refine VWs.cons (VW.eq (congrArg (V.int .i64) (by rw [wrap64 (by omega) (by omega)]; omega))) ?_
   · refine .cons (.eq rfl) (.cons (.eq (congrArg (VObj.buf false 2 · none) ?_)) .nil)
     obtain rfl | rfl | rfl : i = 0 \/ i = 1 \/ i = 2 := by omega
     all_goals simp [tL, List.set_append, List.replicate, V.remake, encT]
 · refine loop_round [] ?_; conv=>whnf
   refine step_go [] ?_; conv=>whnf
   refine no (by simp) ?_; conv=>whnf
   refine weak_frz 1 true ?_; conv=>whnf
   have hl3 : (tL l ++ tL (List.replicate 3 f ++ List.replicate (3 - 3) ⟨0, 0⟩)).length = l.length + 3 := by simp [tL]
   repeat' first
    | (refine ⟨by rw [hl3]; omega, by omega, ?_⟩;conv=>whnf)
    | (refine step_go [] ?_;conv=>whnf)
   have e1 : ((tL l ++ tL (List.replicate 3 f ++ List.replicate (3 - 3) ⟨0, 0⟩)).drop 0).take l.length = tL l := by
    rw [List.drop_zero, ← hlen, List.take_left]
   have e2 : ((tL l ++ tL (List.replicate 3 f ++ List.replicate (3 - 3) ⟨0, 0⟩)).drop (0 + l.length)).take (l.length + 3 - l.length) = tL [f, f, f] := by
    rw [Nat.zero_add, ← hlen, List.drop_left, Nat.add_sub_cancel_left]; rfl
   rw [e1, e2]
   exact h
theorem t_flat (m : Nat) (a0 a1 : Int) : flatT (VL.sys Tryz.prog m []).P 34 [.int .i64 a0, .int .i64 a1] = true := by kernel_rfl
theorem t_eqE (a b : Ti) (K) (h : K (.ret (.bool (decide (a = b)))) []) : VCall Tryz.prog 68 [encT a, encT b] [] K := by
 refine call_fun [] 0 Tryz.func68 (by rfl) (by rfl) ?_
 conv=>whnf
 repeat' first
  | (refine step_go [] ?_;conv=>whnf)
  | (rw [t_flat];conv=>whnf)
 refine Eq.mp (congrArg (fun b => K (.ret (.bool b)) []) ?_) h
 rw [Bool.eq_iff_iff]
 simp [t_eq]
theorem t_same (l m : List Ti) (hl : l.length < 1000000) (K) (h : K (.ret (.bool (decide (l = m)))) []) : VCall Tryz.prog 67 [.sl (tL l) .no, .sl (tL m) .no, .fn (.func 68) [] []] [] K := by
 have hlen := t_len l
 have hlen2 := t_len m
 refine call_fun [] 0 Tryz.func67 (by rfl) (by rfl) ?_
 conv=>whnf
 repeat (refine step_go [] ?_;conv=>whnf)
 refine two (fun g => ?_) (fun g => ?_)
 · have hne : l ≠ m := by rintro rfl; simp at g
   rw [decide_eq_false hne] at h
   (conv=>whnf); (repeat (refine step_go [] ?_;conv=>whnf))
   exact h
 have hlm : l.length = m.length := by simp [hlen, hlen2] at g; omega
 (conv=>whnf); (repeat (refine step_go [] ?_;conv=>whnf))
 let S : Nat -> St := fun i => ⟨(.sl (tL l) .no :: .sl (tL m) .no :: .fn (.func 68) [] [] :: .undef :: .undef :: .undef :: .bool false :: .int .i64 i :: .undef :: .undef :: .undef :: .undef :: .undef :: .undef :: .undef :: .undef :: .undef :: .undef :: .undef :: .undef :: .undef :: .undef :: .undef :: .undef :: .undef :: .undef :: .undef :: .undef :: .undef :: .undef :: []), [], 0, []⟩
 refine VLoop.enter (s' := S 0) (weak_of ?_ .nil rfl rfl rfl) (VLoop.indW S (fun i => l.length - i) (fun i => i <= l.length /\ l.take i = m.take i) ?_ 0 ⟨by omega, by simp⟩)
 · (repeat' first | exact VWs.nil | refine VWs.cons VW.undef ?_ | refine VWs.cons (VW.eq rfl) ?_)
 · intro i hil ih
   obtain ⟨hi, ht⟩ := hil
   refine loop_round [] ?_; (conv=>whnf); (repeat (refine step_go [] ?_;conv=>whnf))
   refine two (fun g => ?_) (fun g => ?_)
   · have hi : i < l.length := by simp [hlen] at g; omega
     have hget : (tL l)[(i : Int).toNat]? = some (encT (l[i])) := by rw [Int.toNat_natCast, t_get, List.getElem?_eq_getElem hi]; rfl
     have hget2 : (tL m)[(i : Int).toNat]? = some (encT (m[i]'(by omega))) := by rw [Int.toNat_natCast, t_get, List.getElem?_eq_getElem (by omega)]; rfl
     (conv=>whnf); (repeat (refine step_go [] ?_;conv=>whnf))
     refine ⟨by decide +kernel, ?_⟩; conv=>whnf
     refine ⟨by omega, _, hget, rfl, ?_⟩; conv=>whnf
     refine ⟨by omega, _, hget2, rfl, ?_⟩; conv=>whnf
     refine t_eqE _ _ _ ?_; (conv=>whnf); (repeat (refine step_go [] ?_;conv=>whnf))
     refine two (fun g => ?_) (fun g => ?_)
     · have hne : l[i] ≠ m[i]'(by omega) := by simpa using g
       have hne : l ≠ m := by rintro rfl; exact hne rfl
       rw [decide_eq_false hne] at h
       (conv=>whnf); (repeat (refine step_go [] ?_;conv=>whnf))
       refine ⟨_, Weak.refl, ?_⟩; (conv=>whnf); (repeat (refine step_go [] ?_;conv=>whnf))
       exact h
     · have he : l[i] = m[i]'(by omega) := by simpa using g
       (conv=>whnf); (repeat (refine step_go [] ?_;conv=>whnf))
       refine ⟨S (i + 1), weak_of ?_ .nil rfl rfl rfl, ih (i + 1) ⟨by omega, by rw [List.take_succ_eq_append_getElem hi, List.take_succ_eq_append_getElem (by omega : i < m.length), ht, he]⟩ (by omega)⟩
       repeat' first
        | exact VWs.nil
        | refine VWs.cons VW.undef ?_
        | refine VWs.cons (VW.eq rfl) ?_
        | refine VWs.cons (VW.eq (congrArg (V.int .i64) (by rw [wrap64 (by omega) (by omega)]; omega))) ?_
   · have hi : i = l.length := by simp [hlen] at g; omega
     subst hi
     have he : l = m := by rw [List.take_length, hlm, List.take_length] at ht; exact ht
     rw [decide_eq_true he] at h
     (conv=>whnf); (repeat (refine step_go [] ?_;conv=>whnf))
     refine ⟨_, Weak.refl, ?_⟩; (conv=>whnf); (repeat (refine step_go [] ?_;conv=>whnf))
     exact h
theorem t_plain (l m : List Ti) (hl : l.length < 1000000) (K) (h : K (.ret (.bool (decide (l = m)))) []) : VCall Tryz.prog 36 [.sl (tL l) .no, .sl (tL m) .no] [] K := by
 refine call_fun [] 0 Tryz.func36 (by rfl) (by rfl) ?_
 (conv=>whnf); (repeat (refine step_go [] ?_;conv=>whnf))
 refine t_same l m hl _ ?_; (conv=>whnf); (repeat (refine step_go [] ?_;conv=>whnf))
 exact h
theorem t_kept (l : List Ti) (f : Ti) (hl : l.length < 1000000) (K) (h : K (.ret (.bool true)) []) : VCall Tryz.prog 14 [.spare (tL l) (tL [f, f, f]), .sl (tL l) .no, encT f] [] K := by
 have hlen := t_len l
 have h3 : (tL [f, f, f]).length = 3 := rfl
 refine call_fun [] 0 Tryz.func14 (by rfl) (by rfl) ?_
 (conv=>whnf); (repeat (refine step_go [] ?_;conv=>whnf))
 refine VCall.args (args' := [.sl (tL l) .no, .sl (tL l) .no]) (.cons .spare (.cons (.eq rfl) .nil)) rfl ?_
 refine t_plain l l hl _ ?_
 rw [decide_eq_true rfl]; (conv=>whnf); (repeat (refine step_go [] ?_;conv=>whnf))
 refine no (by rw [h3, wrap64 (by omega) (by omega)]; simp) ?_; (conv=>whnf); (repeat (refine step_go [] ?_;conv=>whnf))
 rw [show IntKind.i64.wrap (↑(tL l).length + 3) = (((tL l).length + 3 : Nat) : Int) by rw [wrap64 (by omega) (by omega)]; omega, Int.toNat_natCast]
 refine ⟨by omega, by omega, by rw [h3]; omega, ?_, ?_⟩
 · rw [t_app]; exact t_cells
 (conv=>whnf); (repeat (refine step_go [] ?_;conv=>whnf))
 let S : Nat -> St := fun i => ⟨(.spare (tL l) (tL [f, f, f]) :: .sl (tL l) .no :: encT f :: .undef :: .undef :: .ptr 0 0 :: .bool false :: .sl (tL (l ++ [f, f, f])) .no :: .int .i64 ((l.length + i : Nat) : Int) :: .undef :: .undef :: .undef :: .undef :: .undef :: .undef :: .undef :: .undef :: .undef :: .undef :: .undef :: .undef :: .undef :: .undef :: .undef :: .undef :: .undef :: .undef :: .undef :: .undef :: .undef :: .undef :: .undef :: .undef :: .undef :: .undef :: .undef :: .undef :: .undef :: .undef :: .undef :: []), [.cells true 34 [.int .i64 f.days, .int .i64 f.fee]], 0, []⟩
 refine VLoop.enter (s' := S 0) (weak_of ?_ (.cons (.eq rfl) .nil) rfl rfl rfl) (VLoop.ind S 3 ?_ ?_)
 · have e : ((tL l ++ tL [f, f, f]).take ((tL l).length + 3)).drop (Int.toNat 0) = tL (l ++ [f, f, f]) := by
    rw [Int.toNat_zero, List.drop_zero, t_app, List.take_of_length_le (by simp [tL])]
   repeat' first
    | exact VWs.nil
    | refine VWs.cons VW.undef ?_
    | refine VWs.cons (VW.eq rfl) ?_
    | refine VWs.cons (VW.eq (by rw [e])) ?_
    | refine VWs.cons (VW.eq (by rw [hlen]; rfl)) ?_
 · intro i hi ih
   have hget : (tL (l ++ [f, f, f]))[((l.length + i : Nat) : Int).toNat]? = some (encT f) := by
    rw [Int.toNat_natCast, t_get, List.getElem?_append_right (by omega), Nat.add_sub_cancel_left]
    obtain rfl | rfl | rfl : i = 0 \/ i = 1 \/ i = 2 := by omega
    all_goals rfl
   have hll : (tL (l ++ [f, f, f])).length = l.length + 3 := by simp [tL]
   refine loop_round [] ?_; (conv=>whnf); (repeat (refine step_go [] ?_;conv=>whnf))
   refine yes (by simp [hll]; omega) ?_; (conv=>whnf); (repeat (refine step_go [] ?_;conv=>whnf))
   refine ⟨by decide +kernel, ?_⟩; conv=>whnf
   repeat' first
    | (refine step_go [] ?_;conv=>whnf)
    | (refine ⟨by omega, _, hget, rfl, ?_⟩;conv=>whnf)
    | (rw [t_flat];conv=>whnf)
    | (refine And.intro rfl ?_;conv=>whnf)
   refine no (by simp) ?_; (conv=>whnf); (repeat (refine step_go [] ?_;conv=>whnf))
   refine ⟨S (i + 1), weak_of ?_ (.cons (.eq rfl) .nil) rfl rfl rfl, ih⟩
   repeat' first
    | exact VWs.nil
    | refine VWs.cons VW.undef ?_
    | refine VWs.cons (VW.eq rfl) ?_
    | refine VWs.cons (VW.eq (congrArg (V.int .i64) (by rw [wrap64 (by omega) (by omega)]; omega))) ?_
 · have hll : (tL (l ++ [f, f, f])).length = l.length + 3 := by simp [tL]
   refine loop_round [] ?_; (conv=>whnf); (repeat (refine step_go [] ?_;conv=>whnf))
   refine no (by simp [hll]) ?_; (conv=>whnf); (repeat (refine step_go [] ?_;conv=>whnf))
   refine ⟨_, Weak.refl, ?_⟩; (conv=>whnf); (repeat (refine step_go [] ?_;conv=>whnf))
   exact h
end BW2

namespace BW3
open Go Go.Proofs VL B10 BB6 BB10 BB11 BB14 C1 C2
theorem i_len (l : List Int) : (iL l).length = l.length := by simp [iL]
theorem i_app (l m : List Int) : iL l ++ iL m = iL (l ++ m) := by simp [iL]
theorem i_get (l : List Int) (i : Nat) : (iL l)[i]? = (l[i]?).map (V.int .i64) := by simp [iL]
theorem i_cells {l : List Int} : ∀ x ∈ iL l, x.cells.length = 1 := by
 intro x hx
 obtain ⟨n, _, rfl⟩ := List.mem_map.1 hx
 rfl
theorem i_own (l : List Int) (f : Int) (hl : l.length < 1000000) (K) (h : K (.ret (.spare (iL l) (iL [f, f, f]))) []) : VCall Tryz.prog 10 [.sl (iL l) .no, (V.int .i64) f] [] K := by
 have hlen := i_len l
 refine call_fun [] 0 Tryz.func10 (by rfl) (by rfl) ?_
 conv=>whnf
 refine step_go [] ?_; conv=>whnf
 rw [show IntKind.i64.wrap (↑(iL l).length + 3) = (((iL l).length + 3 : Nat) : Int) by rw [wrap64 (by omega) (by omega)]; omega, Int.toNat_natCast]
 refine ⟨by omega, by omega, ?_, by omega, ?_⟩
 · show _ * ((8 : Nat) : Int) <= _; omega
 conv=>whnf
 refine step_go [] ?_; conv=>whnf
 refine ⟨by simp; omega, i_cells, yes (Nat.ble_eq_true_of_le (by omega)) ⟨by simp, ?_⟩⟩
 conv=>whnf
 refine step_go [] ?_; conv=>whnf
 rw [show IntKind.i64.wrap (↑(iL l).length + 3) = (((iL l).length + 3 : Nat) : Int) by rw [wrap64 (by omega) (by omega)]; omega, Int.toNat_natCast]
 refine ⟨by omega, by omega, by omega, ?_⟩
 conv=>whnf
 refine step_go [] ?_; conv=>whnf
 refine step_go [] ?_; conv=>whnf
 let S : Nat -> St := fun i => ⟨(.sl (iL l) .no :: (V.int .i64) f :: .undef :: .undef :: .sl [] .ex :: .slo 0 1 0 l.length (l.length + 3) :: .slo 0 1 0 (l.length + 3) (l.length + 3) :: .int .i64 ((l.length + i : Nat) : Int) :: .undef :: .undef :: .undef :: .undef :: .undef :: .undef :: .undef :: .undef :: .undef :: .undef :: .undef :: .undef :: .undef :: .undef :: .undef :: .undef :: .undef :: .undef :: .undef :: .undef :: .undef :: .undef :: .undef :: .undef :: .undef :: []), [.buf false 1 (iL l ++ iL (List.replicate i f ++ List.replicate (3 - i) 0))], 0, []⟩
 refine VLoop.enter (s' := S 0) (weak_of ?_ ?_ rfl rfl rfl) (VLoop.ind S 3 ?_ ?_)
 · repeat' first
    | exact VWs.nil
    | refine VWs.cons VW.undef ?_
    | refine VWs.cons (VW.eq rfl) ?_
    | refine VWs.cons (VW.eq (by simp [hlen])) ?_
 · refine .cons (.eq ?_) .nil
   rw [hlen]
   simp only [Int.toNat_zero, Nat.zero_add, List.take_zero, List.nil_append, List.drop_replicate, Nat.add_sub_cancel_left, hlen]
   rfl
 have hlt : ∀ (a b : Int), a < b -> decide (a < b) = true := fun a b h => by simpa using h
 · intro i hi ih
   refine loop_round [] ?_; conv=>whnf
   refine step_go [] ?_; conv=>whnf
   refine yes (hlt _ _ (by omega)) ?_; conv=>whnf
   refine step_go [] ?_; conv=>whnf
   rw [Int.toNat_natCast]
   refine ⟨by omega, by omega, ?_⟩; conv=>whnf
   refine ⟨(V.int .i64) 0, ?_, ?_⟩
   · rw [Nat.zero_add, List.getElem?_append_right (by rw [hlen]; omega), hlen, Nat.add_sub_cancel_left, i_get, List.getElem?_append_right (by simp), List.length_replicate, Nat.sub_self, List.getElem?_replicate, if_pos (by omega)]
     rfl
   conv=>whnf
   refine step_go [] ?_; conv=>whnf
   refine ⟨S (i + 1), weak_of ?_ ?_ rfl rfl rfl, ih⟩
   · repeat' first
      | exact VWs.nil
      | refine VWs.cons VW.undef ?_
      | refine VWs.cons (VW.eq rfl) ?_
      | refine VWs.cons (VW.eq (congrArg (V.int .i64) (by rw [wrap64 (by omega) (by omega)]; omega))) ?_
   · refine .cons (.eq (congrArg (VObj.buf false 1 · none) ?_)) .nil
     obtain rfl | rfl | rfl : i = 0 \/ i = 1 \/ i = 2 := by omega
     all_goals simp [iL, List.set_append, List.replicate, V.remake]
 · refine loop_round [] ?_; conv=>whnf
   refine step_go [] ?_; conv=>whnf
   refine no (by simp) ?_; conv=>whnf
   refine weak_frz 0 true ?_; conv=>whnf
   have hl3 : (iL l ++ iL (List.replicate 3 f ++ List.replicate (3 - 3) 0)).length = l.length + 3 := by simp [iL]
   repeat' first
    | (refine ⟨by rw [hl3]; omega, by omega, ?_⟩;conv=>whnf)
    | (refine step_go [] ?_;conv=>whnf)
   have e1 : ((iL l ++ iL (List.replicate 3 f ++ List.replicate (3 - 3) 0)).drop 0).take l.length = iL l := by
    rw [List.drop_zero, ← hlen, List.take_left]
   have e2 : ((iL l ++ iL (List.replicate 3 f ++ List.replicate (3 - 3) 0)).drop (0 + l.length)).take (l.length + 3 - l.length) = iL [f, f, f] := by
    rw [Nat.zero_add, ← hlen, List.drop_left, Nat.add_sub_cancel_left]; rfl
   rw [e1, e2]
   exact h
theorem i_eqE (a b : Int) (K) (h : K (.ret (.bool (decide (a = b)))) []) : VCall Tryz.prog 70 [(V.int .i64) a, (V.int .i64) b] [] K := by
 refine call_fun [] 0 Tryz.func70 (by rfl) (by rfl) ?_
 conv=>whnf
 repeat (refine step_go [] ?_;conv=>whnf)
 refine Eq.mp (congrArg (fun b => K (.ret (.bool b)) []) ?_) h
 rw [Bool.eq_iff_iff]
 simp
theorem i_same (l m : List Int) (hl : l.length < 1000000) (K) (h : K (.ret (.bool (decide (l = m)))) []) : VCall Tryz.prog 69 [.sl (iL l) .no, .sl (iL m) .no, .fn (.func 70) [] []] [] K := by
 have hlen := i_len l
 have hlen2 := i_len m
 refine call_fun [] 0 Tryz.func69 (by rfl) (by rfl) ?_
 conv=>whnf
 repeat (refine step_go [] ?_;conv=>whnf)
 refine two (fun g => ?_) (fun g => ?_)
 · have hne : l ≠ m := by rintro rfl; simp at g
   rw [decide_eq_false hne] at h
   (conv=>whnf); (repeat (refine step_go [] ?_;conv=>whnf))
   exact h
 have hlm : l.length = m.length := by simp [hlen, hlen2] at g; omega
 (conv=>whnf); (repeat (refine step_go [] ?_;conv=>whnf))
 let S : Nat -> St := fun i => ⟨(.sl (iL l) .no :: .sl (iL m) .no :: .fn (.func 70) [] [] :: .undef :: .undef :: .undef :: .bool false :: .int .i64 i :: .undef :: .undef :: .undef :: .undef :: .undef :: .undef :: .undef :: .undef :: .undef :: .undef :: .undef :: .undef :: .undef :: .undef :: .undef :: .undef :: .undef :: .undef :: .undef :: .undef :: .undef :: .undef :: []), [], 0, []⟩
 refine VLoop.enter (s' := S 0) (weak_of ?_ .nil rfl rfl rfl) (VLoop.indW S (fun i => l.length - i) (fun i => i <= l.length /\ l.take i = m.take i) ?_ 0 ⟨by omega, by simp⟩)
 · (repeat' first | exact VWs.nil | refine VWs.cons VW.undef ?_ | refine VWs.cons (VW.eq rfl) ?_)
 · intro i hil ih
   obtain ⟨hi, ht⟩ := hil
   refine loop_round [] ?_; (conv=>whnf); (repeat (refine step_go [] ?_;conv=>whnf))
   refine two (fun g => ?_) (fun g => ?_)
   · have hi : i < l.length := by simp [hlen] at g; omega
     have hget : (iL l)[(i : Int).toNat]? = some ((V.int .i64) (l[i])) := by rw [Int.toNat_natCast, i_get, List.getElem?_eq_getElem hi]; rfl
     have hget2 : (iL m)[(i : Int).toNat]? = some ((V.int .i64) (m[i]'(by omega))) := by rw [Int.toNat_natCast, i_get, List.getElem?_eq_getElem (by omega)]; rfl
     (conv=>whnf); (repeat (refine step_go [] ?_;conv=>whnf))
     refine ⟨by decide +kernel, ?_⟩; conv=>whnf
     refine ⟨by omega, _, hget, rfl, ?_⟩; conv=>whnf
     refine ⟨by omega, _, hget2, rfl, ?_⟩; conv=>whnf
     refine i_eqE _ _ _ ?_; (conv=>whnf); (repeat (refine step_go [] ?_;conv=>whnf))
     refine two (fun g => ?_) (fun g => ?_)
     · have hne : l[i] ≠ m[i]'(by omega) := by simpa using g
       have hne : l ≠ m := by rintro rfl; exact hne rfl
       rw [decide_eq_false hne] at h
       (conv=>whnf); (repeat (refine step_go [] ?_;conv=>whnf))
       refine ⟨_, Weak.refl, ?_⟩; (conv=>whnf); (repeat (refine step_go [] ?_;conv=>whnf))
       exact h
     · have he : l[i] = m[i]'(by omega) := by simpa using g
       (conv=>whnf); (repeat (refine step_go [] ?_;conv=>whnf))
       refine ⟨S (i + 1), weak_of ?_ .nil rfl rfl rfl, ih (i + 1) ⟨by omega, by rw [List.take_succ_eq_append_getElem hi, List.take_succ_eq_append_getElem (by omega : i < m.length), ht, he]⟩ (by omega)⟩
       repeat' first
        | exact VWs.nil
        | refine VWs.cons VW.undef ?_
        | refine VWs.cons (VW.eq rfl) ?_
        | refine VWs.cons (VW.eq (congrArg (V.int .i64) (by rw [wrap64 (by omega) (by omega)]; omega))) ?_
   · have hi : i = l.length := by simp [hlen] at g; omega
     subst hi
     have he : l = m := by rw [List.take_length, hlm, List.take_length] at ht; exact ht
     rw [decide_eq_true he] at h
     (conv=>whnf); (repeat (refine step_go [] ?_;conv=>whnf))
     refine ⟨_, Weak.refl, ?_⟩; (conv=>whnf); (repeat (refine step_go [] ?_;conv=>whnf))
     exact h
theorem i_plain (l m : List Int) (hl : l.length < 1000000) (K) (h : K (.ret (.bool (decide (l = m)))) []) : VCall Tryz.prog 37 [.sl (iL l) .no, .sl (iL m) .no] [] K := by
 refine call_fun [] 0 Tryz.func37 (by rfl) (by rfl) ?_
 (conv=>whnf); (repeat (refine step_go [] ?_;conv=>whnf))
 refine i_same l m hl _ ?_; (conv=>whnf); (repeat (refine step_go [] ?_;conv=>whnf))
 exact h
theorem i_kept (l : List Int) (f : Int) (hl : l.length < 1000000) (K) (h : K (.ret (.bool true)) []) : VCall Tryz.prog 15 [.spare (iL l) (iL [f, f, f]), .sl (iL l) .no, (V.int .i64) f] [] K := by
 have hlen := i_len l
 have h3 : (iL [f, f, f]).length = 3 := rfl
 refine call_fun [] 0 Tryz.func15 (by rfl) (by rfl) ?_
 (conv=>whnf); (repeat (refine step_go [] ?_;conv=>whnf))
 refine VCall.args (args' := [.sl (iL l) .no, .sl (iL l) .no]) (.cons .spare (.cons (.eq rfl) .nil)) rfl ?_
 refine i_plain l l hl _ ?_
 rw [decide_eq_true rfl]; (conv=>whnf); (repeat (refine step_go [] ?_;conv=>whnf))
 refine no (by rw [h3, wrap64 (by omega) (by omega)]; simp) ?_; (conv=>whnf); (repeat (refine step_go [] ?_;conv=>whnf))
 rw [show IntKind.i64.wrap (↑(iL l).length + 3) = (((iL l).length + 3 : Nat) : Int) by rw [wrap64 (by omega) (by omega)]; omega, Int.toNat_natCast]
 refine ⟨by omega, by omega, by rw [h3]; omega, ?_, ?_⟩
 · rw [i_app]; exact i_cells
 (conv=>whnf); (repeat (refine step_go [] ?_;conv=>whnf))
 let S : Nat -> St := fun i => ⟨(.spare (iL l) (iL [f, f, f]) :: .sl (iL l) .no :: (V.int .i64) f :: .undef :: .undef :: .undef :: .bool false :: .sl (iL (l ++ [f, f, f])) .no :: .int .i64 ((l.length + i : Nat) : Int) :: .undef :: .undef :: .undef :: .undef :: .undef :: .undef :: .undef :: .undef :: .undef :: .undef :: .undef :: .undef :: .undef :: .undef :: .undef :: .undef :: .undef :: .undef :: .undef :: .undef :: .undef :: .undef :: .undef :: .undef :: .undef :: .undef :: .undef :: .undef :: .undef :: .undef :: .undef :: []), [], 0, []⟩
 refine VLoop.enter (s' := S 0) (weak_of ?_ .nil rfl rfl rfl) (VLoop.ind S 3 ?_ ?_)
 · have e : ((iL l ++ iL [f, f, f]).take ((iL l).length + 3)).drop (Int.toNat 0) = iL (l ++ [f, f, f]) := by
    rw [Int.toNat_zero, List.drop_zero, i_app, List.take_of_length_le (by simp [iL])]
   repeat' first
    | exact VWs.nil
    | refine VWs.cons VW.undef ?_
    | refine VWs.cons (VW.eq rfl) ?_
    | refine VWs.cons (VW.eq (by rw [e])) ?_
    | refine VWs.cons (VW.eq (by rw [hlen]; rfl)) ?_
 · intro i hi ih
   have hget : (iL (l ++ [f, f, f]))[((l.length + i : Nat) : Int).toNat]? = some ((V.int .i64) f) := by
    rw [Int.toNat_natCast, i_get, List.getElem?_append_right (by omega), Nat.add_sub_cancel_left]
    obtain rfl | rfl | rfl : i = 0 \/ i = 1 \/ i = 2 := by omega
    all_goals rfl
   have hll : (iL (l ++ [f, f, f])).length = l.length + 3 := by simp [iL]
   refine loop_round [] ?_; (conv=>whnf); (repeat (refine step_go [] ?_;conv=>whnf))
   refine yes (by simp [hll]; omega) ?_; (conv=>whnf); (repeat (refine step_go [] ?_;conv=>whnf))
   repeat' first
    | (refine step_go [] ?_;conv=>whnf)
    | (refine ⟨by omega, _, hget, rfl, ?_⟩;conv=>whnf)
    | (refine And.intro rfl ?_;conv=>whnf)
   refine no (by simp) ?_; (conv=>whnf); (repeat (refine step_go [] ?_;conv=>whnf))
   refine ⟨S (i + 1), weak_of ?_ .nil rfl rfl rfl, ih⟩
   repeat' first
    | exact VWs.nil
    | refine VWs.cons VW.undef ?_
    | refine VWs.cons (VW.eq rfl) ?_
    | refine VWs.cons (VW.eq (congrArg (V.int .i64) (by rw [wrap64 (by omega) (by omega)]; omega))) ?_
 · have hll : (iL (l ++ [f, f, f])).length = l.length + 3 := by simp [iL]
   refine loop_round [] ?_; (conv=>whnf); (repeat (refine step_go [] ?_;conv=>whnf))
   refine no (by simp [hll]) ?_; (conv=>whnf); (repeat (refine step_go [] ?_;conv=>whnf))
   refine ⟨_, Weak.refl, ?_⟩; (conv=>whnf); (repeat (refine step_go [] ?_;conv=>whnf))
   exact h
end BW3

namespace BW4
open Go Go.Proofs VL B10 BB6 BB10 BB14 C1 C2 BW1 BW2 BW3
theorem sB_inj' {a b : ByteArray} (h : sB a = sB b) : a = b := by rw [← toBA_sB a, h, toBA_sB b]
theorem ba_toList {a b : ByteArray} (h : a.toList = b.toList) : a = b := by
 have := str_beq a b
 rw [beq_iff_eq.2 h] at this
 exact sB_inj' (beq_iff_eq.1 this.symm)
set_option maxHeartbeats 8000000 in
theorem c_sameD (p q : Prod) (h1 : p.resets.length < 1000000) (h2 : p.late.length < 1000000) (h3 : p.hol.length < 1000000) (K : Out -> List VObj -> Prop) (h : ∀ b : Bool, (b = true ↔ p = q) -> K (.ret (.bool b)) []) : VCall Tryz.prog 17 [encP p, encP q] [] K := by
 unfold encP cellsP
 refine call_fun [] 0 Tryz.func17 (by rfl) (by rfl) ?_
 conv=>whnf
 (repeat' first | (refine step_go [] ?_;conv=>whnf) | (refine two ?_ ?_<;>intro g<;>(try simp only[bsx]at g)<;>(conv=>whnf)) | (refine And.intro rfl ?_;conv=>whnf) | (refine r_plain p.resets q.resets h1 _ ?_;conv=>whnf) | (refine t_plain p.late q.late h2 _ ?_;conv=>whnf) | (refine i_plain p.hol q.hol h3 _ ?_;conv=>whnf) | (rw [fl_4];conv=>whnf) | fail)
 all_goals first
  | (refine h false (iff_of_false (by decide) fun hh => ?_)
     rw [hh] at g
     first
     | exact g rfl
     | (simp at g; done))
  | (refine h _ ⟨fun hh => ?_, fun hh => by subst hh; simp⟩
     have e1 := ba_toList (by assumption)
     cases p
     cases q
     simp_all
     done)
  | trace_state
end BW4

namespace PA1
open Go Go.Proofs VL D1 D2 B2 B8 B15 C19 B10 B12 B13 B14 B20 BB4 BB5 BB6 BB7 BB8 BB9 BB10 BB14 C1 C2 C3 C4 C6 C14 C15 C18 BP1 BP5 BW1 BW2 BW3 BW4 P1 P2 PS1 PS4 PL1
theorem name_home : nameP (sB ⟨#[104, 111, 109, 101]⟩) := by
 have e : sB (⟨#[104, 111, 109, 101]⟩ : ByteArray) = [104, 111, 109, 101] := rfl
 rw [e]
 refine ⟨⟨by decide, by decide, fun x hx => ?_, by decide⟩, by decide⟩
 injection hx with hx; subst hx; decide
theorem plain_ok : checkP plain0 := by
 refine ⟨⟨⟨name_home, by decide, by decide, by decide⟩, by unfold shape2; decide, by unfold shape3; decide⟩, ⟨by decide, by decide, by decide, trivial⟩, ⟨by unfold orderP; decide, by decide⟩, ⟨by decide, by decide, by decide, trivial⟩, ⟨⟨by decide, trivial⟩, by decide, by decide⟩⟩
theorem res_all {times : Int} : ∀ {q : Option Rs} {l : List Rs}, resetsP times q l -> ∀ r ∈ l, (1 <= r.aft /\ r.aft <= times - 1) /\ 0 <= r.rate /\ r.rate <= 1000000000
 | _, [], _, r, hr => by cases hr
 | q, x :: l, h, r, hr => by
   rcases List.mem_cons.1 hr with rfl | hr
   · exact ⟨h.1, h.2.1⟩
   · exact res_all h.2.2.2 r hr
theorem tier_all : ∀ {q : Option Ti} {l : List Ti}, tiersP q l -> ∀ r ∈ l, (1 <= r.days /\ r.days <= 365) /\ 0 <= r.fee /\ r.fee <= 10000000000000
 | _, [], _, r, hr => by cases hr
 | q, x :: l, h, r, hr => by
   rcases List.mem_cons.1 hr with rfl | hr
   · exact ⟨h.1, h.2.1⟩
   · exact tier_all h.2.2.2 r hr
theorem ok_of_check {p : Prod} (h : checkP p) : p.ok := by
 obtain ⟨⟨⟨hname, hcount, hrnd, hkind⟩, hevery, hshape⟩, ⟨hrate, hpen, hrl, hres⟩, ⟨⟨g1, g2, g3, g4, _⟩, hover⟩, ⟨hll, hcap, hlc, htie⟩, ⟨⟨hhl, hhol⟩, hroll, hrh⟩⟩ := h
 have nl := hname.1.2.1
 rw [sB_len] at nl
 unfold shape2 at hevery
 unfold shape3 at hshape
 constructor
 all_goals try (unfold I64; omega)
 · omega
 · intro x hx; have := res_all hres x hx; unfold I64; omega
 · intro x hx; have := tier_all htie x hx; unfold I64; omega
 · intro x hx; have := hol_in hhol x hx; unfold I64; omega
 all_goals omega
theorem near0_ok (p : Prod) {t : Int} (ht : 1 <= t /\ t <= 600) : checkP (near0 p t) /\ (near0 p t).times <= t := by
 have hut : IntKind.u64.wrap t = t := wrapu64 (by omega) (by omega)
 have u1 := um_in p.count (n := 3) (by decide) (by decide)
 have u2 := um_in p.rnd (n := 2) (by decide) (by decide)
 have u3 := um_in p.kind (n := 3) (by decide) (by decide)
 have u4 := um_in p.every (n := 6) (by decide) (by decide)
 have u5 := um_in p.times (n := t) (by omega) (by omega)
 have u6 := um_in p.rate (n := 300000000) (by decide) (by decide)
 have u7 := um_in p.pen (n := 500000000) (by decide) (by decide)
 have u8 := um_in p.over (n := 3) (by decide) (by decide)
 have e1 := um1 p.count (n := 3) (by decide) (by decide)
 have e3 := um1 p.kind (n := 3) (by decide) (by decide)
 have e5 := um1 p.times (n := t) (by omega) (by omega)
 have e8 := um1 p.over (n := 3) (by decide) (by decide)
 have hrn : rndP (um p.rnd 2) = 1 \/ rndP (um p.rnd 2) = 3 := by unfold rndP; split <;> simp
 have hev : everyP (um p.every 6) = 1 \/ everyP (um p.every 6) = 2 \/ everyP (um p.every 6) = 3 \/ everyP (um p.every 6) = 4 \/ everyP (um p.every 6) = 6 \/ everyP (um p.every 6) = 12 := by unfold everyP; (repeat' split) <;> decide
 unfold near0
 rw [hut, e1, e3, e5, e8]
 refine ⟨⟨⟨⟨name_home, by simp only; omega, hrn, by simp only; omega⟩, hev, ?_⟩, ⟨by simp only; omega, by simp only; omega, by simp, trivial⟩, ⟨by unfold orderP; simp, by simp only; omega⟩, ⟨by simp, by simp, .inr rfl, trivial⟩, ⟨⟨by simp, trivial⟩, by simp, .inr rfl⟩⟩, by simp only; omega⟩
 unfold shape3
 simp only
 refine ⟨by omega, by omega, .inr trivial⟩
theorem play_ok (p : Prod) {t : Int} (ht : 1 <= t /\ t <= 600) : checkP (playP p t) /\ (playP p t).times <= t := by
 have h1 : checkP (near1 p t) := by
  unfold near1
  split
  · assumption
  · exact (near0_ok p ht).1
 have h0 : 0 <= (near1 p t).grace := by obtain ⟨⟨_, _, hs⟩, _⟩ := h1; unfold shape3 at hs; omega
 unfold playP
 generalize near1 p t = q at h1 h0
 obtain ⟨⟨hn, hevery, hshape⟩, ⟨hrate, hpen, hrl, hres⟩, hord, hlate, hday⟩ := h1
 unfold shape3 at hshape
 unfold near2
 split
 · unfold near3
   split
   · exact ⟨⟨⟨hn, hevery, show (1 <= t /\ t <= 600) /\ ((0 : Int) <= 0 /\ 0 <= t - 1) /\ (q.kind ≠ 3 \/ (0 : Int) = 0) by omega⟩, ⟨hrate, hpen, by simp, trivial⟩, hord, hlate, hday⟩, Int.le_refl t⟩
   · rename_i h
     have h : ¬(t <= q.grace \/ q.kind = 3) := h
     exact ⟨⟨⟨hn, hevery, show (1 <= t /\ t <= 600) /\ (0 <= q.grace /\ q.grace <= t - 1) /\ (q.kind ≠ 3 \/ q.grace = 0) by omega⟩, ⟨hrate, hpen, by simp, trivial⟩, hord, hlate, hday⟩, Int.le_refl t⟩
 · unfold near3
   split
   · exact ⟨⟨⟨hn, hevery, show (1 <= q.times /\ q.times <= 600) /\ ((0 : Int) <= 0 /\ 0 <= q.times - 1) /\ (q.kind ≠ 3 \/ (0 : Int) = 0) by omega⟩, ⟨hrate, hpen, hrl, hres⟩, hord, hlate, hday⟩, show q.times <= t by omega⟩
   · exact ⟨⟨⟨hn, hevery, show (1 <= q.times /\ q.times <= 600) /\ (0 <= q.grace /\ q.grace <= q.times - 1) /\ (q.kind ≠ 3 \/ q.grace = 0) by omega⟩, ⟨hrate, hpen, hrl, hres⟩, hord, hlate, hday⟩, by omega⟩
theorem print50 (p : Prod) : 50 < (printS p).length := by
 unfold printS
 simp only [List.length_append, ln_len, List.length_cons, List.length_nil]
 have z : w_product.length = 7 /\ w_count.length = 5 /\ w_round.length = 5 /\ w_kind.length = 4 /\ w_every.length = 5 /\ w_times.length = 5 /\ w_grace.length = 5 /\ w_rate.length = 4 /\ w_penalty.length = 7 /\ w_order.length = 5 /\ w_over.length = 4 /\ w_cap.length = 3 /\ w_roll.length = 4 := ⟨rfl, rfl, rfl, rfl, rfl, rfl, rfl, rfl, rfl, rfl, rfl, rfl, rfl⟩
 omega
theorem take15 : (printS plain0).take 15 = [112, 114, 111, 100, 117, 99, 116, 32, 104, 111, 109, 101, 32, 123, 10] := by
 rw [PS1.printS_eq]
 have e : ∀ x y z : List Int, (w_product ++ [32] ++ sB plain0.name ++ [32, 123, 10] ++ x ++ y).take 15 = w_product ++ [32] ++ sB plain0.name ++ [32, 123, 10] := fun x y z => by
  rw [List.append_assoc]
  exact List.take_left' rfl
 rw [e _ _ []]; rfl
set_option maxHeartbeats 2000000 in
theorem c_awake (K : Out -> List VObj -> Prop) (h : K (.ret (.bool true)) []) : VCall Tryz.prog 7 [] [] K := by
 refine call_fun [] 0 Tryz.func7 (by rfl) (by rfl) ?_
 conv=>whnf
 (repeat' first | (refine step_go [] ?_;conv=>whnf) | (refine two ?_ ?_<;>intro g<;>(try simp only[bsx]at g)<;>(conv=>whnf)) | (refine And.intro rfl ?_;conv=>whnf) | (refine c_Plain _ ?_;conv=>whnf) | fail)
 refine c_Print plain0 (ok_of_check plain_ok) _ (fun _ hl T hT => ?_) (fun _ hl => absurd (print_len plain_ok) (by omega)) (fun hn => absurd plain_ok hn)
 have hz : T.size = (printS plain0).length := by rw [← hT, sB_len]
 have h50 := print50 plain0
 rw [← hz] at h50 hl
 have hx : T.extract 0 15 = ⟨#[112, 114, 111, 100, 117, 99, 116, 32, 104, 111, 109, 101, 32, 123, 10]⟩ := by
  apply P1.sB_inj
  rw [sB_ext, hT, take15]; rfl
 conv=>whnf
 (repeat' first | (refine step_go [] ?_;conv=>whnf) | (refine two ?_ ?_<;>intro g<;>(try simp only[bsx]at g)<;>(conv=>whnf)) | (refine And.intro rfl ?_;conv=>whnf) | (refine ⟨by omega, by omega, by omega, ?_⟩;conv=>whnf) | (refine ⟨by decide, by decide, by omega, ?_⟩;conv=>whnf) | fail)
 all_goals first
  | (rw [show T.extract (Int.toNat 0) (Int.toNat 15) = _ from hx, beq_self_eq_true]
     exact h)
  | (exfalso; omega)
  | trace_state
end PA1

namespace PA2
open Go Go.Proofs VL D1 D2 B2 B8 B15 C19 B10 B12 B13 B14 B20 BB4 BB5 BB6 BB7 BB8 BB9 BB10 BB14 C1 C2 C3 C4 C6 C14 C15 C18 BP1 BP5 BW1 BW2 BW3 BW4 P1 P2 PS1 PS4 PL1 PA1
set_option maxHeartbeats 8000000 in
theorem g_one (p q : Prod) (hp : p.okW) (hq : q.okW) : VCall Tryz.prog 4 [encP p, encP q] [] fun out _ => out = .ret (.bool true) := by
 obtain ⟨kp, _⟩ := play_ok p (t := 20) (by decide)
 obtain ⟨kq, _⟩ := play_ok q (t := 20) (by decide)
 have cp := c_play p hp 20 (by decide)
 have cq := c_play q hq 20 (by decide)
 generalize playP p 20 = P at kp cp
 generalize playP q 20 = Q at kq cq
 have oP := ok_of_check kp
 have oQ := ok_of_check kq
 unfold encP cellsP at cp cq
 refine call_fun [] 0 Tryz.func4 (by rfl) (by rfl) ?_
 conv=>whnf
 (repeat' first | (refine step_go [] ?_;conv=>whnf) | (refine two ?_ ?_<;>intro g<;>(try simp only[bsx]at g)<;>(conv=>whnf)) | (refine And.intro rfl ?_;conv=>whnf) | (refine dr_go (by decide +kernel) ?_;conv=>whnf) | (refine cp _ ?_;conv=>whnf) | (refine cq _ ?_;conv=>whnf) | fail)
 refine c_Print P oP _ (fun _ hl S hS => ?_) (fun _ hl => absurd (print_len kp) (by omega)) (fun hn => absurd kp hn)
 conv=>whnf
 (repeat' first | (refine step_go [] ?_;conv=>whnf) | (refine two ?_ ?_<;>intro g<;>(try simp only[bsx]at g)<;>(conv=>whnf)) | (refine And.intro rfl ?_;conv=>whnf) | (refine dr_go (by decide +kernel) ?_;conv=>whnf) | fail)
 refine c_Print Q oQ _ (fun _ hl2 T hT => ?_) (fun _ hl => absurd (print_len kq) (by omega)) (fun hn => absurd kq hn)
 conv=>whnf
 (repeat' first | (refine step_go [] ?_;conv=>whnf) | (refine two ?_ ?_<;>intro g<;>(try simp only[bsx]at g)<;>(conv=>whnf)) | (refine And.intro rfl ?_;conv=>whnf) | (refine dr_go (by decide +kernel) ?_;conv=>whnf) | (refine c_awake _ ?_;conv=>whnf) | fail)
 refine c_sameD P Q (by have := oP.lr; omega) (by have := oP.ll; omega) (by have := oP.lh; omega) _ (fun b hb => ?_)
 conv=>whnf
 (repeat' first | (refine step_go [] ?_;conv=>whnf) | (refine two ?_ ?_<;>intro g<;>(try simp only[bsx]at g)<;>(conv=>whnf)) | (refine And.intro rfl ?_;conv=>whnf) | (refine dr_go (by decide +kernel) ?_;conv=>whnf) | fail)
 all_goals
  refine congrArg (fun b => Out.ret (V.bool b)) ?_
  have e : (S.toList == T.toList) = b := by
   rw [str_beq, hS, hT, Bool.eq_iff_iff, beq_iff_eq, hb]
   exact ⟨print_inj kp kq, fun h => by rw [h]⟩
  rw [e, beq_self_eq_true]
theorem c_awakeT (b : Bool) (hb : b = true) (K : Out -> List VObj -> Prop) (h : K (.ret (.bool b)) []) : VCall Tryz.prog 7 [] [] K := c_awake K (by rw [hb] at h; exact h)
theorem c_PrintZ (E : ByteArray) (hE : E = ⟨#[]⟩) (z n : Int) (hz : z = 0) (hn : n = 9) (p : Prod) (hp : p.ok) (K : Out -> List VObj -> Prop)
 (h0 : checkP p -> ∀ t, sB t = printS p -> K (.ret (.tup [.str t, .int .i64 z])) []) (h2 : ¬ checkP p -> K (.ret (.tup [.str E, .int .i64 n])) []) : VCall Tryz.prog 11 [encP p] [] K := by
 subst hz hn hE
 exact c_Print p hp K (fun a _ => h0 a) (fun hc hl => absurd (print_len hc) (by omega)) h2
theorem c_rPrintZ (E : ByteArray) (hE : E = ⟨#[]⟩) (z n : Int) (hz : z = 0) (hn : n = 9) (p : Prod) (hp : p.okW) (K : Out -> List VObj -> Prop)
 (h0 : checkP p -> ∀ t, sB t = printS p -> K (.ret (.tup [.str t, .int .i64 z])) []) (h2 : ¬ checkP p -> K (.ret (.tup [.str E, .int .i64 n])) []) : VCall Tryz.prog 12 [encP p] [] K := by
 subst hz hn hE
 exact c_rPrint p hp K (fun a _ => h0 a) (fun hc hl => absurd (print_len hc) (by omega)) h2
theorem r_keptT (b : Bool) (hb : b = true) (l : List Rs) (f : Rs) (hl : l.length < 1000000) (K) (h : K (.ret (.bool b)) []) : VCall Tryz.prog 13 [.spare (rL l) (rL [f, f, f]), .sl (rL l) .no, encR f] [] K := r_kept l f hl K (by rw [hb] at h; exact h)
theorem t_keptT (b : Bool) (hb : b = true) (l : List Ti) (f : Ti) (hl : l.length < 1000000) (K) (h : K (.ret (.bool b)) []) : VCall Tryz.prog 14 [.spare (tL l) (tL [f, f, f]), .sl (tL l) .no, encT f] [] K := t_kept l f hl K (by rw [hb] at h; exact h)
theorem i_keptT (b : Bool) (hb : b = true) (l : List Int) (f : Int) (hl : l.length < 1000000) (K) (h : K (.ret (.bool b)) []) : VCall Tryz.prog 15 [.spare (iL l) (iL [f, f, f]), .sl (iL l) .no, .int .i64 f] [] K := i_kept l f hl K (by rw [hb] at h; exact h)
set_option maxHeartbeats 8000000 in
theorem g_tells (p : Prod) (hp : p.okW) : VCall Tryz.prog 3 [encP p] [] fun out _ => out = .ret (.bool true) := by
 have hlr : (rL p.resets).length = p.resets.length := by simp [rL]
 have hlt : (tL p.late).length = p.late.length := by simp [tL]
 have hli : (iL p.hol).length = p.hol.length := by simp [iL]
 have hok : p.name.size <= 100 -> p.resets.length <= 50 -> p.late.length <= 50 -> p.hol.length <= 300 -> p.ok := fun a b c d => { hp with name := by omega, lr := by omega, ll := by omega, lh := by omega }
 obtain ⟨E, hE⟩ : ∃ E : ByteArray, E = ⟨#[]⟩ := ⟨_, rfl⟩
 obtain ⟨tt, htt⟩ : ∃ b : Bool, b = true := ⟨_, rfl⟩
 obtain ⟨z, hz⟩ : ∃ z : Int, z = 0 := ⟨_, rfl⟩
 obtain ⟨n9, hn9⟩ : ∃ z : Int, z = 9 := ⟨_, rfl⟩
 have ez : ∀ x : Int, (x == x) = true := fun x => beq_self_eq_true x
 have eS : ∀ x : ByteArray, (x.toList == x.toList) = true := fun x => beq_self_eq_true _
 refine call_fun [] 0 Tryz.func3 (by rfl) (by rfl) ?_
 conv=>whnf
 (repeat' first | (refine step_go [] ?_;conv=>whnf) | (refine two ?_ ?_<;>intro g<;>(try simp only[bsx, hlr, hlt, hli]at g)<;>(conv=>whnf)) | (refine And.intro rfl ?_;conv=>whnf) | (refine dr_go (by decide +kernel) ?_;conv=>whnf) | (refine c_awake _ ?_;conv=>whnf) | fail)
 have ok := hok (by omega) (by omega) (by omega) (by omega)
 have l1 := ok.lr; have l2 := ok.ll; have l3 := ok.lh
 (repeat' first | (refine step_go [] ?_;conv=>whnf) | (refine two ?_ ?_<;>intro g<;>(try simp only[bsx]at g)<;>(conv=>whnf)) | (refine And.intro rfl ?_;conv=>whnf) | (refine dr_go (by decide +kernel) ?_;conv=>whnf) | (refine r_own p.resets ⟨71, 0⟩ l1 _ ?_;conv=>whnf) | (refine t_own p.late ⟨71, 0⟩ l2 _ ?_;conv=>whnf) | (refine i_own p.hol 71 l3 _ ?_;conv=>whnf) | fail)
 refine VCall.args (args' := [encP p]) (.cons (.agg ?_) .nil) rfl ?_
 · (repeat' first | exact VQs.nil | refine VQs.cons VQ.no ?_ | refine VQs.cons VQ.spare ?_ | refine VQs.cons (VQ.eq rfl) ?_)
 refine c_PrintZ E hE z n9 hz hn9 p ok _ (fun hc S hS => ?_) (fun hn => ?_)
 all_goals
  conv=>whnf
  (repeat' first | (refine step_go [] ?_;conv=>whnf) | (refine two ?_ ?_<;>intro g<;>(try simp only[bsx]at g)<;>(conv=>whnf)) | (refine And.intro rfl ?_;conv=>whnf) | (refine dr_go (by decide +kernel) ?_;conv=>whnf) | fail)
  refine c_rPrintZ E hE z n9 hz hn9 p hp _ (fun hc2 T hT => ?_) (fun hn2 => ?_)
 · have e : S = T := P1.sB_inj (hS.trans hT.symm)
   subst e
   clear hS hT
   conv=>whnf
   (repeat first | (refine step_go [] ?_;conv=>whnf) | (refine yes htt ?_;conv=>whnf) | (refine yes (ez _) ?_;conv=>whnf) | (refine yes (eS _) ?_;conv=>whnf) | (refine And.intro rfl ?_;conv=>whnf) | (refine c_awakeT tt htt _ ?_;conv=>whnf) | (refine r_keptT tt htt p.resets ⟨71, 0⟩ l1 _ ?_;conv=>whnf) | (refine t_keptT tt htt p.late ⟨71, 0⟩ l2 _ ?_;conv=>whnf) | (refine i_keptT tt htt p.hol 71 l3 _ ?_;conv=>whnf))
   exact congrArg (fun b => Out.ret (V.bool b)) htt
 · exact absurd hc hn2
 · exact absurd hc2 hn
 · conv=>whnf
   (repeat first | (refine step_go [] ?_;conv=>whnf) | (refine yes htt ?_;conv=>whnf) | (refine yes (ez _) ?_;conv=>whnf) | (refine yes (eS _) ?_;conv=>whnf) | (refine And.intro rfl ?_;conv=>whnf) | (refine c_awakeT tt htt _ ?_;conv=>whnf) | (refine r_keptT tt htt p.resets ⟨71, 0⟩ l1 _ ?_;conv=>whnf) | (refine t_keptT tt htt p.late ⟨71, 0⟩ l2 _ ?_;conv=>whnf) | (refine i_keptT tt htt p.hol 71 l3 _ ?_;conv=>whnf))
   exact congrArg (fun b => Out.ret (V.bool b)) htt
end PA2

namespace Go.Proofs.YtdjbfmfkeokfaaaGreatDoor.LBP
open Go Go.Proofs VL
theorem own : ownKnob Tryz.prog.godebug = none := by kernel_rfl
theorem laidOut : laidOutB Tryz.prog = true := by kernel_rfl
def cellsT : DataW Unit -> List Value
 | .agg l => l.flatMap fun
   | .lit (.int k n) => [.int k n]
   | .agg m => m.flatMap fun
     | .lit (.int k n) => [.int k n]
     | _ => []
   | _ => []
 | _ => []
def layAt (w : World) (g : Nat) (cs : List Value) : World :=
 { w with heap := w.heap.modify g fun
  | .cells _ t fz => .cells cs.toArray t fz
  | o => o }
noncomputable def layAll : List (String × DataW Unit) -> World -> World
 | [], w => w
 | (n, d) :: r, w => match Tryz.prog.globalNamed n with
  | some g => layAll r (layAt w g (cellsT d))
  | none => layAll r w
noncomputable def laidWorld (os : Os) (l : List (String × DataW Unit)) : World := layAll l (World.holding Tryz.prog os ⟨#[], #[], []⟩)
theorem reads {P : Program} {w : World} : ∀ {l : List (String × DataW Unit)} {ps : List MemPlace}, DataW.LaidVars P w l ps -> ∀ n d, (n, d) ∈ l ->
 ∃ g t cs fuel p, P.globalNamed n = some g /\ (P.globals[g]?).map (·.type) = some t /\ w.var? P n = some cs /\ DataW.trod (fun _ => ()) P w 0 (fun _ => true) false fuel t cs.toList = some (d, p)
 | [], _, _, _, _, hm => by cases hm
 | (n', d') :: r, ps, h, n, d, hm => by
  obtain ⟨g, t, cs, fuel, p, q, h1, h2, h3, h4, h5, _⟩ := h
  rcases List.mem_cons.1 hm with e | e
  · cases e
    exact ⟨g, t, cs, fuel, p, h1, h2, h3, h4⟩
  · exact reads h5 n d e
def pows : List Int := [1, 10, 100, 1000, 10000, 100000, 1000000, 10000000, 100000000, 1000000000, 10000000000, 100000000000, 1000000000000, 10000000000000, 100000000000000, 1000000000000000, 10000000000000000, 100000000000000000, 1000000000000000000, 10000000000000000000]
theorem globs {W : World} {l : List (String × DataW Unit)} (hm : ("internal/strconv.uint64pow10", Rows.laid_internal_strconv_uint64pow10) ∈ l) (h : laidMet Tryz.prog l W) :
 ∀ b l, glob b = some l -> ∀ (k : Nat) v, l[k]? = some v -> W.cell? ⟨b, k, none⟩ = some v := by
 obtain ⟨ps, hv, _⟩ := h
 obtain ⟨g, t, cs, fuel, p, h1, h2, h3, h4⟩ := reads hv _ _ hm
 have hg : Tryz.prog.globalNamed "internal/strconv.uint64pow10" = some 0 := by kernel_rfl
 obtain rfl := Option.some.inj (hg.symm.trans h1)
 have ht : (Tryz.prog.globals[0]?).map (·.type) = some 174 := by kernel_rfl
 obtain rfl := Option.some.inj (ht.symm.trans h2)
 have hc := Go.Lib.cells_of_tab (e := 74) (n := 20) (k := .u64) (zs := pows) (by kernel_rfl) (by kernel_rfl) (by kernel_rfl) (by kernel_rfl) h4
 have ht : Go.Lib.TabIs Tryz.prog W "internal/strconv.uint64pow10" .u64 pows := by
  unfold Go.Lib.TabIs; rw [h3, ← hc]
 intro b l hb k v hk
 unfold glob at hb
 split at hb
 · cases hb
   have hlen : k < 20 := (List.getElem?_eq_some_iff.1 hk).1
   rw [ht.cell hg k hlen]
   have e : ∀ (q : List Value), q = pows.map (Value.int .u64) -> q[k]? = some v -> some (Value.int .u64 (pows.getD k 0)) = some v := fun q e h => by
    subst e
    rw [List.getElem?_map] at h
    obtain ⟨z, hz, rfl⟩ := Option.map_eq_some_iff.1 h
    rw [List.getD_eq_getElem?_getD, hz]; rfl
   exact e _ rfl hk
 · cases hb
theorem hgi (W : World) (hsh : W.ShapedOpen Tryz.prog) : ∀ b, globI b = true -> ∃ m, W.cell? ⟨b, 0, none⟩ = some (.int .i64 m) := by
 intro b hb
 match b, hb with
 | 1, _ => exact cell_of_shapedOpen_int (P := Tryz.prog) (g := 1) (t := 3) (zero := #[.int .i64 0]) hsh (of_decide_eq_true (by kernel_rfl)) (by kernel_rfl) rfl (by kernel_rfl) (by kernel_rfl) (by kernel_rfl)
theorem wrap_both {H : Type} {enc : TypeId × Value -> H} {a : Assume} {C : Checked} {os : Os} {f : FuncId} {fn : Func} {s : ChangeSpec} {conds : List PathCond} {apart fresh handsOn again : Bool} {X : World -> Array Value -> Prop}
 (hX : ∀ (w w' : World) (args : Array Value), w.heap = w'.heap -> X w args -> X w' args)
 (own : ownKnob C.prog.godebug = none) (started : os.Started) (noInit : C.prog.inits.idxOf? f = none) (hfn : C.prog.funcs[f]? = some fn)
 (witness : ∃ (w : World) (tape : Tape) (i : Input), w.os = os /\ (w.forCall tape i).Shaped C.prog /\ i.vars = [] /\ Input.okWide C.prog (w.forCall tape i) .any w.heap.size f i /\
   ((s.pre enc C.prog fn conds apart (w.forCall tape i).memory i.args /\ X (w.forCall tape i).memory i.args) /\ sizedMet enc C.prog fn (OpenSpec.ofChange s) apart (w.forCall tape i).memory i.args) /\ a.holds C.prog (lone (Frame.enter C.prog f i.args .normal) [] (w.forCall tape i)))
 (contract : ∀ (W : World) (base : Nat) (args : Array Value) (ds gs : List (DataW H)) (before : List MemPlace),
   (∀ (j : Nat) t v, fn.params[j]? = some t -> args[j]? = some v -> Value.okWide C.prog W .any base t v) ->
   DataW.Whole enc C.prog fn.params.toList s.vars apart W args.toList ds gs before ->
   conds.all (PathCond.test C.prog ⟨fn.params.toList, ds, s.plain.varTypes C.prog, gs⟩) = true ->
   (DataW.weightsEach C.prog (fn.params.toList ++ s.plain.varTypes C.prog) (ds ++ gs)).all (· <= reachBytes) = true -> X W args -> W.ShapedOpen C.prog ->
   a.holds C.prog (lone (Frame.enter C.prog f args .normal) [] W) ->
   Calls C.prog f args W fun e W' => ∃ v, e = .returned v /\ s.post enc C.prog fn apart fresh handsOn again W args v W') :
 ReturnsInHanded a C os f .any (fun w args => (s.pre enc C.prog fn conds apart w args /\ X w args) /\ sizedMet enc C.prog fn (OpenSpec.ofChange s) apart w args) (s.post enc C.prog fn apart fresh handsOn again) := by
 refine returnsInHanded_of_calls own started noInit witness ?_
 intro w tape i _ hsh _ hok hpre hholds
 obtain ⟨_, _, _, fn', hfn', _, _, _, _, hval⟩ := hok
 obtain rfl := Option.some.inj (hfn'.symm.trans hfn)
 obtain ⟨⟨⟨ds, gs, before, hw, hc⟩, hx⟩, hz⟩ := hpre
 refine (contract (w.forCall tape i) w.heap.size i.args ds gs before hval (DataW.Whole.of_heap (w' := w.forCall tape i) (by rfl) hw) hc (hz.weights hw) (hX _ _ _ (by rfl) hx) hsh hholds).mono fun e W' ⟨v, he, hp⟩ => ?_
 subst he
 exact ChangeSpec.post_blind hp
open B10 BB14 BB15 C2
def tyTwo : Ty := .row [.int .i64, .int .i64]
def tyProd : Ty := .row [.str, .int .i64, .int .i64, .int .i64, .int .i64, .int .i64, .int .i64, .int .i64, .sl tyTwo 2 16 true, .int .i64, .row [.int .i64, .int .i64, .int .i64, .int .i64], .int .i64, .sl tyTwo 2 16 true, .int .i64, .int .i64, .sl (.int .i64) 1 8 false]
theorem two_of {α : Type} {enc : α -> V} {mk : Int -> Int -> α} {ok : α -> Prop} (he : ∀ a b, enc (mk a b) = .agg [.int .i64 a, .int .i64 b]) (ho : ∀ a b, I64 a -> I64 b -> ok (mk a b)) {l : List V} (hl : ∀ x ∈ l, if true = true then ∃ cs, x = .agg cs /\ ShT tyTwo cs else ShT tyTwo [x]) : ∃ as1' : List α, l = as1'.map enc /\ ∀ a ∈ as1', ok a :=
 list_of fun x hx => by
  have := hl x hx
  rw [if_pos rfl] at this
  obtain ⟨cs, rfl, h⟩ := this
  simp only [tyTwo, ShT] at h
  obtain ⟨a, _, rfl, wa, h1⟩ := ShTs.int h
  obtain ⟨b, _, rfl, wb, h2⟩ := ShTs.int h1
  obtain rfl := sh_nil h2
  exact ⟨mk a b, (he a b).symm, ho a b (BB15.i64_wf wa) (BB15.i64_wf wb)⟩
theorem prod_of {x : V} (h : ShA tyProd true x) : ∃ p : C2.Prod, x = encP p /\ p.okW := by
 unfold ShA tyProd at h
 rw [if_pos rfl] at h
 obtain ⟨cs, rfl, h⟩ := h
 simp only [ShT] at h
 obtain ⟨a1, _, rfl, w1, h1⟩ := sh_str h
 obtain ⟨a2, _, rfl, w2, h2⟩ := ShTs.int h1
 obtain ⟨a3, _, rfl, w3, h3⟩ := ShTs.int h2
 obtain ⟨a4, _, rfl, w4, h4⟩ := ShTs.int h3
 obtain ⟨a5, _, rfl, w5, h5⟩ := ShTs.int h4
 obtain ⟨a6, _, rfl, w6, h6⟩ := ShTs.int h5
 obtain ⟨a7, _, rfl, w7, h7⟩ := ShTs.int h6
 obtain ⟨a8, _, rfl, w8, h8⟩ := ShTs.int h7
 obtain ⟨l9, _, rfl, z9, m9, h9⟩ := sh_sl h8
 obtain ⟨a10, _, rfl, w10, h10⟩ := ShTs.int h9
 unfold ShTs at h10
 obtain ⟨r, r', rfl, hr, h11⟩ := h10
 simp only [ShT] at hr
 obtain ⟨b1, _, rfl, v1, hr⟩ := ShTs.int hr
 obtain ⟨b2, _, rfl, v2, hr⟩ := ShTs.int hr
 obtain ⟨b3, _, rfl, v3, hr⟩ := ShTs.int hr
 obtain ⟨b4, _, rfl, v4, hr⟩ := ShTs.int hr
 obtain rfl := sh_nil hr
 obtain ⟨a12, _, rfl, w12, h12⟩ := ShTs.int h11
 obtain ⟨l13, _, rfl, z13, m13, h13⟩ := sh_sl h12
 obtain ⟨a14, _, rfl, w14, h14⟩ := ShTs.int h13
 obtain ⟨a15, _, rfl, w15, h15⟩ := ShTs.int h14
 obtain ⟨l16, _, rfl, z16, m16, h16⟩ := sh_sl h15
 obtain rfl := sh_nil h16
 obtain ⟨rs, rfl, hrs⟩ := two_of (enc := encR) (mk := fun a b => ⟨a, b⟩) (ok := fun r : Rs => I64 r.aft /\ I64 r.rate) (fun _ _ => rfl) (fun _ _ h1 h2 => ⟨h1, h2⟩) m9
 obtain ⟨ts, rfl, hts⟩ := two_of (enc := encT) (mk := fun a b => ⟨a, b⟩) (ok := fun r : Ti => I64 r.days /\ I64 r.fee) (fun _ _ => rfl) (fun _ _ h1 h2 => ⟨h1, h2⟩) m13
 obtain ⟨hs, rfl, hhs⟩ := list_of (enc := V.int .i64) (ok := I64) (l := l16) fun x hx => by
  have := m16 x hx
  rw [if_neg (by decide)] at this
  simp only [ShT] at this
  obtain ⟨n, hn, hw⟩ := this
  injection hn with hn
  exact ⟨n, hn, BB15.i64_wf hw⟩
 rw [List.length_map] at z9 z13 z16
 exact ⟨⟨a1, a2, a3, a4, a5, a6, a7, a8, rs, a10, b1, b2, b3, b4, a12, ts, a14, a15, hs⟩, rfl, ⟨by show a1.size < _; omega, BB15.i64_wf w2, BB15.i64_wf w3, BB15.i64_wf w4, BB15.i64_wf w5, BB15.i64_wf w6, BB15.i64_wf w7, BB15.i64_wf w8, BB15.i64_wf w10, BB15.i64_wf v1, BB15.i64_wf v2, BB15.i64_wf v3, BB15.i64_wf v4, BB15.i64_wf w12, BB15.i64_wf w14, BB15.i64_wf w15, hrs, hts, hhs, by show rs.length < _; omega, by show ts.length < _; omega, by show hs.length < _; omega⟩⟩
end Go.Proofs.YtdjbfmfkeokfaaaGreatDoor.LBP

