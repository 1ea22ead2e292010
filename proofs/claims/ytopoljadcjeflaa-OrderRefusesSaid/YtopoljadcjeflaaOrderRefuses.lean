/- OrderRefuses: for every input the law returns true, and each argument reads afterwards as it read before. No conditions. -/
import Derived.Test.YtopoljadcjeflaaWh
namespace E19
open Go Go.Proofs VL E18 E26
set_option pp.maxSteps 1200
set_option linter.unusedSimpArgs false
set_option linter.unusedVariables false
set_option maxRecDepth 100000

theorem c_may' (B : Bk) (sp : List V) (e : Ev) (b : Bool) (x : Int) (hm : B.may e = (b, x)) (K) (h : K (.ret (.tup [.bool b, .int .i64 x])) (B.obj sp false)) : VCall Try.prog 35 [.ptr 0 0, encE e] (B.obj sp false) K :=
  c_may B.l B.ks B.gs B.paid sp e K (by rw [show mayS B.l B.ks B.gs B.paid e = (b, x) from hm]; exact h)
theorem c_put' (B : Bk) (sp : List V) (e : Ev) (hsp : C5 sp) (hs : Srt B.l) (hl : B.l.length < 90000) (b : Bool) (x : Int) (hm : B.may e = (b, x)) (B' : Bk) (hB : B.put e = B') (K) (h : ∀ sp', C5 sp' → K (.ret (.tup [.bool b, .int .i64 x])) (B'.obj sp' true)) :
    VCall Try.prog 34 [.ptr 0 0, encE e] (B.obj sp false) K :=
  c_put B sp e hsp hs hl K (by rw [hm, hB]; exact h)

theorem chk_of {e : Ev} (h : checkS e = 0) (B : Bk) : B.may e = (match kGet B.ks e.key with
  | some old => if evEq old e then (false, 0) else (false, 14)
  | none => if rulesS B.l B.ks B.gs B.paid e ≠ 0 then (false, rulesS B.l B.ks B.gs B.paid e) else (true, 0)) := by
  unfold Bk.may mayS
  rw [if_neg (by simp [h])]
  rcases kGet B.ks e.key with _ | old <;> rfl

def x9 : Ev := ⟨9, 2, 200, 7, 0⟩
def x5 : Ev := ⟨5, 1, 100, 7, 0⟩
def x7 : Ev := ⟨7, 2, 150, 3, 0⟩
def B5 : Bk := ⟨[x5], [(5, x5)], [], 5⟩
def B7 : Bk := ⟨[x5, x7], [(5, x5), (7, x7)], [], 5⟩

theorem m9 : newB.may x9 = (false, 17) := by
  rw [chk_of (by unfold checkS withinS x9; decide)]
  unfold rulesS fullS namesS onceS earlyS kGet gGet newB x9; decide
theorem m5 : newB.may x5 = (true, 0) := by
  rw [chk_of (by unfold checkS withinS x5; decide)]
  unfold rulesS fullS namesS onceS earlyS kGet gGet newB x5; decide
theorem p5 : newB.put x5 = B5 := by
  rw [put_yes (by rw [m5])]
  unfold posS newB B5 x5; rfl
theorem m7 : B5.may x7 = (true, 0) := by
  rw [chk_of (by unfold checkS withinS x7; decide)]
  unfold rulesS fullS namesS onceS earlyS kGet gGet B5 x7 x5; decide
theorem p7 : B5.put x7 = B7 := by
  rw [put_yes (by rw [m7])]
  unfold posS B5 B7 x7 x5; rfl

theorem may7_0 : B7.may ⟨8, 1, 150, 3, 0⟩ = (false, 17) := by
  rw [chk_of (by unfold checkS withinS; decide)]
  unfold rulesS fullS namesS onceS earlyS kGet gGet B7 x7 x5; decide
theorem may7_1 : B7.may ⟨8, 2, 99, 3, 0⟩ = (false, 18) := by
  rw [chk_of (by unfold checkS withinS; decide)]
  unfold rulesS fullS namesS onceS earlyS kGet gGet B7 x7 x5; decide
theorem may7_2 : B7.may ⟨4, 2, 100, 3, 0⟩ = (false, 18) := by
  rw [chk_of (by unfold checkS withinS; decide)]
  unfold rulesS fullS namesS onceS earlyS kGet gGet B7 x7 x5; decide
theorem may7_3 : B7.may ⟨8, 2, 100, 3, 0⟩ = (true, 0) := by
  rw [chk_of (by unfold checkS withinS; decide)]
  unfold rulesS fullS namesS onceS earlyS kGet gGet B7 x7 x5; decide
theorem may7_4 : B7.may ⟨7, 2, 150, 4, 0⟩ = (false, 14) := by
  rw [chk_of (by unfold checkS withinS; decide)]
  unfold rulesS fullS namesS onceS earlyS kGet gGet evEq B7 x7 x5; decide
theorem may7_5 : B7.may ⟨7, 2, 150, 3, 0⟩ = (false, 0) := by
  rw [chk_of (by unfold checkS withinS; decide)]
  unfold rulesS fullS namesS onceS earlyS kGet gGet evEq B7 x7 x5; decide
theorem may7_6 : B7.may ⟨8, 5, 120, 0, 7⟩ = (true, 0) := by
  rw [chk_of (by unfold checkS withinS; decide)]
  unfold rulesS fullS namesS onceS earlyS kGet gGet B7 x7 x5; decide
theorem may7_7 : B7.may ⟨8, 5, 120, 0, 5⟩ = (false, 20) := by
  rw [chk_of (by unfold checkS withinS; decide)]
  unfold rulesS fullS namesS onceS earlyS kGet gGet B7 x7 x5; decide
theorem may7_8 : B7.may ⟨8, 5, 120, 0, 6⟩ = (false, 20) := by
  rw [chk_of (by unfold checkS withinS; decide)]
  unfold rulesS fullS namesS onceS earlyS kGet gGet B7 x7 x5; decide

theorem refuses (what : Int) : VCall Try.prog 10 [.int .i64 what] [] fun out _ => out = .ret (.bool true) := by
  obtain ⟨b0, hb0⟩ : ∃ b, b = false := ⟨_, rfl⟩
  obtain ⟨b1, hb1⟩ : ∃ b, b = true := ⟨_, rfl⟩
  obtain ⟨n17, h17⟩ : ∃ x : Int, x = 17 := ⟨_, rfl⟩
  obtain ⟨n0, h0⟩ : ∃ x : Int, x = 0 := ⟨_, rfl⟩
  have s5 : Srt B5.l := by simp [Srt, B5]
  have s7 : Srt B7.l := by simp [Srt, B7, x5, x7, ltE]
  refine call_fun [] 0 Try.func10 (by rfl) (by rfl) ?_
  conv => whnf
  repeat (refine step_go [] ?_; conv => whnf)
  refine c_new _ ?_; conv => whnf
  repeat (refine step_go [] ?_; conv => whnf)
  refine c_put' newB [] x9 (by simp [C5]) .nil (by decide) b0 n17 (by rw [hb0, h17]; exact m9) newB (put_no (by rw [m9])) _ fun sp hsp => ?_; conv => whnf
  repeat (refine step_go [] ?_; conv => whnf)
  refine c_put' newB sp x5 hsp .nil (by decide) b1 n0 (by rw [hb1, h0]; exact m5) B5 p5 _ fun sp2 hsp2 => ?_; conv => whnf
  repeat (refine step_go [] ?_; conv => whnf)
  refine c_put' B5 sp2 x7 hsp2 s5 (by decide) b1 n0 (by rw [hb1, h0]; exact m7) B7 p7 _ fun sp3 hsp3 => ?_; conv => whnf
  repeat (refine step_go [] ?_; conv => whnf)
  refine ⟨by decide, ?_⟩; conv => whnf
  repeat' first
    | (refine step_go [] ?_; conv => whnf)
    | (refine two (fun g => ?_) (fun g => ?_) <;> (conv => whnf))
  · obtain ⟨b, hb⟩ : ∃ b, b = false := ⟨_, rfl⟩
    obtain ⟨x, hx⟩ : ∃ x : Int, x = 17 := ⟨_, rfl⟩
    have hm : B7.may ⟨8, 1, 150, 3, 0⟩ = (b, x) := by rw [hb, hx]; exact may7_0
    clear g
    refine c_may' B7 sp3 ⟨8, 1, 150, 3, 0⟩ b x hm _ ?_; conv => whnf
    repeat (refine step_go [] ?_; conv => whnf)
    refine c_put' B7 sp3 ⟨8, 1, 150, 3, 0⟩ hsp3 s7 (by decide) b x hm _ rfl _ fun sp4 hsp4 => ?_; conv => whnf
    repeat' first
      | (refine step_go [] ?_; conv => whnf)
      | (refine c_awake _ ?_; conv => whnf)
      | (refine yes (show (n17 == 17) = true by rw [h17]; rfl) ?_; conv => whnf)
      | (refine yes (show (n0 == 0) = true by rw [h0]; rfl) ?_; conv => whnf)
      | (refine yes hb1 ?_; conv => whnf)
      | (refine yes (show (b == false) = true by rw [hb]; rfl) ?_; conv => whnf)
      | (refine yes (show (x == 17) = true by rw [hx]; rfl) ?_; conv => whnf)
      | (refine congrArg (fun b => Out.ret (V.bool b)) ?_; rw [hx]; rfl)
  · obtain ⟨b, hb⟩ : ∃ b, b = false := ⟨_, rfl⟩
    obtain ⟨x, hx⟩ : ∃ x : Int, x = 18 := ⟨_, rfl⟩
    have hm : B7.may ⟨8, 2, 99, 3, 0⟩ = (b, x) := by rw [hb, hx]; exact may7_1
    clear g
    refine c_may' B7 sp3 ⟨8, 2, 99, 3, 0⟩ b x hm _ ?_; conv => whnf
    repeat (refine step_go [] ?_; conv => whnf)
    refine c_put' B7 sp3 ⟨8, 2, 99, 3, 0⟩ hsp3 s7 (by decide) b x hm _ rfl _ fun sp4 hsp4 => ?_; conv => whnf
    repeat' first
      | (refine step_go [] ?_; conv => whnf)
      | (refine c_awake _ ?_; conv => whnf)
      | (refine yes (show (n17 == 17) = true by rw [h17]; rfl) ?_; conv => whnf)
      | (refine yes (show (n0 == 0) = true by rw [h0]; rfl) ?_; conv => whnf)
      | (refine yes hb1 ?_; conv => whnf)
      | (refine yes (show (b == false) = true by rw [hb]; rfl) ?_; conv => whnf)
      | (refine yes (show (x == 18) = true by rw [hx]; rfl) ?_; conv => whnf)
      | (refine congrArg (fun b => Out.ret (V.bool b)) ?_; rw [hx]; rfl)
  · obtain ⟨b, hb⟩ : ∃ b, b = false := ⟨_, rfl⟩
    obtain ⟨x, hx⟩ : ∃ x : Int, x = 18 := ⟨_, rfl⟩
    have hm : B7.may ⟨4, 2, 100, 3, 0⟩ = (b, x) := by rw [hb, hx]; exact may7_2
    clear g
    refine c_may' B7 sp3 ⟨4, 2, 100, 3, 0⟩ b x hm _ ?_; conv => whnf
    repeat (refine step_go [] ?_; conv => whnf)
    refine c_put' B7 sp3 ⟨4, 2, 100, 3, 0⟩ hsp3 s7 (by decide) b x hm _ rfl _ fun sp4 hsp4 => ?_; conv => whnf
    repeat' first
      | (refine step_go [] ?_; conv => whnf)
      | (refine c_awake _ ?_; conv => whnf)
      | (refine yes (show (n17 == 17) = true by rw [h17]; rfl) ?_; conv => whnf)
      | (refine yes (show (n0 == 0) = true by rw [h0]; rfl) ?_; conv => whnf)
      | (refine yes hb1 ?_; conv => whnf)
      | (refine yes (show (b == false) = true by rw [hb]; rfl) ?_; conv => whnf)
      | (refine yes (show (x == 18) = true by rw [hx]; rfl) ?_; conv => whnf)
      | (refine congrArg (fun b => Out.ret (V.bool b)) ?_; rw [hx]; rfl)
  · obtain ⟨b, hb⟩ : ∃ b, b = true := ⟨_, rfl⟩
    obtain ⟨x, hx⟩ : ∃ x : Int, x = 0 := ⟨_, rfl⟩
    have hm : B7.may ⟨8, 2, 100, 3, 0⟩ = (b, x) := by rw [hb, hx]; exact may7_3
    clear g
    refine c_may' B7 sp3 ⟨8, 2, 100, 3, 0⟩ b x hm _ ?_; conv => whnf
    repeat (refine step_go [] ?_; conv => whnf)
    refine c_put' B7 sp3 ⟨8, 2, 100, 3, 0⟩ hsp3 s7 (by decide) b x hm _ rfl _ fun sp4 hsp4 => ?_; conv => whnf
    repeat' first
      | (refine step_go [] ?_; conv => whnf)
      | (refine c_awake _ ?_; conv => whnf)
      | (refine yes (show (n17 == 17) = true by rw [h17]; rfl) ?_; conv => whnf)
      | (refine yes (show (n0 == 0) = true by rw [h0]; rfl) ?_; conv => whnf)
      | (refine yes hb1 ?_; conv => whnf)
      | (refine yes (show (b == true) = true by rw [hb]; rfl) ?_; conv => whnf)
      | (refine yes (show (x == 0) = true by rw [hx]; rfl) ?_; conv => whnf)
      | (refine congrArg (fun b => Out.ret (V.bool b)) ?_; rw [hx]; rfl)
  · obtain ⟨b, hb⟩ : ∃ b, b = false := ⟨_, rfl⟩
    obtain ⟨x, hx⟩ : ∃ x : Int, x = 14 := ⟨_, rfl⟩
    have hm : B7.may ⟨7, 2, 150, 4, 0⟩ = (b, x) := by rw [hb, hx]; exact may7_4
    clear g
    refine c_may' B7 sp3 ⟨7, 2, 150, 4, 0⟩ b x hm _ ?_; conv => whnf
    repeat (refine step_go [] ?_; conv => whnf)
    refine c_put' B7 sp3 ⟨7, 2, 150, 4, 0⟩ hsp3 s7 (by decide) b x hm _ rfl _ fun sp4 hsp4 => ?_; conv => whnf
    repeat' first
      | (refine step_go [] ?_; conv => whnf)
      | (refine c_awake _ ?_; conv => whnf)
      | (refine yes (show (n17 == 17) = true by rw [h17]; rfl) ?_; conv => whnf)
      | (refine yes (show (n0 == 0) = true by rw [h0]; rfl) ?_; conv => whnf)
      | (refine yes hb1 ?_; conv => whnf)
      | (refine yes (show (b == false) = true by rw [hb]; rfl) ?_; conv => whnf)
      | (refine yes (show (x == 14) = true by rw [hx]; rfl) ?_; conv => whnf)
      | (refine congrArg (fun b => Out.ret (V.bool b)) ?_; rw [hx]; rfl)
  · obtain ⟨b, hb⟩ : ∃ b, b = false := ⟨_, rfl⟩
    obtain ⟨x, hx⟩ : ∃ x : Int, x = 0 := ⟨_, rfl⟩
    have hm : B7.may ⟨7, 2, 150, 3, 0⟩ = (b, x) := by rw [hb, hx]; exact may7_5
    clear g
    refine c_may' B7 sp3 ⟨7, 2, 150, 3, 0⟩ b x hm _ ?_; conv => whnf
    repeat (refine step_go [] ?_; conv => whnf)
    refine c_put' B7 sp3 ⟨7, 2, 150, 3, 0⟩ hsp3 s7 (by decide) b x hm _ rfl _ fun sp4 hsp4 => ?_; conv => whnf
    repeat' first
      | (refine step_go [] ?_; conv => whnf)
      | (refine c_awake _ ?_; conv => whnf)
      | (refine yes (show (n17 == 17) = true by rw [h17]; rfl) ?_; conv => whnf)
      | (refine yes (show (n0 == 0) = true by rw [h0]; rfl) ?_; conv => whnf)
      | (refine yes hb1 ?_; conv => whnf)
      | (refine yes (show (b == false) = true by rw [hb]; rfl) ?_; conv => whnf)
      | (refine yes (show (x == 0) = true by rw [hx]; rfl) ?_; conv => whnf)
      | (refine congrArg (fun b => Out.ret (V.bool b)) ?_; rw [hx]; rfl)
  · obtain ⟨b, hb⟩ : ∃ b, b = true := ⟨_, rfl⟩
    obtain ⟨x, hx⟩ : ∃ x : Int, x = 0 := ⟨_, rfl⟩
    have hm : B7.may ⟨8, 5, 120, 0, 7⟩ = (b, x) := by rw [hb, hx]; exact may7_6
    clear g
    refine c_may' B7 sp3 ⟨8, 5, 120, 0, 7⟩ b x hm _ ?_; conv => whnf
    repeat (refine step_go [] ?_; conv => whnf)
    refine c_put' B7 sp3 ⟨8, 5, 120, 0, 7⟩ hsp3 s7 (by decide) b x hm _ rfl _ fun sp4 hsp4 => ?_; conv => whnf
    repeat' first
      | (refine step_go [] ?_; conv => whnf)
      | (refine c_awake _ ?_; conv => whnf)
      | (refine yes (show (n17 == 17) = true by rw [h17]; rfl) ?_; conv => whnf)
      | (refine yes (show (n0 == 0) = true by rw [h0]; rfl) ?_; conv => whnf)
      | (refine yes hb1 ?_; conv => whnf)
      | (refine yes (show (b == true) = true by rw [hb]; rfl) ?_; conv => whnf)
      | (refine yes (show (x == 0) = true by rw [hx]; rfl) ?_; conv => whnf)
      | (refine congrArg (fun b => Out.ret (V.bool b)) ?_; rw [hx]; rfl)
  · obtain ⟨b, hb⟩ : ∃ b, b = false := ⟨_, rfl⟩
    obtain ⟨x, hx⟩ : ∃ x : Int, x = 20 := ⟨_, rfl⟩
    have hm : B7.may ⟨8, 5, 120, 0, 5⟩ = (b, x) := by rw [hb, hx]; exact may7_7
    clear g
    refine c_may' B7 sp3 ⟨8, 5, 120, 0, 5⟩ b x hm _ ?_; conv => whnf
    repeat (refine step_go [] ?_; conv => whnf)
    refine c_put' B7 sp3 ⟨8, 5, 120, 0, 5⟩ hsp3 s7 (by decide) b x hm _ rfl _ fun sp4 hsp4 => ?_; conv => whnf
    repeat' first
      | (refine step_go [] ?_; conv => whnf)
      | (refine c_awake _ ?_; conv => whnf)
      | (refine yes (show (n17 == 17) = true by rw [h17]; rfl) ?_; conv => whnf)
      | (refine yes (show (n0 == 0) = true by rw [h0]; rfl) ?_; conv => whnf)
      | (refine yes hb1 ?_; conv => whnf)
      | (refine yes (show (b == false) = true by rw [hb]; rfl) ?_; conv => whnf)
      | (refine yes (show (x == 20) = true by rw [hx]; rfl) ?_; conv => whnf)
      | (refine congrArg (fun b => Out.ret (V.bool b)) ?_; rw [hx]; rfl)
  · obtain ⟨b, hb⟩ : ∃ b, b = false := ⟨_, rfl⟩
    obtain ⟨x, hx⟩ : ∃ x : Int, x = 20 := ⟨_, rfl⟩
    have hm : B7.may ⟨8, 5, 120, 0, 6⟩ = (b, x) := by rw [hb, hx]; exact may7_8
    clear g
    refine c_may' B7 sp3 ⟨8, 5, 120, 0, 6⟩ b x hm _ ?_; conv => whnf
    repeat (refine step_go [] ?_; conv => whnf)
    refine c_put' B7 sp3 ⟨8, 5, 120, 0, 6⟩ hsp3 s7 (by decide) b x hm _ rfl _ fun sp4 hsp4 => ?_; conv => whnf
    repeat' first
      | (refine step_go [] ?_; conv => whnf)
      | (refine c_awake _ ?_; conv => whnf)
      | (refine yes (show (n17 == 17) = true by rw [h17]; rfl) ?_; conv => whnf)
      | (refine yes (show (n0 == 0) = true by rw [h0]; rfl) ?_; conv => whnf)
      | (refine yes hb1 ?_; conv => whnf)
      | (refine yes (show (b == false) = true by rw [hb]; rfl) ?_; conv => whnf)
      | (refine yes (show (x == 20) = true by rw [hx]; rfl) ?_; conv => whnf)
      | (refine congrArg (fun b => Out.ret (V.bool b)) ?_; rw [hx]; rfl)
end E19

namespace Go.Proofs.Ytopoljadcjeflaa.OrderRefuses
open Go Go.Proofs VL Go.ChangeShapes
set_option linter.unusedVariables false
set_option linter.unusedSimpArgs false

theorem own : ownKnob Try.prog.godebug = none := by kernel_rfl
theorem laidOut : laidOutB Try.prog = true := by kernel_rfl

theorem law : ∀ xs, ShAs [(.int .i64, false)] xs →
    VCall Try.prog 10 xs [] fun out _ => out = .ret (.bool true) := by
  intro xs h
  simp only [ShAs, ShA, ShT, Bool.false_eq_true, if_false] at h
  obtain ⟨_, _, rfl, ⟨n, h0, _⟩, rfl⟩ := h
  cases h0
  exact E19.refuses n

set_option maxRecDepth 100000 in
theorem lifted (os : Os) (started : os.Started) (H : Type) (enc : TypeId × Value → H) :
    ReturnsInHanded {} Try.checked os 10 .any (Rows.orderRefusesSpec.pre6 enc Try.prog Try.f10 Rows.orderRefusesRow.domain false)
      (Rows.orderRefusesSpec.post enc Try.prog Try.f10 false true false false) := by
  refine returnsInHanded_of_change_sized (C := Try.checked) own started (by kernel_rfl) Try.func10
    (ChangeSpec.witness6 (enc := enc) (C := Try.checked) false ⟨#[], #[.int .i64 0], []⟩ 8 (by kernel_rfl) (by kernel_rfl) (by kernel_rfl) (by kernel_rfl)) ?_
  intro W base args ds gs before hval hW _ hsz _
  exact law_lift (n := 9) (ts := Try.f10.params.toList) rfl laidOut (by kernel_rfl) rfl rfl (by kernel_rfl) (by kernel_rfl)
    (fun ds h => match ds, h with | [_], _ => rfl) Try.func10 (by rfl) (by rfl) law W base args ds gs before hval hW hsz

theorem proved : Rows.OrderRefusesSaid :=
  OpenClaim.holds_of_wide 10 Try.f10 rfl rfl rfl rfl rfl rfl rfl ⟨rfl, rfl, rfl, rfl, rfl⟩ rfl rfl rfl rfl rfl (by kernel_rfl) Try.func10 (by kernel_rfl)
    (of_decide_eq_true (by kernel_rfl)) (by unfold Func.isWrapper; first | (rw [if_pos (by decide +kernel)]; kernel_rfl) | (rw [if_neg (by decide +kernel)]; exact ⟨rfl, rfl⟩))
    (fun os started H enc _ => lifted os started H enc)
#print axioms proved
end Go.Proofs.Ytopoljadcjeflaa.OrderRefuses

