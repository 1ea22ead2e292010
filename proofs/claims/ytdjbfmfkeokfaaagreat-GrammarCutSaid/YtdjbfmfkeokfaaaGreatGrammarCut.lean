/- GrammarCut: for every input the law returns true, and each argument reads afterwards as it read before. No conditions. -/
import Derived.Test.YtdjbfmfkeokfaaaGreatKg
import Derived.Test.YtdjbfmfkeokfaaaGreatKf
namespace Go.Proofs.YtdjbfmfkeokfaaaGreat.GrammarCut
open Go Go.Proofs VL Go.ChangeShapes
set_option linter.unusedVariables false
set_option linter.unusedSimpArgs false
theorem own:ownKnob Tryz.prog.godebug=none:=by kernel_rfl
theorem laidOut:laidOutB Tryz.prog=true:=by kernel_rfl
theorem law: ∀xs,Ev [(QP.Br,true),(.int .i64,false),(.int .u8,false)] xs→
 ah Tryz.prog 7 xs [] fun out _=>out= .ret (.bool true):=by
 intro xs h
 simp only [Ev] at h
 obtain ⟨_,_,rfl,h,_,_,rfl,h2,_,_,rfl,h3,rfl⟩:=h
 obtain ⟨p,rfl,hp⟩:=QP.Jt h
 simp only [L7,v7,if_false,Bool.false_eq_true] at h2 h3
 obtain ⟨a,h0,ha⟩:=h2
 obtain ⟨b,h1,hb⟩:=h3
 cases h0;cases h1
 exact SR.Oj p hp a (kF.ef ha) b
set_option maxRecDepth 100000 in
theorem lifted (os:Os) (started:os.Started) (H:Type) (enc:TypeId × Value→H):
 ReturnsInHanded {} Tryz.checked os 7 .any (Rows.grammarCutSpec.pre6 enc Tryz.prog Tryz.f7 Rows.grammarCutRow.domain false)
  (Rows.grammarCutSpec.post enc Tryz.prog Tryz.f7 false true false false):=by
 refine returnsInHanded_of_change_shaped (C:=Tryz.checked) own started (by kernel_rfl) Tryz.func7
  (ChangeSpec.witness6 (enc:=enc) (C:=Tryz.checked) false ⟨#[],#[.agg #[.string ⟨#[]⟩,.int .i64 0,.int .i64 0,.int .i64 0,.int .i64 0,.int .i64 0,.int .i64 0,.int .i64 0,.slice none 0 0,.int .i64 0,.int .i64 0,.int .i64 0,.int .i64 0,.int .i64 0,.int .i64 0,.slice none 0 0,.int .i64 0,.int .i64 0,.slice none 0 0],.int .i64 0,.int .u8 0],[]⟩ 8 (by kernel_rfl) (by kernel_rfl) (by kernel_rfl) (by kernel_rfl)) ?_
 intro W base args ds gs before kG hW _ cg Ju _
 exact Ge (n:=9) (ts:=Tryz.f7.params.toList) rfl laidOut (by kernel_rfl) rfl rfl (by kernel_rfl) (by kernel_rfl)
  (fun ds h=>match ds,h with | [_,_,_],_=>rfl) Tryz.func7 (by rfl) (by rfl) law W base args ds gs before kG hW cg (by intro b l h;cases h) (Qd.Ok W Ju)
theorem proved:Rows.GrammarCutSaid:=
 OpenClaim.holds_of_wide 7 Tryz.f7 rfl rfl rfl rfl rfl rfl rfl ⟨rfl,rfl,rfl,rfl,rfl⟩ rfl rfl rfl rfl rfl (by kernel_rfl) Tryz.func7 (by kernel_rfl)
  (of_decide_eq_true (by kernel_rfl)) (by unfold Func.isWrapper;first | (rw [if_pos (by decide+kernel)];kernel_rfl) | (rw [if_neg (by decide+kernel)];exact ⟨rfl,rfl⟩))
  (fun os started H enc _=>lifted os started H enc)
#print axioms proved
end Go.Proofs.YtdjbfmfkeokfaaaGreat.GrammarCut
