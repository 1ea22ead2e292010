/- Part Kf of the proof: CR3 CR4 CR5 CR6 CR7 CR8 CR9 CO1 P1 P2 PL1 PL2 PS1 GC1 PS1L. -/
import Derived.Test.YtdjbfmfkeokfaaaGreatKe
import Derived.HandedShaped
import Derived.Shelf.Vars
import Derived.Test.YtdjbfmfkeokfaaaGreatKd
import Derived.Test.YtdjbfmfkeokfaaaGreatKc
set_option linter.unusedVariables false
set_option linter.unusedSimpArgs false
set_option maxRecDepth 100000
namespace PO
open Go Go.Proofs VL D1 eG kb kj wg LQ MW C8 jt c5 dj C1 C2 C3 C4 C6 oO pQ Kz oY CR FA vL kn ND Od
theorem tG (b:Bool) (k:List C3.Tok) (i:Nat) (x:RS) (hk:x.err=0->bb (k.drop i)) (hi:b=true->i<1000000) (K:Out->List af->Prop)
 (ht:b=true->K (.ret (.aQ [])) (rO false false false false k (i+1) x)) (hf:b=false->x.err=0->K (.ret (.aQ [])) (rO false false false false k i {x with err:=7,at_:=(nx k i).at_})) (hg:b=false->x.err≠0->K (.ret (.aQ [])) (rO false false false false k i x)):
 ah Tryz.prog 24 [.ptr 0 0,.bool b] (rO false false false false k i x) K:=by
 cases b with
 | true=>exact A2 k i x (hi rfl) K (ht rfl)
 | false=>exact vS k i x hk K (hf rfl) (hg rfl)
theorem lM {k:List C3.Tok} {i:Nat} (h:(nx k i).kind=2):aF 2 [] (k.drop i)= .ok (nx k i) (aC (k.drop i)).2:=by unfold aF;rw [if_pos ⟨h,.inl rfl⟩]
theorem qN {k:List C3.Tok} {i:Nat} (h: ¬(nx k i).kind=2):aF 2 [] (k.drop i)= .err (nx k i).at_ 7:=by unfold aF;rw [if_neg (fun hh=>h hh.1)]
theorem A4 {l:List Int} {n:Int} (h:pH l=some n):0<=n:=by
 unfold pH at h
 split at h
 · injection h with h;omega
 · cases h
theorem FM:bH []=(0,4):=by decide
theorem FN:bT []=(0,4):=by decide
theorem FO:eK []=(0,4):=by unfold eK;rw [if_neg];intro h;have:=h.1.1;simp at this
theorem y5:sB ⟨#[]⟩=[]:=by rfl
set_option maxHeartbeats 2000000 in
theorem lN (k:List C3.Tok) (i:Nat) (x:RS) (hk:x.err=0->bb (k.drop i)) (hl:oD k) (hq: ∀t∈k,t.kind≠0->t.text≠[]) (K:Out->List af->Prop)
 (h0:x.err=0-> ∀n r i',bg (k.drop i)= .ok n r->k.drop i'=r->bb r->K (.ret (.int .i64 n)) (rO false false false false k i' x))
 (h1:x.err=0-> ∀(p:Nat) n,bg (k.drop i)= .err p 7->K (.ret (.int .i64 n)) (rO false false false false k i {x with err:=7,at_:=p}))
 (h2:x.err≠0-> ∀n,K (.ret (.int .i64 n)) (rO false false false false k i x)):
 ah Tryz.prog 89 [.ptr 0 0] (rO false false false false k i x) K:=by
 have Kp:= @oz k i x hk
 have It:=fun b=> @tG b k i x hk
 unfold rO at*
 refine ag [] 5 Tryz.func89 (by rfl) (by rfl) ?_
 conv=>whnf
 (repeat' first | (refine aa [] ?_;conv=>whnf) | (refine two ?_ ?_<;>intro g<;>(try simp only[an]at g)<;>(conv=>whnf)) | (refine And.intro rfl ?_;conv=>whnf) | fail)
 refine Kp _ (fun he e2=> ?_) (fun hn=> ?_)
 · have hm:=fK (hk he)
   have hb:=hl.2 _ hm
   have bZ:=hq _ hm (by show (nx k i).kind≠0;omega)
   have cV:=(sY (hk he)).2
   have iN:=hl.1
   conv=>whnf
   (repeat' first | (refine aa [] ?_;conv=>whnf) | (refine two ?_ ?_<;>intro g<;>(try simp only[an]at g)<;>(conv=>whnf)) | (refine And.intro rfl ?_;conv=>whnf) | fail)
   refine Is (az (nx k i).text) (by rw [bO];exact hb.2) _ ?_
   rw [aT hb.1]
   obtain ⟨n,hn⟩: ∃n,y4 (nx k i).text=n:=⟨_,rfl⟩
   rw [hn]
   conv=>whnf
   (repeat' first | (refine aa [] ?_;conv=>whnf) | (refine two ?_ ?_<;>intro g<;>(try simp only[an]at g)<;>(conv=>whnf)) | (refine And.intro rfl ?_;conv=>whnf) | fail)
   refine It _ (fun _=>by omega) _ (fun hb=> ?_) (fun hb _=> ?_) (fun hb h=>absurd he h)
   · have hf:=h0 he n _ (i+1) (by
      unfold bg
      rw [lM e2]
      show (match pH (nx k i).text with | some n=>_ | none=>_)=_
      unfold y4 at hn
      rw [if_neg bZ] at hn
      have hb:0<=n:=by simpa using hb
      split at hn
      · rename_i n' h'
        first | rw [h',hn] | rw [hn]
      · omega) (sx (hk he) (by rw [e2];decide)) (bw (hk he)).1
     conv=>whnf
     (repeat' first | (refine aa [] ?_;conv=>whnf) | (refine two ?_ ?_<;>intro g<;>(try simp only[an]at g)<;>(conv=>whnf)) | (refine And.intro rfl ?_;conv=>whnf) | fail)
     exact hf
   · have hf:=h1 he (nx k i).at_ n (by
      unfold bg
      rw [lM e2]
      show (match pH (nx k i).text with | some n=>_ | none=>_)=_
      unfold y4 at hn
      rw [if_neg bZ] at hn
      have hb: ¬0<=n:=by simpa using hb
      split at hn
      · rename_i n' h'
        have:=A4 h'
        omega
      · rename_i h'
        first | rw [h'] | rfl)
     conv=>whnf
     (repeat' first | (refine aa [] ?_;conv=>whnf) | (refine two ?_ ?_<;>intro g<;>(try simp only[an]at g)<;>(conv=>whnf)) | (refine And.intro rfl ?_;conv=>whnf) | fail)
     exact hf
 · conv=>whnf
   (repeat' first | (refine aa [] ?_;conv=>whnf) | (refine two ?_ ?_<;>intro g<;>(try simp only[an]at g)<;>(conv=>whnf)) | (refine And.intro rfl ?_;conv=>whnf) | fail)
   refine Is ⟨#[]⟩ (by decide) _ ?_
   rw [y5]
   rw [show y4 []= -1 from rfl]
   conv=>whnf
   (repeat' first | (refine aa [] ?_;conv=>whnf) | (refine two ?_ ?_<;>intro g<;>(try simp only[an]at g)<;>(conv=>whnf)) | (refine And.intro rfl ?_;conv=>whnf) | fail)
   refine It _ (fun h=>absurd h (by decide)) _ (fun h=>absurd h (by decide)) (fun _ he=> ?_) (fun _ he=> ?_)
   · have hf:=h1 he (nx k i).at_ (-1) (by unfold bg;rw [qN (fun e=>hn ⟨he,e⟩)];rfl)
     conv=>whnf
     (repeat' first | (refine aa [] ?_;conv=>whnf) | (refine two ?_ ?_<;>intro g<;>(try simp only[an]at g)<;>(conv=>whnf)) | (refine And.intro rfl ?_;conv=>whnf) | fail)
     exact hf
   · have hf:=h2 he (-1)
     conv=>whnf
     (repeat' first | (refine aa [] ?_;conv=>whnf) | (refine two ?_ ?_<;>intro g<;>(try simp only[an]at g)<;>(conv=>whnf)) | (refine And.intro rfl ?_;conv=>whnf) | fail)
     exact hf
set_option maxHeartbeats 2000000 in
theorem jc (k:List C3.Tok) (i:Nat) (x:RS) (hk:x.err=0->bb (k.drop i)) (hl:oD k) (K:Out->List af->Prop)
 (h0:x.err=0-> ∀n r i',aL bH (k.drop i)= .ok n r->k.drop i'=r->bb r->K (.ret (.int .i64 n)) (rO false false false false k i' x))
 (h1:x.err=0-> ∀(p:Nat) n,aL bH (k.drop i)= .err p 7->K (.ret (.int .i64 n)) (rO false false false false k i {x with err:=7,at_:=p}))
 (h2:x.err≠0-> ∀n,K (.ret (.int .i64 n)) (rO false false false false k i x)):
 ah Tryz.prog 90 [.ptr 0 0] (rO false false false false k i x) K:=by
 have Kp:= @oz k i x hk
 have It:=fun b=> @tG b k i x hk
 unfold rO at*
 refine ag [] 5 Tryz.func90 (by rfl) (by rfl) ?_
 conv=>whnf
 (repeat' first | (refine aa [] ?_;conv=>whnf) | (refine two ?_ ?_<;>intro g<;>(try simp only[an]at g)<;>(conv=>whnf)) | (refine And.intro rfl ?_;conv=>whnf) | fail)
 refine Kp _ (fun he e2=> ?_) (fun hn=> ?_)
 · have hm:=fK (hk he)
   have hb:=hl.2 _ hm
   have cV:=(sY (hk he)).2
   have iN:=hl.1
   conv=>whnf
   (repeat' first | (refine aa [] ?_;conv=>whnf) | (refine two ?_ ?_<;>intro g<;>(try simp only[an]at g)<;>(conv=>whnf)) | (refine And.intro rfl ?_;conv=>whnf) | fail)
   refine AN (az (nx k i).text) (by rw [bO];exact hb.2) _ ?_
   rw [aT hb.1]
   have uZ:aL bH (k.drop i)=if (bH (nx k i).text).2=0 then .ok (bH (nx k i).text).1 (aC (k.drop i)).2 else .err (nx k i).at_ 7:=by
    unfold aL;rw [lM e2];rfl
   obtain ⟨v,hv⟩: ∃v,(bH (nx k i).text).1=v:=⟨_,rfl⟩
   obtain ⟨e,PQ⟩: ∃e,(bH (nx k i).text).2=e:=⟨_,rfl⟩
   rw [hv,PQ] at uZ ⊢
   conv=>whnf
   (repeat' first | (refine aa [] ?_;conv=>whnf) | (refine two ?_ ?_<;>intro g<;>(try simp only[an]at g)<;>(conv=>whnf)) | (refine And.intro rfl ?_;conv=>whnf) | fail)
   refine It _ (fun _=>by omega) _ (fun hb=> ?_) (fun hb _=> ?_) (fun hb h=>absurd he h)
   · have hb:e=0:=by simpa using hb
     rw [if_pos hb] at uZ
     have hf:=h0 he v _ (i+1) uZ (sx (hk he) (by rw [e2];decide)) (bw (hk he)).1
     conv=>whnf
     (repeat' first | (refine aa [] ?_;conv=>whnf) | (refine two ?_ ?_<;>intro g<;>(try simp only[an]at g)<;>(conv=>whnf)) | (refine And.intro rfl ?_;conv=>whnf) | fail)
     exact hf
   · have hb: ¬e=0:=by simpa using hb
     rw [if_neg hb] at uZ
     have hf:=h1 he (nx k i).at_ v uZ
     conv=>whnf
     (repeat' first | (refine aa [] ?_;conv=>whnf) | (refine two ?_ ?_<;>intro g<;>(try simp only[an]at g)<;>(conv=>whnf)) | (refine And.intro rfl ?_;conv=>whnf) | fail)
     exact hf
 · conv=>whnf
   (repeat' first | (refine aa [] ?_;conv=>whnf) | (refine two ?_ ?_<;>intro g<;>(try simp only[an]at g)<;>(conv=>whnf)) | (refine And.intro rfl ?_;conv=>whnf) | fail)
   refine AN ⟨#[]⟩ (by decide) _ ?_
   rw [y5,FM]
   conv=>whnf
   (repeat' first | (refine aa [] ?_;conv=>whnf) | (refine two ?_ ?_<;>intro g<;>(try simp only[an]at g)<;>(conv=>whnf)) | (refine And.intro rfl ?_;conv=>whnf) | fail)
   refine It _ (fun h=>absurd h (by decide)) _ (fun h=>absurd h (by decide)) (fun _ he=> ?_) (fun _ he=> ?_)
   · have hf:=h1 he (nx k i).at_ 0 (by unfold aL;rw [qN (fun e=>hn ⟨he,e⟩)];rfl)
     conv=>whnf
     (repeat' first | (refine aa [] ?_;conv=>whnf) | (refine two ?_ ?_<;>intro g<;>(try simp only[an]at g)<;>(conv=>whnf)) | (refine And.intro rfl ?_;conv=>whnf) | fail)
     exact hf
   · have hf:=h2 he 0
     conv=>whnf
     (repeat' first | (refine aa [] ?_;conv=>whnf) | (refine two ?_ ?_<;>intro g<;>(try simp only[an]at g)<;>(conv=>whnf)) | (refine And.intro rfl ?_;conv=>whnf) | fail)
     exact hf
set_option maxHeartbeats 2000000 in
theorem lC (k:List C3.Tok) (i:Nat) (x:RS) (hk:x.err=0->bb (k.drop i)) (hl:oD k) (K:Out->List af->Prop)
 (h0:x.err=0-> ∀n r i',aL bT (k.drop i)= .ok n r->k.drop i'=r->bb r->K (.ret (.int .i64 n)) (rO false false false false k i' x))
 (h1:x.err=0-> ∀(p:Nat) n,aL bT (k.drop i)= .err p 7->K (.ret (.int .i64 n)) (rO false false false false k i {x with err:=7,at_:=p}))
 (h2:x.err≠0-> ∀n,K (.ret (.int .i64 n)) (rO false false false false k i x)):
 ah Tryz.prog 91 [.ptr 0 0] (rO false false false false k i x) K:=by
 have Kp:= @oz k i x hk
 have It:=fun b=> @tG b k i x hk
 unfold rO at*
 refine ag [] 5 Tryz.func91 (by rfl) (by rfl) ?_
 conv=>whnf
 (repeat' first | (refine aa [] ?_;conv=>whnf) | (refine two ?_ ?_<;>intro g<;>(try simp only[an]at g)<;>(conv=>whnf)) | (refine And.intro rfl ?_;conv=>whnf) | fail)
 refine Kp _ (fun he e2=> ?_) (fun hn=> ?_)
 · have hm:=fK (hk he)
   have hb:=hl.2 _ hm
   have cV:=(sY (hk he)).2
   have iN:=hl.1
   conv=>whnf
   (repeat' first | (refine aa [] ?_;conv=>whnf) | (refine two ?_ ?_<;>intro g<;>(try simp only[an]at g)<;>(conv=>whnf)) | (refine And.intro rfl ?_;conv=>whnf) | fail)
   refine AJ (az (nx k i).text) (by rw [bO];exact hb.2) _ ?_
   rw [aT hb.1]
   have uZ:aL bT (k.drop i)=if (bT (nx k i).text).2=0 then .ok (bT (nx k i).text).1 (aC (k.drop i)).2 else .err (nx k i).at_ 7:=by
    unfold aL;rw [lM e2];rfl
   obtain ⟨v,hv⟩: ∃v,(bT (nx k i).text).1=v:=⟨_,rfl⟩
   obtain ⟨e,PQ⟩: ∃e,(bT (nx k i).text).2=e:=⟨_,rfl⟩
   rw [hv,PQ] at uZ ⊢
   conv=>whnf
   (repeat' first | (refine aa [] ?_;conv=>whnf) | (refine two ?_ ?_<;>intro g<;>(try simp only[an]at g)<;>(conv=>whnf)) | (refine And.intro rfl ?_;conv=>whnf) | fail)
   refine It _ (fun _=>by omega) _ (fun hb=> ?_) (fun hb _=> ?_) (fun hb h=>absurd he h)
   · have hb:e=0:=by simpa using hb
     rw [if_pos hb] at uZ
     have hf:=h0 he v _ (i+1) uZ (sx (hk he) (by rw [e2];decide)) (bw (hk he)).1
     conv=>whnf
     (repeat' first | (refine aa [] ?_;conv=>whnf) | (refine two ?_ ?_<;>intro g<;>(try simp only[an]at g)<;>(conv=>whnf)) | (refine And.intro rfl ?_;conv=>whnf) | fail)
     exact hf
   · have hb: ¬e=0:=by simpa using hb
     rw [if_neg hb] at uZ
     have hf:=h1 he (nx k i).at_ v uZ
     conv=>whnf
     (repeat' first | (refine aa [] ?_;conv=>whnf) | (refine two ?_ ?_<;>intro g<;>(try simp only[an]at g)<;>(conv=>whnf)) | (refine And.intro rfl ?_;conv=>whnf) | fail)
     exact hf
 · conv=>whnf
   (repeat' first | (refine aa [] ?_;conv=>whnf) | (refine two ?_ ?_<;>intro g<;>(try simp only[an]at g)<;>(conv=>whnf)) | (refine And.intro rfl ?_;conv=>whnf) | fail)
   refine AJ ⟨#[]⟩ (by decide) _ ?_
   rw [y5,FN]
   conv=>whnf
   (repeat' first | (refine aa [] ?_;conv=>whnf) | (refine two ?_ ?_<;>intro g<;>(try simp only[an]at g)<;>(conv=>whnf)) | (refine And.intro rfl ?_;conv=>whnf) | fail)
   refine It _ (fun h=>absurd h (by decide)) _ (fun h=>absurd h (by decide)) (fun _ he=> ?_) (fun _ he=> ?_)
   · have hf:=h1 he (nx k i).at_ 0 (by unfold aL;rw [qN (fun e=>hn ⟨he,e⟩)];rfl)
     conv=>whnf
     (repeat' first | (refine aa [] ?_;conv=>whnf) | (refine two ?_ ?_<;>intro g<;>(try simp only[an]at g)<;>(conv=>whnf)) | (refine And.intro rfl ?_;conv=>whnf) | fail)
     exact hf
   · have hf:=h2 he 0
     conv=>whnf
     (repeat' first | (refine aa [] ?_;conv=>whnf) | (refine two ?_ ?_<;>intro g<;>(try simp only[an]at g)<;>(conv=>whnf)) | (refine And.intro rfl ?_;conv=>whnf) | fail)
     exact hf
set_option maxHeartbeats 2000000 in
theorem yG (k:List C3.Tok) (i:Nat) (x:RS) (hk:x.err=0->bb (k.drop i)) (hl:oD k) (K:Out->List af->Prop)
 (h0:x.err=0-> ∀n r i',aL eK (k.drop i)= .ok n r->k.drop i'=r->bb r->K (.ret (.int .i64 n)) (rO false false false false k i' x))
 (h1:x.err=0-> ∀(p:Nat) n,aL eK (k.drop i)= .err p 7->K (.ret (.int .i64 n)) (rO false false false false k i {x with err:=7,at_:=p}))
 (h2:x.err≠0-> ∀n,K (.ret (.int .i64 n)) (rO false false false false k i x)):
 ah Tryz.prog 92 [.ptr 0 0] (rO false false false false k i x) K:=by
 have Kp:= @oz k i x hk
 have It:=fun b=> @tG b k i x hk
 unfold rO at*
 refine ag [] 5 Tryz.func92 (by rfl) (by rfl) ?_
 conv=>whnf
 (repeat' first | (refine aa [] ?_;conv=>whnf) | (refine two ?_ ?_<;>intro g<;>(try simp only[an]at g)<;>(conv=>whnf)) | (refine And.intro rfl ?_;conv=>whnf) | fail)
 refine Kp _ (fun he e2=> ?_) (fun hn=> ?_)
 · have hm:=fK (hk he)
   have hb:=hl.2 _ hm
   have cV:=(sY (hk he)).2
   have iN:=hl.1
   conv=>whnf
   (repeat' first | (refine aa [] ?_;conv=>whnf) | (refine two ?_ ?_<;>intro g<;>(try simp only[an]at g)<;>(conv=>whnf)) | (refine And.intro rfl ?_;conv=>whnf) | fail)
   refine Kz.D_ (az (nx k i).text) (by rw [bO];exact hb.2) _ ?_
   rw [aT hb.1]
   have uZ:aL eK (k.drop i)=if (eK (nx k i).text).2=0 then .ok (eK (nx k i).text).1 (aC (k.drop i)).2 else .err (nx k i).at_ 7:=by
    unfold aL;rw [lM e2];rfl
   obtain ⟨v,hv⟩: ∃v,(eK (nx k i).text).1=v:=⟨_,rfl⟩
   obtain ⟨e,PQ⟩: ∃e,(eK (nx k i).text).2=e:=⟨_,rfl⟩
   rw [hv,PQ] at uZ ⊢
   conv=>whnf
   (repeat' first | (refine aa [] ?_;conv=>whnf) | (refine two ?_ ?_<;>intro g<;>(try simp only[an]at g)<;>(conv=>whnf)) | (refine And.intro rfl ?_;conv=>whnf) | fail)
   refine It _ (fun _=>by omega) _ (fun hb=> ?_) (fun hb _=> ?_) (fun hb h=>absurd he h)
   · have hb:e=0:=by simpa using hb
     rw [if_pos hb] at uZ
     have hf:=h0 he v _ (i+1) uZ (sx (hk he) (by rw [e2];decide)) (bw (hk he)).1
     conv=>whnf
     (repeat' first | (refine aa [] ?_;conv=>whnf) | (refine two ?_ ?_<;>intro g<;>(try simp only[an]at g)<;>(conv=>whnf)) | (refine And.intro rfl ?_;conv=>whnf) | fail)
     exact hf
   · have hb: ¬e=0:=by simpa using hb
     rw [if_neg hb] at uZ
     have hf:=h1 he (nx k i).at_ v uZ
     conv=>whnf
     (repeat' first | (refine aa [] ?_;conv=>whnf) | (refine two ?_ ?_<;>intro g<;>(try simp only[an]at g)<;>(conv=>whnf)) | (refine And.intro rfl ?_;conv=>whnf) | fail)
     exact hf
 · conv=>whnf
   (repeat' first | (refine aa [] ?_;conv=>whnf) | (refine two ?_ ?_<;>intro g<;>(try simp only[an]at g)<;>(conv=>whnf)) | (refine And.intro rfl ?_;conv=>whnf) | fail)
   refine Kz.D_ ⟨#[]⟩ (by decide) _ ?_
   rw [y5,FO]
   conv=>whnf
   (repeat' first | (refine aa [] ?_;conv=>whnf) | (refine two ?_ ?_<;>intro g<;>(try simp only[an]at g)<;>(conv=>whnf)) | (refine And.intro rfl ?_;conv=>whnf) | fail)
   refine It _ (fun h=>absurd h (by decide)) _ (fun h=>absurd h (by decide)) (fun _ he=> ?_) (fun _ he=> ?_)
   · have hf:=h1 he (nx k i).at_ 0 (by unfold aL;rw [qN (fun e=>hn ⟨he,e⟩)];rfl)
     conv=>whnf
     (repeat' first | (refine aa [] ?_;conv=>whnf) | (refine two ?_ ?_<;>intro g<;>(try simp only[an]at g)<;>(conv=>whnf)) | (refine And.intro rfl ?_;conv=>whnf) | fail)
     exact hf
   · have hf:=h2 he 0
     conv=>whnf
     (repeat' first | (refine aa [] ?_;conv=>whnf) | (refine two ?_ ?_<;>intro g<;>(try simp only[an]at g)<;>(conv=>whnf)) | (refine And.intro rfl ?_;conv=>whnf) | fail)
     exact hf
end PO
namespace QA
open Go Go.Proofs VL D1 eG kb kj wg LQ MW C8 jt c5 dj C1 C2 C3 C4 C6 oO pQ Kz oY CR FA vL kn ND Od PO
set_option maxHeartbeats 8000000 in
theorem Iu (k:List C3.Tok) (i:Nat) (x:RS) (hk:bb (k.drop i)) (hl:oD k) (hx:x.err=0) (K:Out->List af->Prop)
 (h0: ∀o r i',aV 4 [] (k.drop i)= .ok o r->k.drop i'=r->bb r->K (.ret (.aQ [])) (rO false false false false k i' {x with p:=yN x.p o}))
 (h1: ∀(p:Nat) i' a,aV 4 [] (k.drop i)= .err p 7->K (.ret (.aQ [])) (rO false false false false k i' {x with p:=yN x.p a,err:=7,at_:=p})):
 ah Tryz.prog 93 [.ptr 0 0] (rO false false false false k i x) K:=by
 have hw:=fun i x hk=> @oE k i x hk hl dZ (by unfold eX;decide) (by decide)
 have F5:=fun i x hk=> @mM k i x hk 7
 let S:Nat × List Int × Nat × Int × Int->St:=fun q=>⟨(.ptr 0 0:: .undef:: .sl (sL dZ) .no:: .int .i64 (q.1:Nat):: .undef:: .undef:: .undef:: .undef:: .undef:: .undef:: .undef:: .undef:: .undef:: .undef:: .undef:: .undef:: .undef:: .undef:: .undef:: .undef:: .undef:: .undef:: .undef:: .undef:: .undef:: .undef:: .undef:: .undef:: .undef:: .undef:: .undef:: .undef:: .undef:: .undef:: .undef:: .undef:: .undef:: .undef:: .undef:: .undef:: .undef:: .undef:: .undef:: .undef:: .undef:: .undef:: .undef::[]),rO false false false false k q.2.2.1 {x with p:=yN x.p q.2.1,err:=q.2.2.2.1,at_:=q.2.2.2.2},0,[]⟩
 unfold rO
 refine ag [] 5 Tryz.func93 (by rfl) (by rfl) ?_
 conv=>whnf
 (repeat' first | (refine aa [] ?_;conv=>whnf) | (refine two ?_ ?_<;>intro g<;>(try simp only[an]at g)<;>(conv=>whnf)) | (refine And.intro rfl ?_;conv=>whnf) | fail)
 refine aA.enter (s':=S (0,[],i,x.err,x.at_)) (ae ?_ (.cons (.eq rfl) (.cons (.eq rfl) (.cons (.eq rfl) (.cons (.eq rfl) (.cons (.eq rfl) .nil))))) rfl rfl rfl)
  (aA.dC S (fun q=>4 - q.1) (fun q=>q.1<=4/\q.2.1.length=q.1/\(q.2.2.2.1=0->bb (k.drop q.2.2.1)/\q.2.2.2.2=x.at_/\aV 4 [] (k.drop i)=aV (4 - q.1) q.2.1 (k.drop q.2.2.1))/\(q.2.2.2.1≠0->q.2.2.2.1=7/\ ∃p:Nat,q.2.2.2.2=p/\aV 4 [] (k.drop i)= .err p 7)) ?_ (0,[],i,x.err,x.at_) ⟨by omega,rfl,fun _=>⟨hk,rfl,rfl⟩,fun h=>absurd hx h⟩)
 · repeat' first
    | exact aq.nil
    | refine aq.cons VW.undef ?_
    | refine aq.cons (VW.eq rfl) ?_
    | refine aq.cons VW.no ?_
 rintro ⟨j,acc,i1,er,L1⟩ ⟨hj,ha,JC,Nx⟩ ih
 simp only at hj ha JC Nx
 have hj:j=4\/j=0\/j=1\/j=2\/j=3:=by omega
 have iN:=hl.1
 obtain ⟨j1,yM⟩: ∃j1,j1=j+1:=⟨_,rfl⟩
 rcases hj with rfl | rfl | rfl | rfl | rfl
 · refine ai [] ?_;conv=>whnf
   (repeat' first | (refine aa [] ?_;conv=>whnf) | (refine two ?_ ?_<;>intro g<;>(try simp only[an]at g)<;>(conv=>whnf)) | (refine And.intro rfl ?_;conv=>whnf) | fail)
   refine ⟨_,aB.refl,?_⟩;conv=>whnf
   (repeat' first | (refine aa [] ?_;conv=>whnf) | (refine two ?_ ?_<;>intro g<;>(try simp only[an]at g)<;>(conv=>whnf)) | (refine And.intro rfl ?_;conv=>whnf) | fail)
   by_cases DD:er=0
   · obtain ⟨a1,a2,a3⟩:=JC DD
     have hf:=h0 acc _ i1 a3 rfl a1
     subst a2 DD
     have Vu:x= {x with err:=0,at_:=x.at_}:=by cases x;simp at hx;subst hx;rfl
     rw [Vu] at hf
     exact hf
   · obtain ⟨rfl,p,rfl,a3⟩:=Nx DD
     exact h1 p i1 acc a3
 all_goals
  obtain ⟨ac,CH⟩: ∃ac,ac=acc:=⟨_,rfl⟩
  rw [←CH] at JC
  rcases acc with _ | ⟨a1,_ | ⟨a2,_ | ⟨a3,_ | ⟨a4,acc⟩⟩⟩⟩
  all_goals first
   | (exfalso;revert ha;simp;done)
   | skip
 all_goals
  dsimp only [S]
  refine ai [] ?_;conv=>whnf
  (repeat' first | (refine aa [] ?_;conv=>whnf) | (refine two ?_ ?_<;>intro g<;>(try simp only[an]at g)<;>(conv=>whnf)) | (refine And.intro rfl ?_;conv=>whnf) | fail)
  by_cases DD:er=0
  · obtain ⟨b1,b2,b3⟩:=JC DD
    subst DD
    refine hw i1 _ (fun _=>b1) _ (fun _ n r i2 e fP l7=> ?_) (fun _ p e=> ?_) (fun h=>absurd rfl h)
    · have F8:=eE e
      have wn:IntKind.i64.wrap (1+(n - 1))=n:=by rw [wrap64 (by simp [dZ] at F8;omega) (by simp [dZ] at F8;omega)];omega
      conv=>whnf
      (repeat' first | (refine aa [] ?_;conv=>whnf) | (refine two ?_ ?_<;>intro g<;>(try simp only[an]at g)<;>(conv=>whnf)) | (refine And.intro rfl ?_;conv=>whnf) | (refine ⟨by decide,by decide,?_⟩;conv=>whnf) | fail)
      rw [wn]
      refine ah.nJ ?_
      conv=>whnf
      refine ⟨Nat.le_of_ble_eq_true rfl,?_⟩
      conv=>whnf
      first
       | refine qD [] n (by decide) _ ?_
       | refine qD [a1] n (by simp) _ ?_
       | refine qD [a1,a2] n (by simp) _ ?_
       | refine qD [a1,a2,a3] n (by simp) _ ?_
      conv=>whnf
      refine ⟨rfl,?_⟩
      conv=>whnf
      (repeat' first | (refine aa [] ?_;conv=>whnf) | (refine two ?_ ?_<;>intro g<;>(try simp only[an,gv,j3]at g)<;>(conv=>whnf)) | (refine And.intro rfl ?_;conv=>whnf) | (refine ⟨by decide,by decide,?_⟩;conv=>whnf) | fail)
      · have hb:aV 4 [] (k.drop i)= .err (nx k i1).at_ 7:=by
         rw [b3]
         show ((bJ dZ (k.drop i1)).bind fun k2 r=>if k2∈ac then .err _ 7 else aV _ (ac++[k2]) r)=_
         rw [e]
         exact if_pos (by rw [CH];assumption)
        refine F5 i1 _ (fun _=>b1) _ (fun _=> ?_) (fun h=>absurd rfl h)
        conv=>whnf
        (repeat' first | (refine aa [] ?_;conv=>whnf) | (refine two ?_ ?_<;>intro g<;>(try simp only[an]at g)<;>(conv=>whnf)) | (refine And.intro rfl ?_;conv=>whnf) | (refine ⟨by decide,by decide,?_⟩;conv=>whnf) | fail)
        have hinv:j1<=4/\(ac++[n]).length=j1/\((7:Int)=0->bb (k.drop i1)/\((nx k i1).at_:Int)=x.at_/\aV 4 [] (k.drop i)=aV (4 - j1) (ac++[n]) (k.drop i1))/\((7:Int)≠0->(7:Int)=7/\ ∃p9:Nat,((nx k i1).at_:Int)=p9/\aV 4 [] (k.drop i)= .err p9 7):=
         ⟨by omega,by rw [CH,yM];rfl,fun h=>absurd h (by decide),fun _=>⟨rfl,_,rfl,hb⟩⟩
        refine ⟨S (j1,ac++[n],i1,(7:Int),((nx k i1).at_:Int)),ae ?_ (.cons (.cells ?_) (.cons (.eq rfl) (.cons (.eq rfl) (.cons (.eq rfl) (.cons (.eq rfl) .nil))))) rfl rfl rfl,ih (j1,ac++[n],i1,(7:Int),((nx k i1).at_:Int)) hinv (by show 4 - j1<_;omega)⟩
        all_goals
         subst yM CH
         (repeat' first | exact aq.nil | refine aq.cons VW.undef ?_ | refine aq.cons (VW.eq rfl) ?_ | refine aq.cons (VW.eq (congrArg (V.int .i64) (wrap64 (by omega) (by omega)))) ?_ | refine aq.cons (VW.eq (congrArg (V.int .i64) (by rw [wn]))) ?_)
      · have hb:aV 4 [] (k.drop i)=aV (4 - j1) (ac++[n]) (k.drop i2):=by
         rw [b3,fP,yM]
         show ((bJ dZ (k.drop i1)).bind fun k2 r=>if k2∈ac then .err _ 7 else aV _ (ac++[k2]) r)=_
         rw [e]
         exact if_neg (by rw [CH];assumption)
        have hinv:j1<=4/\(ac++[n]).length=j1/\((0:Int)=0->bb (k.drop i2)/\L1=x.at_/\aV 4 [] (k.drop i)=aV (4 - j1) (ac++[n]) (k.drop i2))/\((0:Int)≠0->(0:Int)=7/\ ∃p9:Nat,L1=p9/\aV 4 [] (k.drop i)= .err p9 7):=
         ⟨by omega,by rw [CH,yM];rfl,fun _=>⟨by rw [fP];exact l7,b2,hb⟩,fun h=>absurd rfl h⟩
        refine ⟨S (j1,ac++[n],i2,(0:Int),L1),ae ?_ (.cons (.cells ?_) (.cons (.eq rfl) (.cons (.eq rfl) (.cons (.eq rfl) (.cons (.eq rfl) .nil))))) rfl rfl rfl,ih (j1,ac++[n],i2,(0:Int),L1) hinv (by show 4 - j1<_;omega)⟩
        all_goals
         subst yM CH
         (repeat' first | exact aq.nil | refine aq.cons VW.undef ?_ | refine aq.cons (VW.eq rfl) ?_ | refine aq.cons (VW.eq (congrArg (V.int .i64) (wrap64 (by omega) (by omega)))) ?_ | refine aq.cons (VW.eq (congrArg (V.int .i64) (by rw [wn]))) ?_)
    · have hb:aV 4 [] (k.drop i)= .err p 7:=by
       rw [b3]
       show ((bJ dZ (k.drop i1)).bind fun k2 r=>if k2∈ac then .err _ 7 else aV _ (ac++[k2]) r)=_
       rw [e];rfl
      have wn:True:=trivial
      conv=>whnf
      (repeat' first | (refine aa [] ?_;conv=>whnf) | (refine two ?_ ?_<;>intro g<;>(try simp only[an]at g)<;>(conv=>whnf)) | (refine And.intro rfl ?_;conv=>whnf) | (refine ⟨by decide,by decide,?_⟩;conv=>whnf) | fail)
      have hinv:j1<=4/\(ac++[(1:Int)]).length=j1/\((7:Int)=0->bb (k.drop i1)/\(p:Int)=x.at_/\aV 4 [] (k.drop i)=aV (4 - j1) (ac++[(1:Int)]) (k.drop i1))/\((7:Int)≠0->(7:Int)=7/\ ∃p9:Nat,(p:Int)=p9/\aV 4 [] (k.drop i)= .err p9 7):=
       ⟨by omega,by rw [CH,yM];rfl,fun h=>absurd h (by decide),fun _=>⟨rfl,_,rfl,hb⟩⟩
      refine ⟨S (j1,ac++[(1:Int)],i1,(7:Int),(p:Int)),ae ?_ (.cons (.cells ?_) (.cons (.eq rfl) (.cons (.eq rfl) (.cons (.eq rfl) (.cons (.eq rfl) .nil))))) rfl rfl rfl,ih (j1,ac++[(1:Int)],i1,(7:Int),(p:Int)) hinv (by show 4 - j1<_;omega)⟩
      all_goals
       subst yM CH
       (repeat' first | exact aq.nil | refine aq.cons VW.undef ?_ | refine aq.cons (VW.eq rfl) ?_ | refine aq.cons (VW.eq (congrArg (V.int .i64) (wrap64 (by omega) (by omega)))) ?_ | refine aq.cons (VW.eq (congrArg (V.int .i64) (by rw [wn]))) ?_)
  · obtain ⟨b1,p,b2,b3⟩:=Nx DD
    have wn:True:=trivial
    refine hw i1 _ (fun h=>absurd h DD) _ (fun h=>absurd h DD) (fun h=>absurd h DD) (fun _=> ?_)
    conv=>whnf
    (repeat' first | (refine aa [] ?_;conv=>whnf) | (refine two ?_ ?_<;>intro g<;>(try simp only[an]at g)<;>(conv=>whnf)) | (refine And.intro rfl ?_;conv=>whnf) | (refine ⟨by decide,by decide,?_⟩;conv=>whnf) | fail)
    · exact absurd (by assumption) DD
    have hinv:j1<=4/\(ac++[(1:Int)]).length=j1/\(er=0->bb (k.drop i1)/\L1=x.at_/\aV 4 [] (k.drop i)=aV (4 - j1) (ac++[(1:Int)]) (k.drop i1))/\(er≠0->er=7/\ ∃p9:Nat,L1=p9/\aV 4 [] (k.drop i)= .err p9 7):=
     ⟨by omega,by rw [CH,yM];rfl,fun h=>absurd h DD,fun _=>⟨b1,p,b2,b3⟩⟩
    refine ⟨S (j1,ac++[(1:Int)],i1,er,L1),ae ?_ (.cons (.cells ?_) (.cons (.eq rfl) (.cons (.eq rfl) (.cons (.eq rfl) (.cons (.eq rfl) .nil))))) rfl rfl rfl,ih (j1,ac++[(1:Int)],i1,er,L1) hinv (by show 4 - j1<_;omega)⟩
    all_goals
     subst yM CH
     (repeat' first | exact aq.nil | refine aq.cons VW.undef ?_ | refine aq.cons (VW.eq rfl) ?_ | refine aq.cons (VW.eq (congrArg (V.int .i64) (wrap64 (by omega) (by omega)))) ?_ | refine aq.cons (VW.eq (congrArg (V.int .i64) (by rw [wn]))) ?_)
end QA
namespace Sv
open Go Go.Proofs VL D1 eG kb kj wg LQ MW C8 jt c5 dj C1 C2 C3 C4 C6 oO pQ Kz oY CR FA vL kn yU ND Od PO QA
set_option maxHeartbeats 16000000 in
theorem xB (w:List Int) (hw: ∀x∈w,0<=x/\x<256) (k:List C3.Tok) (i:Nat) (x:RS) (hk:bb (k.drop i)) (hl:oD k) (hq: ∀t∈k,t.kind≠0->t.text≠[]) (hx:x.err=0) (hz:x.p.au.length+x.p.late.length+x.p.cT.length<1000000) (y:iR Prod) (hy:aZ w x.p (k.drop i)=some y) (K:Out->List af->Prop)
 (h0: ∀q r i' x',y= .ok q r->k.drop i'=r->bb r->x'.p=q->x'.h=x.h->x'.err=0->K (.ret (.aQ [])) (rO true true true true k i' x'))
 (h1: ∀(p:Nat) i' x',y= .err p 7->x'.err=7->x'.at_=(p:Int)->K (.ret (.aQ [])) (rO true true true true k i' x')):
 ah Tryz.prog 56 [.ptr 0 0,.str (az w)] (rO false false false false k i x) K:=by
 have yO:(az w).toList=(⟨#[99,111,117,110,116]⟩:ByteArray).toList↔w=cK:=bd hw (b:=cK) (by decide)
 have yP:(az w).toList=(⟨#[114,111,117,110,100]⟩:ByteArray).toList↔w=cL:=bd hw (b:=cL) (by decide)
 have CW:(az w).toList=(⟨#[107,105,110,100]⟩:ByteArray).toList↔w=dK:=bd hw (b:=dK) (by decide)
 have yQ:(az w).toList=(⟨#[101,118,101,114,121]⟩:ByteArray).toList↔w=cM:=bd hw (b:=cM) (by decide)
 have yR:(az w).toList=(⟨#[116,105,109,101,115]⟩:ByteArray).toList↔w=cN:=bd hw (b:=cN) (by decide)
 have yS:(az w).toList=(⟨#[103,114,97,99,101]⟩:ByteArray).toList↔w=eC:=bd hw (b:=eC) (by decide)
 have CX:(az w).toList=(⟨#[114,97,116,101]⟩:ByteArray).toList↔w=dL:=bd hw (b:=dL) (by decide)
 have rU:(az w).toList=(⟨#[112,101,110,97,108,116,121]⟩:ByteArray).toList↔w=cq:=bd hw (b:=cq) (by decide)
 have qE:(az w).toList=(⟨#[114,101,115,101,116]⟩:ByteArray).toList↔w=cO:=bd hw (b:=cO) (by decide)
 have vK:(az w).toList=(⟨#[108,97,116,101]⟩:ByteArray).toList↔w=dM:=bd hw (b:=dM) (by decide)
 have H_:(az w).toList=(⟨#[99,97,112]⟩:ByteArray).toList↔w=j4:=bd hw (b:=j4) (by decide)
 have lH:(az w).toList=(⟨#[104,111,108,105,100,97,121]⟩:ByteArray).toList↔w=bE:=bd hw (b:=bE) (by decide)
 have yT:(az w).toList=(⟨#[111,114,100,101,114]⟩:ByteArray).toList↔w=cG:=bd hw (b:=cG) (by decide)
 have CY:(az w).toList=(⟨#[111,118,101,114]⟩:ByteArray).toList↔w=fS:=bd hw (b:=fS) (by decide)
 have CZ:(az w).toList=(⟨#[114,111,108,108]⟩:ByteArray).toList↔w=fT:=bd hw (b:=fT) (by decide)
 refine ah.dv ?_
 unfold rO
 refine ag [] 5 Tryz.func56 (by rfl) (by rfl) ?_
 conv=>whnf
 (repeat' first | (refine aa [] ?_;conv=>whnf) | (refine two ?_ ?_<;>intro g<;>(try simp only[an,yO,yP,CW,yQ,yR,yS,CX,rU,qE,vK,H_,lH,yT,CY,CZ]at g)<;>(conv=>whnf)) | (refine And.intro rfl ?_;conv=>whnf) | fail)
 · have gw:w=cK:=by assumption
   subst gw
   refine ah.args (cI:=[.ptr 0 0,.sl (sL [gz,jd,gA]) .no]) (.cons (.eq rfl) (.cons .no .nil)) rfl (oE k i x (fun _=>hk) hl [gz,jd,gA] (by unfold eX;decide) (by decide) _ (fun _ n r i' e hd he=> ?_) (fun _ p e=> ?_) (fun h=>absurd hx h))
   · have d_:y= .ok {x.p with count:=n} r:=by rw [nO,e] at hy;exact (Option.some.inj hy).symm
     have hr:=eE e
     simp at hr
     have wn:IntKind.i64.wrap (1+(n - 1))=n:=by rw [wrap64 (by omega) (by omega)];omega
     conv=>whnf
     (repeat' first | (refine aa [] ?_;conv=>whnf) | (refine two ?_ ?_<;>intro g<;>(try simp only[an]at g)<;>(conv=>whnf)) | (refine And.intro rfl ?_;conv=>whnf) | (refine ak (by decide+kernel) ?_;conv=>whnf) | fail)
     refine ⟨_,_,ae (.cons (.eq rfl) .nil) (.cons (.cells ?_) (.cons .av (.cons .av (.cons .av (.cons .av .nil))))) rfl rfl rfl,h0 _ r i' {x with p:= {x.p with count:=n}} d_ hd he rfl rfl hx⟩
     repeat' first
      | exact aq.nil
      | refine aq.cons (VW.eq rfl) ?_
      | refine aq.cons (VW.eq (congrArg (V.int .i64) wn)) ?_
   · have d_:y= .err p 7:=by rw [nO,e] at hy;exact (Option.some.inj hy).symm
     have wn:IntKind.i64.wrap (1+0)=1:=by decide
     conv=>whnf
     (repeat' first | (refine aa [] ?_;conv=>whnf) | (refine two ?_ ?_<;>intro g<;>(try simp only[an]at g)<;>(conv=>whnf)) | (refine And.intro rfl ?_;conv=>whnf) | (refine ak (by decide+kernel) ?_;conv=>whnf) | fail)
     refine ⟨_,_,ae (.cons (.eq rfl) .nil) (.cons (.cells ?_) (.cons .av (.cons .av (.cons .av (.cons .av .nil))))) rfl rfl rfl,h1 p i {x with p:= {x.p with count:=1},err:=7,at_:=p} d_ rfl rfl⟩
     repeat' first
      | exact aq.nil
      | refine aq.cons (VW.eq rfl) ?_
      | refine aq.cons (VW.eq (congrArg (V.int .i64) wn)) ?_
 · have gw:w=cL:=by assumption
   subst gw
   refine ah.args (cI:=[.ptr 0 0,.sl (sL [fq,mA]) .no]) (.cons (.eq rfl) (.cons .no .nil)) rfl (oE k i x (fun _=>hk) hl [fq,mA] (by unfold eX;decide) (by decide) _ (fun _ n r i' e hd he=> ?_) (fun _ p e=> ?_) (fun h=>absurd hx h))
   · have d_:y= .ok {x.p with m3:=if n=1 then 1 else 3} r:=by rw [nP,e] at hy;exact (Option.some.inj hy).symm
     have hr:=eE e
     have hn:n=1\/n=2:=by simp at hr;omega
     have wn:True:=trivial
     rcases hn with rfl | rfl
     · conv=>whnf
       (repeat' first | (refine aa [] ?_;conv=>whnf) | (refine two ?_ ?_<;>intro g<;>(try simp only[an]at g)<;>(conv=>whnf)) | (refine And.intro rfl ?_;conv=>whnf) | (refine ak (by decide+kernel) ?_;conv=>whnf) | (refine ⟨by decide,_,rfl,rfl,?_⟩;conv=>whnf) | fail)
       refine ⟨_,_,ae (.cons (.eq rfl) .nil) (.cons (.cells ?_) (.cons .av (.cons .av (.cons .av (.cons .av .nil))))) rfl rfl rfl,h0 _ r i' {x with p:= {x.p with m3:=if (1:Int)=1 then 1 else 3}} d_ hd he rfl rfl hx⟩
       repeat' first
        | exact aq.nil
        | refine aq.cons (VW.eq rfl) ?_
     · conv=>whnf
       (repeat' first | (refine aa [] ?_;conv=>whnf) | (refine two ?_ ?_<;>intro g<;>(try simp only[an]at g)<;>(conv=>whnf)) | (refine And.intro rfl ?_;conv=>whnf) | (refine ak (by decide+kernel) ?_;conv=>whnf) | (refine ⟨by decide,_,rfl,rfl,?_⟩;conv=>whnf) | fail)
       refine ⟨_,_,ae (.cons (.eq rfl) .nil) (.cons (.cells ?_) (.cons .av (.cons .av (.cons .av (.cons .av .nil))))) rfl rfl rfl,h0 _ r i' {x with p:= {x.p with m3:=if (2:Int)=1 then 1 else 3}} d_ hd he rfl rfl hx⟩
       repeat' first
        | exact aq.nil
        | refine aq.cons (VW.eq rfl) ?_
   · have d_:y= .err p 7:=by rw [nP,e] at hy;exact (Option.some.inj hy).symm
     conv=>whnf
     (repeat' first | (refine aa [] ?_;conv=>whnf) | (refine two ?_ ?_<;>intro g<;>(try simp only[an]at g)<;>(conv=>whnf)) | (refine And.intro rfl ?_;conv=>whnf) | (refine ak (by decide+kernel) ?_;conv=>whnf) | (refine ⟨by decide,_,rfl,rfl,?_⟩;conv=>whnf) | fail)
     refine ⟨_,_,ae (.cons (.eq rfl) .nil) (.cons (.cells ?_) (.cons .av (.cons .av (.cons .av (.cons .av .nil))))) rfl rfl rfl,h1 p i {x with p:= {x.p with m3:=1},err:=7,at_:=p} d_ rfl rfl⟩
     repeat' first
      | exact aq.nil
      | refine aq.cons (VW.eq rfl) ?_
 · have gw:w=dK:=by assumption
   subst gw
   refine ah.args (cI:=[.ptr 0 0,.sl (sL [fr,je,gB]) .no]) (.cons (.eq rfl) (.cons .no .nil)) rfl (oE k i x (fun _=>hk) hl [fr,je,gB] (by unfold eX;decide) (by decide) _ (fun _ n r i' e hd he=> ?_) (fun _ p e=> ?_) (fun h=>absurd hx h))
   · have d_:y= .ok {x.p with kind:=n} r:=by rw [qF,e] at hy;exact (Option.some.inj hy).symm
     have hr:=eE e
     simp at hr
     have wn:IntKind.i64.wrap (1+(n - 1))=n:=by rw [wrap64 (by omega) (by omega)];omega
     conv=>whnf
     (repeat' first | (refine aa [] ?_;conv=>whnf) | (refine two ?_ ?_<;>intro g<;>(try simp only[an]at g)<;>(conv=>whnf)) | (refine And.intro rfl ?_;conv=>whnf) | (refine ak (by decide+kernel) ?_;conv=>whnf) | fail)
     refine ⟨_,_,ae (.cons (.eq rfl) .nil) (.cons (.cells ?_) (.cons .av (.cons .av (.cons .av (.cons .av .nil))))) rfl rfl rfl,h0 _ r i' {x with p:= {x.p with kind:=n}} d_ hd he rfl rfl hx⟩
     repeat' first
      | exact aq.nil
      | refine aq.cons (VW.eq rfl) ?_
      | refine aq.cons (VW.eq (congrArg (V.int .i64) wn)) ?_
   · have d_:y= .err p 7:=by rw [qF,e] at hy;exact (Option.some.inj hy).symm
     have wn:IntKind.i64.wrap (1+0)=1:=by decide
     conv=>whnf
     (repeat' first | (refine aa [] ?_;conv=>whnf) | (refine two ?_ ?_<;>intro g<;>(try simp only[an]at g)<;>(conv=>whnf)) | (refine And.intro rfl ?_;conv=>whnf) | (refine ak (by decide+kernel) ?_;conv=>whnf) | fail)
     refine ⟨_,_,ae (.cons (.eq rfl) .nil) (.cons (.cells ?_) (.cons .av (.cons .av (.cons .av (.cons .av .nil))))) rfl rfl rfl,h1 p i {x with p:= {x.p with kind:=1},err:=7,at_:=p} d_ rfl rfl⟩
     repeat' first
      | exact aq.nil
      | refine aq.cons (VW.eq rfl) ?_
      | refine aq.cons (VW.eq (congrArg (V.int .i64) wn)) ?_
 · have gw:w=cM:=by assumption
   subst gw
   refine lN k i x (fun _=>hk) hl hq _ (fun _ n r i' e hd he=> ?_) (fun _ p n e=> ?_) (fun h=>absurd hx h)
   · have d_:y= .ok {x.p with every:=n} r:=by rw [nQ,e] at hy;exact (Option.some.inj hy).symm
     have wn:True:=trivial
     conv=>whnf
     (repeat' first | (refine aa [] ?_;conv=>whnf) | (refine two ?_ ?_<;>intro g<;>(try simp only[an]at g)<;>(conv=>whnf)) | (refine And.intro rfl ?_;conv=>whnf) | (refine ak (by decide+kernel) ?_;conv=>whnf) | fail)
     refine ⟨_,_,ae (.cons (.eq rfl) .nil) (.cons (.cells ?_) (.cons .av (.cons .av (.cons .av (.cons .av .nil))))) rfl rfl rfl,h0 _ r i' {x with p:= {x.p with every:=n}} d_ hd he rfl rfl hx⟩
     repeat' first
      | exact aq.nil
      | refine aq.cons (VW.eq rfl) ?_
      | refine aq.cons (VW.eq (congrArg (V.int .i64) wn)) ?_
   · have d_:y= .err p 7:=by rw [nQ,e] at hy;exact (Option.some.inj hy).symm
     have wn:True:=trivial
     conv=>whnf
     (repeat' first | (refine aa [] ?_;conv=>whnf) | (refine two ?_ ?_<;>intro g<;>(try simp only[an]at g)<;>(conv=>whnf)) | (refine And.intro rfl ?_;conv=>whnf) | (refine ak (by decide+kernel) ?_;conv=>whnf) | fail)
     refine ⟨_,_,ae (.cons (.eq rfl) .nil) (.cons (.cells ?_) (.cons .av (.cons .av (.cons .av (.cons .av .nil))))) rfl rfl rfl,h1 p i {x with p:= {x.p with every:=n},err:=7,at_:=p} d_ rfl rfl⟩
     repeat' first
      | exact aq.nil
      | refine aq.cons (VW.eq rfl) ?_
      | refine aq.cons (VW.eq (congrArg (V.int .i64) wn)) ?_
 · have gw:w=cN:=by assumption
   subst gw
   refine lN k i x (fun _=>hk) hl hq _ (fun _ n r i' e hd he=> ?_) (fun _ p n e=> ?_) (fun h=>absurd hx h)
   · have d_:y= .ok {x.p with times:=n} r:=by rw [nR,e] at hy;exact (Option.some.inj hy).symm
     have wn:True:=trivial
     conv=>whnf
     (repeat' first | (refine aa [] ?_;conv=>whnf) | (refine two ?_ ?_<;>intro g<;>(try simp only[an]at g)<;>(conv=>whnf)) | (refine And.intro rfl ?_;conv=>whnf) | (refine ak (by decide+kernel) ?_;conv=>whnf) | fail)
     refine ⟨_,_,ae (.cons (.eq rfl) .nil) (.cons (.cells ?_) (.cons .av (.cons .av (.cons .av (.cons .av .nil))))) rfl rfl rfl,h0 _ r i' {x with p:= {x.p with times:=n}} d_ hd he rfl rfl hx⟩
     repeat' first
      | exact aq.nil
      | refine aq.cons (VW.eq rfl) ?_
      | refine aq.cons (VW.eq (congrArg (V.int .i64) wn)) ?_
   · have d_:y= .err p 7:=by rw [nR,e] at hy;exact (Option.some.inj hy).symm
     have wn:True:=trivial
     conv=>whnf
     (repeat' first | (refine aa [] ?_;conv=>whnf) | (refine two ?_ ?_<;>intro g<;>(try simp only[an]at g)<;>(conv=>whnf)) | (refine And.intro rfl ?_;conv=>whnf) | (refine ak (by decide+kernel) ?_;conv=>whnf) | fail)
     refine ⟨_,_,ae (.cons (.eq rfl) .nil) (.cons (.cells ?_) (.cons .av (.cons .av (.cons .av (.cons .av .nil))))) rfl rfl rfl,h1 p i {x with p:= {x.p with times:=n},err:=7,at_:=p} d_ rfl rfl⟩
     repeat' first
      | exact aq.nil
      | refine aq.cons (VW.eq rfl) ?_
      | refine aq.cons (VW.eq (congrArg (V.int .i64) wn)) ?_
 · have gw:w=eC:=by assumption
   subst gw
   refine lN k i x (fun _=>hk) hl hq _ (fun _ n r i' e hd he=> ?_) (fun _ p n e=> ?_) (fun h=>absurd hx h)
   · have d_:y= .ok {x.p with b_:=n} r:=by rw [nS,e] at hy;exact (Option.some.inj hy).symm
     have wn:True:=trivial
     conv=>whnf
     (repeat' first | (refine aa [] ?_;conv=>whnf) | (refine two ?_ ?_<;>intro g<;>(try simp only[an]at g)<;>(conv=>whnf)) | (refine And.intro rfl ?_;conv=>whnf) | (refine ak (by decide+kernel) ?_;conv=>whnf) | fail)
     refine ⟨_,_,ae (.cons (.eq rfl) .nil) (.cons (.cells ?_) (.cons .av (.cons .av (.cons .av (.cons .av .nil))))) rfl rfl rfl,h0 _ r i' {x with p:= {x.p with b_:=n}} d_ hd he rfl rfl hx⟩
     repeat' first
      | exact aq.nil
      | refine aq.cons (VW.eq rfl) ?_
      | refine aq.cons (VW.eq (congrArg (V.int .i64) wn)) ?_
   · have d_:y= .err p 7:=by rw [nS,e] at hy;exact (Option.some.inj hy).symm
     have wn:True:=trivial
     conv=>whnf
     (repeat' first | (refine aa [] ?_;conv=>whnf) | (refine two ?_ ?_<;>intro g<;>(try simp only[an]at g)<;>(conv=>whnf)) | (refine And.intro rfl ?_;conv=>whnf) | (refine ak (by decide+kernel) ?_;conv=>whnf) | fail)
     refine ⟨_,_,ae (.cons (.eq rfl) .nil) (.cons (.cells ?_) (.cons .av (.cons .av (.cons .av (.cons .av .nil))))) rfl rfl rfl,h1 p i {x with p:= {x.p with b_:=n},err:=7,at_:=p} d_ rfl rfl⟩
     repeat' first
      | exact aq.nil
      | refine aq.cons (VW.eq rfl) ?_
      | refine aq.cons (VW.eq (congrArg (V.int .i64) wn)) ?_
 · have gw:w=dL:=by assumption
   subst gw
   refine jc k i x (fun _=>hk) hl _ (fun _ n r i' e hd he=> ?_) (fun _ p n e=> ?_) (fun h=>absurd hx h)
   · have d_:y= .ok {x.p with bW:=n} r:=by rw [qG,e] at hy;exact (Option.some.inj hy).symm
     have wn:True:=trivial
     conv=>whnf
     (repeat' first | (refine aa [] ?_;conv=>whnf) | (refine two ?_ ?_<;>intro g<;>(try simp only[an]at g)<;>(conv=>whnf)) | (refine And.intro rfl ?_;conv=>whnf) | (refine ak (by decide+kernel) ?_;conv=>whnf) | fail)
     refine ⟨_,_,ae (.cons (.eq rfl) .nil) (.cons (.cells ?_) (.cons .av (.cons .av (.cons .av (.cons .av .nil))))) rfl rfl rfl,h0 _ r i' {x with p:= {x.p with bW:=n}} d_ hd he rfl rfl hx⟩
     repeat' first
      | exact aq.nil
      | refine aq.cons (VW.eq rfl) ?_
      | refine aq.cons (VW.eq (congrArg (V.int .i64) wn)) ?_
   · have d_:y= .err p 7:=by rw [qG,e] at hy;exact (Option.some.inj hy).symm
     have wn:True:=trivial
     conv=>whnf
     (repeat' first | (refine aa [] ?_;conv=>whnf) | (refine two ?_ ?_<;>intro g<;>(try simp only[an]at g)<;>(conv=>whnf)) | (refine And.intro rfl ?_;conv=>whnf) | (refine ak (by decide+kernel) ?_;conv=>whnf) | fail)
     refine ⟨_,_,ae (.cons (.eq rfl) .nil) (.cons (.cells ?_) (.cons .av (.cons .av (.cons .av (.cons .av .nil))))) rfl rfl rfl,h1 p i {x with p:= {x.p with bW:=n},err:=7,at_:=p} d_ rfl rfl⟩
     repeat' first
      | exact aq.nil
      | refine aq.cons (VW.eq rfl) ?_
      | refine aq.cons (VW.eq (congrArg (V.int .i64) wn)) ?_
 · have gw:w=cq:=by assumption
   subst gw
   refine jc k i x (fun _=>hk) hl _ (fun _ n r i' e hd he=> ?_) (fun _ p n e=> ?_) (fun h=>absurd hx h)
   · have d_:y= .ok {x.p with kY:=n} r:=by rw [j8,e] at hy;exact (Option.some.inj hy).symm
     have wn:True:=trivial
     conv=>whnf
     (repeat' first | (refine aa [] ?_;conv=>whnf) | (refine two ?_ ?_<;>intro g<;>(try simp only[an]at g)<;>(conv=>whnf)) | (refine And.intro rfl ?_;conv=>whnf) | (refine ak (by decide+kernel) ?_;conv=>whnf) | fail)
     refine ⟨_,_,ae (.cons (.eq rfl) .nil) (.cons (.cells ?_) (.cons .av (.cons .av (.cons .av (.cons .av .nil))))) rfl rfl rfl,h0 _ r i' {x with p:= {x.p with kY:=n}} d_ hd he rfl rfl hx⟩
     repeat' first
      | exact aq.nil
      | refine aq.cons (VW.eq rfl) ?_
      | refine aq.cons (VW.eq (congrArg (V.int .i64) wn)) ?_
   · have d_:y= .err p 7:=by rw [j8,e] at hy;exact (Option.some.inj hy).symm
     have wn:True:=trivial
     conv=>whnf
     (repeat' first | (refine aa [] ?_;conv=>whnf) | (refine two ?_ ?_<;>intro g<;>(try simp only[an]at g)<;>(conv=>whnf)) | (refine And.intro rfl ?_;conv=>whnf) | (refine ak (by decide+kernel) ?_;conv=>whnf) | fail)
     refine ⟨_,_,ae (.cons (.eq rfl) .nil) (.cons (.cells ?_) (.cons .av (.cons .av (.cons .av (.cons .av .nil))))) rfl rfl rfl,h1 p i {x with p:= {x.p with kY:=n},err:=7,at_:=p} d_ rfl rfl⟩
     repeat' first
      | exact aq.nil
      | refine aq.cons (VW.eq rfl) ?_
      | refine aq.cons (VW.eq (congrArg (V.int .i64) wn)) ?_
 · have gw:w=cO:=by assumption
   subst gw
   refine lN k i x (fun _=>hk) hl hq _ (fun _ n r i1 e hd he=> ?_) (fun _ p n e=> ?_) (fun h=>absurd hx h)
   · conv=>whnf
     (repeat' first | (refine aa [] ?_;conv=>whnf) | (refine two ?_ ?_<;>intro g<;>(try simp only[an]at g)<;>(conv=>whnf)) | (refine And.intro rfl ?_;conv=>whnf) | (refine ak (by decide+kernel) ?_;conv=>whnf) | fail)
     refine jc k i1 x (fun _=>by rw [hd];exact he) hl _ (fun _ v r' i2 e2 fP l7=> ?_) (fun _ p v e2=> ?_) (fun h=>absurd hx h)
     · rw [hd] at e2
       have d_:y= .ok {x.p with au:=x.p.au++[⟨n,v⟩]} r':=by
        rw [j9,e] at hy
        have hy:some ((aL bH r).bind fun v r=>iR.ok {x.p with au:=x.p.au++[⟨n,v⟩]} r)=some y:=hy
        rw [e2] at hy;exact (Option.some.inj hy).symm
       conv=>whnf
       (repeat' first | (refine aa [] ?_;conv=>whnf) | (refine two ?_ ?_<;>intro g<;>(try simp only[an]at g)<;>(conv=>whnf)) | (refine And.intro rfl ?_;conv=>whnf) | (refine ak (by decide+kernel) ?_;conv=>whnf) | fail)
       refine ⟨by simp;omega,by simp [V.cells],?_⟩
       conv=>whnf
       (repeat' first | (refine aa [] ?_;conv=>whnf) | (refine two ?_ ?_<;>intro g<;>(try simp only[an]at g)<;>(conv=>whnf)) | (refine And.intro rfl ?_;conv=>whnf) | (refine ak (by decide+kernel) ?_;conv=>whnf) | fail)
       · have wO:1<=x.s1.length:=by have:=Nat.le_of_ble_eq_true g;simp at this;omega
         refine ⟨by simp [rL,tL,iL],?_⟩
         conv=>whnf
         (repeat' first | (refine aa [] ?_;conv=>whnf) | (refine two ?_ ?_<;>intro g<;>(try simp only[an]at g)<;>(conv=>whnf)) | (refine And.intro rfl ?_;conv=>whnf) | (refine ak (by decide+kernel) ?_;conv=>whnf) | fail)
         have jf:=gr m_ x.p.au ⟨n,v⟩ x.s1
         refine ⟨_,_,ae (.cons (.eq rfl) .nil) (.cons (.cells ?_) (.cons (j6 jf) (.cons .av (.cons .av (.cons .av .nil))))) rfl rfl rfl,h0 _ r' i2 {x with p:= {x.p with au:=x.p.au++[⟨n,v⟩]},s1:=(x.s1.drop 1)} d_ fP l7 rfl rfl hx⟩
         repeat' first
          | exact aq.nil
          | refine aq.cons (VW.eq rfl) ?_
          | refine aq.cons (VW.eq (ee (by simp) (by simp;omega))) ?_
       · refine ⟨by simp [rL,tL,iL],fun sp sT=> ?_⟩
         conv=>whnf
         (repeat' first | (refine aa [] ?_;conv=>whnf) | (refine two ?_ ?_<;>intro g<;>(try simp only[an]at g)<;>(conv=>whnf)) | (refine And.intro rfl ?_;conv=>whnf) | (refine ak (by decide+kernel) ?_;conv=>whnf) | fail)
         have jf:=gu m_ x.p.au ⟨n,v⟩ x.s1 sp
         refine gF [0,5,2,3,4] ?_
         conv=>whnf
         refine ⟨_,_,ae (.cons (.eq rfl) .nil) (.cons (.cells ?_) (.cons (.eq (congrArg (fun l=>af.buf true 2 l none) jf)) (.cons .av (.cons .av (.cons .av .nil))))) rfl rfl rfl,h0 _ r' i2 {x with p:= {x.p with au:=x.p.au++[⟨n,v⟩]},s1:=sp} d_ fP l7 rfl rfl hx⟩
         repeat' first
          | exact aq.nil
          | refine aq.cons (VW.eq rfl) ?_
          | refine aq.cons (VW.eq (ee (by simp) (by simp))) ?_
     · rw [hd] at e2
       have d_:y= .err p 7:=by
        rw [j9,e] at hy
        have hy:some ((aL bH r).bind fun v r=>iR.ok {x.p with au:=x.p.au++[⟨n,v⟩]} r)=some y:=hy
        rw [e2] at hy;exact (Option.some.inj hy).symm
       conv=>whnf
       (repeat' first | (refine aa [] ?_;conv=>whnf) | (refine two ?_ ?_<;>intro g<;>(try simp only[an]at g)<;>(conv=>whnf)) | (refine And.intro rfl ?_;conv=>whnf) | (refine ak (by decide+kernel) ?_;conv=>whnf) | fail)
       refine ⟨by simp;omega,by simp [V.cells],?_⟩
       conv=>whnf
       (repeat' first | (refine aa [] ?_;conv=>whnf) | (refine two ?_ ?_<;>intro g<;>(try simp only[an]at g)<;>(conv=>whnf)) | (refine And.intro rfl ?_;conv=>whnf) | (refine ak (by decide+kernel) ?_;conv=>whnf) | fail)
       · have wO:1<=x.s1.length:=by have:=Nat.le_of_ble_eq_true g;simp at this;omega
         refine ⟨by simp [rL,tL,iL],?_⟩
         conv=>whnf
         (repeat' first | (refine aa [] ?_;conv=>whnf) | (refine two ?_ ?_<;>intro g<;>(try simp only[an]at g)<;>(conv=>whnf)) | (refine And.intro rfl ?_;conv=>whnf) | (refine ak (by decide+kernel) ?_;conv=>whnf) | fail)
         have jf:=gr m_ x.p.au ⟨n,v⟩ x.s1
         refine ⟨_,_,ae (.cons (.eq rfl) .nil) (.cons (.cells ?_) (.cons (j6 jf) (.cons .av (.cons .av (.cons .av .nil))))) rfl rfl rfl,h1 p i1 {x with p:= {x.p with au:=x.p.au++[⟨n,v⟩]},s1:=(x.s1.drop 1),err:=7,at_:=p} d_ rfl rfl⟩
         repeat' first
          | exact aq.nil
          | refine aq.cons (VW.eq rfl) ?_
          | refine aq.cons (VW.eq (ee (by simp) (by simp;omega))) ?_
       · refine ⟨by simp [rL,tL,iL],fun sp sT=> ?_⟩
         conv=>whnf
         (repeat' first | (refine aa [] ?_;conv=>whnf) | (refine two ?_ ?_<;>intro g<;>(try simp only[an]at g)<;>(conv=>whnf)) | (refine And.intro rfl ?_;conv=>whnf) | (refine ak (by decide+kernel) ?_;conv=>whnf) | fail)
         have jf:=gu m_ x.p.au ⟨n,v⟩ x.s1 sp
         refine gF [0,5,2,3,4] ?_
         conv=>whnf
         refine ⟨_,_,ae (.cons (.eq rfl) .nil) (.cons (.cells ?_) (.cons (.eq (congrArg (fun l=>af.buf true 2 l none) jf)) (.cons .av (.cons .av (.cons .av .nil))))) rfl rfl rfl,h1 p i1 {x with p:= {x.p with au:=x.p.au++[⟨n,v⟩]},s1:=sp,err:=7,at_:=p} d_ rfl rfl⟩
         repeat' first
          | exact aq.nil
          | refine aq.cons (VW.eq rfl) ?_
          | refine aq.cons (VW.eq (ee (by simp) (by simp))) ?_
   · have d_:y= .err p 7:=by rw [j9,e] at hy;exact (Option.some.inj hy).symm
     conv=>whnf
     (repeat' first | (refine aa [] ?_;conv=>whnf) | (refine two ?_ ?_<;>intro g<;>(try simp only[an]at g)<;>(conv=>whnf)) | (refine And.intro rfl ?_;conv=>whnf) | (refine ak (by decide+kernel) ?_;conv=>whnf) | fail)
     refine jc k i {x with err:=7,at_:=p} (fun h=>absurd (show (7:Int)=0 from h) (by decide)) hl _ (fun h=>absurd (show (7:Int)=0 from h) (by decide)) (fun h=>absurd (show (7:Int)=0 from h) (by decide)) (fun _ v=> ?_)
     conv=>whnf
     (repeat' first | (refine aa [] ?_;conv=>whnf) | (refine two ?_ ?_<;>intro g<;>(try simp only[an]at g)<;>(conv=>whnf)) | (refine And.intro rfl ?_;conv=>whnf) | (refine ak (by decide+kernel) ?_;conv=>whnf) | fail)
     refine ⟨by simp;omega,by simp [V.cells],?_⟩
     conv=>whnf
     (repeat' first | (refine aa [] ?_;conv=>whnf) | (refine two ?_ ?_<;>intro g<;>(try simp only[an]at g)<;>(conv=>whnf)) | (refine And.intro rfl ?_;conv=>whnf) | (refine ak (by decide+kernel) ?_;conv=>whnf) | fail)
     · have wO:1<=x.s1.length:=by have:=Nat.le_of_ble_eq_true g;simp at this;omega
       refine ⟨by simp [rL,tL,iL],?_⟩
       conv=>whnf
       (repeat' first | (refine aa [] ?_;conv=>whnf) | (refine two ?_ ?_<;>intro g<;>(try simp only[an]at g)<;>(conv=>whnf)) | (refine And.intro rfl ?_;conv=>whnf) | (refine ak (by decide+kernel) ?_;conv=>whnf) | fail)
       have jf:=gr m_ x.p.au ⟨n,v⟩ x.s1
       refine ⟨_,_,ae (.cons (.eq rfl) .nil) (.cons (.cells ?_) (.cons (j6 jf) (.cons .av (.cons .av (.cons .av .nil))))) rfl rfl rfl,h1 p i {x with p:= {x.p with au:=x.p.au++[⟨n,v⟩]},s1:=(x.s1.drop 1),err:=7,at_:=p} d_ rfl rfl⟩
       repeat' first
        | exact aq.nil
        | refine aq.cons (VW.eq rfl) ?_
        | refine aq.cons (VW.eq (ee (by simp) (by simp;omega))) ?_
     · refine ⟨by simp [rL,tL,iL],fun sp sT=> ?_⟩
       conv=>whnf
       (repeat' first | (refine aa [] ?_;conv=>whnf) | (refine two ?_ ?_<;>intro g<;>(try simp only[an]at g)<;>(conv=>whnf)) | (refine And.intro rfl ?_;conv=>whnf) | (refine ak (by decide+kernel) ?_;conv=>whnf) | fail)
       have jf:=gu m_ x.p.au ⟨n,v⟩ x.s1 sp
       refine gF [0,5,2,3,4] ?_
       conv=>whnf
       refine ⟨_,_,ae (.cons (.eq rfl) .nil) (.cons (.cells ?_) (.cons (.eq (congrArg (fun l=>af.buf true 2 l none) jf)) (.cons .av (.cons .av (.cons .av .nil))))) rfl rfl rfl,h1 p i {x with p:= {x.p with au:=x.p.au++[⟨n,v⟩]},s1:=sp,err:=7,at_:=p} d_ rfl rfl⟩
       repeat' first
        | exact aq.nil
        | refine aq.cons (VW.eq rfl) ?_
        | refine aq.cons (VW.eq (ee (by simp) (by simp))) ?_
 · have gw:w=dM:=by assumption
   subst gw
   refine lN k i x (fun _=>hk) hl hq _ (fun _ n r i1 e hd he=> ?_) (fun _ p n e=> ?_) (fun h=>absurd hx h)
   · conv=>whnf
     (repeat' first | (refine aa [] ?_;conv=>whnf) | (refine two ?_ ?_<;>intro g<;>(try simp only[an]at g)<;>(conv=>whnf)) | (refine And.intro rfl ?_;conv=>whnf) | (refine ak (by decide+kernel) ?_;conv=>whnf) | fail)
     refine lC k i1 x (fun _=>by rw [hd];exact he) hl _ (fun _ v r' i2 e2 fP l7=> ?_) (fun _ p v e2=> ?_) (fun h=>absurd hx h)
     · rw [hd] at e2
       have d_:y= .ok {x.p with late:=x.p.late++[⟨n,v⟩]} r':=by
        rw [mF,e] at hy
        have hy:some ((aL bT r).bind fun v r=>iR.ok {x.p with late:=x.p.late++[⟨n,v⟩]} r)=some y:=hy
        rw [e2] at hy;exact (Option.some.inj hy).symm
       conv=>whnf
       (repeat' first | (refine aa [] ?_;conv=>whnf) | (refine two ?_ ?_<;>intro g<;>(try simp only[an]at g)<;>(conv=>whnf)) | (refine And.intro rfl ?_;conv=>whnf) | (refine ak (by decide+kernel) ?_;conv=>whnf) | fail)
       refine ⟨by simp;omega,by simp [V.cells],?_⟩
       conv=>whnf
       (repeat' first | (refine aa [] ?_;conv=>whnf) | (refine two ?_ ?_<;>intro g<;>(try simp only[an]at g)<;>(conv=>whnf)) | (refine And.intro rfl ?_;conv=>whnf) | (refine ak (by decide+kernel) ?_;conv=>whnf) | fail)
       · have wO:1<=x.s2.length:=by have:=Nat.le_of_ble_eq_true g;simp at this;omega
         refine ⟨by simp [rL,tL,iL],?_⟩
         conv=>whnf
         (repeat' first | (refine aa [] ?_;conv=>whnf) | (refine two ?_ ?_<;>intro g<;>(try simp only[an]at g)<;>(conv=>whnf)) | (refine And.intro rfl ?_;conv=>whnf) | (refine ak (by decide+kernel) ?_;conv=>whnf) | fail)
         have jf:=gr na x.p.late ⟨n,v⟩ x.s2
         refine ⟨_,_,ae (.cons (.eq rfl) .nil) (.cons (.cells ?_) (.cons .av (.cons (j6 jf) (.cons .av (.cons .av .nil))))) rfl rfl rfl,h0 _ r' i2 {x with p:= {x.p with late:=x.p.late++[⟨n,v⟩]},s2:=(x.s2.drop 1)} d_ fP l7 rfl rfl hx⟩
         repeat' first
          | exact aq.nil
          | refine aq.cons (VW.eq rfl) ?_
          | refine aq.cons (VW.eq (ee (by simp) (by simp;omega))) ?_
       · refine ⟨by simp [rL,tL,iL],fun sp sT=> ?_⟩
         conv=>whnf
         (repeat' first | (refine aa [] ?_;conv=>whnf) | (refine two ?_ ?_<;>intro g<;>(try simp only[an]at g)<;>(conv=>whnf)) | (refine And.intro rfl ?_;conv=>whnf) | (refine ak (by decide+kernel) ?_;conv=>whnf) | fail)
         have jf:=gu na x.p.late ⟨n,v⟩ x.s2 sp
         refine gF [0,1,5,3,4] ?_
         conv=>whnf
         refine ⟨_,_,ae (.cons (.eq rfl) .nil) (.cons (.cells ?_) (.cons .av (.cons (.eq (congrArg (fun l=>af.buf true 2 l none) jf)) (.cons .av (.cons .av .nil))))) rfl rfl rfl,h0 _ r' i2 {x with p:= {x.p with late:=x.p.late++[⟨n,v⟩]},s2:=sp} d_ fP l7 rfl rfl hx⟩
         repeat' first
          | exact aq.nil
          | refine aq.cons (VW.eq rfl) ?_
          | refine aq.cons (VW.eq (ee (by simp) (by simp))) ?_
     · rw [hd] at e2
       have d_:y= .err p 7:=by
        rw [mF,e] at hy
        have hy:some ((aL bT r).bind fun v r=>iR.ok {x.p with late:=x.p.late++[⟨n,v⟩]} r)=some y:=hy
        rw [e2] at hy;exact (Option.some.inj hy).symm
       conv=>whnf
       (repeat' first | (refine aa [] ?_;conv=>whnf) | (refine two ?_ ?_<;>intro g<;>(try simp only[an]at g)<;>(conv=>whnf)) | (refine And.intro rfl ?_;conv=>whnf) | (refine ak (by decide+kernel) ?_;conv=>whnf) | fail)
       refine ⟨by simp;omega,by simp [V.cells],?_⟩
       conv=>whnf
       (repeat' first | (refine aa [] ?_;conv=>whnf) | (refine two ?_ ?_<;>intro g<;>(try simp only[an]at g)<;>(conv=>whnf)) | (refine And.intro rfl ?_;conv=>whnf) | (refine ak (by decide+kernel) ?_;conv=>whnf) | fail)
       · have wO:1<=x.s2.length:=by have:=Nat.le_of_ble_eq_true g;simp at this;omega
         refine ⟨by simp [rL,tL,iL],?_⟩
         conv=>whnf
         (repeat' first | (refine aa [] ?_;conv=>whnf) | (refine two ?_ ?_<;>intro g<;>(try simp only[an]at g)<;>(conv=>whnf)) | (refine And.intro rfl ?_;conv=>whnf) | (refine ak (by decide+kernel) ?_;conv=>whnf) | fail)
         have jf:=gr na x.p.late ⟨n,v⟩ x.s2
         refine ⟨_,_,ae (.cons (.eq rfl) .nil) (.cons (.cells ?_) (.cons .av (.cons (j6 jf) (.cons .av (.cons .av .nil))))) rfl rfl rfl,h1 p i1 {x with p:= {x.p with late:=x.p.late++[⟨n,v⟩]},s2:=(x.s2.drop 1),err:=7,at_:=p} d_ rfl rfl⟩
         repeat' first
          | exact aq.nil
          | refine aq.cons (VW.eq rfl) ?_
          | refine aq.cons (VW.eq (ee (by simp) (by simp;omega))) ?_
       · refine ⟨by simp [rL,tL,iL],fun sp sT=> ?_⟩
         conv=>whnf
         (repeat' first | (refine aa [] ?_;conv=>whnf) | (refine two ?_ ?_<;>intro g<;>(try simp only[an]at g)<;>(conv=>whnf)) | (refine And.intro rfl ?_;conv=>whnf) | (refine ak (by decide+kernel) ?_;conv=>whnf) | fail)
         have jf:=gu na x.p.late ⟨n,v⟩ x.s2 sp
         refine gF [0,1,5,3,4] ?_
         conv=>whnf
         refine ⟨_,_,ae (.cons (.eq rfl) .nil) (.cons (.cells ?_) (.cons .av (.cons (.eq (congrArg (fun l=>af.buf true 2 l none) jf)) (.cons .av (.cons .av .nil))))) rfl rfl rfl,h1 p i1 {x with p:= {x.p with late:=x.p.late++[⟨n,v⟩]},s2:=sp,err:=7,at_:=p} d_ rfl rfl⟩
         repeat' first
          | exact aq.nil
          | refine aq.cons (VW.eq rfl) ?_
          | refine aq.cons (VW.eq (ee (by simp) (by simp))) ?_
   · have d_:y= .err p 7:=by rw [mF,e] at hy;exact (Option.some.inj hy).symm
     conv=>whnf
     (repeat' first | (refine aa [] ?_;conv=>whnf) | (refine two ?_ ?_<;>intro g<;>(try simp only[an]at g)<;>(conv=>whnf)) | (refine And.intro rfl ?_;conv=>whnf) | (refine ak (by decide+kernel) ?_;conv=>whnf) | fail)
     refine lC k i {x with err:=7,at_:=p} (fun h=>absurd (show (7:Int)=0 from h) (by decide)) hl _ (fun h=>absurd (show (7:Int)=0 from h) (by decide)) (fun h=>absurd (show (7:Int)=0 from h) (by decide)) (fun _ v=> ?_)
     conv=>whnf
     (repeat' first | (refine aa [] ?_;conv=>whnf) | (refine two ?_ ?_<;>intro g<;>(try simp only[an]at g)<;>(conv=>whnf)) | (refine And.intro rfl ?_;conv=>whnf) | (refine ak (by decide+kernel) ?_;conv=>whnf) | fail)
     refine ⟨by simp;omega,by simp [V.cells],?_⟩
     conv=>whnf
     (repeat' first | (refine aa [] ?_;conv=>whnf) | (refine two ?_ ?_<;>intro g<;>(try simp only[an]at g)<;>(conv=>whnf)) | (refine And.intro rfl ?_;conv=>whnf) | (refine ak (by decide+kernel) ?_;conv=>whnf) | fail)
     · have wO:1<=x.s2.length:=by have:=Nat.le_of_ble_eq_true g;simp at this;omega
       refine ⟨by simp [rL,tL,iL],?_⟩
       conv=>whnf
       (repeat' first | (refine aa [] ?_;conv=>whnf) | (refine two ?_ ?_<;>intro g<;>(try simp only[an]at g)<;>(conv=>whnf)) | (refine And.intro rfl ?_;conv=>whnf) | (refine ak (by decide+kernel) ?_;conv=>whnf) | fail)
       have jf:=gr na x.p.late ⟨n,v⟩ x.s2
       refine ⟨_,_,ae (.cons (.eq rfl) .nil) (.cons (.cells ?_) (.cons .av (.cons (j6 jf) (.cons .av (.cons .av .nil))))) rfl rfl rfl,h1 p i {x with p:= {x.p with late:=x.p.late++[⟨n,v⟩]},s2:=(x.s2.drop 1),err:=7,at_:=p} d_ rfl rfl⟩
       repeat' first
        | exact aq.nil
        | refine aq.cons (VW.eq rfl) ?_
        | refine aq.cons (VW.eq (ee (by simp) (by simp;omega))) ?_
     · refine ⟨by simp [rL,tL,iL],fun sp sT=> ?_⟩
       conv=>whnf
       (repeat' first | (refine aa [] ?_;conv=>whnf) | (refine two ?_ ?_<;>intro g<;>(try simp only[an]at g)<;>(conv=>whnf)) | (refine And.intro rfl ?_;conv=>whnf) | (refine ak (by decide+kernel) ?_;conv=>whnf) | fail)
       have jf:=gu na x.p.late ⟨n,v⟩ x.s2 sp
       refine gF [0,1,5,3,4] ?_
       conv=>whnf
       refine ⟨_,_,ae (.cons (.eq rfl) .nil) (.cons (.cells ?_) (.cons .av (.cons (.eq (congrArg (fun l=>af.buf true 2 l none) jf)) (.cons .av (.cons .av .nil))))) rfl rfl rfl,h1 p i {x with p:= {x.p with late:=x.p.late++[⟨n,v⟩]},s2:=sp,err:=7,at_:=p} d_ rfl rfl⟩
       repeat' first
        | exact aq.nil
        | refine aq.cons (VW.eq rfl) ?_
        | refine aq.cons (VW.eq (ee (by simp) (by simp))) ?_
 · have gw:w=j4:=by assumption
   subst gw
   refine lC k i x (fun _=>hk) hl _ (fun _ n r i' e hd he=> ?_) (fun _ p n e=> ?_) (fun h=>absurd hx h)
   · have d_:y= .ok {x.p with cap:=n} r:=by rw [vM,e] at hy;exact (Option.some.inj hy).symm
     have wn:True:=trivial
     conv=>whnf
     (repeat' first | (refine aa [] ?_;conv=>whnf) | (refine two ?_ ?_<;>intro g<;>(try simp only[an]at g)<;>(conv=>whnf)) | (refine And.intro rfl ?_;conv=>whnf) | (refine ak (by decide+kernel) ?_;conv=>whnf) | fail)
     refine ⟨_,_,ae (.cons (.eq rfl) .nil) (.cons (.cells ?_) (.cons .av (.cons .av (.cons .av (.cons .av .nil))))) rfl rfl rfl,h0 _ r i' {x with p:= {x.p with cap:=n}} d_ hd he rfl rfl hx⟩
     repeat' first
      | exact aq.nil
      | refine aq.cons (VW.eq rfl) ?_
      | refine aq.cons (VW.eq (congrArg (V.int .i64) wn)) ?_
   · have d_:y= .err p 7:=by rw [vM,e] at hy;exact (Option.some.inj hy).symm
     have wn:True:=trivial
     conv=>whnf
     (repeat' first | (refine aa [] ?_;conv=>whnf) | (refine two ?_ ?_<;>intro g<;>(try simp only[an]at g)<;>(conv=>whnf)) | (refine And.intro rfl ?_;conv=>whnf) | (refine ak (by decide+kernel) ?_;conv=>whnf) | fail)
     refine ⟨_,_,ae (.cons (.eq rfl) .nil) (.cons (.cells ?_) (.cons .av (.cons .av (.cons .av (.cons .av .nil))))) rfl rfl rfl,h1 p i {x with p:= {x.p with cap:=n},err:=7,at_:=p} d_ rfl rfl⟩
     repeat' first
      | exact aq.nil
      | refine aq.cons (VW.eq rfl) ?_
      | refine aq.cons (VW.eq (congrArg (V.int .i64) wn)) ?_
 · have gw:w=bE:=by assumption
   subst gw
   refine yG k i x (fun _=>hk) hl _ (fun _ v r' i' e hd he=> ?_) (fun _ p v e=> ?_) (fun h=>absurd hx h)
   · have d_:y= .ok {x.p with cT:=x.p.cT++[v]} r':=by rw [j_,e] at hy;exact (Option.some.inj hy).symm
     conv=>whnf
     (repeat' first | (refine aa [] ?_;conv=>whnf) | (refine two ?_ ?_<;>intro g<;>(try simp only[an]at g)<;>(conv=>whnf)) | (refine And.intro rfl ?_;conv=>whnf) | (refine ak (by decide+kernel) ?_;conv=>whnf) | fail)
     refine ⟨by simp;omega,by simp [V.cells],?_⟩
     conv=>whnf
     (repeat' first | (refine aa [] ?_;conv=>whnf) | (refine two ?_ ?_<;>intro g<;>(try simp only[an]at g)<;>(conv=>whnf)) | (refine And.intro rfl ?_;conv=>whnf) | (refine ak (by decide+kernel) ?_;conv=>whnf) | fail)
     · have wO:1<=x.s3.length:=by have:=Nat.le_of_ble_eq_true g;simp at this;omega
       refine ⟨by simp [rL,tL,iL],?_⟩
       conv=>whnf
       (repeat' first | (refine aa [] ?_;conv=>whnf) | (refine two ?_ ?_<;>intro g<;>(try simp only[an]at g)<;>(conv=>whnf)) | (refine And.intro rfl ?_;conv=>whnf) | (refine ak (by decide+kernel) ?_;conv=>whnf) | fail)
       have jf:=gr (V.int .i64) x.p.cT v x.s3
       refine ⟨_,_,ae (.cons (.eq rfl) .nil) (.cons (.cells ?_) (.cons .av (.cons .av (.cons (j6 jf) (.cons .av .nil))))) rfl rfl rfl,h0 _ r' i' {x with p:= {x.p with cT:=x.p.cT++[v]},s3:=(x.s3.drop 1)} d_ hd he rfl rfl hx⟩
       repeat' first
        | exact aq.nil
        | refine aq.cons (VW.eq rfl) ?_
        | refine aq.cons (VW.eq (ee (by simp) (by simp;omega))) ?_
     · refine ⟨by simp [rL,tL,iL],fun sp sT=> ?_⟩
       conv=>whnf
       (repeat' first | (refine aa [] ?_;conv=>whnf) | (refine two ?_ ?_<;>intro g<;>(try simp only[an]at g)<;>(conv=>whnf)) | (refine And.intro rfl ?_;conv=>whnf) | (refine ak (by decide+kernel) ?_;conv=>whnf) | fail)
       have jf:=gu (V.int .i64) x.p.cT v x.s3 sp
       refine gF [0,1,2,5,4] ?_
       conv=>whnf
       refine ⟨_,_,ae (.cons (.eq rfl) .nil) (.cons (.cells ?_) (.cons .av (.cons .av (.cons (.eq (congrArg (fun l=>af.buf true 1 l none) jf)) (.cons .av .nil))))) rfl rfl rfl,h0 _ r' i' {x with p:= {x.p with cT:=x.p.cT++[v]},s3:=sp} d_ hd he rfl rfl hx⟩
       repeat' first
        | exact aq.nil
        | refine aq.cons (VW.eq rfl) ?_
        | refine aq.cons (VW.eq (ee (by simp) (by simp))) ?_
   · have d_:y= .err p 7:=by rw [j_,e] at hy;exact (Option.some.inj hy).symm
     conv=>whnf
     (repeat' first | (refine aa [] ?_;conv=>whnf) | (refine two ?_ ?_<;>intro g<;>(try simp only[an]at g)<;>(conv=>whnf)) | (refine And.intro rfl ?_;conv=>whnf) | (refine ak (by decide+kernel) ?_;conv=>whnf) | fail)
     refine ⟨by simp;omega,by simp [V.cells],?_⟩
     conv=>whnf
     (repeat' first | (refine aa [] ?_;conv=>whnf) | (refine two ?_ ?_<;>intro g<;>(try simp only[an]at g)<;>(conv=>whnf)) | (refine And.intro rfl ?_;conv=>whnf) | (refine ak (by decide+kernel) ?_;conv=>whnf) | fail)
     · have wO:1<=x.s3.length:=by have:=Nat.le_of_ble_eq_true g;simp at this;omega
       refine ⟨by simp [rL,tL,iL],?_⟩
       conv=>whnf
       (repeat' first | (refine aa [] ?_;conv=>whnf) | (refine two ?_ ?_<;>intro g<;>(try simp only[an]at g)<;>(conv=>whnf)) | (refine And.intro rfl ?_;conv=>whnf) | (refine ak (by decide+kernel) ?_;conv=>whnf) | fail)
       have jf:=gr (V.int .i64) x.p.cT v x.s3
       refine ⟨_,_,ae (.cons (.eq rfl) .nil) (.cons (.cells ?_) (.cons .av (.cons .av (.cons (j6 jf) (.cons .av .nil))))) rfl rfl rfl,h1 p i {x with p:= {x.p with cT:=x.p.cT++[v]},s3:=(x.s3.drop 1),err:=7,at_:=p} d_ rfl rfl⟩
       repeat' first
        | exact aq.nil
        | refine aq.cons (VW.eq rfl) ?_
        | refine aq.cons (VW.eq (ee (by simp) (by simp;omega))) ?_
     · refine ⟨by simp [rL,tL,iL],fun sp sT=> ?_⟩
       conv=>whnf
       (repeat' first | (refine aa [] ?_;conv=>whnf) | (refine two ?_ ?_<;>intro g<;>(try simp only[an]at g)<;>(conv=>whnf)) | (refine And.intro rfl ?_;conv=>whnf) | (refine ak (by decide+kernel) ?_;conv=>whnf) | fail)
       have jf:=gu (V.int .i64) x.p.cT v x.s3 sp
       refine gF [0,1,2,5,4] ?_
       conv=>whnf
       refine ⟨_,_,ae (.cons (.eq rfl) .nil) (.cons (.cells ?_) (.cons .av (.cons .av (.cons (.eq (congrArg (fun l=>af.buf true 1 l none) jf)) (.cons .av .nil))))) rfl rfl rfl,h1 p i {x with p:= {x.p with cT:=x.p.cT++[v]},s3:=sp,err:=7,at_:=p} d_ rfl rfl⟩
       repeat' first
        | exact aq.nil
        | refine aq.cons (VW.eq rfl) ?_
        | refine aq.cons (VW.eq (ee (by simp) (by simp))) ?_
 · have gw:w=cG:=by assumption
   subst gw
   refine Iu k i x hk hl hx _ (fun o r i' e hd he=> ?_) (fun p i' a e=> ?_)
   · have hlen:=pI _ _ _ _ _ e
     have d_:y= .ok (yN x.p o) r:=by
      rw [nT,e] at hy
      rw [(Option.some.inj hy).symm]
      rcases o with _ | ⟨a1,_ | ⟨a2,_ | ⟨a3,_ | ⟨a4,o⟩⟩⟩⟩
      all_goals first | (exfalso;revert hlen;simp;done) | rfl
     have wn:True:=trivial
     conv=>whnf
     (repeat' first | (refine aa [] ?_;conv=>whnf) | (refine two ?_ ?_<;>intro g<;>(try simp only[an]at g)<;>(conv=>whnf)) | (refine And.intro rfl ?_;conv=>whnf) | (refine ak (by decide+kernel) ?_;conv=>whnf) | fail)
     refine ⟨_,_,ae (.cons (.eq rfl) .nil) (.cons (.cells ?_) (.cons .av (.cons .av (.cons .av (.cons .av .nil))))) rfl rfl rfl,h0 _ r i' {x with p:=yN x.p o} d_ hd he rfl rfl hx⟩
     repeat' first
      | exact aq.nil
      | refine aq.cons (VW.eq rfl) ?_
      | refine aq.cons (VW.eq (congrArg (V.int .i64) wn)) ?_
   · have d_:y= .err p 7:=by rw [nT,e] at hy;exact (Option.some.inj hy).symm
     have wn:True:=trivial
     conv=>whnf
     (repeat' first | (refine aa [] ?_;conv=>whnf) | (refine two ?_ ?_<;>intro g<;>(try simp only[an]at g)<;>(conv=>whnf)) | (refine And.intro rfl ?_;conv=>whnf) | (refine ak (by decide+kernel) ?_;conv=>whnf) | fail)
     refine ⟨_,_,ae (.cons (.eq rfl) .nil) (.cons (.cells ?_) (.cons .av (.cons .av (.cons .av (.cons .av .nil))))) rfl rfl rfl,h1 p i' {x with p:=yN x.p a,err:=7,at_:=p} d_ rfl rfl⟩
     repeat' first
      | exact aq.nil
      | refine aq.cons (VW.eq rfl) ?_
      | refine aq.cons (VW.eq (congrArg (V.int .i64) wn)) ?_
 · have gw:w=fS:=by assumption
   subst gw
   refine ah.args (cI:=[.ptr 0 0,.sl (sL [mB,gC,gD]) .no]) (.cons (.eq rfl) (.cons .no .nil)) rfl (oE k i x (fun _=>hk) hl [mB,gC,gD] (by unfold eX;decide) (by decide) _ (fun _ n r i' e hd he=> ?_) (fun _ p e=> ?_) (fun h=>absurd hx h))
   · have d_:y= .ok {x.p with over:=n} r:=by rw [qH,e] at hy;exact (Option.some.inj hy).symm
     have hr:=eE e
     simp at hr
     have wn:IntKind.i64.wrap (1+(n - 1))=n:=by rw [wrap64 (by omega) (by omega)];omega
     conv=>whnf
     (repeat' first | (refine aa [] ?_;conv=>whnf) | (refine two ?_ ?_<;>intro g<;>(try simp only[an]at g)<;>(conv=>whnf)) | (refine And.intro rfl ?_;conv=>whnf) | (refine ak (by decide+kernel) ?_;conv=>whnf) | fail)
     refine ⟨_,_,ae (.cons (.eq rfl) .nil) (.cons (.cells ?_) (.cons .av (.cons .av (.cons .av (.cons .av .nil))))) rfl rfl rfl,h0 _ r i' {x with p:= {x.p with over:=n}} d_ hd he rfl rfl hx⟩
     repeat' first
      | exact aq.nil
      | refine aq.cons (VW.eq rfl) ?_
      | refine aq.cons (VW.eq (congrArg (V.int .i64) wn)) ?_
   · have d_:y= .err p 7:=by rw [qH,e] at hy;exact (Option.some.inj hy).symm
     have wn:IntKind.i64.wrap (1+0)=1:=by decide
     conv=>whnf
     (repeat' first | (refine aa [] ?_;conv=>whnf) | (refine two ?_ ?_<;>intro g<;>(try simp only[an]at g)<;>(conv=>whnf)) | (refine And.intro rfl ?_;conv=>whnf) | (refine ak (by decide+kernel) ?_;conv=>whnf) | fail)
     refine ⟨_,_,ae (.cons (.eq rfl) .nil) (.cons (.cells ?_) (.cons .av (.cons .av (.cons .av (.cons .av .nil))))) rfl rfl rfl,h1 p i {x with p:= {x.p with over:=1},err:=7,at_:=p} d_ rfl rfl⟩
     repeat' first
      | exact aq.nil
      | refine aq.cons (VW.eq rfl) ?_
      | refine aq.cons (VW.eq (congrArg (V.int .i64) wn)) ?_
 · have gw:w=fT:=by assumption
   subst gw
   refine ah.args (cI:=[.ptr 0 0,.sl (sL [mC,mD,gE,eD]) .no]) (.cons (.eq rfl) (.cons .no .nil)) rfl (oE k i x (fun _=>hk) hl [mC,mD,gE,eD] (by unfold eX;decide) (by decide) _ (fun _ n r i' e hd he=> ?_) (fun _ p e=> ?_) (fun h=>absurd hx h))
   · have d_:y= .ok {x.p with roll:=n} r:=by rw [qI,e] at hy;exact (Option.some.inj hy).symm
     have hr:=eE e
     simp at hr
     have wn:IntKind.i64.wrap (1+(n - 1))=n:=by rw [wrap64 (by omega) (by omega)];omega
     conv=>whnf
     (repeat' first | (refine aa [] ?_;conv=>whnf) | (refine two ?_ ?_<;>intro g<;>(try simp only[an]at g)<;>(conv=>whnf)) | (refine And.intro rfl ?_;conv=>whnf) | (refine ak (by decide+kernel) ?_;conv=>whnf) | fail)
     refine ⟨_,_,ae (.cons (.eq rfl) .nil) (.cons (.cells ?_) (.cons .av (.cons .av (.cons .av (.cons .av .nil))))) rfl rfl rfl,h0 _ r i' {x with p:= {x.p with roll:=n}} d_ hd he rfl rfl hx⟩
     repeat' first
      | exact aq.nil
      | refine aq.cons (VW.eq rfl) ?_
      | refine aq.cons (VW.eq (congrArg (V.int .i64) wn)) ?_
   · have d_:y= .err p 7:=by rw [qI,e] at hy;exact (Option.some.inj hy).symm
     have wn:IntKind.i64.wrap (1+0)=1:=by decide
     conv=>whnf
     (repeat' first | (refine aa [] ?_;conv=>whnf) | (refine two ?_ ?_<;>intro g<;>(try simp only[an]at g)<;>(conv=>whnf)) | (refine And.intro rfl ?_;conv=>whnf) | (refine ak (by decide+kernel) ?_;conv=>whnf) | fail)
     refine ⟨_,_,ae (.cons (.eq rfl) .nil) (.cons (.cells ?_) (.cons .av (.cons .av (.cons .av (.cons .av .nil))))) rfl rfl rfl,h1 p i {x with p:= {x.p with roll:=1},err:=7,at_:=p} d_ rfl rfl⟩
     repeat' first
      | exact aq.nil
      | refine aq.cons (VW.eq rfl) ?_
      | refine aq.cons (VW.eq (congrArg (V.int .i64) wn)) ?_
 · exfalso
   have hn:aZ w x.p (k.drop i)=none:=by
    unfold aZ
    simp only [*,if_false]
   rw [hn] at hy;cases hy
end Sv
namespace TC
open Go Go.Proofs VL D1 eG kb kj wg LQ MW C8 jt c5 dj C1 C2 C3 C4 C6 oO pQ Kz oY CR FA vL kn yU Gc ND Od PO QA Sv
def nU:List (List Int):=[cK,cL,dK,cM,cN,eC,dL,cq,cO,dM,j4,bE,cG,fS,fT]
theorem FP (K:Out->List af->Prop) (h:K (.ret (.sl (sL nU) .no)) []):ah Tryz.prog 55 [] [] K:=by
 refine ah.dv (ag [] 0 Tryz.func55 (by rfl) (by rfl) ?_)
 conv=>whnf
 (repeat' first | (refine aa [] ?_;conv=>whnf) | (refine two ?_ ?_<;>intro g<;>(try simp only[an]at g)<;>(conv=>whnf)) | (refine And.intro rfl ?_;conv=>whnf) | fail)
 exact ⟨_,_,ae (.cons .no .nil) .nil rfl rfl rfl,h⟩
theorem pK {w:List Int} {p:Prod} {l:List C3.Tok}:w∈nU↔ ∃y,aZ w p l=some y:=by
 constructor
 · intro h
   simp only [nU,List.mem_cons,List.not_mem_nil,or_false] at h
   rcases h with rfl | rfl | rfl | rfl | rfl | rfl | rfl | rfl | rfl | rfl | rfl | rfl | rfl | rfl | rfl
   all_goals exact ⟨_,rfl⟩
 · rintro ⟨y,hy⟩
   refine Decidable.byContradiction fun h=> ?_
   simp only [nU,List.mem_cons,List.not_mem_nil,or_false,not_or] at h
   obtain ⟨n1,n2,n3,n4,n5,n6,n7,n8,n9,Sb,Sc,Sd,Se,Sf,Sg⟩:=h
   unfold aZ at hy
   simp only [n1,n2,n3,n4,n5,n6,n7,n8,n9,Sb,Sc,Sd,Se,Sf,Sg,if_false] at hy
   cases hy
theorem A5 {w:List Int}:j5 w=true↔w=cO\/w=dM\/w=bE:=by
 unfold j5
 simp [or_assoc]
noncomputable def gS (f d:Nat) (l:List C3.Tok) (p:Prod) (sn:List (List Int)):iR (Prod × List (List Int)):=
 if (aC l).1.kind=3/\(aC l).1.text=[123]/\32<d then .err (aC l).1.at_ 8 else (aF 3 [123] l).bind fun _ l=>aN f d l p sn
def HR (h sn:List (List Int)):Prop:=(∀w,w∈h↔w∈sn)/\ ∀w∈h,zi w
def PR (x:RS) (l:List C3.Tok):Prop:=x.p.au.length+x.p.late.length+x.p.cT.length+l.length<1000000/\x.h.length+l.length<1000000
theorem Ef {h sn:List (List Int)} {w:List Int} (hr:HR h sn) (hw:zi w):HR (h++[w]) (w::sn):=by
 refine ⟨fun u=> ?_,fun u hu=> ?_⟩
 · rw [List.mem_append,List.mem_singleton,List.mem_cons,hr.1,or_comm]
 · rcases List.mem_append.1 hu with hu | hu
   · exact hr.2 u hu
   · rw [List.mem_singleton] at hu;subst hu;exact hw
theorem A6 {l:List (List Int)} {s:List V}:List.take l.length (List.drop 0 (sL l++s))=sL l:=by rw [List.drop_zero,show l.length=(sL l).length by simp [sL],List.take_left]
theorem Iv {P:Program} {m:Nat} {code:Code} {s:St} {K:Ex->St->Prop} (src:List Nat) (h:St.qm m src s fun s'=>eU P m code s' K):eU P m code s K:=by
 obtain ⟨s',hw,h⟩:=fH h
 exact h.dv hw
set_option maxHeartbeats 16000000 in
theorem qO: ∀(f:Nat) (d:Nat) (hd:d<=33) (k:List C3.Tok) (i:Nat) (hl:oD k) (hq: ∀t∈k,t.kind≠0->t.text≠[]) (x:RS) (sn:List (List Int)) (hk:x.err=0->bb (k.drop i)/\(k.drop i).length<=f/\HR x.h sn/\PR x (k.drop i)) (K:Out->List af->Prop)
 (h0:x.err=0-> ∀q r i' x',gS f d (k.drop i) x.p sn= .ok q r->k.drop i'=r->bb r->x'.p=q.1->HR x'.h q.2->x'.err=0->PR x' r->K (.ret (.aQ [])) (rO true true true true k i' x'))
 (h1:x.err=0-> ∀(p:Nat) i' x',gS f d (k.drop i) x.p sn= .err p x'.err->x'.at_=(p:Int)->x'.err≠0->K (.ret (.aQ [])) (rO true true true true k i' x'))
 (h2:x.err≠0->K (.ret (.aQ [])) (rO true true true true k i x)),
 ah Tryz.prog 26 [.ptr 0 0,.int .i64 d] (rO false false false false k i x) K:=by
 intro f
 induction f using Nat.strongRecOn with
 | ind f Si=>
 intro d hd k i hl hq x sn hk K h0 h1 h2
 have L0:=fun i x hk=> @Ip k i x hk hl
 have KV:=fun i x hk=> @Ee k i x hk hl
 let S:Nat × Nat × RS × List (List Int)->St:=fun q=>⟨(.ptr 0 0:: .int .i64 d:: .undef:: .undef:: .undef:: .undef:: .undef:: .undef:: .undef:: .undef:: .undef:: .undef:: .undef:: .undef:: .undef:: .undef:: .undef:: .undef:: .undef:: .undef:: .undef:: .undef:: .undef:: .undef:: .undef:: .undef:: .undef:: .undef:: .undef:: .undef:: .undef:: .undef:: .undef:: .undef:: .undef:: .undef:: .undef:: .undef:: .undef:: .undef:: .undef:: .undef:: .undef:: .undef:: .undef:: .undef:: .undef:: .undef:: .undef:: .undef:: .undef:: .undef:: .undef:: .undef:: .undef:: .undef:: .undef:: .undef:: .undef:: .undef:: .undef:: .undef:: .undef:: .undef:: .undef:: .undef:: .undef:: .undef:: .undef:: .undef:: .undef:: .undef:: .undef:: .undef:: .undef:: .undef:: .undef:: .undef:: .undef:: .undef:: .undef:: .undef:: .undef:: .undef:: .undef:: .undef:: .undef:: .undef:: .undef:: .undef:: .undef:: .undef:: .undef:: .undef:: .undef:: .undef:: .undef:: .undef:: .undef:: .undef:: .undef:: .undef:: .undef:: .undef:: .undef:: .undef::[]),rO true true true true k q.2.1 q.2.2.1,0,[]⟩
 let Inv:Nat × Nat × RS × List (List Int)->Prop:=fun q=>
  (q.2.2.1.err=0->x.err=0/\bb (k.drop q.2.1)/\(k.drop q.2.1).length<q.1/\q.1<=f/\d<=32/\HR q.2.2.1.h q.2.2.2/\PR q.2.2.1 (k.drop q.2.1)/\gS f d (k.drop i) x.p sn=aN q.1 d (k.drop q.2.1) q.2.2.1.p q.2.2.2)/\
  (q.2.2.1.err≠0->(x.err=0-> ∃p:Nat,gS f d (k.drop i) x.p sn= .err p q.2.2.1.err/\q.2.2.1.at_=(p:Int))/\(x.err≠0->q.2.2.1=x/\q.2.1=i))
 have key: ∀(c:Code) (K':Ex->St->Prop) (G:Prop),((∀q,Inv q->aA Tryz.prog 5 c (S q) K')->G)->(∀q,Inv q->aA Tryz.prog 5 c (S q) K')->G:=fun _ _ _ f r=>f r
 refine ah.dv ?_
 unfold rO
 refine ag [] 5 Tryz.func26 (by rfl) (by rfl) ?_
 conv=>whnf
 refine key ?c ?K' _ ?h ?r
 case h=>
  intro hL
  (repeat' first | (refine aa [] ?_;conv=>whnf) | (refine two ?_ ?_<;>intro g<;>(try simp only[an]at g)<;>(conv=>whnf)) | (refine And.intro rfl ?_;conv=>whnf) | fail)
  refine L0 i x (fun h=>(hk h).1) 3 [123] (by decide) _ (fun he e1 e2=> ?_) (fun hn=> ?_)
  · obtain ⟨k1,k2,k3,k4⟩:=hk he
    have F7:aF 3 [123] (k.drop i)= .ok (nx k i) (aC (k.drop i)).2:=by unfold aF;rw [if_pos ⟨e1,.inr e2⟩]
    conv=>whnf
    (repeat' first | (refine aa [] ?_;conv=>whnf) | (refine two ?_ ?_<;>intro g<;>(try simp only[an]at g)<;>(conv=>whnf)) | (refine And.intro rfl ?_;conv=>whnf) | fail)
    · have L2:gS f d (k.drop i) x.p sn= .err (nx k i).at_ 8:=by unfold gS;rw [if_pos ⟨e1,e2,by omega⟩]
      refine mM k i x (fun _=>k1) 8 _ (fun _=> ?_) (fun h=>absurd he h)
      conv=>whnf
      (repeat' first | (refine aa [] ?_;conv=>whnf) | (refine two ?_ ?_<;>intro g<;>(try simp only[an]at g)<;>(conv=>whnf)) | (refine And.intro rfl ?_;conv=>whnf) | fail)
      refine KV i {x with err:=8,at_:=(nx k i).at_} (fun h=>absurd (show (8:Int)=0 from h) (by decide)) 3 (by decide) [123] (by decide) (by decide) _ (fun h=>absurd (show (8:Int)=0 from h) (by decide)) (fun h=>absurd (show (8:Int)=0 from h) (by decide)) (fun _=> ?_)
      conv=>whnf
      (repeat' first | (refine aa [] ?_;conv=>whnf) | (refine two ?_ ?_<;>intro g<;>(try simp only[an]at g)<;>(conv=>whnf)) | (refine And.intro rfl ?_;conv=>whnf) | fail)
      refine aA.enter (s':=S (0,i,{x with err:=8,at_:=(nx k i).at_},sn)) (ae (by repeat' first | exact aq.nil | refine aq.cons VW.undef ?_ | refine aq.cons (VW.eq rfl) ?_) (by repeat' first | exact ic.nil | refine ic.cons (OW.eq rfl) ?_ | refine ic.cons OW.av ?_) rfl rfl rfl) ?_
      exact hL (0,i,{x with err:=8,at_:=(nx k i).at_},sn) ⟨fun h=>absurd (show (8:Int)=0 from h) (by decide),fun _=>⟨fun _=>⟨_,L2,rfl⟩,fun h=>absurd he h⟩⟩
    · have L2:gS f d (k.drop i) x.p sn=(aF 3 [123] (k.drop i)).bind fun _ l=>aN f d l x.p sn:=by unfold gS;rw [if_neg (fun h=>by have:=h.2.2;omega)]
      refine KV i x (fun _=>k1) 3 (by decide) [123] (by decide) (by decide) _ (fun _ t r i' e ET Ln=> ?_) (fun _ p e=> ?_) (fun h=>absurd he h)
      rotate_left
      · rw [F7] at e;cases e
      rw [e] at L2
      have aJ:=qL k1 (by show (nx k i).kind≠0;omega)
      rw [F7] at e
      injection e with e3 e4
      rw [e4] at aJ
      conv=>whnf
      (repeat' first | (refine aa [] ?_;conv=>whnf) | (refine two ?_ ?_<;>intro g<;>(try simp only[an]at g)<;>(conv=>whnf)) | (refine And.intro rfl ?_;conv=>whnf) | fail)
      refine aA.enter (s':=S (f,i',x,sn)) (ae (by repeat' first | exact aq.nil | refine aq.cons VW.undef ?_ | refine aq.cons (VW.eq rfl) ?_) (by repeat' first | exact ic.nil | refine ic.cons (OW.eq rfl) ?_ | refine ic.cons OW.av ?_) rfl rfl rfl) ?_
      exact hL (f,i',x,sn) ⟨fun _=>⟨he,by rw [ET];exact Ln,by simp only;rw [ET];omega,Nat.le_refl _,by omega,k3,by simp only;rw [ET];exact ⟨by have:=k4.1;omega,by have:=k4.2;omega⟩,by simp only;rw [ET];exact L2⟩,fun h=>absurd he h⟩
  · conv=>whnf
    (repeat' first | (refine aa [] ?_;conv=>whnf) | (refine two ?_ ?_<;>intro g<;>(try simp only[an]at g)<;>(conv=>whnf)) | (refine And.intro rfl ?_;conv=>whnf) | fail)
    refine KV i x (fun h=>(hk h).1) 3 (by decide) [123] (by decide) (by decide) _ (fun he t r i' e ET Ln=> ?_) (fun he p e=> ?_) (fun he=> ?_)
    · exfalso
      unfold aF at e
      split at e
      · rename_i hh
        exact hn ⟨he,hh.1,hh.2.resolve_left (by decide)⟩
      · cases e
    · have L2:gS f d (k.drop i) x.p sn= .err p 7:=by unfold gS;rw [if_neg (fun h=>hn ⟨he,h.1,h.2.1⟩),e];rfl
      conv=>whnf
      (repeat' first | (refine aa [] ?_;conv=>whnf) | (refine two ?_ ?_<;>intro g<;>(try simp only[an]at g)<;>(conv=>whnf)) | (refine And.intro rfl ?_;conv=>whnf) | fail)
      refine aA.enter (s':=S (0,i,{x with err:=7,at_:=p},sn)) (ae (by repeat' first | exact aq.nil | refine aq.cons VW.undef ?_ | refine aq.cons (VW.eq rfl) ?_) (by repeat' first | exact ic.nil | refine ic.cons (OW.eq rfl) ?_ | refine ic.cons OW.av ?_) rfl rfl rfl) ?_
      exact hL (0,i,{x with err:=7,at_:=p},sn) ⟨fun h=>absurd (show (7:Int)=0 from h) (by decide),fun _=>⟨fun _=>⟨_,L2,rfl⟩,fun h=>absurd he h⟩⟩
    · conv=>whnf
      (repeat' first | (refine aa [] ?_;conv=>whnf) | (refine two ?_ ?_<;>intro g<;>(try simp only[an]at g)<;>(conv=>whnf)) | (refine And.intro rfl ?_;conv=>whnf) | fail)
      refine aA.enter (s':=S (0,i,x,sn)) (ae (by repeat' first | exact aq.nil | refine aq.cons VW.undef ?_ | refine aq.cons (VW.eq rfl) ?_) (by repeat' first | exact ic.nil | refine ic.cons (OW.eq rfl) ?_ | refine ic.cons OW.av ?_) rfl rfl rfl) ?_
      exact hL (0,i,x,sn) ⟨fun h=>absurd h he,fun _=>⟨fun h=>absurd h he,fun _=>⟨rfl,rfl⟩⟩⟩
 intro q0 KW
 refine aA.dC S (fun q=>q.1) Inv ?_ q0 KW
 rintro ⟨q,i1,x1,lL⟩ ⟨ha,hb⟩ ih
 simp only at ha hb
 clear q0 KW
 dsimp only [S]
 refine ai [] ?_;conv=>whnf
 (repeat' first | (refine aa [] ?_;conv=>whnf) | (refine two ?_ ?_<;>intro g<;>(try simp only[an]at g)<;>(conv=>whnf)) | (refine And.intro rfl ?_;conv=>whnf) | fail)
 rotate_left
 · obtain ⟨b1,b2⟩:=hb g
   refine ⟨_,aB.refl,?_⟩;conv=>whnf
   (repeat' first | (refine aa [] ?_;conv=>whnf) | (refine two ?_ ?_<;>intro g<;>(try simp only[an]at g)<;>(conv=>whnf)) | (refine And.intro rfl ?_;conv=>whnf) | fail)
   refine KV i1 x1 (fun h=>absurd h g) 3 (by decide) [125] (by decide) (by decide) _ (fun h=>absurd h g) (fun h=>absurd h g) (fun _=> ?_)
   conv=>whnf
   (repeat' first | (refine aa [] ?_;conv=>whnf) | (refine two ?_ ?_<;>intro g<;>(try simp only[an]at g)<;>(conv=>whnf)) | (refine And.intro rfl ?_;conv=>whnf) | fail)
   by_cases he:x.err=0
   · obtain ⟨p,HE,Qz⟩:=b1 he
     exact ⟨_,_,(ae (by repeat' first | exact aq.nil | refine aq.cons VW.undef ?_ | refine aq.cons (VW.eq rfl) ?_) (by repeat' first | exact ic.nil | refine ic.cons (OW.eq rfl) ?_ | refine ic.cons OW.av ?_) rfl rfl rfl),h1 he p i1 x1 HE Qz g⟩
   · obtain ⟨rfl,rfl⟩:=b2 he
     exact ⟨_,_,(ae (by repeat' first | exact aq.nil | refine aq.cons VW.undef ?_ | refine aq.cons (VW.eq rfl) ?_) (by repeat' first | exact ic.nil | refine ic.cons (OW.eq rfl) ?_ | refine ic.cons OW.av ?_) rfl rfl rfl),h2 he⟩
 obtain ⟨he,k1,k2,k3,k4,k5,k6,k7⟩:=ha g
 clear ha hb
 obtain ⟨q,rfl⟩: ∃q',q=q'+1:=⟨q - 1,by omega⟩
 obtain ⟨C',_⟩:=bw k1
 have hm:=fK k1
 have aJ:=qL k1
 rw [mG] at k7
 have KX:= @sx k i1 k1
 have FI: ∀kd w,(nx k i1).kind=kd->(nx k i1).text=w->aF kd w (k.drop i1)= .ok (nx k i1) (aC (k.drop i1)).2:=fun kd w e1 e2=>by unfold aF;rw [if_pos ⟨e1,.inr e2⟩]
 have Oe:(nx k i1).kind=3->(nx k i1).text=[123]->gS f d (k.drop i) x.p sn=(gS q (d+1) (k.drop i1) x1.p lL).bind fun q' r=>aN q d r q'.1 q'.2:=fun e1 e2=>by
  rw [k7,if_neg (fun h=>by rw [show (aC (k.drop i1)).1.text=[123] from e2] at h;exact absurd h.2 (by decide)),if_pos ⟨e1,e2⟩]
  unfold gS
  by_cases Sw:32<=d
  · rw [if_pos Sw,if_pos ⟨e1,e2,by omega⟩];rfl
  · rw [if_neg Sw,if_neg (fun h=>Sw (by have:=h.2.2;omega)),FI 3 [123] e1 e2];rfl
 have hz:(aC (k.drop i1)).1=nx k i1:=rfl
 rw [hz] at k7 hm aJ
 obtain ⟨t,ht⟩: ∃t,nx k i1=t:=⟨_,rfl⟩
 obtain ⟨l2,sI⟩: ∃l,(aC (k.drop i1)).2=l:=⟨_,rfl⟩
 rw [sI] at k7 aJ C' KX FI
 have hb:=hl.2 _ hm
 refine L0 i1 x1 (fun _=>k1) 3 [125] (by decide) _ (fun _ e1 e2=> ?_) (fun Dz=> ?_)
 · conv=>whnf
   (repeat' first | (refine aa [] ?_;conv=>whnf) | (refine two ?_ ?_<;>intro g<;>(try simp only[an]at g)<;>(conv=>whnf)) | (refine And.intro rfl ?_;conv=>whnf) | fail)
   refine ⟨_,aB.refl,?_⟩;conv=>whnf
   (repeat' first | (refine aa [] ?_;conv=>whnf) | (refine two ?_ ?_<;>intro g<;>(try simp only[an]at g)<;>(conv=>whnf)) | (refine And.intro rfl ?_;conv=>whnf) | fail)
   refine KV i1 x1 (fun _=>k1) 3 (by decide) [125] (by decide) (by decide) _ (fun _ t' r i' e ET Ln=> ?_) (fun _ p e=> ?_) (fun h=>absurd g h)
   rotate_left
   · rw [FI 3 [125] e1 e2] at e;cases e
   rw [FI 3 [125] e1 e2] at e
   injection e with e3 e4
   rw [if_pos ⟨e1,e2⟩] at k7
   have aJ:=aJ (by omega)
   conv=>whnf
   (repeat' first | (refine aa [] ?_;conv=>whnf) | (refine two ?_ ?_<;>intro g<;>(try simp only[an]at g)<;>(conv=>whnf)) | (refine And.intro rfl ?_;conv=>whnf) | fail)
   exact ⟨_,_,(ae (by repeat' first | exact aq.nil | refine aq.cons VW.undef ?_ | refine aq.cons (VW.eq rfl) ?_) (by repeat' first | exact ic.nil | refine ic.cons (OW.eq rfl) ?_ | refine ic.cons OW.av ?_) rfl rfl rfl),h0 he _ _ i' x1 k7 (by rw [e4];exact ET) C' rfl k5 g ⟨by have:=k6.1;omega,by have:=k6.2;omega⟩⟩
 conv=>whnf
 (repeat' first | (refine aa [] ?_;conv=>whnf) | (refine two ?_ ?_<;>intro g<;>(try simp only[an]at g)<;>(conv=>whnf)) | (refine And.intro rfl ?_;conv=>whnf) | fail)
 refine L0 i1 x1 (fun _=>k1) 3 [123] (by decide) _ (fun _ e1 e2=> ?_) (fun JH=> ?_)
 · have Oe:=Oe e1 e2
   have Sx:IntKind.i64.wrap ((d:Int)+1)=((d+1:Nat):Int):=by rw [wrap64 (by omega) (by omega)];omega
   conv=>whnf
   (repeat' first | (refine aa [] ?_;conv=>whnf) | (refine two ?_ ?_<;>intro g<;>(try simp only[an]at g)<;>(conv=>whnf)) | (refine And.intro rfl ?_;conv=>whnf) | fail)
   rw [Sx]
   refine Si q (by omega) (d+1) (by omega) k i1 hl hq x1 lL (fun _=>⟨k1,by omega,k5,k6⟩) _ (fun _ q2 r i3 x3 e sX yX Ea r8 xC Ik=> ?_) (fun _ p i3 x3 e NG xC=> ?_) (fun h=>absurd g h)
   · rw [e] at Oe
     have hlen:r.length<q:=by
      have KW:(aC (k.drop i1)).2.length<(k.drop i1).length:=by rw [sI];exact aJ (by omega)
      unfold gS at e
      rw [if_neg (fun h=>by rw [if_pos h] at e;cases e),FI 3 [123] e1 e2] at e
      have:=jv _ (show aN q (d+1) l2 x1.p lL= .ok q2 r from e)
      rw [sI] at KW
      omega
     have hinv:Inv (q,i3,x3,q2.2):=⟨fun _=>⟨he,by rw [sX];exact yX,by simp only;rw [sX];exact hlen,by simp only;omega,k4,r8,by simp only;rw [sX];exact Ik,by simp only;rw [sX,Ea];exact Oe⟩,fun h=>absurd xC h⟩
     conv=>whnf
     (repeat' first | (refine aa [] ?_;conv=>whnf) | (refine two ?_ ?_<;>intro g<;>(try simp only[an]at g)<;>(conv=>whnf)) | (refine And.intro rfl ?_;conv=>whnf) | fail)
     exact ⟨S (q,i3,x3,q2.2),(ae (by repeat' first | exact aq.nil | refine aq.cons VW.undef ?_ | refine aq.cons (VW.eq rfl) ?_) (by repeat' first | exact ic.nil | refine ic.cons (OW.eq rfl) ?_ | refine ic.cons OW.av ?_) rfl rfl rfl),ih (q,i3,x3,q2.2) hinv (by simp only;omega)⟩
   · rw [e] at Oe
     have hinv:Inv (q,i3,x3,lL):=⟨fun h=>absurd h xC,fun _=>⟨fun _=>⟨p,Oe,NG⟩,fun h=>absurd he h⟩⟩
     conv=>whnf
     (repeat' first | (refine aa [] ?_;conv=>whnf) | (refine two ?_ ?_<;>intro g<;>(try simp only[an]at g)<;>(conv=>whnf)) | (refine And.intro rfl ?_;conv=>whnf) | fail)
     exact ⟨S (q,i3,x3,lL),(ae (by repeat' first | exact aq.nil | refine aq.cons VW.undef ?_ | refine aq.cons (VW.eq rfl) ?_) (by repeat' first | exact ic.nil | refine ic.cons (OW.eq rfl) ?_ | refine ic.cons OW.av ?_) rfl rfl rfl),ih (q,i3,x3,lL) hinv (by simp only;omega)⟩
 obtain ⟨aD,cV⟩:=sY k1
 have PM:(sB (az (nx k i1).text))=(nx k i1).text:=aT hb.1
 have qE:(az (nx k i1).text).toList=(⟨#[114,101,115,101,116]⟩:ByteArray).toList↔(nx k i1).text=cO:=bd hb.1 (b:=cO) (by decide)
 have vK:(az (nx k i1).text).toList=(⟨#[108,97,116,101]⟩:ByteArray).toList↔(nx k i1).text=dM:=bd hb.1 (b:=dM) (by decide)
 have lH:(az (nx k i1).text).toList=(⟨#[104,111,108,105,100,97,121]⟩:ByteArray).toList↔(nx k i1).text=bE:=bd hb.1 (b:=bE) (by decide)
 have Dm:x1.err=0:=g
 have hA: ¬((nx k i1).kind=3/\(nx k i1).text=[125]):=fun h=>Dz ⟨Dm,h⟩
 have hB: ¬((nx k i1).kind=3/\(nx k i1).text=[123]):=fun h=>JH ⟨Dm,h⟩
 rw [if_neg hA,if_neg hB] at k7
 have TD: ¬(nx k i1).kind=1->gS f d (k.drop i) x.p sn= .err (nx k i1).at_ 7:=fun h=>by rw [k7,if_pos h]
 have TE:(nx k i1).kind=1-> ¬(nx k i1).text∈nU->gS f d (k.drop i) x.p sn= .err (nx k i1).at_ 7:=fun h h2=>by
  rw [k7,if_neg (fun hh=>hh h)]
  cases hc:aZ (nx k i1).text x1.p l2 with
  | none=>rfl
  | some y=>exact absurd (pK.2 ⟨y,hc⟩) h2
 have TF:(nx k i1).kind=1->(nx k i1).text∈nU->(nx k i1).text∈x1.h-> ¬(nx k i1).text=cO-> ¬(nx k i1).text=dM-> ¬(nx k i1).text=bE->gS f d (k.drop i) x.p sn= .err (nx k i1).at_ 7:=fun h h2 h3 n1 n2 n3=>by
  obtain ⟨y,hy⟩:=pK.1 h2
  have PT:j5 (nx k i1).text=false:=by
   cases hb:j5 (nx k i1).text with
   | false=>rfl
   | true=>rcases A5.1 hb with e | e | e<;>contradiction
  rw [k7,if_neg (fun hh=>hh h),hy]
  exact if_pos ⟨(k5.1 _).1 h3,PT⟩
 have hG:(nx k i1).kind=1-> ∀y,aZ (nx k i1).text x1.p l2=some y->((nx k i1).text=cO\/(nx k i1).text=dM\/(nx k i1).text=bE)\/ ¬(nx k i1).text∈x1.h->gS f d (k.drop i) x.p sn=y.bind fun q' r=>(aF 3 [59] r).bind fun _ r=>aN q d r q' ((nx k i1).text::lL):=fun h y hy hc=>by
  rw [k7,if_neg (fun hh=>hh h),hy]
  refine if_neg fun hh=> ?_
  rcases hc with hc | hc
  · rw [A5.2 hc] at hh;cases hh.2
  · exact hc ((k5.1 _).2 hh.1)
 clear k7
 conv=>whnf
 (repeat' first | (refine aa [] ?_;conv=>whnf) | (refine two ?_ ?_<;>intro g<;>(try simp only[an,qE,vK,lH,gv,j3,PM]at g)<;>(conv=>whnf)) | (refine And.intro rfl ?_;conv=>whnf) | (refine ak (by decide+kernel) ?_;conv=>whnf) | (refine ⟨by omega,_,aD,rfl,?_⟩;conv=>whnf) | (refine FP _ ?_;conv=>whnf) | (refine oX nU _ (by decide) (by decide+kernel) _ ?_;conv=>whnf) | fail)
 all_goals first
  | (refine ah.nJ ?_
     conv=>whnf
     refine ⟨by simp [sL],?_⟩
     rw [A6]
     conv=>whnf
     refine oX x1.h _ (by have:=k6.2;omega) k5.2 _ ?_
     conv=>whnf
     refine ⟨rfl,?_⟩
     conv=>whnf
     (repeat' first | (refine aa [] ?_;conv=>whnf) | (refine two ?_ ?_<;>intro g<;>(try simp only[an,gv,j3,PM]at g)<;>(conv=>whnf)) | (refine And.intro rfl ?_;conv=>whnf) | (refine ak (by decide+kernel) ?_;conv=>whnf) | fail))
  | skip
 all_goals first
  | (have L2:gS f d (k.drop i) x.p sn= .err (nx k i1).at_ 7:=by
      first
       | exact TD (by assumption)
       | exact TE (by assumption) (by assumption)
       | exact TF (by assumption) (by assumption) (by assumption) (by assumption) (by assumption) (by assumption)
     refine mM k i1 x1 (fun _=>k1) 7 _ (fun _=> ?_) (fun h=>absurd Dm h)
     conv=>whnf
     (repeat' first | (refine aa [] ?_;conv=>whnf) | (refine two ?_ ?_<;>intro g<;>(try simp only[an]at g)<;>(conv=>whnf)) | (refine And.intro rfl ?_;conv=>whnf) | fail)
     refine ⟨_,aB.refl,?_⟩;conv=>whnf
     (repeat' first | (refine aa [] ?_;conv=>whnf) | (refine two ?_ ?_<;>intro g<;>(try simp only[an]at g)<;>(conv=>whnf)) | (refine And.intro rfl ?_;conv=>whnf) | fail)
     exact ⟨_,_,(ae (by repeat' first | exact aq.nil | refine aq.cons VW.undef ?_ | refine aq.cons (VW.eq rfl) ?_) (by repeat' first | exact ic.nil | refine ic.cons (OW.eq rfl) ?_ | refine ic.cons OW.av ?_) rfl rfl rfl),h1 he (nx k i1).at_ i1 {x1 with err:=7,at_:=(nx k i1).at_} L2 rfl (show (7:Int)≠0 by decide)⟩)
  | skip
 all_goals
  have xD:(nx k i1).kind=1:=by assumption
  obtain ⟨y,hy⟩:=(pK (p:=x1.p) (l:=l2)).1 (show (nx k i1).text∈nU by assumption)
  have qR:=hG xD y hy (by
   first
    | exact .inl (.inl (by assumption))
    | exact .inl (.inr (.inl (by assumption)))
    | exact .inl (.inr (.inr (by assumption)))
    | exact .inr (by assumption))
  clear TD TE TF hG hA hB
  refine ⟨by have:=k6.2;simp;omega,by simp [V.cells],?_⟩
  conv=>whnf
 all_goals
  let S2:List V->St:=fun KY=>⟨(.ptr 0 0:: .int .i64 d:: .undef:: .undef:: .ptr 5 0:: .undef:: .undef:: .undef:: .undef:: .undef:: .undef:: .undef:: .undef:: .undef:: .undef:: .undef:: .undef:: .undef:: .undef:: .undef:: .undef:: .undef:: .undef:: .undef:: .undef:: .undef:: .undef:: .undef:: .undef:: .undef:: .undef:: .undef:: .undef:: .undef:: .undef:: .undef:: .undef:: .undef:: .undef:: .undef:: .undef:: .undef:: .undef:: .undef:: .undef:: .undef:: .undef:: .undef:: .undef:: .undef:: .undef:: .undef:: .undef:: .undef:: .undef:: .undef:: .undef:: .undef:: .undef:: .undef:: .undef:: .undef:: .undef:: .undef:: .undef:: .undef:: .undef:: .undef:: .undef:: .undef:: .undef:: .undef:: .undef:: .undef:: .undef:: .undef:: .undef:: .undef:: .undef:: .undef:: .undef:: .undef:: .undef:: .undef:: .undef:: .undef:: .undef:: .undef:: .undef:: .undef:: .undef:: .undef:: .undef:: .undef:: .undef:: .undef:: .undef:: .undef:: .undef:: .undef:: .undef:: .undef:: .undef:: .undef:: .undef:: .undef::[]),rO true true true true k i1 {x1 with h:=x1.h++[(nx k i1).text],s4:=KY}++[.cells true 57 [.int .i64 (nx k i1).kind,.int .i64 (nx k i1).at_,.str (az (nx k i1).text)]],0,[]⟩
  refine two (fun g=> ?_) (fun g=> ?_)
  · have wO:1<=x1.s4.length:=by have:=Nat.le_of_ble_eq_true g;simp at this;omega
    conv=>whnf
    refine ⟨by simp [sL],?_⟩
    conv=>whnf
    (repeat (refine And.intro rfl ?_;conv=>whnf))
    have jf:List.take (0+x1.h.length) (sL x1.h++x1.s4)++[V.str (az (nx k i1).text)]++List.drop (0+x1.h.length+1) (sL x1.h++x1.s4)=sL (x1.h++[(nx k i1).text])++x1.s4.drop 1:=gr (fun w=> .str (az w)) x1.h (nx k i1).text x1.s4
    refine eU.dv (s':=S2 (x1.s4.drop 1)) (ae (by repeat' first | exact aq.nil | refine aq.cons VW.undef ?_ | refine aq.cons (VW.eq rfl) ?_) (.cons (.cells ?_) (.cons (.eq rfl) (.cons (.eq rfl) (.cons (.eq rfl) (.cons (.eq (congrArg (fun l=>af.buf true 1 l none) jf)) (.cons (.eq rfl) .nil)))))) rfl rfl rfl) ?_
    · repeat' first
       | exact aq.nil
       | refine aq.cons (VW.eq rfl) ?_
       | refine aq.cons (VW.eq (ee (by simp) (by simp;omega))) ?_
    clear wO jf g
    generalize x1.s4.drop 1=KY
    dsimp only [S2]
    conv=>whnf
    have aJ:=aJ (by omega)
    have KX:=KX (by omega)
    have wi:IntKind.i64.wrap ((i1:Int)+1)=((i1+1:Nat):Int):=by have:=hl.1;rw [wrap64 (by omega) (by omega)];omega
    have xL:=k6.1
    have F4:=k6.2
    have Sy:=Ef k5 hb.1
    (repeat' first | (refine aa [] ?_;conv=>whnf) | (refine two ?_ ?_<;>intro g<;>(try simp only[an]at g)<;>(conv=>whnf)) | (refine And.intro rfl ?_;conv=>whnf) | (refine ak (by decide+kernel) ?_;conv=>whnf) | fail)
    rw [wi]
    refine xB (nx k i1).text hb.1 k (i1+1) {x1 with h:=x1.h++[(nx k i1).text],s4:=KY} (by rw [KX];exact C') hl hq Dm (by simp only;omega) y (by rw [KX];exact hy) _ (fun q' r i3 x3 d_ sX yX Ea PU xC=> ?_) (fun p i3 x3 d_ xC NG=> ?_)
    · have hle:=hY hy d_
      have Js:gS f d (k.drop i) x.p sn=(aF 3 [59] r).bind fun _ r=>aN q d r q' ((nx k i1).text::lL):=by rw [qR,d_];rfl
      conv=>whnf
      (repeat' first | (refine aa [] ?_;conv=>whnf) | (refine two ?_ ?_<;>intro g<;>(try simp only[an]at g)<;>(conv=>whnf)) | (refine And.intro rfl ?_;conv=>whnf) | fail)
      refine KV i3 x3 (fun _=>by rw [sX];exact yX) 3 (by decide) [59] (by decide) (by decide) _ (fun _ t4 r4 i4 e4 Eb Jr=> ?_) (fun _ p e4=> ?_) (fun h=>absurd xC h)
      · rw [sX] at e4
        have PI:=gG e4
        have hinv:Inv (q,i4,x3,(nx k i1).text::lL):=by
         refine ⟨fun _=>⟨he,by rw [Eb];exact Jr,?_,?_,k4,?_,?_,?_⟩,fun h=>absurd xC h⟩
         · simp only;rw [Eb];omega
         · simp only;omega
         · simp only;rw [PU];exact Sy
         · simp only;unfold PR;rw [Eb,Ea,PU];simp only [List.length_append,List.length_singleton];omega
         · simp only;rw [Eb,Ea,Js,e4];rfl
        conv=>whnf
        (repeat' first | (refine aa [] ?_;conv=>whnf) | (refine two ?_ ?_<;>intro g<;>(try simp only[an]at g)<;>(conv=>whnf)) | (refine And.intro rfl ?_;conv=>whnf) | fail)
        exact ⟨S (q,i4,x3,(nx k i1).text::lL),(ae (by repeat' first | exact aq.nil | refine aq.cons VW.undef ?_ | refine aq.cons (VW.eq rfl) ?_) (by repeat' first | exact ic.nil | refine ic.cons (OW.eq rfl) ?_ | refine ic.cons OW.av ?_) rfl rfl rfl),ih (q,i4,x3,(nx k i1).text::lL) hinv (by simp only;omega)⟩
      · rw [sX] at e4
        have hinv:Inv (q,i3,{x3 with err:=7,at_:=p},lL):=⟨fun h=>absurd (show (7:Int)=0 from h) (by decide),fun _=>⟨fun _=>⟨p,by rw [Js,e4];rfl,rfl⟩,fun h=>absurd he h⟩⟩
        conv=>whnf
        (repeat' first | (refine aa [] ?_;conv=>whnf) | (refine two ?_ ?_<;>intro g<;>(try simp only[an]at g)<;>(conv=>whnf)) | (refine And.intro rfl ?_;conv=>whnf) | fail)
        exact ⟨S (q,i3,{x3 with err:=7,at_:=p},lL),(ae (by repeat' first | exact aq.nil | refine aq.cons VW.undef ?_ | refine aq.cons (VW.eq rfl) ?_) (by repeat' first | exact ic.nil | refine ic.cons (OW.eq rfl) ?_ | refine ic.cons OW.av ?_) rfl rfl rfl),ih (q,i3,{x3 with err:=7,at_:=p},lL) hinv (by simp only;omega)⟩
    · have y6:x3.err≠0:=by rw [xC];decide
      have hinv:Inv (q,i3,x3,lL):=⟨fun h=>absurd h y6,fun _=>⟨fun _=>⟨p,by rw [qR,d_,xC];rfl,NG⟩,fun h=>absurd he h⟩⟩
      conv=>whnf
      (repeat' first | (refine aa [] ?_;conv=>whnf) | (refine two ?_ ?_<;>intro g<;>(try simp only[an]at g)<;>(conv=>whnf)) | (refine And.intro rfl ?_;conv=>whnf) | fail)
      refine KV i3 x3 (fun h=>absurd h y6) 3 (by decide) [59] (by decide) (by decide) _ (fun h=>absurd h y6) (fun h=>absurd h y6) (fun _=> ?_)
      conv=>whnf
      (repeat' first | (refine aa [] ?_;conv=>whnf) | (refine two ?_ ?_<;>intro g<;>(try simp only[an]at g)<;>(conv=>whnf)) | (refine And.intro rfl ?_;conv=>whnf) | fail)
      exact ⟨S (q,i3,x3,lL),(ae (by repeat' first | exact aq.nil | refine aq.cons VW.undef ?_ | refine aq.cons (VW.eq rfl) ?_) (by repeat' first | exact ic.nil | refine ic.cons (OW.eq rfl) ?_ | refine ic.cons OW.av ?_) rfl rfl rfl),ih (q,i3,x3,lL) hinv (by simp only;omega)⟩
  · conv=>whnf
    refine ⟨by simp [sL],fun KY sT=> ?_⟩
    conv=>whnf
    (repeat (refine And.intro rfl ?_;conv=>whnf))
    have jf:List.take x1.h.length (List.drop 0 (sL x1.h++x1.s4))++[V.str (az (nx k i1).text)]++KY=sL (x1.h++[(nx k i1).text])++KY:=gu (fun w=> .str (az w)) x1.h (nx k i1).text x1.s4 KY
    refine Iv [0,1,2,3,6,5] ?_
    conv=>whnf
    refine eU.dv (s':=S2 KY) (ae (by repeat' first | exact aq.nil | refine aq.cons VW.undef ?_ | refine aq.cons (VW.eq rfl) ?_) (.cons (.cells ?_) (.cons (.eq rfl) (.cons (.eq rfl) (.cons (.eq rfl) (.cons (.eq (congrArg (fun l=>af.buf true 1 l none) jf)) (.cons (.eq rfl) .nil)))))) rfl rfl rfl) ?_
    · repeat' first
       | exact aq.nil
       | refine aq.cons (VW.eq rfl) ?_
       | refine aq.cons (VW.eq (ee (by simp) (by simp))) ?_
    clear sT jf g
    dsimp only [S2]
    conv=>whnf
    have aJ:=aJ (by omega)
    have KX:=KX (by omega)
    have wi:IntKind.i64.wrap ((i1:Int)+1)=((i1+1:Nat):Int):=by have:=hl.1;rw [wrap64 (by omega) (by omega)];omega
    have xL:=k6.1
    have F4:=k6.2
    have Sy:=Ef k5 hb.1
    (repeat' first | (refine aa [] ?_;conv=>whnf) | (refine two ?_ ?_<;>intro g<;>(try simp only[an]at g)<;>(conv=>whnf)) | (refine And.intro rfl ?_;conv=>whnf) | (refine ak (by decide+kernel) ?_;conv=>whnf) | fail)
    rw [wi]
    refine xB (nx k i1).text hb.1 k (i1+1) {x1 with h:=x1.h++[(nx k i1).text],s4:=KY} (by rw [KX];exact C') hl hq Dm (by simp only;omega) y (by rw [KX];exact hy) _ (fun q' r i3 x3 d_ sX yX Ea PU xC=> ?_) (fun p i3 x3 d_ xC NG=> ?_)
    · have hle:=hY hy d_
      have Js:gS f d (k.drop i) x.p sn=(aF 3 [59] r).bind fun _ r=>aN q d r q' ((nx k i1).text::lL):=by rw [qR,d_];rfl
      conv=>whnf
      (repeat' first | (refine aa [] ?_;conv=>whnf) | (refine two ?_ ?_<;>intro g<;>(try simp only[an]at g)<;>(conv=>whnf)) | (refine And.intro rfl ?_;conv=>whnf) | fail)
      refine KV i3 x3 (fun _=>by rw [sX];exact yX) 3 (by decide) [59] (by decide) (by decide) _ (fun _ t4 r4 i4 e4 Eb Jr=> ?_) (fun _ p e4=> ?_) (fun h=>absurd xC h)
      · rw [sX] at e4
        have PI:=gG e4
        have hinv:Inv (q,i4,x3,(nx k i1).text::lL):=by
         refine ⟨fun _=>⟨he,by rw [Eb];exact Jr,?_,?_,k4,?_,?_,?_⟩,fun h=>absurd xC h⟩
         · simp only;rw [Eb];omega
         · simp only;omega
         · simp only;rw [PU];exact Sy
         · simp only;unfold PR;rw [Eb,Ea,PU];simp only [List.length_append,List.length_singleton];omega
         · simp only;rw [Eb,Ea,Js,e4];rfl
        conv=>whnf
        (repeat' first | (refine aa [] ?_;conv=>whnf) | (refine two ?_ ?_<;>intro g<;>(try simp only[an]at g)<;>(conv=>whnf)) | (refine And.intro rfl ?_;conv=>whnf) | fail)
        exact ⟨S (q,i4,x3,(nx k i1).text::lL),(ae (by repeat' first | exact aq.nil | refine aq.cons VW.undef ?_ | refine aq.cons (VW.eq rfl) ?_) (by repeat' first | exact ic.nil | refine ic.cons (OW.eq rfl) ?_ | refine ic.cons OW.av ?_) rfl rfl rfl),ih (q,i4,x3,(nx k i1).text::lL) hinv (by simp only;omega)⟩
      · rw [sX] at e4
        have hinv:Inv (q,i3,{x3 with err:=7,at_:=p},lL):=⟨fun h=>absurd (show (7:Int)=0 from h) (by decide),fun _=>⟨fun _=>⟨p,by rw [Js,e4];rfl,rfl⟩,fun h=>absurd he h⟩⟩
        conv=>whnf
        (repeat' first | (refine aa [] ?_;conv=>whnf) | (refine two ?_ ?_<;>intro g<;>(try simp only[an]at g)<;>(conv=>whnf)) | (refine And.intro rfl ?_;conv=>whnf) | fail)
        exact ⟨S (q,i3,{x3 with err:=7,at_:=p},lL),(ae (by repeat' first | exact aq.nil | refine aq.cons VW.undef ?_ | refine aq.cons (VW.eq rfl) ?_) (by repeat' first | exact ic.nil | refine ic.cons (OW.eq rfl) ?_ | refine ic.cons OW.av ?_) rfl rfl rfl),ih (q,i3,{x3 with err:=7,at_:=p},lL) hinv (by simp only;omega)⟩
    · have y6:x3.err≠0:=by rw [xC];decide
      have hinv:Inv (q,i3,x3,lL):=⟨fun h=>absurd h y6,fun _=>⟨fun _=>⟨p,by rw [qR,d_,xC];rfl,NG⟩,fun h=>absurd he h⟩⟩
      conv=>whnf
      (repeat' first | (refine aa [] ?_;conv=>whnf) | (refine two ?_ ?_<;>intro g<;>(try simp only[an]at g)<;>(conv=>whnf)) | (refine And.intro rfl ?_;conv=>whnf) | fail)
      refine KV i3 x3 (fun h=>absurd h y6) 3 (by decide) [59] (by decide) (by decide) _ (fun h=>absurd h y6) (fun h=>absurd h y6) (fun _=> ?_)
      conv=>whnf
      (repeat' first | (refine aa [] ?_;conv=>whnf) | (refine two ?_ ?_<;>intro g<;>(try simp only[an]at g)<;>(conv=>whnf)) | (refine And.intro rfl ?_;conv=>whnf) | fail)
      exact ⟨S (q,i3,x3,lL),(ae (by repeat' first | exact aq.nil | refine aq.cons VW.undef ?_ | refine aq.cons (VW.eq rfl) ?_) (by repeat' first | exact ic.nil | refine ic.cons (OW.eq rfl) ?_ | refine ic.cons OW.av ?_) rfl rfl rfl),ih (q,i3,x3,lL) hinv (by simp only;omega)⟩
end TC
namespace Sz
open Go Go.Proofs VL D1 eG kb kj wg LQ MW C8 jt c5 dj C1 C2 C3 C4 C6 oO H2 pQ Kz oY CR FA vL kn yU pJ Gc Il LZ ND Od PO QA Sv TC
theorem PV {d:Nat} {l:List C3.Tok} {p:Prod} {sn:List (List Int)} (hd:d<=32) (hl:bb l):gS l.length d l p sn=(aF 3 [123] l).bind fun _ l'=>aN (l'.length+1) d l' p sn:=by
 unfold gS
 rw [if_neg (fun h=>by have:=h.2.2;omega)]
 cases hw:aF 3 [123] l with
 | err p e=>rfl
 | ok t r=>
   unfold aF at hw
   split at hw
   · rename_i hh
     injection hw with h1 h2
     obtain ⟨_,t',r',aJ,e1,e2⟩:=bw hl
     rw [e1] at hh
     rcases e2 with ⟨e2,_⟩ | ⟨_,e2⟩
     · omega
     · rw [e2] at h2
       subst h2
       show aN l.length d r' p sn=aN (r'.length+1) d r' p sn
       rw [aJ];rfl
   · cases hw
set_option maxHeartbeats 16000000 in
theorem Iw (s:ByteArray) (hs:s.size<1000000) (K:Out->List af->Prop)
 (h:K (.ret (.aQ [dE (bo (sB s)).1,.int .i64 (bo (sB s)).2.1,.int .i64 (bo (sB s)).2.2])) []):ah Tryz.prog 11 [.str s] [] K:=by
 refine ah.dv (ag [] 0 Tryz.func11 (by rfl) (by rfl) ?_)
 conv=>whnf
 (repeat' first | (refine aa [] ?_;conv=>whnf) | (refine two ?_ ?_<;>intro g<;>(try simp only[an]at g)<;>(conv=>whnf)) | (refine And.intro rfl ?_;conv=>whnf) | (refine ak (by decide+kernel) ?_;conv=>whnf) | fail)
 refine C9.M8 s hs _ (fun l hl=> ?_) (fun p e hl=> ?_)
 rotate_left
 · rw [xA hl] at h
   have he:=vO hl
   conv=>whnf
   (repeat' first | (refine aa [] ?_;conv=>whnf) | (refine two ?_ ?_<;>intro g<;>(try simp only[an]at g)<;>(conv=>whnf)) | (refine And.intro rfl ?_;conv=>whnf) | (refine ak (by decide+kernel) ?_;conv=>whnf) | fail)
   rotate_left
   · exfalso;omega
   · refine ⟨_,_,ae (.cons (.aQ (.cons (.agg ?_) (.cons (.eq rfl) (.cons (.eq rfl) .nil)))) .nil) .nil rfl rfl rfl,h⟩
     (repeat' first | exact du.nil | refine du.cons VQ.no ?_ | refine du.cons VQ.spare ?_ | refine du.cons (VQ.eq rfl) ?_)
 obtain ⟨fE,c_,bZ,MO,cg,zf⟩:=vN hl (kA s)
 conv=>whnf
 (refine aa [] ?_;conv=>whnf)
 (refine aa [] ?_;conv=>whnf)
 (refine aa [] ?_;conv=>whnf)
 obtain ⟨x0,Ss⟩: ∃x0:RS,x0=⟨{bD with over:=1,roll:=1},[],[],[],[],[],0,0⟩:=⟨_,rfl⟩
 let S1:St:=⟨(.str s:: .undef:: .ptr 0 0:: .int .i64 0:: .int .i64 0:: .sl (kL l) .no:: .undef:: .undef:: .ptr 1 0:: .undef:: .undef:: .undef:: .undef:: .undef:: .undef:: .undef:: .undef:: .undef:: .undef:: .undef:: .undef:: .undef:: .undef:: .undef:: .undef:: .undef:: .undef:: .undef:: .undef:: .undef:: .undef:: .undef:: .undef:: .undef:: .undef:: .undef:: .undef:: .undef:: .undef:: .undef:: .undef:: .undef:: .undef:: .undef:: .undef:: .undef:: .undef:: .undef:: .undef:: .undef:: .undef:: .undef:: .undef:: .undef:: .undef:: .undef:: .undef:: .undef:: .undef:: .undef:: .undef:: .undef:: .undef:: .undef:: .undef:: .undef:: .undef:: .undef:: .undef:: .undef:: .undef:: .undef:: .undef:: .undef:: .undef:: .undef:: .undef:: .undef:: .undef:: .undef:: .undef:: .undef:: .undef:: .undef:: .undef:: .undef:: .undef:: .undef:: .undef:: .undef:: .undef:: .undef:: .undef:: .undef:: .undef:: .undef:: .undef:: .undef:: .undef:: .undef:: .undef:: .undef:: .undef:: .undef:: .undef:: .undef:: .undef:: .undef:: .undef:: .undef:: .undef:: .undef:: .undef:: .undef:: .undef:: .undef:: .undef:: .undef:: .undef:: .undef:: .undef:: .undef:: .undef:: .undef:: .undef:: .undef:: .undef:: .undef:: .undef:: .undef:: .undef:: .undef:: .undef:: .undef:: .undef:: .undef:: .undef:: .undef:: .undef:: .undef:: .undef:: .undef:: .undef::[]),[.cells true 28 zP,.cells true 60 [.sl (kL l) .no,.int .i64 0,.str ⟨#[]⟩,.int .i64 0,.int .i64 0,.int .i64 0,.int .i64 0,.int .i64 0,.int .i64 0,.int .i64 0,.bX 2 2 0 0 0,.int .i64 0,.int .i64 0,.int .i64 0,.int .i64 0,.int .i64 0,.int .i64 1,.bX 3 2 0 0 0,.int .i64 0,.int .i64 1,.bX 4 1 0 0 0,.bX 5 1 0 0 0,.int .i64 0,.int .i64 0],.buf false 2 [],.buf false 2 [],.buf false 1 [],.buf false 1 []],0,[]⟩
 refine eU.dv (s':=S1) (aB.trans (iE 1 10 2 none rfl rfl (Nat.zero_le _)) (aB.trans (iE 1 17 2 none rfl rfl (Nat.zero_le _)) (aB.trans (iE 1 20 1 none rfl rfl (Nat.zero_le _)) (aB.trans (iE 1 21 1 none rfl rfl (Nat.zero_le _)) (ae ?_ (.cons (.eq rfl) (.cons (.eq rfl) (.cons (.eq rfl) (.cons (.eq rfl) (.cons (.eq rfl) (.cons (.eq rfl) .nil)))))) rfl rfl rfl))))) ?_
 · (repeat' first | exact aq.nil | refine aq.cons VW.undef ?_ | refine aq.cons (VW.eq rfl) ?_)
 dsimp only [S1,zP]
 conv=>whnf
 (repeat' first | (refine aa [] ?_;conv=>whnf) | (refine two ?_ ?_<;>intro g<;>(try simp only[an]at g)<;>(conv=>whnf)) | (refine And.intro rfl ?_;conv=>whnf) | (refine ak (by decide+kernel) ?_;conv=>whnf) | fail)
 refine Ee l 0 ⟨{bD with over:=1,roll:=1},[],[],[],[],[],0,0⟩ (fun _=>by rw [List.drop_zero];exact fE) c_ 1 (by decide) cY (by decide) (by decide) _ (fun _ t1 r1 i1 e1 jq Nx=> ?_) (fun _ p e1=> ?_) (fun h=>absurd rfl h)
 rotate_left
 · rw [List.drop_zero] at e1
   have hE:dc l= .err p 7:=by unfold dc;rw [e1];rfl
   conv=>whnf
   (repeat' first | (refine aa [] ?_;conv=>whnf) | (refine two ?_ ?_<;>intro g<;>(try simp only[an]at g)<;>(conv=>whnf)) | (refine And.intro rfl ?_;conv=>whnf) | (refine ak (by decide+kernel) ?_;conv=>whnf) | fail)
   refine qO 0 1 (by decide) l 0 c_ bZ ⟨{bD with over:=1,roll:=1},[],[],[],[],[],7,p⟩ [] (fun h=>absurd (show (7:Int)=0 from h) (by decide)) _ (fun h=>absurd (show (7:Int)=0 from h) (by decide)) (fun h=>absurd (show (7:Int)=0 from h) (by decide)) (fun _=> ?_)
   rw [hZ hl hE] at h
   conv=>whnf
   (repeat' first | (refine aa [] ?_;conv=>whnf) | (refine two ?_ ?_<;>intro g<;>(try simp only[an]at g)<;>(conv=>whnf)) | (refine And.intro rfl ?_;conv=>whnf) | (refine ak (by decide+kernel) ?_;conv=>whnf) | fail)
   refine ⟨_,_,ae (.cons (.aQ (.cons (.agg ?_) (.cons (.eq rfl) (.cons (.eq rfl) .nil)))) .nil) .nil rfl rfl rfl,h⟩
   (repeat' first | exact du.nil | refine du.cons VQ.no ?_ | refine du.cons VQ.spare ?_ | refine du.cons (VQ.eq rfl) ?_)
 rw [List.drop_zero] at e1
 have GB:dc l=(aF 1 [] r1).bind fun t l=>
  open Classical in if dX t.text then (aF 3 [123] l).bind fun _ l=>(aN (l.length+1) 1 l {bD with name:=az t.text,over:=1,roll:=1} []).bind fun q l=>(aF 0 [] l).bind fun _ l=> .ok q l
  else .err t.at_ 7:=by unfold dc;rw [e1];rfl
 have iM:bb (l.drop i1):=by rw [jq];exact Nx
 obtain ⟨PW,Vv⟩:=sY iM
 have TG:=c_.2 _ (fK iM)
 conv=>whnf
 (repeat' first | (refine aa [] ?_;conv=>whnf) | (refine two ?_ ?_<;>intro g<;>(try simp only[an]at g)<;>(conv=>whnf)) | (refine And.intro rfl ?_;conv=>whnf) | (refine ak (by decide+kernel) ?_;conv=>whnf) | (refine ⟨by omega,_,PW,rfl,?_⟩;conv=>whnf) | fail)
 rotate_left
 · have hE:dc l= .err (nx l i1).at_ 7:=by
    rw [GB, ←jq]
    have hw:aF 1 [] (l.drop i1)= .err (nx l i1).at_ 7:=by unfold aF;rw [if_neg (fun hh=>g hh.1)]
    rw [hw];rfl
   refine vS l i1 ⟨{bD with name:=az (nx l i1).text,over:=1,roll:=1},[],[],[],[],[],0,0⟩ (fun _=>iM) _ (fun _=> ?_) (fun h=>absurd rfl h)
   conv=>whnf
   (repeat' first | (refine aa [] ?_;conv=>whnf) | (refine two ?_ ?_<;>intro g<;>(try simp only[an]at g)<;>(conv=>whnf)) | (refine And.intro rfl ?_;conv=>whnf) | (refine ak (by decide+kernel) ?_;conv=>whnf) | fail)
   refine qO 0 1 (by decide) l i1 c_ bZ ⟨{bD with name:=az (nx l i1).text,over:=1,roll:=1},[],[],[],[],[],7,(nx l i1).at_⟩ [] (fun h=>absurd (show (7:Int)=0 from h) (by decide)) _ (fun h=>absurd (show (7:Int)=0 from h) (by decide)) (fun h=>absurd (show (7:Int)=0 from h) (by decide)) (fun _=> ?_)
   rw [hZ hl hE] at h
   conv=>whnf
   (repeat' first | (refine aa [] ?_;conv=>whnf) | (refine two ?_ ?_<;>intro g<;>(try simp only[an]at g)<;>(conv=>whnf)) | (refine And.intro rfl ?_;conv=>whnf) | (refine ak (by decide+kernel) ?_;conv=>whnf) | fail)
   refine ⟨_,_,ae (.cons (.aQ (.cons (.agg ?_) (.cons (.eq rfl) (.cons (.eq rfl) .nil)))) .nil) .nil rfl rfl rfl,h⟩
   (repeat' first | exact du.nil | refine du.cons VQ.no ?_ | refine du.cons VQ.spare ?_ | refine du.cons (VQ.eq rfl) ?_)
 have p7:aF 1 [] (l.drop i1)= .ok (nx l i1) (aC (l.drop i1)).2:=by unfold aF;rw [if_pos ⟨g,.inl rfl⟩]
 have fP:=sx iM (by rw [g];decide)
 have zA:bb (l.drop (i1+1)):=by rw [fP];exact (bw iM).1
 rw [←jq,p7, ←fP] at GB
 refine D8 (az (nx l i1).text) (by rw [bO];exact Nat.lt_trans TG.2 (by decide)) _ ?_
 rw [aT TG.1]
 obtain ⟨b,Bm⟩: ∃b,qC (nx l i1).text=b:=⟨_,rfl⟩
 rw [Bm]
 cases b with
 | false=>
   have dN: ¬dX (nx l i1).text:=fun h=>by rw [(hJ _).2 h] at Bm;cases Bm
   have hE:dc l= .err (nx l i1).at_ 7:=by rw [GB];exact if_neg dN
   conv=>whnf
   (repeat' first | (refine aa [] ?_;conv=>whnf) | (refine two ?_ ?_<;>intro g<;>(try simp only[an]at g)<;>(conv=>whnf)) | (refine And.intro rfl ?_;conv=>whnf) | (refine ak (by decide+kernel) ?_;conv=>whnf) | fail)
   refine vS l i1 ⟨{bD with name:=az (nx l i1).text,over:=1,roll:=1},[],[],[],[],[],0,0⟩ (fun _=>iM) _ (fun _=> ?_) (fun h=>absurd rfl h)
   conv=>whnf
   (repeat' first | (refine aa [] ?_;conv=>whnf) | (refine two ?_ ?_<;>intro g<;>(try simp only[an]at g)<;>(conv=>whnf)) | (refine And.intro rfl ?_;conv=>whnf) | (refine ak (by decide+kernel) ?_;conv=>whnf) | fail)
   refine qO 0 1 (by decide) l i1 c_ bZ ⟨{bD with name:=az (nx l i1).text,over:=1,roll:=1},[],[],[],[],[],7,(nx l i1).at_⟩ [] (fun h=>absurd (show (7:Int)=0 from h) (by decide)) _ (fun h=>absurd (show (7:Int)=0 from h) (by decide)) (fun h=>absurd (show (7:Int)=0 from h) (by decide)) (fun _=> ?_)
   rw [hZ hl hE] at h
   conv=>whnf
   (repeat' first | (refine aa [] ?_;conv=>whnf) | (refine two ?_ ?_<;>intro g<;>(try simp only[an]at g)<;>(conv=>whnf)) | (refine And.intro rfl ?_;conv=>whnf) | (refine ak (by decide+kernel) ?_;conv=>whnf) | fail)
   refine ⟨_,_,ae (.cons (.aQ (.cons (.agg ?_) (.cons (.eq rfl) (.cons (.eq rfl) .nil)))) .nil) .nil rfl rfl rfl,h⟩
   (repeat' first | exact du.nil | refine du.cons VQ.no ?_ | refine du.cons VQ.spare ?_ | refine du.cons (VQ.eq rfl) ?_)
 | true=>
 have eZ:dX (nx l i1).text:=(hJ _).1 Bm
 have iN:=c_.1
 have Vw:=PV (d:=1) (p:= {bD with name:=az (nx l i1).text,over:=1,roll:=1}) (sn:=[]) (by decide) zA
 have GB:dc l=(aF 3 [123] (l.drop (i1+1))).bind fun _ l'=>(aN (l'.length+1) 1 l' {bD with name:=az (nx l i1).text,over:=1,roll:=1} []).bind fun q l=>(aF 0 [] l).bind fun _ l=> .ok q l:=by
  rw [GB];exact if_pos eZ
 have sN:dc l=(gS (l.drop (i1+1)).length 1 (l.drop (i1+1)) {bD with name:=az (nx l i1).text,over:=1,roll:=1} []).bind fun q l=>(aF 0 [] l).bind fun _ l=> .ok q l:=by
  rw [GB,Vw]
  cases aF 3 [123] (l.drop (i1+1))<;>rfl
 conv=>whnf
 (repeat' first | (refine aa [] ?_;conv=>whnf) | (refine two ?_ ?_<;>intro g<;>(try simp only[an]at g)<;>(conv=>whnf)) | (refine And.intro rfl ?_;conv=>whnf) | (refine ak (by decide+kernel) ?_;conv=>whnf) | fail)
 refine A2 l i1 ⟨{bD with name:=az (nx l i1).text,over:=1,roll:=1},[],[],[],[],[],0,0⟩ (by omega) _ ?_
 conv=>whnf
 (repeat' first | (refine aa [] ?_;conv=>whnf) | (refine two ?_ ?_<;>intro g<;>(try simp only[an]at g)<;>(conv=>whnf)) | (refine And.intro rfl ?_;conv=>whnf) | (refine ak (by decide+kernel) ?_;conv=>whnf) | fail)
 have Cf:(l.drop (i1+1)).length<=l.length:=by rw [List.length_drop];omega
 refine qO (l.drop (i1+1)).length 1 (by decide) l (i1+1) c_ bZ ⟨{bD with name:=az (nx l i1).text,over:=1,roll:=1},[],[],[],[],[],0,0⟩ [] (fun _=>⟨zA,Nat.le_refl _,⟨fun _=>Iff.rfl,by simp⟩,⟨by show 0+0+0+_<_;omega,by show 0+_<_;omega⟩⟩) _ (fun _ q r i2 x2 e2 sX yX Ea r8 xC Ik=> ?_) (fun _ p i2 x2 e2 NG xC=> ?_) (fun h=>absurd rfl h)
 rotate_left
 · have hE:dc l= .err p x2.err:=by rw [sN,e2];rfl
   rw [hZ hl hE] at h
   conv=>whnf
   (repeat' first | (refine aa [] ?_;conv=>whnf) | (refine two ?_ ?_<;>intro g<;>(try simp only[an]at g)<;>(conv=>whnf)) | (refine And.intro rfl ?_;conv=>whnf) | (refine ak (by decide+kernel) ?_;conv=>whnf) | fail)
   all_goals first
    | exact absurd (by assumption) xC
    | (rw [←NG] at h
       refine ⟨_,_,ae (.cons (.aQ (.cons (.agg ?_) (.cons (.eq rfl) (.cons (.eq rfl) .nil)))) .nil) .nil rfl rfl rfl,h⟩
       (repeat' first | exact du.nil | refine du.cons VQ.no ?_ | refine du.cons VQ.spare ?_ | refine du.cons (VQ.eq rfl) ?_))
 obtain ⟨p2,u1,u2,u3,hh,u4,WS,Vx⟩:=x2
 simp only at Ea r8 xC Ik
 subst xC
 have N2:bb (l.drop i2):=by rw [sX];exact yX
 obtain ⟨PX,Vy⟩:=sY N2
 rw [e2] at sN
 have sN:dc l=(aF 0 [] r).bind fun _ l=> .ok q l:=sN
 rw [←sX] at sN
 conv=>whnf
 (repeat' first | (refine aa [] ?_;conv=>whnf) | (refine two ?_ ?_<;>intro g<;>(try simp only[an]at g)<;>(conv=>whnf)) | (refine And.intro rfl ?_;conv=>whnf) | (refine ak (by decide+kernel) ?_;conv=>whnf) | (refine ⟨by omega,_,PX,rfl,?_⟩;conv=>whnf) | fail)
 · have hE:dc l= .err (nx l i2).at_ 7:=by
    rw [sN]
    have hw:aF 0 [] (l.drop i2)= .err (nx l i2).at_ 7:=by unfold aF;rw [if_neg (fun hh=>g hh.1)]
    rw [hw];rfl
   rw [hZ hl hE] at h
   refine mM l i2 ⟨p2,u1,u2,u3,hh,u4,0,Vx⟩ (fun _=>N2) 7 _ (fun _=> ?_) (fun h=>absurd rfl h)
   conv=>whnf
   (repeat' first | (refine aa [] ?_;conv=>whnf) | (refine two ?_ ?_<;>intro g<;>(try simp only[an]at g)<;>(conv=>whnf)) | (refine And.intro rfl ?_;conv=>whnf) | (refine ak (by decide+kernel) ?_;conv=>whnf) | fail)
   refine ⟨_,_,ae (.cons (.aQ (.cons (.agg ?_) (.cons (.eq rfl) (.cons (.eq rfl) .nil)))) .nil) .nil rfl rfl rfl,h⟩
   (repeat' first | exact du.nil | refine du.cons VQ.no ?_ | refine du.cons VQ.spare ?_ | refine du.cons (VQ.eq rfl) ?_)
 have Ph:aF 0 [] (l.drop i2)= .ok (nx l i2) (aC (l.drop i2)).2:=by unfold aF;rw [if_pos ⟨g,.inl rfl⟩]
 have hT:dc l= .ok q (aC (l.drop i2)).2:=by rw [sN,Ph];rfl
 obtain ⟨_,t,r0,aJ,Bx,_⟩:=bw fE
 have aD:(kL l)[Int.toNat 0]? =some (my t):=by rw [aJ];rfl
 have dN: ¬(hQ q.2/\bA q.1)->K (.ret (.aQ [dE bD,.int .i64 (t.at_:Nat),.int .i64 9])) []:=fun hh=>by rw [AZ hl hT hh,Bx] at h;exact h
 have L3:hQ q.2->bA q.1->K (.ret (.aQ [dE q.1,.int .i64 0,.int .i64 0])) []:=fun a b=>by rw [rV hl hT a b] at h;exact h
 have hI:=Ec (fun t ht=>(c_.2 t ht).2) fE hT
 rw [←Ea] at hI dN L3
 have NB:p2.ok:=hI.full (by have:=Ik.1;simp only at this;omega) (by have:=Ik.1;simp only at this;omega) (by have:=Ik.1;simp only at this;omega)
 have Hq:hh.length<1000000:=by have:=Ik.2;simp only at this;omega
 clear h Ik
 (repeat' first | (refine aa [] ?_;conv=>whnf) | (refine two ?_ ?_<;>intro g<;>(try simp only[an]at g)<;>(conv=>whnf)) | (refine And.intro rfl ?_;conv=>whnf) | (refine ai [] ?_;conv=>whnf) | (refine ⟨by decide,_,rfl,rfl,?_⟩;conv=>whnf) | (refine ⟨_,aB.refl,?_⟩;conv=>whnf) | fail)
 refine ah.nJ ?_
 conv=>whnf
 refine ⟨by simp [sL],?_⟩
 rw [A6]
 conv=>whnf
 refine oX hh ⟨#[99,111,117,110,116]⟩ Hq r8.2 _ ?_
 rw [show sB ⟨#[99,111,117,110,116]⟩=cK by decide]
 by_cases jg:cK∈hh
 rotate_left
 · rw [(j3 _).2 jg]
   conv=>whnf
   refine ⟨rfl,?_⟩
   conv=>whnf
   (repeat' first | (refine aa [] ?_;conv=>whnf) | (refine two ?_ ?_<;>intro g<;>(try simp only[an]at g)<;>(conv=>whnf)) | (refine And.intro rfl ?_;conv=>whnf) | (refine ai [] ?_;conv=>whnf) | (refine ⟨by decide,_,rfl,rfl,?_⟩;conv=>whnf) | (refine ⟨by decide,_,aD,rfl,?_⟩;conv=>whnf) | (refine ⟨_,aB.refl,?_⟩;conv=>whnf) | fail)
   have hf:=dN fun h=>jg ((r8.1 _).2 h.1.1)
   refine ⟨_,_,ae (.cons (.aQ (.cons (.agg ?_) (.cons (.eq rfl) (.cons (.eq rfl) .nil)))) .nil) .nil rfl rfl rfl,hf⟩
   (repeat' first | exact du.nil | refine du.cons VQ.no ?_ | refine du.cons VQ.spare ?_ | refine du.cons (VQ.eq rfl) ?_)
 rw [(gv _).2 jg]
 conv=>whnf
 refine ⟨rfl,?_⟩
 conv=>whnf
 (repeat' first | (refine aa [] ?_;conv=>whnf) | (refine two ?_ ?_<;>intro g<;>(try simp only[an]at g)<;>(conv=>whnf)) | (refine And.intro rfl ?_;conv=>whnf) | (refine ai [] ?_;conv=>whnf) | (refine ⟨by decide,_,rfl,rfl,?_⟩;conv=>whnf) | (refine ⟨_,aB.refl,?_⟩;conv=>whnf) | fail)
 refine ah.nJ ?_
 conv=>whnf
 refine ⟨by simp [sL],?_⟩
 rw [A6]
 conv=>whnf
 refine oX hh ⟨#[114,111,117,110,100]⟩ Hq r8.2 _ ?_
 rw [show sB ⟨#[114,111,117,110,100]⟩=cL by decide]
 by_cases jh:cL∈hh
 rotate_left
 · rw [(j3 _).2 jh]
   conv=>whnf
   refine ⟨rfl,?_⟩
   conv=>whnf
   (repeat' first | (refine aa [] ?_;conv=>whnf) | (refine two ?_ ?_<;>intro g<;>(try simp only[an]at g)<;>(conv=>whnf)) | (refine And.intro rfl ?_;conv=>whnf) | (refine ai [] ?_;conv=>whnf) | (refine ⟨by decide,_,rfl,rfl,?_⟩;conv=>whnf) | (refine ⟨by decide,_,aD,rfl,?_⟩;conv=>whnf) | (refine ⟨_,aB.refl,?_⟩;conv=>whnf) | fail)
   have hf:=dN fun h=>jh ((r8.1 _).2 h.1.2.1)
   refine ⟨_,_,ae (.cons (.aQ (.cons (.agg ?_) (.cons (.eq rfl) (.cons (.eq rfl) .nil)))) .nil) .nil rfl rfl rfl,hf⟩
   (repeat' first | exact du.nil | refine du.cons VQ.no ?_ | refine du.cons VQ.spare ?_ | refine du.cons (VQ.eq rfl) ?_)
 rw [(gv _).2 jh]
 conv=>whnf
 refine ⟨rfl,?_⟩
 conv=>whnf
 (repeat' first | (refine aa [] ?_;conv=>whnf) | (refine two ?_ ?_<;>intro g<;>(try simp only[an]at g)<;>(conv=>whnf)) | (refine And.intro rfl ?_;conv=>whnf) | (refine ai [] ?_;conv=>whnf) | (refine ⟨by decide,_,rfl,rfl,?_⟩;conv=>whnf) | (refine ⟨_,aB.refl,?_⟩;conv=>whnf) | fail)
 refine ah.nJ ?_
 conv=>whnf
 refine ⟨by simp [sL],?_⟩
 rw [A6]
 conv=>whnf
 refine oX hh ⟨#[107,105,110,100]⟩ Hq r8.2 _ ?_
 rw [show sB ⟨#[107,105,110,100]⟩=dK by decide]
 by_cases mI:dK∈hh
 rotate_left
 · rw [(j3 _).2 mI]
   conv=>whnf
   refine ⟨rfl,?_⟩
   conv=>whnf
   (repeat' first | (refine aa [] ?_;conv=>whnf) | (refine two ?_ ?_<;>intro g<;>(try simp only[an]at g)<;>(conv=>whnf)) | (refine And.intro rfl ?_;conv=>whnf) | (refine ai [] ?_;conv=>whnf) | (refine ⟨by decide,_,rfl,rfl,?_⟩;conv=>whnf) | (refine ⟨by decide,_,aD,rfl,?_⟩;conv=>whnf) | (refine ⟨_,aB.refl,?_⟩;conv=>whnf) | fail)
   have hf:=dN fun h=>mI ((r8.1 _).2 h.1.2.2.1)
   refine ⟨_,_,ae (.cons (.aQ (.cons (.agg ?_) (.cons (.eq rfl) (.cons (.eq rfl) .nil)))) .nil) .nil rfl rfl rfl,hf⟩
   (repeat' first | exact du.nil | refine du.cons VQ.no ?_ | refine du.cons VQ.spare ?_ | refine du.cons (VQ.eq rfl) ?_)
 rw [(gv _).2 mI]
 conv=>whnf
 refine ⟨rfl,?_⟩
 conv=>whnf
 (repeat' first | (refine aa [] ?_;conv=>whnf) | (refine two ?_ ?_<;>intro g<;>(try simp only[an]at g)<;>(conv=>whnf)) | (refine And.intro rfl ?_;conv=>whnf) | (refine ai [] ?_;conv=>whnf) | (refine ⟨by decide,_,rfl,rfl,?_⟩;conv=>whnf) | (refine ⟨_,aB.refl,?_⟩;conv=>whnf) | fail)
 refine ah.nJ ?_
 conv=>whnf
 refine ⟨by simp [sL],?_⟩
 rw [A6]
 conv=>whnf
 refine oX hh ⟨#[101,118,101,114,121]⟩ Hq r8.2 _ ?_
 rw [show sB ⟨#[101,118,101,114,121]⟩=cM by decide]
 by_cases ji:cM∈hh
 rotate_left
 · rw [(j3 _).2 ji]
   conv=>whnf
   refine ⟨rfl,?_⟩
   conv=>whnf
   (repeat' first | (refine aa [] ?_;conv=>whnf) | (refine two ?_ ?_<;>intro g<;>(try simp only[an]at g)<;>(conv=>whnf)) | (refine And.intro rfl ?_;conv=>whnf) | (refine ai [] ?_;conv=>whnf) | (refine ⟨by decide,_,rfl,rfl,?_⟩;conv=>whnf) | (refine ⟨by decide,_,aD,rfl,?_⟩;conv=>whnf) | (refine ⟨_,aB.refl,?_⟩;conv=>whnf) | fail)
   have hf:=dN fun h=>ji ((r8.1 _).2 h.1.2.2.2.1)
   refine ⟨_,_,ae (.cons (.aQ (.cons (.agg ?_) (.cons (.eq rfl) (.cons (.eq rfl) .nil)))) .nil) .nil rfl rfl rfl,hf⟩
   (repeat' first | exact du.nil | refine du.cons VQ.no ?_ | refine du.cons VQ.spare ?_ | refine du.cons (VQ.eq rfl) ?_)
 rw [(gv _).2 ji]
 conv=>whnf
 refine ⟨rfl,?_⟩
 conv=>whnf
 (repeat' first | (refine aa [] ?_;conv=>whnf) | (refine two ?_ ?_<;>intro g<;>(try simp only[an]at g)<;>(conv=>whnf)) | (refine And.intro rfl ?_;conv=>whnf) | (refine ai [] ?_;conv=>whnf) | (refine ⟨by decide,_,rfl,rfl,?_⟩;conv=>whnf) | (refine ⟨_,aB.refl,?_⟩;conv=>whnf) | fail)
 refine ah.nJ ?_
 conv=>whnf
 refine ⟨by simp [sL],?_⟩
 rw [A6]
 conv=>whnf
 refine oX hh ⟨#[116,105,109,101,115]⟩ Hq r8.2 _ ?_
 rw [show sB ⟨#[116,105,109,101,115]⟩=cN by decide]
 by_cases jj:cN∈hh
 rotate_left
 · rw [(j3 _).2 jj]
   conv=>whnf
   refine ⟨rfl,?_⟩
   conv=>whnf
   (repeat' first | (refine aa [] ?_;conv=>whnf) | (refine two ?_ ?_<;>intro g<;>(try simp only[an]at g)<;>(conv=>whnf)) | (refine And.intro rfl ?_;conv=>whnf) | (refine ai [] ?_;conv=>whnf) | (refine ⟨by decide,_,rfl,rfl,?_⟩;conv=>whnf) | (refine ⟨by decide,_,aD,rfl,?_⟩;conv=>whnf) | (refine ⟨_,aB.refl,?_⟩;conv=>whnf) | fail)
   have hf:=dN fun h=>jj ((r8.1 _).2 h.1.2.2.2.2.1)
   refine ⟨_,_,ae (.cons (.aQ (.cons (.agg ?_) (.cons (.eq rfl) (.cons (.eq rfl) .nil)))) .nil) .nil rfl rfl rfl,hf⟩
   (repeat' first | exact du.nil | refine du.cons VQ.no ?_ | refine du.cons VQ.spare ?_ | refine du.cons (VQ.eq rfl) ?_)
 rw [(gv _).2 jj]
 conv=>whnf
 refine ⟨rfl,?_⟩
 conv=>whnf
 (repeat' first | (refine aa [] ?_;conv=>whnf) | (refine two ?_ ?_<;>intro g<;>(try simp only[an]at g)<;>(conv=>whnf)) | (refine And.intro rfl ?_;conv=>whnf) | (refine ai [] ?_;conv=>whnf) | (refine ⟨by decide,_,rfl,rfl,?_⟩;conv=>whnf) | (refine ⟨_,aB.refl,?_⟩;conv=>whnf) | fail)
 refine ah.nJ ?_
 conv=>whnf
 refine ⟨by simp [sL],?_⟩
 rw [A6]
 conv=>whnf
 refine oX hh ⟨#[114,97,116,101]⟩ Hq r8.2 _ ?_
 rw [show sB ⟨#[114,97,116,101]⟩=dL by decide]
 by_cases mJ:dL∈hh
 rotate_left
 · rw [(j3 _).2 mJ]
   conv=>whnf
   refine ⟨rfl,?_⟩
   conv=>whnf
   (repeat' first | (refine aa [] ?_;conv=>whnf) | (refine two ?_ ?_<;>intro g<;>(try simp only[an]at g)<;>(conv=>whnf)) | (refine And.intro rfl ?_;conv=>whnf) | (refine ai [] ?_;conv=>whnf) | (refine ⟨by decide,_,rfl,rfl,?_⟩;conv=>whnf) | (refine ⟨by decide,_,aD,rfl,?_⟩;conv=>whnf) | (refine ⟨_,aB.refl,?_⟩;conv=>whnf) | fail)
   have hf:=dN fun h=>mJ ((r8.1 _).2 h.1.2.2.2.2.2.1)
   refine ⟨_,_,ae (.cons (.aQ (.cons (.agg ?_) (.cons (.eq rfl) (.cons (.eq rfl) .nil)))) .nil) .nil rfl rfl rfl,hf⟩
   (repeat' first | exact du.nil | refine du.cons VQ.no ?_ | refine du.cons VQ.spare ?_ | refine du.cons (VQ.eq rfl) ?_)
 rw [(gv _).2 mJ]
 conv=>whnf
 refine ⟨rfl,?_⟩
 conv=>whnf
 (repeat' first | (refine aa [] ?_;conv=>whnf) | (refine two ?_ ?_<;>intro g<;>(try simp only[an]at g)<;>(conv=>whnf)) | (refine And.intro rfl ?_;conv=>whnf) | (refine ai [] ?_;conv=>whnf) | (refine ⟨by decide,_,rfl,rfl,?_⟩;conv=>whnf) | (refine ⟨_,aB.refl,?_⟩;conv=>whnf) | fail)
 refine ah.nJ ?_
 conv=>whnf
 refine ⟨by simp [sL],?_⟩
 rw [A6]
 conv=>whnf
 refine oX hh ⟨#[111,114,100,101,114]⟩ Hq r8.2 _ ?_
 rw [show sB ⟨#[111,114,100,101,114]⟩=cG by decide]
 by_cases jk:cG∈hh
 rotate_left
 · rw [(j3 _).2 jk]
   conv=>whnf
   refine ⟨rfl,?_⟩
   conv=>whnf
   (repeat' first | (refine aa [] ?_;conv=>whnf) | (refine two ?_ ?_<;>intro g<;>(try simp only[an]at g)<;>(conv=>whnf)) | (refine And.intro rfl ?_;conv=>whnf) | (refine ai [] ?_;conv=>whnf) | (refine ⟨by decide,_,rfl,rfl,?_⟩;conv=>whnf) | (refine ⟨by decide,_,aD,rfl,?_⟩;conv=>whnf) | (refine ⟨_,aB.refl,?_⟩;conv=>whnf) | fail)
   have hf:=dN fun h=>jk ((r8.1 _).2 h.1.2.2.2.2.2.2)
   refine ⟨_,_,ae (.cons (.aQ (.cons (.agg ?_) (.cons (.eq rfl) (.cons (.eq rfl) .nil)))) .nil) .nil rfl rfl rfl,hf⟩
   (repeat' first | exact du.nil | refine du.cons VQ.no ?_ | refine du.cons VQ.spare ?_ | refine du.cons (VQ.eq rfl) ?_)
 rw [(gv _).2 jk]
 conv=>whnf
 refine ⟨rfl,?_⟩
 conv=>whnf
 (repeat' first | (refine aa [] ?_;conv=>whnf) | (refine two ?_ ?_<;>intro g<;>(try simp only[an]at g)<;>(conv=>whnf)) | (refine And.intro rfl ?_;conv=>whnf) | (refine ai [] ?_;conv=>whnf) | (refine ⟨by decide,_,rfl,rfl,?_⟩;conv=>whnf) | (refine ⟨_,aB.refl,?_⟩;conv=>whnf) | fail)
 have hw:hQ q.2:=⟨(r8.1 _).1 jg,(r8.1 _).1 jh,(r8.1 _).1 mI,(r8.1 _).1 ji,(r8.1 _).1 jj,(r8.1 _).1 mJ,(r8.1 _).1 jk⟩
 refine ah.nJ ?_
 conv=>whnf
 refine ⟨by simp [rL],?_⟩
 conv=>whnf
 refine ⟨by simp [tL],?_⟩
 conv=>whnf
 refine ⟨by simp [iL],?_⟩
 conv=>whnf
 rw [Ny,Nz,NA]
 refine vH p2 NB.w _ ?_
 conv=>whnf
 refine ⟨rfl,?_⟩
 conv=>whnf
 have F9:bA p2->cS p2=0:=fun hh=>by unfold cS;rw [if_pos hh]
 have Dp: ¬bA p2->cS p2=9:=fun hh=>by unfold cS;rw [if_neg hh]
 obtain ⟨cc,KS⟩: ∃cc,cS p2=cc:=⟨_,rfl⟩
 rw [KS] at F9 Dp ⊢
 (repeat' first | (refine aa [] ?_;conv=>whnf) | (refine two ?_ ?_<;>intro g<;>(try simp only[an]at g)<;>(conv=>whnf)) | (refine And.intro rfl ?_;conv=>whnf) | (refine ⟨by decide,_,aD,rfl,?_⟩;conv=>whnf) | fail)
 · have hf:=dN fun hh=>g (F9 hh.2)
   refine ⟨_,_,ae (.cons (.aQ (.cons (.agg ?_) (.cons (.eq rfl) (.cons (.eq rfl) .nil)))) .nil) .nil rfl rfl rfl,hf⟩
   (repeat' first | exact du.nil | refine du.cons VQ.no ?_ | refine du.cons VQ.spare ?_ | refine du.cons (VQ.eq rfl) ?_)
 · have gb:bA p2:=by
    by_cases hh:bA p2
    · exact hh
    · have:=Dp hh;omega
   have hf:=L3 hw gb
   exact AY (s1:=u1) (s2:=u2) (s3:=u3) hf
end Sz
namespace QB
open Go Go.Proofs VL D1 eG C1 C2 c5 dj C6 oY pJ
theorem Ix (m:Nat) (a b:Int):wH (VL.sys Tryz.prog m []).P 68 [.int .i64 a,.int .i64 b]=true:=by kernel_rfl
theorem Iy (a:Rs) (K:Out->List af->Prop) (h:K (.ret (.bool true)) []):ah Tryz.prog 64 [m_ a,m_ a] [] K:=by
 refine ag [] 0 Tryz.func64 (by rfl) (by rfl) ?_
 conv=>whnf
 repeat' first
  | (refine aa [] ?_;conv=>whnf)
  | (rw [Ix];conv=>whnf)
 refine Eq.mp (congrArg (fun b=>K (.ret (.bool b)) []) ?_) h
 simp
theorem Iz (l:List Rs) (hl:l.length<1000000) (K:Out->List af->Prop) (h:K (.ret (.bool true)) []):ah Tryz.prog 63 [.sl (rL l) .no,.sl (rL l) .no,.fn (.func 64) [] []] [] K:=by
 have hlen:(rL l).length=l.length:=by simp [rL]
 refine ag [] 0 Tryz.func63 (by rfl) (by rfl) ?_
 conv=>whnf
 (repeat' first | (refine aa [] ?_;conv=>whnf) | (refine two ?_ ?_<;>intro g<;>(try simp only[an]at g)<;>(conv=>whnf)) | (refine And.intro rfl ?_;conv=>whnf) | fail)
 · exact absurd trivial g
 let S:Nat->St:=fun i=>⟨(.sl (rL l) .no:: .sl (rL l) .no:: .fn (.func 64) [] []:: .undef:: .undef:: .undef:: .bool false:: .int .i64 (i:Nat):: .undef:: .undef:: .undef:: .undef:: .undef:: .undef:: .undef:: .undef:: .undef:: .undef:: .undef:: .undef:: .undef:: .undef:: .undef:: .undef:: .undef:: .undef:: .undef:: .undef:: .undef:: .undef::[]),[],0,[]⟩
 refine aA.enter (s':=S 0) (ae ?_ .nil rfl rfl rfl) (aA.dC S (fun i=>l.length - i) (fun i=>i<=l.length) ?_ 0 (Nat.zero_le _))
 · (repeat' first | exact aq.nil | refine aq.cons VW.undef ?_ | refine aq.cons (VW.eq rfl) ?_)
 intro i hi ih
 refine ai [] ?_;conv=>whnf
 (repeat' first | (refine aa [] ?_;conv=>whnf) | (refine two ?_ ?_<;>intro g<;>(try simp only[an]at g)<;>(conv=>whnf)) | (refine And.intro rfl ?_;conv=>whnf) | fail)
 · rw [hlen] at g
   have cV:i<l.length:=by omega
   have aD:(rL l)[(i:Int).toNat]? =some (m_ (l[i])):=by rw [Int.toNat_natCast];simp [rL,List.getElem?_eq_getElem cV]
   (repeat' first | (refine aa [] ?_;conv=>whnf) | (refine two ?_ ?_<;>intro g<;>(try simp only[an]at g)<;>(conv=>whnf)) | (refine And.intro rfl ?_;conv=>whnf) | (refine ak (by decide+kernel) ?_;conv=>whnf) | (refine ⟨by omega,_,aD,rfl,?_⟩;conv=>whnf) | (refine Iy _ _ ?_;conv=>whnf) | fail)
   have wi:IntKind.i64.wrap ((i:Int)+1)=((i+1:Nat):Int):=by rw [wrap64 (by omega) (by omega)];omega
   exact ⟨S (i+1),ae (by rw [wi];(repeat' first | exact aq.nil | refine aq.cons VW.undef ?_ | refine aq.cons (VW.eq rfl) ?_)) .nil rfl rfl rfl,ih (i+1) (by omega) (by omega)⟩
 · refine ⟨_,aB.refl,?_⟩;conv=>whnf
   (repeat' first | (refine aa [] ?_;conv=>whnf) | (refine two ?_ ?_<;>intro g<;>(try simp only[an]at g)<;>(conv=>whnf)) | (refine And.intro rfl ?_;conv=>whnf) | fail)
   exact h
theorem IA (l:List Rs) (hl:l.length<1000000) (K:Out->List af->Prop) (h:K (.ret (.bool true)) []):ah Tryz.prog 30 [.sl (rL l) .no,.sl (rL l) .no] [] K:=by
 refine ag [] 0 Tryz.func30 (by rfl) (by rfl) ?_
 conv=>whnf
 (repeat' first | (refine aa [] ?_;conv=>whnf) | (refine two ?_ ?_<;>intro g<;>(try simp only[an]at g)<;>(conv=>whnf)) | (refine And.intro rfl ?_;conv=>whnf) | (refine Iz l hl _ ?_;conv=>whnf) | fail)
 exact h
theorem KZ (m:Nat) (a b:Int):wH (VL.sys Tryz.prog m []).P 71 [.int .i64 a,.int .i64 b]=true:=by kernel_rfl
theorem K1 (a:Ti) (K:Out->List af->Prop) (h:K (.ret (.bool true)) []):ah Tryz.prog 66 [na a,na a] [] K:=by
 refine ag [] 0 Tryz.func66 (by rfl) (by rfl) ?_
 conv=>whnf
 repeat' first
  | (refine aa [] ?_;conv=>whnf)
  | (rw [KZ];conv=>whnf)
 refine Eq.mp (congrArg (fun b=>K (.ret (.bool b)) []) ?_) h
 simp
theorem K2 (l:List Ti) (hl:l.length<1000000) (K:Out->List af->Prop) (h:K (.ret (.bool true)) []):ah Tryz.prog 65 [.sl (tL l) .no,.sl (tL l) .no,.fn (.func 66) [] []] [] K:=by
 have hlen:(tL l).length=l.length:=by simp [tL]
 refine ag [] 0 Tryz.func65 (by rfl) (by rfl) ?_
 conv=>whnf
 (repeat' first | (refine aa [] ?_;conv=>whnf) | (refine two ?_ ?_<;>intro g<;>(try simp only[an]at g)<;>(conv=>whnf)) | (refine And.intro rfl ?_;conv=>whnf) | fail)
 · exact absurd trivial g
 let S:Nat->St:=fun i=>⟨(.sl (tL l) .no:: .sl (tL l) .no:: .fn (.func 66) [] []:: .undef:: .undef:: .undef:: .bool false:: .int .i64 (i:Nat):: .undef:: .undef:: .undef:: .undef:: .undef:: .undef:: .undef:: .undef:: .undef:: .undef:: .undef:: .undef:: .undef:: .undef:: .undef:: .undef:: .undef:: .undef:: .undef:: .undef:: .undef:: .undef::[]),[],0,[]⟩
 refine aA.enter (s':=S 0) (ae ?_ .nil rfl rfl rfl) (aA.dC S (fun i=>l.length - i) (fun i=>i<=l.length) ?_ 0 (Nat.zero_le _))
 · (repeat' first | exact aq.nil | refine aq.cons VW.undef ?_ | refine aq.cons (VW.eq rfl) ?_)
 intro i hi ih
 refine ai [] ?_;conv=>whnf
 (repeat' first | (refine aa [] ?_;conv=>whnf) | (refine two ?_ ?_<;>intro g<;>(try simp only[an]at g)<;>(conv=>whnf)) | (refine And.intro rfl ?_;conv=>whnf) | fail)
 · rw [hlen] at g
   have cV:i<l.length:=by omega
   have aD:(tL l)[(i:Int).toNat]? =some (na (l[i])):=by rw [Int.toNat_natCast];simp [tL,List.getElem?_eq_getElem cV]
   (repeat' first | (refine aa [] ?_;conv=>whnf) | (refine two ?_ ?_<;>intro g<;>(try simp only[an]at g)<;>(conv=>whnf)) | (refine And.intro rfl ?_;conv=>whnf) | (refine ak (by decide+kernel) ?_;conv=>whnf) | (refine ⟨by omega,_,aD,rfl,?_⟩;conv=>whnf) | (refine K1 _ _ ?_;conv=>whnf) | fail)
   have wi:IntKind.i64.wrap ((i:Int)+1)=((i+1:Nat):Int):=by rw [wrap64 (by omega) (by omega)];omega
   exact ⟨S (i+1),ae (by rw [wi];(repeat' first | exact aq.nil | refine aq.cons VW.undef ?_ | refine aq.cons (VW.eq rfl) ?_)) .nil rfl rfl rfl,ih (i+1) (by omega) (by omega)⟩
 · refine ⟨_,aB.refl,?_⟩;conv=>whnf
   (repeat' first | (refine aa [] ?_;conv=>whnf) | (refine two ?_ ?_<;>intro g<;>(try simp only[an]at g)<;>(conv=>whnf)) | (refine And.intro rfl ?_;conv=>whnf) | fail)
   exact h
theorem K3 (l:List Ti) (hl:l.length<1000000) (K:Out->List af->Prop) (h:K (.ret (.bool true)) []):ah Tryz.prog 31 [.sl (tL l) .no,.sl (tL l) .no] [] K:=by
 refine ag [] 0 Tryz.func31 (by rfl) (by rfl) ?_
 conv=>whnf
 (repeat' first | (refine aa [] ?_;conv=>whnf) | (refine two ?_ ?_<;>intro g<;>(try simp only[an]at g)<;>(conv=>whnf)) | (refine And.intro rfl ?_;conv=>whnf) | (refine K2 l hl _ ?_;conv=>whnf) | fail)
 exact h
theorem eq_int (a:Int) (K:Out->List af->Prop) (h:K (.ret (.bool true)) []):ah Tryz.prog 68 [.int .i64 a,.int .i64 a] [] K:=by
 refine ag [] 0 Tryz.func68 (by rfl) (by rfl) ?_
 conv=>whnf
 repeat' first
  | (refine aa [] ?_;conv=>whnf)
  | fail
 refine Eq.mp (congrArg (fun b=>K (.ret (.bool b)) []) ?_) h
 simp
theorem NH (l:List Int) (hl:l.length<1000000) (K:Out->List af->Prop) (h:K (.ret (.bool true)) []):ah Tryz.prog 67 [.sl (iL l) .no,.sl (iL l) .no,.fn (.func 68) [] []] [] K:=by
 have hlen:(iL l).length=l.length:=by simp [iL]
 refine ag [] 0 Tryz.func67 (by rfl) (by rfl) ?_
 conv=>whnf
 (repeat' first | (refine aa [] ?_;conv=>whnf) | (refine two ?_ ?_<;>intro g<;>(try simp only[an]at g)<;>(conv=>whnf)) | (refine And.intro rfl ?_;conv=>whnf) | fail)
 · exact absurd trivial g
 let S:Nat->St:=fun i=>⟨(.sl (iL l) .no:: .sl (iL l) .no:: .fn (.func 68) [] []:: .undef:: .undef:: .undef:: .bool false:: .int .i64 (i:Nat):: .undef:: .undef:: .undef:: .undef:: .undef:: .undef:: .undef:: .undef:: .undef:: .undef:: .undef:: .undef:: .undef:: .undef:: .undef:: .undef:: .undef:: .undef:: .undef:: .undef:: .undef:: .undef::[]),[],0,[]⟩
 refine aA.enter (s':=S 0) (ae ?_ .nil rfl rfl rfl) (aA.dC S (fun i=>l.length - i) (fun i=>i<=l.length) ?_ 0 (Nat.zero_le _))
 · (repeat' first | exact aq.nil | refine aq.cons VW.undef ?_ | refine aq.cons (VW.eq rfl) ?_)
 intro i hi ih
 refine ai [] ?_;conv=>whnf
 (repeat' first | (refine aa [] ?_;conv=>whnf) | (refine two ?_ ?_<;>intro g<;>(try simp only[an]at g)<;>(conv=>whnf)) | (refine And.intro rfl ?_;conv=>whnf) | fail)
 · rw [hlen] at g
   have cV:i<l.length:=by omega
   have aD:(iL l)[(i:Int).toNat]? =some ((V.int .i64) (l[i])):=by rw [Int.toNat_natCast];simp [iL,List.getElem?_eq_getElem cV]
   (repeat' first | (refine aa [] ?_;conv=>whnf) | (refine two ?_ ?_<;>intro g<;>(try simp only[an]at g)<;>(conv=>whnf)) | (refine And.intro rfl ?_;conv=>whnf) | (refine ak (by decide+kernel) ?_;conv=>whnf) | (refine ⟨by omega,_,aD,rfl,?_⟩;conv=>whnf) | (refine eq_int _ _ ?_;conv=>whnf) | fail)
   have wi:IntKind.i64.wrap ((i:Int)+1)=((i+1:Nat):Int):=by rw [wrap64 (by omega) (by omega)];omega
   exact ⟨S (i+1),ae (by rw [wi];(repeat' first | exact aq.nil | refine aq.cons VW.undef ?_ | refine aq.cons (VW.eq rfl) ?_)) .nil rfl rfl rfl,ih (i+1) (by omega) (by omega)⟩
 · refine ⟨_,aB.refl,?_⟩;conv=>whnf
   (repeat' first | (refine aa [] ?_;conv=>whnf) | (refine two ?_ ?_<;>intro g<;>(try simp only[an]at g)<;>(conv=>whnf)) | (refine And.intro rfl ?_;conv=>whnf) | fail)
   exact h
theorem pl_int (l:List Int) (hl:l.length<1000000) (K:Out->List af->Prop) (h:K (.ret (.bool true)) []):ah Tryz.prog 32 [.sl (iL l) .no,.sl (iL l) .no] [] K:=by
 refine ag [] 0 Tryz.func32 (by rfl) (by rfl) ?_
 conv=>whnf
 (repeat' first | (refine aa [] ?_;conv=>whnf) | (refine two ?_ ?_<;>intro g<;>(try simp only[an]at g)<;>(conv=>whnf)) | (refine And.intro rfl ?_;conv=>whnf) | (refine NH l hl _ ?_;conv=>whnf) | fail)
 exact h
set_option maxHeartbeats 4000000 in
theorem NI (p:Prod) (h1:p.au.length<1000000) (h2:p.late.length<1000000) (h3:p.cT.length<1000000) (K:Out->List af->Prop) (h:K (.ret (.bool true)) []):ah Tryz.prog 12 [dE p,dE p] [] K:=by
 unfold dE ff
 refine ag [] 0 Tryz.func12 (by rfl) (by rfl) ?_
 conv=>whnf
 (repeat' first | (refine aa [] ?_;conv=>whnf) | (refine two ?_ ?_<;>intro g<;>(try simp only[an]at g)<;>(conv=>whnf)) | (refine And.intro rfl ?_;conv=>whnf) | (refine IA p.au h1 _ ?_;conv=>whnf) | (refine K3 p.late h2 _ ?_;conv=>whnf) | (refine pl_int p.cT h3 _ ?_;conv=>whnf) | (rw [Vz];conv=>whnf) | fail)
 all_goals first
  | exact h
  | exact absurd trivial g
  | (exfalso;simp at g;done)
  | trace_state
end QB
namespace Qd
open Go Go.Proofs VL D1 eG kb kj xt jt c5 dj C1 C2 C3 C4 C6 D7 oO pQ oY vL kn pJ Gc Il LZ QB
def Eg (l:List Int):Bool:=(decide (1<=l.length) &&decide (l.length<=20) &&(match l with | x::_=>decide (Small x) | []=>true) &&l.all fun x=>decide (lD x)) && !(decide (l∈rQ))
theorem rW (l:List Int):Eg l=true↔dX l:=by
 unfold Eg dX
 simp only [Bool.and_eq_true,decide_eq_true_eq,Bool.not_eq_true',decide_eq_false_iff_not,List.all_eq_true]
 cases l with
 | nil=>simp
 | cons x r=>simp [and_assoc]
noncomputable def IB (l:List C3.Tok):iR (Prod × List (List Int)):=
 (aF 1 cY l).bind fun _ l=>(aF 1 [] l).bind fun t l=>
   if Eg t.text=true then (aF 3 [123] l).bind fun _ l=>(aN (l.length+1) 1 l {bD with name:=az t.text,over:=1,roll:=1} []).bind fun q l=>(aF 0 [] l).bind fun _ l=> .ok q l
   else .err t.at_ 7
open Classical in
theorem A7 (l:List C3.Tok):dc l=IB l:=by
 unfold dc IB
 cases aF 1 cY l with
 | err p e=>rfl
 | ok t l1=>
   show iR.bind (aF 1 [] l1) _=iR.bind (aF 1 [] l1) _
   cases aF 1 [] l1 with
   | err p e=>rfl
   | ok t l2=>
     show (if dX t.text then _ else _)=(if Eg t.text=true then _ else _)
     by_cases h:dX t.text
     · rw [if_pos h,if_pos ((rW _).2 h)]
     · rw [if_neg h,if_neg (fun hh=>h ((rW _).1 hh))]
noncomputable def xE (s:List Int):Option (iR (Prod × List (List Int))):=match fp s with
 | .ok l=>some (IB l)
 | .error _=>none
theorem K4 {s:List Int} {q:Prod × List (List Int)} {r:List C3.Tok} (h:xE s=some (.ok q r)) (hw:hQ q.2) (hc:bA q.1):bo s=(q.1,0,0):=by
 unfold xE at h
 split at h
 · rename_i l hl
   injection h with h
   rw [←A7] at h
   exact rV hl h hw hc
 · cases h
theorem IC {s:List Int} {p:Nat} {e:Int} (h:xE s=some (.err p e)):bo s=(bD,(p:Int),e):=by
 unfold xE at h
 split at h
 · rename_i l hl
   injection h with h
   rw [←A7] at h
   exact hZ hl h
 · cases h
def SA (p q:Prod):Bool:=decide (p.name.data=q.name.data) &&decide (p.count=q.count) &&decide (p.m3=q.m3) &&decide (p.kind=q.kind) &&decide (p.every=q.every) &&decide (p.times=q.times) &&decide (p.b_=q.b_) &&decide (p.bW=q.bW) &&decide (p.au.map (fun r=>(r.lT,r.bW))=q.au.map (fun r=>(r.lT,r.bW))) &&decide (p.kY=q.kY) &&decide (p.o1=q.o1) &&decide (p.o2=q.o2) &&decide (p.o3=q.o3) &&decide (p.o4=q.o4) &&decide (p.over=q.over) &&decide (p.late.map (fun r=>(r.days,r.km))=q.late.map (fun r=>(r.days,r.km))) &&decide (p.cap=q.cap) &&decide (p.roll=q.roll) &&decide (p.cT=q.cT)
theorem ID: ∀ {a b:List Rs},a.map (fun r=>(r.lT,r.bW))=b.map (fun r=>(r.lT,r.bW))->a=b
 | [],[],_=>rfl
 | [],_::_,h=>by simp at h
 | _::_,[],h=>by simp at h
 | x::a,y::b,h=>by
   simp only [List.map_cons,List.cons.injEq,_root_.Prod.mk.injEq] at h
   obtain ⟨⟨h1,h2⟩,h3⟩:=h
   cases x;cases y
   simp only at h1 h2
   rw [h1,h2,ID h3]
theorem IE: ∀ {a b:List Ti},a.map (fun r=>(r.days,r.km))=b.map (fun r=>(r.days,r.km))->a=b
 | [],[],_=>rfl
 | [],_::_,h=>by simp at h
 | _::_,[],h=>by simp at h
 | x::a,y::b,h=>by
   simp only [List.map_cons,List.cons.injEq,_root_.Prod.mk.injEq] at h
   obtain ⟨⟨h1,h2⟩,h3⟩:=h
   cases x;cases y
   simp only at h1 h2
   rw [h1,h2,IE h3]
theorem NJ {p q:Prod} (h:SA p q=true):p=q:=by
 unfold SA at h
 simp only [Bool.and_eq_true,decide_eq_true_eq] at h
 obtain ⟨⟨⟨⟨⟨⟨⟨⟨⟨⟨⟨⟨⟨⟨⟨⟨⟨⟨h1,h2⟩,h3⟩,h4⟩,h5⟩,h6⟩,h7⟩,h8⟩,h9⟩,Lw⟩,OS⟩,Kx⟩,SB⟩,SC⟩,SD⟩,PY⟩,VA⟩,VB⟩,VC⟩:=h
 have h9:=ID h9
 have PY:=IE PY
 have h1:=ByteArray.ext h1
 cases p;cases q
 simp only at*
 subst h1 h2 h3 h4 h5 h6 h7 h8 h9 Lw OS Kx SB SC SD PY VA VB VC
 rfl
def Db (sn:List (List Int)):Bool:=decide (cK∈sn) &&decide (cL∈sn) &&decide (dK∈sn) &&decide (cM∈sn) &&decide (cN∈sn) &&decide (dL∈sn) &&decide (cG∈sn)
theorem Dc (sn:List (List Int)):Db sn=true↔hQ sn:=by
 unfold Db hQ
 simp only [Bool.and_eq_true,decide_eq_true_eq,and_assoc]
noncomputable def SE (s:List Int) (p:Prod):Bool:=match xE s with
 | some (.ok q _)=>SA q.1 p &&Db q.2
 | _=>false
theorem PZ {s:List Int} {p:Prod} (h:SE s p=true) (hc:bA p):bo s=(p,0,0):=by
 unfold SE at h
 split at h
 · rename_i q r e
   rw [Bool.and_eq_true] at h
   have hp:=NJ h.1
   subst hp
   exact K4 e ((Dc _).1 h.2) hc
 · cases h
noncomputable def P0 (s:List Int) (p:Nat) (e:Int):Bool:=match xE s with
 | some (.err p' e')=>decide (p'=p) &&decide (e'=e)
 | _=>false
theorem NK {s:List Int} {p:Nat} {e:Int} (h:P0 s p e=true):bo s=(bD,(p:Int),e):=by
 unfold P0 at h
 split at h
 · rename_i p' e' hr
   simp only [Bool.and_eq_true,decide_eq_true_eq] at h
   rw [h.1,h.2] at hr
   exact IC hr
 · cases h
def T0:List Int:=[112,114,111,100,117,99,116,32,104,111,109,101,32,123,32,99,111,117,110,116,32,102,105,120,101,100,59,32,114,111,117,110,100,32,104,97,108,102,45,117,112,59,32,107,105,110,100,32,97,110,110,117,105,116,121,59,32,101,118,101,114,121,32,49,59,32,116,105,109,101,115,32,49,50,59,32,114,97,116,101,32,54,37,59,32,111,114,100,101,114,32,102,101,101,115,32,112,101,110,97,108,116,121,32,105,110,116,101,114,101,115,116,32,112,114,105,110,99,105,112,97,108,59,32,125]
def Eh:Prod:= {bD with name:=⟨#[104,111,109,101]⟩,count:=2,m3:=1,kind:=1,every:=1,times:=12,bW:=60000000,o1:=1,o2:=2,o3:=3,o4:=4,over:=1,roll:=1}
theorem K5:SE T0 Eh=true:=by kernel_rfl
theorem K6:bA Eh:=by
 refine ⟨⟨⟨?_,by decide,by decide,by decide⟩,by unfold kT;decide,by unfold jZ;decide⟩,⟨by decide,by decide,by decide,trivial⟩,⟨by unfold nL;decide,by decide⟩,⟨by decide,by decide,by decide,trivial⟩,⟨⟨by decide,trivial⟩,by decide,by decide⟩⟩
 exact (rW _).1 (by decide)
theorem IF:bo T0=(Eh,0,0):=PZ K5 K6
theorem FQ:bo []=(bD,0,7):=NK (p:=0) (by kernel_rfl)
def SF:ByteArray:=⟨#[112,114,111,100,117,99,116,32,104,111,109,101,32,123,32,99,111,117,110,116,32,102,105,120,101,100,59,32,114,111,117,110,100,32,104,97,108,102,45,117,112,59,32,107,105,110,100,32,97,110,110,117,105,116,121,59,32,101,118,101,114,121,32,49,59,32,116,105,109,101,115,32,49,50,59,32,114,97,116,101,32,54,37,59,32,111,114,100,101,114,32,102,101,101,115,32,112,101,110,97,108,116,121,32,105,110,116,101,114,101,115,116,32,112,114,105,110,99,105,112,97,108,59,32,125]⟩
theorem NL:sB SF=T0:=by decide+kernel
theorem IG (K:Out->List af->Prop) (h:K (.ret (.str SF)) []):ah Tryz.prog 16 [] [] K:=by
 refine ag [] 0 Tryz.func16 (by rfl) (by rfl) ?_
 conv=>whnf
 (repeat' first | (refine aa [] ?_;conv=>whnf) | (refine two ?_ ?_<;>intro g<;>(try simp only[an]at g)<;>(conv=>whnf)) | (refine And.intro rfl ?_;conv=>whnf) | fail)
 exact h
set_option maxHeartbeats 4000000 in
theorem Ei (K:Out->List af->Prop) (h:K (.ret (.bool true)) []):ah Tryz.prog 9 [] [] K:=by
 have OK:sB ⟨#[]⟩=[]:=rfl
 obtain ⟨P,hP⟩: ∃P,P=Eh:=⟨_,rfl⟩
 have hp:=IF
 rw [←hP] at hp
 have p1:P.name.toList=(⟨#[104,111,109,101]⟩:ByteArray).toList:=by rw [hP];rfl
 have p2:P.times=12:=by rw [hP];rfl
 have p3:P.over=1:=by rw [hP];rfl
 clear hP
 obtain ⟨a0,QC⟩: ∃a:Int,a=0:=⟨_,rfl⟩
 obtain ⟨a7,SG⟩: ∃a:Int,a=7:=⟨_,rfl⟩
 have hp:bo T0=(P,a0,a0):=by rw [QC];exact hp
 have hq:bo []=(bD,a0,a7):=by rw [QC,SG];exact FQ
 refine ag [] 0 Tryz.func9 (by rfl) (by rfl) ?_
 conv=>whnf
 (repeat' first | (refine aa [] ?_;conv=>whnf) | (refine two ?_ ?_<;>intro g<;>(try simp only[an]at g)<;>(conv=>whnf)) | (refine And.intro rfl ?_;conv=>whnf) | fail)
 refine IG _ ?_
 conv=>whnf
 (repeat' first | (refine aa [] ?_;conv=>whnf) | (refine two ?_ ?_<;>intro g<;>(try simp only[an]at g)<;>(conv=>whnf)) | (refine And.intro rfl ?_;conv=>whnf) | fail)
 refine y3 SF (by decide+kernel) _ ?_
 rw [NL,hp]
 conv=>whnf
 (repeat' first | (refine aa [] ?_;conv=>whnf) | (refine two ?_ ?_<;>intro g<;>(try simp only[an]at g)<;>(conv=>whnf)) | (refine And.intro rfl ?_;conv=>whnf) | fail)
 refine y3 ⟨#[]⟩ (by decide) _ ?_
 rw [OK,hq]
 conv=>whnf
 (repeat' first | (refine aa [] ?_;conv=>whnf) | (refine two ?_ ?_<;>intro g<;>(try simp only[an]at g)<;>(conv=>whnf)) | (refine And.intro rfl ?_;conv=>whnf) | fail)
 all_goals first
  | exact absurd (by assumption) (by assumption)
  | exact absurd QC (by assumption)
  | exact absurd p1 (by assumption)
  | exact absurd p2 (by assumption)
  | exact absurd p3 (by assumption)
  | exact absurd SG (by assumption)
  | (refine Eq.mp (congrArg (fun b=>K (.ret (.bool b)) []) ?_) h
     simp [QC,SG,p2,p3];done)
  | trace_state
theorem FR (s:List Int):(bo s).1.au.length<1000000/\(bo s).1.late.length<1000000/\(bo s).1.cT.length<1000000:=by
 have h0:bD.au.length<1000000/\bD.late.length<1000000/\bD.cT.length<1000000:=by refine ⟨?_,?_,?_⟩<;>decide
 unfold bo
 split
 · exact h0
 · split
   · exact h0
   · split
     · rename_i q r hq hc
       have hc:=hc.2
       have h1:=hc.2.1.2.2.1
       have h2:=hc.2.2.2.1.1
       have h3:=hc.2.2.2.2.1.1
       exact ⟨by simp only;omega,by simp only;omega,by simp only;omega⟩
     · exact h0
theorem Ok (W:World) (Ju:W.ShapedOpen Tryz.prog): ∀b,zk b=true-> ∃m,W.cell? ⟨b,0,none⟩=some (.int .i64 m):=by
 intro b hb
 match b,hb with
 | 0,_=>exact cell_of_shapedOpen_int (P:=Tryz.prog) (g:=0) (t:=3) (zero:= #[.int .i64 0]) Ju (of_decide_eq_true (by kernel_rfl)) (by kernel_rfl) rfl (by kernel_rfl) (by kernel_rfl) (by kernel_rfl)
end Qd
namespace Of
open Go Go.Proofs VL D1 eG C1 C2 C3 C4 C6 C8
def kt (t:C3.Tok):Int × List Int:=(t.kind,t.text)
def FT (a:List C3.Tok):Lx->Lx
 | .ok l=> .ok (a++l)
 | .bad p=> .bad p
def P3 (c:List Int) (ts:List (Int × List Int)):Prop:= ∀f rest i, ∃K7:List C3.Tok,K7.map kt=ts/\cU (f+ts.length) (c++rest) i=FT K7 (cU f rest (i+c.length))
theorem TH (l:List Int):l.takeWhile (bI 3)=[]/\l.dropWhile (bI 3)=l:=by
 cases l with
 | nil=>exact ⟨rfl,rfl⟩
 | cons x r=>exact ⟨rfl,rfl⟩
theorem IH (c:Int) (hc:c=123\/c=125\/c=59):P3 [c] [(3,[c])]:=by
 intro f rest i
 refine ⟨[⟨3,i,[c]⟩],rfl,?_⟩
 have hs:aP false (c::rest)=0:=by rcases hc with rfl | rfl | rfl<;>rfl
 show cU (f+1) (c::rest) i=FT _ (cU f rest (i+1))
 rw [C8.hO,hs,List.drop_zero]
 simp only
 rw [AR rest hc]
 simp only
 rw [(TH rest).1,(TH rest).2]
 show Lx.cons _ (cU f rest (i+1))=_
 cases cU f rest (i+1)<;>rfl
theorem Dd (f:Nat) (l:List Int) (i:Nat):cU (f+1) (32::l) i=cU (f+1) l (i+1):=by
 have hs:aP false (32::l)=1+aP false l:=by
  show (if (32:Int)=10 then _ else if (32:Int)=35 then _ else if false=false/\(32:Int)≠32/\(32:Int)≠9 then 0 else 1+aP false l)=_
  rw [if_neg (by decide),if_neg (by decide),if_neg (by decide)]
 unfold cU
 rw [hs,show (1:Nat)+aP false l=aP false l+1 by omega,List.drop_succ_cons]
 have e:i+(aP false l+1)=i+1+aP false l:=by omega
 rw [e]
def cJ:Int × List Int->Bool
 | (k,c::w)=>(decide (k=1) &&sW c &&w.all nM) || (decide (k=2) &&qy c &&w.all vB)
 | _=>false
theorem K8 {k:Int} {a:List Int} (h:cJ (k,a)=true) (x:Int) (hx:x=32\/x=59) (f:Nat) (rest:List Int) (i:Nat):cU (f+1) (a++x::rest) i=FT [⟨k,i,a⟩] (cU f (x::rest) (i+a.length)):=by
 cases a with
 | nil=>cases h
 | cons c w=>
   have Bn:bI k x=false/\(∀y∈w,bI k y=true)/\aP false (c::(w++x::rest))=0/\fu c (w++x::rest)=some k:=by
    simp only [cJ,Bool.or_eq_true,Bool.and_eq_true,decide_eq_true_eq,List.all_eq_true] at h
    have Kl: ∀r,(c≠10/\c≠35/\c≠32/\c≠9)->aP false (c::r)=0:=fun r hc=>by
     show (if c=10 then _ else if c=35 then _ else if false=false/\c≠32/\c≠9 then 0 else _)=_
     rw [if_neg hc.1,if_neg hc.2.1,if_pos ⟨rfl,hc.2.2.1,hc.2.2.2⟩]
    rcases h with ⟨⟨rfl,hl⟩,hw⟩ | ⟨⟨rfl,hl⟩,hw⟩
    · have sI:=(dY c).1 hl
      exact ⟨by rcases hx with rfl | rfl<;>rfl,fun y hy=>hw y hy,Kl _ (by omega),DY _ sI⟩
    · have sI:=(dt c).1 hl
      exact ⟨by rcases hx with rfl | rfl<;>rfl,fun y hy=>hw y hy,Kl _ (by omega),xv _ (by omega) (.inl sI)⟩
   obtain ⟨g1,g2,g3,g4⟩:=Bn
   have t1:(w++x::rest).takeWhile (bI k)=w:=by
    rw [List.takeWhile_append_of_pos g2,List.takeWhile_cons,g1];simp
   have t2:(w++x::rest).dropWhile (bI k)=x::rest:=by
    rw [List.dropWhile_append_of_pos g2,List.dropWhile_cons,g1];simp
   show cU (f+1) (c::(w++x::rest)) i=_
   rw [C8.hO,g3,List.drop_zero]
   simp only
   rw [g4]
   simp only
   rw [t1,t2]
   show Lx.cons _ (cU f (x::rest) (i+0+1+w.length))=_
   rw [show i+0+1+w.length=i+(c::w).length by rw [List.length_cons];omega]
   cases cU f (x::rest) (i+(c::w).length)<;>rfl
def II:List (Int × List Int)->List Int
 | []=>[59]
 | [(_,a)]=>a++[59]
 | (_,a)::t::r=>a++32::II (t::r)
end Of
namespace P1
open Go Go.Proofs VL D1 eG kb kj wg pP xt jt HF Jn Ga c5 dj C1 C2 C3 C4 C6 oO H2 pQ oY vL kn pJ
def nd (s:List Int):List Int:=[32,32]++s++[59,10]
def oZ (n:Int):List Int:=if n=1 then fr else if n=2 then je else gB
def kU (n:Int):List Int:=if n=1 then gz else if n=2 then jd else gA
def kV (n:Int):List Int:=if n=1 then fq else mA
def o7 (n:Int):List Int:=if n=1 then mB else if n=2 then gC else gD
def o8 (n:Int):List Int:=if n=1 then mC else if n=2 then mD else if n=3 then gE else eD
def gf (n:Int):List Int:=if n=1 then H4 else if n=2 then cq else if n=3 then vI else su
def vT (r:Rs):List Int:=nd (cO++[32]++dg r.lT.toNat++[32]++ct r.bW)
def A8 (r:Ti):List Int:=nd (dM++[32]++dg r.days.toNat++[32]++eP r.km)
noncomputable def IJ (n:Int):List Int:=nd (bE++[32]++vA n)
noncomputable def eF (p:Prod):List Int:=
 cY++[32]++sB p.name++[32,123,10]++nd (cK++[32]++kU p.count)++nd (cL++[32]++kV p.m3)++nd (dK++[32]++oZ p.kind)
 ++nd (cM++[32]++dg p.every.toNat)++nd (cN++[32]++dg p.times.toNat)++nd (eC++[32]++dg p.b_.toNat)++nd (dL++[32]++ct p.bW)++nd (cq++[32]++ct p.kY)
 ++p.au.flatMap vT++nd (cG++[32]++gf p.o1++[32]++gf p.o2++[32]++gf p.o3++[32]++gf p.o4)++nd (fS++[32]++o7 p.over)
 ++p.late.flatMap A8++nd (j4++[32]++eP p.cap)++nd (fT++[32]++o8 p.roll)++p.cT.flatMap IJ++[125,10]
theorem y7 {a b:Nat} (h:a+b<1000000):(((a+b:Nat):Int)<=IntKind.i64.max):=Int.le_trans (b:=1000000) (by omega) (by decide)
theorem Ej (s:ByteArray) (hs:s.size<100000) (K:Out->List af->Prop) (h: ∀t:ByteArray,sB t=nd (sB s)->t.size=s.size+4->K (.ret (.str t)) []):ah Tryz.prog 33 [.str s] [] K:=by
 refine ag [] 0 Tryz.func33 (by rfl) (by rfl) ?_
 conv=>whnf
 (repeat' first | (refine aa [] ?_;conv=>whnf) | (refine two ?_ ?_<;>intro g<;>(try simp only[an]at g)<;>(conv=>whnf)) | (refine And.intro rfl ?_;conv=>whnf) | fail)
 refine ⟨y7 (by have:(⟨#[32,32]⟩:ByteArray).size=2:=rfl;omega),?_⟩
 conv=>whnf
 (repeat' first | (refine aa [] ?_;conv=>whnf) | (refine two ?_ ?_<;>intro g<;>(try simp only[an]at g)<;>(conv=>whnf)) | (refine And.intro rfl ?_;conv=>whnf) | fail)
 refine ⟨y7 (by rw [ByteArray.size_append];have:(⟨#[32,32]⟩:ByteArray).size=2:=rfl;have:(⟨#[59,10]⟩:ByteArray).size=2:=rfl;omega),?_⟩
 conv=>whnf
 (repeat' first | (refine aa [] ?_;conv=>whnf) | (refine two ?_ ?_<;>intro g<;>(try simp only[an]at g)<;>(conv=>whnf)) | (refine And.intro rfl ?_;conv=>whnf) | fail)
 exact h _ (by rw [bS,bS];rfl) (by rw [ByteArray.size_append,ByteArray.size_append];have:(⟨#[32,32]⟩:ByteArray).size=2:=rfl;have:(⟨#[59,10]⟩:ByteArray).size=2:=rfl;omega)
theorem IK (n:Nat) (hn:n<1000000) (K:Out->List af->Prop) (h:K (.ret (.str (az (dg n)))) []):ah Tryz.prog 34 [.int .i64 (n:Int)] [] K:=by
 refine ag [] 0 Tryz.func34 (by rfl) (by rfl) ?_
 conv=>whnf
 (repeat' first | (refine aa [] ?_;conv=>whnf) | (refine two ?_ ?_<;>intro g<;>(try simp only[an]at g)<;>(conv=>whnf)) | (refine And.intro rfl ?_;conv=>whnf) | fail)
 refine ow n 1 hn (by decide) (by decide) _ ?_
 rw [show DL 1 n=dg n from by
  unfold DL
  have:1<=(dg n).length:=by
   rw [dg];split<;>simp
  rw [show 1 - (dg n).length=0 by omega];rfl]
 conv=>whnf
 (repeat' first | (refine aa [] ?_;conv=>whnf) | (refine two ?_ ?_<;>intro g<;>(try simp only[an]at g)<;>(conv=>whnf)) | (refine And.intro rfl ?_;conv=>whnf) | fail)
 exact h
theorem qP (v:Int) (h0:0<=v) (hv:v<1000000) (K:Out->List af->Prop) (h:K (.ret (.str (az (dg v.toNat)))) []):ah Tryz.prog 34 [.int .i64 v] [] K:=by
 obtain ⟨n,rfl⟩: ∃n:Nat,v=n:=⟨v.toNat,by omega⟩
 rw [Int.toNat_natCast] at h
 exact IK n (by omega) K h
theorem lP (v:Int) (hv:v<1000000):(az (dg v.toNat)).size<=20/\ ∀x∈dg v.toNat,0<=x/\x<256:=by
 rw [bO]
 have hd: ∀x∈dg v.toNat,cw x:=gn _
 exact ⟨B5.lz (by omega),fun x hx=>by have:=hd x hx;unfold cw at this;omega⟩
theorem dG (a w:ByteArray) (A W:List Int) (hA:sB a=A) (hW:sB w=W) (ha:a.size<=30) (hw:w.size<=100) (K:Out->List af->Prop) (h: ∀t:ByteArray,sB t=nd (A++W)->t.size<=134->K (.ret (.str t)) []):ah Tryz.prog 33 [.str (a++w)] [] K:=by
 refine Ej _ (by rw [ByteArray.size_append];omega) K fun t ht hz=>h t ?_ ?_
 · rw [ht,bS,hA,hW]
 · rw [hz,ByteArray.size_append];omega
end P1
namespace P2
open Go Go.Proofs VL D1 eG kb kj wg pP xt jt HF Jn Ga c5 dj C1 C2 C3 C4 C6 oO H2 pQ oY vL kn pJ P1
theorem dz {a b:ByteArray} {n m:Nat} (ha:a.size<=n) (hb:b.size<=m) (h:n+m<1000000):(((a.size+b.size:Nat):Int)<=IntKind.i64.max):=y7 (by omega)
theorem iJ {a b:ByteArray} {n m:Nat} (ha:a.size<=n) (hb:b.size<=m):(a++b).size<=n+m:=by rw [ByteArray.size_append];omega
theorem FU {n:Int} (h1:1<=n) (h2:n<=3):0<=IntKind.i64.wrap (n - 1)/\([.str ⟨#[116,104,105,114,116,121]⟩,.str ⟨#[102,105,120,101,100]⟩,.str ⟨#[97,99,116,117,97,108]⟩]:List V)[(IntKind.i64.wrap (n - 1)).toNat]? =some (.str (az (kU n))):=by
 have hc:n=1\/n=2\/n=3:=by omega
 clear h1 h2
 rcases hc with rfl | rfl | rfl<;>exact ⟨by decide,rfl⟩
theorem FV {n:Int} (h:n=1\/n=3):0<=IntKind.i64.wrap (n - 1)/\([.str ⟨#[104,97,108,102,45,117,112]⟩,.str ⟨#[]⟩,.str ⟨#[100,111,119,110]⟩]:List V)[(IntKind.i64.wrap (n - 1)).toNat]? =some (.str (az (kV n))):=by
 have hc:=h
 clear h
 skip
 rcases hc with rfl | rfl<;>exact ⟨by decide,rfl⟩
theorem IL {n:Int} (h1:1<=n) (h2:n<=3):0<=IntKind.i64.wrap (n - 1)/\([.str ⟨#[97,110,110,117,105,116,121]⟩,.str ⟨#[101,113,117,97,108]⟩,.str ⟨#[98,117,108,108,101,116]⟩]:List V)[(IntKind.i64.wrap (n - 1)).toNat]? =some (.str (az (oZ n))):=by
 have hc:n=1\/n=2\/n=3:=by omega
 clear h1 h2
 rcases hc with rfl | rfl | rfl<;>exact ⟨by decide,rfl⟩
theorem IM {n:Int} (h1:1<=n) (h2:n<=3):0<=IntKind.i64.wrap (n - 1)/\([.str ⟨#[104,111,108,100]⟩,.str ⟨#[112,114,101,112,97,121]⟩,.str ⟨#[114,101,102,117,110,100]⟩]:List V)[(IntKind.i64.wrap (n - 1)).toNat]? =some (.str (az (o7 n))):=by
 have hc:n=1\/n=2\/n=3:=by omega
 clear h1 h2
 rcases hc with rfl | rfl | rfl<;>exact ⟨by decide,rfl⟩
theorem IN {n:Int} (h1:1<=n) (h2:n<=4):0<=IntKind.i64.wrap (n - 1)/\([.str ⟨#[115,116,97,121]⟩,.str ⟨#[110,101,120,116]⟩,.str ⟨#[119,105,116,104,105,110]⟩,.str ⟨#[112,114,101,118,105,111,117,115]⟩]:List V)[(IntKind.i64.wrap (n - 1)).toNat]? =some (.str (az (o8 n))):=by
 have hc:n=1\/n=2\/n=3\/n=4:=by omega
 clear h1 h2
 rcases hc with rfl | rfl | rfl | rfl<;>exact ⟨by decide,rfl⟩
theorem tH {n:Int} (h1:1<=n) (h2:n<=4):0<=IntKind.i64.wrap (n - 1)/\([.str ⟨#[102,101,101,115]⟩,.str ⟨#[112,101,110,97,108,116,121]⟩,.str ⟨#[105,110,116,101,114,101,115,116]⟩,.str ⟨#[112,114,105,110,99,105,112,97,108]⟩]:List V)[(IntKind.i64.wrap (n - 1)).toNat]? =some (.str (az (gf n))):=by
 have hc:n=1\/n=2\/n=3\/n=4:=by omega
 clear h1 h2
 rcases hc with rfl | rfl | rfl | rfl<;>exact ⟨by decide,rfl⟩
theorem vU (n:Int):(∀x∈kU n,0<=x/\x<256)/\(az (kU n)).size<=10:=by
 unfold kU
 repeat' split
 all_goals exact ⟨by decide,by decide⟩
theorem vV (n:Int):(∀x∈kV n,0<=x/\x<256)/\(az (kV n)).size<=10:=by
 unfold kV
 repeat' split
 all_goals exact ⟨by decide,by decide⟩
theorem y8 (n:Int):(∀x∈oZ n,0<=x/\x<256)/\(az (oZ n)).size<=10:=by
 unfold oZ
 repeat' split
 all_goals exact ⟨by decide,by decide⟩
theorem oF (n:Int):(∀x∈o7 n,0<=x/\x<256)/\(az (o7 n)).size<=10:=by
 unfold o7
 repeat' split
 all_goals exact ⟨by decide,by decide⟩
theorem mN (n:Int):(∀x∈o8 n,0<=x/\x<256)/\(az (o8 n)).size<=10:=by
 unfold o8
 repeat' split
 all_goals exact ⟨by decide,by decide⟩
theorem iS (n:Int):(∀x∈gf n,0<=x/\x<256)/\(az (gf n)).size<=10:=by
 unfold gf
 repeat' split
 all_goals exact ⟨by decide,by decide⟩
theorem IP {times:Int}: ∀ {q:Option Rs} {l:List Rs},eV times q l-> ∀r∈l,1<=r.lT/\r.lT<=times - 1
 | _,[],_,r,hr=>by cases hr
 | q,x::l,h,r,hr=>by
   rcases List.mem_cons.1 hr with rfl | hr
   · exact h.1
   · exact IP h.2.2.2 r hr
theorem Ek: ∀ {q:Option Ti} {l:List Ti},g_ q l-> ∀r∈l,1<=r.days/\r.days<=365
 | _,[],_,r,hr=>by cases hr
 | q,x::l,h,r,hr=>by
   rcases List.mem_cons.1 hr with rfl | hr
   · exact h.1
   · exact Ek h.2.2.2 r hr
theorem A9 (v:Int): ∀x∈eP v,0<=x/\x<256:=by
 intro x hx
 unfold eP at hx
 rcases List.mem_append.1 hx with hx | hx
 · rcases List.mem_append.1 hx with hx | hx
   · rcases List.mem_append.1 hx with hx | hx
     · exact AG v x hx
     · have:=gn _ x hx;unfold cw at this;omega
   · simp at hx;omega
 · have:=gm _ _ x hx;unfold cw at this;omega
theorem y9: ∀ {q:Option Int} {l:List Int},qx q l-> ∀r∈l, -25567<=r/\r<=84370
 | _,[],_,r,hr=>by cases hr
 | q,x::l,h,r,hr=>by
   rcases List.mem_cons.1 hr with rfl | hr
   · exact h.1
   · exact y9 h.2.2 r hr
theorem P4 (y m d:Nat): ∀x∈F' y m d,0<=x/\x<256:=by
 have hd: ∀w n, ∀x∈fL w n,0<=x/\x<256:=fun w n x hx=>by have:=gm w n x hx;unfold cw at this;omega
 intro x hx
 unfold F' at hx
 simp only [List.mem_append,List.mem_singleton] at hx
 rcases hx with (((hx | hx) | hx) | hx) | hx
 · exact hd _ _ x hx
 · omega
 · exact hd _ _ x hx
 · omega
 · exact hd _ _ x hx
set_option maxHeartbeats 8000000 in
theorem IQ (p:Prod) (hp:p.Kh) (K:Out->List af->Prop)
 (h0:bA p->(eF p).length<=20000-> ∀t,sB t=eF p->K (.ret (.aQ [.str t,.int .i64 0])) [])
 (h1:bA p->20000<(eF p).length->K (.ret (.aQ [.str ⟨#[]⟩,.int .i64 3])) [])
 (h2: ¬bA p->K (.ret (.aQ [.str ⟨#[]⟩,.int .i64 9])) []):
 ah Tryz.prog 13 [dE p] [] K:=by
 have F9:bA p->cS p=0:=fun hh=>by unfold cS;rw [if_pos hh]
 have Dp: ¬bA p->cS p=9:=fun hh=>by unfold cS;rw [if_neg hh]
 have oT:=vH p hp
 obtain ⟨cc,KS⟩: ∃cc,cS p=cc:=⟨_,rfl⟩
 rw [KS] at F9 Dp oT
 unfold dE ff at*
 refine ag [] 0 Tryz.func13 (by rfl) (by rfl) ?_
 conv=>whnf
 (repeat' first | (refine aa [] ?_;conv=>whnf) | (refine two ?_ ?_<;>intro g<;>(try simp only[an]at g)<;>(conv=>whnf)) | (refine And.intro rfl ?_;conv=>whnf) | fail)
 refine oT _ ?_
 conv=>whnf
 (repeat' first | (refine aa [] ?_;conv=>whnf) | (refine two ?_ ?_<;>intro g<;>(try simp only[an]at g)<;>(conv=>whnf)) | (refine And.intro rfl ?_;conv=>whnf) | fail)
 · exact h2 fun hh=>g (F9 hh)
 have gb:bA p:=by
  by_cases hh:bA p
  · exact hh
  · have:=Dp hh;omega
 clear h2 F9 Dp oT KS
 have CK:=gb
 obtain ⟨⟨⟨sk,nB,NM,xD⟩,mO,nV⟩,⟨mZ,A_,nb,ql⟩,⟨qQ,El⟩,⟨Lj,cu,N1,IS⟩,⟨⟨Hq,IT⟩,Em,Mc⟩⟩:=gb
 have N5:p.name.size<=20:=by have:=sk.1.2.1;rw [bh] at this;exact this
 have pq:0<=p.every/\p.every<1000000:=by unfold kT at mO;omega
 have MC:0<=p.times/\p.times<1000000:=by unfold jZ at nV;omega
 have Dw:0<=p.b_/\p.b_<1000000:=by unfold jZ at nV;omega
 refine ⟨dz (n:=10) (m:=20) (by decide) N5 (by decide),?_⟩
 conv=>whnf
 (repeat' first | (refine aa [] ?_;conv=>whnf) | (refine two ?_ ?_<;>intro g<;>(try simp only[an]at g)<;>(conv=>whnf)) | (refine And.intro rfl ?_;conv=>whnf) | fail)
 refine ⟨dz (n:=30) (m:=5) (iJ (n:=10) (m:=20) (by decide) N5) (by decide) (by decide),?_⟩
 conv=>whnf
 obtain ⟨s1,wO⟩: ∃s1:ByteArray,s1=⟨#[112,114,111,100,117,99,116,32]⟩++p.name++⟨#[32,123,10]⟩:=⟨_,rfl⟩
 have VD:sB s1=cY++[32]++sB p.name++[32,123,10]:=by rw [wO,bS,bS];rfl
 have TI:s1.size<=35:=by rw [wO];exact iJ (n:=30) (m:=5) (iJ (n:=10) (m:=20) (by decide) N5) (by decide)
 rw [←wO]
 clear wO
 (repeat' first | (refine aa [] ?_;conv=>whnf) | (refine two ?_ ?_<;>intro g<;>(try simp only[an]at g)<;>(conv=>whnf)) | (refine And.intro rfl ?_;conv=>whnf) | fail)
 obtain ⟨g1,g2⟩:=FU nB.1 nB.2
 refine ⟨g1,_,g2,rfl,?_⟩
 conv=>whnf
 (repeat' first | (refine aa [] ?_;conv=>whnf) | (refine two ?_ ?_<;>intro g<;>(try simp only[an]at g)<;>(conv=>whnf)) | (refine And.intro rfl ?_;conv=>whnf) | fail)
 refine ⟨dz (n:=10) (m:=100) (by decide) (Nat.le_trans (vU _).2 (by decide)) (by decide),?_⟩
 conv=>whnf
 (repeat' first | (refine aa [] ?_;conv=>whnf) | (refine two ?_ ?_<;>intro g<;>(try simp only[an]at g)<;>(conv=>whnf)) | (refine And.intro rfl ?_;conv=>whnf) | (refine ak (by decide+kernel) ?_;conv=>whnf) | fail)
 refine dG _ _ (cK++[32]) (kU p.count) rfl (aT (vU _).1) (by decide) (Nat.le_trans (vU _).2 (by decide)) _ (fun t ht hz=> ?_)
 conv=>whnf
 (repeat' first | (refine aa [] ?_;conv=>whnf) | (refine two ?_ ?_<;>intro g<;>(try simp only[an]at g)<;>(conv=>whnf)) | (refine And.intro rfl ?_;conv=>whnf) | (refine ak (by decide+kernel) ?_;conv=>whnf) | fail)
 refine ⟨dz (n:=35) (m:=134) TI hz (by decide),?_⟩
 conv=>whnf
 obtain ⟨s2,F6⟩: ∃s':ByteArray,s'=s1++t:=⟨_,rfl⟩
 have F4:=hz
 have VE:sB s2=sB s1++nd (cK++[32]++kU p.count):=by rw [F6,bS,ht]
 have TJ:s2.size<=169:=by rw [F6];exact iJ TI hz
 rw [←F6]
 (repeat' first | (refine aa [] ?_;conv=>whnf) | (refine two ?_ ?_<;>intro g<;>(try simp only[an]at g)<;>(conv=>whnf)) | (refine And.intro rfl ?_;conv=>whnf) | (refine ak (by decide+kernel) ?_;conv=>whnf) | fail)
 obtain ⟨g1,g2⟩:=FV NM
 refine ⟨g1,_,g2,rfl,?_⟩
 conv=>whnf
 (repeat' first | (refine aa [] ?_;conv=>whnf) | (refine two ?_ ?_<;>intro g<;>(try simp only[an]at g)<;>(conv=>whnf)) | (refine And.intro rfl ?_;conv=>whnf) | (refine ak (by decide+kernel) ?_;conv=>whnf) | fail)
 refine ⟨dz (n:=10) (m:=100) (by decide) (Nat.le_trans (vV _).2 (by decide)) (by decide),?_⟩
 conv=>whnf
 (repeat' first | (refine aa [] ?_;conv=>whnf) | (refine two ?_ ?_<;>intro g<;>(try simp only[an]at g)<;>(conv=>whnf)) | (refine And.intro rfl ?_;conv=>whnf) | (refine ak (by decide+kernel) ?_;conv=>whnf) | fail)
 refine dG _ _ (cL++[32]) (kV p.m3) rfl (aT (vV _).1) (by decide) (Nat.le_trans (vV _).2 (by decide)) _ (fun t ht hz=> ?_)
 conv=>whnf
 (repeat' first | (refine aa [] ?_;conv=>whnf) | (refine two ?_ ?_<;>intro g<;>(try simp only[an]at g)<;>(conv=>whnf)) | (refine And.intro rfl ?_;conv=>whnf) | (refine ak (by decide+kernel) ?_;conv=>whnf) | fail)
 refine ⟨dz (n:=169) (m:=134) TJ hz (by decide),?_⟩
 conv=>whnf
 obtain ⟨s3,Nv⟩: ∃s':ByteArray,s'=s2++t:=⟨_,rfl⟩
 have Ik:=hz
 have SH:sB s3=sB s2++nd (cL++[32]++kV p.m3):=by rw [Nv,bS,ht]
 have Og:s3.size<=303:=by rw [Nv];exact iJ TJ hz
 rw [←Nv]
 (repeat' first | (refine aa [] ?_;conv=>whnf) | (refine two ?_ ?_<;>intro g<;>(try simp only[an]at g)<;>(conv=>whnf)) | (refine And.intro rfl ?_;conv=>whnf) | (refine ak (by decide+kernel) ?_;conv=>whnf) | fail)
 obtain ⟨g1,g2⟩:=IL xD.1 xD.2
 refine ⟨g1,_,g2,rfl,?_⟩
 conv=>whnf
 (repeat' first | (refine aa [] ?_;conv=>whnf) | (refine two ?_ ?_<;>intro g<;>(try simp only[an]at g)<;>(conv=>whnf)) | (refine And.intro rfl ?_;conv=>whnf) | (refine ak (by decide+kernel) ?_;conv=>whnf) | fail)
 refine ⟨dz (n:=10) (m:=100) (by decide) (Nat.le_trans (y8 _).2 (by decide)) (by decide),?_⟩
 conv=>whnf
 (repeat' first | (refine aa [] ?_;conv=>whnf) | (refine two ?_ ?_<;>intro g<;>(try simp only[an]at g)<;>(conv=>whnf)) | (refine And.intro rfl ?_;conv=>whnf) | (refine ak (by decide+kernel) ?_;conv=>whnf) | fail)
 refine dG _ _ (dK++[32]) (oZ p.kind) rfl (aT (y8 _).1) (by decide) (Nat.le_trans (y8 _).2 (by decide)) _ (fun t ht hz=> ?_)
 conv=>whnf
 (repeat' first | (refine aa [] ?_;conv=>whnf) | (refine two ?_ ?_<;>intro g<;>(try simp only[an]at g)<;>(conv=>whnf)) | (refine And.intro rfl ?_;conv=>whnf) | (refine ak (by decide+kernel) ?_;conv=>whnf) | fail)
 refine ⟨dz (n:=303) (m:=134) Og hz (by decide),?_⟩
 conv=>whnf
 obtain ⟨s4,PJ⟩: ∃s':ByteArray,s'=s3++t:=⟨_,rfl⟩
 have Jl:=hz
 have VF:sB s4=sB s3++nd (dK++[32]++oZ p.kind):=by rw [PJ,bS,ht]
 have IU:s4.size<=437:=by rw [PJ];exact iJ Og hz
 rw [←PJ]
 (repeat' first | (refine aa [] ?_;conv=>whnf) | (refine two ?_ ?_<;>intro g<;>(try simp only[an]at g)<;>(conv=>whnf)) | (refine And.intro rfl ?_;conv=>whnf) | (refine ak (by decide+kernel) ?_;conv=>whnf) | fail)
 refine qP _ pq.1 pq.2 _ ?_
 conv=>whnf
 (repeat' first | (refine aa [] ?_;conv=>whnf) | (refine two ?_ ?_<;>intro g<;>(try simp only[an]at g)<;>(conv=>whnf)) | (refine And.intro rfl ?_;conv=>whnf) | (refine ak (by decide+kernel) ?_;conv=>whnf) | fail)
 refine ⟨dz (n:=10) (m:=100) (by decide) (Nat.le_trans (lP _ pq.2).1 (by decide)) (by decide),?_⟩
 conv=>whnf
 (repeat' first | (refine aa [] ?_;conv=>whnf) | (refine two ?_ ?_<;>intro g<;>(try simp only[an]at g)<;>(conv=>whnf)) | (refine And.intro rfl ?_;conv=>whnf) | (refine ak (by decide+kernel) ?_;conv=>whnf) | fail)
 refine dG _ _ (cM++[32]) (dg p.every.toNat) rfl (aT (lP _ pq.2).2) (by decide) (Nat.le_trans (lP _ pq.2).1 (by decide)) _ (fun t ht hz=> ?_)
 conv=>whnf
 (repeat' first | (refine aa [] ?_;conv=>whnf) | (refine two ?_ ?_<;>intro g<;>(try simp only[an]at g)<;>(conv=>whnf)) | (refine And.intro rfl ?_;conv=>whnf) | (refine ak (by decide+kernel) ?_;conv=>whnf) | fail)
 refine ⟨dz (n:=437) (m:=134) IU hz (by decide),?_⟩
 conv=>whnf
 obtain ⟨s5,Gd⟩: ∃s':ByteArray,s'=s4++t:=⟨_,rfl⟩
 have K9:=hz
 have VG:sB s5=sB s4++nd (cM++[32]++dg p.every.toNat):=by rw [Gd,bS,ht]
 have NN:s5.size<=571:=by rw [Gd];exact iJ IU hz
 rw [←Gd]
 (repeat' first | (refine aa [] ?_;conv=>whnf) | (refine two ?_ ?_<;>intro g<;>(try simp only[an]at g)<;>(conv=>whnf)) | (refine And.intro rfl ?_;conv=>whnf) | (refine ak (by decide+kernel) ?_;conv=>whnf) | (refine ⟨dz IU K9 (by decide),?_⟩;conv=>whnf) | (refine And.intro (congrArg V.str Gd.symm) ?_;conv=>whnf) | fail)
 refine qP _ MC.1 MC.2 _ ?_
 conv=>whnf
 (repeat' first | (refine aa [] ?_;conv=>whnf) | (refine two ?_ ?_<;>intro g<;>(try simp only[an]at g)<;>(conv=>whnf)) | (refine And.intro rfl ?_;conv=>whnf) | (refine ak (by decide+kernel) ?_;conv=>whnf) | (refine ⟨dz IU K9 (by decide),?_⟩;conv=>whnf) | (refine And.intro (congrArg V.str Gd.symm) ?_;conv=>whnf) | fail)
 refine ⟨dz (n:=10) (m:=100) (by decide) (Nat.le_trans (lP _ MC.2).1 (by decide)) (by decide),?_⟩
 conv=>whnf
 (repeat' first | (refine aa [] ?_;conv=>whnf) | (refine two ?_ ?_<;>intro g<;>(try simp only[an]at g)<;>(conv=>whnf)) | (refine And.intro rfl ?_;conv=>whnf) | (refine ak (by decide+kernel) ?_;conv=>whnf) | (refine ⟨dz IU K9 (by decide),?_⟩;conv=>whnf) | (refine And.intro (congrArg V.str Gd.symm) ?_;conv=>whnf) | fail)
 refine dG _ _ (cN++[32]) (dg p.times.toNat) rfl (aT (lP _ MC.2).2) (by decide) (Nat.le_trans (lP _ MC.2).1 (by decide)) _ (fun t ht hz=> ?_)
 conv=>whnf
 (repeat' first | (refine aa [] ?_;conv=>whnf) | (refine two ?_ ?_<;>intro g<;>(try simp only[an]at g)<;>(conv=>whnf)) | (refine And.intro rfl ?_;conv=>whnf) | (refine ak (by decide+kernel) ?_;conv=>whnf) | (refine ⟨dz IU K9 (by decide),?_⟩;conv=>whnf) | (refine And.intro (congrArg V.str Gd.symm) ?_;conv=>whnf) | fail)
 refine ⟨dz (n:=571) (m:=134) NN hz (by decide),?_⟩
 conv=>whnf
 obtain ⟨s6,L4⟩: ∃s':ByteArray,s'=s5++t:=⟨_,rfl⟩
 have P5:=hz
 have VH:sB s6=sB s5++nd (cN++[32]++dg p.times.toNat):=by rw [L4,bS,ht]
 have SI:s6.size<=705:=by rw [L4];exact iJ NN hz
 rw [←L4]
 (repeat' first | (refine aa [] ?_;conv=>whnf) | (refine two ?_ ?_<;>intro g<;>(try simp only[an]at g)<;>(conv=>whnf)) | (refine And.intro rfl ?_;conv=>whnf) | (refine ak (by decide+kernel) ?_;conv=>whnf) | (refine ⟨dz IU K9 (by decide),?_⟩;conv=>whnf) | (refine And.intro (congrArg V.str Gd.symm) ?_;conv=>whnf) | (refine ⟨dz NN P5 (by decide),?_⟩;conv=>whnf) | (refine And.intro (congrArg V.str L4.symm) ?_;conv=>whnf) | fail)
 refine qP _ Dw.1 Dw.2 _ ?_
 conv=>whnf
 (repeat' first | (refine aa [] ?_;conv=>whnf) | (refine two ?_ ?_<;>intro g<;>(try simp only[an]at g)<;>(conv=>whnf)) | (refine And.intro rfl ?_;conv=>whnf) | (refine ak (by decide+kernel) ?_;conv=>whnf) | (refine ⟨dz IU K9 (by decide),?_⟩;conv=>whnf) | (refine And.intro (congrArg V.str Gd.symm) ?_;conv=>whnf) | (refine ⟨dz NN P5 (by decide),?_⟩;conv=>whnf) | (refine And.intro (congrArg V.str L4.symm) ?_;conv=>whnf) | fail)
 refine ⟨dz (n:=10) (m:=100) (by decide) (Nat.le_trans (lP _ Dw.2).1 (by decide)) (by decide),?_⟩
 conv=>whnf
 (repeat' first | (refine aa [] ?_;conv=>whnf) | (refine two ?_ ?_<;>intro g<;>(try simp only[an]at g)<;>(conv=>whnf)) | (refine And.intro rfl ?_;conv=>whnf) | (refine ak (by decide+kernel) ?_;conv=>whnf) | (refine ⟨dz IU K9 (by decide),?_⟩;conv=>whnf) | (refine And.intro (congrArg V.str Gd.symm) ?_;conv=>whnf) | (refine ⟨dz NN P5 (by decide),?_⟩;conv=>whnf) | (refine And.intro (congrArg V.str L4.symm) ?_;conv=>whnf) | fail)
 refine dG _ _ (eC++[32]) (dg p.b_.toNat) rfl (aT (lP _ Dw.2).2) (by decide) (Nat.le_trans (lP _ Dw.2).1 (by decide)) _ (fun t ht hz=> ?_)
 conv=>whnf
 (repeat' first | (refine aa [] ?_;conv=>whnf) | (refine two ?_ ?_<;>intro g<;>(try simp only[an]at g)<;>(conv=>whnf)) | (refine And.intro rfl ?_;conv=>whnf) | (refine ak (by decide+kernel) ?_;conv=>whnf) | (refine ⟨dz IU K9 (by decide),?_⟩;conv=>whnf) | (refine And.intro (congrArg V.str Gd.symm) ?_;conv=>whnf) | (refine ⟨dz NN P5 (by decide),?_⟩;conv=>whnf) | (refine And.intro (congrArg V.str L4.symm) ?_;conv=>whnf) | fail)
 refine ⟨dz (n:=705) (m:=134) SI hz (by decide),?_⟩
 conv=>whnf
 obtain ⟨s7,QD⟩: ∃s':ByteArray,s'=s6++t:=⟨_,rfl⟩
 have VI:=hz
 have VJ:sB s7=sB s6++nd (eC++[32]++dg p.b_.toNat):=by rw [QD,bS,ht]
 have NO:s7.size<=839:=by rw [QD];exact iJ SI hz
 rw [←QD]
 (repeat' first | (refine aa [] ?_;conv=>whnf) | (refine two ?_ ?_<;>intro g<;>(try simp only[an]at g)<;>(conv=>whnf)) | (refine And.intro rfl ?_;conv=>whnf) | (refine ak (by decide+kernel) ?_;conv=>whnf) | (refine ⟨dz IU K9 (by decide),?_⟩;conv=>whnf) | (refine And.intro (congrArg V.str Gd.symm) ?_;conv=>whnf) | (refine ⟨dz NN P5 (by decide),?_⟩;conv=>whnf) | (refine And.intro (congrArg V.str L4.symm) ?_;conv=>whnf) | (refine ⟨dz SI VI (by decide),?_⟩;conv=>whnf) | (refine And.intro (congrArg V.str QD.symm) ?_;conv=>whnf) | fail)
 refine jc _ hp.bW _ ?_
 conv=>whnf
 (repeat' first | (refine aa [] ?_;conv=>whnf) | (refine two ?_ ?_<;>intro g<;>(try simp only[an]at g)<;>(conv=>whnf)) | (refine And.intro rfl ?_;conv=>whnf) | (refine ak (by decide+kernel) ?_;conv=>whnf) | fail)
 refine ⟨dz (n:=10) (m:=100) (by decide) (by rw [bO];exact Nat.le_trans (pG.lB hp.bW) (by decide)) (by decide),?_⟩
 conv=>whnf
 (repeat' first | (refine aa [] ?_;conv=>whnf) | (refine two ?_ ?_<;>intro g<;>(try simp only[an]at g)<;>(conv=>whnf)) | (refine And.intro rfl ?_;conv=>whnf) | (refine ak (by decide+kernel) ?_;conv=>whnf) | fail)
 refine dG _ _ (dL++[32]) (ct p.bW) rfl (aT (pG.mq _)) (by decide) (by rw [bO];exact Nat.le_trans (pG.lB hp.bW) (by decide)) _ (fun t ht hz=> ?_)
 conv=>whnf
 (repeat' first | (refine aa [] ?_;conv=>whnf) | (refine two ?_ ?_<;>intro g<;>(try simp only[an]at g)<;>(conv=>whnf)) | (refine And.intro rfl ?_;conv=>whnf) | (refine ak (by decide+kernel) ?_;conv=>whnf) | fail)
 refine ⟨dz (n:=839) (m:=134) NO hz (by decide),?_⟩
 conv=>whnf
 obtain ⟨s8,L5⟩: ∃s':ByteArray,s'=s7++t:=⟨_,rfl⟩
 have P6:=hz
 have VK:sB s8=sB s7++nd (dL++[32]++ct p.bW):=by rw [L5,bS,ht]
 have SJ:s8.size<=973:=by rw [L5];exact iJ NO hz
 rw [←L5]
 (repeat' first | (refine aa [] ?_;conv=>whnf) | (refine two ?_ ?_<;>intro g<;>(try simp only[an]at g)<;>(conv=>whnf)) | (refine And.intro rfl ?_;conv=>whnf) | (refine ak (by decide+kernel) ?_;conv=>whnf) | (refine ⟨dz NO P6 (by decide),?_⟩;conv=>whnf) | (refine And.intro (congrArg V.str L5.symm) ?_;conv=>whnf) | fail)
 refine jc _ hp.kY _ ?_
 conv=>whnf
 (repeat' first | (refine aa [] ?_;conv=>whnf) | (refine two ?_ ?_<;>intro g<;>(try simp only[an]at g)<;>(conv=>whnf)) | (refine And.intro rfl ?_;conv=>whnf) | (refine ak (by decide+kernel) ?_;conv=>whnf) | (refine ⟨dz NO P6 (by decide),?_⟩;conv=>whnf) | (refine And.intro (congrArg V.str L5.symm) ?_;conv=>whnf) | fail)
 refine ⟨dz (n:=10) (m:=100) (by decide) (by rw [bO];exact Nat.le_trans (pG.lB hp.kY) (by decide)) (by decide),?_⟩
 conv=>whnf
 (repeat' first | (refine aa [] ?_;conv=>whnf) | (refine two ?_ ?_<;>intro g<;>(try simp only[an]at g)<;>(conv=>whnf)) | (refine And.intro rfl ?_;conv=>whnf) | (refine ak (by decide+kernel) ?_;conv=>whnf) | (refine ⟨dz NO P6 (by decide),?_⟩;conv=>whnf) | (refine And.intro (congrArg V.str L5.symm) ?_;conv=>whnf) | fail)
 refine dG _ _ (cq++[32]) (ct p.kY) rfl (aT (pG.mq _)) (by decide) (by rw [bO];exact Nat.le_trans (pG.lB hp.kY) (by decide)) _ (fun t ht hz=> ?_)
 conv=>whnf
 (repeat' first | (refine aa [] ?_;conv=>whnf) | (refine two ?_ ?_<;>intro g<;>(try simp only[an]at g)<;>(conv=>whnf)) | (refine And.intro rfl ?_;conv=>whnf) | (refine ak (by decide+kernel) ?_;conv=>whnf) | (refine ⟨dz NO P6 (by decide),?_⟩;conv=>whnf) | (refine And.intro (congrArg V.str L5.symm) ?_;conv=>whnf) | fail)
 refine ⟨dz (n:=973) (m:=134) SJ hz (by decide),?_⟩
 conv=>whnf
 obtain ⟨s9,QE⟩: ∃s':ByteArray,s'=s8++t:=⟨_,rfl⟩
 have VM:=hz
 have VN:sB s9=sB s8++nd (cq++[32]++ct p.kY):=by rw [QE,bS,ht]
 have VO:s9.size<=1107:=by rw [QE];exact iJ SJ hz
 rw [←QE]
 (repeat' first | (refine aa [] ?_;conv=>whnf) | (refine two ?_ ?_<;>intro g<;>(try simp only[an]at g)<;>(conv=>whnf)) | (refine And.intro rfl ?_;conv=>whnf) | (refine ak (by decide+kernel) ?_;conv=>whnf) | (refine ⟨dz NO P6 (by decide),?_⟩;conv=>whnf) | (refine And.intro (congrArg V.str L5.symm) ?_;conv=>whnf) | (refine ⟨dz SJ VM (by decide),?_⟩;conv=>whnf) | (refine And.intro (congrArg V.str QE.symm) ?_;conv=>whnf) | fail)
 let Sr:Nat × ByteArray->St:=fun x=>⟨(.undef:: .ptr 0 0:: .str ⟨#[]⟩:: .int .i64 0:: .str x.2:: .int .i64 (x.1:Nat):: .undef:: .undef:: .undef:: .undef:: .undef:: .undef:: .undef:: .undef:: .undef:: .undef:: .undef:: .undef:: .undef:: .undef:: .undef:: .undef:: .undef:: .undef:: .undef:: .undef:: .undef:: .undef:: .undef:: .undef:: .undef:: .undef:: .undef:: .undef:: .undef:: .undef:: .undef:: .undef:: .undef:: .undef:: .undef:: .undef:: .undef:: .undef:: .undef:: .undef:: .undef:: .undef:: .undef:: .undef:: .undef:: .undef:: .undef:: .undef:: .undef:: .undef:: .undef:: .undef:: .undef:: .undef:: .undef:: .undef:: .undef:: .undef:: .undef:: .undef:: .undef:: .undef:: .undef:: .undef:: .undef:: .undef:: .undef:: .undef:: .undef:: .undef:: .undef:: .undef:: .undef:: .undef:: .undef:: .undef:: .undef:: .undef:: .undef:: .undef:: .undef:: .undef:: .undef:: .undef:: .undef:: .undef:: .undef:: .undef:: .undef:: .undef:: .undef:: .undef:: .undef:: .undef:: .undef:: .undef:: .undef:: .undef:: .undef:: .undef:: .undef:: .undef:: .undef:: .undef:: .undef:: .undef:: .undef:: .undef:: .undef:: .undef:: .undef:: .undef:: .undef:: .undef:: .undef:: .undef:: .undef:: .undef:: .undef:: .undef:: .undef:: .undef:: .undef:: .undef:: .undef:: .undef:: .undef:: .undef:: .undef:: .undef:: .undef:: .undef:: .undef:: .undef:: .undef:: .undef:: .undef:: .undef:: .undef:: .undef:: .undef:: .undef:: .undef:: .undef:: .undef:: .undef:: .undef:: .undef:: .undef:: .undef:: .undef:: .undef:: .undef:: .undef:: .undef:: .undef:: .undef:: .undef:: .undef:: .undef:: .undef:: .undef:: .undef:: .undef:: .undef:: .undef:: .undef:: .undef:: .undef:: .undef:: .undef:: .undef:: .undef:: .undef:: .undef:: .undef:: .undef:: .undef:: .undef:: .undef:: .undef:: .undef:: .undef:: .undef:: .undef:: .undef:: .undef:: .undef:: .undef:: .undef:: .undef:: .undef:: .undef:: .undef:: .undef:: .undef:: .undef:: .undef:: .undef:: .undef::[]),[.cells true 28 (ff p)],0,[]⟩
 have WT:(rL p.au).length=p.au.length:=by simp [rL]
 refine aA.enter (s':=Sr (0,s9)) (ae ?_ (.cons (.eq rfl) .nil) rfl rfl rfl) (aA.dC Sr (fun x=>p.au.length - x.1) (fun x=>x.1<=p.au.length/\sB x.2=sB s9++(p.au.take x.1).flatMap vT/\x.2.size<=1107+134*x.1) ?_ (0,s9) ⟨Nat.zero_le _,by simp,by simpa using VO⟩)
 · (repeat' first | exact aq.nil | refine aq.cons VW.undef ?_ | refine aq.cons (VW.eq rfl) ?_)
 rintro ⟨i,s⟩ ⟨hi,es,zs⟩ ih
 simp only at hi es zs
 dsimp only [Sr]
 refine ai [] ?_;conv=>whnf
 (repeat' first | (refine aa [] ?_;conv=>whnf) | (refine two ?_ ?_<;>intro g<;>(try simp only[an]at g)<;>(conv=>whnf)) | (refine And.intro rfl ?_;conv=>whnf) | fail)
 · have cV:i<p.au.length:=by omega
   obtain ⟨r,hr⟩: ∃r,p.au[i]=r:=⟨_,rfl⟩
   have dB:r∈p.au:=by rw [←hr];exact List.getElem_mem _
   have aD:(rL p.au)[(i:Int).toNat]? =some (m_ r):=by rw [Int.toNat_natCast, ←hr];simp [rL,List.getElem?_eq_getElem cV]
   have kW:p.au.take (i+1)=p.au.take i++[r]:=by rw [List.take_succ_eq_append_getElem cV,hr]
   have VR:=IP ql r dB
   have hI:=hp.au r dB
   have WU:p.times<=600:=by unfold jZ at nV;omega
   have jq:=(lP r.lT (by omega)).1
   have fP:(az (ct r.bW)).size<=60:=by rw [bO];exact Nat.le_trans (pG.lB hI.2) (by decide)
   have VS:i<20:=by omega
   have P7:s.size<=4000:=by omega
   have wi:IntKind.i64.wrap ((i:Int)+1)=((i+1:Nat):Int):=by rw [wrap64 (by omega) (by omega)];omega
   (repeat' first | (refine aa [] ?_;conv=>whnf) | (refine two ?_ ?_<;>intro g<;>(try simp only[an]at g)<;>(conv=>whnf)) | (refine And.intro rfl ?_;conv=>whnf) | (refine ak (by decide+kernel) ?_;conv=>whnf) | (refine ⟨by omega,_,aD,rfl,?_⟩;conv=>whnf) | fail)
   refine qP _ (by omega) (by omega) _ ?_
   conv=>whnf
   (repeat' first | (refine aa [] ?_;conv=>whnf) | (refine two ?_ ?_<;>intro g<;>(try simp only[an]at g)<;>(conv=>whnf)) | (refine And.intro rfl ?_;conv=>whnf) | (refine ak (by decide+kernel) ?_;conv=>whnf) | (refine ⟨by omega,_,aD,rfl,?_⟩;conv=>whnf) | (refine ⟨dz (n:=7) (m:=20) (by decide) jq (by decide),?_⟩;conv=>whnf) | (refine ⟨dz (n:=27) (m:=1) (iJ (n:=7) (m:=20) (by decide) jq) (by decide) (by decide),?_⟩;conv=>whnf) | (refine ⟨dz (n:=28) (m:=60) (iJ (n:=27) (m:=1) (iJ (n:=7) (m:=20) (by decide) jq) (by decide)) fP (by decide),?_⟩;conv=>whnf) | fail)
   refine jc _ hI.2 _ ?_
   conv=>whnf
   (repeat' first | (refine aa [] ?_;conv=>whnf) | (refine two ?_ ?_<;>intro g<;>(try simp only[an]at g)<;>(conv=>whnf)) | (refine And.intro rfl ?_;conv=>whnf) | (refine ak (by decide+kernel) ?_;conv=>whnf) | (refine ⟨by omega,_,aD,rfl,?_⟩;conv=>whnf) | (refine ⟨dz (n:=7) (m:=20) (by decide) jq (by decide),?_⟩;conv=>whnf) | (refine ⟨dz (n:=27) (m:=1) (iJ (n:=7) (m:=20) (by decide) jq) (by decide) (by decide),?_⟩;conv=>whnf) | (refine ⟨dz (n:=28) (m:=60) (iJ (n:=27) (m:=1) (iJ (n:=7) (m:=20) (by decide) jq) (by decide)) fP (by decide),?_⟩;conv=>whnf) | fail)
   refine dG _ _ (cO++[32]++dg r.lT.toNat++[32]) (ct r.bW) (by rw [bS,bS,aT (lP r.lT (by omega)).2];rfl) (aT (pG.mq _)) (Nat.le_trans (iJ (n:=27) (m:=1) (iJ (n:=7) (m:=20) (by decide) jq) (by decide)) (by decide)) (by omega) _ (fun t ht hz=> ?_)
   conv=>whnf
   (repeat' first | (refine aa [] ?_;conv=>whnf) | (refine two ?_ ?_<;>intro g<;>(try simp only[an]at g)<;>(conv=>whnf)) | (refine And.intro rfl ?_;conv=>whnf) | (refine ak (by decide+kernel) ?_;conv=>whnf) | (refine ⟨by omega,_,aD,rfl,?_⟩;conv=>whnf) | (refine ⟨dz (n:=7) (m:=20) (by decide) jq (by decide),?_⟩;conv=>whnf) | (refine ⟨dz (n:=27) (m:=1) (iJ (n:=7) (m:=20) (by decide) jq) (by decide) (by decide),?_⟩;conv=>whnf) | (refine ⟨dz (n:=28) (m:=60) (iJ (n:=27) (m:=1) (iJ (n:=7) (m:=20) (by decide) jq) (by decide)) fP (by decide),?_⟩;conv=>whnf) | (refine ⟨dz P7 hz (by decide),?_⟩;conv=>whnf) | fail)
   refine ⟨Sr (i+1,s++t),ae ?_ (.cons (.eq rfl) .nil) rfl rfl rfl,ih (i+1,s++t) ⟨by simp only;omega,?_,?_⟩ (by simp only;omega)⟩
   · rw [wi]
     (repeat' first | exact aq.nil | refine aq.cons VW.undef ?_ | refine aq.cons (VW.eq rfl) ?_)
   · simp only
     rw [bS,es,ht,kW,List.flatMap_append,List.append_assoc]
     simp [vT]
   · simp only
     exact Nat.le_trans (iJ zs hz) (by omega)
 have P8:i=p.au.length:=by omega
 subst P8
 rw [List.take_length] at es
 have zs:s.size<=4000:=by omega
 clear ih
 refine ⟨_,aB.refl,?_⟩
 conv=>whnf
 obtain ⟨q0,KW⟩: ∃q0:ByteArray,q0=⟨#[111,114,100,101,114]⟩:=⟨_,rfl⟩
 have R_:sB q0=cG:=by rw [KW];rfl
 have SK:q0.size<=20:=by rw [KW];decide
 (repeat' first | (refine aa [] ?_;conv=>whnf) | (refine two ?_ ?_<;>intro g<;>(try simp only[an]at g)<;>(conv=>whnf)) | (refine And.intro rfl ?_;conv=>whnf) | fail)
 rw [←KW]
 clear KW
 (repeat' first | (refine aa [] ?_;conv=>whnf) | (refine two ?_ ?_<;>intro g<;>(try simp only[an]at g)<;>(conv=>whnf)) | (refine And.intro rfl ?_;conv=>whnf) | (refine ai [] ?_;conv=>whnf) | fail)
 refine ⟨dz (n:=20) (m:=1) SK (by decide) (by decide),?_⟩
 conv=>whnf
 (repeat' first | (refine aa [] ?_;conv=>whnf) | (refine two ?_ ?_<;>intro g<;>(try simp only[an]at g)<;>(conv=>whnf)) | (refine And.intro rfl ?_;conv=>whnf) | (refine ⟨by decide,by decide,?_⟩;conv=>whnf) | fail)
 obtain ⟨tI,go2⟩:=tH (n:=p.o1) qQ.1.1 qQ.1.2
 refine ⟨tI,_,go2,rfl,?_⟩
 conv=>whnf
 (repeat' first | (refine aa [] ?_;conv=>whnf) | (refine two ?_ ?_<;>intro g<;>(try simp only[an]at g)<;>(conv=>whnf)) | (refine And.intro rfl ?_;conv=>whnf) | fail)
 refine ⟨dz (n:=21) (m:=10) (iJ (n:=20) (m:=1) SK (by decide)) (iS _).2 (by decide),?_⟩
 conv=>whnf
 obtain ⟨q1,Bp⟩: ∃q:ByteArray,q=q0++⟨#[32]⟩++az (gf p.o1):=⟨_,rfl⟩
 have Jd:sB q1=sB q0++[32]++gf p.o1:=by rw [Bp,bS,bS,aT (iS _).1];rfl
 have SL:q1.size<=40:=by rw [Bp];exact Nat.le_trans (iJ (n:=21) (m:=10) (iJ (n:=20) (m:=1) SK (by decide)) (iS _).2) (by decide)
 rw [←Bp]
 clear Bp tI go2
 (repeat' first | (refine aa [] ?_;conv=>whnf) | (refine two ?_ ?_<;>intro g<;>(try simp only[an]at g)<;>(conv=>whnf)) | (refine And.intro rfl ?_;conv=>whnf) | (refine ai [] ?_;conv=>whnf) | (refine ⟨_,aB.refl,?_⟩;conv=>whnf) | fail)
 refine ⟨dz (n:=40) (m:=1) SL (by decide) (by decide),?_⟩
 conv=>whnf
 (repeat' first | (refine aa [] ?_;conv=>whnf) | (refine two ?_ ?_<;>intro g<;>(try simp only[an]at g)<;>(conv=>whnf)) | (refine And.intro rfl ?_;conv=>whnf) | (refine ⟨by decide,by decide,?_⟩;conv=>whnf) | fail)
 obtain ⟨tI,go2⟩:=tH (n:=p.o2) qQ.2.1.1 qQ.2.1.2
 refine ⟨tI,_,go2,rfl,?_⟩
 conv=>whnf
 (repeat' first | (refine aa [] ?_;conv=>whnf) | (refine two ?_ ?_<;>intro g<;>(try simp only[an]at g)<;>(conv=>whnf)) | (refine And.intro rfl ?_;conv=>whnf) | fail)
 refine ⟨dz (n:=41) (m:=10) (iJ (n:=40) (m:=1) SL (by decide)) (iS _).2 (by decide),?_⟩
 conv=>whnf
 obtain ⟨q2,qR⟩: ∃q:ByteArray,q=q1++⟨#[32]⟩++az (gf p.o2):=⟨_,rfl⟩
 have VU:sB q2=sB q1++[32]++gf p.o2:=by rw [qR,bS,bS,aT (iS _).1];rfl
 have SM:q2.size<=60:=by rw [qR];exact Nat.le_trans (iJ (n:=41) (m:=10) (iJ (n:=40) (m:=1) SL (by decide)) (iS _).2) (by decide)
 rw [←qR]
 clear qR tI go2
 (repeat' first | (refine aa [] ?_;conv=>whnf) | (refine two ?_ ?_<;>intro g<;>(try simp only[an]at g)<;>(conv=>whnf)) | (refine And.intro rfl ?_;conv=>whnf) | (refine ai [] ?_;conv=>whnf) | (refine ⟨_,aB.refl,?_⟩;conv=>whnf) | fail)
 refine ⟨dz (n:=60) (m:=1) SM (by decide) (by decide),?_⟩
 conv=>whnf
 (repeat' first | (refine aa [] ?_;conv=>whnf) | (refine two ?_ ?_<;>intro g<;>(try simp only[an]at g)<;>(conv=>whnf)) | (refine And.intro rfl ?_;conv=>whnf) | (refine ⟨by decide,by decide,?_⟩;conv=>whnf) | fail)
 obtain ⟨tI,go2⟩:=tH (n:=p.o3) qQ.2.2.1.1 qQ.2.2.1.2
 refine ⟨tI,_,go2,rfl,?_⟩
 conv=>whnf
 (repeat' first | (refine aa [] ?_;conv=>whnf) | (refine two ?_ ?_<;>intro g<;>(try simp only[an]at g)<;>(conv=>whnf)) | (refine And.intro rfl ?_;conv=>whnf) | fail)
 refine ⟨dz (n:=61) (m:=10) (iJ (n:=60) (m:=1) SM (by decide)) (iS _).2 (by decide),?_⟩
 conv=>whnf
 obtain ⟨q3,Js⟩: ∃q:ByteArray,q=q2++⟨#[32]⟩++az (gf p.o3):=⟨_,rfl⟩
 have VV:sB q3=sB q2++[32]++gf p.o3:=by rw [Js,bS,bS,aT (iS _).1];rfl
 have SN:q3.size<=80:=by rw [Js];exact Nat.le_trans (iJ (n:=61) (m:=10) (iJ (n:=60) (m:=1) SM (by decide)) (iS _).2) (by decide)
 rw [←Js]
 clear Js tI go2
 (repeat' first | (refine aa [] ?_;conv=>whnf) | (refine two ?_ ?_<;>intro g<;>(try simp only[an]at g)<;>(conv=>whnf)) | (refine And.intro rfl ?_;conv=>whnf) | (refine ai [] ?_;conv=>whnf) | (refine ⟨_,aB.refl,?_⟩;conv=>whnf) | fail)
 refine ⟨dz (n:=80) (m:=1) SN (by decide) (by decide),?_⟩
 conv=>whnf
 (repeat' first | (refine aa [] ?_;conv=>whnf) | (refine two ?_ ?_<;>intro g<;>(try simp only[an]at g)<;>(conv=>whnf)) | (refine And.intro rfl ?_;conv=>whnf) | (refine ⟨by decide,by decide,?_⟩;conv=>whnf) | fail)
 obtain ⟨tI,go2⟩:=tH (n:=p.o4) qQ.2.2.2.1.1 qQ.2.2.2.1.2
 refine ⟨tI,_,go2,rfl,?_⟩
 conv=>whnf
 (repeat' first | (refine aa [] ?_;conv=>whnf) | (refine two ?_ ?_<;>intro g<;>(try simp only[an]at g)<;>(conv=>whnf)) | (refine And.intro rfl ?_;conv=>whnf) | fail)
 refine ⟨dz (n:=81) (m:=10) (iJ (n:=80) (m:=1) SN (by decide)) (iS _).2 (by decide),?_⟩
 conv=>whnf
 obtain ⟨q4,QF⟩: ∃q:ByteArray,q=q3++⟨#[32]⟩++az (gf p.o4):=⟨_,rfl⟩
 have VX:sB q4=sB q3++[32]++gf p.o4:=by rw [QF,bS,bS,aT (iS _).1];rfl
 have WV:q4.size<=100:=by rw [QF];exact Nat.le_trans (iJ (n:=81) (m:=10) (iJ (n:=80) (m:=1) SN (by decide)) (iS _).2) (by decide)
 rw [←QF]
 clear QF tI go2
 (repeat' first | (refine aa [] ?_;conv=>whnf) | (refine two ?_ ?_<;>intro g<;>(try simp only[an]at g)<;>(conv=>whnf)) | (refine And.intro rfl ?_;conv=>whnf) | (refine ai [] ?_;conv=>whnf) | (refine ⟨_,aB.refl,?_⟩;conv=>whnf) | fail)
 obtain ⟨tI,go2⟩:=IM El.1 El.2
 (repeat' first | (refine aa [] ?_;conv=>whnf) | (refine two ?_ ?_<;>intro g<;>(try simp only[an]at g)<;>(conv=>whnf)) | (refine And.intro rfl ?_;conv=>whnf) | (refine ak (by decide+kernel) ?_;conv=>whnf) | (refine ⟨tI,_,go2,rfl,?_⟩;conv=>whnf) | (refine ⟨dz (n:=10) (m:=10) (by decide) (oF _).2 (by decide),?_⟩;conv=>whnf) | fail)
 refine Ej q4 (by omega) _ (fun t ht hz=> ?_)
 conv=>whnf
 (repeat' first | (refine aa [] ?_;conv=>whnf) | (refine two ?_ ?_<;>intro g<;>(try simp only[an]at g)<;>(conv=>whnf)) | (refine And.intro rfl ?_;conv=>whnf) | (refine ak (by decide+kernel) ?_;conv=>whnf) | (refine ⟨tI,_,go2,rfl,?_⟩;conv=>whnf) | (refine ⟨dz (n:=10) (m:=10) (by decide) (oF _).2 (by decide),?_⟩;conv=>whnf) | fail)
 have Jl:t.size<=104:=by omega
 refine ⟨dz zs Jl (by decide),?_⟩
 conv=>whnf
 obtain ⟨sA,Oh⟩: ∃s':ByteArray,s'=s++t:=⟨_,rfl⟩
 have VY:sB sA=sB s++nd (sB q4):=by rw [Oh,bS,ht]
 have TK:sA.size<=4104:=by rw [Oh];exact iJ zs Jl
 rw [←Oh]
 (repeat' first | (refine aa [] ?_;conv=>whnf) | (refine two ?_ ?_<;>intro g<;>(try simp only[an]at g)<;>(conv=>whnf)) | (refine And.intro rfl ?_;conv=>whnf) | (refine ak (by decide+kernel) ?_;conv=>whnf) | (refine ⟨tI,_,go2,rfl,?_⟩;conv=>whnf) | (refine ⟨dz (n:=10) (m:=10) (by decide) (oF _).2 (by decide),?_⟩;conv=>whnf) | (refine ⟨dz zs Jl (by decide),?_⟩;conv=>whnf) | (refine And.intro (congrArg V.str Oh.symm) ?_;conv=>whnf) | fail)
 refine dG _ _ (fS++[32]) (o7 p.over) rfl (aT (oF _).1) (by decide) (Nat.le_trans (oF _).2 (by decide)) _ (fun t2 sN F4=> ?_)
 conv=>whnf
 (repeat' first | (refine aa [] ?_;conv=>whnf) | (refine two ?_ ?_<;>intro g<;>(try simp only[an]at g)<;>(conv=>whnf)) | (refine And.intro rfl ?_;conv=>whnf) | (refine ak (by decide+kernel) ?_;conv=>whnf) | (refine ⟨tI,_,go2,rfl,?_⟩;conv=>whnf) | (refine ⟨dz (n:=10) (m:=10) (by decide) (oF _).2 (by decide),?_⟩;conv=>whnf) | (refine ⟨dz zs Jl (by decide),?_⟩;conv=>whnf) | (refine And.intro (congrArg V.str Oh.symm) ?_;conv=>whnf) | fail)
 refine ⟨dz TK F4 (by decide),?_⟩
 conv=>whnf
 obtain ⟨P9,K_⟩: ∃s':ByteArray,s'=sA++t2:=⟨_,rfl⟩
 have VZ:sB P9=sB sA++nd (fS++[32]++o7 p.over):=by rw [K_,bS,sN]
 have V0:P9.size<=4238:=by rw [K_];exact iJ TK F4
 rw [←K_]
 (repeat' first | (refine aa [] ?_;conv=>whnf) | (refine two ?_ ?_<;>intro g<;>(try simp only[an]at g)<;>(conv=>whnf)) | (refine And.intro rfl ?_;conv=>whnf) | (refine ak (by decide+kernel) ?_;conv=>whnf) | fail)
 let Sl:Nat × ByteArray->St:=fun x=>⟨(.undef:: .ptr 0 0:: .str ⟨#[]⟩:: .int .i64 0:: .str x.2:: .undef:: .undef:: .undef:: .int .i64 (x.1:Nat):: .undef:: .undef:: .undef:: .undef:: .undef:: .undef:: .undef:: .undef:: .undef:: .undef:: .undef:: .undef:: .undef:: .undef:: .undef:: .undef:: .undef:: .undef:: .undef:: .undef:: .undef:: .undef:: .undef:: .undef:: .undef:: .undef:: .undef:: .undef:: .undef:: .undef:: .undef:: .undef:: .undef:: .undef:: .undef:: .undef:: .undef:: .undef:: .undef:: .undef:: .undef:: .undef:: .undef:: .undef:: .undef:: .undef:: .undef:: .undef:: .undef:: .undef:: .undef:: .undef:: .undef:: .undef:: .undef:: .undef:: .undef:: .undef:: .undef:: .undef:: .undef:: .undef:: .undef:: .undef:: .undef:: .undef:: .undef:: .undef:: .undef:: .undef:: .undef:: .undef:: .undef:: .undef:: .undef:: .undef:: .undef:: .undef:: .undef:: .undef:: .undef:: .undef:: .undef:: .undef:: .undef:: .undef:: .undef:: .undef:: .undef:: .undef:: .undef:: .undef:: .undef:: .undef:: .undef:: .undef:: .undef:: .undef:: .undef:: .undef:: .undef:: .undef:: .undef:: .undef:: .undef:: .undef:: .undef:: .undef:: .undef:: .undef:: .undef:: .undef:: .undef:: .undef:: .undef:: .undef:: .undef:: .undef:: .undef:: .undef:: .undef:: .undef:: .undef:: .undef:: .undef:: .undef:: .undef:: .undef:: .undef:: .undef:: .undef:: .undef:: .undef:: .undef:: .undef:: .undef:: .undef:: .undef:: .undef:: .undef:: .undef:: .undef:: .undef:: .undef:: .undef:: .undef:: .undef:: .undef:: .undef:: .undef:: .undef:: .undef:: .undef:: .undef:: .undef:: .undef:: .undef:: .undef:: .undef:: .undef:: .undef:: .undef:: .undef:: .undef:: .undef:: .undef:: .undef:: .undef:: .undef:: .undef:: .undef:: .undef:: .undef:: .undef:: .undef:: .undef:: .undef:: .undef:: .undef:: .undef:: .undef:: .undef:: .undef:: .undef:: .undef:: .undef:: .undef:: .undef:: .undef:: .undef:: .undef:: .undef:: .undef:: .undef:: .undef:: .undef:: .undef::[]),[.cells true 28 (ff p)],0,[]⟩
 have V1:(tL p.late).length=p.late.length:=by simp [tL]
 refine aA.enter (s':=Sl (0,P9)) (ae ?_ (.cons (.eq rfl) .nil) rfl rfl rfl) (aA.dC Sl (fun x=>p.late.length - x.1) (fun x=>x.1<=p.late.length/\sB x.2=sB P9++(p.late.take x.1).flatMap A8/\x.2.size<=4238+134*x.1) ?_ (0,P9) ⟨Nat.zero_le _,by simp,by simpa using V0⟩)
 · (repeat' first | exact aq.nil | refine aq.cons VW.undef ?_ | refine aq.cons (VW.eq rfl) ?_)
 clear K_ Oh ht sN hz F4 Jl g tI go2
 rintro ⟨i,s2⟩ ⟨hi,La,NP⟩ ih
 simp only at hi La NP
 dsimp only [Sl]
 refine ai [] ?_;conv=>whnf
 (repeat' first | (refine aa [] ?_;conv=>whnf) | (refine two ?_ ?_<;>intro g<;>(try simp only[an]at g)<;>(conv=>whnf)) | (refine And.intro rfl ?_;conv=>whnf) | fail)
 · have cV:i<p.late.length:=by omega
   obtain ⟨r,hr⟩: ∃r,p.late[i]=r:=⟨_,rfl⟩
   have dB:r∈p.late:=by rw [←hr];exact List.getElem_mem _
   have aD:(tL p.late)[(i:Int).toNat]? =some (na r):=by rw [Int.toNat_natCast, ←hr];simp [tL,List.getElem?_eq_getElem cV]
   have kW:p.late.take (i+1)=p.late.take i++[r]:=by rw [List.take_succ_eq_append_getElem cV,hr]
   have VR:=Ek IS r dB
   have hI:=hp.late r dB
   have jq:=(lP r.days (by omega)).1
   have fP:(az (eP r.km)).size<=60:=by rw [bO];exact Nat.le_trans (pG.vr hI.2) (by decide)
   have P7:s2.size<=8000:=by omega
   have wi:IntKind.i64.wrap ((i:Int)+1)=((i+1:Nat):Int):=by rw [wrap64 (by omega) (by omega)];omega
   (repeat' first | (refine aa [] ?_;conv=>whnf) | (refine two ?_ ?_<;>intro g<;>(try simp only[an]at g)<;>(conv=>whnf)) | (refine And.intro rfl ?_;conv=>whnf) | (refine ak (by decide+kernel) ?_;conv=>whnf) | (refine ⟨by omega,_,aD,rfl,?_⟩;conv=>whnf) | fail)
   refine qP _ (by omega) (by omega) _ ?_
   conv=>whnf
   (repeat' first | (refine aa [] ?_;conv=>whnf) | (refine two ?_ ?_<;>intro g<;>(try simp only[an]at g)<;>(conv=>whnf)) | (refine And.intro rfl ?_;conv=>whnf) | (refine ak (by decide+kernel) ?_;conv=>whnf) | (refine ⟨by omega,_,aD,rfl,?_⟩;conv=>whnf) | (refine ⟨dz (n:=7) (m:=20) (by decide) jq (by decide),?_⟩;conv=>whnf) | (refine ⟨dz (n:=27) (m:=1) (iJ (n:=7) (m:=20) (by decide) jq) (by decide) (by decide),?_⟩;conv=>whnf) | (refine ⟨dz (n:=28) (m:=60) (iJ (n:=27) (m:=1) (iJ (n:=7) (m:=20) (by decide) jq) (by decide)) fP (by decide),?_⟩;conv=>whnf) | fail)
   refine lC _ hI.2 _ ?_
   conv=>whnf
   (repeat' first | (refine aa [] ?_;conv=>whnf) | (refine two ?_ ?_<;>intro g<;>(try simp only[an]at g)<;>(conv=>whnf)) | (refine And.intro rfl ?_;conv=>whnf) | (refine ak (by decide+kernel) ?_;conv=>whnf) | (refine ⟨by omega,_,aD,rfl,?_⟩;conv=>whnf) | (refine ⟨dz (n:=7) (m:=20) (by decide) jq (by decide),?_⟩;conv=>whnf) | (refine ⟨dz (n:=27) (m:=1) (iJ (n:=7) (m:=20) (by decide) jq) (by decide) (by decide),?_⟩;conv=>whnf) | (refine ⟨dz (n:=28) (m:=60) (iJ (n:=27) (m:=1) (iJ (n:=7) (m:=20) (by decide) jq) (by decide)) fP (by decide),?_⟩;conv=>whnf) | fail)
   refine dG _ _ (dM++[32]++dg r.days.toNat++[32]) (eP r.km) (by rw [bS,bS,aT (lP r.days (by omega)).2];rfl) (aT (A9 _)) (Nat.le_trans (iJ (n:=27) (m:=1) (iJ (n:=7) (m:=20) (by decide) jq) (by decide)) (by decide)) (by omega) _ (fun t ht hz=> ?_)
   conv=>whnf
   (repeat' first | (refine aa [] ?_;conv=>whnf) | (refine two ?_ ?_<;>intro g<;>(try simp only[an]at g)<;>(conv=>whnf)) | (refine And.intro rfl ?_;conv=>whnf) | (refine ak (by decide+kernel) ?_;conv=>whnf) | (refine ⟨by omega,_,aD,rfl,?_⟩;conv=>whnf) | (refine ⟨dz (n:=7) (m:=20) (by decide) jq (by decide),?_⟩;conv=>whnf) | (refine ⟨dz (n:=27) (m:=1) (iJ (n:=7) (m:=20) (by decide) jq) (by decide) (by decide),?_⟩;conv=>whnf) | (refine ⟨dz (n:=28) (m:=60) (iJ (n:=27) (m:=1) (iJ (n:=7) (m:=20) (by decide) jq) (by decide)) fP (by decide),?_⟩;conv=>whnf) | (refine ⟨dz P7 hz (by decide),?_⟩;conv=>whnf) | fail)
   refine ⟨Sl (i+1,s2++t),ae ?_ (.cons (.eq rfl) .nil) rfl rfl rfl,ih (i+1,s2++t) ⟨by simp only;omega,?_,?_⟩ (by simp only;omega)⟩
   · rw [wi]
     (repeat' first | exact aq.nil | refine aq.cons VW.undef ?_ | refine aq.cons (VW.eq rfl) ?_)
   · simp only
     rw [bS,La,ht,kW,List.flatMap_append,List.append_assoc]
     simp [A8]
   · simp only
     exact Nat.le_trans (iJ NP hz) (by omega)
 have P8:i=p.late.length:=by omega
 subst P8
 rw [List.take_length] at La
 have QG:s2.size<=8000:=by omega
 clear ih NP hi
 refine ⟨_,aB.refl,?_⟩
 conv=>whnf
 obtain ⟨tI,go2⟩:=IN Em.1 Em.2
 have IV:(az (eP p.cap)).size<=60:=by rw [bO];exact Nat.le_trans (pG.vr hp.cap) (by decide)
 (repeat' first | (refine aa [] ?_;conv=>whnf) | (refine two ?_ ?_<;>intro g<;>(try simp only[an]at g)<;>(conv=>whnf)) | (refine And.intro rfl ?_;conv=>whnf) | (refine ak (by decide+kernel) ?_;conv=>whnf) | (refine ⟨tI,_,go2,rfl,?_⟩;conv=>whnf) | (refine ⟨dz (n:=10) (m:=10) (by decide) (mN _).2 (by decide),?_⟩;conv=>whnf) | fail)
 refine lC _ hp.cap _ ?_
 conv=>whnf
 (repeat' first | (refine aa [] ?_;conv=>whnf) | (refine two ?_ ?_<;>intro g<;>(try simp only[an]at g)<;>(conv=>whnf)) | (refine And.intro rfl ?_;conv=>whnf) | (refine ak (by decide+kernel) ?_;conv=>whnf) | (refine ⟨tI,_,go2,rfl,?_⟩;conv=>whnf) | (refine ⟨dz (n:=9) (m:=60) (by decide) IV (by decide),?_⟩;conv=>whnf) | (refine ⟨dz (n:=10) (m:=10) (by decide) (mN _).2 (by decide),?_⟩;conv=>whnf) | fail)
 refine dG _ _ (j4++[32]) (eP p.cap) rfl (aT (A9 _)) (by decide) (Nat.le_trans IV (by decide)) _ (fun t ht hz=> ?_)
 conv=>whnf
 (repeat' first | (refine aa [] ?_;conv=>whnf) | (refine two ?_ ?_<;>intro g<;>(try simp only[an]at g)<;>(conv=>whnf)) | (refine And.intro rfl ?_;conv=>whnf) | (refine ak (by decide+kernel) ?_;conv=>whnf) | (refine ⟨tI,_,go2,rfl,?_⟩;conv=>whnf) | (refine ⟨dz (n:=9) (m:=60) (by decide) IV (by decide),?_⟩;conv=>whnf) | (refine ⟨dz (n:=10) (m:=10) (by decide) (mN _).2 (by decide),?_⟩;conv=>whnf) | fail)
 refine ⟨dz QG hz (by decide),?_⟩
 conv=>whnf
 obtain ⟨sC,Oi⟩: ∃s':ByteArray,s'=s2++t:=⟨_,rfl⟩
 have V2:sB sC=sB s2++nd (j4++[32]++eP p.cap):=by rw [Oi,bS,ht]
 have TL:sC.size<=8134:=by rw [Oi];exact iJ QG hz
 rw [←Oi]
 (repeat' first | (refine aa [] ?_;conv=>whnf) | (refine two ?_ ?_<;>intro g<;>(try simp only[an]at g)<;>(conv=>whnf)) | (refine And.intro rfl ?_;conv=>whnf) | (refine ak (by decide+kernel) ?_;conv=>whnf) | (refine ⟨tI,_,go2,rfl,?_⟩;conv=>whnf) | (refine ⟨dz (n:=9) (m:=60) (by decide) IV (by decide),?_⟩;conv=>whnf) | (refine ⟨dz (n:=10) (m:=10) (by decide) (mN _).2 (by decide),?_⟩;conv=>whnf) | (refine ⟨dz QG hz (by decide),?_⟩;conv=>whnf) | (refine And.intro (congrArg V.str Oi.symm) ?_;conv=>whnf) | fail)
 refine dG _ _ (fT++[32]) (o8 p.roll) rfl (aT (mN _).1) (by decide) (Nat.le_trans (mN _).2 (by decide)) _ (fun t2 sN F4=> ?_)
 conv=>whnf
 (repeat' first | (refine aa [] ?_;conv=>whnf) | (refine two ?_ ?_<;>intro g<;>(try simp only[an]at g)<;>(conv=>whnf)) | (refine And.intro rfl ?_;conv=>whnf) | (refine ak (by decide+kernel) ?_;conv=>whnf) | (refine ⟨tI,_,go2,rfl,?_⟩;conv=>whnf) | (refine ⟨dz (n:=9) (m:=60) (by decide) IV (by decide),?_⟩;conv=>whnf) | (refine ⟨dz (n:=10) (m:=10) (by decide) (mN _).2 (by decide),?_⟩;conv=>whnf) | (refine ⟨dz QG hz (by decide),?_⟩;conv=>whnf) | (refine And.intro (congrArg V.str Oi.symm) ?_;conv=>whnf) | fail)
 refine ⟨dz TL F4 (by decide),?_⟩
 conv=>whnf
 obtain ⟨sD,QH⟩: ∃s':ByteArray,s'=sC++t2:=⟨_,rfl⟩
 have V3:sB sD=sB sC++nd (fT++[32]++o8 p.roll):=by rw [QH,bS,sN]
 have V4:sD.size<=8268:=by rw [QH];exact iJ TL F4
 rw [←QH]
 (repeat' first | (refine aa [] ?_;conv=>whnf) | (refine two ?_ ?_<;>intro g<;>(try simp only[an]at g)<;>(conv=>whnf)) | (refine And.intro rfl ?_;conv=>whnf) | (refine ak (by decide+kernel) ?_;conv=>whnf) | fail)
 let Sh:Nat × ByteArray->St:=fun x=>⟨(.undef:: .ptr 0 0:: .str ⟨#[]⟩:: .int .i64 0:: .str x.2:: .undef:: .undef:: .undef:: .undef:: .int .i64 (x.1:Nat):: .undef:: .undef:: .undef:: .undef:: .undef:: .undef:: .undef:: .undef:: .undef:: .undef:: .undef:: .undef:: .undef:: .undef:: .undef:: .undef:: .undef:: .undef:: .undef:: .undef:: .undef:: .undef:: .undef:: .undef:: .undef:: .undef:: .undef:: .undef:: .undef:: .undef:: .undef:: .undef:: .undef:: .undef:: .undef:: .undef:: .undef:: .undef:: .undef:: .undef:: .undef:: .undef:: .undef:: .undef:: .undef:: .undef:: .undef:: .undef:: .undef:: .undef:: .undef:: .undef:: .undef:: .undef:: .undef:: .undef:: .undef:: .undef:: .undef:: .undef:: .undef:: .undef:: .undef:: .undef:: .undef:: .undef:: .undef:: .undef:: .undef:: .undef:: .undef:: .undef:: .undef:: .undef:: .undef:: .undef:: .undef:: .undef:: .undef:: .undef:: .undef:: .undef:: .undef:: .undef:: .undef:: .undef:: .undef:: .undef:: .undef:: .undef:: .undef:: .undef:: .undef:: .undef:: .undef:: .undef:: .undef:: .undef:: .undef:: .undef:: .undef:: .undef:: .undef:: .undef:: .undef:: .undef:: .undef:: .undef:: .undef:: .undef:: .undef:: .undef:: .undef:: .undef:: .undef:: .undef:: .undef:: .undef:: .undef:: .undef:: .undef:: .undef:: .undef:: .undef:: .undef:: .undef:: .undef:: .undef:: .undef:: .undef:: .undef:: .undef:: .undef:: .undef:: .undef:: .undef:: .undef:: .undef:: .undef:: .undef:: .undef:: .undef:: .undef:: .undef:: .undef:: .undef:: .undef:: .undef:: .undef:: .undef:: .undef:: .undef:: .undef:: .undef:: .undef:: .undef:: .undef:: .undef:: .undef:: .undef:: .undef:: .undef:: .undef:: .undef:: .undef:: .undef:: .undef:: .undef:: .undef:: .undef:: .undef:: .undef:: .undef:: .undef:: .undef:: .undef:: .undef:: .undef:: .undef:: .undef:: .undef:: .undef:: .undef:: .undef:: .undef:: .undef:: .undef:: .undef:: .undef:: .undef:: .undef:: .undef:: .undef:: .undef:: .undef:: .undef::[]),[.cells true 28 (ff p)],0,[]⟩
 have WW:(iL p.cT).length=p.cT.length:=by simp [iL]
 refine aA.enter (s':=Sh (0,sD)) (ae ?_ (.cons (.eq rfl) .nil) rfl rfl rfl) (aA.dC Sh (fun x=>p.cT.length - x.1) (fun x=>x.1<=p.cT.length/\sB x.2=sB sD++(p.cT.take x.1).flatMap IJ/\x.2.size<=8268+134*x.1) ?_ (0,sD) ⟨Nat.zero_le _,by simp,by simpa using V4⟩)
 · (repeat' first | exact aq.nil | refine aq.cons VW.undef ?_ | refine aq.cons (VW.eq rfl) ?_)
 clear Oi QH ht sN hz F4 tI go2
 rintro ⟨i,s3⟩ ⟨hi,QI,Og⟩ ih
 simp only at hi QI Og
 dsimp only [Sh]
 refine ai [] ?_;conv=>whnf
 (repeat' first | (refine aa [] ?_;conv=>whnf) | (refine two ?_ ?_<;>intro g<;>(try simp only[an]at g)<;>(conv=>whnf)) | (refine And.intro rfl ?_;conv=>whnf) | fail)
 · have cV:i<p.cT.length:=by omega
   obtain ⟨r,hr⟩: ∃r,p.cT[i]=r:=⟨_,rfl⟩
   have dB:r∈p.cT:=by rw [←hr];exact List.getElem_mem _
   have aD:(iL p.cT)[(i:Int).toNat]? =some (.int .i64 r):=by rw [Int.toNat_natCast, ←hr];simp [iL,List.getElem?_eq_getElem cV]
   have kW:p.cT.take (i+1)=p.cT.take i++[r]:=by rw [List.take_succ_eq_append_getElem cV,hr]
   have zW:=y9 IT r dB
   have P7:s3.size<=40000:=by omega
   have wi:IntKind.i64.wrap ((i:Int)+1)=((i+1:Nat):Int):=by rw [wrap64 (by omega) (by omega)];omega
   (repeat' first | (refine aa [] ?_;conv=>whnf) | (refine two ?_ ?_<;>intro g<;>(try simp only[an]at g)<;>(conv=>whnf)) | (refine And.intro rfl ?_;conv=>whnf) | (refine ak (by decide+kernel) ?_;conv=>whnf) | (refine ⟨by omega,_,aD,rfl,?_⟩;conv=>whnf) | fail)
   refine oz r zW.1 zW.2 _ (fun y m d hd=> ?_)
   have V5:=AP hd
   have fP:(az (F' y m d)).size<=60:=by rw [bO,MY];decide
   have V6: ∀x∈F' y m d,0<=x/\x<256:=P4 y m d
   conv=>whnf
   (repeat' first | (refine aa [] ?_;conv=>whnf) | (refine two ?_ ?_<;>intro g<;>(try simp only[an]at g)<;>(conv=>whnf)) | (refine And.intro rfl ?_;conv=>whnf) | (refine ak (by decide+kernel) ?_;conv=>whnf) | (refine ⟨dz (n:=9) (m:=60) (by decide) fP (by decide),?_⟩;conv=>whnf) | fail)
   refine dG _ _ (bE++[32]) (vA r) rfl (by rw [V5];exact aT V6) (by decide) (Nat.le_trans fP (by decide)) _ (fun t ht hz=> ?_)
   conv=>whnf
   (repeat' first | (refine aa [] ?_;conv=>whnf) | (refine two ?_ ?_<;>intro g<;>(try simp only[an]at g)<;>(conv=>whnf)) | (refine And.intro rfl ?_;conv=>whnf) | (refine ak (by decide+kernel) ?_;conv=>whnf) | (refine ⟨dz P7 hz (by decide),?_⟩;conv=>whnf) | fail)
   refine ⟨Sh (i+1,s3++t),ae ?_ (.cons (.eq rfl) .nil) rfl rfl rfl,ih (i+1,s3++t) ⟨by simp only;omega,?_,?_⟩ (by simp only;omega)⟩
   · rw [wi]
     (repeat' first | exact aq.nil | refine aq.cons VW.undef ?_ | refine aq.cons (VW.eq rfl) ?_)
   · simp only
     rw [bS,QI,ht,kW,List.flatMap_append,List.append_assoc]
     simp [IJ]
   · simp only
     exact Nat.le_trans (iJ Og hz) (by omega)
 have P8:i=p.cT.length:=by omega
 subst P8
 rw [List.take_length] at QI
 have V7:s3.size<=40000:=by omega
 clear ih Og hi
 refine ⟨_,aB.refl,?_⟩
 conv=>whnf
 (repeat' first | (refine aa [] ?_;conv=>whnf) | (refine two ?_ ?_<;>intro g<;>(try simp only[an]at g)<;>(conv=>whnf)) | (refine And.intro rfl ?_;conv=>whnf) | (refine ak (by decide+kernel) ?_;conv=>whnf) | fail)
 refine ⟨dz (n:=40000) (m:=2) V7 (by decide) (by decide),?_⟩
 conv=>whnf
 obtain ⟨sF,TM⟩: ∃s':ByteArray,s'=s3++⟨#[125,10]⟩:=⟨_,rfl⟩
 have TN:sB sF=eF p:=by
  rw [TM,bS,QI,V3,V2,La,VZ,VY,es,VN,VK,VJ,VH,VG,VF,SH,VE,VD,VX,VV,VU,Jd,R_]
  unfold eF
  simp only [List.append_assoc]
  rfl
 have WX:sF.size=(eF p).length:=by rw [←TN,bh]
 rw [←TM]
 (repeat' first | (refine aa [] ?_;conv=>whnf) | (refine two ?_ ?_<;>intro g<;>(try simp only[an]at g)<;>(conv=>whnf)) | (refine And.intro rfl ?_;conv=>whnf) | (refine ak (by decide+kernel) ?_;conv=>whnf) | fail)
 · exact h1 CK (by omega)
 · exact h0 CK (by omega) sF TN
end P2
namespace QJ
open Go Go.Proofs VL D1 B2 J7 eG jt c5 dj C1 C2 C6 Jp D7 LV Na Nc oO Qx R8 H2
def NQ:Prod:=⟨⟨#[104,111,109,101]⟩,2,1,1,1,12,0,60000000,[],100000000,1,2,3,4,1,[],0,1,[]⟩
theorem Lb (K:Out->List af->Prop) (h:K (.ret (dE NQ)) []):ah Tryz.prog 38 [] [] K:=by
 refine ah.dv ?_
 refine ag [] 0 Tryz.func38 (by rfl) (by rfl) ?_
 conv=>whnf
 (repeat' first | (refine aa [] ?_;conv=>whnf) | (refine two ?_ ?_<;>intro g<;>(try simp only[an]at g)<;>(conv=>whnf)) | (refine And.intro rfl ?_;conv=>whnf) | fail)
 refine ⟨_,_,ae (.cons (.agg ?_) .nil) .nil rfl rfl rfl,h⟩
 (repeat' first | exact du.nil | refine du.cons VQ.no ?_ | refine du.cons VQ.spare ?_ | refine du.cons (VQ.eq rfl) ?_)
@[reducible] def um (v:Int) (n:Int):Int:=IntKind.i64.wrap ((IntKind.u64.wrap v).tmod n)
theorem kE (v:Int) {n:Int} (h:1<=n) (h2:n<=4000000000000000000):0<=um v n/\um v n<n:=by
 have h3:0<=IntKind.u64.wrap v:=(wE v).1
 have h4:=Int.tmod_lt_of_pos (IntKind.u64.wrap v) (b:=n) (by omega)
 have h5:=Int.tmod_nonneg n h3
 unfold um
 rw [wrap64 (by omega) (by omega)]
 exact ⟨h5,h4⟩
theorem QK (v:Int) {n:Int} (h:1<=n) (h2:n<=4000000000000000000):IntKind.i64.wrap (1+um v n)=1+um v n:=by
 have:=kE v h h2
 rw [wrap64 (by omega) (by omega)]
def IW (n:Int):Int:=if n=0 then 1 else 3
def mP (n:Int):Int:=if n=0 then 1 else if n=1 then 2 else if n=2 then 3 else if n=3 then 4 else if n=4 then 6 else 12
theorem IX {n:Int} (h:0<=n/\n<2):([.int .i64 1,.int .i64 3]:List V)[n.toNat]? =some (.int .i64 (IW n)):=by
 have:n=0\/n=1:=by omega
 rcases this with rfl | rfl<;>rfl
theorem De {n:Int} (h:0<=n/\n<6):([.int .i64 1,.int .i64 2,.int .i64 3,.int .i64 4,.int .i64 6,.int .i64 12]:List V)[n.toNat]? =some (.int .i64 (mP n)):=by
 have:n=0\/n=1\/n=2\/n=3\/n=4\/n=5:=by omega
 rcases this with rfl | rfl | rfl | rfl | rfl | rfl<;>rfl
def A' (p:Prod) (t:Int):Prod:=⟨⟨#[104,111,109,101]⟩,IntKind.i64.wrap (1+um p.count 3),IW (um p.m3 2),IntKind.i64.wrap (1+um p.kind 3),mP (um p.every 6),IntKind.i64.wrap (1+IntKind.i64.wrap ((IntKind.u64.wrap p.times).tmod (IntKind.u64.wrap t))),0,um p.bW 300000000,[],um p.kY 500000000,1,2,3,4,IntKind.i64.wrap (1+um p.over 3),[],0,1,[]⟩
noncomputable def vW (p:Prod) (t:Int):Prod:=if bA p then p else A' p t
def IY (p:Prod) (t:Int):Prod:=if t<p.times then {p with times:=t,au:=[]} else p
def En (p:Prod):Prod:=if p.times<=p.b_\/p.kind=3 then {p with b_:=0} else p
noncomputable def xF (p:Prod) (t:Int):Prod:=En (IY (vW p t) t)
set_option maxHeartbeats 4000000 in
theorem NR (p:Prod) (hp:p.Kh) (t:Int) (ht:1<=t/\t<=600) (K:Out->List af->Prop) (h:K (.ret (dE (xF p t))) []):ah Tryz.prog 14 [dE p,.int .i64 t] [] K:=by
 refine ah.dv ?_
 have oT:=vH p hp
 have Fo:cS p=0->vW p t=p:=fun hh=>by unfold cS at hh;split at hh;exact if_pos (by assumption);cases hh
 have TO:cS p≠0->vW p t=A' p t:=fun hh=>by unfold cS at hh;split at hh;exact absurd rfl hh;exact if_neg (by assumption)
 obtain ⟨cc,KS⟩: ∃cc,cS p=cc:=⟨_,rfl⟩
 rw [KS] at oT Fo TO
 clear KS
 unfold xF at h
 have SO:IntKind.u64.wrap t=t:=gp (by omega) (by omega)
 refine ag [] 0 Tryz.func14 (by rfl) (by rfl) ?_
 conv=>whnf
 (repeat' first | (refine aa [] ?_;conv=>whnf) | (refine two ?_ ?_<;>intro g<;>(try simp only[an]at g)<;>(conv=>whnf)) | (refine And.intro rfl ?_;conv=>whnf) | (refine ak (by decide+kernel) ?_;conv=>whnf) | (refine Lb _ ?_;conv=>whnf) | (refine oT _ ?_;conv=>whnf) | (refine ⟨(by decide:(3:Int)≠0),?_⟩;conv=>whnf) | (refine ⟨(by decide:(2:Int)≠0),?_⟩;conv=>whnf) | (refine ⟨(by decide:(6:Int)≠0),?_⟩;conv=>whnf) | (refine ⟨(by decide:(300000000:Int)≠0),?_⟩;conv=>whnf) | (refine ⟨(by decide:(500000000:Int)≠0),?_⟩;conv=>whnf) | (refine ⟨(by rw [SO];omega:IntKind.u64.wrap t≠0),?_⟩;conv=>whnf) | (refine ⟨(kE p.m3 (n:=2) (by decide) (by decide)).1,_,IX (kE p.m3 (n:=2) (by decide) (by decide)),rfl,?_⟩;conv=>whnf) | (refine ⟨(kE p.every (n:=6) (by decide) (by decide)).1,_,De (kE p.every (n:=6) (by decide) (by decide)),rfl,?_⟩;conv=>whnf) | fail)
 all_goals
  first
  | rw [Fo (by assumption)] at h
  | rw [TO (by assumption)] at h
  unfold IY at h
  first
  | rw [if_pos (by assumption)] at h
  | rw [if_neg (Int.not_lt.2 (by assumption))] at h
  unfold En at h
  first
  | rw [if_pos (Or.inl (by assumption))] at h
  | rw [if_pos (Or.inr (by assumption))] at h
  | rw [if_neg (not_or.2 ⟨Int.not_le.2 (by assumption),by assumption⟩)] at h
  refine ⟨_,_,ae (.cons (.agg ?_) .nil) .nil rfl rfl rfl,h⟩
  (repeat' first | exact du.nil | refine du.cons VQ.no ?_ | refine du.cons VQ.spare ?_ | refine du.cons (VQ.eq rfl) ?_)
end QJ
namespace TP
open Go Go.Proofs VL D1 D2 B2 B8 J7 eG kb kj pG wg pP xt jt HF Jn Ga c5 dj C1 C2 C3 C4 C6 oO H2 P1 P2 QJ
theorem FW:dX (sB ⟨#[104,111,109,101]⟩):=by
 have e:sB (⟨#[104,111,109,101]⟩:ByteArray)=[104,111,109,101]:=rfl
 rw [e]
 refine ⟨⟨by decide,by decide,fun x hx=> ?_,by decide⟩,by decide⟩
 injection hx with hx;subst hx;decide
theorem Eo {times:Int}: ∀ {q:Option Rs} {l:List Rs},eV times q l-> ∀r∈l,(1<=r.lT/\r.lT<=times - 1)/\0<=r.bW/\r.bW<=1000000000
 | _,[],_,r,hr=>by cases hr
 | q,x::l,h,r,hr=>by
   rcases List.mem_cons.1 hr with rfl | hr
   · exact ⟨h.1,h.2.1⟩
   · exact Eo h.2.2.2 r hr
theorem Ba: ∀ {q:Option Ti} {l:List Ti},g_ q l-> ∀r∈l,(1<=r.days/\r.days<=365)/\0<=r.km/\r.km<=10000000000000
 | _,[],_,r,hr=>by cases hr
 | q,x::l,h,r,hr=>by
   rcases List.mem_cons.1 hr with rfl | hr
   · exact ⟨h.1,h.2.1⟩
   · exact Ba h.2.2.2 r hr
theorem Bb {p:Prod} (h:bA p):p.ok:=by
 obtain ⟨⟨⟨sk,nB,NM,xD⟩,mO,nV⟩,⟨mZ,A_,nb,ql⟩,⟨⟨g1,g2,g3,g4,_⟩,El⟩,⟨Lj,cu,N1,IS⟩,⟨⟨Hq,IT⟩,Em,Mc⟩⟩:=h
 have nl:=sk.1.2.1
 rw [bh] at nl
 unfold kT at mO
 unfold jZ at nV
 constructor
 all_goals try (unfold bM;omega)
 · omega
 · intro x hx;have:=Eo ql x hx;unfold bM;omega
 · intro x hx;have:=Ba IS x hx;unfold bM;omega
 · intro x hx;have:=y9 IT x hx;unfold bM;omega
 all_goals omega
theorem IZ (p:Prod) {t:Int} (ht:1<=t/\t<=600):bA (A' p t)/\(A' p t).times<=t:=by
 have SO:IntKind.u64.wrap t=t:=gp (by omega) (by omega)
 have u1:=kE p.count (n:=3) (by decide) (by decide)
 have u2:=kE p.m3 (n:=2) (by decide) (by decide)
 have u3:=kE p.kind (n:=3) (by decide) (by decide)
 have u4:=kE p.every (n:=6) (by decide) (by decide)
 have u5:=kE p.times (n:=t) (by omega) (by omega)
 have u6:=kE p.bW (n:=300000000) (by decide) (by decide)
 have u7:=kE p.kY (n:=500000000) (by decide) (by decide)
 have u8:=kE p.over (n:=3) (by decide) (by decide)
 have e1:=QK p.count (n:=3) (by decide) (by decide)
 have e3:=QK p.kind (n:=3) (by decide) (by decide)
 have e5:=QK p.times (n:=t) (by omega) (by omega)
 have e8:=QK p.over (n:=3) (by decide) (by decide)
 have V8:IW (um p.m3 2)=1\/IW (um p.m3 2)=3:=by unfold IW;split<;>simp
 have pq:mP (um p.every 6)=1\/mP (um p.every 6)=2\/mP (um p.every 6)=3\/mP (um p.every 6)=4\/mP (um p.every 6)=6\/mP (um p.every 6)=12:=by unfold mP;(repeat' split)<;>decide
 unfold A'
 rw [SO,e1,e3,e5,e8]
 refine ⟨⟨⟨⟨FW,by simp only;omega,V8,by simp only;omega⟩,pq,?_⟩,⟨by simp only;omega,by simp only;omega,by simp,trivial⟩,⟨by unfold nL;simp,by simp only;omega⟩,⟨by simp,by simp,.inr rfl,trivial⟩,⟨⟨by simp,trivial⟩,by simp,.inr rfl⟩⟩,by simp only;omega⟩
 unfold jZ
 simp only
 refine ⟨by omega,by omega,.inr trivial⟩
theorem Lc (p:Prod) {t:Int} (ht:1<=t/\t<=600):bA (xF p t)/\(xF p t).times<=t:=by
 have h1:bA (vW p t):=by
  unfold vW
  split
  · assumption
  · exact (IZ p ht).1
 have h0:0<=(vW p t).b_:=by obtain ⟨⟨_,_,hs⟩,_⟩:=h1;unfold jZ at hs;omega
 unfold xF
 generalize vW p t=q at h1 h0
 obtain ⟨⟨hn,mO,nV⟩,⟨mZ,A_,nb,ql⟩,qQ,Ep,Ld⟩:=h1
 unfold jZ at nV
 unfold IY
 split
 · unfold En
   split
   · exact ⟨⟨⟨hn,mO,show (1<=t/\t<=600)/\((0:Int)<=0/\0<=t - 1)/\(q.kind≠3\/(0:Int)=0) by omega⟩,⟨mZ,A_,by simp,trivial⟩,qQ,Ep,Ld⟩,Int.le_refl t⟩
   · rename_i h
     have h: ¬(t<=q.b_\/q.kind=3):=h
     exact ⟨⟨⟨hn,mO,show (1<=t/\t<=600)/\(0<=q.b_/\q.b_<=t - 1)/\(q.kind≠3\/q.b_=0) by omega⟩,⟨mZ,A_,by simp,trivial⟩,qQ,Ep,Ld⟩,Int.le_refl t⟩
 · unfold En
   split
   · exact ⟨⟨⟨hn,mO,show (1<=q.times/\q.times<=600)/\((0:Int)<=0/\0<=q.times - 1)/\(q.kind≠3\/(0:Int)=0) by omega⟩,⟨mZ,A_,nb,ql⟩,qQ,Ep,Ld⟩,show q.times<=t by omega⟩
   · exact ⟨⟨⟨hn,mO,show (1<=q.times/\q.times<=600)/\(0<=q.b_/\q.b_<=q.times - 1)/\(q.kind≠3\/q.b_=0) by omega⟩,⟨mZ,A_,nb,ql⟩,qQ,Ep,Ld⟩,by omega⟩
end TP
namespace QL
open Go Go.Proofs VL D1 D2 B8 Kw eG kb kj pG wg pP xt jt HF Jn Ga c5 dj C1 C2 C3 C4 C6 oO H2 pQ oY vL kn pJ Of P1 P2
noncomputable def cls (p:Prod):List (List (Int × List Int)):=
 [[(1,cK),(1,kU p.count)],[(1,cL),(1,kV p.m3)],[(1,dK),(1,oZ p.kind)],[(1,cM),(2,dg p.every.toNat)],[(1,cN),(2,dg p.times.toNat)],[(1,eC),(2,dg p.b_.toNat)],
  [(1,dL),(2,ct p.bW)],[(1,cq),(2,ct p.kY)]]
 ++p.au.map (fun r=>[(1,cO),(2,dg r.lT.toNat),(2,ct r.bW)])
 ++[[(1,cG),(1,gf p.o1),(1,gf p.o2),(1,gf p.o3),(1,gf p.o4)],[(1,fS),(1,o7 p.over)]]
 ++p.late.map (fun r=>[(1,dM),(2,dg r.days.toNat),(2,eP r.km)])
 ++[[(1,j4),(2,eP p.cap)],[(1,fT),(1,o8 p.roll)]]
 ++p.cT.map (fun n=>[(1,bE),(2,vA n)])
def zj (ts:List (Int × List Int)):List Int:=[32,32]++II ts++[10]
theorem Bc {α β:Type} (f:α->β) (g:β->List Int): ∀l:List α,(l.map f).flatMap g=l.flatMap (fun x=>g (f x))
 | []=>rfl
 | x::l=>by rw [List.map_cons,List.flatMap_cons,List.flatMap_cons,Bc f g l]
theorem FX (p:Prod):eF p=cY++[32]++sB p.name++[32,123,10]++(cls p).flatMap zj++[125,10]:=by
 unfold eF cls
 simp only [List.flatMap_append,Bc,List.flatMap_cons,List.flatMap_nil]
 have h1: ∀(k j:Int) (a b:List Int),zj [(k,a),(j,b)]=nd (a++[32]++b):=fun k j a b=>by unfold nd zj;simp [II]
 have h2:(fun r:Rs=>zj [(1,cO),(2,dg r.lT.toNat),(2,ct r.bW)])=vT:=by funext r;unfold vT nd zj;simp [II]
 have h3:(fun r:Ti=>zj [(1,dM),(2,dg r.days.toNat),(2,eP r.km)])=A8:=by funext r;unfold A8 nd zj;simp [II]
 have h4:(fun n:Int=>zj [(1,bE),(2,vA n)])=IJ:=by funext r;unfold IJ nd zj;simp [II]
 have h5:nd (cG++[32]++gf p.o1++[32]++gf p.o2++[32]++gf p.o3++[32]++gf p.o4)=zj [(1,cG),(1,gf p.o1),(1,gf p.o2),(1,gf p.o3),(1,gf p.o4)]:=by unfold nd zj;simp [II]
 rw [h2,h3,h4,h5]
 simp only [h1,List.append_assoc,List.nil_append,List.append_nil]
theorem Le {k:Int} {a:List Int} (hk:k=2) (h0:a≠[]) (h1: ∀x,a.head?=some x->cw x) (h: ∀x∈a,cw x\/x=46\/x=45\/x=47\/x=37):cJ (2,a)=true:=by
 cases a with
 | nil=>exact absurd rfl h0
 | cons c w=>
   subst hk
   show ((decide ((2:Int)=1) &&sW c &&w.all nM) || (decide ((2:Int)=2) &&qy c &&w.all vB))=true
   rw [(dt c).2 (h1 c rfl),List.all_eq_true.2 fun x hx=>(qA x).2 ?_]
   · rfl
   rcases h x (List.mem_cons_of_mem _ hx) with h | h
   · exact .inl ((dt x).2 h)
   · exact .inr h
theorem y_ {a:List Int} (h0:a≠[]) (h1: ∀x,a.head?=some x->cw x) (h: ∀x∈a,cw x\/x=46\/x=45\/x=47\/x=37):cJ (2,a)=true:=Le rfl h0 h1 h
theorem vX (n:Nat):dg n≠[]:=by rw [dg];split<;>simp
theorem Bd (n:Nat):cJ (2,dg n)=true:=y_ (vX n) (fun x hx=>gn n x (List.mem_of_mem_head? hx)) (fun x hx=> .inl (gn n x hx))
theorem vY {a b:List Int} (h:a≠[]):(a++b).head?=a.head?:=by
 cases a with
 | nil=>exact absurd rfl h
 | cons c w=>rfl
theorem FY {l:List Int} {x:Int} (h:x∈dD l):x∈l:=by
 unfold dD at h
 have:=List.mem_reverse.1 h
 exact List.mem_reverse.1 ((List.dropWhile_sublist _).subset this)
theorem za {v:Int} (h:0<=v):cJ (2,ct v)=true:=by
 have e:ct v=dg (v.natAbs/10000000)++(ed (v.natAbs %10000000)++[37]):=by rw [vq];unfold qq;rw [if_neg (by omega)];simp
 rw [e]
 refine y_ (by simp [vX]) (fun x hx=> ?_) fun x hx=> ?_
 · rw [vY (vX _)] at hx;exact gn _ x (List.mem_of_mem_head? hx)
 · rcases List.mem_append.1 hx with hx | hx
   · exact .inl (gn _ x hx)
   rcases List.mem_append.1 hx with hx | hx
   · unfold ed at hx
     split at hx
     · cases hx
     · rcases List.mem_cons.1 hx with rfl | hx
       · exact .inr (.inl rfl)
       · exact .inl (gm _ _ x (FY hx))
   · simp at hx;subst hx;exact .inr (.inr (.inr (.inr rfl)))
theorem Be {v:Int} (h:0<=v):cJ (2,eP v)=true:=by
 have e:eP v=dg (v.natAbs/100)++46::fL 2 (v.natAbs %100):=by rw [xo];unfold qq;rw [if_neg (by omega)];simp
 rw [e]
 refine y_ (by simp [vX]) (fun x hx=> ?_) fun x hx=> ?_
 · rw [vY (vX _)] at hx;exact gn _ x (List.mem_of_mem_head? hx)
 · rcases List.mem_append.1 hx with hx | hx
   · exact .inl (gn _ x hx)
   rcases List.mem_cons.1 hx with rfl | hx
   · exact .inr (.inl rfl)
   · exact .inl (gm _ _ x hx)
theorem NS {w:Nat} (h:0<w) (n:Nat):fL w n≠[]:=by
 intro hh;have:=cF w n;rw [hh] at this;simp at this;omega
theorem NT (y m d:Nat):cJ (2,F' y m d)=true:=by
 unfold F'
 refine y_ (by simp) (fun x hx=> ?_) fun x hx=> ?_
 · rw [List.append_assoc,List.append_assoc,List.append_assoc,vY (NS (by decide) _)] at hx;exact gm _ _ x (List.mem_of_mem_head? hx)
 · simp only [List.mem_append,List.mem_singleton] at hx
   rcases hx with (((hx | hx) | hx) | hx) | hx
   · exact .inl (gm _ _ x hx)
   · exact .inr (.inr (.inl hx))
   · exact .inl (gm _ _ x hx)
   · exact .inr (.inr (.inl hx))
   · exact .inl (gm _ _ x hx)
theorem Lf {n:Int} (h0: -25567<=n) (h1:n<=84370): ∃y m d,gZ n y m d:=by
 have hy: ∀k:Nat,n<pP.opens (1900+k)-> ∃y:Nat,1900<=y/\y<1900+k/\pP.opens y<=n/\n<pP.opens (y+1):=by
  intro k
  induction k with
  | zero=>
    intro h
    exfalso
    have e:pP.opens 1900= -25567:=by decide
    rw [Nat.add_zero] at h
    omega
  | succ k ih=>
    intro h
    by_cases hh:n<pP.opens (1900+k)
    · obtain ⟨y,a,b,c⟩:=ih hh
      exact ⟨y,a,by omega,c⟩
    · exact ⟨1900+k,by omega,by omega,by omega,h⟩
 have V9:pP.opens (1900+301)=84371:=by decide
 obtain ⟨y,y0,y1,g0,g1⟩:=hy 301 (by omega)
 rw [vy (by omega)] at g1
 have hm: ∀k:Nat,k<=12->n<pP.opens y+kC y (k+1)-> ∃m:Nat,1<=m/\m<=k/\pP.opens y+kC y m<=n/\n<pP.opens y+kC y (m+1):=by
  intro k
  induction k with
  | zero=>
    intro _ h
    exfalso
    have e:kC y (0+1)=0:=rfl
    rw [e] at h
    omega
  | succ k ih=>
    intro hk h
    by_cases hh:n<pP.opens y+kC y (k+1)
    · obtain ⟨m,a,b,c⟩:=ih (by omega) hh
      exact ⟨m,a,by omega,c⟩
    · exact ⟨k+1,by omega,by omega,by omega,h⟩
 have e:kC y 13=kC y 12+jX y 12:=rfl
 rw [CB] at e
 obtain ⟨m,m0,m1,a,b⟩:=hm 12 (by decide) (by rw [e];omega)
 rw [iF m0] at b
 exact ⟨y,m,(n - pP.opens y - kC y m+1).toNat,by omega,by omega,m0,m1,a,by omega,by omega⟩
theorem Lg {n:Int} (h0: -25567<=n) (h1:n<=84370):cJ (2,vA n)=true:=by
 obtain ⟨y,m,d,h⟩:=Lf h0 h1
 rw [AP h];exact NT y m d
theorem I1 {k:Int} {l:List Int} (hk:k=1) (h:dX l):cJ (k,l)=true:=by
 obtain ⟨⟨h1,h2,h3,h4⟩,_⟩:=h
 cases l with
 | nil=>simp at h1
 | cons c w=>
   subst hk
   show ((decide ((1:Int)=1) &&sW c &&w.all nM) || (decide ((1:Int)=2) &&qy c &&w.all vB))=true
   have e1:=(dY c).2 (by have:=h3 c rfl;unfold Small at this;omega)
   rw [e1,List.all_eq_true.2 fun x hx=>(oA x).2 ?_]
   · rfl
   have:=h4 x (List.mem_cons_of_mem _ hx)
   unfold lD Small at this
   rcases this with h | h | h
   · exact .inl ((dY x).2 (by omega))
   · exact .inr (.inl ((dt x).2 h))
   · exact .inr (.inr h)
theorem Er {l:List Int} (h:dX l):cJ (1,l)=true:=I1 rfl h
theorem lQ (n:Int):cJ (1,kU n)=true/\cJ (1,kV n)=true/\cJ (1,oZ n)=true/\cJ (1,gf n)=true/\cJ (1,o7 n)=true/\cJ (1,o8 n)=true:=by
 unfold kU kV oZ gf o7 o8
 refine ⟨?_,?_,?_,?_,?_,?_⟩<;>repeat' split
 all_goals decide+kernel
theorem I2 {p:Prod} (h:bA p): ∀ts∈cls p,(∀t∈ts,cJ t=true)/\ ∃w r,ts=(1,w)::r:=by
 obtain ⟨⟨⟨sk,nB,NM,xD⟩,mO,nV⟩,⟨mZ,A_,nb,ql⟩,⟨qQ,El⟩,⟨Lj,cu,N1,IS⟩,⟨⟨Hq,IT⟩,Em,Mc⟩⟩:=h
 have two: ∀(w a:List Int) (k:Int),cJ (1,w)=true->cJ (k,a)=true->(∀t∈[(1,w),(k,a)],cJ t=true)/\ ∃w' r,[((1:Int),w),(k,a)]=(1,w')::r:=fun w a k h1 h2=>⟨fun t ht=>by
  rcases List.mem_cons.1 ht with rfl | ht
  · exact h1
  · rw [List.mem_singleton.1 ht];exact h2,_,_,rfl⟩
 have three: ∀(w a b:List Int) (k j:Int),cJ (1,w)=true->cJ (k,a)=true->cJ (j,b)=true->(∀t∈[(1,w),(k,a),(j,b)],cJ t=true)/\ ∃w' r,[((1:Int),w),(k,a),(j,b)]=(1,w')::r:=fun w a b k j h1 h2 h3=>⟨fun t ht=>by
  rcases List.mem_cons.1 ht with rfl | ht
  · exact h1
  · rcases List.mem_cons.1 ht with rfl | ht
    · exact h2
    · rw [List.mem_singleton.1 ht];exact h3,_,_,rfl⟩
 intro ts ht
 unfold cls at ht
 simp only [List.mem_append,List.mem_cons,List.not_mem_nil,or_false,List.mem_map] at ht
 rcases ht with ((((ht | ht) | ht) | ht) | ht) | ht
 · rcases ht with rfl | rfl | rfl | rfl | rfl | rfl | rfl | rfl
   · exact two _ _ _ rfl (lQ _).1
   · exact two _ _ _ rfl (lQ _).2.1
   · exact two _ _ _ rfl (lQ _).2.2.1
   · exact two _ _ _ rfl (Bd _)
   · exact two _ _ _ rfl (Bd _)
   · exact two _ _ _ rfl (Bd _)
   · exact two _ _ _ rfl (za mZ.1)
   · exact two _ _ _ rfl (za A_.1)
 · obtain ⟨r,hr,rfl⟩:=ht
   have: ∀ {q:Option Rs} {l:List Rs},eV p.times q l-> ∀r∈l,0<=r.bW:=fun {q l}=>by
    induction l generalizing q with
    | nil=>intro _ r hr;cases hr
    | cons x l ih=>
      intro h r hr
      rcases List.mem_cons.1 hr with rfl | hr
      · exact h.2.1.1
      · exact ih h.2.2.2 r hr
   exact three _ _ _ _ _ rfl (Bd _) (za (this ql r hr))
 · rcases ht with rfl | rfl
   · refine ⟨fun t ht=> ?_,_,_,rfl⟩
     simp only [List.mem_cons,List.not_mem_nil,or_false] at ht
     rcases ht with rfl | rfl | rfl | rfl | rfl
     · rfl
     all_goals exact (lQ _).2.2.2.1
   · exact two _ _ _ rfl (lQ _).2.2.2.2.1
 · obtain ⟨r,hr,rfl⟩:=ht
   have: ∀ {q:Option Ti} {l:List Ti},g_ q l-> ∀r∈l,0<=r.km:=fun {q l}=>by
    induction l generalizing q with
    | nil=>intro _ r hr;cases hr
    | cons x l ih=>
      intro h r hr
      rcases List.mem_cons.1 hr with rfl | hr
      · exact h.2.1.1
      · exact ih h.2.2.2 r hr
   exact three _ _ _ _ _ rfl (Bd _) (Be (this IS r hr))
 · rcases ht with rfl | rfl
   · exact two _ _ _ rfl (Be cu.1)
   · exact two _ _ _ rfl (lQ _).2.2.2.2.2
 · obtain ⟨r,hr,rfl⟩:=ht
   have:=y9 IT r hr
   exact two _ _ _ rfl (Lg this.1 this.2)
end QL
namespace QM
open Go Go.Proofs VL D1 eG kb kj wg pP xt jt HF Jn Ga c5 dj C1 C2 C3 C4 C6 oO H2 pQ oY vL kn pJ Gc Il LZ PL Of P1
inductive Lz:List Int->Prop
 | nil:Lz []
 | blank {c:Int} {r:List Int}:(c=32\/c=10)->Lz r->Lz (c::r)
 | sign {c:Int} {r:List Int}:(c=123\/c=125\/c=59)->Lz r->Lz (c::r)
 | tok {k:Int} {a r:List Int}:cJ (k,a)=true->(∀x,r.head?=some x->x=32\/x=59)->Lz r->Lz (a++r)
theorem Df {k:Int} {a:List Int} (h:cJ (k,a)=true) (n:Nat) (hn:0<n):cJ (k,a.take n)=true:=by
 cases a with
 | nil=>cases h
 | cons c w=>
   obtain ⟨m,rfl⟩: ∃m,n=m+1:=⟨n - 1,by omega⟩
   rw [List.take_succ_cons]
   simp only [cJ,Bool.or_eq_true,Bool.and_eq_true,decide_eq_true_eq,List.all_eq_true] at h ⊢
   rcases h with ⟨h1,h2⟩ | ⟨h1,h2⟩
   · exact .inl ⟨h1,fun x hx=>h2 x (List.mem_of_mem_take hx)⟩
   · exact .inr ⟨h1,fun x hx=>h2 x (List.mem_of_mem_take hx)⟩
theorem Lz.take {l:List Int} (h:Lz l): ∀n,Lz (l.take n):=by
 induction h with
 | nil=>intro n;rw [List.take_nil];exact .nil
 | blank hc _ ih=>
   intro n
   cases n with
   | zero=>exact .nil
   | succ n=>exact .blank hc (ih n)
 | sign hc _ ih=>
   intro n
   cases n with
   | zero=>exact .nil
   | succ n=>exact .sign hc (ih n)
 | @tok k a r ha hr _ ih=>
   intro n
   rw [List.take_append]
   by_cases hn:n=0
   · subst hn;simp;exact .nil
   by_cases Qp:n<=a.length
   · rw [show n - a.length=0 by omega,List.take_zero]
     exact .tok (Df ha n (by omega)) (by simp) .nil
   · rw [List.take_of_length_le (by omega)]
     refine .tok ha (fun x hx=>hr x ?_) (ih _)
     obtain ⟨m,hm⟩: ∃m,n - a.length=m+1:=⟨n - a.length - 1,by omega⟩
     rw [hm] at hx
     cases r with
     | nil=>simp at hx
     | cons y r=>simpa using hx
theorem Lh (f:Nat) (l:List Int) (i:Nat):cU (f+1) (10::l) i=cU (f+1) l (i+1):=by
 have hs:aP false (10::l)=1+aP false l:=by
  show (if (10:Int)=10 then 1+aP false l else _)=_
  rw [if_pos rfl]
 unfold cU
 rw [hs,show (1:Nat)+aP false l=aP false l+1 by omega,List.drop_succ_cons]
 have e:i+(aP false l+1)=i+1+aP false l:=by omega
 rw [e]
theorem I3 {k:Int} {a:List Int} (h:cJ (k,a)=true) (rest:List Int) (hr: ∀x,rest.head?=some x->x=32\/x=59) (f:Nat) (i:Nat):cU (f+1) (a++rest) i=FT [⟨k,i,a⟩] (cU f rest (i+a.length)):=by
 cases rest with
 | cons x rest=>exact K8 h x (hr x rfl) f rest i
 | nil=>
   cases a with
   | nil=>cases h
   | cons c w=>
     have Bn:(∀y∈w,bI k y=true)/\aP false (c::w)=0/\fu c w=some k:=by
      simp only [cJ,Bool.or_eq_true,Bool.and_eq_true,decide_eq_true_eq,List.all_eq_true] at h
      have Kl: ∀r,(c≠10/\c≠35/\c≠32/\c≠9)->aP false (c::r)=0:=fun r hc=>by
       show (if c=10 then _ else if c=35 then _ else if false=false/\c≠32/\c≠9 then 0 else _)=_
       rw [if_neg hc.1,if_neg hc.2.1,if_pos ⟨rfl,hc.2.2.1,hc.2.2.2⟩]
      rcases h with ⟨⟨rfl,hl⟩,hw⟩ | ⟨⟨rfl,hl⟩,hw⟩
      · have sI:=(dY c).1 hl
        exact ⟨fun y hy=>hw y hy,Kl _ (by omega),DY _ sI⟩
      · have sI:=(dt c).1 hl
        exact ⟨fun y hy=>hw y hy,Kl _ (by omega),xv _ (by omega) (.inl sI)⟩
     obtain ⟨g2,g3,g4⟩:=Bn
     have t1:w.takeWhile (bI k)=w:=by
      have:=List.takeWhile_append_of_pos (p:=bI k) (l₁:=w) (l₂:=[]) g2
      simpa using this
     have t2:w.dropWhile (bI k)=[]:=by
      have:=List.dropWhile_append_of_pos (p:=bI k) (l₁:=w) (l₂:=[]) g2
      simpa using this
     rw [List.append_nil]
     show cU (f+1) (c::w) i=_
     rw [C8.hO,g3,List.drop_zero]
     simp only
     rw [g4]
     simp only
     rw [t1,t2]
     show Lx.cons _ (cU f [] (i+0+1+w.length))=_
     rw [show i+0+1+w.length=i+(c::w).length by rw [List.length_cons];omega]
     cases cU f [] (i+(c::w).length)<;>rfl
theorem Es {a:List C3.Tok} {x:Lx} (h: ∃k,x= .ok k): ∃k,FT a x= .ok k:=by
 obtain ⟨k,rfl⟩:=h;exact ⟨_,rfl⟩
theorem Lz.lex {l:List Int} (h:Lz l): ∀f i,l.length<f-> ∃k,cU f l i= .ok k:=by
 induction h with
 | nil=>
   intro f i hf
   obtain ⟨m,rfl⟩: ∃m,f=m+1:=⟨f - 1,by have:0<f:=hf;omega⟩
   exact ⟨_,rfl⟩
 | @blank c r hc _ ih=>
   intro f i hf
   rw [List.length_cons] at hf
   obtain ⟨m,rfl⟩: ∃m,f=m+1:=⟨f - 1,by omega⟩
   rcases hc with rfl | rfl
   · rw [Dd];exact ih _ _ (by omega)
   · rw [Lh];exact ih _ _ (by omega)
 | @sign c r hc _ ih=>
   intro f i hf
   rw [List.length_cons] at hf
   obtain ⟨m,rfl⟩: ∃m,f=m+1:=⟨f - 1,by omega⟩
   obtain ⟨K7,_,h2⟩:=IH c hc m r i
   have h2:cU (m+1) (c::r) i=FT K7 (cU m r (i+1)):=h2
   rw [h2]
   exact Es (ih _ _ (by omega))
 | @tok k a r ha hr _ ih=>
   intro f i hf
   rw [List.length_append] at hf
   have hp:0<a.length:=by
    cases a with
    | nil=>cases ha
    | cons c w=>simp
   obtain ⟨m,rfl⟩: ∃m,f=m+1:=⟨f - 1,by omega⟩
   rw [I3 ha r hr]
   exact Es (ih _ _ (by omega))
theorem Bf: ∀(f:Nat) (l:List Int) (i:Nat) (k:List C3.Tok),cU f l i= .ok k->(k.flatMap fun t=>t.text).Sublist l
 | 0,l,i,k,h=>by cases h
 | f+1,l,i,k,h=>by
   unfold cU at h
   split at h
   · injection h with h;subst h
     exact List.nil_sublist _
   · rename_i c r hd
     split at h
     · cases h
     · rename_i kd hk
       cases h2:cU f (r.dropWhile (bI kd)) (i+aP false l+1+(r.takeWhile (bI kd)).length) with
       | bad p=>rw [h2] at h;cases h
       | ok k2=>
         rw [h2] at h
         injection h with h;subst h
         have:=Bf f _ _ k2 h2
         refine List.Sublist.trans ?_ (List.drop_sublist (aP false l) l)
         rw [hd,List.flatMap_cons]
         show (c::(r.takeWhile (bI kd)++_)).Sublist _
         refine List.Sublist.cons_cons _ ?_
         have h3:=List.Sublist.append (List.Sublist.refl (r.takeWhile (bI kd))) this
         rwa [List.takeWhile_append_dropWhile] at h3
def S7 {α:Type} (f:List C3.Tok->iR α):Prop:= ∀l p e,f l= .err p e->e=7
theorem mQ (k:Int) (w:List Int):S7 (aF k w):=by
 intro l p e h
 unfold aF at h
 split at h
 · cases h
 · injection h with h1 h2;exact h2.symm
theorem cZ {α β:Type} {f:List C3.Tok->iR α} {g:α->List C3.Tok->iR β} (hf:S7 f) (hg: ∀a,S7 (g a)):S7 (fun l=>(f l).bind g):=by
 intro l p e h
 simp only at h
 cases hc:f l with
 | err p' e'=>
   rw [hc] at h
   injection h with h1 h2
   exact h2▸hf l p' e' hc
 | ok a r=>
   rw [hc] at h
   exact hg a r p e h
theorem iY {α:Type} (g:α):S7 (fun l=>iR.ok g l):=fun l p e h=>by cases h
theorem lR:S7 bg:=by
 refine cZ (mQ _ _) fun t l p e h=> ?_
 split at h
 · cases h
 · injection h with h1 h2;exact h2.symm
theorem lS (f:List Int->Int × Int):S7 (aL f):=by
 refine cZ (mQ _ _) fun t l p e h=> ?_
 split at h
 · cases h
 · injection h with h1 h2;exact h2.symm
theorem oG (ws:List (List Int)):S7 (bJ ws):=by
 refine cZ (mQ _ _) fun t l p e h=> ?_
 split at h
 · cases h
 · injection h with h1 h2;exact h2.symm
theorem Bg: ∀(n:Nat) (a:List Int),S7 (aV n a)
 | 0,a=>iY a
 | n+1,a=>by
   intro l p e h
   have h:(bJ dZ l).bind (fun k r=>if k∈a then .err (aC l).1.at_ 7 else aV n (a++[k]) r)= .err p e:=h
   cases hc:bJ dZ l with
   | err p' e'=>
     rw [hc] at h
     injection h with h1 h2
     exact h2▸oG _ l p' e' hc
   | ok k r=>
     rw [hc] at h
     have h:(if k∈a then iR.err (aC l).1.at_ 7 else aV n (a++[k]) r)= .err p e:=h
     split at h
     · injection h with h1 h2;exact h2.symm
     · exact Bg n _ r p e h
theorem FZ {w:List Int} {p:Prod} {l:List C3.Tok} {q:Nat} {e:Int} (hx:aZ w p l=some (.err q e)):e=7:=by
 have key: ∀ {f:List C3.Tok->iR Prod},S7 f->some (f l)=some (.err q e)->e=7:=fun hf h=>by
  injection h with h
  exact hf l q e h
 unfold aZ at hx
 rcases aR hx with hx | hx
 · exact key (cZ (oG _) fun _=>iY _) hx
 rcases aR hx with hx | hx
 · exact key (cZ (oG _) fun _=>iY _) hx
 rcases aR hx with hx | hx
 · exact key (cZ (oG _) fun _=>iY _) hx
 rcases aR hx with hx | hx
 · exact key (cZ lR fun _=>iY _) hx
 rcases aR hx with hx | hx
 · exact key (cZ lR fun _=>iY _) hx
 rcases aR hx with hx | hx
 · exact key (cZ lR fun _=>iY _) hx
 rcases aR hx with hx | hx
 · exact key (cZ (lS _) fun _=>iY _) hx
 rcases aR hx with hx | hx
 · exact key (cZ (lS _) fun _=>iY _) hx
 rcases aR hx with hx | hx
 · exact key (cZ lR fun _=>cZ (lS _) fun _=>iY _) hx
 rcases aR hx with hx | hx
 · exact key (cZ lR fun _=>cZ (lS _) fun _=>iY _) hx
 rcases aR hx with hx | hx
 · exact key (cZ (lS _) fun _=>iY _) hx
 rcases aR hx with hx | hx
 · exact key (cZ (lS _) fun _=>iY _) hx
 rcases aR hx with hx | hx
 · exact key (cZ (Bg _ _) fun _=>iY _) hx
 rcases aR hx with hx | hx
 · exact key (cZ (oG _) fun _=>iY _) hx
 rcases aR hx with hx | hx
 · exact key (cZ (oG _) fun _=>iY _) hx
 cases hx
theorem xG: ∀(f d:Nat) (p:Prod) (sn:List (List Int)) (l:List C3.Tok),bb l->l.length<f->(∀t∈l,t.text≠[125]/\t.text≠[123])-> ∃q,aN f d l p sn= .err q 7
 | 0,d,p,sn,l,hl,hf,hb=>by omega
 | f+1,d,p,sn,l,hl,hf,hb=>by
   obtain ⟨h1,h2⟩:=qM hl
   have C':=(bw hl).1
   have aJ:=qL hl
   have Bm:=hb _ h1
   rw [mG]
   rw [if_neg (fun h=>Bm.1 h.2),if_neg (fun h=>Bm.2 h.2)]
   by_cases hC:(aC l).1.kind=1
   · rw [if_neg (fun h=>h hC)]
     have aJ:=aJ (by omega)
     cases hc:aZ (aC l).1.text p (aC l).2 with
     | none=>exact ⟨_,rfl⟩
     | some x=>
       show ∃q,(if (aC l).1.text∈sn/\j5 (aC l).1.text=false then iR.err (aC l).1.at_ 7 else x.bind fun q r=>(aF 3 [59] r).bind fun _ r=>aN f d r q ((aC l).1.text::sn))=_
       by_cases hD:(aC l).1.text∈sn/\j5 (aC l).1.text=false
       · rw [if_pos hD];exact ⟨_,rfl⟩
       rw [if_neg hD]
       have g1:=sw C' hc
       cases x with
       | err p e=>
         have:=FZ hc
         subst this
         exact ⟨_,rfl⟩
       | ok q r=>
         have hle:=(hY hc rfl).1
         have g2:=ft 3 [59] r g1.1
         show ∃q',(aF 3 [59] r).bind (fun _ r=>aN f d r q ((aC l).1.text::sn))= .err q' 7
         cases th:aF 3 [59] r with
         | err p e=>
           have:=mQ _ _ _ _ _ th
           subst this
           exact ⟨_,rfl⟩
         | ok t r2=>
           rw [th] at g2
           have Sq:=gG th
           exact xG f d q ((aC l).1.text::sn) r2 g2.1 (by omega) fun t ht=>hb t (h2 t (g1.2 t (g2.2 t ht)))
   · rw [if_pos hC];exact ⟨_,rfl⟩
theorem rX {k:Int} {w:List Int} {l r:List C3.Tok} {t:C3.Tok} (hk:k≠0) (h:aF k w l= .ok t r):l=t::r/\(w=[]\/t.text=w):=by
 unfold aF at h
 split at h
 · rename_i hh
   injection h with h1 h2
   cases l with
   | nil=>exact absurd hh.1 (by show (0:Int)≠k;omega)
   | cons a l=>
     have en:aC (a::l)=if a.kind=0 then (a,a::l) else (a,l):=rfl
     rw [en] at h1 h2 hh
     by_cases h0:a.kind=0
     · rw [if_pos h0] at hh
       exact absurd (hh.1.symm.trans h0) hk
     · rw [if_neg h0] at h1 h2 hh
       simp only at h1 h2 hh
       subst h1 h2
       exact ⟨rfl,hh.2⟩
 · cases h
open Classical in
theorem I4 {l:List C3.Tok} (hl:bb l) (NU: ∀t∈l,t.text≠[125]) (NV:(l.flatMap fun t=>t.text).count 123<=1): ∃q,dc l= .err q 7:=by
 unfold dc
 cases e1:aF 1 cY l with
 | err p e=>have:=mQ _ _ _ _ _ e1;subst this;exact ⟨_,rfl⟩
 | ok t1 l1=>
 have g1:=ft 1 cY l hl
 rw [e1] at g1
 show ∃q,(aF 1 [] l1).bind _=iR.err q 7
 cases e2:aF 1 [] l1 with
 | err p e=>have:=mQ _ _ _ _ _ e2;subst this;exact ⟨_,rfl⟩
 | ok t2 l2=>
 have g2:=ft 1 [] l1 g1.1
 rw [e2] at g2
 show ∃q,(if dX t2.text then _ else _)=iR.err q 7
 by_cases hn:dX t2.text
 · rw [if_pos hn]
   cases e3:aF 3 [123] l2 with
   | err p e=>have:=mQ _ _ _ _ _ e3;subst this;exact ⟨_,rfl⟩
   | ok t3 l3=>
   have g3:=ft 3 [123] l2 g2.1
   rw [e3] at g3
   obtain ⟨c1,_⟩:=rX (by decide) e1
   obtain ⟨c2,_⟩:=rX (by decide) e2
   obtain ⟨c3,c4⟩:=rX (by decide) e3
   have c4:t3.text=[123]:=by rcases c4 with c4 | c4;cases c4;exact c4
   subst c1 c2 c3
   simp only [List.flatMap_cons,List.count_append,c4] at NV
   have h3:(l3.flatMap fun t=>t.text).count 123=0:=by
    have:([123]:List Int).count 123=1:=rfl
    omega
   obtain ⟨q,hq⟩:=xG (l3.length+1) 1 {bD with name:=az t2.text,over:=1,roll:=1} [] l3 g3.1 (by omega) fun t ht=>by
    refine ⟨NU t (by simp [ht]),fun hh=> ?_⟩
    rw [List.count_eq_zero] at h3
    exact h3 (List.mem_flatMap.2 ⟨t,ht,by rw [hh];simp⟩)
   refine ⟨q,?_⟩
   show iR.bind (aN (l3.length+1) 1 l3 {bD with name:=az t2.text,over:=1,roll:=1} []) _=_
   rw [hq];rfl
 · rw [if_neg hn];exact ⟨_,rfl⟩
theorem F0 (l:List Int) (hz:Lz l) (RT:l.length<=20000) (NU:125 ∉ l) (NV:l.count 123<=1): ∃p:Nat,p<=l.length/\bo l=(bD,(p:Int),7):=by
 obtain ⟨k,hk⟩:=hz.lex (l.length+1) 0 (Nat.lt_succ_self _)
 have P_:fp l= .ok k:=by unfold fp;rw [if_neg (by omega),hk]
 have hs:=Bf _ _ _ _ hk
 have fE:=Ed P_
 obtain ⟨q,hq⟩:=I4 fE (fun t ht hh=>NU (hs.subset (List.mem_flatMap.2 ⟨t,ht,by rw [hh];simp⟩))) (Nat.le_trans (hs.count_le _) NV)
 have hp:bo l=(bD,(q:Int),7):=by unfold bo;rw [P_];simp only;rw [hq]
 have:=A1 l
 rw [hp] at this
 simp only at this
 refine ⟨q,by omega,hp⟩
end QM
namespace NW
open Go Go.Proofs VL D1 D2 B8 Kw eG kb kj pG wg pP xt jt HF Jn Ga c5 dj C1 C2 C3 C4 C6 oO H2 pQ oY vL kn pJ Gc Il LZ PL Of P1 P2 QM QL
theorem I5: ∀(ts:List (Int × List Int)),(∀t∈ts,cJ t=true)-> ∀ {r:List Int},Lz r->Lz (II ts++r)
 | [],_,r,h=> .sign (.inr (.inr rfl)) h
 | [(k,a)],ht,r,h=>by
   show Lz (a++[59]++r)
   rw [List.append_assoc]
   exact .tok (ht _ (List.mem_singleton.2 rfl)) (fun x hx=>by injection hx with hx;exact .inr hx.symm) (.sign (.inr (.inr rfl)) h)
 | (k,a)::t::ts,ht,r,h=>by
  show Lz (a++32::II (t::ts)++r)
  rw [List.append_assoc]
  exact .tok (ht _ (List.mem_cons_self ..)) (fun x hx=>by injection hx with hx;exact .inl hx.symm) (.blank (.inl rfl) (I5 (t::ts) (fun t' h'=>ht t' (List.mem_cons_of_mem _ h')) h))
theorem I6: ∀(l:List (List (Int × List Int))),(∀ts∈l, ∀t∈ts,cJ t=true)-> ∀ {r:List Int},Lz r->Lz (l.flatMap zj++r)
 | [],_,r,h=>h
 | ts::l,ht,r,h=>by
   rw [List.flatMap_cons,List.append_assoc]
   unfold zj
   rw [List.append_assoc,List.append_assoc]
   exact .blank (.inl rfl) (.blank (.inl rfl) (I5 ts (ht ts (List.mem_cons_self ..)) (.blank (.inr rfl) (I6 l (fun t' h'=>ht t' (List.mem_cons_of_mem _ h')) h))))
noncomputable def o9 (p:Prod):List Int:=cY++[32]++sB p.name++[32,123,10]++(cls p).flatMap zj
theorem pL (p:Prod):eF p=o9 p++[125,10]:=FX p
theorem I7 {p:Prod} (h:bA p):Lz (eF p):=by
 rw [pL]
 rw [show o9 p++[125,10]=cY++32::(sB p.name++32::123::10::((cls p).flatMap zj++[125,10])) by unfold o9;simp]
 refine .tok (k:=1) rfl (fun x hx=>by injection hx with hx;exact .inl hx.symm) (.blank (.inl rfl) (.tok (Er h.1.1.1) (fun x hx=>by injection hx with hx;exact .inl hx.symm) ?_))
 exact .blank (.inl rfl) (.sign (.inl rfl) (.blank (.inr rfl) (I6 _ (fun ts ht=>(I2 h ts ht).1) (.sign (.inr (.inl rfl)) (.blank (.inr rfl) .nil)))))
end NW
