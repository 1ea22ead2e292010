/- Part Ke of the proof: C12 C13 C14 C15 C16 C17 C18 C19 C20 C21 C4 C22 C23 C24 C25 C26 C27 C28 C28b C28c C28d C29 C30 C31 C32 C33 CRA0 CR1 CR2. -/
import Derived.Test.YtdjbfmfkeokfaaaGreatKd
import Derived.Test.YtdjbfmfkeokfaaaGreatKc
set_option linter.unusedVariables false
set_option linter.unusedSimpArgs false
set_option maxRecDepth 100000
namespace LV
open Go Go.Proofs VL D1 eG jt c5 dj C1 C2 C6 Jp D7
theorem rS (l:List Int):(iL l).length=l.length:=by simp [iL]
theorem HX {l:List Int}: ∀x∈iL l,x.cells.length=1:=by
 intro x hx
 obtain ⟨n,_,rfl⟩:=List.mem_map.1 hx
 rfl
theorem Kq (l:List Int) (hl:l.length<1000000) (K:Out->List af->Prop) (h:K (.ret (.sl (iL l) .no)) []):ah Tryz.prog 114 [.sl (iL l) .no] [] K:=by
 refine ah.dv (ag [] 0 Tryz.func114 (by rfl) (by rfl) ?_)
 conv=>whnf
 (repeat' first | (refine aa [] ?_;conv=>whnf) | (refine two ?_ ?_<;>intro g<;>(try simp only[an]at g)<;>(conv=>whnf)) | (refine And.intro rfl ?_;conv=>whnf) | fail)
 intro b hb
 conv=>whnf
 (repeat' first | (refine aa [] ?_;conv=>whnf) | (refine two ?_ ?_<;>intro g<;>(try simp only[an]at g)<;>(conv=>whnf)) | (refine And.intro rfl ?_;conv=>whnf) | fail)
 · have e:=hb g
   rw [e] at h
   exact ⟨_,_,ae (.cons .no .nil) .nil rfl rfl rfl,h⟩
 · have cV:=rS l
   refine ⟨by simp;omega,HX,by simp,?_⟩
   conv=>whnf
   (repeat' first | (refine aa [] ?_;conv=>whnf) | (refine two ?_ ?_<;>intro g<;>(try simp only[an]at g)<;>(conv=>whnf)) | (refine And.intro rfl ?_;conv=>whnf) | fail)
   exact ⟨_,_,ae (.cons .no .nil) .nil rfl rfl rfl,h⟩
set_option maxHeartbeats 2000000 in
theorem Kr (p:Prod) (hp:p.ok) (K:Out->List af->Prop) (h0:xu p->K (.ret (.aQ [])) []) (h1: ¬xu p->K (.dw (.jl 88 (.agg []))) []):ah Tryz.prog 49 [dE p] [] K:=by
 have hlen:=hp.ll
 unfold dE ff
 obtain ⟨T,hT⟩: ∃T,rL p.au=T:=⟨_,rfl⟩
 obtain ⟨H,hH⟩: ∃H,iL p.cT=H:=⟨_,rfl⟩
 have nb:(tL p.late).length=p.late.length:=by simp [tL]
 rw [hT,hH]
 refine ag [] 0 Tryz.func49 (by rfl) (by rfl) ?_
 conv=>whnf
 (repeat' first | (refine aa [] ?_;conv=>whnf) | (refine two ?_ ?_<;>intro g<;>(try simp only[an,nb]at g)<;>(conv=>whnf)) | (refine And.intro rfl ?_;conv=>whnf) | (refine mz _ _ _ _ ?_;conv=>whnf) | (refine bG _ _ ?_;conv=>whnf) | fail)
 all_goals first
  | (refine h1 fun hh=> ?_
     unfold xu at hh
     obtain ⟨a1,a2,a3,a4⟩:=hh
     first
      | omega
      | (rcases a3 with a3 | a3
         · exact a3 (List.length_eq_zero_iff.1 (by omega))
         · omega))
  | skip
 all_goals
  have bZ:p.late≠[]\/p.cap=0:=by
   first
    | exact .inr g
    | exact .inl fun e=>by rw [e] at g;simp at g
  have eY:(g_ none p.late->K (.ret (.aQ [])) [])/\(¬g_ none p.late->K (.dw (.jl 88 (.agg []))) []):=
   ⟨fun hh=>h0 ⟨by omega,by omega,bZ,hh⟩,fun hh=>h1 fun h=>hh h.2.2.2⟩
  clear h0 h1
  obtain ⟨h0,h1⟩:=eY
  let CC:List V:=[.str p.name,.int .i64 p.count,.int .i64 p.m3,.int .i64 p.kind,.int .i64 p.every,.int .i64 p.times,.int .i64 p.b_,.int .i64 p.bW,.sl T .no,.int .i64 p.kY,.int .i64 p.o1,.int .i64 p.o2,.int .i64 p.o3,.int .i64 p.o4,.int .i64 p.over,.sl (tL p.late) .no,.int .i64 p.cap,.int .i64 p.roll,.sl H .no]
  let S:Nat->St:=fun i=>⟨(.undef:: .ptr 0 0:: .ptr 1 0:: .undef:: .undef:: .undef:: .undef:: .undef:: .undef:: .undef:: .undef:: .undef:: .undef:: .undef:: .undef:: .undef:: .undef:: .undef:: .undef:: .undef:: .undef:: .undef:: .undef:: .undef:: .undef:: .undef:: .undef:: .undef:: .undef:: .sl (tL p.late) .no:: .int .i64 (p.late.length:Nat):: .int .i64 (i:Nat):: .undef:: .undef:: .undef:: .undef:: .undef:: .undef:: .undef:: .undef:: .undef:: .undef:: .undef:: .undef:: .undef:: .undef:: .undef:: .undef:: .undef:: .undef:: .undef:: .undef:: .undef:: .undef:: .undef:: .undef:: .undef:: .undef:: .undef:: .undef:: .undef:: .undef:: .undef:: .undef:: .undef:: .undef:: .undef:: .undef:: .undef:: .undef:: .undef:: .undef:: .undef::[]),[.cells true 90 CC,.cells true 28 CC],0,[]⟩
  refine aA.enter (s':=S 0) (ae ?_ (.cons (.eq rfl) (.cons (.eq rfl) .nil)) rfl rfl rfl)
   (aA.dC S (fun i=>p.late.length - i) (fun i=>i<=p.late.length/\(g_ none p.late↔g_ (HM p.late i) (p.late.drop i))) ?_ 0 ⟨by omega,Iff.rfl⟩)
  · repeat' first
     | exact aq.nil
     | refine aq.cons VW.undef ?_
     | refine aq.cons (VW.eq rfl) ?_
     | refine aq.cons (VW.eq (by rw [nb])) ?_
  rintro i ⟨hi,hinv⟩ ih
  refine ai [] ?_;conv=>whnf
  (repeat' first | (refine aa [] ?_;conv=>whnf) | (refine two ?_ ?_<;>intro g<;>(try simp only[an]at g)<;>(conv=>whnf)) | (refine And.intro rfl ?_;conv=>whnf) | fail)
  · have cV:i<p.late.length:=by omega
    have aD:(tL p.late)[((i:Nat):Int).toNat]? =some (na p.late[i]):=by rw [Int.toNat_natCast];simp [tL,List.getElem?_eq_getElem cV]
    have dW:p.late.drop i=p.late[i]::p.late.drop (i+1):=List.drop_eq_getElem_cons cV
    obtain ⟨q,Bp,qR⟩:=oB na p.late i cV (by omega)
    have AT:=lF cV
    obtain ⟨d,hd⟩: ∃d,p.late[i]=d:=⟨_,rfl⟩
    rw [hd] at aD dW AT
    rw [dW] at hinv
    conv at hinv=>rhs;unfold g_
    rw [←AT] at hinv
    refine ⟨by omega,_,aD,rfl,?_⟩
    have wi:IntKind.i64.wrap ((i:Int)+1)=((i+1:Nat):Int):=by rw [wrap64 (by omega) (by omega)];omega
    have M4: ¬((1<=d.days/\d.days<=365)/\(0<=d.km/\d.km<=10000000000000)/\(0<i->q.days<d.days/\q.km<=d.km))->K (.dw (.jl 88 (.agg []))) []:=fun hh=>h1 fun h=>hh (by
     obtain ⟨a,b,c,_⟩:=hinv.1 h
     exact ⟨a,b,fun h0=>c q ((qR q).2 ⟨h0,rfl⟩)⟩)
    have jM:(1<=d.days/\d.days<=365)/\(0<=d.km/\d.km<=10000000000000)/\(0<i->q.days<d.days/\q.km<=d.km)->aA _ _ _ (S (i+1)) _:=fun hh=>ih (i+1) ⟨by omega,hinv.trans ⟨fun h=>h.2.2.2,fun h=>⟨hh.1,hh.2.1,fun x hx=>by obtain ⟨h0,rfl⟩:=(qR x).1 hx;exact hh.2.2 h0,h⟩⟩⟩ (by omega)
    conv=>whnf
    (repeat' first | (refine aa [] ?_;conv=>whnf) | (refine two ?_ ?_<;>intro g<;>(try simp only[an]at g)<;>(conv=>whnf)) | (refine And.intro rfl ?_;conv=>whnf) | (refine ak (by decide+kernel) ?_;conv=>whnf) | (refine lG _ _ _ _ ?_;conv=>whnf) | (refine mz _ _ _ _ ?_;conv=>whnf) | (refine bG _ _ ?_;conv=>whnf) | (refine ⟨by rw [wrap64 (by omega) (by omega)];omega,_,Bp (by omega),rfl,?_⟩;conv=>whnf) | fail)
    all_goals first
     | (refine M4 fun hh=> ?_;omega)
     | (refine fH (src:=[0,1]) ?_;conv=>whnf
        refine aA.enter (s':=S (i+1)) (ae (by rw [wi];(repeat' first | exact aq.nil | refine aq.cons VW.undef ?_ | refine aq.cons (VW.eq rfl) ?_)) (.cons (.eq rfl) (.cons (.eq rfl) .nil)) rfl rfl rfl) (jM (by omega)))
  · have cV:i=p.late.length:=by omega
    subst cV
    rw [List.drop_length] at hinv
    refine ⟨_,aB.refl,?_⟩
    conv=>whnf
    (repeat' first | (refine aa [] ?_;conv=>whnf) | (refine two ?_ ?_<;>intro g<;>(try simp only[an]at g)<;>(conv=>whnf)) | (refine And.intro rfl ?_;conv=>whnf) | fail)
    exact h0 (hinv.2 trivial)
theorem yK {l:List Int} {i:Nat} (hi:i<l.length):(iL l)[((i:Nat):Int).toNat]? =some (.int .i64 l[i]):=by rw [Int.toNat_natCast];simp [iL,List.getElem?_eq_getElem hi]
set_option maxHeartbeats 2000000 in
theorem M' (l:List Int) (hl:l.length<1000000) (K:Out->List af->Prop) (h0:l.length<=200/\qx none l->K (.ret (.aQ [.ptr 0 0,.int .i64 0])) [.cells true 133 [.sl (iL l) .no]])
 (h1: ¬(l.length<=200/\qx none l)->K (.ret (.aQ [.gH,.int .i64 1])) []):ah Tryz.prog 85 [.sl (iL l) .no] [] K:=by
 have cV:=rS l
 refine ag [] 0 Tryz.func85 (by rfl) (by rfl) ?_
 conv=>whnf
 (repeat' first | (refine aa [] ?_;conv=>whnf) | (refine two ?_ ?_<;>intro g<;>(try simp only[an,cV]at g)<;>(conv=>whnf)) | (refine And.intro rfl ?_;conv=>whnf) | fail)
 · exact h1 (by omega)
 have eY:(qx none l->K (.ret (.aQ [.ptr 0 0,.int .i64 0])) [.cells true 133 [.sl (iL l) .no]])/\(¬qx none l->K (.ret (.aQ [.gH,.int .i64 1])) []):=
  ⟨fun hh=>h0 ⟨by omega,hh⟩,fun hh=>h1 fun h=>hh h.2⟩
 clear h0 h1
 obtain ⟨h0,h1⟩:=eY
 let S:Nat->St:=fun i=>⟨(.sl (iL l) .no:: .undef:: .gH:: .int .i64 0:: .undef:: .undef:: .undef:: .undef:: .undef:: .sl (iL l) .no:: .int .i64 (l.length:Nat):: .int .i64 (i:Nat):: .undef:: .undef:: .undef:: .undef:: .undef:: .undef:: .undef:: .undef:: .undef:: .undef:: .undef:: .undef:: .undef:: .undef:: .undef:: .undef:: .undef:: .undef:: .undef:: .undef:: .undef:: .undef:: .undef:: .undef:: .undef::[]),[],0,[]⟩
 refine aA.enter (s':=S 0) (ae ?_ .nil rfl rfl rfl)
  (aA.dC S (fun i=>l.length - i) (fun i=>i<=l.length/\(qx none l↔qx (HM l i) (l.drop i))) ?_ 0 ⟨by omega,Iff.rfl⟩)
 · repeat' first
    | exact aq.nil
    | refine aq.cons VW.undef ?_
    | refine aq.cons (VW.eq rfl) ?_
    | refine aq.cons (VW.eq (by rw [cV])) ?_
 rintro i ⟨hi,hinv⟩ ih
 refine ai [] ?_;conv=>whnf
 (repeat' first | (refine aa [] ?_;conv=>whnf) | (refine two ?_ ?_<;>intro g<;>(try simp only[an]at g)<;>(conv=>whnf)) | (refine And.intro rfl ?_;conv=>whnf) | fail)
 · have Fs:i<l.length:=by omega
   have aD:=yK Fs
   have dW:l.drop i=l[i]::l.drop (i+1):=List.drop_eq_getElem_cons Fs
   obtain ⟨q,Bp,qR⟩:=oB (V.int .i64) l i Fs (by omega)
   have AT:=lF Fs
   obtain ⟨d,hd⟩: ∃d,l[i]=d:=⟨_,rfl⟩
   rw [hd] at aD dW AT
   rw [dW] at hinv
   conv at hinv=>rhs;unfold qx
   rw [←AT] at hinv
   refine ⟨by omega,_,aD,rfl,?_⟩
   have wi:IntKind.i64.wrap ((i:Int)+1)=((i+1:Nat):Int):=by rw [wrap64 (by omega) (by omega)];omega
   have iI: ¬((-25567<=d/\d<=84370)/\(0<i->q<d))->K (.ret (.aQ [.gH,.int .i64 1])) []:=fun hh=>h1 fun h=>hh (by
    obtain ⟨a,c,_⟩:=hinv.1 h
    exact ⟨a,fun h0=>c q ((qR q).2 ⟨h0,rfl⟩)⟩)
   have jM:(-25567<=d/\d<=84370)/\(0<i->q<d)->aA _ _ _ (S (i+1)) _:=fun hh=>ih (i+1) ⟨by omega,hinv.trans ⟨fun h=>h.2.2,fun h=>⟨hh.1,fun x hx=>by obtain ⟨h0,rfl⟩:=(qR x).1 hx;exact hh.2 h0,h⟩⟩⟩ (by omega)
   conv=>whnf
   (repeat' first | (refine aa [] ?_;conv=>whnf) | (refine two ?_ ?_<;>intro g<;>(try simp only[an]at g)<;>(conv=>whnf)) | (refine And.intro rfl ?_;conv=>whnf) | (refine ak (by decide+kernel) ?_;conv=>whnf) | (refine Ki _ _ ?_;conv=>whnf) | (refine ⟨by rw [wrap64 (by omega) (by omega)];omega,_,Bp (by omega),rfl,?_⟩;conv=>whnf) | fail)
   all_goals first
    | (refine ⟨_,aB.refl,?_⟩;conv=>whnf
       (repeat' first | (refine aa [] ?_;conv=>whnf) | (refine two ?_ ?_<;>intro g<;>(try simp only[an]at g)<;>(conv=>whnf)) | (refine And.intro rfl ?_;conv=>whnf) | fail)
       exact iI (by omega))
    | exact ⟨S (i+1),ae (by rw [wi];(repeat' first | exact aq.nil | refine aq.cons VW.undef ?_ | refine aq.cons (VW.eq rfl) ?_)) .nil rfl rfl rfl,jM (by omega)⟩
 · have Fs:i=l.length:=by omega
   subst Fs
   rw [List.drop_length] at hinv
   refine ⟨_,aB.refl,?_⟩
   conv=>whnf
   (repeat' first | (refine aa [] ?_;conv=>whnf) | (refine two ?_ ?_<;>intro g<;>(try simp only[an]at g)<;>(conv=>whnf)) | (refine And.intro rfl ?_;conv=>whnf) | fail)
   refine Kq l hl _ ?_
   conv=>whnf
   (repeat' first | (refine aa [] ?_;conv=>whnf) | (refine two ?_ ?_<;>intro g<;>(try simp only[an]at g)<;>(conv=>whnf)) | (refine And.intro rfl ?_;conv=>whnf) | fail)
   exact h0 (hinv.2 trivial)
theorem Ks (p:Prod) (hp:p.ok) (K:Out->List af->Prop) (h0:HJ p->K (.ret (.aQ [])) []) (h1: ¬HJ p->K (.dw (.jl 88 (.agg []))) []):ah Tryz.prog 50 [dE p] [] K:=by
 have hlen:=hp.lh
 unfold dE ff
 obtain ⟨T,hT⟩: ∃T,rL p.au=T:=⟨_,rfl⟩
 obtain ⟨H,hH⟩: ∃H,tL p.late=H:=⟨_,rfl⟩
 have cV:=rS p.cT
 rw [hT,hH]
 refine ag [] 0 Tryz.func50 (by rfl) (by rfl) ?_
 conv=>whnf
 (repeat' first | (refine aa [] ?_;conv=>whnf) | (refine two ?_ ?_<;>intro g<;>(try simp only[an]at g)<;>(conv=>whnf)) | (refine And.intro rfl ?_;conv=>whnf) | fail)
 refine M' p.cT hlen _ (fun hh=> ?_) (fun hh=> ?_)
 · conv=>whnf
   (repeat' first | (refine aa [] ?_;conv=>whnf) | (refine two ?_ ?_<;>intro g<;>(try simp only[an,cV]at g)<;>(conv=>whnf)) | (refine And.intro rfl ?_;conv=>whnf) | (refine lG _ _ _ _ ?_;conv=>whnf) | (refine bG _ _ ?_;conv=>whnf) | fail)
   all_goals first
    | (refine h0 ⟨hh,by omega,?_⟩
       first
        | exact .inl g
        | exact .inr (List.length_eq_zero_iff.1 (by omega)))
    | (refine h1 fun h=> ?_
       obtain ⟨_,a2,a3⟩:=h
       first
        | omega
        | (rcases a3 with a3 | a3
           · contradiction
           · rw [a3] at g;simp at g))
 · conv=>whnf
   (repeat' first | (refine aa [] ?_;conv=>whnf) | (refine two ?_ ?_<;>intro g<;>(try simp only[an,cV]at g)<;>(conv=>whnf)) | (refine And.intro rfl ?_;conv=>whnf) | (refine lG _ _ _ _ ?_;conv=>whnf) | (refine bG _ _ ?_;conv=>whnf) | fail)
   exact h1 fun h=>hh h.1
end LV
namespace Na
open Go Go.Proofs VL D1 eG jt c5 dj C1 C2 C6 Jp D7 LV
set_option maxHeartbeats 2000000 in
theorem HY (p:Prod) (K:Out->List af->Prop) (h0:AQ p->K (.ret (.aQ [])) []) (h1: ¬AQ p->K (.dw (.jl 88 (.agg []))) []):ah Tryz.prog 48 [dE p] [] K:=by
 unfold dE ff
 obtain ⟨T,hT⟩: ∃T,rL p.au=T:=⟨_,rfl⟩
 obtain ⟨H,hH⟩: ∃H,tL p.late=H:=⟨_,rfl⟩
 obtain ⟨I,hI⟩: ∃I,iL p.cT=I:=⟨_,rfl⟩
 rw [hT,hH,hI]
 refine ag [] 0 Tryz.func48 (by rfl) (by rfl) ?_
 conv=>whnf
 obtain ⟨a,ha⟩: ∃a,p.o1=a:=⟨_,rfl⟩
 obtain ⟨b,hb⟩: ∃b,p.o2=b:=⟨_,rfl⟩
 obtain ⟨c,hc⟩: ∃c,p.o3=c:=⟨_,rfl⟩
 obtain ⟨d,hd⟩: ∃d,p.o4=d:=⟨_,rfl⟩
 have Tv:AQ p↔nL a b c d/\(1<=p.over/\p.over<=3):=by unfold AQ;rw [ha,hb,hc,hd]
 rw [Tv] at h0 h1
 clear Tv
 rw [ha,hb,hc,hd]
 clear ha hb hc hd
 (repeat' first | (refine aa [] ?_;conv=>whnf) | (refine two ?_ ?_<;>intro g<;>(try simp only[an]at g)<;>(conv=>whnf)) | (refine And.intro rfl ?_;conv=>whnf) | (refine ai [] ?_;conv=>whnf) | (refine lG _ _ _ _ ?_;conv=>whnf) | (refine bG _ _ ?_;conv=>whnf) | (refine ⟨_,aB.refl,?_⟩;conv=>whnf) | (refine ⟨by decide,by decide,?_⟩;conv=>whnf) | ((obtain rfl | rfl | rfl | rfl:a=1\/a=2\/a=3\/a=4:=by omega)<;>(refine ⟨by decide,by decide,?_⟩;conv=>whnf)) | ((obtain rfl | rfl | rfl | rfl:b=1\/b=2\/b=3\/b=4:=by omega)<;>(refine ⟨by decide,by decide,?_⟩;conv=>whnf)) | ((obtain rfl | rfl | rfl | rfl:c=1\/c=2\/c=3\/c=4:=by omega)<;>(refine ⟨by decide,by decide,?_⟩;conv=>whnf)) | ((obtain rfl | rfl | rfl | rfl:d=1\/d=2\/d=3\/d=4:=by omega)<;>(refine ⟨by decide,by decide,?_⟩;conv=>whnf)) | fail)
 all_goals first
  | (refine h0 ⟨by unfold nL;omega,by omega⟩)
  | (refine h1 fun hh=> ?_
     unfold nL at hh
     omega)
  | trace_state
 all_goals done
end Na
namespace Nc
open Go Go.Proofs VL D1 eG jt c5 dj C1 C2 C6 Jp D7 LV Na
theorem Nd (x:Int) (K) (h:K false [.cells true 29 [.int .i64 x]]):iP Tryz.prog 45 [.ptr 0 0] [.cells true 29 [.int .i64 x]] none K:=by
 refine eM [] 1 Tryz.func45 (by rfl) (by rfl) ?_
 conv=>whnf
 refine ⟨rfl,?_⟩
 conv=>whnf
 (repeat' first | (refine aa [] ?_;conv=>whnf) | (refine two ?_ ?_<;>intro g<;>(try simp only[an]at g)<;>(conv=>whnf)) | (refine And.intro rfl ?_;conv=>whnf) | (refine ak (by decide+kernel) ?_;conv=>whnf) | fail)
 exact h
theorem vF (x:Int) (K) (h:K true [.cells true 29 [.int .i64 9]]):iP Tryz.prog 45 [.ptr 0 0] [.cells true 29 [.int .i64 x]] (some (.jl 88 (.agg []))) K:=by
 refine eM [] 1 Tryz.func45 (by rfl) (by rfl) ?_
 conv=>whnf
 refine ⟨rfl,?_⟩
 conv=>whnf
 (repeat' first | (refine aa [] ?_;conv=>whnf) | (refine two ?_ ?_<;>intro g<;>(try simp only[an]at g)<;>(conv=>whnf)) | (refine And.intro rfl ?_;conv=>whnf) | (refine ak (by decide+kernel) ?_;conv=>whnf) | fail)
 exact h
set_option maxHeartbeats 4000000 in
theorem Kt (p:Prod) (hp:p.ok) (K:Out->List af->Prop) (h:K (.ret (.int .i64 (cS p))) []):ah Tryz.prog 21 [dE p] [] K:=by
 have h9: ¬bA p->K (.ret (.int .i64 9)) []:=fun hh=>by unfold cS at h;rw [if_neg hh] at h;exact h
 have h0:bA p->K (.ret (.int .i64 0)) []:=fun hh=>by unfold cS at h;rw [if_pos hh] at h;exact h
 clear h
 unfold dE ff
 refine ag [] 0 Tryz.func21 (by rfl) (by rfl) ?_
 conv=>whnf
 (repeat' first | (refine aa [] ?_;conv=>whnf) | (refine two ?_ ?_<;>intro g<;>(try simp only[an]at g)<;>(conv=>whnf)) | (refine And.intro rfl ?_;conv=>whnf) | (refine ai [] ?_;conv=>whnf) | (refine ⟨_,aB.refl,?_⟩;conv=>whnf) | (refine ⟨by decide,_,rfl,rfl,?_⟩;conv=>whnf) | fail)
 refine Kj p hp (fun K h=>HV p.name hp.name K h) _ (fun a1=> ?_) (fun a1=> ?_)
 rotate_left
 · conv=>whnf
   (repeat' first | (refine aa [] ?_;conv=>whnf) | (refine two ?_ ?_<;>intro g<;>(try simp only[an]at g)<;>(conv=>whnf)) | (refine And.intro rfl ?_;conv=>whnf) | (refine vF _ _ ?_;conv=>whnf) | fail)
   exact h9 fun hh=>a1 hh.1
 conv=>whnf
 (repeat' first | (refine aa [] ?_;conv=>whnf) | (refine two ?_ ?_<;>intro g<;>(try simp only[an]at g)<;>(conv=>whnf)) | (refine And.intro rfl ?_;conv=>whnf) | (refine ai [] ?_;conv=>whnf) | (refine ⟨_,aB.refl,?_⟩;conv=>whnf) | (refine ⟨by decide,_,rfl,rfl,?_⟩;conv=>whnf) | fail)
 refine HN p hp a1.2.2.1 _ (fun a2=> ?_) (fun a2=> ?_)
 rotate_left
 · conv=>whnf
   (repeat' first | (refine aa [] ?_;conv=>whnf) | (refine two ?_ ?_<;>intro g<;>(try simp only[an]at g)<;>(conv=>whnf)) | (refine And.intro rfl ?_;conv=>whnf) | (refine vF _ _ ?_;conv=>whnf) | fail)
   exact h9 fun hh=>a2 hh.2.1
 conv=>whnf
 (repeat' first | (refine aa [] ?_;conv=>whnf) | (refine two ?_ ?_<;>intro g<;>(try simp only[an]at g)<;>(conv=>whnf)) | (refine And.intro rfl ?_;conv=>whnf) | (refine ai [] ?_;conv=>whnf) | (refine ⟨_,aB.refl,?_⟩;conv=>whnf) | (refine ⟨by decide,_,rfl,rfl,?_⟩;conv=>whnf) | fail)
 refine HY p _ (fun a3=> ?_) (fun a3=> ?_)
 rotate_left
 · conv=>whnf
   (repeat' first | (refine aa [] ?_;conv=>whnf) | (refine two ?_ ?_<;>intro g<;>(try simp only[an]at g)<;>(conv=>whnf)) | (refine And.intro rfl ?_;conv=>whnf) | (refine vF _ _ ?_;conv=>whnf) | fail)
   exact h9 fun hh=>a3 hh.2.2.1
 conv=>whnf
 (repeat' first | (refine aa [] ?_;conv=>whnf) | (refine two ?_ ?_<;>intro g<;>(try simp only[an]at g)<;>(conv=>whnf)) | (refine And.intro rfl ?_;conv=>whnf) | (refine ai [] ?_;conv=>whnf) | (refine ⟨_,aB.refl,?_⟩;conv=>whnf) | (refine ⟨by decide,_,rfl,rfl,?_⟩;conv=>whnf) | fail)
 refine Kr p hp _ (fun a4=> ?_) (fun a4=> ?_)
 rotate_left
 · conv=>whnf
   (repeat' first | (refine aa [] ?_;conv=>whnf) | (refine two ?_ ?_<;>intro g<;>(try simp only[an]at g)<;>(conv=>whnf)) | (refine And.intro rfl ?_;conv=>whnf) | (refine vF _ _ ?_;conv=>whnf) | fail)
   exact h9 fun hh=>a4 hh.2.2.2.1
 conv=>whnf
 (repeat' first | (refine aa [] ?_;conv=>whnf) | (refine two ?_ ?_<;>intro g<;>(try simp only[an]at g)<;>(conv=>whnf)) | (refine And.intro rfl ?_;conv=>whnf) | (refine ai [] ?_;conv=>whnf) | (refine ⟨_,aB.refl,?_⟩;conv=>whnf) | (refine ⟨by decide,_,rfl,rfl,?_⟩;conv=>whnf) | fail)
 refine Ks p hp _ (fun a5=> ?_) (fun a5=> ?_)
 rotate_left
 · conv=>whnf
   (repeat' first | (refine aa [] ?_;conv=>whnf) | (refine two ?_ ?_<;>intro g<;>(try simp only[an]at g)<;>(conv=>whnf)) | (refine And.intro rfl ?_;conv=>whnf) | (refine vF _ _ ?_;conv=>whnf) | fail)
   exact h9 fun hh=>a5 hh.2.2.2.2
 conv=>whnf
 (repeat' first | (refine aa [] ?_;conv=>whnf) | (refine two ?_ ?_<;>intro g<;>(try simp only[an]at g)<;>(conv=>whnf)) | (refine And.intro rfl ?_;conv=>whnf) | (refine ai [] ?_;conv=>whnf) | (refine ⟨_,aB.refl,?_⟩;conv=>whnf) | (refine ⟨by decide,_,rfl,rfl,?_⟩;conv=>whnf) | (refine Nd _ _ ?_;conv=>whnf) | fail)
 exact h0 ⟨a1,a2,a3,a4,a5⟩
end Nc
namespace oO
open Go Go.Proofs VL D1 eG jt c5 dj C1 C2 C6 Jp D7 LV Na Nc
noncomputable def pB (P:Prop):Bool:=open Classical in decide P
theorem gv (P:Prop):pB P=true↔P:=by unfold pB;simp
theorem j3 (P:Prop):pB P=false↔ ¬P:=by unfold pB;simp
theorem vG {P:Prop} {K:Out->List af->Prop} (h:K (.ret (.bool (pB P))) []) (b:Bool) (hb:b=true↔P):K (.ret (.bool b)) []:=by
 cases b with
 | true=>rw [(gv P).2 (hb.1 rfl)] at h;exact h
 | false=>rw [(j3 P).2 fun hp=>by have:=hb.2 hp;cases this] at h;exact h
theorem oC (v a b:Int) (K) (h:K (.ret (.bool (decide (a<=v/\v<=b)))) []):ah Tryz.prog 57 [.int .i64 v,.int .i64 a,.int .i64 b] [] K:=by
 have eY: ∀x,decide (a<=v/\v<=b)=x->K (.ret (.bool x)) []:=fun x e=>by rw [e] at h;exact h
 clear h
 refine ag [] 0 Tryz.func57 (by rfl) (by rfl) ?_
 conv=>whnf
 (repeat' first | (refine aa [] ?_;conv=>whnf) | (refine two ?_ ?_<;>intro g<;>(try simp only[an]at g)<;>(conv=>whnf)) | (refine And.intro rfl ?_;conv=>whnf) | fail)
 all_goals (refine eY _ ?_;simp;omega)
theorem qD (l:List Int) (x:Int) (hl:l.length<1000000) (K:Out->List af->Prop) (h:K (.ret (.bool (pB (x∈l)))) []):ah Tryz.prog 58 [.sl (iL l) .no,.int .i64 x] [] K:=by
 have cV:=rS l
 have h:=vG h
 refine ag [] 0 Tryz.func58 (by rfl) (by rfl) ?_
 conv=>whnf
 (repeat' first | (refine aa [] ?_;conv=>whnf) | (refine two ?_ ?_<;>intro g<;>(try simp only[an]at g)<;>(conv=>whnf)) | (refine And.intro rfl ?_;conv=>whnf) | fail)
 let S:Nat->St:=fun i=>⟨(.sl (iL l) .no:: .int .i64 x:: .undef:: .undef:: .bool false:: .int .i64 (i:Nat):: .undef:: .undef:: .undef:: .undef:: .undef:: .undef:: .undef:: .undef:: .undef:: .undef:: .undef:: .undef::[]),[],0,[]⟩
 refine aA.enter (s':=S 0) (ae (by (repeat' first | exact aq.nil | refine aq.cons VW.undef ?_ | refine aq.cons (VW.eq rfl) ?_)) .nil rfl rfl rfl) (aA.dC S (fun i=>l.length - i) (fun i=>i<=l.length/\x ∉ l.take i) ?_ 0 ⟨by omega,by simp⟩)
 rintro i ⟨hi,hinv⟩ ih
 refine ai [] ?_;conv=>whnf
 (repeat' first | (refine aa [] ?_;conv=>whnf) | (refine two ?_ ?_<;>intro g<;>(try simp only[an,cV]at g)<;>(conv=>whnf)) | (refine And.intro rfl ?_;conv=>whnf) | fail)
 · have yL:i<l.length:=by omega
   have wi:IntKind.i64.wrap ((i:Int)+1)=((i+1:Nat):Int):=by rw [wrap64 (by omega) (by omega)];omega
   refine ⟨by omega,_,yK yL,rfl,?_⟩
   conv=>whnf
   (repeat' first | (refine aa [] ?_;conv=>whnf) | (refine two ?_ ?_<;>intro g<;>(try simp only[an]at g)<;>(conv=>whnf)) | (refine And.intro rfl ?_;conv=>whnf) | fail)
   · refine ⟨_,aB.refl,?_⟩;conv=>whnf
     (repeat' first | (refine aa [] ?_;conv=>whnf) | (refine two ?_ ?_<;>intro g<;>(try simp only[an]at g)<;>(conv=>whnf)) | (refine And.intro rfl ?_;conv=>whnf) | fail)
     exact h _ ⟨fun _=>by rw [←g];exact List.getElem_mem _,fun _=>rfl⟩
   · exact ⟨S (i+1),ae (by rw [wi];(repeat' first | exact aq.nil | refine aq.cons VW.undef ?_ | refine aq.cons (VW.eq rfl) ?_)) .nil rfl rfl rfl,ih (i+1) ⟨by omega,by rw [List.take_succ_eq_append_getElem yL];simp only [List.mem_append,List.mem_singleton,not_or];exact ⟨hinv,fun e=>g e.symm⟩⟩ (by omega)⟩
 · have yL:i=l.length:=by omega
   subst yL
   rw [List.take_length] at hinv
   refine ⟨_,aB.refl,?_⟩;conv=>whnf
   (repeat' first | (refine aa [] ?_;conv=>whnf) | (refine two ?_ ?_<;>intro g<;>(try simp only[an]at g)<;>(conv=>whnf)) | (refine And.intro rfl ?_;conv=>whnf) | fail)
   exact h _ ⟨fun e=>(by cases e),fun e=>absurd e hinv⟩
def sL (l:List (List Int)):List V:=l.map fun w=> .str (az w)
theorem oX (l:List (List Int)) (s:ByteArray) (hl:l.length<1000000) (hb: ∀w∈l, ∀x∈w,0<=x/\x<256) (K:Out->List af->Prop) (h:K (.ret (.bool (pB (sB s∈l)))) []):ah Tryz.prog 28 [.sl (sL l) .no,.str s] [] K:=by
 have cV:(sL l).length=l.length:=by simp [sL]
 have h:=vG h
 refine ag [] 0 Tryz.func28 (by rfl) (by rfl) ?_
 conv=>whnf
 (repeat' first | (refine aa [] ?_;conv=>whnf) | (refine two ?_ ?_<;>intro g<;>(try simp only[an]at g)<;>(conv=>whnf)) | (refine And.intro rfl ?_;conv=>whnf) | fail)
 let S:Nat->St:=fun i=>⟨(.sl (sL l) .no:: .str s:: .undef:: .undef:: .bool false:: .int .i64 (i:Nat):: .undef:: .undef:: .undef:: .undef:: .undef:: .undef:: .undef:: .undef:: .undef:: .undef:: .undef:: .undef::[]),[],0,[]⟩
 refine aA.enter (s':=S 0) (ae (by (repeat' first | exact aq.nil | refine aq.cons VW.undef ?_ | refine aq.cons (VW.eq rfl) ?_)) .nil rfl rfl rfl) (aA.dC S (fun i=>l.length - i) (fun i=>i<=l.length/\sB s ∉ l.take i) ?_ 0 ⟨by omega,by simp⟩)
 rintro i ⟨hi,hinv⟩ ih
 refine ai [] ?_;conv=>whnf
 (repeat' first | (refine aa [] ?_;conv=>whnf) | (refine two ?_ ?_<;>intro g<;>(try simp only[an,cV]at g)<;>(conv=>whnf)) | (refine And.intro rfl ?_;conv=>whnf) | fail)
 · have yL:i<l.length:=by omega
   have wi:IntKind.i64.wrap ((i:Int)+1)=((i+1:Nat):Int):=by rw [wrap64 (by omega) (by omega)];omega
   have aD:(sL l)[((i:Nat):Int).toNat]? =some (.str (az l[i])):=by rw [Int.toNat_natCast];simp [sL,List.getElem?_eq_getElem yL]
   have dB:l[i]∈l:=List.getElem_mem _
   obtain ⟨w,hw⟩: ∃w,l[i]=w:=⟨_,rfl⟩
   have kW:l.take (i+1)=l.take i++[w]:=by rw [List.take_succ_eq_append_getElem yL,hw]
   rw [hw] at aD dB
   refine ⟨by omega,_,aD,rfl,?_⟩
   conv=>whnf
   (repeat (refine aa [] ?_;conv=>whnf))
   rw [kB,aT (hb w dB)]
   (repeat' first | (refine aa [] ?_;conv=>whnf) | (refine two ?_ ?_<;>intro g<;>(try simp only[an]at g)<;>(conv=>whnf)) | (refine And.intro rfl ?_;conv=>whnf) | fail)
   · refine ⟨_,aB.refl,?_⟩;conv=>whnf
     (repeat' first | (refine aa [] ?_;conv=>whnf) | (refine two ?_ ?_<;>intro g<;>(try simp only[an]at g)<;>(conv=>whnf)) | (refine And.intro rfl ?_;conv=>whnf) | fail)
     exact h _ ⟨fun _=>by rw [←g];exact dB,fun _=>rfl⟩
   · exact ⟨S (i+1),ae (by rw [wi];(repeat' first | exact aq.nil | refine aq.cons VW.undef ?_ | refine aq.cons (VW.eq rfl) ?_)) .nil rfl rfl rfl,ih (i+1) ⟨by omega,by rw [kW];simp only [List.mem_append,List.mem_singleton,not_or];exact ⟨hinv,fun e=>g e.symm⟩⟩ (by omega)⟩
 · have yL:i=l.length:=by omega
   subst yL
   rw [List.take_length] at hinv
   refine ⟨_,aB.refl,?_⟩;conv=>whnf
   (repeat' first | (refine aa [] ?_;conv=>whnf) | (refine two ?_ ?_<;>intro g<;>(try simp only[an]at g)<;>(conv=>whnf)) | (refine And.intro rfl ?_;conv=>whnf) | fail)
   exact h _ ⟨fun e=>(by cases e),fun e=>absurd e hinv⟩
theorem Ku (K:Out->List af->Prop) (h:K (.ret (.sl (sL rQ) .no)) []):ah Tryz.prog 54 [] [] K:=by
 refine ah.dv (ag [] 0 Tryz.func54 (by rfl) (by rfl) ?_)
 conv=>whnf
 (repeat' first | (refine aa [] ?_;conv=>whnf) | (refine two ?_ ?_<;>intro g<;>(try simp only[an]at g)<;>(conv=>whnf)) | (refine And.intro rfl ?_;conv=>whnf) | fail)
 exact ⟨_,_,ae (.cons .no .nil) .nil rfl rfl rfl,h⟩
set_option maxHeartbeats 2000000 in
theorem D8 (s:ByteArray) (hs:s.size<200000000000000) (K:Out->List af->Prop) (h:K (.ret (.bool (qC (sB s)))) []):ah Tryz.prog 25 [.str s] [] K:=by
 have nC:=bh s
 have h:=vG (P:=dX (sB s)) h
 refine ag [] 0 Tryz.func25 (by rfl) (by rfl) ?_
 conv=>whnf
 (repeat' first | (refine aa [] ?_;conv=>whnf) | (refine two ?_ ?_<;>intro g<;>(try simp only[an]at g)<;>(conv=>whnf)) | (refine And.intro rfl ?_;conv=>whnf) | fail)
 let S:Nat->St:=fun i=>⟨(.str s:: .undef:: .bool false:: .int .i64 (i:Nat):: .undef:: .undef:: .undef:: .undef:: .undef:: .undef:: .undef:: .undef:: .undef:: .undef:: .undef:: .undef:: .undef:: .undef:: .undef:: .undef:: .undef:: .undef:: .undef:: .undef:: .undef:: .undef:: .undef:: .undef:: .undef:: .undef:: .undef:: .undef:: .undef:: .undef:: .undef:: .undef:: .undef:: .undef:: .undef:: .undef:: .undef:: .undef:: .undef:: .undef:: .undef:: .undef:: .undef:: .undef:: .undef:: .undef:: .undef:: .undef:: .undef:: .undef:: .undef:: .undef:: .undef:: .undef:: .undef:: .undef:: .undef:: .undef::[]),[],0,[]⟩
 refine aA.enter (s':=S 0) (ae (by (repeat' first | exact aq.nil | refine aq.cons VW.undef ?_ | refine aq.cons (VW.eq rfl) ?_)) .nil rfl rfl rfl)
  (aA.dC S (fun i=>s.size - i) (fun i=>i<=s.size/\(∀x,(sB s).head?=some x->0<i->Small x)/\ ∀x∈(sB s).take i,lD x) ?_ 0 ⟨by omega,fun x hx h0=>by omega,by simp⟩)
 rintro i ⟨hi,LW,hinv⟩ ih
 refine ai [] ?_;conv=>whnf
 (repeat' first | (refine aa [] ?_;conv=>whnf) | (refine two ?_ ?_<;>intro g<;>(try simp only[an]at g)<;>(conv=>whnf)) | (refine And.intro rfl ?_;conv=>whnf) | fail)
 · have cV:i<(sB s).length:=by omega
   have hx:(sB s)[i]? =some (sB s)[i]:=List.getElem?_eq_getElem cV
   have dB:(sB s)[i]∈sB s:=List.getElem_mem _
   obtain ⟨x,HW⟩: ∃x,(sB s)[i]=x:=⟨_,rfl⟩
   have kW:(sB s).take (i+1)=(sB s).take i++[x]:=by rw [List.take_succ_eq_append_getElem cV,HW]
   rw [HW] at hx dB
   have wi:IntKind.i64.wrap ((i:Int)+1)=((i+1:Nat):Int):=by rw [wrap64 (by omega) (by omega)];omega
   have Qw:i=0->(sB s).head?=some x:=fun e=>by rw [e] at hx;rw [List.head?_eq_getElem?];exact hx
   have Bn:lD x/\(i=0->Small x)->aA _ _ _ (S (i+1)) _:=fun Cu=>ih (i+1) ⟨by omega,fun y hy _=>by
    by_cases e:i=0
    · rw [Qw e] at hy;cases hy;exact Cu.2 e
    · exact LW y hy (by omega),fun y hy=>by
    rw [kW] at hy
    rcases List.mem_append.1 hy with hy | hy
    · exact hinv y hy
    · rw [List.mem_singleton.1 hy];exact Cu.1⟩ (by omega)
   have iI: ¬(lD x/\(i=0->Small x))->K (.ret (.bool false)) []:=fun Cu=>h false ⟨fun e=>(by cases e),fun hh=>absurd ⟨hh.1.2.2.2 x dB,fun e=>hh.1.2.2.1 x (Qw e)⟩ Cu⟩
   unfold lD Small cw at Bn iI
   (repeat' first | (refine aa [] ?_;conv=>whnf) | (refine two ?_ ?_<;>intro g<;>(try simp only[an]at g)<;>(conv=>whnf)) | (refine And.intro rfl ?_;conv=>whnf) | (refine aU (x:=x) (by omega) (by rw [Int.toNat_natCast];exact hx) fun b hb=> ?_;(conv=>whnf);(repeat (refine aa [] ?_;conv=>whnf));rw [hb];clear hb b) | fail)
   all_goals first
    | (refine ⟨_,aB.refl,?_⟩;conv=>whnf
       (repeat' first | (refine aa [] ?_;conv=>whnf) | (refine two ?_ ?_<;>intro g<;>(try simp only[an]at g)<;>(conv=>whnf)) | (refine And.intro rfl ?_;conv=>whnf) | fail)
       exact iI (by omega))
    | exact ⟨S (i+1),ae (by rw [wi];(repeat' first | exact aq.nil | refine aq.cons VW.undef ?_ | refine aq.cons (VW.eq rfl) ?_)) .nil rfl rfl rfl,Bn (by omega)⟩
 · have cV:i=(sB s).length:=by omega
   subst cV
   rw [List.take_length] at hinv
   refine ⟨_,aB.refl,?_⟩
   conv=>whnf
   (repeat' first | (refine aa [] ?_;conv=>whnf) | (refine two ?_ ?_<;>intro g<;>(try simp only[an,gv,j3]at g)<;>(conv=>whnf)) | (refine And.intro rfl ?_;conv=>whnf) | (refine Ku _ ?_;conv=>whnf) | (refine oX rQ s (by decide) (by decide+kernel) _ ?_;conv=>whnf) | fail)
   · refine h _ ?_
     rw [Bool.not_eq_true',j3]
     constructor
     · exact fun hh=>⟨⟨by omega,by omega,fun x hx=>LW x hx (by omega),hinv⟩,hh⟩
     · exact fun hh=>hh.2
   · exact h _ ⟨fun e=>(by cases e),fun hh=>by have:=hh.1.2.1;omega⟩
   · exact h _ ⟨fun e=>(by cases e),fun hh=>by have:=hh.1.1;omega⟩
end oO
namespace Qx
open Go Go.Proofs VL D1 eG jt c5 dj C1 C2 C6 Jp D7 LV Na Nc oO
set_option maxHeartbeats 2000000 in
theorem Ft (p:Prod) (hp:p.Kh) (hs:1<=p.times/\p.times<=600) (K:Out->List af->Prop) (h:K (.ret (.bool (pB (p.au.length<=20/\eV p.times none p.au)))) []):ah Tryz.prog 59 [dE p] [] K:=by
 have hlen:=hp.lr
 have h:=vG h
 unfold dE ff
 obtain ⟨T,hT⟩: ∃T,tL p.late=T:=⟨_,rfl⟩
 obtain ⟨H,hH⟩: ∃H,iL p.cT=H:=⟨_,rfl⟩
 have nb:(rL p.au).length=p.au.length:=by simp [rL]
 rw [hT,hH]
 refine ag [] 0 Tryz.func59 (by rfl) (by rfl) ?_
 conv=>whnf
 (repeat' first | (refine aa [] ?_;conv=>whnf) | (refine two ?_ ?_<;>intro g<;>(try simp only[an]at g)<;>(conv=>whnf)) | (refine And.intro rfl ?_;conv=>whnf) | fail)
 let CC:List V:=[.str p.name,.int .i64 p.count,.int .i64 p.m3,.int .i64 p.kind,.int .i64 p.every,.int .i64 p.times,.int .i64 p.b_,.int .i64 p.bW,.sl (rL p.au) .no,.int .i64 p.kY,.int .i64 p.o1,.int .i64 p.o2,.int .i64 p.o3,.int .i64 p.o4,.int .i64 p.over,.sl T .no,.int .i64 p.cap,.int .i64 p.roll,.sl H .no]
 let S:Nat->St:=fun i=>⟨(.undef:: .ptr 0 0:: .bool false:: .int .i64 (i:Nat):: .undef:: .undef:: .undef:: .undef:: .undef:: .undef:: .undef:: .undef:: .undef:: .undef:: .undef:: .undef:: .undef:: .undef:: .undef:: .undef:: .undef:: .undef:: .undef:: .undef:: .undef:: .undef:: .undef:: .undef:: .undef:: .undef:: .undef:: .undef:: .undef:: .undef:: .undef:: .undef:: .undef:: .undef:: .undef:: .undef:: .undef:: .undef:: .undef:: .undef:: .undef:: .undef:: .undef:: .undef:: .undef:: .undef::[]),[.cells true 28 CC],0,[]⟩
 refine aA.enter (s':=S 0) (ae (by (repeat' first | exact aq.nil | refine aq.cons VW.undef ?_ | refine aq.cons (VW.eq rfl) ?_)) (.cons (.eq rfl) .nil) rfl rfl rfl)
  (aA.dC S (fun i=>p.au.length - i) (fun i=>i<=p.au.length/\(eV p.times none p.au↔eV p.times (HM p.au i) (p.au.drop i))) ?_ 0 ⟨by omega,Iff.rfl⟩)
 rintro i ⟨hi,hinv⟩ ih
 refine ai [] ?_;conv=>whnf
 (repeat' first | (refine aa [] ?_;conv=>whnf) | (refine two ?_ ?_<;>intro g<;>(try simp only[an,nb]at g)<;>(conv=>whnf)) | (refine And.intro rfl ?_;conv=>whnf) | fail)
 · have cV:i<p.au.length:=by omega
   have aD:(rL p.au)[((i:Nat):Int).toNat]? =some (m_ p.au[i]):=by rw [Int.toNat_natCast];simp [rL,List.getElem?_eq_getElem cV]
   have dW:p.au.drop i=p.au[i]::p.au.drop (i+1):=List.drop_eq_getElem_cons cV
   obtain ⟨q,Bp,qR⟩:=oB m_ p.au i cV (by omega)
   have AT:=lF cV
   obtain ⟨d,hd⟩: ∃d,p.au[i]=d:=⟨_,rfl⟩
   rw [hd] at aD dW AT
   rw [dW] at hinv
   conv at hinv=>rhs;unfold eV
   rw [←AT] at hinv
   refine ⟨by omega,_,aD,rfl,?_⟩
   have wt:IntKind.i64.wrap (p.times - 1)=p.times - 1:=wrap64 (by omega) (by omega)
   have wi:IntKind.i64.wrap ((i:Int)+1)=((i+1:Nat):Int):=by rw [wrap64 (by omega) (by omega)];omega
   have iI: ¬((1<=d.lT/\d.lT<=p.times - 1)/\(0<=d.bW/\d.bW<=1000000000)/\(0<i->q.lT<d.lT))->K (.ret (.bool false)) []:=fun hh=>h false ⟨fun e=>(by cases e),fun h=>absurd (by
    obtain ⟨a,b,c,_⟩:=hinv.1 h.2
    exact ⟨a,b,fun h0=>c q ((qR q).2 ⟨h0,rfl⟩)⟩) hh⟩
   have jM:(1<=d.lT/\d.lT<=p.times - 1)/\(0<=d.bW/\d.bW<=1000000000)/\(0<i->q.lT<d.lT)->aA _ _ _ (S (i+1)) _:=fun hh=>ih (i+1) ⟨by omega,hinv.trans ⟨fun h=>h.2.2.2,fun h=>⟨hh.1,hh.2.1,fun x hx=>by obtain ⟨h0,rfl⟩:=(qR x).1 hx;exact hh.2.2 h0,h⟩⟩⟩ (by omega)
   conv=>whnf
   (repeat' first | (refine aa [] ?_;conv=>whnf) | (refine two ?_ ?_<;>intro g<;>(try simp only[an,wt]at g)<;>(conv=>whnf)) | (refine And.intro rfl ?_;conv=>whnf) | (refine ak (by decide+kernel) ?_;conv=>whnf) | (refine oC _ _ _ _ ?_;conv=>whnf) | (refine ⟨by rw [wrap64 (by omega) (by omega)];omega,_,Bp (by omega),rfl,?_⟩;conv=>whnf) | fail)
   all_goals first
    | (refine ⟨_,aB.refl,?_⟩;conv=>whnf
       (repeat' first | (refine aa [] ?_;conv=>whnf) | (refine two ?_ ?_<;>intro g<;>(try simp only[an]at g)<;>(conv=>whnf)) | (refine And.intro rfl ?_;conv=>whnf) | fail)
       exact iI (by omega))
    | (refine fH (src:=[0]) ?_;conv=>whnf
       refine aA.enter (s':=S (i+1)) (ae (by rw [wi];(repeat' first | exact aq.nil | refine aq.cons VW.undef ?_ | refine aq.cons (VW.eq rfl) ?_)) (.cons (.eq rfl) .nil) rfl rfl rfl) (jM (by omega)))
 · have cV:i=p.au.length:=by omega
   subst cV
   rw [List.drop_length] at hinv
   refine ⟨_,aB.refl,?_⟩
   conv=>whnf
   (repeat' first | (refine aa [] ?_;conv=>whnf) | (refine two ?_ ?_<;>intro g<;>(try simp only[an,nb]at g)<;>(conv=>whnf)) | (refine And.intro rfl ?_;conv=>whnf) | fail)
   refine h _ ?_
   rw [decide_eq_true_iff,nb]
   constructor
   · exact fun hh=>⟨by omega,hinv.2 trivial⟩
   · exact fun hh=>by omega
set_option maxHeartbeats 2000000 in
theorem HZ (p:Prod) (hp:p.Kh) (K:Out->List af->Prop) (h:K (.ret (.bool (pB (xu p)))) []):ah Tryz.prog 61 [dE p] [] K:=by
 have hlen:=hp.ll
 have h:=vG h
 unfold dE ff
 obtain ⟨T,hT⟩: ∃T,rL p.au=T:=⟨_,rfl⟩
 obtain ⟨H,hH⟩: ∃H,iL p.cT=H:=⟨_,rfl⟩
 have nb:(tL p.late).length=p.late.length:=by simp [tL]
 rw [hT,hH]
 refine ag [] 0 Tryz.func61 (by rfl) (by rfl) ?_
 conv=>whnf
 (repeat' first | (refine aa [] ?_;conv=>whnf) | (refine two ?_ ?_<;>intro g<;>(try simp only[an]at g)<;>(conv=>whnf)) | (refine And.intro rfl ?_;conv=>whnf) | fail)
 let CC:List V:=[.str p.name,.int .i64 p.count,.int .i64 p.m3,.int .i64 p.kind,.int .i64 p.every,.int .i64 p.times,.int .i64 p.b_,.int .i64 p.bW,.sl T .no,.int .i64 p.kY,.int .i64 p.o1,.int .i64 p.o2,.int .i64 p.o3,.int .i64 p.o4,.int .i64 p.over,.sl (tL p.late) .no,.int .i64 p.cap,.int .i64 p.roll,.sl H .no]
 let S:Nat->St:=fun i=>⟨(.undef:: .ptr 0 0:: .bool false:: .int .i64 (i:Nat):: .undef:: .undef:: .undef:: .undef:: .undef:: .undef:: .undef:: .undef:: .undef:: .undef:: .undef:: .undef:: .undef:: .undef:: .undef:: .undef:: .undef:: .undef:: .undef:: .undef:: .undef:: .undef:: .undef:: .undef:: .undef:: .undef:: .undef:: .undef:: .undef:: .undef:: .undef:: .undef:: .undef:: .undef:: .undef:: .undef:: .undef:: .undef:: .undef:: .undef:: .undef:: .undef:: .undef:: .undef:: .undef:: .undef:: .undef:: .undef:: .undef:: .undef:: .undef:: .undef:: .undef:: .undef:: .undef:: .undef:: .undef:: .undef:: .undef:: .undef:: .undef:: .undef:: .undef:: .undef:: .undef:: .undef:: .undef:: .undef:: .undef:: .undef:: .undef::[]),[.cells true 28 CC],0,[]⟩
 refine aA.enter (s':=S 0) (ae (by (repeat' first | exact aq.nil | refine aq.cons VW.undef ?_ | refine aq.cons (VW.eq rfl) ?_)) (.cons (.eq rfl) .nil) rfl rfl rfl)
  (aA.dC S (fun i=>p.late.length - i) (fun i=>i<=p.late.length/\(g_ none p.late↔g_ (HM p.late i) (p.late.drop i))) ?_ 0 ⟨by omega,Iff.rfl⟩)
 rintro i ⟨hi,hinv⟩ ih
 refine ai [] ?_;conv=>whnf
 (repeat' first | (refine aa [] ?_;conv=>whnf) | (refine two ?_ ?_<;>intro g<;>(try simp only[an,nb]at g)<;>(conv=>whnf)) | (refine And.intro rfl ?_;conv=>whnf) | fail)
 · have cV:i<p.late.length:=by omega
   have aD:(tL p.late)[((i:Nat):Int).toNat]? =some (na p.late[i]):=by rw [Int.toNat_natCast];simp [tL,List.getElem?_eq_getElem cV]
   have dW:p.late.drop i=p.late[i]::p.late.drop (i+1):=List.drop_eq_getElem_cons cV
   obtain ⟨q,Bp,qR⟩:=oB na p.late i cV (by omega)
   have AT:=lF cV
   obtain ⟨d,hd⟩: ∃d,p.late[i]=d:=⟨_,rfl⟩
   rw [hd] at aD dW AT
   rw [dW] at hinv
   conv at hinv=>rhs;unfold g_
   rw [←AT] at hinv
   refine ⟨by omega,_,aD,rfl,?_⟩
   have wi:IntKind.i64.wrap ((i:Int)+1)=((i+1:Nat):Int):=by rw [wrap64 (by omega) (by omega)];omega
   have iI: ¬((1<=d.days/\d.days<=365)/\(0<=d.km/\d.km<=10000000000000)/\(0<i->q.days<d.days/\q.km<=d.km))->K (.ret (.bool false)) []:=fun hh=>h false ⟨fun e=>(by cases e),fun h=>absurd (by
    obtain ⟨a,b,c,_⟩:=hinv.1 h.2.2.2
    exact ⟨a,b,fun h0=>c q ((qR q).2 ⟨h0,rfl⟩)⟩) hh⟩
   have jM:(1<=d.days/\d.days<=365)/\(0<=d.km/\d.km<=10000000000000)/\(0<i->q.days<d.days/\q.km<=d.km)->aA _ _ _ (S (i+1)) _:=fun hh=>ih (i+1) ⟨by omega,hinv.trans ⟨fun h=>h.2.2.2,fun h=>⟨hh.1,hh.2.1,fun x hx=>by obtain ⟨h0,rfl⟩:=(qR x).1 hx;exact hh.2.2 h0,h⟩⟩⟩ (by omega)
   conv=>whnf
   (repeat' first | (refine aa [] ?_;conv=>whnf) | (refine two ?_ ?_<;>intro g<;>(try simp only[an]at g)<;>(conv=>whnf)) | (refine And.intro rfl ?_;conv=>whnf) | (refine ak (by decide+kernel) ?_;conv=>whnf) | (refine oC _ _ _ _ ?_;conv=>whnf) | (refine ⟨by rw [wrap64 (by omega) (by omega)];omega,_,Bp (by omega),rfl,?_⟩;conv=>whnf) | fail)
   all_goals first
    | (refine ⟨_,aB.refl,?_⟩;conv=>whnf
       (repeat' first | (refine aa [] ?_;conv=>whnf) | (refine two ?_ ?_<;>intro g<;>(try simp only[an]at g)<;>(conv=>whnf)) | (refine And.intro rfl ?_;conv=>whnf) | fail)
       exact iI (by omega))
    | (refine fH (src:=[0]) ?_;conv=>whnf
       refine aA.enter (s':=S (i+1)) (ae (by rw [wi];(repeat' first | exact aq.nil | refine aq.cons VW.undef ?_ | refine aq.cons (VW.eq rfl) ?_)) (.cons (.eq rfl) .nil) rfl rfl rfl) (jM (by omega)))
 · have cV:i=p.late.length:=by omega
   subst cV
   rw [List.drop_length] at hinv
   refine ⟨_,aB.refl,?_⟩
   conv=>whnf
   have bZ:p.late≠[]↔0<p.late.length:=List.length_pos_iff.symm
   (repeat' first | (refine aa [] ?_;conv=>whnf) | (refine two ?_ ?_<;>intro g<;>(try simp only[an,nb]at g)<;>(conv=>whnf)) | (refine And.intro rfl ?_;conv=>whnf) | (refine oC _ _ _ _ ?_;conv=>whnf) | fail)
   all_goals
    refine h _ ?_
    unfold xu
    rw [bZ]
    (try rw [nb])
    (try rw [decide_eq_true_iff])
    constructor
    · intro hh
      first
       | (cases hh;done)
       | exact ⟨by omega,by omega,by omega,hinv.2 trivial⟩
    · intro hh
      first
       | rfl
       | (exfalso;omega)
       | omega
end Qx
namespace R8
open Go Go.Proofs VL D1 eG jt c5 dj C1 C2 C6 Jp D7 LV Na Nc oO Qx
theorem D9 (n:Int):Jm n=true↔ -25567<=n/\n<=84370:=by unfold Jm;simp
theorem Nf (n:Int):Jm n=false↔ ¬(-25567<=n/\n<=84370):=by rw [←D9];simp
set_option maxHeartbeats 2000000 in
theorem Kv (a b c d:Int) (K:Out->List af->Prop) (h:K (.ret (.bool (pB (nL a b c d)))) []):ah Tryz.prog 60 [.agg [.int .i64 a,.int .i64 b,.int .i64 c,.int .i64 d]] [] K:=by
 have h:=vG h
 refine ag [] 0 Tryz.func60 (by rfl) (by rfl) ?_
 conv=>whnf
 (repeat' first | (refine aa [] ?_;conv=>whnf) | (refine two ?_ ?_<;>intro g<;>(try simp only[an,gv,j3,List.mem_cons,List.not_mem_nil,or_false]at g)<;>(conv=>whnf)) | (refine And.intro rfl ?_;conv=>whnf) | (refine ai [] ?_;conv=>whnf) | (refine ⟨_,aB.refl,?_⟩;conv=>whnf) | (refine ah.args (cI:=[.sl (iL [a,b,c,d]) .no,.int .i64 1]) (.cons .no (.cons (.eq rfl) .nil)) rfl (qD [a,b,c,d] 1 (by simp) _ ?_);conv=>whnf) | (refine ah.args (cI:=[.sl (iL [a,b,c,d]) .no,.int .i64 2]) (.cons .no (.cons (.eq rfl) .nil)) rfl (qD [a,b,c,d] 2 (by simp) _ ?_);conv=>whnf) | (refine ah.args (cI:=[.sl (iL [a,b,c,d]) .no,.int .i64 3]) (.cons .no (.cons (.eq rfl) .nil)) rfl (qD [a,b,c,d] 3 (by simp) _ ?_);conv=>whnf) | (refine ah.args (cI:=[.sl (iL [a,b,c,d]) .no,.int .i64 4]) (.cons .no (.cons (.eq rfl) .nil)) rfl (qD [a,b,c,d] 4 (by simp) _ ?_);conv=>whnf) | fail)
 all_goals
  refine h _ ?_
  unfold nL
  constructor
  · intro hh
    first
     | (cases hh;done)
     | omega
  · intro hh
    first
     | rfl
     | (exfalso;omega)
set_option maxHeartbeats 2000000 in
theorem H0 (l:List Int) (hl:l.length<200000000000000) (K:Out->List af->Prop) (h:K (.ret (.bool (pB (l.length<=200/\qx none l)))) []):ah Tryz.prog 62 [.sl (iL l) .no] [] K:=by
 have nb:=rS l
 have h:=vG h
 refine ag [] 0 Tryz.func62 (by rfl) (by rfl) ?_
 conv=>whnf
 (repeat' first | (refine aa [] ?_;conv=>whnf) | (refine two ?_ ?_<;>intro g<;>(try simp only[an]at g)<;>(conv=>whnf)) | (refine And.intro rfl ?_;conv=>whnf) | fail)
 let S:Nat->St:=fun i=>⟨(.sl (iL l) .no:: .undef:: .bool false:: .int .i64 (i:Nat):: .undef:: .undef:: .undef:: .undef:: .undef:: .undef:: .undef:: .undef:: .undef:: .undef:: .undef:: .undef:: .undef:: .undef:: .undef:: .undef:: .undef:: .undef:: .undef:: .undef:: .undef:: .undef:: .undef:: .undef:: .undef:: .undef:: .undef:: .undef:: .undef:: .undef:: .undef::[]),[],0,[]⟩
 refine aA.enter (s':=S 0) (ae (by (repeat' first | exact aq.nil | refine aq.cons VW.undef ?_ | refine aq.cons (VW.eq rfl) ?_)) .nil rfl rfl rfl)
  (aA.dC S (fun i=>l.length - i) (fun i=>i<=l.length/\(qx none l↔qx (HM l i) (l.drop i))) ?_ 0 ⟨by omega,Iff.rfl⟩)
 rintro i ⟨hi,hinv⟩ ih
 refine ai [] ?_;conv=>whnf
 (repeat' first | (refine aa [] ?_;conv=>whnf) | (refine two ?_ ?_<;>intro g<;>(try simp only[an,nb]at g)<;>(conv=>whnf)) | (refine And.intro rfl ?_;conv=>whnf) | fail)
 · have cV:i<l.length:=by omega
   have aD:=yK cV
   have dW:l.drop i=l[i]::l.drop (i+1):=List.drop_eq_getElem_cons cV
   obtain ⟨q,Bp,qR⟩:=oB (V.int .i64) l i cV (by omega)
   have AT:=lF cV
   obtain ⟨d,hd⟩: ∃d,l[i]=d:=⟨_,rfl⟩
   rw [hd] at aD dW AT
   rw [dW] at hinv
   conv at hinv=>rhs;unfold qx
   rw [←AT] at hinv
   have wi:IntKind.i64.wrap ((i:Int)+1)=((i+1:Nat):Int):=by rw [wrap64 (by omega) (by omega)];omega
   have iI: ¬((-25567<=d/\d<=84370)/\(0<i->q<d))->K (.ret (.bool false)) []:=fun hh=>h false ⟨fun e=>(by cases e),fun h=>absurd (by
    obtain ⟨a,c,_⟩:=hinv.1 h.2
    exact ⟨a,fun h0=>c q ((qR q).2 ⟨h0,rfl⟩)⟩) hh⟩
   have jM:(-25567<=d/\d<=84370)/\(0<i->q<d)->aA _ _ _ (S (i+1)) _:=fun hh=>ih (i+1) ⟨by omega,hinv.trans ⟨fun h=>h.2.2,fun h=>⟨hh.1,fun x hx=>by obtain ⟨h0,rfl⟩:=(qR x).1 hx;exact hh.2 h0,h⟩⟩⟩ (by omega)
   (repeat' first | (refine aa [] ?_;conv=>whnf) | (refine two ?_ ?_<;>intro g<;>(try simp only[an,D9,Nf]at g)<;>(conv=>whnf)) | (refine And.intro rfl ?_;conv=>whnf) | (refine ak (by decide+kernel) ?_;conv=>whnf) | (refine Pw _ _ ?_;conv=>whnf) | (refine ⟨by omega,_,aD,rfl,?_⟩;conv=>whnf) | (refine ⟨by rw [wrap64 (by omega) (by omega)];omega,_,Bp (by omega),rfl,?_⟩;conv=>whnf) | fail)
   all_goals first
    | (refine ⟨_,aB.refl,?_⟩;conv=>whnf
       (repeat' first | (refine aa [] ?_;conv=>whnf) | (refine two ?_ ?_<;>intro g<;>(try simp only[an]at g)<;>(conv=>whnf)) | (refine And.intro rfl ?_;conv=>whnf) | fail)
       exact iI (by omega))
    | exact ⟨S (i+1),ae (by rw [wi];(repeat' first | exact aq.nil | refine aq.cons VW.undef ?_ | refine aq.cons (VW.eq rfl) ?_)) .nil rfl rfl rfl,jM (by omega)⟩
 · have cV:i=l.length:=by omega
   subst cV
   rw [List.drop_length] at hinv
   refine ⟨_,aB.refl,?_⟩
   conv=>whnf
   (repeat' first | (refine aa [] ?_;conv=>whnf) | (refine two ?_ ?_<;>intro g<;>(try simp only[an,nb]at g)<;>(conv=>whnf)) | (refine And.intro rfl ?_;conv=>whnf) | fail)
   refine h _ ?_
   rw [decide_eq_true_iff,nb]
   constructor
   · exact fun hh=>⟨by omega,hinv.2 trivial⟩
   · exact fun hh=>by omega
end R8
namespace H2
open Go Go.Proofs VL D1 eG jt c5 dj C1 C2 C6 Jp D7 LV Na Nc oO Qx R8
set_option maxHeartbeats 4000000 in
theorem vH (p:Prod) (hp:p.Kh) (K:Out->List af->Prop) (h:K (.ret (.int .i64 (cS p))) []):ah Tryz.prog 29 [dE p] [] K:=by
 have h9: ¬bA p->K (.ret (.int .i64 9)) []:=fun hh=>by unfold cS at h;rw [if_neg hh] at h;exact h
 have h0:bA p->K (.ret (.int .i64 0)) []:=fun hh=>by unfold cS at h;rw [if_pos hh] at h;exact h
 clear h
 have ht:=hp.times
 unfold bM at ht
 have cV:=rS p.cT
 unfold dE ff
 refine ag [] 0 Tryz.func29 (by rfl) (by rfl) ?_
 conv=>whnf
 (repeat' first | (refine aa [] ?_;conv=>whnf) | (refine two ?_ ?_<;>intro g<;>(try simp only[an,hJ,vE,gv,j3,cV,List.mem_cons,List.not_mem_nil,or_false]at g)<;>(conv=>whnf)) | (refine And.intro rfl ?_;conv=>whnf) | (refine D8 p.name hp.name _ ?_;conv=>whnf) | (refine oC _ _ _ _ ?_;conv=>whnf) | (refine ah.args (cI:=[.sl (iL [1,2,3,4,6,12]) .no,.int .i64 p.every]) (.cons .no (.cons (.eq rfl) .nil)) rfl (qD [1,2,3,4,6,12] p.every (by simp) _ ?_);conv=>whnf) | (refine Ft p hp (by omega) _ ?_;conv=>whnf) | (refine Kv p.o1 p.o2 p.o3 p.o4 _ ?_;conv=>whnf) | (refine HZ p hp _ ?_;conv=>whnf) | (refine H0 p.cT hp.lh _ ?_;conv=>whnf) | fail)
 all_goals first
  | (refine h0 ⟨⟨⟨by assumption,by omega,by omega,by omega⟩,by unfold kT;assumption,by omega,?_,by omega⟩,⟨by omega,by omega,by assumption⟩,⟨by assumption,by omega⟩,by assumption,⟨by assumption,by omega,?_⟩⟩
     · rw [wrap64 (x:=p.times - 1) (by omega) (by omega)] at*;omega
     · first
        | exact .inl g
        | exact .inr (List.length_eq_zero_iff.1 (by omega)))
  | (refine h9 fun hh=> ?_
     obtain ⟨⟨⟨a1,a2,a3,a4⟩,a5,a6,a7,a8⟩,⟨b1,b2,b3⟩,⟨c1,c2⟩,d1,e1,e2,e3⟩:=hh
     unfold kT at a5
     first
      | contradiction
      | omega
      | (rcases e3 with e3 | e3
         · contradiction
         · rw [e3] at g;simp at g)
      | (rw [wrap64 (x:=p.times - 1) (by omega) (by omega)] at*;omega))
  | trace_state
end H2
namespace Kw
open Go Go.Proofs VL D1 eG pP xt jt c5 dj C1 C2 C6
def nN (y m d:Nat):Prop:=(1900<=y/\y<=2200)/\(1<=m/\m<=12)/\(1<=d/\d<=jX y m)
instance (y m d:Nat):Decidable (nN y m d):=inferInstanceAs (Decidable (_/\_))
def eW (y m d:Nat):Int × Int:=if nN y m d then (opens y+kC y m+d - 1,0) else (0,5)
theorem H3 (y m:Nat) (h1:m=0\/12<m) (hm:m<=99) (K) (h:K (.ret (.int .i64 0)) []):ah Tryz.prog 157 [.int .i64 (y:Int),.int .i64 (m:Int)] [] K:=by
 refine ag [] 0 Tryz.func157 (by rfl) (by rfl) ?_
 conv=>whnf
 (repeat' first | (refine aa [] ?_;conv=>whnf) | (refine two ?_ ?_<;>intro g<;>(try simp only[an]at g)<;>(conv=>whnf)) | (refine And.intro rfl ?_;conv=>whnf) | (refine ⟨_,aB.refl,?_⟩;conv=>whnf) | fail)
 all_goals first
  | exact h
  | (exfalso;omega)
  | trace_state
theorem Fu (y m:Nat) (h1:m=0\/12<m) (hm:m<=99) (K) (h:K (.ret (.int .i64 0)) []):ah Tryz.prog 96 [.int .i64 (y:Int),.int .i64 (m:Int)] [] K:=by
 refine ag [] 0 Tryz.func96 (by rfl) (by rfl) ?_
 conv=>whnf
 (repeat' first | (refine aa [] ?_;conv=>whnf) | (refine two ?_ ?_<;>intro g<;>(try simp only[an]at g)<;>(conv=>whnf)) | (refine And.intro rfl ?_;conv=>whnf) | (refine ⟨_,aB.refl,?_⟩;conv=>whnf) | fail)
 all_goals first
  | exact h
  | (exfalso;omega)
  | trace_state
set_option maxHeartbeats 2000000 in
theorem Ng (y m d:Nat) (hy:y<=9999) (hm:m<=99) (hd:d<=99) (K:Out->List af->Prop) (h:K (.ret (.aQ [.int .i64 (eW y m d).1,.int .i64 (eW y m d).2])) []):
 ah Tryz.prog 145 [.agg [.int .i64 (y:Int),.int .i64 (m:Int),.int .i64 (d:Int)]] [] K:=by
 have dN: ¬nN y m d->K (.ret (.aQ [.int .i64 0,.int .i64 5])) []:=fun hh=>by unfold eW at h;rw [if_neg hh] at h;exact h
 have eZ:nN y m d->K (.ret (.aQ [.int .i64 (opens y+kC y m+d - 1),.int .i64 0])) []:=fun hh=>by unfold eW at h;rw [if_pos hh] at h;exact h
 clear h
 have oK:=mw y m
 refine ag [] 0 Tryz.func145 (by rfl) (by rfl) ?_
 conv=>whnf
 by_cases Nh:1<=m/\m<=12
 · (repeat' first | (refine aa [] ?_;conv=>whnf) | (refine two ?_ ?_<;>intro g<;>(try simp only[an]at g)<;>(conv=>whnf)) | (refine And.intro rfl ?_;conv=>whnf) | (refine ak (by decide+kernel) ?_;conv=>whnf) | (refine DV y m Nh.1 Nh.2 _ ?_;conv=>whnf) | fail)
   all_goals first
    | (refine dN fun hh=> ?_;unfold nN at hh;omega)
    | skip
   have ho: -25567<=opens y/\opens y<=90000:=by unfold opens;omega
   have Qy: ∀j,j<=m->kC y j<=400:=fun j hj=>by
    rcases Nat.eq_zero_or_pos j with rfl | h0
    · simp [kC]
    · have:=jY (y:=y) h0 (Nat.le_trans hj Nh.2);have Kx:=AO y;split at Kx<;>omega
   refine Ka y (by omega) (by omega) _ ?_
   conv=>whnf
   (repeat' first | (refine aa [] ?_;conv=>whnf) | (refine two ?_ ?_<;>intro g<;>(try simp only[an]at g)<;>(conv=>whnf)) | (refine And.intro rfl ?_;conv=>whnf) | (refine ak (by decide+kernel) ?_;conv=>whnf) | fail)
   let S:Nat->St:=fun j=>⟨(.undef:: .ptr 0 0:: .int .i64 0:: .int .i64 0:: .int .i64 (opens y+(d:Nat) - 1+(kC y j:Nat)):: .int .i64 (j:Nat):: .undef:: .undef:: .undef:: .undef:: .undef:: .undef:: .undef:: .undef:: .undef:: .undef:: .undef:: .undef:: .undef:: .undef:: .undef:: .undef:: .undef:: .undef:: .undef:: .undef:: .undef:: .undef:: .undef:: .undef:: .undef:: .undef:: .undef:: .undef:: .undef:: .undef:: .undef:: .undef:: .undef:: .undef:: .undef:: .undef:: .undef:: .undef:: .undef:: .undef:: .undef:: .undef:: .undef::[]),[.cells true 112 [.int .i64 (y:Int),.int .i64 (m:Int),.int .i64 (d:Int)]],0,[]⟩
   refine aA.enter (s':=S 1) (ae ?_ (.cons (.eq rfl) .nil) rfl rfl rfl)
    (aA.dC S (fun j=>m - j) (fun j=>1<=j/\j<=m) ?_ 1 ⟨by omega,by omega⟩)
   · repeat' first
      | exact aq.nil
      | refine aq.cons VW.undef ?_
      | refine aq.cons (VW.eq rfl) ?_
      | refine aq.cons (VW.eq (congrArg (V.int .i64) (by rw [wrap64 (x:=opens y+(d:Int)) (by omega) (by omega),wrap64 (by omega) (by omega)];simp [kC]))) ?_
   rintro j ⟨yM,hj⟩ ih
   have Vl:=Qy j hj
   refine ai [] ?_;conv=>whnf
   (repeat' first | (refine aa [] ?_;conv=>whnf) | (refine two ?_ ?_<;>intro g<;>(try simp only[an]at g)<;>(conv=>whnf)) | (refine And.intro rfl ?_;conv=>whnf) | (refine ak (by decide+kernel) ?_;conv=>whnf) | (refine DV y j yM (by omega) _ ?_;conv=>whnf) | fail)
   · have GH:=iF (y:=y) yM
     have Vm:=mw y j
     have wj:IntKind.i64.wrap ((j:Int)+1)=((j+1:Nat):Int):=by rw [wrap64 (by omega) (by omega)];omega
     have wn:IntKind.i64.wrap (opens y+(d:Nat) - 1+(kC y j:Nat)+(jX y j:Nat))=opens y+(d:Nat) - 1+(kC y (j+1):Nat):=by rw [wrap64 (by omega) (by omega),GH];omega
     exact ⟨S (j+1),ae (by rw [wj,wn];(repeat' first | exact aq.nil | refine aq.cons VW.undef ?_ | refine aq.cons (VW.eq rfl) ?_)) (.cons (.eq rfl) .nil) rfl rfl rfl,ih (j+1) ⟨by omega,by omega⟩ (by omega)⟩
   · have O1:j=m:=by omega
     subst O1
     refine ⟨_,aB.refl,?_⟩;conv=>whnf
     (repeat' first | (refine aa [] ?_;conv=>whnf) | (refine two ?_ ?_<;>intro g<;>(try simp only[an]at g)<;>(conv=>whnf)) | (refine And.intro rfl ?_;conv=>whnf) | (refine ak (by decide+kernel) ?_;conv=>whnf) | fail)
     refine Eq.mp (congrArg (fun v=>K (.ret (.aQ [.int .i64 v,.int .i64 0])) []) ?_) (eZ ⟨by omega,by omega,by omega⟩)
     omega
 · (repeat' first | (refine aa [] ?_;conv=>whnf) | (refine two ?_ ?_<;>intro g<;>(try simp only[an]at g)<;>(conv=>whnf)) | (refine And.intro rfl ?_;conv=>whnf) | (refine ak (by decide+kernel) ?_;conv=>whnf) | (refine H3 y m (by omega) hm _ ?_;conv=>whnf) | fail)
   all_goals first
    | (refine dN fun hh=> ?_;unfold nN at hh;omega)
    | (exfalso;omega)
    | trace_state
set_option maxHeartbeats 2000000 in
theorem Ni (y m d:Nat) (hy:y<=9999) (hm:m<=99) (hd:d<=99) (K:Out->List af->Prop) (h:K (.ret (.aQ [.int .i64 (eW y m d).1,.int .i64 (eW y m d).2])) []):
 ah Tryz.prog 130 [.agg [.int .i64 (y:Int),.int .i64 (m:Int),.int .i64 (d:Int)]] [] K:=by
 have dN: ¬nN y m d->K (.ret (.aQ [.int .i64 0,.int .i64 5])) []:=fun hh=>by unfold eW at h;rw [if_neg hh] at h;exact h
 have eZ:nN y m d->K (.ret (.aQ [.int .i64 (opens y+kC y m+d - 1),.int .i64 0])) []:=fun hh=>by unfold eW at h;rw [if_pos hh] at h;exact h
 clear h
 have oK:=mw y m
 refine ag [] 0 Tryz.func130 (by rfl) (by rfl) ?_
 conv=>whnf
 by_cases Nh:1<=m/\m<=12
 · (repeat' first | (refine aa [] ?_;conv=>whnf) | (refine two ?_ ?_<;>intro g<;>(try simp only[an]at g)<;>(conv=>whnf)) | (refine And.intro rfl ?_;conv=>whnf) | (refine ak (by decide+kernel) ?_;conv=>whnf) | (refine qw y m Nh.1 Nh.2 _ ?_;conv=>whnf) | fail)
   all_goals first
    | (refine dN fun hh=> ?_;unfold nN at hh;omega)
    | skip
   have ho: -25567<=opens y/\opens y<=90000:=by unfold opens;omega
   have Qy: ∀j,j<=m->kC y j<=400:=fun j hj=>by
    rcases Nat.eq_zero_or_pos j with rfl | h0
    · simp [kC]
    · have:=jY (y:=y) h0 (Nat.le_trans hj Nh.2);have Kx:=AO y;split at Kx<;>omega
   refine vw y (by omega) (by omega) _ ?_
   conv=>whnf
   (repeat' first | (refine aa [] ?_;conv=>whnf) | (refine two ?_ ?_<;>intro g<;>(try simp only[an]at g)<;>(conv=>whnf)) | (refine And.intro rfl ?_;conv=>whnf) | (refine ak (by decide+kernel) ?_;conv=>whnf) | fail)
   let S:Nat->St:=fun j=>⟨(.undef:: .ptr 0 0:: .int .i64 0:: .int .i64 0:: .int .i64 (opens y+(d:Nat) - 1+(kC y j:Nat)):: .int .i64 (j:Nat):: .undef:: .undef:: .undef:: .undef:: .undef:: .undef:: .undef:: .undef:: .undef:: .undef:: .undef:: .undef:: .undef:: .undef:: .undef:: .undef:: .undef:: .undef:: .undef:: .undef:: .undef:: .undef:: .undef:: .undef:: .undef:: .undef:: .undef:: .undef:: .undef:: .undef:: .undef:: .undef:: .undef:: .undef:: .undef:: .undef:: .undef:: .undef:: .undef:: .undef:: .undef:: .undef:: .undef:: .undef::[]),[.cells true 112 [.int .i64 (y:Int),.int .i64 (m:Int),.int .i64 (d:Int)]],0,[]⟩
   refine aA.enter (s':=S 1) (ae ?_ (.cons (.eq rfl) .nil) rfl rfl rfl)
    (aA.dC S (fun j=>m - j) (fun j=>1<=j/\j<=m) ?_ 1 ⟨by omega,by omega⟩)
   · repeat' first
      | exact aq.nil
      | refine aq.cons VW.undef ?_
      | refine aq.cons (VW.eq rfl) ?_
      | refine aq.cons (VW.eq (congrArg (V.int .i64) (by rw [wrap64 (x:= -25567+(opens y+25567)) (by omega) (by omega),wrap64 (x:= -25567+(opens y+25567)+(d:Int)) (by omega) (by omega),wrap64 (by omega) (by omega)];simp [kC];omega))) ?_
   rintro j ⟨yM,hj⟩ ih
   have Vl:=Qy j hj
   refine ai [] ?_;conv=>whnf
   (repeat' first | (refine aa [] ?_;conv=>whnf) | (refine two ?_ ?_<;>intro g<;>(try simp only[an]at g)<;>(conv=>whnf)) | (refine And.intro rfl ?_;conv=>whnf) | (refine ak (by decide+kernel) ?_;conv=>whnf) | (refine qw y j yM (by omega) _ ?_;conv=>whnf) | fail)
   · have GH:=iF (y:=y) yM
     have Vm:=mw y j
     have wj:IntKind.i64.wrap ((j:Int)+1)=((j+1:Nat):Int):=by rw [wrap64 (by omega) (by omega)];omega
     have wn:IntKind.i64.wrap (opens y+(d:Nat) - 1+(kC y j:Nat)+(jX y j:Nat))=opens y+(d:Nat) - 1+(kC y (j+1):Nat):=by rw [wrap64 (by omega) (by omega),GH];omega
     exact ⟨S (j+1),ae (by rw [wj,wn];(repeat' first | exact aq.nil | refine aq.cons VW.undef ?_ | refine aq.cons (VW.eq rfl) ?_)) (.cons (.eq rfl) .nil) rfl rfl rfl,ih (j+1) ⟨by omega,by omega⟩ (by omega)⟩
   · have O1:j=m:=by omega
     subst O1
     refine ⟨_,aB.refl,?_⟩;conv=>whnf
     (repeat' first | (refine aa [] ?_;conv=>whnf) | (refine two ?_ ?_<;>intro g<;>(try simp only[an]at g)<;>(conv=>whnf)) | (refine And.intro rfl ?_;conv=>whnf) | (refine ak (by decide+kernel) ?_;conv=>whnf) | fail)
     refine Eq.mp (congrArg (fun v=>K (.ret (.aQ [.int .i64 v,.int .i64 0])) []) ?_) (eZ ⟨by omega,by omega,by omega⟩)
     omega
 · (repeat' first | (refine aa [] ?_;conv=>whnf) | (refine two ?_ ?_<;>intro g<;>(try simp only[an]at g)<;>(conv=>whnf)) | (refine And.intro rfl ?_;conv=>whnf) | (refine ak (by decide+kernel) ?_;conv=>whnf) | (refine Fu y m (by omega) hm _ ?_;conv=>whnf) | fail)
   all_goals first
    | (refine dN fun hh=> ?_;unfold nN at hh;omega)
    | (exfalso;omega)
    | trace_state
end Kw
namespace pQ
open Go Go.Proofs VL D1 eG pP xt jt c5 dj C1 C2 C6 Kw
set_option maxHeartbeats 2000000 in
theorem CM (s:ByteArray) (hs:s.size<1000000) (a b:Nat) (N_:a<=b) (hb:b<=s.size) (h4:b<=a+4) (K:Out->List af->Prop)
 (h0:(∀x∈((sB s).take b).drop a,cw x)->K (.ret (.aQ [.int .i64 (vl (((sB s).take b).drop a):Nat),.bool true])) [])
 (h1: ¬(∀x∈((sB s).take b).drop a,cw x)->K (.ret (.aQ [.int .i64 0,.bool false])) []):
 ah Tryz.prog 144 [.agg [.str s],.int .i64 (a:Int),.int .i64 (b:Int)] [] K:=by
 have nC:=bh s
 refine ag [] 0 Tryz.func144 (by rfl) (by rfl) ?_
 conv=>whnf
 (repeat' first | (refine aa [] ?_;conv=>whnf) | (refine two ?_ ?_<;>intro g<;>(try simp only[an]at g)<;>(conv=>whnf)) | (refine And.intro rfl ?_;conv=>whnf) | (refine ak (by decide+kernel) ?_;conv=>whnf) | fail)
 refine ⟨by omega,by omega,by omega,?_⟩
 conv=>whnf
 (repeat' first | (refine aa [] ?_;conv=>whnf) | (refine two ?_ ?_<;>intro g<;>(try simp only[an]at g)<;>(conv=>whnf)) | (refine And.intro rfl ?_;conv=>whnf) | (refine ak (by decide+kernel) ?_;conv=>whnf) | fail)
 obtain ⟨l,hl⟩: ∃l,((sB s).take b).drop a=l:=⟨_,rfl⟩
 rw [hl] at h0 h1
 have Lj:l.length=b - a:=by rw [←hl];simp;omega
 rw [ou,Int.toNat_natCast,Int.toNat_natCast,nI,hl]
 let S:Nat->St:=fun i=>⟨(.undef:: .undef:: .undef:: .ptr 0 0:: .undef:: .undef:: .int .i64 0:: .bool false:: .int .i64 (vl (l.take i):Nat):: .undef:: .undef:: .undef:: .undef:: .undef:: .undef:: .undef:: .sl (bL l) .no:: .int .i64 (l.length:Nat):: .int .i64 (i:Nat):: .undef:: .undef:: .undef:: .undef:: .undef:: .undef:: .undef:: .undef:: .undef:: .undef:: .undef:: .undef:: .undef:: .undef:: .undef:: .undef:: .undef::[]),[.cells true 160 [.str s]],0,[]⟩
 refine aA.enter (s':=S 0) (ae ?_ (.cons (.eq rfl) .nil) rfl rfl rfl)
  (aA.dC S (fun i=>l.length - i) (fun i=>i<=l.length/\ ∀x∈l.take i,cw x) ?_ 0 ⟨by omega,by simp⟩)
 · repeat' first
    | exact aq.nil
    | refine aq.cons VW.undef ?_
    | refine aq.cons (VW.eq rfl) ?_
    | refine aq.cons VW.no ?_
    | refine aq.cons (VW.eq (by rw [yB])) ?_
 rintro i ⟨hi,hinv⟩ ih
 refine ai [] ?_;conv=>whnf
 (repeat' first | (refine aa [] ?_;conv=>whnf) | (refine two ?_ ?_<;>intro g<;>(try simp only[an]at g)<;>(conv=>whnf)) | (refine And.intro rfl ?_;conv=>whnf) | fail)
 · have cV:i<l.length:=by omega
   have hx:l[i]? =some l[i]:=List.getElem?_eq_getElem cV
   have dB:l[i]∈l:=List.getElem_mem _
   obtain ⟨x,HW⟩: ∃x,l[i]=x:=⟨_,rfl⟩
   have kW:l.take (i+1)=l.take i++[x]:=by rw [List.take_succ_eq_append_getElem cV,HW]
   rw [HW] at hx dB
   have aD:(bL l)[((i:Nat):Int).toNat]? =some (.int .u8 x):=by rw [Int.toNat_natCast,yC,hx];rfl
   have wi:IntKind.i64.wrap ((i:Int)+1)=((i+1:Nat):Int):=by rw [wrap64 (by omega) (by omega)];omega
   have Ky:=mY (l.take i) hinv
   have hp:10^(l.take i).length<=10^4:=Nat.pow_le_pow_right (by omega) (by simp;omega)
   have iI: ¬cw x->K (.ret (.aQ [.int .i64 0,.bool false])) []:=fun Cu=>h1 fun hh=>Cu (hh x dB)
   unfold cw at iI
   refine ⟨by omega,_,aD,rfl,?_⟩
   conv=>whnf
   (repeat' first | (refine aa [] ?_;conv=>whnf) | (refine two ?_ ?_<;>intro g<;>(try simp only[an]at g)<;>(conv=>whnf)) | (refine And.intro rfl ?_;conv=>whnf) | fail)
   all_goals first
    | (refine ⟨_,aB.refl,?_⟩;conv=>whnf
       (repeat' first | (refine aa [] ?_;conv=>whnf) | (refine two ?_ ?_<;>intro g<;>(try simp only[an]at g)<;>(conv=>whnf)) | (refine And.intro rfl ?_;conv=>whnf) | fail)
       exact iI (by omega))
    | skip
   have wn:IntKind.i64.wrap (IntKind.i64.wrap (10*((vl (l.take i):Nat):Int))+IntKind.i64.wrap (IntKind.u8.wrap (x - 48)))=(vl (l.take (i+1)):Nat):=by
    rw [show IntKind.u8.wrap (x - 48)=x - 48 by rw [IntKind.wrap_u8];omega,wrap64 (x:=x - 48) (by omega) (by omega),wrap64 (x:=10*((vl (l.take i):Nat):Int)) (by omega) (by omega),wrap64 (by omega) (by omega),kW,cX];omega
   exact ⟨S (i+1),ae (by rw [wi,wn];(repeat' first | exact aq.nil | refine aq.cons VW.undef ?_ | refine aq.cons (VW.eq rfl) ?_)) (.cons (.eq rfl) .nil) rfl rfl rfl,ih (i+1) ⟨by omega,fun y hy=>by
    rw [kW] at hy
    rcases List.mem_append.1 hy with hy | hy
    · exact hinv y hy
    · rw [List.mem_singleton.1 hy];unfold cw;omega⟩ (by omega)⟩
 · have cV:i=l.length:=by omega
   subst cV
   rw [List.take_length] at hinv
   have h0:=h0 hinv
   refine ⟨_,aB.refl,?_⟩;conv=>whnf
   rw [List.take_length]
   (repeat' first | (refine aa [] ?_;conv=>whnf) | (refine two ?_ ?_<;>intro g<;>(try simp only[an]at g)<;>(conv=>whnf)) | (refine And.intro rfl ?_;conv=>whnf) | fail)
   exact h0
def sr (l:List Int):Prop:=(l.length=10/\l[4]? =some 45/\l[7]? =some 45)/\(∀x∈(l.take 4).drop 0,cw x)/\(∀x∈(l.take 7).drop 5,cw x)/\ ∀x∈(l.take 10).drop 8,cw x
noncomputable instance (l:List Int):Decidable (sr l):=Classical.propDecidable _
noncomputable def eK (l:List Int):Int × Int:=if sr l then eW (vl ((l.take 4).drop 0)) (vl ((l.take 7).drop 5)) (vl ((l.take 10).drop 8)) else (0,4)
set_option maxHeartbeats 2000000 in
theorem Nj (s:ByteArray) (hs:s.size<1000000) (K:Out->List af->Prop) (h:K (.ret (.aQ [.int .i64 (eK (sB s)).1,.int .i64 (eK (sB s)).2])) []):ah Tryz.prog 128 [.str s] [] K:=by
 have nC:=bh s
 have dN: ¬sr (sB s)->K (.ret (.aQ [.int .i64 0,.int .i64 4])) []:=fun hh=>by unfold eK at h;rw [if_neg hh] at h;exact h
 have eZ:sr (sB s)->K (.ret (.aQ [.int .i64 (eW (vl (((sB s).take 4).drop 0)) (vl (((sB s).take 7).drop 5)) (vl (((sB s).take 10).drop 8))).1,.int .i64 (eW (vl (((sB s).take 4).drop 0)) (vl (((sB s).take 7).drop 5)) (vl (((sB s).take 10).drop 8))).2])) []:=fun hh=>by unfold eK at h;rw [if_pos hh] at h;exact h
 clear h
 refine ag [] 0 Tryz.func128 (by rfl) (by rfl) ?_
 conv=>whnf
 (repeat' first | (refine aa [] ?_;conv=>whnf) | (refine two ?_ ?_<;>intro g<;>(try simp only[an]at g)<;>(conv=>whnf)) | (refine And.intro rfl ?_;conv=>whnf) | fail)
 · exact dN fun hh=>by have:=hh.1.1;omega
 have cg:s.size=10:=by omega
 have hg: ∀i,i<10->(sB s)[i]? =some ((sB s).getD i 0):=fun i hi=>by rw [List.getD_eq_getElem?_getD,List.getElem?_eq_getElem (by omega)];rfl
 have h4:=hg 4 (by omega)
 have h7:=hg 7 (by omega)
 obtain ⟨c,hc⟩: ∃c,(sB s).getD 4 0=c:=⟨_,rfl⟩
 obtain ⟨e,he⟩: ∃e,(sB s).getD 7 0=e:=⟨_,rfl⟩
 rw [hc] at h4
 rw [he] at h7
 refine aU (x:=c) (by decide) h4 fun b hb=> ?_
 conv=>whnf
 (repeat (refine aa [] ?_;conv=>whnf))
 rw [hb]
 clear hb b
 (repeat' first | (refine aa [] ?_;conv=>whnf) | (refine two ?_ ?_<;>intro g<;>(try simp only[an]at g)<;>(conv=>whnf)) | (refine And.intro rfl ?_;conv=>whnf) | fail)
 · exact dN fun hh=>by have:=hh.1.2.1;rw [h4] at this;exact g (Option.some.inj this)
 refine aU (x:=e) (by decide) h7 fun b hb=> ?_
 conv=>whnf
 (repeat (refine aa [] ?_;conv=>whnf))
 rw [hb]
 clear hb b
 (repeat' first | (refine aa [] ?_;conv=>whnf) | (refine two ?_ ?_<;>intro g<;>(try simp only[an]at g)<;>(conv=>whnf)) | (refine And.intro rfl ?_;conv=>whnf) | fail)
 · exact dN fun hh=>by have:=hh.1.2.2;rw [h7] at this;exact g (Option.some.inj this)
 have l1:(((sB s).take 4).drop 0).length=4:=by simp;omega
 have l2:(((sB s).take 7).drop 5).length=2:=by simp;omega
 have l3:(((sB s).take 10).drop 8).length=2:=by simp;omega
 refine CM s hs 0 4 (by omega) (by omega) (by omega) _ (fun a1=> ?_) (fun a1=> ?_)
 all_goals
  conv=>whnf
  (repeat' first | (refine aa [] ?_;conv=>whnf) | (refine two ?_ ?_<;>intro g<;>(try simp only[an]at g)<;>(conv=>whnf)) | (refine And.intro rfl ?_;conv=>whnf) | fail)
  refine CM s hs 5 7 (by omega) (by omega) (by omega) _ (fun a2=> ?_) (fun a2=> ?_)
  all_goals
   conv=>whnf
   (repeat' first | (refine aa [] ?_;conv=>whnf) | (refine two ?_ ?_<;>intro g<;>(try simp only[an]at g)<;>(conv=>whnf)) | (refine And.intro rfl ?_;conv=>whnf) | fail)
   refine CM s hs 8 10 (by omega) (by omega) (by omega) _ (fun a3=> ?_) (fun a3=> ?_)
   all_goals
    conv=>whnf
    (repeat' first | (refine aa [] ?_;conv=>whnf) | (refine two ?_ ?_<;>intro g<;>(try simp only[an]at g)<;>(conv=>whnf)) | (refine And.intro rfl ?_;conv=>whnf) | fail)
    first
     | exact dN fun hh=>a1 hh.2.1
     | exact dN fun hh=>a2 hh.2.2.1
     | exact dN fun hh=>a3 hh.2.2.2
     | (have b1:=mY _ a1
        have b2:=mY _ a2
        have b3:=mY _ a3
        rw [l1] at b1
        rw [l2] at b2
        rw [l3] at b3
        refine Ng _ _ _ (by omega) (by omega) (by omega) _ ?_
        conv=>whnf
        (repeat' first | (refine aa [] ?_;conv=>whnf) | (refine two ?_ ?_<;>intro g<;>(try simp only[an]at g)<;>(conv=>whnf)) | (refine And.intro rfl ?_;conv=>whnf) | fail)
        exact eZ ⟨⟨by omega,by rw [h4];congr 1,by rw [h7];congr 1⟩,a1,a2,a3⟩)
end pQ
namespace Kz
open Go Go.Proofs VL D1 eG pP xt jt c5 dj C1 C2 C6 Kw pQ
theorem Nk {l:List Int} (h:l.length=10): ∃a b c d e f g h i j,l=[a,b,c,d,e,f,g,h,i,j]:=by
 match l,h with
 | [a,b,c,d,e,f,g,h,i,j],_=>exact ⟨a,b,c,d,e,f,g,h,i,j,rfl⟩
theorem ss {v x:Int} (h0:0<=v) (h1:v<=100000) (hx:48<=x/\x<=57):IntKind.i64.wrap (IntKind.i64.wrap (10*v)+IntKind.i64.wrap (IntKind.u8.wrap (x - 48)))=10*v+(x - 48):=by
 rw [show IntKind.u8.wrap (x - 48)=x - 48 by rw [IntKind.wrap_u8];omega,wrap64 (x:=x - 48) (by omega) (by omega),wrap64 (x:=10*v) (by omega) (by omega),wrap64 (by omega) (by omega)]
set_option maxHeartbeats 4000000 in
theorem D_ (s:ByteArray) (hs:s.size<1000000) (K:Out->List af->Prop) (h:K (.ret (.aQ [.int .i64 (eK (sB s)).1,.int .i64 (eK (sB s)).2])) []):ah Tryz.prog 119 [.str s] [] K:=by
 have nC:=bh s
 have dN: ¬sr (sB s)->K (.ret (.aQ [.int .i64 0,.int .i64 4])) []:=fun hh=>by unfold eK at h;rw [if_neg hh] at h;exact h
 have eZ:sr (sB s)->K (.ret (.aQ [.int .i64 (eW (vl (((sB s).take 4).drop 0)) (vl (((sB s).take 7).drop 5)) (vl (((sB s).take 10).drop 8))).1,.int .i64 (eW (vl (((sB s).take 4).drop 0)) (vl (((sB s).take 7).drop 5)) (vl (((sB s).take 10).drop 8))).2])) []:=fun hh=>by unfold eK at h;rw [if_pos hh] at h;exact h
 clear h
 refine ag [] 0 Tryz.func119 (by rfl) (by rfl) ?_
 conv=>whnf
 (repeat' first | (refine aa [] ?_;conv=>whnf) | (refine two ?_ ?_<;>intro g<;>(try simp only[an]at g)<;>(conv=>whnf)) | (refine And.intro rfl ?_;conv=>whnf) | fail)
 · exact dN fun hh=>by have:=hh.1.1;omega
 have cg:s.size=10:=by omega
 obtain ⟨x0,x1,x2,x3,x4,x5,x6,x7,x8,x9,hl⟩:=Nk (l:=sB s) (by omega)
 have hF:sr (sB s)↔(x4=45/\x7=45)/\(cw x0/\cw x1/\cw x2/\cw x3)/\(cw x5/\cw x6)/\cw x8/\cw x9:=by
  rw [hl];unfold sr;simp
 rw [hF] at dN eZ
 rw [hl] at eZ
 unfold cw at dN eZ
 (repeat' first | (refine aa [] ?_;conv=>whnf) | (refine two ?_ ?_<;>intro g<;>(try simp only[an]at g)<;>(conv=>whnf)) | (refine And.intro rfl ?_;conv=>whnf) | (refine ai [] ?_;conv=>whnf) | (refine ⟨_,aB.refl,?_⟩;conv=>whnf) | (refine ⟨by decide,by decide,?_⟩;conv=>whnf) | (refine aU (x:=_) (by decide) (by rw [hl];rfl) fun b hb=> ?_;(conv=>whnf);(repeat (refine aa [] ?_;conv=>whnf));rw [hb];clear hb b) | fail)
 all_goals first
  | (refine dN fun hh=> ?_;omega)
  | skip
 rw [ss (v:=0) (x:=x0) (by omega) (by omega) (by omega),ss (v:=10*0+(x0 - 48)) (x:=x1) (by omega) (by omega) (by omega),ss (v:=10*(10*0+(x0 - 48))+(x1 - 48)) (x:=x2) (by omega) (by omega) (by omega),ss (v:=10*(10*(10*0+(x0 - 48))+(x1 - 48))+(x2 - 48)) (x:=x3) (by omega) (by omega) (by omega),
  ss (v:=0) (x:=x5) (by omega) (by omega) (by omega),ss (v:=10*0+(x5 - 48)) (x:=x6) (by omega) (by omega) (by omega),ss (v:=0) (x:=x8) (by omega) (by omega) (by omega),ss (v:=10*0+(x8 - 48)) (x:=x9) (by omega) (by omega) (by omega)]
 have eZ:=eZ (by omega)
 have e1:10*(10*(10*(10*0+(x0 - 48))+(x1 - 48))+(x2 - 48))+(x3 - 48)=((vl (([x0,x1,x2,x3,x4,x5,x6,x7,x8,x9].take 4).drop 0):Nat):Int):=by simp [vl];omega
 have e2:10*(10*0+(x5 - 48))+(x6 - 48)=((vl (([x0,x1,x2,x3,x4,x5,x6,x7,x8,x9].take 7).drop 5):Nat):Int):=by simp [vl];omega
 have e3:10*(10*0+(x8 - 48))+(x9 - 48)=((vl (([x0,x1,x2,x3,x4,x5,x6,x7,x8,x9].take 10).drop 8):Nat):Int):=by simp [vl];omega
 rw [e1,e2,e3]
 refine Ni _ _ _ (by omega) (by omega) (by omega) _ ?_
 conv=>whnf
 (repeat' first | (refine aa [] ?_;conv=>whnf) | (refine two ?_ ?_<;>intro g<;>(try simp only[an]at g)<;>(conv=>whnf)) | (refine And.intro rfl ?_;conv=>whnf) | fail)
 exact eZ
end Kz
namespace C4
open Go Go.Proofs VL D1 eG kb kj pP xt jt Ga c5 dj C1 C2 C3 C6 Kw pQ
inductive iR (α:Type) where
 | ok (a:α) (r:List C3.Tok)
 | err (p:Nat) (e:Int)
def iR.bind {α β:Type} (x:iR α) (f:α->List C3.Tok->iR β):iR β:=match x with
 | .ok a r=>f a r
 | .err p e=> .err p e
def aC:List C3.Tok->C3.Tok × List C3.Tok
 | []=>(⟨0,0,[]⟩,[])
 | t::r=>if t.kind=0 then (t,t::r) else (t,r)
def aF (k:Int) (w:List Int) (l:List C3.Tok):iR C3.Tok:=if (aC l).1.kind=k/\(w=[]\/(aC l).1.text=w) then .ok (aC l).1 (aC l).2 else .err (aC l).1.at_ 7
def pH (l:List Int):Option Int:=if (∀x∈l,cw x)/\l.length<=9/\(2<=l.length->l.head?≠some 48) then some (vl l) else none
def bg (l:List C3.Tok):iR Int:=(aF 2 [] l).bind fun t r=>match pH t.text with
 | some n=> .ok n r
 | none=> .err t.at_ 7
def aL (f:List Int->Int × Int) (l:List C3.Tok):iR Int:=(aF 2 [] l).bind fun t r=>if (f t.text).2=0 then .ok (f t.text).1 r else .err t.at_ 7
def bJ (ws:List (List Int)) (l:List C3.Tok):iR Int:=(aF 1 [] l).bind fun t r=>if t.text∈ws then .ok (ws.idxOf t.text+1:Nat) r else .err t.at_ 7
def cK:List Int:=[99,111,117,110,116]
def cL:List Int:=[114,111,117,110,100]
def dK:List Int:=[107,105,110,100]
def cM:List Int:=[101,118,101,114,121]
def cN:List Int:=[116,105,109,101,115]
def eC:List Int:=[103,114,97,99,101]
def dL:List Int:=[114,97,116,101]
def cq:List Int:=[112,101,110,97,108,116,121]
def cO:List Int:=[114,101,115,101,116]
def dM:List Int:=[108,97,116,101]
def j4:List Int:=[99,97,112]
def bE:List Int:=[104,111,108,105,100,97,121]
def cG:List Int:=[111,114,100,101,114]
def fS:List Int:=[111,118,101,114]
def fT:List Int:=[114,111,108,108]
def gz:List Int:=[116,104,105,114,116,121]
def jd:List Int:=[102,105,120,101,100]
def gA:List Int:=[97,99,116,117,97,108]
def fq:List Int:=[104,97,108,102,45,117,112]
def mA:List Int:=[100,111,119,110]
def fr:List Int:=[97,110,110,117,105,116,121]
def je:List Int:=[101,113,117,97,108]
def gB:List Int:=[98,117,108,108,101,116]
def H4:List Int:=[102,101,101,115]
def vI:List Int:=[105,110,116,101,114,101,115,116]
def su:List Int:=[112,114,105,110,99,105,112,97,108]
def mB:List Int:=[104,111,108,100]
def gC:List Int:=[112,114,101,112,97,121]
def gD:List Int:=[114,101,102,117,110,100]
def mC:List Int:=[115,116,97,121]
def mD:List Int:=[110,101,120,116]
def gE:List Int:=[119,105,116,104,105,110]
def eD:List Int:=[112,114,101,118,105,111,117,115]
def cY:List Int:=[112,114,111,100,117,99,116]
def dZ:List (List Int):=[H4,cq,vI,su]
def aV:Nat->List Int->List C3.Tok->iR (List Int)
 | 0,acc,l=> .ok acc l
 | n+1,acc,l=>(bJ dZ l).bind fun k r=>if k∈acc then .err (aC l).1.at_ 7 else aV n (acc++[k]) r
def j5 (w:List Int):Bool:=w==cO || w==dM || w==bE
noncomputable def aZ (w:List Int) (p:Prod) (l:List C3.Tok):Option (iR Prod):=
 if w=cK then some ((bJ [gz,jd,gA] l).bind fun k r=> .ok {p with count:=k} r)
 else if w=cL then some ((bJ [fq,mA] l).bind fun k r=> .ok {p with m3:=if k=1 then 1 else 3} r)
 else if w=dK then some ((bJ [fr,je,gB] l).bind fun k r=> .ok {p with kind:=k} r)
 else if w=cM then some ((bg l).bind fun k r=> .ok {p with every:=k} r)
 else if w=cN then some ((bg l).bind fun k r=> .ok {p with times:=k} r)
 else if w=eC then some ((bg l).bind fun k r=> .ok {p with b_:=k} r)
 else if w=dL then some ((aL bH l).bind fun k r=> .ok {p with bW:=k} r)
 else if w=cq then some ((aL bH l).bind fun k r=> .ok {p with kY:=k} r)
 else if w=cO then some ((bg l).bind fun k r=>(aL bH r).bind fun v r=> .ok {p with au:=p.au++[⟨k,v⟩]} r)
 else if w=dM then some ((bg l).bind fun k r=>(aL bT r).bind fun v r=> .ok {p with late:=p.late++[⟨k,v⟩]} r)
 else if w=j4 then some ((aL bT l).bind fun k r=> .ok {p with cap:=k} r)
 else if w=bE then some ((aL eK l).bind fun k r=> .ok {p with cT:=p.cT++[k]} r)
 else if w=cG then some ((aV 4 [] l).bind fun o r=> .ok {p with o1:=o.getD 0 0,o2:=o.getD 1 0,o3:=o.getD 2 0,o4:=o.getD 3 0} r)
 else if w=fS then some ((bJ [mB,gC,gD] l).bind fun k r=> .ok {p with over:=k} r)
 else if w=fT then some ((bJ [mC,mD,gE,eD] l).bind fun k r=> .ok {p with roll:=k} r)
 else none
noncomputable def aN:Nat->Nat->List C3.Tok->Prod->List (List Int)->iR (Prod × List (List Int))
 | 0,_,l,_,_=> .err (aC l).1.at_ 0
 | f+1,d,l,p,sn=>
   if (aC l).1.kind=3/\(aC l).1.text=[125] then .ok (p,sn) (aC l).2
   else if (aC l).1.kind=3/\(aC l).1.text=[123] then
    if 32<=d then .err (aC l).1.at_ 8 else (aN f (d+1) (aC l).2 p sn).bind fun q r=>aN f d r q.1 q.2
   else if (aC l).1.kind≠1 then .err (aC l).1.at_ 7
   else match aZ (aC l).1.text p (aC l).2 with
    | none=> .err (aC l).1.at_ 7
    | some x=>if (aC l).1.text∈sn/\j5 (aC l).1.text=false then .err (aC l).1.at_ 7
      else x.bind fun q r=>(aF 3 [59] r).bind fun _ r=>aN f d r q ((aC l).1.text::sn)
def bD:Prod:=⟨⟨#[]⟩,0,0,0,0,0,0,0,[],0,0,0,0,0,0,[],0,0,[]⟩
noncomputable def dc (l:List C3.Tok):iR (Prod × List (List Int)):=
 (aF 1 cY l).bind fun _ l=>(aF 1 [] l).bind fun t l=>
   open Classical in if dX t.text then (aF 3 [123] l).bind fun _ l=>(aN (l.length+1) 1 l {bD with name:=az t.text,over:=1,roll:=1} []).bind fun q l=>(aF 0 [] l).bind fun _ l=> .ok q l
   else .err t.at_ 7
def hQ (sn:List (List Int)):Prop:=cK∈sn/\cL∈sn/\dK∈sn/\cM∈sn/\cN∈sn/\dL∈sn/\cG∈sn
noncomputable def bo (s:List Int):Prod × Int × Int:=match fp s with
 | .error (p,e)=>(bD,p,e)
 | .ok l=>match dc l with
   | .err p e=>(bD,p,e)
   | .ok q _=>open Classical in if hQ q.2/\bA q.1 then (q.1,0,0) else (bD,(aC l).1.at_,9)
end C4
namespace oY
open Go Go.Proofs VL D1 eG jt c5 dj C1 C2 C3 C4 C6 oO
structure PS where
 p:Prod
 s1:List V
 s2:List V
 s3:List V
 sn:List (V × V)
def xO (a b c:Bool) (k:List C3.Tok) (i:Nat) (x:PS):List af:=
 [.cells true 54 [.sl (kL k) .no,.int .i64 i,.str x.p.name,.int .i64 x.p.count,.int .i64 x.p.m3,.int .i64 x.p.kind,.int .i64 x.p.every,.int .i64 x.p.times,.int .i64 x.p.b_,.int .i64 x.p.bW,.bX 1 2 0 x.p.au.length (x.p.au.length+x.s1.length),.int .i64 x.p.kY,.int .i64 x.p.o1,.int .i64 x.p.o2,.int .i64 x.p.o3,.int .i64 x.p.o4,.int .i64 x.p.over,.bX 2 2 0 x.p.late.length (x.p.late.length+x.s2.length),.int .i64 x.p.cap,.int .i64 x.p.roll,.bX 3 1 0 x.p.cT.length (x.p.cT.length+x.s3.length),.mp 4],
  .buf a 2 (rL x.p.au++x.s1),.buf b 2 (tL x.p.late++x.s2),.buf c 1 (iL x.p.cT++x.s3),.map x.sn]
def bb:List C3.Tok->Prop
 | []=>False
 | [t]=>t.kind=0
 | t::r=>t.kind≠0/\bb r
def gd (p e:Int):V:= .jl 47 (.agg [.int .i64 p,.int .i64 e])
theorem ie (t:C3.Tok) (K:Out->List af->Prop) (h:K (.dw (gd t.at_ 7)) []):ah Tryz.prog 43 [my t] [] K:=by
 unfold my
 refine ag [] 0 Tryz.func43 (by rfl) (by rfl) ?_
 conv=>whnf
 (repeat' first | (refine aa [] ?_;conv=>whnf) | (refine two ?_ ?_<;>intro g<;>(try simp only[an]at g)<;>(conv=>whnf)) | (refine And.intro rfl ?_;conv=>whnf) | fail)
 exact h
theorem Nl {t:C3.Tok} {r:List C3.Tok} (h:t.kind=0):aC (t::r)=(t,t::r):=by show (if t.kind=0 then _ else _)=_;rw [if_pos h]
theorem Nn {t:C3.Tok} {r:List C3.Tok} (h: ¬t.kind=0):aC (t::r)=(t,r):=by show (if t.kind=0 then _ else _)=_;rw [if_neg h]
theorem bw {l:List C3.Tok} (h:bb l):bb (aC l).2/\ ∃t r,l=t::r/\(aC l).1=t/\((t.kind=0/\(aC l).2=t::r)\/(t.kind≠0/\(aC l).2=r)):=by
 cases l with
 | nil=>exact h.elim
 | cons t r=>
   by_cases h0:t.kind=0
   · rw [Nl h0]
     exact ⟨h,t,r,rfl,rfl,.inl ⟨h0,rfl⟩⟩
   · rw [Nn h0]
     cases r with
     | nil=>exact absurd h h0
     | cons u r=>exact ⟨h.2,t,_,rfl,rfl,.inr ⟨h0,rfl⟩⟩
theorem bd {a b:List Int} (ha: ∀x∈a,0<=x/\x<256) (hb: ∀x∈b,0<=x/\x<256):(az a).toList=(az b).toList↔a=b:=by
 have h:=kB (az a) (az b)
 rw [aT ha,aT hb,Bool.eq_iff_iff,beq_iff_eq,beq_iff_eq] at h
 exact h
set_option maxHeartbeats 2000000 in
theorem H5 (k:List C3.Tok) (i:Nat) (hk:bb (k.drop i)) (hl:k.length<1000000) (x:PS) (K:Out->List af->Prop)
 (h: ∀i',k.drop i'=(aC (k.drop i)).2->K (.ret (my (aC (k.drop i)).1)) (xO false false false k i' x)):ah Tryz.prog 79 [.ptr 0 0] (xO false false false k i x) K:=by
 obtain ⟨_,t,r,hd,e1,e2⟩:=bw hk
 rw [e1] at h
 have cV:i<k.length:=by
  have:=congrArg List.length hd
  rw [List.length_drop,List.length_cons] at this;omega
 have aD:(kL k)[((i:Nat):Int).toNat]? =some (my t):=by
  have:k[i]? =some t:=by
   have:=congrArg (fun l=>l[0]?) hd
   simpa using this
  rw [Int.toNat_natCast];simp [kL,this]
 have wi:IntKind.i64.wrap ((i:Int)+1)=((i+1:Nat):Int):=by rw [wrap64 (by omega) (by omega)];omega
 unfold xO at h ⊢
 refine ag [] 5 Tryz.func79 (by rfl) (by rfl) ?_
 conv=>whnf
 (repeat' first | (refine aa [] ?_;conv=>whnf) | (refine two ?_ ?_<;>intro g<;>(try simp only[an]at g)<;>(conv=>whnf)) | (refine And.intro rfl ?_;conv=>whnf) | (refine ak (by decide+kernel) ?_;conv=>whnf) | (refine ⟨by omega,_,aD,rfl,?_⟩;conv=>whnf) | fail)
 · rcases e2 with ⟨e2,e3⟩ | ⟨e2,e3⟩
   · exact absurd e2 g
   · rw [wi]
     exact h (i+1) (by rw [e3, ←List.drop_drop,hd];rfl)
 · rcases e2 with ⟨e2,e3⟩ | ⟨e2,e3⟩
   · exact h i (by rw [e3,hd])
   · exact absurd g e2
def oD (k:List C3.Tok):Prop:=k.length<1000000/\ ∀t∈k,(∀x∈t.text,0<=x/\x<256)/\t.text.length<1000000
theorem fK {k:List C3.Tok} {i:Nat} (hk:bb (k.drop i)):(aC (k.drop i)).1∈k:=by
 obtain ⟨_,t,r,hd,e1,_⟩:=bw hk
 rw [e1]
 exact List.mem_of_mem_drop (by rw [hd];simp)
set_option maxHeartbeats 2000000 in
theorem mE (k:List C3.Tok) (i:Nat) (hk:bb (k.drop i)) (hl:oD k) (x:PS) (kd:Int) (w:List Int) (hw: ∀x∈w,0<=x/\x<256) (K:Out->List af->Prop)
 (h0: ∀t r i',aF kd w (k.drop i)= .ok t r->k.drop i'=r->bb r->t∈k->K (.ret (my t)) (xO false false false k i' x)) (h1: ∀p e i',aF kd w (k.drop i)= .err p e->K (.dw (gd p e)) (xO false false false k i' x)):
 ah Tryz.prog 41 [.ptr 0 0,.int .i64 kd,.str (az w)] (xO false false false k i x) K:=by
 have hn:=bw hk
 have hm:=fK hk
 obtain ⟨t,ht⟩: ∃t,(aC (k.drop i)).1=t:=⟨_,rfl⟩
 have hb:=hl.2 t (by rw [←ht];exact hm)
 have eZ:t.kind=kd/\(w=[]\/t.text=w)-> ∀i',k.drop i'=(aC (k.drop i)).2->K (.ret (my t)) (xO false false false k i' x):=fun hh i' hi=>h0 t _ i' (by unfold aF;rw [ht,if_pos hh]) hi hn.1 (by rw [←ht];exact hm)
 have dN: ¬(t.kind=kd/\(w=[]\/t.text=w))-> ∀i',K (.dw (gd t.at_ 7)) (xO false false false k i' x):=fun hh i'=>h1 _ _ i' (by unfold aF;rw [ht,if_neg hh])
 clear h0 h1
 have JH:= @H5 k i hk hl.1 x
 rw [ht] at JH
 unfold xO at eZ dN JH ⊢
 refine ag [] 5 Tryz.func41 (by rfl) (by rfl) ?_
 conv=>whnf
 have R9:(az t.text).toList=(az w).toList↔t.text=w:=bd hb.1 hw
 have R_:(az w).toList=(⟨#[]⟩:ByteArray).toList↔w=[]:=bd (b:=[]) hw (by simp)
 (repeat' first | (refine aa [] ?_;conv=>whnf) | (refine two ?_ ?_<;>intro g<;>(try simp only[an]at g)<;>(conv=>whnf)) | (refine And.intro rfl ?_;conv=>whnf) | fail)
 refine JH _ fun i' hi=> ?_
 conv=>whnf
 (repeat' first | (refine aa [] ?_;conv=>whnf) | (refine two ?_ ?_<;>intro g<;>(try simp only[an,R9,R_]at g)<;>(conv=>whnf)) | (refine And.intro rfl ?_;conv=>whnf) | (refine ie t _ ?_;conv=>whnf) | fail)
 · exact dN (fun hh=>g hh.1) i'
 · exact dN (fun hh=>by rcases hh.2 with e | e<;>contradiction) i'
 · exact eZ ⟨by assumption,.inr g⟩ i' hi
 · exact eZ ⟨by assumption,.inl g⟩ i' hi
def eX (l:List (List Int)):Prop:= ∀w∈l, ∀x∈w,0<=x/\x<256
set_option maxHeartbeats 2000000 in
theorem rT (k:List C3.Tok) (i:Nat) (hk:bb (k.drop i)) (hl:oD k) (x:PS) (ws:List (List Int)) (Sa:eX ws) (hn:ws.length<1000) (K:Out->List af->Prop)
 (h0: ∀n r i',bJ ws (k.drop i)= .ok n r->k.drop i'=r->bb r->K (.ret (.int .i64 n)) (xO false false false k i' x)) (h1: ∀p e i',bJ ws (k.drop i)= .err p e->K (.dw (gd p e)) (xO false false false k i' x)):
 ah Tryz.prog 122 [.ptr 0 0,.sl (sL ws) .no] (xO false false false k i x) K:=by
 have hw:= @mE k i hk hl x 1 [] (by simp)
 have nC:(sL ws).length=ws.length:=by simp [sL]
 unfold xO at h0 h1 hw ⊢
 refine ag [] 5 Tryz.func122 (by rfl) (by rfl) ?_
 conv=>whnf
 (repeat' first | (refine aa [] ?_;conv=>whnf) | (refine two ?_ ?_<;>intro g<;>(try simp only[an]at g)<;>(conv=>whnf)) | (refine And.intro rfl ?_;conv=>whnf) | fail)
 refine hw _ (fun t r i' e hd he hm=> ?_) (fun p e i' he=> ?_)
 rotate_left
 · conv=>whnf
   (repeat' first | (refine aa [] ?_;conv=>whnf) | (refine two ?_ ?_<;>intro g<;>(try simp only[an]at g)<;>(conv=>whnf)) | (refine And.intro rfl ?_;conv=>whnf) | fail)
   exact h1 p e i' (by unfold bJ;rw [he];rfl)
 have hb:=hl.2 t hm
 have eZ:t.text∈ws->bJ ws (k.drop i)= .ok (ws.idxOf t.text+1:Nat) r:=fun hh=>by unfold bJ;rw [e];show (if _ then _ else _)=_;rw [if_pos hh]
 have dN:t.text ∉ ws->bJ ws (k.drop i)= .err t.at_ 7:=fun hh=>by unfold bJ;rw [e];show (if _ then _ else _)=_;rw [if_neg hh]
 conv=>whnf
 (repeat' first | (refine aa [] ?_;conv=>whnf) | (refine two ?_ ?_<;>intro g<;>(try simp only[an]at g)<;>(conv=>whnf)) | (refine And.intro rfl ?_;conv=>whnf) | fail)
 let S:Nat->St:=fun j=>⟨(.ptr 0 0:: .sl (sL ws) .no:: .undef:: .undef:: .int .i64 0:: .ptr 5 0:: .undef:: .undef:: .undef:: .undef:: .sl (sL ws) .no:: .int .i64 (ws.length:Nat):: .int .i64 (j:Nat):: .undef:: .undef:: .undef:: .undef:: .undef:: .undef:: .undef:: .undef:: .undef:: .undef:: .undef:: .undef:: .undef::[]),xO false false false k i' x++[.cells true 57 [.int .i64 t.kind,.int .i64 t.at_,.str (az t.text)]],0,[]⟩
 refine aA.enter (s':=S 0) (ae ?_ (.cons (.eq rfl) (.cons (.eq rfl) (.cons (.eq rfl) (.cons (.eq rfl) (.cons (.eq rfl) (.cons (.eq rfl) .nil)))))) rfl rfl rfl)
  (aA.dC S (fun j=>ws.length - j) (fun j=>j<=ws.length/\t.text ∉ ws.take j) ?_ 0 ⟨by omega,by simp⟩)
 · repeat' first
    | exact aq.nil
    | refine aq.cons VW.undef ?_
    | refine aq.cons (VW.eq rfl) ?_
    | refine aq.cons (VW.eq (by rw [nC])) ?_
 rintro j ⟨hj,hinv⟩ ih
 refine ai [] ?_;conv=>whnf
 (repeat' first | (refine aa [] ?_;conv=>whnf) | (refine two ?_ ?_<;>intro g<;>(try simp only[an]at g)<;>(conv=>whnf)) | (refine And.intro rfl ?_;conv=>whnf) | fail)
 · have eO:j<ws.length:=by omega
   have aD:(sL ws)[((j:Nat):Int).toNat]? =some (.str (az ws[j])):=by rw [Int.toNat_natCast];simp [sL,List.getElem?_eq_getElem eO]
   have dB:ws[j]∈ws:=List.getElem_mem _
   have Lm:ws.drop j=ws[j]::ws.drop (j+1):=List.drop_eq_getElem_cons eO
   obtain ⟨w,p7⟩: ∃w,ws[j]=w:=⟨_,rfl⟩
   have kW:ws.take (j+1)=ws.take j++[w]:=by rw [List.take_succ_eq_append_getElem eO,p7]
   rw [p7] at aD dB Lm
   have wj:IntKind.i64.wrap ((j:Int)+1)=((j+1:Nat):Int):=by rw [wrap64 (by omega) (by omega)];omega
   have R9:(az w).toList=(az t.text).toList↔w=t.text:=bd (Sa w dB) hb.1
   refine ⟨by omega,_,aD,rfl,?_⟩
   conv=>whnf
   (repeat' first | (refine aa [] ?_;conv=>whnf) | (refine two ?_ ?_<;>intro g<;>(try simp only[an,R9]at g)<;>(conv=>whnf)) | (refine And.intro rfl ?_;conv=>whnf) | fail)
   · refine ⟨_,aB.refl,?_⟩;conv=>whnf
     (repeat' first | (refine aa [] ?_;conv=>whnf) | (refine two ?_ ?_<;>intro g<;>(try simp only[an]at g)<;>(conv=>whnf)) | (refine And.intro rfl ?_;conv=>whnf) | fail)
     rw [wj]
     have qf:ws.idxOf t.text=j:=by
      conv=>lhs;rw [←List.take_append_drop j ws,Lm,g]
      rw [List.idxOf_append,if_neg hinv,List.idxOf_cons_self,List.length_take];omega
     have zW:t.text∈ws:=by rw [←g];exact dB
     have hh:=eZ zW
     rw [qf] at hh
     exact h0 _ r i' hh hd he
   · exact ⟨S (j+1),ae (by rw [wj];(repeat' first | exact aq.nil | refine aq.cons VW.undef ?_ | refine aq.cons (VW.eq rfl) ?_)) (.cons (.eq rfl) (.cons (.eq rfl) (.cons (.eq rfl) (.cons (.eq rfl) (.cons (.eq rfl) (.cons (.eq rfl) .nil)))))) rfl rfl rfl,ih (j+1) ⟨by omega,by rw [kW];simp only [List.mem_append,List.mem_singleton,not_or];exact ⟨hinv,fun e=>g e.symm⟩⟩ (by omega)⟩
 · have eO:j=ws.length:=by omega
   subst eO
   rw [List.take_length] at hinv
   refine ⟨_,aB.refl,?_⟩;conv=>whnf
   (repeat' first | (refine aa [] ?_;conv=>whnf) | (refine two ?_ ?_<;>intro g<;>(try simp only[an]at g)<;>(conv=>whnf)) | (refine And.intro rfl ?_;conv=>whnf) | (refine ie t _ ?_;conv=>whnf) | fail)
   exact h1 _ _ i' (dN hinv)
end oY
namespace Jq
open Go Go.Proofs VL D1 eG kb kj jt c5 dj C1 C2 C3 C4 C6 oO pQ oY
set_option maxHeartbeats 2000000 in
theorem vJ (k:List C3.Tok) (i:Nat) (hk:bb (k.drop i)) (hl:oD k) (x:PS) (f:FuncId) (sp:List Int->Int × Int)
 (hf: ∀(s:ByteArray) (K:Out->List af->Prop),s.size<1000000->K (.ret (.aQ [.int .i64 (sp (sB s)).1,.int .i64 (sp (sB s)).2])) []->ah Tryz.prog f [.str s] [] K) (K:Out->List af->Prop)
 (h0: ∀n r i',aL sp (k.drop i)= .ok n r->k.drop i'=r->bb r->K (.ret (.int .i64 n)) (xO false false false k i' x)) (h1: ∀p e i',aL sp (k.drop i)= .err p e->K (.dw (gd p e)) (xO false false false k i' x)):
 ah Tryz.prog 124 [.ptr 0 0,.fn (.func f) [] []] (xO false false false k i x) K:=by
 have hw:= @mE k i hk hl x 2 [] (by simp)
 unfold xO at h0 h1 hw ⊢
 refine ag [] 5 Tryz.func124 (by rfl) (by rfl) ?_
 conv=>whnf
 (repeat' first | (refine aa [] ?_;conv=>whnf) | (refine two ?_ ?_<;>intro g<;>(try simp only[an]at g)<;>(conv=>whnf)) | (refine And.intro rfl ?_;conv=>whnf) | fail)
 refine hw _ (fun t r i' e hd he hm=> ?_) (fun p e i' he=> ?_)
 rotate_left
 · conv=>whnf
   (repeat' first | (refine aa [] ?_;conv=>whnf) | (refine two ?_ ?_<;>intro g<;>(try simp only[an]at g)<;>(conv=>whnf)) | (refine And.intro rfl ?_;conv=>whnf) | fail)
   exact h1 p e i' (by unfold aL;rw [he];rfl)
 have hb:=hl.2 t hm
 have eZ:(sp t.text).2=0->aL sp (k.drop i)= .ok (sp t.text).1 r:=fun hh=>by unfold aL;rw [e];show (if _ then _ else _)=_;rw [if_pos hh]
 have dN: ¬(sp t.text).2=0->aL sp (k.drop i)= .err t.at_ 7:=fun hh=>by unfold aL;rw [e];show (if _ then _ else _)=_;rw [if_neg hh]
 conv=>whnf
 (repeat' first | (refine aa [] ?_;conv=>whnf) | (refine two ?_ ?_<;>intro g<;>(try simp only[an]at g)<;>(conv=>whnf)) | (refine And.intro rfl ?_;conv=>whnf) | fail)
 refine hf (az t.text) _ (by rw [bO];exact hb.2) ?_
 rw [aT hb.1]
 conv=>whnf
 (repeat' first | (refine aa [] ?_;conv=>whnf) | (refine two ?_ ?_<;>intro g<;>(try simp only[an]at g)<;>(conv=>whnf)) | (refine And.intro rfl ?_;conv=>whnf) | (refine ie t _ ?_;conv=>whnf) | fail)
 · exact h1 _ _ i' (dN g)
 · exact h0 _ r i' (eZ g) hd he
set_option maxHeartbeats 2000000 in
theorem PD (k:List C3.Tok) (i:Nat) (hk:bb (k.drop i)) (hl:oD k) (x:PS) (f:FuncId) (sp:List Int->Int × Int)
 (hf: ∀(s:ByteArray) (K:Out->List af->Prop),s.size<1000000->K (.ret (.aQ [.int .i64 (sp (sB s)).1,.int .i64 (sp (sB s)).2])) []->ah Tryz.prog f [.str s] [] K) (K:Out->List af->Prop)
 (h0: ∀n r i',aL sp (k.drop i)= .ok n r->k.drop i'=r->bb r->K (.ret (.int .i64 n)) (xO false false false k i' x)) (h1: ∀p e i',aL sp (k.drop i)= .err p e->K (.dw (gd p e)) (xO false false false k i' x)):
 ah Tryz.prog 127 [.ptr 0 0,.fn (.func f) [] []] (xO false false false k i x) K:=by
 have hw:= @mE k i hk hl x 2 [] (by simp)
 unfold xO at h0 h1 hw ⊢
 refine ag [] 5 Tryz.func127 (by rfl) (by rfl) ?_
 conv=>whnf
 (repeat' first | (refine aa [] ?_;conv=>whnf) | (refine two ?_ ?_<;>intro g<;>(try simp only[an]at g)<;>(conv=>whnf)) | (refine And.intro rfl ?_;conv=>whnf) | fail)
 refine hw _ (fun t r i' e hd he hm=> ?_) (fun p e i' he=> ?_)
 rotate_left
 · conv=>whnf
   (repeat' first | (refine aa [] ?_;conv=>whnf) | (refine two ?_ ?_<;>intro g<;>(try simp only[an]at g)<;>(conv=>whnf)) | (refine And.intro rfl ?_;conv=>whnf) | fail)
   exact h1 p e i' (by unfold aL;rw [he];rfl)
 have hb:=hl.2 t hm
 have eZ:(sp t.text).2=0->aL sp (k.drop i)= .ok (sp t.text).1 r:=fun hh=>by unfold aL;rw [e];show (if _ then _ else _)=_;rw [if_pos hh]
 have dN: ¬(sp t.text).2=0->aL sp (k.drop i)= .err t.at_ 7:=fun hh=>by unfold aL;rw [e];show (if _ then _ else _)=_;rw [if_neg hh]
 conv=>whnf
 (repeat' first | (refine aa [] ?_;conv=>whnf) | (refine two ?_ ?_<;>intro g<;>(try simp only[an]at g)<;>(conv=>whnf)) | (refine And.intro rfl ?_;conv=>whnf) | fail)
 refine hf (az t.text) _ (by rw [bO];exact hb.2) ?_
 rw [aT hb.1]
 conv=>whnf
 (repeat' first | (refine aa [] ?_;conv=>whnf) | (refine two ?_ ?_<;>intro g<;>(try simp only[an]at g)<;>(conv=>whnf)) | (refine And.intro rfl ?_;conv=>whnf) | (refine ie t _ ?_;conv=>whnf) | fail)
 · exact h1 _ _ i' (dN g)
 · exact h0 _ r i' (eZ g) hd he
set_option maxHeartbeats 4000000 in
theorem gq (k:List C3.Tok) (i:Nat) (hk:bb (k.drop i)) (hl:oD k) (x:PS) (K:Out->List af->Prop)
 (h0: ∀n r i',bg (k.drop i)= .ok n r->k.drop i'=r->bb r->K (.ret (.int .i64 n)) (xO false false false k i' x)) (h1: ∀p e i',bg (k.drop i)= .err p e->K (.dw (gd p e)) (xO false false false k i' x)):
 ah Tryz.prog 123 [.ptr 0 0] (xO false false false k i x) K:=by
 have hw:= @mE k i hk hl x 2 [] (by simp)
 unfold xO at h0 h1 hw ⊢
 refine ag [] 5 Tryz.func123 (by rfl) (by rfl) ?_
 conv=>whnf
 (repeat' first | (refine aa [] ?_;conv=>whnf) | (refine two ?_ ?_<;>intro g<;>(try simp only[an]at g)<;>(conv=>whnf)) | (refine And.intro rfl ?_;conv=>whnf) | fail)
 refine hw _ (fun t r i' e hd he hm=> ?_) (fun p e i' he=> ?_)
 rotate_left
 · conv=>whnf
   (repeat' first | (refine aa [] ?_;conv=>whnf) | (refine two ?_ ?_<;>intro g<;>(try simp only[an]at g)<;>(conv=>whnf)) | (refine And.intro rfl ?_;conv=>whnf) | fail)
   exact h1 p e i' (by unfold bg;rw [he];rfl)
 obtain ⟨tk,ta,l⟩:=t
 have hb:(∀x∈l,0<=x/\x<256)/\l.length<1000000:=hl.2 _ hm
 have My:=aT hb.1
 have cg:=bO l
 have eZ:((∀x∈l,cw x)/\l.length<=9/\(2<=l.length->l.head?≠some 48))->bg (k.drop i)= .ok (vl l) r:=fun hh=>by unfold bg;rw [e];show (match pH l with | some n=>_ | none=>_)=_;unfold pH;rw [if_pos hh]
 have dN: ¬((∀x∈l,cw x)/\l.length<=9/\(2<=l.length->l.head?≠some 48))->bg (k.drop i)= .err ta 7:=fun hh=>by unfold bg;rw [e];show (match pH l with | some n=>_ | none=>_)=_;unfold pH;rw [if_neg hh]
 conv=>whnf
 (repeat' first | (refine aa [] ?_;conv=>whnf) | (refine two ?_ ?_<;>intro g<;>(try simp only[an]at g)<;>(conv=>whnf)) | (refine And.intro rfl ?_;conv=>whnf) | fail)
 rw [ou,My]
 let S:Nat->St:=fun j=>⟨(.ptr 0 0:: .undef:: .int .i64 0:: .ptr 5 0:: .int .i64 (vl (l.take j):Nat):: .undef:: .undef:: .undef:: .undef:: .undef:: .undef:: .sl (bL l) .no:: .int .i64 (l.length:Nat):: .int .i64 (j:Nat):: .undef:: .undef:: .undef:: .undef:: .undef:: .undef:: .undef:: .undef:: .undef:: .undef:: .undef:: .undef:: .undef:: .undef:: .undef:: .undef:: .undef:: .undef:: .undef:: .undef:: .undef:: .undef:: .undef:: .undef:: .undef:: .undef:: .undef:: .undef:: .undef:: .undef:: .undef:: .undef:: .undef:: .undef:: .undef:: .undef:: .undef::[]),xO false false false k i' x++[.cells true 57 [.int .i64 tk,.int .i64 ta,.str (az l)]],0,[]⟩
 refine aA.enter (s':=S 0) (ae ?_ (.cons (.eq rfl) (.cons (.eq rfl) (.cons (.eq rfl) (.cons (.eq rfl) (.cons (.eq rfl) (.cons (.eq rfl) .nil)))))) rfl rfl rfl)
  (aA.dC S (fun j=>l.length - j) (fun j=>j<=l.length/\(∀x∈l.take j,cw x)/\(0<j->l.length<=9/\(2<=l.length->l.head?≠some 48))) ?_ 0 ⟨by omega,by simp,fun h=>absurd h (by omega)⟩)
 · repeat' first
    | exact aq.nil
    | refine aq.cons VW.undef ?_
    | refine aq.cons (VW.eq rfl) ?_
    | refine aq.cons VW.no ?_
    | refine aq.cons (VW.eq (by rw [yB])) ?_
 rintro j ⟨hj,hinv,LX⟩ ih
 refine ai [] ?_;conv=>whnf
 (repeat' first | (refine aa [] ?_;conv=>whnf) | (refine two ?_ ?_<;>intro g<;>(try simp only[an]at g)<;>(conv=>whnf)) | (refine And.intro rfl ?_;conv=>whnf) | fail)
 · have eO:j<l.length:=by omega
   have hx:l[j]? =some l[j]:=List.getElem?_eq_getElem eO
   have dB:l[j]∈l:=List.getElem_mem _
   obtain ⟨y,HW⟩: ∃y,l[j]=y:=⟨_,rfl⟩
   have kW:l.take (j+1)=l.take j++[y]:=by rw [List.take_succ_eq_append_getElem eO,HW]
   rw [HW] at hx dB
   have aD:(bL l)[((j:Nat):Int).toNat]? =some (.int .u8 y):=by rw [Int.toNat_natCast,yC,hx];rfl
   have wj:IntKind.i64.wrap ((j:Int)+1)=((j+1:Nat):Int):=by rw [wrap64 (by omega) (by omega)];omega
   obtain ⟨z,hz⟩: ∃z,l.head?=some z:=by cases l with
    | nil=>simp at eO
    | cons z _=>exact ⟨z,rfl⟩
   have Rl:l[0]? =some z:=by rw [←List.head?_eq_getElem?];exact hz
   have Ky:=mY (l.take j) hinv
   have iI: ¬(cw y/\l.length<=9/\(2<=l.length->z≠48))->bg (k.drop i)= .err ta 7:=fun hh=>dN fun ⟨a,b,c⟩=>hh ⟨a y dB,b,fun h2 e=>c h2 (by rw [hz,e])⟩
   unfold cw at iI
   refine ⟨by omega,_,aD,rfl,?_⟩
   conv=>whnf
   (repeat' first | (refine aa [] ?_;conv=>whnf) | (refine two ?_ ?_<;>intro g<;>(try simp only[an,cg]at g)<;>(conv=>whnf)) | (refine And.intro rfl ?_;conv=>whnf) | (refine ie ⟨tk,ta,l⟩ _ ?_;conv=>whnf) | (refine aU (x:=z) (by decide) (by rw [My];exact Rl) fun b hb=> ?_;(conv=>whnf);(repeat (refine aa [] ?_;conv=>whnf));rw [hb];clear hb b) | fail)
   all_goals first
    | exact h1 _ _ i' (iI (by omega))
    | (have hp:10^(l.take j).length<=10^9:=Nat.pow_le_pow_right (by omega) (by simp;omega)
       have wn:IntKind.i64.wrap (IntKind.i64.wrap (10*((vl (l.take j):Nat):Int))+IntKind.i64.wrap (IntKind.u8.wrap (y - 48)))=(vl (l.take (j+1)):Nat):=by
        rw [show IntKind.u8.wrap (y - 48)=y - 48 by rw [IntKind.wrap_u8];omega,wrap64 (x:=y - 48) (by omega) (by omega),wrap64 (x:=10*((vl (l.take j):Nat):Int)) (by omega) (by omega),wrap64 (by omega) (by omega),kW,cX];omega
       exact ⟨S (j+1),ae (by rw [wj,wn];(repeat' first | exact aq.nil | refine aq.cons VW.undef ?_ | refine aq.cons (VW.eq rfl) ?_)) (.cons (.eq rfl) (.cons (.eq rfl) (.cons (.eq rfl) (.cons (.eq rfl) (.cons (.eq rfl) (.cons (.eq rfl) .nil)))))) rfl rfl rfl,ih (j+1) ⟨by omega,fun v hv=>by
        rw [kW] at hv
        rcases List.mem_append.1 hv with hv | hv
        · exact hinv v hv
        · rw [List.mem_singleton.1 hv];unfold cw;omega,fun _=>⟨by omega,fun h2=>by rw [hz];intro e;cases e;omega⟩⟩ (by omega)⟩)
 · have eO:j=l.length:=by omega
   subst eO
   rw [List.take_length] at hinv
   refine ⟨_,aB.refl,?_⟩;conv=>whnf
   rw [List.take_length]
   (repeat' first | (refine aa [] ?_;conv=>whnf) | (refine two ?_ ?_<;>intro g<;>(try simp only[an]at g)<;>(conv=>whnf)) | (refine And.intro rfl ?_;conv=>whnf) | fail)
   refine h0 _ r i' (eZ ⟨hinv,?_,?_⟩) hd he
   · rcases Nat.eq_zero_or_pos l.length with h | h
     · omega
     · exact (LX h).1
   · intro h2;exact (LX (by omega)).2 h2
end Jq
namespace N'
open Go Go.Proofs VL D1 eG kb kj jt c5 dj C1 C2 C3 C4 C6 oO pQ oY Jq
set_option maxHeartbeats 2000000 in
theorem CN (k:List C3.Tok) (i:Nat) (hk:bb (k.drop i)) (hl:oD k) (x:PS) (K:Out->List af->Prop)
 (h0: ∀n r i',bJ [gz,jd,gA] (k.drop i)= .ok n r->k.drop i'=r->bb r->K (.ret (.aQ [])) (xO false false false k i' {x with p:= {x.p with count:=n}})) (h1: ∀p e i',bJ [gz,jd,gA] (k.drop i)= .err p e->K (.dw (gd p e)) (xO false false false k i' x)):
 ah Tryz.prog 98 [.ptr 0 0] (xO false false false k i x) K:=by
 have hw:= @rT k i hk hl x [gz,jd,gA] (by unfold eX;decide) (by decide)
 unfold xO at h0 h1 hw ⊢
 refine ag [] 5 Tryz.func98 (by rfl) (by rfl) ?_
 conv=>whnf
 (repeat' first | (refine aa [] ?_;conv=>whnf) | (refine two ?_ ?_<;>intro g<;>(try simp only[an]at g)<;>(conv=>whnf)) | (refine And.intro rfl ?_;conv=>whnf) | fail)
 refine ah.args (cI:=[.ptr 0 0,.sl (sL [gz,jd,gA]) .no]) (.cons (.eq rfl) (.cons .no .nil)) rfl (hw _ (fun n r i' e hd he=> ?_) (fun p e i' he=> ?_))
 · conv=>whnf
   (repeat' first | (refine aa [] ?_;conv=>whnf) | (refine two ?_ ?_<;>intro g<;>(try simp only[an]at g)<;>(conv=>whnf)) | (refine And.intro rfl ?_;conv=>whnf) | fail)
   exact h0 n r i' e hd he
 · conv=>whnf
   (repeat' first | (refine aa [] ?_;conv=>whnf) | (refine two ?_ ?_<;>intro g<;>(try simp only[an]at g)<;>(conv=>whnf)) | (refine And.intro rfl ?_;conv=>whnf) | fail)
   exact h1 p e i' he
set_option maxHeartbeats 2000000 in
theorem Fv (k:List C3.Tok) (i:Nat) (hk:bb (k.drop i)) (hl:oD k) (x:PS) (K:Out->List af->Prop)
 (h0: ∀n r i',bJ [fr,je,gB] (k.drop i)= .ok n r->k.drop i'=r->bb r->K (.ret (.aQ [])) (xO false false false k i' {x with p:= {x.p with kind:=n}})) (h1: ∀p e i',bJ [fr,je,gB] (k.drop i)= .err p e->K (.dw (gd p e)) (xO false false false k i' x)):
 ah Tryz.prog 100 [.ptr 0 0] (xO false false false k i x) K:=by
 have hw:= @rT k i hk hl x [fr,je,gB] (by unfold eX;decide) (by decide)
 unfold xO at h0 h1 hw ⊢
 refine ag [] 5 Tryz.func100 (by rfl) (by rfl) ?_
 conv=>whnf
 (repeat' first | (refine aa [] ?_;conv=>whnf) | (refine two ?_ ?_<;>intro g<;>(try simp only[an]at g)<;>(conv=>whnf)) | (refine And.intro rfl ?_;conv=>whnf) | fail)
 refine ah.args (cI:=[.ptr 0 0,.sl (sL [fr,je,gB]) .no]) (.cons (.eq rfl) (.cons .no .nil)) rfl (hw _ (fun n r i' e hd he=> ?_) (fun p e i' he=> ?_))
 · conv=>whnf
   (repeat' first | (refine aa [] ?_;conv=>whnf) | (refine two ?_ ?_<;>intro g<;>(try simp only[an]at g)<;>(conv=>whnf)) | (refine And.intro rfl ?_;conv=>whnf) | fail)
   exact h0 n r i' e hd he
 · conv=>whnf
   (repeat' first | (refine aa [] ?_;conv=>whnf) | (refine two ?_ ?_<;>intro g<;>(try simp only[an]at g)<;>(conv=>whnf)) | (refine And.intro rfl ?_;conv=>whnf) | fail)
   exact h1 p e i' he
set_option maxHeartbeats 2000000 in
theorem Fw (k:List C3.Tok) (i:Nat) (hk:bb (k.drop i)) (hl:oD k) (x:PS) (K:Out->List af->Prop)
 (h0: ∀n r i',bJ [mB,gC,gD] (k.drop i)= .ok n r->k.drop i'=r->bb r->K (.ret (.aQ [])) (xO false false false k i' {x with p:= {x.p with over:=n}})) (h1: ∀p e i',bJ [mB,gC,gD] (k.drop i)= .err p e->K (.dw (gd p e)) (xO false false false k i' x)):
 ah Tryz.prog 111 [.ptr 0 0] (xO false false false k i x) K:=by
 have hw:= @rT k i hk hl x [mB,gC,gD] (by unfold eX;decide) (by decide)
 unfold xO at h0 h1 hw ⊢
 refine ag [] 5 Tryz.func111 (by rfl) (by rfl) ?_
 conv=>whnf
 (repeat' first | (refine aa [] ?_;conv=>whnf) | (refine two ?_ ?_<;>intro g<;>(try simp only[an]at g)<;>(conv=>whnf)) | (refine And.intro rfl ?_;conv=>whnf) | fail)
 refine ah.args (cI:=[.ptr 0 0,.sl (sL [mB,gC,gD]) .no]) (.cons (.eq rfl) (.cons .no .nil)) rfl (hw _ (fun n r i' e hd he=> ?_) (fun p e i' he=> ?_))
 · conv=>whnf
   (repeat' first | (refine aa [] ?_;conv=>whnf) | (refine two ?_ ?_<;>intro g<;>(try simp only[an]at g)<;>(conv=>whnf)) | (refine And.intro rfl ?_;conv=>whnf) | fail)
   exact h0 n r i' e hd he
 · conv=>whnf
   (repeat' first | (refine aa [] ?_;conv=>whnf) | (refine two ?_ ?_<;>intro g<;>(try simp only[an]at g)<;>(conv=>whnf)) | (refine And.intro rfl ?_;conv=>whnf) | fail)
   exact h1 p e i' he
set_option maxHeartbeats 2000000 in
theorem Fx (k:List C3.Tok) (i:Nat) (hk:bb (k.drop i)) (hl:oD k) (x:PS) (K:Out->List af->Prop)
 (h0: ∀n r i',bJ [mC,mD,gE,eD] (k.drop i)= .ok n r->k.drop i'=r->bb r->K (.ret (.aQ [])) (xO false false false k i' {x with p:= {x.p with roll:=n}})) (h1: ∀p e i',bJ [mC,mD,gE,eD] (k.drop i)= .err p e->K (.dw (gd p e)) (xO false false false k i' x)):
 ah Tryz.prog 112 [.ptr 0 0] (xO false false false k i x) K:=by
 have hw:= @rT k i hk hl x [mC,mD,gE,eD] (by unfold eX;decide) (by decide)
 unfold xO at h0 h1 hw ⊢
 refine ag [] 5 Tryz.func112 (by rfl) (by rfl) ?_
 conv=>whnf
 (repeat' first | (refine aa [] ?_;conv=>whnf) | (refine two ?_ ?_<;>intro g<;>(try simp only[an]at g)<;>(conv=>whnf)) | (refine And.intro rfl ?_;conv=>whnf) | fail)
 refine ah.args (cI:=[.ptr 0 0,.sl (sL [mC,mD,gE,eD]) .no]) (.cons (.eq rfl) (.cons .no .nil)) rfl (hw _ (fun n r i' e hd he=> ?_) (fun p e i' he=> ?_))
 · conv=>whnf
   (repeat' first | (refine aa [] ?_;conv=>whnf) | (refine two ?_ ?_<;>intro g<;>(try simp only[an]at g)<;>(conv=>whnf)) | (refine And.intro rfl ?_;conv=>whnf) | fail)
   exact h0 n r i' e hd he
 · conv=>whnf
   (repeat' first | (refine aa [] ?_;conv=>whnf) | (refine two ?_ ?_<;>intro g<;>(try simp only[an]at g)<;>(conv=>whnf)) | (refine And.intro rfl ?_;conv=>whnf) | fail)
   exact h1 p e i' he
set_option maxHeartbeats 2000000 in
theorem CO (k:List C3.Tok) (i:Nat) (hk:bb (k.drop i)) (hl:oD k) (x:PS) (K:Out->List af->Prop)
 (h0: ∀n r i',bg (k.drop i)= .ok n r->k.drop i'=r->bb r->K (.ret (.aQ [])) (xO false false false k i' {x with p:= {x.p with every:=n}})) (h1: ∀p e i',bg (k.drop i)= .err p e->K (.dw (gd p e)) (xO false false false k i' x)):
 ah Tryz.prog 101 [.ptr 0 0] (xO false false false k i x) K:=by
 have hw:= @gq k i hk hl x
 unfold xO at h0 h1 hw ⊢
 refine ag [] 5 Tryz.func101 (by rfl) (by rfl) ?_
 conv=>whnf
 (repeat' first | (refine aa [] ?_;conv=>whnf) | (refine two ?_ ?_<;>intro g<;>(try simp only[an]at g)<;>(conv=>whnf)) | (refine And.intro rfl ?_;conv=>whnf) | fail)
 refine (hw _ (fun n r i' e hd he=> ?_) (fun p e i' he=> ?_))
 · conv=>whnf
   (repeat' first | (refine aa [] ?_;conv=>whnf) | (refine two ?_ ?_<;>intro g<;>(try simp only[an]at g)<;>(conv=>whnf)) | (refine And.intro rfl ?_;conv=>whnf) | fail)
   exact h0 n r i' e hd he
 · conv=>whnf
   (repeat' first | (refine aa [] ?_;conv=>whnf) | (refine two ?_ ?_<;>intro g<;>(try simp only[an]at g)<;>(conv=>whnf)) | (refine And.intro rfl ?_;conv=>whnf) | fail)
   exact h1 p e i' he
set_option maxHeartbeats 2000000 in
theorem CP (k:List C3.Tok) (i:Nat) (hk:bb (k.drop i)) (hl:oD k) (x:PS) (K:Out->List af->Prop)
 (h0: ∀n r i',bg (k.drop i)= .ok n r->k.drop i'=r->bb r->K (.ret (.aQ [])) (xO false false false k i' {x with p:= {x.p with times:=n}})) (h1: ∀p e i',bg (k.drop i)= .err p e->K (.dw (gd p e)) (xO false false false k i' x)):
 ah Tryz.prog 102 [.ptr 0 0] (xO false false false k i x) K:=by
 have hw:= @gq k i hk hl x
 unfold xO at h0 h1 hw ⊢
 refine ag [] 5 Tryz.func102 (by rfl) (by rfl) ?_
 conv=>whnf
 (repeat' first | (refine aa [] ?_;conv=>whnf) | (refine two ?_ ?_<;>intro g<;>(try simp only[an]at g)<;>(conv=>whnf)) | (refine And.intro rfl ?_;conv=>whnf) | fail)
 refine (hw _ (fun n r i' e hd he=> ?_) (fun p e i' he=> ?_))
 · conv=>whnf
   (repeat' first | (refine aa [] ?_;conv=>whnf) | (refine two ?_ ?_<;>intro g<;>(try simp only[an]at g)<;>(conv=>whnf)) | (refine And.intro rfl ?_;conv=>whnf) | fail)
   exact h0 n r i' e hd he
 · conv=>whnf
   (repeat' first | (refine aa [] ?_;conv=>whnf) | (refine two ?_ ?_<;>intro g<;>(try simp only[an]at g)<;>(conv=>whnf)) | (refine And.intro rfl ?_;conv=>whnf) | fail)
   exact h1 p e i' he
set_option maxHeartbeats 2000000 in
theorem CQ (k:List C3.Tok) (i:Nat) (hk:bb (k.drop i)) (hl:oD k) (x:PS) (K:Out->List af->Prop)
 (h0: ∀n r i',bg (k.drop i)= .ok n r->k.drop i'=r->bb r->K (.ret (.aQ [])) (xO false false false k i' {x with p:= {x.p with b_:=n}})) (h1: ∀p e i',bg (k.drop i)= .err p e->K (.dw (gd p e)) (xO false false false k i' x)):
 ah Tryz.prog 103 [.ptr 0 0] (xO false false false k i x) K:=by
 have hw:= @gq k i hk hl x
 unfold xO at h0 h1 hw ⊢
 refine ag [] 5 Tryz.func103 (by rfl) (by rfl) ?_
 conv=>whnf
 (repeat' first | (refine aa [] ?_;conv=>whnf) | (refine two ?_ ?_<;>intro g<;>(try simp only[an]at g)<;>(conv=>whnf)) | (refine And.intro rfl ?_;conv=>whnf) | fail)
 refine (hw _ (fun n r i' e hd he=> ?_) (fun p e i' he=> ?_))
 · conv=>whnf
   (repeat' first | (refine aa [] ?_;conv=>whnf) | (refine two ?_ ?_<;>intro g<;>(try simp only[an]at g)<;>(conv=>whnf)) | (refine And.intro rfl ?_;conv=>whnf) | fail)
   exact h0 n r i' e hd he
 · conv=>whnf
   (repeat' first | (refine aa [] ?_;conv=>whnf) | (refine two ?_ ?_<;>intro g<;>(try simp only[an]at g)<;>(conv=>whnf)) | (refine And.intro rfl ?_;conv=>whnf) | fail)
   exact h1 p e i' he
set_option maxHeartbeats 2000000 in
theorem Fy (k:List C3.Tok) (i:Nat) (hk:bb (k.drop i)) (hl:oD k) (x:PS) (K:Out->List af->Prop)
 (h0: ∀n r i',aL bH (k.drop i)= .ok n r->k.drop i'=r->bb r->K (.ret (.aQ [])) (xO false false false k i' {x with p:= {x.p with bW:=n}})) (h1: ∀p e i',aL bH (k.drop i)= .err p e->K (.dw (gd p e)) (xO false false false k i' x)):
 ah Tryz.prog 104 [.ptr 0 0] (xO false false false k i x) K:=by
 have hw:= @vJ k i hk hl x 125 bH (fun s K hs h=>yE s hs K h)
 unfold xO at h0 h1 hw ⊢
 refine ag [] 5 Tryz.func104 (by rfl) (by rfl) ?_
 conv=>whnf
 (repeat' first | (refine aa [] ?_;conv=>whnf) | (refine two ?_ ?_<;>intro g<;>(try simp only[an]at g)<;>(conv=>whnf)) | (refine And.intro rfl ?_;conv=>whnf) | fail)
 refine (hw _ (fun n r i' e hd he=> ?_) (fun p e i' he=> ?_))
 · conv=>whnf
   (repeat' first | (refine aa [] ?_;conv=>whnf) | (refine two ?_ ?_<;>intro g<;>(try simp only[an]at g)<;>(conv=>whnf)) | (refine And.intro rfl ?_;conv=>whnf) | fail)
   exact h0 n r i' e hd he
 · conv=>whnf
   (repeat' first | (refine aa [] ?_;conv=>whnf) | (refine two ?_ ?_<;>intro g<;>(try simp only[an]at g)<;>(conv=>whnf)) | (refine And.intro rfl ?_;conv=>whnf) | fail)
   exact h1 p e i' he
set_option maxHeartbeats 2000000 in
theorem H6 (k:List C3.Tok) (i:Nat) (hk:bb (k.drop i)) (hl:oD k) (x:PS) (K:Out->List af->Prop)
 (h0: ∀n r i',aL bH (k.drop i)= .ok n r->k.drop i'=r->bb r->K (.ret (.aQ [])) (xO false false false k i' {x with p:= {x.p with kY:=n}})) (h1: ∀p e i',aL bH (k.drop i)= .err p e->K (.dw (gd p e)) (xO false false false k i' x)):
 ah Tryz.prog 105 [.ptr 0 0] (xO false false false k i x) K:=by
 have hw:= @vJ k i hk hl x 125 bH (fun s K hs h=>yE s hs K h)
 unfold xO at h0 h1 hw ⊢
 refine ag [] 5 Tryz.func105 (by rfl) (by rfl) ?_
 conv=>whnf
 (repeat' first | (refine aa [] ?_;conv=>whnf) | (refine two ?_ ?_<;>intro g<;>(try simp only[an]at g)<;>(conv=>whnf)) | (refine And.intro rfl ?_;conv=>whnf) | fail)
 refine (hw _ (fun n r i' e hd he=> ?_) (fun p e i' he=> ?_))
 · conv=>whnf
   (repeat' first | (refine aa [] ?_;conv=>whnf) | (refine two ?_ ?_<;>intro g<;>(try simp only[an]at g)<;>(conv=>whnf)) | (refine And.intro rfl ?_;conv=>whnf) | fail)
   exact h0 n r i' e hd he
 · conv=>whnf
   (repeat' first | (refine aa [] ?_;conv=>whnf) | (refine two ?_ ?_<;>intro g<;>(try simp only[an]at g)<;>(conv=>whnf)) | (refine And.intro rfl ?_;conv=>whnf) | fail)
   exact h1 p e i' he
set_option maxHeartbeats 2000000 in
theorem H7 (k:List C3.Tok) (i:Nat) (hk:bb (k.drop i)) (hl:oD k) (x:PS) (K:Out->List af->Prop)
 (h0: ∀n r i',aL bT (k.drop i)= .ok n r->k.drop i'=r->bb r->K (.ret (.aQ [])) (xO false false false k i' {x with p:= {x.p with cap:=n}})) (h1: ∀p e i',aL bT (k.drop i)= .err p e->K (.dw (gd p e)) (xO false false false k i' x)):
 ah Tryz.prog 108 [.ptr 0 0] (xO false false false k i x) K:=by
 have hw:= @vJ k i hk hl x 126 bT (fun s K hs h=>DM s hs K h)
 unfold xO at h0 h1 hw ⊢
 refine ag [] 5 Tryz.func108 (by rfl) (by rfl) ?_
 conv=>whnf
 (repeat' first | (refine aa [] ?_;conv=>whnf) | (refine two ?_ ?_<;>intro g<;>(try simp only[an]at g)<;>(conv=>whnf)) | (refine And.intro rfl ?_;conv=>whnf) | fail)
 refine (hw _ (fun n r i' e hd he=> ?_) (fun p e i' he=> ?_))
 · conv=>whnf
   (repeat' first | (refine aa [] ?_;conv=>whnf) | (refine two ?_ ?_<;>intro g<;>(try simp only[an]at g)<;>(conv=>whnf)) | (refine And.intro rfl ?_;conv=>whnf) | fail)
   exact h0 n r i' e hd he
 · conv=>whnf
   (repeat' first | (refine aa [] ?_;conv=>whnf) | (refine two ?_ ?_<;>intro g<;>(try simp only[an]at g)<;>(conv=>whnf)) | (refine And.intro rfl ?_;conv=>whnf) | fail)
   exact h1 p e i' he
end N'
namespace CR
open Go Go.Proofs VL D1 eG kb kj C8 jt c5 dj C1 C2 C3 C4 C6 oO pQ oY Jq
theorem gF {m:Nat} {v:V} {ob:List af} (src:List Nat) {K:V->List af->Prop} (h:St.qm m src ⟨[v],ob,0,[]⟩ fun s'=> ∃v' iZ,aB m s' ⟨[v'],iZ,0,[]⟩/\K v' iZ): ∃v' iZ,aB m ⟨[v],ob,0,[]⟩ ⟨[v'],iZ,0,[]⟩/\K v' iZ:=by
 obtain ⟨s',hw,v',iZ,p7,hk⟩:=fH h
 exact ⟨_,_,hw.trans p7,hk⟩
theorem j6 {z:Nat} {l l':List V} {ty:Option TypeId} (h:l=l'):OW (.buf false z l ty) (.buf true z l' ty):=by subst h;exact .av
theorem eE {ws:List (List Int)} {l:List C3.Tok} {n:Int} {r:List C3.Tok} (h:bJ ws l= .ok n r):1<=n/\n<=ws.length:=by
 unfold bJ iR.bind at h
 split at h
 · simp only at h
   split at h
   · rename_i hm
     injection h with h1 h2
     have:=List.idxOf_lt_length_iff.2 hm
     omega
   · cases h
 · cases h
set_option maxHeartbeats 2000000 in
theorem CS (k:List C3.Tok) (i:Nat) (hk:bb (k.drop i)) (hl:oD k) (x:PS) (K:Out->List af->Prop)
 (h0: ∀n r i',bJ [fq,mA] (k.drop i)= .ok n r->k.drop i'=r->bb r->K (.ret (.aQ [])) (xO false false false k i' {x with p:= {x.p with m3:=if n=1 then 1 else 3}})) (h1: ∀p e i',bJ [fq,mA] (k.drop i)= .err p e->K (.dw (gd p e)) (xO false false false k i' x)):
 ah Tryz.prog 99 [.ptr 0 0] (xO false false false k i x) K:=by
 have hw:= @rT k i hk hl x [fq,mA] (by unfold eX;decide) (by decide)
 unfold xO at h0 h1 hw ⊢
 refine ag [] 5 Tryz.func99 (by rfl) (by rfl) ?_
 conv=>whnf
 (repeat' first | (refine aa [] ?_;conv=>whnf) | (refine two ?_ ?_<;>intro g<;>(try simp only[an]at g)<;>(conv=>whnf)) | (refine And.intro rfl ?_;conv=>whnf) | fail)
 refine ah.args (cI:=[.ptr 0 0,.sl (sL [fq,mA]) .no]) (.cons (.eq rfl) (.cons .no .nil)) rfl (hw _ (fun n r i' e hd he=> ?_) (fun p e i' he=> ?_))
 · have hr:=eE e
   have hn:n=1\/n=2:=by simp at hr;omega
   have h0:=h0 n r i' e hd he
   rcases hn with rfl | rfl
   · conv=>whnf
     (repeat' first | (refine aa [] ?_;conv=>whnf) | (refine two ?_ ?_<;>intro g<;>(try simp only[an]at g)<;>(conv=>whnf)) | (refine And.intro rfl ?_;conv=>whnf) | (refine ⟨by decide,_,rfl,rfl,?_⟩;conv=>whnf) | fail)
     exact h0
   · conv=>whnf
     (repeat' first | (refine aa [] ?_;conv=>whnf) | (refine two ?_ ?_<;>intro g<;>(try simp only[an]at g)<;>(conv=>whnf)) | (refine And.intro rfl ?_;conv=>whnf) | (refine ⟨by decide,_,rfl,rfl,?_⟩;conv=>whnf) | fail)
     exact h0
 · conv=>whnf
   (repeat' first | (refine aa [] ?_;conv=>whnf) | (refine two ?_ ?_<;>intro g<;>(try simp only[an]at g)<;>(conv=>whnf)) | (refine And.intro rfl ?_;conv=>whnf) | fail)
   exact h1 p e i' he
set_option maxHeartbeats 2000000 in
theorem CT (k:List C3.Tok) (i:Nat) (hk:bb (k.drop i)) (hl:oD k) (x:PS) (hx:x.p.au.length<1000000) (K:Out->List af->Prop)
 (h0: ∀n v r r' i' s1,bg (k.drop i)= .ok n r->aL bH r= .ok v r'->k.drop i'=r'->bb r'->K (.ret (.aQ [])) (xO true true true k i' {x with p:= {x.p with au:=x.p.au++[⟨n,v⟩]},s1:=s1}))
 (h1: ∀p e i',bg (k.drop i)= .err p e->K (.dw (gd p e)) (xO false false false k i' x))
 (h2: ∀n r p e i',bg (k.drop i)= .ok n r->aL bH r= .err p e->K (.dw (gd p e)) (xO false false false k i' x)):
 ah Tryz.prog 106 [.ptr 0 0] (xO false false false k i x) K:=by
 have nb:(rL x.p.au).length=x.p.au.length:=by simp [rL]
 refine ah.dv (ag [] 5 Tryz.func106 (by rfl) (by rfl) ?_)
 conv=>whnf
 (repeat' first | (refine aa [] ?_;conv=>whnf) | (refine two ?_ ?_<;>intro g<;>(try simp only[an]at g)<;>(conv=>whnf)) | (refine And.intro rfl ?_;conv=>whnf) | fail)
 refine gq k i hk hl x _ (fun n r i' e hd he=> ?_) (fun p e i' he=> ?_)
 rotate_left
 · conv=>whnf
   (repeat' first | (refine aa [] ?_;conv=>whnf) | (refine two ?_ ?_<;>intro g<;>(try simp only[an]at g)<;>(conv=>whnf)) | (refine And.intro rfl ?_;conv=>whnf) | fail)
   exact h1 p e i' he
 conv=>whnf
 (repeat' first | (refine aa [] ?_;conv=>whnf) | (refine two ?_ ?_<;>intro g<;>(try simp only[an]at g)<;>(conv=>whnf)) | (refine And.intro rfl ?_;conv=>whnf) | fail)
 refine vJ k i' (by rw [hd];exact he) hl x 125 bH (fun s K hs h=>yE s hs K h) _ (fun v r' i2 e2 fP l7=> ?_) (fun p e2 i2 l7=> ?_)
 rotate_left
 · rw [hd] at l7
   conv=>whnf
   (repeat' first | (refine aa [] ?_;conv=>whnf) | (refine two ?_ ?_<;>intro g<;>(try simp only[an]at g)<;>(conv=>whnf)) | (refine And.intro rfl ?_;conv=>whnf) | fail)
   exact h2 n r p e2 i2 e l7
 rw [hd] at e2
 conv=>whnf
 (repeat' first | (refine aa [] ?_;conv=>whnf) | (refine two ?_ ?_<;>intro g<;>(try simp only[an]at g)<;>(conv=>whnf)) | (refine And.intro rfl ?_;conv=>whnf) | (refine ak (by decide+kernel) ?_;conv=>whnf) | fail)
 refine ⟨by simp;omega,by simp [V.cells],?_⟩
 conv=>whnf
 (repeat' first | (refine aa [] ?_;conv=>whnf) | (refine two ?_ ?_<;>intro g<;>(try simp only[an]at g)<;>(conv=>whnf)) | (refine And.intro rfl ?_;conv=>whnf) | (refine ak (by decide+kernel) ?_;conv=>whnf) | fail)
 · have wO:1<=x.s1.length:=by have:=Nat.le_of_ble_eq_true g;simp at this;omega
   refine ⟨by simp [rL],?_⟩
   conv=>whnf
   (repeat' first | (refine aa [] ?_;conv=>whnf) | (refine two ?_ ?_<;>intro g<;>(try simp only[an]at g)<;>(conv=>whnf)) | (refine And.intro rfl ?_;conv=>whnf) | (refine ak (by decide+kernel) ?_;conv=>whnf) | fail)
   have jf:=gr m_ x.p.au ⟨n,v⟩ x.s1
   refine ⟨_,_,ae (.cons (.eq rfl) .nil) (.cons (.cells ?_) (.cons (j6 jf) (.cons .av (.cons .av (.cons (.eq rfl) .nil))))) rfl rfl rfl,h0 n v r r' i2 (x.s1.drop 1) e e2 fP l7⟩
   repeat' first
    | exact aq.nil
    | refine aq.cons (VW.eq rfl) ?_
    | refine aq.cons (VW.eq (ee (by simp) (by simp;omega))) ?_
 · refine ⟨by simp [rL],fun sp sT=> ?_⟩
   conv=>whnf
   (repeat' first | (refine aa [] ?_;conv=>whnf) | (refine two ?_ ?_<;>intro g<;>(try simp only[an]at g)<;>(conv=>whnf)) | (refine And.intro rfl ?_;conv=>whnf) | (refine ak (by decide+kernel) ?_;conv=>whnf) | fail)
   have jf:=gu m_ x.p.au ⟨n,v⟩ x.s1 sp
   refine gF [0,5,2,3,4] ?_
   conv=>whnf
   refine ⟨_,_,ae (.cons (.eq rfl) .nil) (.cons (.cells ?_) (.cons (.eq (congrArg (fun l=>af.buf true 2 l none) jf)) (.cons .av (.cons .av (.cons (.eq rfl) .nil))))) rfl rfl rfl,h0 n v r r' i2 sp e e2 fP l7⟩
   repeat' first
    | exact aq.nil
    | refine aq.cons (VW.eq rfl) ?_
    | refine aq.cons (VW.eq (ee (by simp) (by simp))) ?_
set_option maxHeartbeats 2000000 in
theorem Fz (k:List C3.Tok) (i:Nat) (hk:bb (k.drop i)) (hl:oD k) (x:PS) (hx:x.p.late.length<1000000) (K:Out->List af->Prop)
 (h0: ∀n v r r' i' s2,bg (k.drop i)= .ok n r->aL bT r= .ok v r'->k.drop i'=r'->bb r'->K (.ret (.aQ [])) (xO true true true k i' {x with p:= {x.p with late:=x.p.late++[⟨n,v⟩]},s2:=s2}))
 (h1: ∀p e i',bg (k.drop i)= .err p e->K (.dw (gd p e)) (xO false false false k i' x))
 (h2: ∀n r p e i',bg (k.drop i)= .ok n r->aL bT r= .err p e->K (.dw (gd p e)) (xO false false false k i' x)):
 ah Tryz.prog 107 [.ptr 0 0] (xO false false false k i x) K:=by
 have nb:(tL x.p.late).length=x.p.late.length:=by simp [tL]
 refine ah.dv (ag [] 5 Tryz.func107 (by rfl) (by rfl) ?_)
 conv=>whnf
 (repeat' first | (refine aa [] ?_;conv=>whnf) | (refine two ?_ ?_<;>intro g<;>(try simp only[an]at g)<;>(conv=>whnf)) | (refine And.intro rfl ?_;conv=>whnf) | fail)
 refine gq k i hk hl x _ (fun n r i' e hd he=> ?_) (fun p e i' he=> ?_)
 rotate_left
 · conv=>whnf
   (repeat' first | (refine aa [] ?_;conv=>whnf) | (refine two ?_ ?_<;>intro g<;>(try simp only[an]at g)<;>(conv=>whnf)) | (refine And.intro rfl ?_;conv=>whnf) | fail)
   exact h1 p e i' he
 conv=>whnf
 (repeat' first | (refine aa [] ?_;conv=>whnf) | (refine two ?_ ?_<;>intro g<;>(try simp only[an]at g)<;>(conv=>whnf)) | (refine And.intro rfl ?_;conv=>whnf) | fail)
 refine vJ k i' (by rw [hd];exact he) hl x 126 bT (fun s K hs h=>DM s hs K h) _ (fun v r' i2 e2 fP l7=> ?_) (fun p e2 i2 l7=> ?_)
 rotate_left
 · rw [hd] at l7
   conv=>whnf
   (repeat' first | (refine aa [] ?_;conv=>whnf) | (refine two ?_ ?_<;>intro g<;>(try simp only[an]at g)<;>(conv=>whnf)) | (refine And.intro rfl ?_;conv=>whnf) | fail)
   exact h2 n r p e2 i2 e l7
 rw [hd] at e2
 conv=>whnf
 (repeat' first | (refine aa [] ?_;conv=>whnf) | (refine two ?_ ?_<;>intro g<;>(try simp only[an]at g)<;>(conv=>whnf)) | (refine And.intro rfl ?_;conv=>whnf) | (refine ak (by decide+kernel) ?_;conv=>whnf) | fail)
 refine ⟨by simp;omega,by simp [V.cells],?_⟩
 conv=>whnf
 (repeat' first | (refine aa [] ?_;conv=>whnf) | (refine two ?_ ?_<;>intro g<;>(try simp only[an]at g)<;>(conv=>whnf)) | (refine And.intro rfl ?_;conv=>whnf) | (refine ak (by decide+kernel) ?_;conv=>whnf) | fail)
 · have wO:1<=x.s2.length:=by have:=Nat.le_of_ble_eq_true g;simp at this;omega
   refine ⟨by simp [tL],?_⟩
   conv=>whnf
   (repeat' first | (refine aa [] ?_;conv=>whnf) | (refine two ?_ ?_<;>intro g<;>(try simp only[an]at g)<;>(conv=>whnf)) | (refine And.intro rfl ?_;conv=>whnf) | (refine ak (by decide+kernel) ?_;conv=>whnf) | fail)
   have jf:=gr na x.p.late ⟨n,v⟩ x.s2
   refine ⟨_,_,ae (.cons (.eq rfl) .nil) (.cons (.cells ?_) (.cons .av (.cons (j6 jf) (.cons .av (.cons (.eq rfl) .nil))))) rfl rfl rfl,h0 n v r r' i2 (x.s2.drop 1) e e2 fP l7⟩
   repeat' first
    | exact aq.nil
    | refine aq.cons (VW.eq rfl) ?_
    | refine aq.cons (VW.eq (ee (by simp) (by simp;omega))) ?_
 · refine ⟨by simp [tL],fun sp sT=> ?_⟩
   conv=>whnf
   (repeat' first | (refine aa [] ?_;conv=>whnf) | (refine two ?_ ?_<;>intro g<;>(try simp only[an]at g)<;>(conv=>whnf)) | (refine And.intro rfl ?_;conv=>whnf) | (refine ak (by decide+kernel) ?_;conv=>whnf) | fail)
   have jf:=gu na x.p.late ⟨n,v⟩ x.s2 sp
   refine gF [0,1,5,3,4] ?_
   conv=>whnf
   refine ⟨_,_,ae (.cons (.eq rfl) .nil) (.cons (.cells ?_) (.cons .av (.cons (.eq (congrArg (fun l=>af.buf true 2 l none) jf)) (.cons .av (.cons (.eq rfl) .nil))))) rfl rfl rfl,h0 n v r r' i2 sp e e2 fP l7⟩
   repeat' first
    | exact aq.nil
    | refine aq.cons (VW.eq rfl) ?_
    | refine aq.cons (VW.eq (ee (by simp) (by simp))) ?_
set_option maxHeartbeats 2000000 in
theorem H8 (k:List C3.Tok) (i:Nat) (hk:bb (k.drop i)) (hl:oD k) (x:PS) (hx:x.p.cT.length<1000000) (K:Out->List af->Prop)
 (h0: ∀v r' i' s3,aL eK (k.drop i)= .ok v r'->k.drop i'=r'->bb r'->K (.ret (.aQ [])) (xO true true true k i' {x with p:= {x.p with cT:=x.p.cT++[v]},s3:=s3}))
 (h1: ∀p e i',aL eK (k.drop i)= .err p e->K (.dw (gd p e)) (xO false false false k i' x)):
 ah Tryz.prog 109 [.ptr 0 0] (xO false false false k i x) K:=by
 have nb:(iL x.p.cT).length=x.p.cT.length:=by simp [iL]
 refine ah.dv (ag [] 5 Tryz.func109 (by rfl) (by rfl) ?_)
 conv=>whnf
 (repeat' first | (refine aa [] ?_;conv=>whnf) | (refine two ?_ ?_<;>intro g<;>(try simp only[an]at g)<;>(conv=>whnf)) | (refine And.intro rfl ?_;conv=>whnf) | (refine ak (by decide+kernel) ?_;conv=>whnf) | fail)
 refine PD k i hk hl x 128 eK (fun s K hs h=>Nj s hs K h) _ (fun v r' i2 e2 fP l7=> ?_) (fun p e2 i2 l7=> ?_)
 rotate_left
 · conv=>whnf
   (repeat' first | (refine aa [] ?_;conv=>whnf) | (refine two ?_ ?_<;>intro g<;>(try simp only[an]at g)<;>(conv=>whnf)) | (refine And.intro rfl ?_;conv=>whnf) | fail)
   exact h1 p e2 i2 l7
 conv=>whnf
 (repeat' first | (refine aa [] ?_;conv=>whnf) | (refine two ?_ ?_<;>intro g<;>(try simp only[an]at g)<;>(conv=>whnf)) | (refine And.intro rfl ?_;conv=>whnf) | (refine ak (by decide+kernel) ?_;conv=>whnf) | fail)
 refine ⟨by simp;omega,by simp [V.cells],?_⟩
 conv=>whnf
 (repeat' first | (refine aa [] ?_;conv=>whnf) | (refine two ?_ ?_<;>intro g<;>(try simp only[an]at g)<;>(conv=>whnf)) | (refine And.intro rfl ?_;conv=>whnf) | (refine ak (by decide+kernel) ?_;conv=>whnf) | fail)
 · have wO:1<=x.s3.length:=by have:=Nat.le_of_ble_eq_true g;simp at this;omega
   refine ⟨by simp [iL],?_⟩
   conv=>whnf
   (repeat' first | (refine aa [] ?_;conv=>whnf) | (refine two ?_ ?_<;>intro g<;>(try simp only[an]at g)<;>(conv=>whnf)) | (refine And.intro rfl ?_;conv=>whnf) | (refine ak (by decide+kernel) ?_;conv=>whnf) | fail)
   have jf:=gr (V.int .i64) x.p.cT v x.s3
   refine ⟨_,_,ae (.cons (.eq rfl) .nil) (.cons (.cells ?_) (.cons .av (.cons .av (.cons (j6 jf) (.cons (.eq rfl) .nil))))) rfl rfl rfl,h0 v r' i2 (x.s3.drop 1) e2 fP l7⟩
   repeat' first
    | exact aq.nil
    | refine aq.cons (VW.eq rfl) ?_
    | refine aq.cons (VW.eq (ee (by simp) (by simp;omega))) ?_
 · refine ⟨by simp [iL],fun sp sT=> ?_⟩
   conv=>whnf
   (repeat' first | (refine aa [] ?_;conv=>whnf) | (refine two ?_ ?_<;>intro g<;>(try simp only[an]at g)<;>(conv=>whnf)) | (refine And.intro rfl ?_;conv=>whnf) | (refine ak (by decide+kernel) ?_;conv=>whnf) | fail)
   have jf:=gu (V.int .i64) x.p.cT v x.s3 sp
   refine gF [0,1,2,5,4] ?_
   conv=>whnf
   refine ⟨_,_,ae (.cons (.eq rfl) .nil) (.cons (.cells ?_) (.cons .av (.cons .av (.cons (.eq (congrArg (fun l=>af.buf true 1 l none) jf)) (.cons (.eq rfl) .nil))))) rfl rfl rfl,h0 v r' i2 sp e2 fP l7⟩
   repeat' first
    | exact aq.nil
    | refine aq.cons (VW.eq rfl) ?_
    | refine aq.cons (VW.eq (ee (by simp) (by simp))) ?_
end CR
namespace FA
open Go Go.Proofs VL D1 eG kb kj C8 jt c5 dj C1 C2 C3 C4 C6 oO pQ oY Jq CR
def yN (p:Prod) (a:List Int):Prod:= {p with o1:=a.getD 0 p.o1,o2:=a.getD 1 p.o2,o3:=a.getD 2 p.o3,o4:=a.getD 3 p.o4}
theorem pI: ∀(n:Nat) (a:List Int) (l:List C3.Tok) (o:List Int) (r:List C3.Tok),aV n a l= .ok o r->o.length=a.length+n
 | 0,a,l,o,r,h=>by
   unfold aV at h
   injection h with h1 h2
   rw [←h1];rfl
 | n+1,a,l,o,r,h=>by
   unfold aV iR.bind at h
   split at h
   · simp only at h
     split at h
     · cases h
     · have:=pI n _ _ _ _ h
       rw [List.length_append] at this
       simp at this
       omega
   · cases h
theorem sv {n:Nat} {a:List Int} {l:List C3.Tok}:aV (n+1) a l=(bJ dZ l).bind fun k r=>if k∈a then .err (aC l).1.at_ 7 else aV n (a++[k]) r:=rfl
set_option maxHeartbeats 4000000 in
theorem CU (k:List C3.Tok) (i:Nat) (hk:bb (k.drop i)) (hl:oD k) (x:PS) (K:Out->List af->Prop)
 (h0: ∀o r i',aV 4 [] (k.drop i)= .ok o r->k.drop i'=r->bb r->K (.ret (.aQ [])) (xO false false false k i' {x with p:=yN x.p o})) (h1: ∀p e i' x',aV 4 [] (k.drop i)= .err p e->K (.dw (gd p e)) (xO false false false k i' {x with p:=x'})):
 ah Tryz.prog 110 [.ptr 0 0] (xO false false false k i x) K:=by
 have hp:=fun i hk x=> @rT k i hk hl x dZ (by unfold eX;decide) (by decide)
 let S:Nat × List Int × Nat->St:=fun q=>⟨(.ptr 0 0:: .undef:: .ptr 5 0:: .undef:: .undef:: .undef:: .int .i64 (q.1:Nat):: .undef:: .undef:: .undef:: .undef:: .undef:: .undef:: .undef:: .undef:: .undef:: .undef:: .undef:: .undef:: .undef:: .undef:: .undef:: .undef:: .undef:: .undef:: .undef:: .undef:: .undef:: .undef:: .undef:: .undef:: .undef:: .undef:: .undef:: .undef:: .undef:: .undef::[]),xO false false false k q.2.2 {x with p:=yN x.p q.2.1}++[.cells true 121 [.bool false,.bool (decide (1∈q.2.1)),.bool (decide (2∈q.2.1)),.bool (decide (3∈q.2.1)),.bool (decide (4∈q.2.1))]],0,[]⟩
 unfold xO
 refine ag [] 5 Tryz.func110 (by rfl) (by rfl) ?_
 conv=>whnf
 (repeat' first | (refine aa [] ?_;conv=>whnf) | (refine two ?_ ?_<;>intro g<;>(try simp only[an]at g)<;>(conv=>whnf)) | (refine And.intro rfl ?_;conv=>whnf) | fail)
 refine aA.enter (s':=S (0,[],i)) (ae ?_ (.cons (.eq rfl) (.cons (.eq rfl) (.cons (.eq rfl) (.cons (.eq rfl) (.cons (.eq rfl) (.cons (.eq rfl) .nil)))))) rfl rfl rfl)
  (aA.dC S (fun q=>4 - q.1) (fun q=>q.1<=4/\q.2.1.length=q.1/\bb (k.drop q.2.2)/\aV 4 [] (k.drop i)=aV (4 - q.1) q.2.1 (k.drop q.2.2)) ?_ (0,[],i) ⟨by omega,rfl,hk,rfl⟩)
 · (repeat' first | exact aq.nil | refine aq.cons VW.undef ?_ | refine aq.cons (VW.eq rfl) ?_ | refine aq.cons (VW.eq (congrArg (V.int .i64) (by (try simp only);rw [wrap64 (by omega) (by omega)];(try omega)))) ?_)
 rintro ⟨j,acc,i1⟩ ⟨hj,ha,iM,he⟩ ih
 simp only at hj ha iM he
 have hn:=bw iM
 obtain ⟨_,t,r,hd,e1,e2⟩:=hn
 have cV:i1<k.length:=by
  have:=congrArg List.length hd
  rw [List.length_drop,List.length_cons] at this;omega
 have aD:(kL k)[((i1:Nat):Int).toNat]? =some (my t):=by
  have:k[i1]? =some t:=by
   have:=congrArg (fun l=>l[0]?) hd
   simpa using this
  rw [Int.toNat_natCast];simp [kL,this]
 have iN:=hl.1
 have zf:(kL k).length=k.length:=by simp [kL]
 have hj:j=4\/j=0\/j=1\/j=2\/j=3:=by omega
 have GP: ∀n r2,bJ dZ (k.drop i1)= .ok n r2->n=1\/n=2\/n=3\/n=4:=fun n r2 e=>by
  have:=eE e
  simp [dZ] at this
  omega
 have hs:j<4->aV 4 [] (k.drop i)=aV (4 - (j+1)+1) acc (k.drop i1):=fun h=>by rw [he];congr 1;omega
 have hb:j<4-> ∀n r2,bJ dZ (k.drop i1)= .ok n r2->aV 4 [] (k.drop i)=if n∈acc then .err t.at_ 7 else aV (4 - (j+1)) (acc++[n]) r2:=fun h n r2 e=>by rw [hs h,sv,e,e1];rfl
 have Qm:j<4-> ∀p e2,bJ dZ (k.drop i1)= .err p e2->aV 4 [] (k.drop i)= .err p e2:=fun h p e2 e=>by rw [hs h,sv,e];rfl
 clear hs
 obtain ⟨j1,yM⟩: ∃j1,j1=j+1:=⟨_,rfl⟩
 rcases hj with rfl | rfl | rfl | rfl | rfl
 · refine ai [] ?_;conv=>whnf
   (repeat' first | (refine aa [] ?_;conv=>whnf) | (refine two ?_ ?_<;>intro g<;>(try simp only[an]at g)<;>(conv=>whnf)) | (refine And.intro rfl ?_;conv=>whnf) | fail)
   refine ⟨_,aB.refl,?_⟩;conv=>whnf
   (repeat' first | (refine aa [] ?_;conv=>whnf) | (refine two ?_ ?_<;>intro g<;>(try simp only[an]at g)<;>(conv=>whnf)) | (refine And.intro rfl ?_;conv=>whnf) | fail)
   exact h0 acc _ i1 he rfl iM
 all_goals
  dsimp only [S]
  refine ai [] ?_;conv=>whnf
  (repeat' first | (refine aa [] ?_;conv=>whnf) | (refine two ?_ ?_<;>intro g<;>(try simp only[an]at g)<;>(conv=>whnf)) | (refine And.intro rfl ?_;conv=>whnf) | fail)
  refine ah.args (cI:=[.ptr 0 0,.sl (sL dZ) .no]) (.cons (.eq rfl) (.cons .no .nil)) rfl (hp i1 iM _ _ (fun n r2 i2 e fP l7=> ?_) (fun p e i2 RX=> ?_))
  rotate_left
  · conv=>whnf
    (repeat' first | (refine aa [] ?_;conv=>whnf) | (refine two ?_ ?_<;>intro g<;>(try simp only[an]at g)<;>(conv=>whnf)) | (refine And.intro rfl ?_;conv=>whnf) | fail)
    exact h1 _ _ _ _ (Qm (by decide) _ _ RX)
  have hb:=hb (by decide) n r2 e
  clear Qm
  obtain ⟨n1,Dz⟩: ∃n1,n1=n:=⟨_,rfl⟩
  rcases GP n r2 e with rfl | rfl | rfl | rfl
  all_goals
   conv=>whnf
   (repeat' first | (refine aa [] ?_;conv=>whnf) | (refine two ?_ ?_<;>intro g<;>(try simp only[an]at g)<;>(conv=>whnf)) | (refine And.intro rfl ?_;conv=>whnf) | (refine ⟨by decide,_,rfl,rfl,?_⟩;conv=>whnf) | (refine ⟨by omega,_,aD,rfl,?_⟩;conv=>whnf) | (refine ie t _ ?_;conv=>whnf) | (refine ⟨by decide,by decide,?_⟩;conv=>whnf) | fail)
   · rename_i g
     exact h1 _ _ i2 (yN x.p acc) (by rw [hb,if_pos g])
   · rename_i g
     rw [if_neg g] at hb
     have hinv:j1<=4/\(acc++[n1]).length=j1/\bb (k.drop i2)/\aV 4 [] (k.drop i)=aV (4 - j1) (acc++[n1]) (k.drop i2):=⟨by omega,by rw [List.length_append,ha,yM];rfl,by rw [fP];exact l7,by rw [fP,yM,Dz];exact hb⟩
     refine ⟨S (j1,acc++[n1],i2),ae ?_ (.cons (.cells ?_) (.cons (.eq rfl) (.cons (.eq rfl) (.cons (.eq rfl) (.cons (.eq rfl) (.cons (.cells ?_) .nil)))))) rfl rfl rfl,ih (j1,acc++[n1],i2) hinv (by show 4 - j1<_;omega)⟩
     all_goals
      subst yM Dz
      rcases acc with _ | ⟨a1,_ | ⟨a2,_ | ⟨a3,_ | ⟨a4,acc⟩⟩⟩⟩
      all_goals first
       | (exfalso;revert ha;simp;done)
       | skip
      (repeat' first | exact aq.nil | refine aq.cons VW.undef ?_ | refine aq.cons (VW.eq rfl) ?_ | (refine aq.cons (VW.eq (congrArg V.bool ?_)) ?_;exact (by simp)) | refine aq.cons (VW.eq (congrArg (V.int .i64) (wrap64 (by omega) (by omega)))) ?_)
end FA
namespace Oa
open Go Go.Proofs VL D1 eG kb kj C8 jt c5 dj C1 C2 C3 C4 C6 oO pQ oY Jq CR
set_option maxHeartbeats 4000000 in
theorem H9 (w:List Int) (hw: ∀x∈w,0<=x/\x<256) (k:List C3.Tok) (i:Nat) (x:PS) (K:Out->List af->Prop)
 (KA:w=cK->K (.ret (.aQ [.fn (.func 98) [.ptr 0 0] [],.bool false])) (xO false false false k i x))
 (KB:w=cL->K (.ret (.aQ [.fn (.func 99) [.ptr 0 0] [],.bool false])) (xO false false false k i x))
 (No:w=dK->K (.ret (.aQ [.fn (.func 100) [.ptr 0 0] [],.bool false])) (xO false false false k i x))
 (KC:w=cM->K (.ret (.aQ [.fn (.func 101) [.ptr 0 0] [],.bool false])) (xO false false false k i x))
 (KD:w=cN->K (.ret (.aQ [.fn (.func 102) [.ptr 0 0] [],.bool false])) (xO false false false k i x))
 (KE:w=eC->K (.ret (.aQ [.fn (.func 103) [.ptr 0 0] [],.bool false])) (xO false false false k i x))
 (Np:w=dL->K (.ret (.aQ [.fn (.func 104) [.ptr 0 0] [],.bool false])) (xO false false false k i x))
 (FB:w=cq->K (.ret (.aQ [.fn (.func 105) [.ptr 0 0] [],.bool false])) (xO false false false k i x))
 (KG:w=cO->K (.ret (.aQ [.fn (.func 106) [.ptr 0 0] [],.bool true])) (xO false false false k i x))
 (Nq:w=dM->K (.ret (.aQ [.fn (.func 107) [.ptr 0 0] [],.bool true])) (xO false false false k i x))
 (PE:w=j4->K (.ret (.aQ [.fn (.func 108) [.ptr 0 0] [],.bool false])) (xO false false false k i x))
 (FC:w=bE->K (.ret (.aQ [.fn (.func 109) [.ptr 0 0] [],.bool true])) (xO false false false k i x))
 (KH:w=cG->K (.ret (.aQ [.fn (.func 110) [.ptr 0 0] [],.bool false])) (xO false false false k i x))
 (Nr:w=fS->K (.ret (.aQ [.fn (.func 111) [.ptr 0 0] [],.bool false])) (xO false false false k i x))
 (Ns:w=fT->K (.ret (.aQ [.fn (.func 112) [.ptr 0 0] [],.bool false])) (xO false false false k i x))
 (CV:w≠cK->w≠cL->w≠dK->w≠cM->w≠cN->w≠eC->w≠dL->w≠cq->w≠cO->w≠dM->w≠j4->w≠bE->w≠cG->w≠fS->w≠fT->K (.ret (.aQ [.ig,.bool false])) (xO false false false k i x)):
 ah Tryz.prog 81 [.ptr 0 0,.str (az w)] (xO false false false k i x) K:=by
 have yO:(az w).toList=(⟨#[99,111,117,110,116]⟩:ByteArray).toList↔w=cK:=bd hw (b:=cK) (by decide)
 have yP:(az w).toList=(⟨#[114,111,117,110,100]⟩:ByteArray).toList↔w=cL:=bd hw (b:=cL) (by decide)
 have CW:(az w).toList=(⟨#[107,105,110,100]⟩:ByteArray).toList↔w=dK:=bd hw (b:=dK) (by decide)
 have yQ:(az w).toList=(⟨#[101,118,101,114,121]⟩:ByteArray).toList↔w=cM:=bd hw (b:=cM) (by decide)
 have yR:(az w).toList=(⟨#[116,105,109,101,115]⟩:ByteArray).toList↔w=cN:=bd hw (b:=cN) (by decide)
 have yS:(az w).toList=(⟨#[103,114,97,99,101]⟩:ByteArray).toList↔w=eC:=bd hw (b:=eC) (by decide)
 have CX:(az w).toList=(⟨#[114,97,116,101]⟩:ByteArray).toList↔w=dL:=bd hw (b:=dL) (by decide)
 have rU:(az w).toList=(⟨#[112,101,110,97,108,116,121]⟩:ByteArray).toList↔w=cq:=bd hw (b:=cq) (by decide)
 have qE:(az w).toList=(⟨#[114,101,115,101,116]⟩:ByteArray).toList↔w=cO:=bd hw (b:=cO) (by decide)
 have vK:(az w).toList=(⟨#[108,97,116,101]⟩:ByteArray).toList↔w=dM:=bd hw (b:=dM) (by decide)
 have H_:(az w).toList=(⟨#[99,97,112]⟩:ByteArray).toList↔w=j4:=bd hw (b:=j4) (by decide)
 have lH:(az w).toList=(⟨#[104,111,108,105,100,97,121]⟩:ByteArray).toList↔w=bE:=bd hw (b:=bE) (by decide)
 have yT:(az w).toList=(⟨#[111,114,100,101,114]⟩:ByteArray).toList↔w=cG:=bd hw (b:=cG) (by decide)
 have CY:(az w).toList=(⟨#[111,118,101,114]⟩:ByteArray).toList↔w=fS:=bd hw (b:=fS) (by decide)
 have CZ:(az w).toList=(⟨#[114,111,108,108]⟩:ByteArray).toList↔w=fT:=bd hw (b:=fT) (by decide)
 unfold xO at*
 refine ag [] 5 Tryz.func81 (by rfl) (by rfl) ?_
 conv=>whnf
 (repeat' first | (refine aa [] ?_;conv=>whnf) | (refine two ?_ ?_<;>intro g<;>(try simp only[an,yO,yP,CW,yQ,yR,yS,CX,rU,qE,vK,H_,lH,yT,CY,CZ]at g)<;>(conv=>whnf)) | (refine And.intro rfl ?_;conv=>whnf) | fail)
 · exact KA (by assumption)
 · exact KB (by assumption)
 · exact No (by assumption)
 · exact KC (by assumption)
 · exact KD (by assumption)
 · exact KE (by assumption)
 · exact Np (by assumption)
 · exact FB (by assumption)
 · exact KG (by assumption)
 · exact Nq (by assumption)
 · exact PE (by assumption)
 · exact FC (by assumption)
 · exact KH (by assumption)
 · exact Nr (by assumption)
 · exact Ns (by assumption)
 · apply CV<;>assumption
end Oa
namespace vL
open Go Go.Proofs VL D1 eG C1 C2 C3 C4 C6 oY
def FD (l:List (List Int)):List (V × V):=l.map fun w=>(.str (az w),.bool true)
def zi (w:List Int):Prop:= ∀x∈w,0<=x/\x<256
def FE (e:List (V × V)) (sn:List (List Int)):Prop:= ∃l,e=FD l/\(∀w,w∈l↔w∈sn)/\ ∀w∈l,zi w
theorem KI:FE [] []:=⟨[],rfl,fun _=>Iff.rfl,by simp⟩
theorem PF {a b:List Int} (ha:zi a) (hb:zi b):pa (.str (az a)) (.str (az b))=decide (a=b):=by
 show ((az a)==(az b))=_
 have h:=bd ha hb
 have e1:(az a==az b)=((az a).data==(az b).data):=rfl
 rw [e1,Bool.eq_iff_iff,decide_eq_true_iff,beq_iff_eq, ←h]
 exact ⟨fun h2=>by rw [ByteArray.ext h2],fun h2=>by rw [h.1 h2]⟩
theorem FF {l:List (List Int)} {w:List Int} (hl: ∀w∈l,zi w) (hw:zi w):(FD l).find? (fun e=>pa (.str (az w)) e.1)=if w∈l then some (.str (az w),.bool true) else none:=by
 induction l with
 | nil=>rfl
 | cons a l ih=>
   have N9:=ih fun w h=>hl w (.tail _ h)
   simp only [FD,List.map_cons,List.find?_cons]
   rw [PF hw (hl a (.head _))]
   by_cases e:w=a
   · subst e;simp
   · simp only [e,decide_false,List.mem_cons,false_or]
     exact N9
theorem H' {l:List (List Int)} {w:List Int} (hl: ∀w∈l,zi w) (hw:zi w):pR (.str (az w)) (.bool true) (FD l)=FD (if w∈l then l else l++[w]):=by
 induction l with
 | nil=>rfl
 | cons a l ih=>
   have N9:=ih fun w h=>hl w (.tail _ h)
   simp only [FD,List.map_cons] at N9 ⊢
   unfold pR
   simp only
   rw [PF hw (hl a (.head _))]
   by_cases e:w=a
   · subst e;simp
   · simp only [e,decide_false,Bool.false_eq_true,if_false,List.mem_cons,false_or]
     rw [N9]
     split<;>simp
theorem KJ {e:List (V × V)} {sn:List (List Int)} {w:List Int} (h:FE e sn) (hw:zi w):FE (pR (.str (az w)) (.bool true) e) (w::sn):=by
 obtain ⟨l,rfl,h1,h2⟩:=h
 refine ⟨_,H' h2 hw,fun u=> ?_,fun u hu=> ?_⟩
 · split
   · rw [h1,List.mem_cons]
     constructor
     · exact .inr
     · rintro (rfl | h)
       · exact (h1 _).1 (by assumption)
       · exact h
   · simp [h1,or_comm]
 · split at hu
   · exact h2 u hu
   · rcases List.mem_append.1 hu with h | h
     · exact h2 u h
     · simp at h;subst h;exact hw
theorem iG {e:List (V × V)} {sn:List (List Int)} {w:List Int} (h:FE e sn) (hw:zi w):e.find? (fun e=>pa (.str (az w)) e.1)=if w∈sn then some (.str (az w),.bool true) else none:=by
 obtain ⟨l,rfl,h1,h2⟩:=h
 rw [FF h2 hw]
 simp only [h1]
end vL
namespace kn
open Go Go.Proofs VL D1 eG C1 C2 C3 C4 C6 oY
theorem aK {α β:Type} {x:iR α} {f:α->List C3.Tok->iR β} {b:β} {r:List C3.Tok} (h:x.bind f= .ok b r): ∃a s,x= .ok a s/\f a s= .ok b r:=by
 cases x with
 | ok a s=>exact ⟨a,s,rfl,h⟩
 | err p e=>cases h
theorem AW (l:List C3.Tok):(aC l).2.length<=l.length:=by
 cases l with
 | nil=>exact Nat.le_refl _
 | cons t r=>
   show (if t.kind=0 then (t,t::r) else (t,r)).2.length<=_
   split
   · exact Nat.le_refl _
   · exact Nat.le_succ _
theorem gG {k:Int} {w:List Int} {l r:List C3.Tok} {t:C3.Tok} (h:aF k w l= .ok t r):r.length<=l.length:=by
 unfold aF at h
 split at h
 · injection h with h1 h2
   rw [←h2];exact AW l
 · cases h
theorem j7 {l r:List C3.Tok} {n:Int} (h:bg l= .ok n r):r.length<=l.length:=by
 obtain ⟨t,s,h1,h2⟩:=aK h
 have:=gG h1
 split at h2
 · injection h2 with a b
   rw [←b];exact this
 · cases h2
theorem ju {f:List Int->Int × Int} {l r:List C3.Tok} {n:Int} (h:aL f l= .ok n r):r.length<=l.length:=by
 obtain ⟨t,s,h1,h2⟩:=aK h
 have:=gG h1
 split at h2
 · injection h2 with a b
   rw [←b];exact this
 · cases h2
theorem lI {ws:List (List Int)} {l r:List C3.Tok} {n:Int} (h:bJ ws l= .ok n r):r.length<=l.length:=by
 obtain ⟨t,s,h1,h2⟩:=aK h
 have:=gG h1
 split at h2
 · injection h2 with a b
   rw [←b];exact this
 · cases h2
theorem xy: ∀(n:Nat) {a:List Int} {l r:List C3.Tok} {o:List Int},aV n a l= .ok o r->r.length<=l.length
 | 0,a,l,r,o,h=>by
   unfold aV at h
   injection h with h1 h2
   rw [h2]
   exact Nat.le_refl _
 | n+1,a,l,r,o,h=>by
   unfold aV at h
   obtain ⟨t,s,h1,h2⟩:=aK h
   have:=lI h1
   split at h2
   · cases h2
   · exact Nat.le_trans (xy n h2) this
theorem aR {α:Type} {c:Prop} [Decidable c] {a b:Option α} {x:α} (h:(if c then a else b)=some x):a=some x\/b=some x:=by
 by_cases hc:c
 · rw [if_pos hc] at h;exact .inl h
 · rw [if_neg hc] at h;exact .inr h
theorem hY {w:List Int} {p q:Prod} {l r:List C3.Tok} {x:iR Prod} (hx:aZ w p l=some x) (h:x= .ok q r):r.length<=l.length/\q.au.length+q.late.length+q.cT.length<=p.au.length+p.late.length+p.cT.length+1:=by
 subst h
 unfold aZ at hx
 rcases aR hx with hx | hx
 · injection hx with hx
   obtain ⟨a,s,h1,h2⟩:=aK hx
   injection h2 with ha hb;subst ha hb
   exact ⟨lI h1,Nat.le_succ _⟩
 rcases aR hx with hx | hx
 · injection hx with hx
   obtain ⟨a,s,h1,h2⟩:=aK hx
   injection h2 with ha hb;subst ha hb
   exact ⟨lI h1,Nat.le_succ _⟩
 rcases aR hx with hx | hx
 · injection hx with hx
   obtain ⟨a,s,h1,h2⟩:=aK hx
   injection h2 with ha hb;subst ha hb
   exact ⟨lI h1,Nat.le_succ _⟩
 rcases aR hx with hx | hx
 · injection hx with hx
   obtain ⟨a,s,h1,h2⟩:=aK hx
   injection h2 with ha hb;subst ha hb
   exact ⟨j7 h1,Nat.le_succ _⟩
 rcases aR hx with hx | hx
 · injection hx with hx
   obtain ⟨a,s,h1,h2⟩:=aK hx
   injection h2 with ha hb;subst ha hb
   exact ⟨j7 h1,Nat.le_succ _⟩
 rcases aR hx with hx | hx
 · injection hx with hx
   obtain ⟨a,s,h1,h2⟩:=aK hx
   injection h2 with ha hb;subst ha hb
   exact ⟨j7 h1,Nat.le_succ _⟩
 rcases aR hx with hx | hx
 · injection hx with hx
   obtain ⟨a,s,h1,h2⟩:=aK hx
   injection h2 with ha hb;subst ha hb
   exact ⟨ju h1,Nat.le_succ _⟩
 rcases aR hx with hx | hx
 · injection hx with hx
   obtain ⟨a,s,h1,h2⟩:=aK hx
   injection h2 with ha hb;subst ha hb
   exact ⟨ju h1,Nat.le_succ _⟩
 rcases aR hx with hx | hx
 · injection hx with hx
   obtain ⟨a,s,h1,h2⟩:=aK hx
   obtain ⟨a2,s2,h3,h4⟩:=aK h2
   injection h4 with ha hb;subst ha hb
   refine ⟨Nat.le_trans (ju h3) (j7 h1),?_⟩
   simp;try omega
 rcases aR hx with hx | hx
 · injection hx with hx
   obtain ⟨a,s,h1,h2⟩:=aK hx
   obtain ⟨a2,s2,h3,h4⟩:=aK h2
   injection h4 with ha hb;subst ha hb
   refine ⟨Nat.le_trans (ju h3) (j7 h1),?_⟩
   simp;try omega
 rcases aR hx with hx | hx
 · injection hx with hx
   obtain ⟨a,s,h1,h2⟩:=aK hx
   injection h2 with ha hb;subst ha hb
   exact ⟨ju h1,Nat.le_succ _⟩
 rcases aR hx with hx | hx
 · injection hx with hx
   obtain ⟨a,s,h1,h2⟩:=aK hx
   injection h2 with ha hb;subst ha hb
   refine ⟨ju h1,?_⟩
   simp;try omega
 rcases aR hx with hx | hx
 · injection hx with hx
   obtain ⟨a,s,h1,h2⟩:=aK hx
   injection h2 with ha hb;subst ha hb
   exact ⟨xy _ h1,Nat.le_succ _⟩
 rcases aR hx with hx | hx
 · injection hx with hx
   obtain ⟨a,s,h1,h2⟩:=aK hx
   injection h2 with ha hb;subst ha hb
   exact ⟨lI h1,Nat.le_succ _⟩
 rcases aR hx with hx | hx
 · injection hx with hx
   obtain ⟨a,s,h1,h2⟩:=aK hx
   injection h2 with ha hb;subst ha hb
   exact ⟨lI h1,Nat.le_succ _⟩
 cases hx
theorem jv: ∀(f:Nat) {d:Nat} {l:List C3.Tok} {p:Prod} {sn:List (List Int)} {q:Prod × List (List Int)} {r:List C3.Tok},aN f d l p sn= .ok q r->r.length<=l.length
 | 0,d,l,p,sn,q,r,h=>by cases h
 | f+1,d,l,p,sn,q,r,h=>by
   have hn:=AW l
   unfold aN at h
   split at h
   · injection h with a b
     rw [←b];exact hn
   · split at h
     · split at h
       · cases h
       · obtain ⟨a,s,h1,h2⟩:=aK h
         exact Nat.le_trans (jv f h2) (Nat.le_trans (jv f h1) hn)
     · split at h
       · cases h
       · split at h
         · cases h
         · rename_i x hx
           split at h
           · cases h
           · obtain ⟨a,s,h1,h2⟩:=aK h
             obtain ⟨a2,s2,h3,h4⟩:=aK h2
             exact Nat.le_trans (jv f h4) (Nat.le_trans (gG h3) (Nat.le_trans (hY hx h1).1 hn))
end kn
namespace yU
open Go Go.Proofs VL D1 eG kb kj C8 jt c5 dj C1 C2 C3 C4 C6 oO pQ oY Jq N' CR FA Oa vL
def CL (w:List Int) (f:FuncId):Prop:= ∀(k:List C3.Tok) (i:Nat) (hk:bb (k.drop i)) (hl:oD k) (x:PS) (hx:x.p.au.length+x.p.late.length+x.p.cT.length<1000000) (K:Out->List af->Prop)
 (h0: ∀q r i' x',aZ w x.p (k.drop i)=some (.ok q r)->k.drop i'=r->bb r->x'.p=q->x'.sn=x.sn->K (.ret (.aQ [])) (xO true true true k i' x'))
 (h1: ∀p e i' x',aZ w x.p (k.drop i)=some (.err p e)->K (.dw (gd p e)) (xO false false false k i' x')),
 ah Tryz.prog f [.ptr 0 0] (xO false false false k i x) K
theorem Gb {k:List C3.Tok} {i:Nat} {x:PS}:aB 5 ⟨[.aQ []],xO false false false k i x,0,[]⟩ ⟨[.aQ []],xO true true true k i x,0,[]⟩:=by
 unfold xO
 exact ae (.cons (.eq rfl) .nil) (.cons (.eq rfl) (.cons .av (.cons .av (.cons .av (.cons (.eq rfl) .nil))))) rfl rfl rfl
theorem nO {p l}:aZ cK p l=some ((bJ [gz,jd,gA] l).bind fun k r=> .ok {p with count:=k} r):=rfl
theorem nP {p l}:aZ cL p l=some ((bJ [fq,mA] l).bind fun k r=> .ok {p with m3:=if k=1 then 1 else 3} r):=rfl
theorem qF {p l}:aZ dK p l=some ((bJ [fr,je,gB] l).bind fun k r=> .ok {p with kind:=k} r):=rfl
theorem nQ {p l}:aZ cM p l=some ((bg l).bind fun k r=> .ok {p with every:=k} r):=rfl
theorem nR {p l}:aZ cN p l=some ((bg l).bind fun k r=> .ok {p with times:=k} r):=rfl
theorem nS {p l}:aZ eC p l=some ((bg l).bind fun k r=> .ok {p with b_:=k} r):=rfl
theorem qG {p l}:aZ dL p l=some ((aL bH l).bind fun k r=> .ok {p with bW:=k} r):=rfl
theorem j8 {p l}:aZ cq p l=some ((aL bH l).bind fun k r=> .ok {p with kY:=k} r):=rfl
theorem j9 {p l}:aZ cO p l=some ((bg l).bind fun k r=>(aL bH r).bind fun v r=> .ok {p with au:=p.au++[⟨k,v⟩]} r):=rfl
theorem mF {p l}:aZ dM p l=some ((bg l).bind fun k r=>(aL bT r).bind fun v r=> .ok {p with late:=p.late++[⟨k,v⟩]} r):=rfl
theorem vM {p l}:aZ j4 p l=some ((aL bT l).bind fun k r=> .ok {p with cap:=k} r):=rfl
theorem j_ {p l}:aZ bE p l=some ((aL eK l).bind fun k r=> .ok {p with cT:=p.cT++[k]} r):=rfl
theorem nT {p l}:aZ cG p l=some ((aV 4 [] l).bind fun o r=> .ok {p with o1:=o.getD 0 0,o2:=o.getD 1 0,o3:=o.getD 2 0,o4:=o.getD 3 0} r):=rfl
theorem qH {p l}:aZ fS p l=some ((bJ [mB,gC,gD] l).bind fun k r=> .ok {p with over:=k} r):=rfl
theorem qI {p l}:aZ fT p l=some ((bJ [mC,mD,gE,eD] l).bind fun k r=> .ok {p with roll:=k} r):=rfl
theorem Ia:CL cK 98:=by
 intro k i hk hl x hx K h0 h1
 exact ah.dv (CN k i hk hl x _ (fun n r i' e hd he=>⟨_,_,Gb,h0 _ r i' _ (by rw [nO,e];rfl) hd he rfl rfl⟩) (fun p e i' he=>h1 p e i' _ (by rw [nO,he];rfl)))
theorem Ib:CL cL 99:=by
 intro k i hk hl x hx K h0 h1
 exact ah.dv (CS k i hk hl x _ (fun n r i' e hd he=>⟨_,_,Gb,h0 _ r i' _ (by rw [nP,e];rfl) hd he rfl rfl⟩) (fun p e i' he=>h1 p e i' _ (by rw [nP,he];rfl)))
theorem KK:CL dK 100:=by
 intro k i hk hl x hx K h0 h1
 exact ah.dv (Fv k i hk hl x _ (fun n r i' e hd he=>⟨_,_,Gb,h0 _ r i' _ (by rw [qF,e];rfl) hd he rfl rfl⟩) (fun p e i' he=>h1 p e i' _ (by rw [qF,he];rfl)))
theorem Ic:CL cM 101:=by
 intro k i hk hl x hx K h0 h1
 exact ah.dv (CO k i hk hl x _ (fun n r i' e hd he=>⟨_,_,Gb,h0 _ r i' _ (by rw [nQ,e];rfl) hd he rfl rfl⟩) (fun p e i' he=>h1 p e i' _ (by rw [nQ,he];rfl)))
theorem Ie:CL cN 102:=by
 intro k i hk hl x hx K h0 h1
 exact ah.dv (CP k i hk hl x _ (fun n r i' e hd he=>⟨_,_,Gb,h0 _ r i' _ (by rw [nR,e];rfl) hd he rfl rfl⟩) (fun p e i' he=>h1 p e i' _ (by rw [nR,he];rfl)))
theorem Ig:CL eC 103:=by
 intro k i hk hl x hx K h0 h1
 exact ah.dv (CQ k i hk hl x _ (fun n r i' e hd he=>⟨_,_,Gb,h0 _ r i' _ (by rw [nS,e];rfl) hd he rfl rfl⟩) (fun p e i' he=>h1 p e i' _ (by rw [nS,he];rfl)))
theorem KL:CL dL 104:=by
 intro k i hk hl x hx K h0 h1
 exact ah.dv (Fy k i hk hl x _ (fun n r i' e hd he=>⟨_,_,Gb,h0 _ r i' _ (by rw [qG,e];rfl) hd he rfl rfl⟩) (fun p e i' he=>h1 p e i' _ (by rw [qG,he];rfl)))
theorem C0:CL cq 105:=by
 intro k i hk hl x hx K h0 h1
 exact ah.dv (H6 k i hk hl x _ (fun n r i' e hd he=>⟨_,_,Gb,h0 _ r i' _ (by rw [j8,e];rfl) hd he rfl rfl⟩) (fun p e i' he=>h1 p e i' _ (by rw [j8,he];rfl)))
theorem Nt:CL j4 108:=by
 intro k i hk hl x hx K h0 h1
 exact ah.dv (H7 k i hk hl x _ (fun n r i' e hd he=>⟨_,_,Gb,h0 _ r i' _ (by rw [vM,e];rfl) hd he rfl rfl⟩) (fun p e i' he=>h1 p e i' _ (by rw [vM,he];rfl)))
theorem KM:CL fS 111:=by
 intro k i hk hl x hx K h0 h1
 exact ah.dv (Fw k i hk hl x _ (fun n r i' e hd he=>⟨_,_,Gb,h0 _ r i' _ (by rw [qH,e];rfl) hd he rfl rfl⟩) (fun p e i' he=>h1 p e i' _ (by rw [qH,he];rfl)))
theorem KN:CL fT 112:=by
 intro k i hk hl x hx K h0 h1
 exact ah.dv (Fx k i hk hl x _ (fun n r i' e hd he=>⟨_,_,Gb,h0 _ r i' _ (by rw [qI,e];rfl) hd he rfl rfl⟩) (fun p e i' he=>h1 p e i' _ (by rw [qI,he];rfl)))
theorem Ih:CL cG 110:=by
 intro k i hk hl x hx K h0 h1
 refine ah.dv (CU k i hk hl x _ (fun o r i' e hd he=>⟨_,_,Gb,h0 _ r i' _ (by rw [nT,e];rfl) hd he ?_ rfl⟩) (fun p e i' x' he=>h1 p e i' _ (by rw [nT,he];rfl)))
 have hlen:=pI _ _ _ _ _ e
 rcases o with _ | ⟨a1,_ | ⟨a2,_ | ⟨a3,_ | ⟨a4,o⟩⟩⟩⟩
 all_goals first | (exfalso;revert hlen;simp;done) | rfl
theorem Ii:CL cO 106:=by
 intro k i hk hl x hx K h0 h1
 exact CT k i hk hl x (by omega) _ (fun n v r r' i' s1 e e2 hd he=>h0 _ r' i' _ (by rw [j9,e];show some ((aL bH r).bind _)=_;rw [e2];rfl) hd he rfl rfl) (fun p e i' he=>h1 p e i' _ (by rw [j9,he];rfl)) (fun n r p e i' he l7=>h1 p e i' _ (by rw [j9,he];show some ((aL bH r).bind _)=_;rw [l7];rfl))
theorem KO:CL dM 107:=by
 intro k i hk hl x hx K h0 h1
 exact Fz k i hk hl x (by omega) _ (fun n v r r' i' s1 e e2 hd he=>h0 _ r' i' _ (by rw [mF,e];show some ((aL bT r).bind _)=_;rw [e2];rfl) hd he rfl rfl) (fun p e i' he=>h1 p e i' _ (by rw [mF,he];rfl)) (fun n r p e i' he l7=>h1 p e i' _ (by rw [mF,he];show some ((aL bT r).bind _)=_;rw [l7];rfl))
theorem C_:CL bE 109:=by
 intro k i hk hl x hx K h0 h1
 exact H8 k i hk hl x (by omega) _ (fun v r' i' s1 e hd he=>h0 _ r' i' _ (by rw [j_,e];rfl) hd he rfl rfl) (fun p e i' he=>h1 p e i' _ (by rw [j_,he];rfl))
theorem FG (w:List Int) (hw: ∀x∈w,0<=x/\x<256) (k:List C3.Tok) (i:Nat) (x:PS) (K:Out->List af->Prop)
 (h: ∀f,CL w f->(∀p l, ∃y,aZ w p l=some y)->K (.ret (.aQ [.fn (.func f) [.ptr 0 0] [],.bool (j5 w)])) (xO false false false k i x))
 (CV:(∀p l,aZ w p l=none)->K (.ret (.aQ [.ig,.bool false])) (xO false false false k i x)):
 ah Tryz.prog 81 [.ptr 0 0,.str (az w)] (xO false false false k i x) K:=by
 refine H9 w hw k i x K ?_ ?_ ?_ ?_ ?_ ?_ ?_ ?_ ?_ ?_ ?_ ?_ ?_ ?_ ?_ ?_
 · rintro rfl
   exact h _ Ia (fun p l=>⟨_,nO⟩)
 · rintro rfl
   exact h _ Ib (fun p l=>⟨_,nP⟩)
 · rintro rfl
   exact h _ KK (fun p l=>⟨_,qF⟩)
 · rintro rfl
   exact h _ Ic (fun p l=>⟨_,nQ⟩)
 · rintro rfl
   exact h _ Ie (fun p l=>⟨_,nR⟩)
 · rintro rfl
   exact h _ Ig (fun p l=>⟨_,nS⟩)
 · rintro rfl
   exact h _ KL (fun p l=>⟨_,qG⟩)
 · rintro rfl
   exact h _ C0 (fun p l=>⟨_,j8⟩)
 · rintro rfl
   exact h _ Ii (fun p l=>⟨_,j9⟩)
 · rintro rfl
   exact h _ KO (fun p l=>⟨_,mF⟩)
 · rintro rfl
   exact h _ Nt (fun p l=>⟨_,vM⟩)
 · rintro rfl
   exact h _ C_ (fun p l=>⟨_,j_⟩)
 · rintro rfl
   exact h _ Ih (fun p l=>⟨_,nT⟩)
 · rintro rfl
   exact h _ KM (fun p l=>⟨_,qH⟩)
 · rintro rfl
   exact h _ KN (fun p l=>⟨_,qI⟩)
 · intro n1 n2 n3 n4 n5 n6 n7 n8 n9 Sb Sc Sd Se Sf Sg
   exact CV (fun p l=>by unfold aZ;simp only [n1,n2,n3,n4,n5,n6,n7,n8,n9,Sb,Sc,Sd,Se,Sf,Sg,if_false])
end yU
namespace pJ
open Go Go.Proofs VL D1 eG kb kj pP xt jt c5 dj C1 C2 C3 C4 C6 Kw pQ oY FA vL kn yU
structure LY (p:Prod):Prop where
 name:p.name.size<1000000
 count:bM p.count
 m3:bM p.m3
 kind:bM p.kind
 every:bM p.every
 times:bM p.times
 b_:bM p.b_
 bW:bM p.bW
 kY:bM p.kY
 o1:bM p.o1
 o2:bM p.o2
 o3:bM p.o3
 o4:bM p.o4
 over:bM p.over
 cap:bM p.cap
 roll:bM p.roll
 au: ∀x∈p.au,bM x.lT/\bM x.bW
 late: ∀x∈p.late,bM x.days/\bM x.km
 cT: ∀x∈p.cT,bM x
theorem LY.full {p:Prod} (h:LY p) (h1:p.au.length<1000000) (h2:p.late.length<1000000) (h3:p.cT.length<1000000):p.ok:=
 ⟨h.name,h.count,h.m3,h.kind,h.every,h.times,h.b_,h.bW,h.kY,h.o1,h.o2,h.o3,h.o4,h.over,h.cap,h.roll,h.au,h.late,h.cT,h1,h2,h3⟩
theorem Nu {l:List Int} {n:Int} (h:pH l=some n):bM n:=by
 unfold pH at h
 split at h
 · rename_i hc
   injection h with h;subst h
   have h1:=mY l hc.1
   have h2:10^l.length<=10^9:=Nat.pow_le_pow_right (by omega) hc.2.1
   unfold bM;omega
 · cases h
theorem lJ {l r:List C3.Tok} {n:Int} (h:bg l= .ok n r):bM n:=by
 obtain ⟨t,s,h1,h2⟩:=aK h
 split at h2
 · rename_i n' hn
   injection h2 with a b
   subst a
   exact Nu hn
 · cases h2
theorem lK {f:List Int->Int × Int} (hf: ∀l,(f l).2=0->bM (f l).1) {l r:List C3.Tok} {n:Int} (h:aL f l= .ok n r):bM n:=by
 obtain ⟨t,s,h1,h2⟩:=aK h
 split at h2
 · rename_i hn
   injection h2 with a b
   subst a
   exact hf _ hn
 · cases h2
theorem yV (l:List Int):(bH l).2=0->bM (bH l).1:=by
 intro h
 unfold bH at h ⊢
 split
 · rename_i hc
   have h1:=hc.2.2.1
   unfold bM
   simp only
   split<;>omega
 · simp only;unfold bM;omega
theorem D' (l:List Int):(bT l).2=0->bM (bT l).1:=by
 intro h
 unfold bT at h ⊢
 split
 · simp only;unfold bM;omega
 · split
   · simp only;unfold bM;omega
   · split
     · simp only;unfold bM;omega
     · simp only;unfold bM;split<;>omega
theorem KQ (l:List Int):(eK l).2=0->bM (eK l).1:=by
 intro h
 unfold eK at h ⊢
 split
 · generalize vl ((l.take 4).drop 0)=y
   generalize vl ((l.take 7).drop 5)=m
   generalize vl ((l.take 10).drop 8)=d
   unfold eW
   split
   · rename_i hd
     unfold nN at hd
     have oK:=mw y m
     have Qy:kC y m<=400:=by
      have:=jY (y:=y) hd.2.1.1 hd.2.1.2
      have Kx:=AO y
      split at Kx<;>omega
     simp only
     unfold bM opens;omega
   · simp only;unfold bM;omega
 · simp only;unfold bM;omega
theorem qJ {ws:List (List Int)} (hw:ws.length<1000) {l r:List C3.Tok} {n:Int} (h:bJ ws l= .ok n r):bM n:=by
 have:=CR.eE h
 unfold bM;omega
theorem AX: ∀(n:Nat) {a:List Int} {l r:List C3.Tok} {o:List Int},(∀x∈a,bM x)->aV n a l= .ok o r-> ∀x∈o,bM x
 | 0,a,l,r,o,ha,h=>by
   unfold aV at h
   injection h with h1 h2
   subst h1;exact ha
 | n+1,a,l,r,o,ha,h=>by
   unfold aV at h
   obtain ⟨t,s,h1,h2⟩:=aK h
   have:=qJ (by decide) h1
   split at h2
   · cases h2
   · exact AX n (fun x hx=>by
      rcases List.mem_append.1 hx with hx | hx
      · exact ha x hx
      · simp at hx;subst hx;exact this) h2
theorem yW {o:List Int} (h: ∀x∈o,bM x) (n:Nat):bM (o.getD n 0):=by
 rw [List.getD_eq_getElem?_getD]
 cases e:o[n]? with
 | none=>simp;unfold bM;omega
 | some x=>exact h x (List.mem_of_getElem? e)
theorem FH {w:List Int} {p q:Prod} {l r:List C3.Tok} {x:iR Prod} (hp:LY p) (hx:aZ w p l=some x) (h:x= .ok q r):LY q:=by
 subst h
 unfold aZ at hx
 rcases aR hx with hx | hx
 · injection hx with hx
   obtain ⟨a,s,h1,h2⟩:=aK hx
   injection h2 with ha hb;subst ha hb
   exact {hp with count:=qJ (by decide) h1}
 rcases aR hx with hx | hx
 · injection hx with hx
   obtain ⟨a,s,h1,h2⟩:=aK hx
   injection h2 with ha hb;subst ha hb
   exact {hp with m3:=(by simp only;split<;>(unfold bM;omega))}
 rcases aR hx with hx | hx
 · injection hx with hx
   obtain ⟨a,s,h1,h2⟩:=aK hx
   injection h2 with ha hb;subst ha hb
   exact {hp with kind:=qJ (by decide) h1}
 rcases aR hx with hx | hx
 · injection hx with hx
   obtain ⟨a,s,h1,h2⟩:=aK hx
   injection h2 with ha hb;subst ha hb
   exact {hp with every:=lJ h1}
 rcases aR hx with hx | hx
 · injection hx with hx
   obtain ⟨a,s,h1,h2⟩:=aK hx
   injection h2 with ha hb;subst ha hb
   exact {hp with times:=lJ h1}
 rcases aR hx with hx | hx
 · injection hx with hx
   obtain ⟨a,s,h1,h2⟩:=aK hx
   injection h2 with ha hb;subst ha hb
   exact {hp with b_:=lJ h1}
 rcases aR hx with hx | hx
 · injection hx with hx
   obtain ⟨a,s,h1,h2⟩:=aK hx
   injection h2 with ha hb;subst ha hb
   exact {hp with bW:=lK yV h1}
 rcases aR hx with hx | hx
 · injection hx with hx
   obtain ⟨a,s,h1,h2⟩:=aK hx
   injection h2 with ha hb;subst ha hb
   exact {hp with kY:=lK yV h1}
 rcases aR hx with hx | hx
 · injection hx with hx
   obtain ⟨a,s,h1,h2⟩:=aK hx
   obtain ⟨a2,s2,h3,h4⟩:=aK h2
   injection h4 with ha hb;subst ha hb
   have hq: ∀x∈p.au++[⟨a,a2⟩],bM x.lT/\bM x.bW:=by
    intro x hx
    rcases List.mem_append.1 hx with hx | hx
    · exact hp.au x hx
    · simp at hx;subst hx;exact ⟨lJ h1,lK yV h3⟩
   exact {hp with au:=hq}
 rcases aR hx with hx | hx
 · injection hx with hx
   obtain ⟨a,s,h1,h2⟩:=aK hx
   obtain ⟨a2,s2,h3,h4⟩:=aK h2
   injection h4 with ha hb;subst ha hb
   have hq: ∀x∈p.late++[⟨a,a2⟩],bM x.days/\bM x.km:=by
    intro x hx
    rcases List.mem_append.1 hx with hx | hx
    · exact hp.late x hx
    · simp at hx;subst hx;exact ⟨lJ h1,lK D' h3⟩
   exact {hp with late:=hq}
 rcases aR hx with hx | hx
 · injection hx with hx
   obtain ⟨a,s,h1,h2⟩:=aK hx
   injection h2 with ha hb;subst ha hb
   exact {hp with cap:=lK D' h1}
 rcases aR hx with hx | hx
 · injection hx with hx
   obtain ⟨a,s,h1,h2⟩:=aK hx
   injection h2 with ha hb;subst ha hb
   have hq: ∀x∈p.cT++[a],bM x:=by
    intro x hx
    rcases List.mem_append.1 hx with hx | hx
    · exact hp.cT x hx
    · simp at hx;subst hx;exact lK KQ h1
   exact {hp with cT:=hq}
 rcases aR hx with hx | hx
 · injection hx with hx
   obtain ⟨a,s,h1,h2⟩:=aK hx
   injection h2 with ha hb;subst ha hb
   have hI:=AX 4 (by simp) h1
   exact {hp with o1:=yW hI 0,o2:=yW hI 1,o3:=yW hI 2,o4:=yW hI 3}
 rcases aR hx with hx | hx
 · injection hx with hx
   obtain ⟨a,s,h1,h2⟩:=aK hx
   injection h2 with ha hb;subst ha hb
   exact {hp with over:=qJ (by decide) h1}
 rcases aR hx with hx | hx
 · injection hx with hx
   obtain ⟨a,s,h1,h2⟩:=aK hx
   injection h2 with ha hb;subst ha hb
   exact {hp with roll:=qJ (by decide) h1}
 cases hx
theorem qK: ∀(f:Nat) {d:Nat} {l:List C3.Tok} {p:Prod} {sn:List (List Int)} {q:Prod × List (List Int)} {r:List C3.Tok},LY p->aN f d l p sn= .ok q r->LY q.1
 | 0,d,l,p,sn,q,r,hp,h=>by cases h
 | f+1,d,l,p,sn,q,r,hp,h=>by
   unfold aN at h
   split at h
   · injection h with a b
     subst a;exact hp
   · split at h
     · split at h
       · cases h
       · obtain ⟨a,s,h1,h2⟩:=aK h
         exact qK f (qK f hp h1) h2
     · split at h
       · cases h
       · split at h
         · cases h
         · rename_i x hx
           split at h
           · cases h
           · obtain ⟨a,s,h1,h2⟩:=aK h
             obtain ⟨a2,s2,h3,h4⟩:=aK h2
             exact qK f (FH hp hx h1) h4
end pJ
namespace Gc
open Go Go.Proofs VL D1 eG kb kj C8 jt c5 dj C1 C2 C3 C4 C6 oO pQ oY Jq N' CR FA Oa vL kn yU
theorem mG {f d:Nat} {l:List C3.Tok} {p:Prod} {sn:List (List Int)}:aN (f+1) d l p sn=
 if (aC l).1.kind=3/\(aC l).1.text=[125] then .ok (p,sn) (aC l).2
 else if (aC l).1.kind=3/\(aC l).1.text=[123] then
  if 32<=d then .err (aC l).1.at_ 8 else (aN f (d+1) (aC l).2 p sn).bind fun q r=>aN f d r q.1 q.2
 else if (aC l).1.kind≠1 then .err (aC l).1.at_ 7
 else match aZ (aC l).1.text p (aC l).2 with
  | none=> .err (aC l).1.at_ 7
  | some x=>if (aC l).1.text∈sn/\j5 (aC l).1.text=false then .err (aC l).1.at_ 7
    else x.bind fun q r=>(aF 3 [59] r).bind fun _ r=>aN f d r q ((aC l).1.text::sn):=rfl
theorem qL {l:List C3.Tok} (h:bb l) (hk:(aC l).1.kind≠0):(aC l).2.length<l.length:=by
 obtain ⟨_,t,r,hd,e1,e2⟩:=bw h
 rw [e1] at hk
 rcases e2 with ⟨e2,_⟩ | ⟨_,e2⟩
 · exact absurd e2 hk
 · rw [e2,hd];simp
theorem xz (m:Nat) {e:List (V × V)} {sn:List (List Int)} (h:FE e sn): ∀x∈e,plainKey (VL.sys Tryz.prog m []).P 9 x.1=true:=by
 obtain ⟨l,rfl,_⟩:=h
 intro x hx
 obtain ⟨p,_,rfl⟩:=List.mem_map.1 hx
 rfl
set_option maxHeartbeats 8000000 in
theorem KR: ∀(f:Nat) (d:Nat) (hd:d<=32) (k:List C3.Tok) (i:Nat) (hk:bb (k.drop i)) (hl:oD k) (hf:(k.drop i).length<f) (x:PS) (sn:List (List Int)) (sQ:FE x.sn sn) (hx:x.p.au.length+x.p.late.length+x.p.cT.length+(k.drop i).length<1000000) (K:Out->List af->Prop)
 (h0: ∀q r i' x',aN f d (k.drop i) x.p sn= .ok q r->k.drop i'=r->bb r->x'.p=q.1->FE x'.sn q.2->q.1.au.length+q.1.late.length+q.1.cT.length+r.length<1000000->K (.ret (.aQ [])) (xO true true true k i' x'))
 (h1: ∀p e i' x',aN f d (k.drop i) x.p sn= .err p e->K (.dw (gd p e)) (xO true true true k i' x')),
 ah Tryz.prog 44 [.ptr 0 0,.int .i64 d] (xO false false false k i x) K:=by
 intro f
 induction f using Nat.strongRecOn with
 | ind f Si=>
 intro d hd k i hk hl hf x sn sQ hx K h0 h1
 let S:Nat × Nat × PS × List (List Int)->St:=fun q=>⟨(.ptr 0 0:: .int .i64 d:: .undef:: .undef:: .undef:: .undef:: .undef:: .undef:: .undef:: .undef:: .undef:: .undef:: .undef:: .undef:: .undef:: .undef:: .undef:: .undef:: .undef:: .undef:: .undef:: .undef:: .undef:: .undef:: .undef:: .undef:: .undef:: .undef:: .undef:: .undef:: .undef:: .undef:: .undef:: .undef:: .undef:: .undef:: .undef:: .undef:: .undef:: .undef:: .undef:: .undef:: .undef:: .undef:: .undef:: .undef:: .undef:: .undef:: .undef:: .undef:: .undef:: .undef:: .undef:: .undef:: .undef:: .undef:: .undef:: .undef:: .undef:: .undef:: .undef:: .undef:: .undef:: .undef:: .undef:: .undef:: .undef:: .undef:: .undef:: .undef:: .undef:: .undef:: .undef:: .undef:: .undef:: .undef:: .undef::[]),xO true true true k q.2.1 q.2.2.1,0,[]⟩
 have Vn:=fun i hk x=> @H5 k i hk hl.1 x
 have FI:=fun i hk x=> @mE k i hk hl x 3 [59] (by decide)
 unfold xO
 refine ag [] 5 Tryz.func44 (by rfl) (by rfl) ?_
 conv=>whnf
 (repeat' first | (refine aa [] ?_;conv=>whnf) | (refine two ?_ ?_<;>intro g<;>(try simp only[an]at g)<;>(conv=>whnf)) | (refine And.intro rfl ?_;conv=>whnf) | fail)
 refine aA.enter (s':=S (f,i,x,sn)) (ae ?_ (.cons (.eq rfl) (.cons .av (.cons .av (.cons .av (.cons (.eq rfl) .nil))))) rfl rfl rfl)
  (aA.dC S (fun q=>q.1) (fun q=>q.1<=f/\bb (k.drop q.2.1)/\(k.drop q.2.1).length<q.1/\FE q.2.2.1.sn q.2.2.2/\q.2.2.1.p.au.length+q.2.2.1.p.late.length+q.2.2.1.p.cT.length+(k.drop q.2.1).length<1000000/\aN f d (k.drop i) x.p sn=aN q.1 d (k.drop q.2.1) q.2.2.1.p q.2.2.2) ?_ (f,i,x,sn) ⟨Nat.le_refl _,hk,hf,sQ,hx,rfl⟩)
 · (repeat' first | exact aq.nil | refine aq.cons VW.undef ?_ | refine aq.cons (VW.eq rfl) ?_ | refine aq.cons (VW.eq (congrArg (V.int .i64) (by (try simp only);rw [wrap64 (by omega) (by omega)];(try omega)))) ?_)
 rintro ⟨q,i1,x1,lL⟩ ⟨hq,iM,Vo,FJ,Dm,he⟩ ih
 simp only at hq iM Vo FJ Dm he
 obtain ⟨q,rfl⟩: ∃q',q=q'+1:=⟨q - 1,by omega⟩
 obtain ⟨C',_⟩:=bw iM
 have hm:=fK iM
 have aJ:=qL iM
 rw [mG] at he
 have Dz:=Vn i1 iM x1
 obtain ⟨t,ht⟩: ∃t,(aC (k.drop i1)).1=t:=⟨_,rfl⟩
 obtain ⟨l2,sI⟩: ∃l,(aC (k.drop i1)).2=l:=⟨_,rfl⟩
 rw [ht,sI] at he Dz
 rw [ht,sI] at aJ
 rw [sI] at C'
 rw [ht] at hm
 have hb:=hl.2 t hm
 have e1:(az t.text).toList=(⟨#[125]⟩:ByteArray).toList↔t.text=[125]:=bd hb.1 (b:=[125]) (by decide)
 have e2:(az t.text).toList=(⟨#[123]⟩:ByteArray).toList↔t.text=[123]:=bd hb.1 (b:=[123]) (by decide)
 have hA:t.kind=3->t.text=[125]->aN f d (k.drop i) x.p sn= .ok (x1.p,lL) l2:=fun a b=>by rw [he,if_pos ⟨a,b⟩]
 have hB:t.kind=3->t.text=[123]->32<=d->aN f d (k.drop i) x.p sn= .err t.at_ 8:=fun a b c=>by rw [he,if_neg (fun h=>by rw [b] at h;exact absurd h.2 (by decide)),if_pos ⟨a,b⟩,if_pos c]
 have hC:t.kind=3->t.text=[123]-> ¬32<=d->aN f d (k.drop i) x.p sn=(aN q (d+1) l2 x1.p lL).bind fun q' r=>aN q d r q'.1 q'.2:=fun a b c=>by rw [he,if_neg (fun h=>by rw [b] at h;exact absurd h.2 (by decide)),if_pos ⟨a,b⟩,if_neg c]
 have hD: ¬(t.kind=3/\t.text=[125])-> ¬(t.kind=3/\t.text=[123])-> ¬t.kind=1->aN f d (k.drop i) x.p sn= .err t.at_ 7:=fun a b c=>by rw [he,if_neg a,if_neg b,if_pos c]
 have Ob:t.kind=1-> ∀w, ¬(t.kind=3/\t.text=w):=fun a w h=>by omega
 have hE:t.kind=1->aZ t.text x1.p l2=none->aN f d (k.drop i) x.p sn= .err t.at_ 7:=fun a c=>by rw [he,if_neg (Ob a _),if_neg (Ob a _),if_neg (fun h=>h a),c]
 have hF:t.kind=1-> ∀y,aZ t.text x1.p l2=some y->(t.text∈lL/\j5 t.text=false)->aN f d (k.drop i) x.p sn= .err t.at_ 7:=fun a y c e=>by rw [he,if_neg (Ob a _),if_neg (Ob a _),if_neg (fun h=>h a),c];exact if_pos e
 have hG:t.kind=1-> ∀y,aZ t.text x1.p l2=some y-> ¬(t.text∈lL/\j5 t.text=false)->aN f d (k.drop i) x.p sn=y.bind fun q' r=>(aF 3 [59] r).bind fun _ r=>aN q d r q' (t.text::lL):=fun a y c e=>by rw [he,if_neg (Ob a _),if_neg (Ob a _),if_neg (fun h=>h a),c];exact if_neg e
 clear he
 have Ij:=iG FJ hb.1
 have Sj:=KJ FJ hb.1
 dsimp only [S]
 refine ai [] ?_;conv=>whnf
 (repeat' first | (refine aa [] ?_;conv=>whnf) | (refine two ?_ ?_<;>intro g<;>(try simp only[an]at g)<;>(conv=>whnf)) | (refine And.intro rfl ?_;conv=>whnf) | fail)
 refine Dz _ (fun i2 yL=> ?_)
 conv=>whnf
 (repeat' first | (refine aa [] ?_;conv=>whnf) | (refine two ?_ ?_<;>intro g<;>(try simp only[an,e1,e2]at g)<;>(conv=>whnf)) | (refine And.intro rfl ?_;conv=>whnf) | (refine ie t _ ?_;conv=>whnf) | fail)
 all_goals first
  | (exfalso;omega)
  | exact h1 _ 8 i2 x1 (hB (by assumption) (by assumption) (by omega))
  | exact h1 _ 7 i2 x1 (hD (by rintro ⟨a,b⟩;contradiction) (by rintro ⟨a,b⟩;contradiction) (by assumption))
  | skip
 · refine ⟨_,aB.refl,?_⟩
   conv=>whnf
   (repeat' first | (refine aa [] ?_;conv=>whnf) | (refine two ?_ ?_<;>intro g<;>(try simp only[an]at g)<;>(conv=>whnf)) | (refine And.intro rfl ?_;conv=>whnf) | fail)
   have hz:=aJ (by omega)
   refine h0 _ _ i2 x1 (hA (by assumption) (by assumption)) yL C' rfl FJ ?_
   simp only;omega
 all_goals have Lj:=aJ (by omega)
 · rename_i g1 g2 g3
   have PG: ¬32<=d:=by omega
   rw [show IntKind.i64.wrap ((d:Int)+1)=((d+1:Nat):Int) by rw [wrap64 (by omega) (by omega)];omega]
   refine Si q (by omega) (d+1) (by omega) k i2 (by rw [yL];exact C') hl (by rw [yL];omega) x1 lL FJ (by rw [yL];omega) _ (fun q' r i3 x3 e sX yX Ea Nv Ik=> ?_) (fun p e i3 x3 yX=> ?_)
   · rw [yL] at e
     have hle:=jv _ e
     have hinv:q<=f/\bb (k.drop i3)/\(k.drop i3).length<q/\FE x3.sn q'.2/\x3.p.au.length+x3.p.late.length+x3.p.cT.length+(k.drop i3).length<1000000/\aN f d (k.drop i) x.p sn=aN q d (k.drop i3) x3.p q'.2:=by
      rw [sX,Ea]
      refine ⟨by omega,yX,by omega,Nv,Ik,?_⟩
      rw [hC (by assumption) (by assumption) PG,e];rfl
     conv=>whnf
     (repeat' first | (refine aa [] ?_;conv=>whnf) | (refine two ?_ ?_<;>intro g<;>(try simp only[an]at g)<;>(conv=>whnf)) | (refine And.intro rfl ?_;conv=>whnf) | fail)
     refine fH (src:=[0,1,2,3,4]) ?_;conv=>whnf
     refine aA.enter (s':=S (q,i3,x3,q'.2)) (ae ?_ (.cons (.eq rfl) (.cons (.eq rfl) (.cons (.eq rfl) (.cons (.eq rfl) (.cons (.eq rfl) .nil))))) rfl rfl rfl) (ih (q,i3,x3,q'.2) hinv (by simp only;omega))
     (repeat' first | exact aq.nil | refine aq.cons VW.undef ?_ | refine aq.cons (VW.eq rfl) ?_ | refine aq.cons (VW.eq (congrArg (V.int .i64) (by (try simp only);rw [wrap64 (by omega) (by omega)];(try omega)))) ?_)
   · rw [yL] at yX
     have hp:=h1 p e i3 x3 (by rw [hC (by assumption) (by assumption) PG,yX];rfl)
     conv=>whnf
     (repeat' first | (refine aa [] ?_;conv=>whnf) | (refine two ?_ ?_<;>intro g<;>(try simp only[an]at g)<;>(conv=>whnf)) | (refine And.intro rfl ?_;conv=>whnf) | fail)
     exact hp
 all_goals
  have iM:t.kind=1:=by assumption
  refine FG t.text hb.1 k i2 x1 _ (fun fn ka hex=> ?_) (fun PH=> ?_)
  rotate_left
  · have hp:=h1 t.at_ 7 i2 x1 (hE iM (PH _ _))
    conv=>whnf
    (repeat' first | (refine aa [] ?_;conv=>whnf) | (refine two ?_ ?_<;>intro g<;>(try simp only[an]at g)<;>(conv=>whnf)) | (refine And.intro rfl ?_;conv=>whnf) | (refine ak (by decide+kernel) ?_;conv=>whnf) | (refine ie t _ ?_;conv=>whnf) | fail)
    first
     | exact hp
     | done
  obtain ⟨y,hy⟩:=hex x1.p l2
  have oJ:=xz 5 FJ
  by_cases hs:t.text∈lL
  all_goals first | rw [if_pos hs] at Ij | rw [if_neg hs] at Ij
  all_goals
   conv=>whnf
   (repeat' first | (refine aa [] ?_;conv=>whnf) | (refine two ?_ ?_<;>intro g<;>(try simp only[an]at g)<;>(conv=>whnf)) | (refine And.intro rfl ?_;conv=>whnf) | (refine ak (by decide+kernel) ?_;conv=>whnf) | (refine ie t _ ?_;conv=>whnf) | (refine ⟨oJ,_,Ij,?_⟩;conv=>whnf) | fail)
   all_goals first
    | exact h1 _ 7 i2 x1 (hF iM y hy ⟨hs,by assumption⟩)
    | skip
  all_goals
   have JN: ¬(t.text∈lL/\j5 t.text=false):=by
    rintro ⟨a,b⟩
    first | exact hs a | exact Bool.noConfusion (b.symm.trans (show j5 t.text=true by assumption))
   refine ⟨oJ,?_⟩
   conv=>whnf
   (repeat' first | (refine aa [] ?_;conv=>whnf) | (refine two ?_ ?_<;>intro g<;>(try simp only[an]at g)<;>(conv=>whnf)) | (refine And.intro rfl ?_;conv=>whnf) | (refine ak (by decide+kernel) ?_;conv=>whnf) | fail)
   refine ka k i2 (by rw [yL];exact C') hl {x1 with sn:=pR (.str (az t.text)) (.bool true) x1.sn} (by simp only;omega) _ (fun q' r i3 x3 e sX yX Ea Nv=> ?_) (fun p e i3 x3 yX=> ?_)
   rotate_left
   · rw [yL] at yX
     have hp:=h1 p e i3 x3 (by rw [hG iM _ yX JN];rfl)
     conv=>whnf
     (repeat' first | (refine aa [] ?_;conv=>whnf) | (refine two ?_ ?_<;>intro g<;>(try simp only[an]at g)<;>(conv=>whnf)) | (refine And.intro rfl ?_;conv=>whnf) | fail)
     exact hp
   rw [yL] at e
   have hle:=hY e rfl
   simp only at hle
   have hq:=hG iM _ e JN
   have hq:aN f d (k.drop i) x.p sn=(aF 3 [59] r).bind fun _ r=>aN q d r q' (t.text::lL):=hq
   conv=>whnf
   (repeat' first | (refine aa [] ?_;conv=>whnf) | (refine two ?_ ?_<;>intro g<;>(try simp only[an]at g)<;>(conv=>whnf)) | (refine And.intro rfl ?_;conv=>whnf) | fail)
   refine FI i3 (by rw [sX];exact yX) x3 _ (fun t4 r4 i4 e4 Eb Jr WM=> ?_) (fun p e i4 Jr=> ?_)
   rotate_left
   · rw [sX] at Jr
     have hp:=h1 p e i4 x3 (by rw [hq,Jr];rfl)
     conv=>whnf
     (repeat' first | (refine aa [] ?_;conv=>whnf) | (refine two ?_ ?_<;>intro g<;>(try simp only[an]at g)<;>(conv=>whnf)) | (refine And.intro rfl ?_;conv=>whnf) | fail)
     exact hp
   rw [sX] at e4
   have PI:=gG e4
   have hinv:q<=f/\bb (k.drop i4)/\(k.drop i4).length<q/\FE x3.sn (t.text::lL)/\x3.p.au.length+x3.p.late.length+x3.p.cT.length+(k.drop i4).length<1000000/\aN f d (k.drop i) x.p sn=aN q d (k.drop i4) x3.p (t.text::lL):=by
    rw [Eb,Ea,Nv]
    refine ⟨by omega,Jr,by omega,Sj,by omega,?_⟩
    rw [hq,e4];rfl
   conv=>whnf
   (repeat' first | (refine aa [] ?_;conv=>whnf) | (refine two ?_ ?_<;>intro g<;>(try simp only[an]at g)<;>(conv=>whnf)) | (refine And.intro rfl ?_;conv=>whnf) | fail)
   refine fH (src:=[0,1,2,3,4]) ?_;conv=>whnf
   refine aA.enter (s':=S (q,i4,x3,t.text::lL)) (ae ?_ (.cons (.eq rfl) (.cons (.eq rfl) (.cons (.eq rfl) (.cons (.eq rfl) (.cons (.eq rfl) .nil))))) rfl rfl rfl) (ih (q,i4,x3,t.text::lL) hinv (by simp only;omega))
   (repeat' first | exact aq.nil | refine aq.cons VW.undef ?_ | refine aq.cons (VW.eq rfl) ?_ | refine aq.cons (VW.eq (congrArg (V.int .i64) (by (try simp only);rw [wrap64 (by omega) (by omega)];(try omega)))) ?_)
end Gc
namespace Il
open Go Go.Proofs VL D1 eG C1 C2 C3 C4 C6 oY
theorem mH: ∀(f:Nat) (l:List Int) (i:Nat) (k:List C3.Tok),cU f l i= .ok k->bb k/\(∀t∈k,(∀x∈t.text,x∈l)/\t.text.length<=l.length/\(t.kind≠0->t.text≠[])/\t.at_<=i+l.length)/\k.length<=l.length+1
 | 0,l,i,k,h=>by cases h
 | f+1,l,i,k,h=>by
   have hs:=lE false l
   unfold cU at h
   split at h
   · injection h with h;subst h
     refine ⟨rfl,?_,by simp⟩
     intro t ht
     rw [List.mem_singleton] at ht;subst ht
     refine ⟨by simp,by simp,fun h=>absurd rfl h,?_⟩
     show i+aP false l<=_
     omega
   · rename_i c r hd
     split at h
     · cases h
     · rename_i kd hk
       have hlen:=congrArg List.length hd
       rw [List.length_drop,List.length_cons] at hlen
       have Qv:=congrArg List.length (List.takeWhile_append_dropWhile (p:=bI kd) (l:=r));rw [List.length_append] at Qv
       have sK:kd≠0:=by
        unfold fu at hk
        repeat' split at hk
        all_goals first | (injection hk with hk;omega) | cases hk
       have iA: ∀x,x∈c::r->x∈l:=fun x hx=>List.mem_of_mem_drop (by rw [hd];exact hx)
       cases h2:cU f (r.dropWhile (bI kd)) (i+aP false l+1+(r.takeWhile (bI kd)).length) with
       | bad p=>rw [h2] at h;cases h
       | ok k2=>
         rw [h2] at h
         injection h with h;subst h
         obtain ⟨a1,a2,a3⟩:=mH f _ _ k2 h2
         refine ⟨?_,?_,by rw [List.length_cons];omega⟩
         · cases k2 with
           | nil=>exact a1.elim
           | cons t r=>exact ⟨sK,a1⟩
         · intro t ht
           rcases List.mem_cons.1 ht with rfl | ht
           · refine ⟨fun x hx=>iA x ?_,?_,fun _=>by simp,?_⟩
             · rcases List.mem_cons.1 hx with rfl | hx
               · exact .head _
               · exact .tail _ ((List.takeWhile_sublist _).subset hx)
             · show (c::r.takeWhile (bI kd)).length<=_
               rw [List.length_cons];omega
             · show i+aP false l<=_
               omega
           · obtain ⟨b1,b2,b3,b4⟩:=a2 t ht
             exact ⟨fun x hx=>iA x (.tail _ ((List.dropWhile_sublist _).subset (b1 x hx))),by omega,b3,by omega⟩
theorem vN {l:List Int} {k:List C3.Tok} (h:fp l= .ok k) (hb: ∀x∈l,0<=x/\x<256):bb k/\oD k/\(∀t∈k,t.kind≠0->t.text≠[])/\(∀t∈k,t.at_<=l.length)/\l.length<=20000/\k.length<=l.length+1:=by
 unfold fp at h
 split at h
 · cases h
 · rename_i hn
   split at h
   · rename_i t ht
     injection h with h;subst h
     obtain ⟨a1,a2,a3⟩:=mH _ _ _ _ ht
     refine ⟨a1,⟨by omega,fun t ht=>⟨fun x hx=>hb x ((a2 t ht).1 x hx),?_⟩⟩,fun t ht=>(a2 t ht).2.2.1,fun t ht=> ?_,by omega,a3⟩
     · have:=(a2 t ht).2.1;omega
     · have:=(a2 t ht).2.2.2;omega
   · cases h
theorem vO {l:List Int} {p:Nat} {e:Int} (h:fp l= .error (p,e)):(e=3/\p=0)\/e=6:=by
 unfold fp at h
 split at h
 · injection h with h;injection h with h1 h2;exact .inl ⟨h2.symm,h1.symm⟩
 · split at h
   · cases h
   · injection h with h;injection h with h1 h2;exact .inr h2.symm
end Il
namespace Sk
open Go Go.Proofs VL D1 eG kb kj C8 jt c5 dj C1 C2 C3 C4 C6 D7 oO pQ oY Jq N' CR FA Oa vL kn yU pJ Gc Il
set_option maxHeartbeats 8000000 in
theorem Nw (k:List C3.Tok) (i:Nat) (hk:bb (k.drop i)) (hl:oD k) (x:PS) (sQ:x.sn=[]) (hp:x.p= {bD with over:=1,roll:=1}) (K:Out->List af->Prop)
 (h0: ∀q r i' x',dc (k.drop i)= .ok q r->x'.p=q.1->FE x'.sn q.2->q.1.au.length+q.1.late.length+q.1.cT.length<1000000->K (.ret (.aQ [])) (xO true true true k i' x'))
 (h1: ∀p e i' x',dc (k.drop i)= .err p e->K (.dw (gd p e)) (xO true true true k i' x')/\K (.dw (gd p e)) (xO false false false k i' x')):
 ah Tryz.prog 19 [.ptr 0 0] (xO false false false k i x) K:=by
 have ze:= @mE k i hk hl x 1 cY (by decide)
 unfold xO at ze ⊢
 refine ag [] 5 Tryz.func19 (by rfl) (by rfl) ?_
 conv=>whnf
 (repeat' first | (refine aa [] ?_;conv=>whnf) | (refine two ?_ ?_<;>intro g<;>(try simp only[an]at g)<;>(conv=>whnf)) | (refine And.intro rfl ?_;conv=>whnf) | fail)
 refine ze _ (fun t1 r1 i1 e1 jq Nx BO=> ?_) (fun p e i1 he=> ?_)
 rotate_left
 · have hp:=(h1 p e i1 x (by unfold dc;rw [he];rfl)).2
   conv=>whnf
   (repeat' first | (refine aa [] ?_;conv=>whnf) | (refine two ?_ ?_<;>intro g<;>(try simp only[an]at g)<;>(conv=>whnf)) | (refine And.intro rfl ?_;conv=>whnf) | fail)
   exact hp
 have p7:= @mE k i1 (by rw [jq];exact Nx) hl x 1 [] (by decide)
 rw [jq] at p7
 unfold xO at p7
 have GB:dc (k.drop i)=(aF 1 [] r1).bind fun t l=>
  open Classical in if dX t.text then (aF 3 [123] l).bind fun _ l=>(aN (l.length+1) 1 l {bD with name:=az t.text,over:=1,roll:=1} []).bind fun q l=>(aF 0 [] l).bind fun _ l=> .ok q l
  else .err t.at_ 7:=by unfold dc;rw [e1];rfl
 conv=>whnf
 (repeat' first | (refine aa [] ?_;conv=>whnf) | (refine two ?_ ?_<;>intro g<;>(try simp only[an]at g)<;>(conv=>whnf)) | (refine And.intro rfl ?_;conv=>whnf) | fail)
 refine p7 _ (fun t2 r2 i2 e2 fP l7 EP=> ?_) (fun p e i2 he=> ?_)
 rotate_left
 · have hp:=(h1 p e i2 x (by rw [GB,he];rfl)).2
   conv=>whnf
   (repeat' first | (refine aa [] ?_;conv=>whnf) | (refine two ?_ ?_<;>intro g<;>(try simp only[an]at g)<;>(conv=>whnf)) | (refine And.intro rfl ?_;conv=>whnf) | fail)
   exact hp
 have hb:=hl.2 t2 EP
 have sN:dc (k.drop i)=open Classical in if dX t2.text then (aF 3 [123] r2).bind fun _ l=>(aN (l.length+1) 1 l {bD with name:=az t2.text,over:=1,roll:=1} []).bind fun q l=>(aF 0 [] l).bind fun _ l=> .ok q l
  else .err t2.at_ 7:=by rw [GB,e2];rfl
 conv=>whnf
 (repeat' first | (refine aa [] ?_;conv=>whnf) | (refine two ?_ ?_<;>intro g<;>(try simp only[an]at g)<;>(conv=>whnf)) | (refine And.intro rfl ?_;conv=>whnf) | fail)
 refine HV (az t2.text) (by rw [bO];exact hb.2) _ ?_
 rw [aT hb.1]
 obtain ⟨b,Bm⟩: ∃b,qC t2.text=b:=⟨_,rfl⟩
 rw [Bm]
 cases b with
 | false=>
   have dN: ¬dX t2.text:=fun h=>by rw [(hJ _).2 h] at Bm;cases Bm
   rw [if_neg dN] at sN
   have hp:=(h1 _ _ i2 x sN).2
   conv=>whnf
   (repeat' first | (refine aa [] ?_;conv=>whnf) | (refine two ?_ ?_<;>intro g<;>(try simp only[an]at g)<;>(conv=>whnf)) | (refine And.intro rfl ?_;conv=>whnf) | (refine ie t2 _ ?_;conv=>whnf) | fail)
   exact hp
 | true=>
 have eZ:dX t2.text:=(hJ _).1 Bm
 rw [if_pos eZ] at sN
 obtain ⟨x2,Cu⟩: ∃x2,x2= {x with p:= {x.p with name:=az t2.text}}:=⟨_,rfl⟩
 have Qz:x2.p= {bD with name:=az t2.text,over:=1,roll:=1}:=by rw [Cu];simp only;rw [hp]
 have F6:FE x2.sn []:=by rw [Cu];simp only;rw [sQ];exact KI
 have Lp:= @mE k i2 (by rw [fP];exact l7) hl x2 3 [123] (by decide)
 rw [fP] at Lp
 rw [Cu] at Lp
 unfold xO at Lp
 conv=>whnf
 (repeat' first | (refine aa [] ?_;conv=>whnf) | (refine two ?_ ?_<;>intro g<;>(try simp only[an]at g)<;>(conv=>whnf)) | (refine And.intro rfl ?_;conv=>whnf) | fail)
 refine Lp _ (fun t3 r3 i3 e3 sX yX WN=> ?_) (fun p e i3 he=> ?_)
 rotate_left
 · have hp:=(h1 p e i3 x2 (by rw [sN,he];rfl)).2
   rw [Cu] at hp
   conv=>whnf
   (repeat' first | (refine aa [] ?_;conv=>whnf) | (refine two ?_ ?_<;>intro g<;>(try simp only[an]at g)<;>(conv=>whnf)) | (refine And.intro rfl ?_;conv=>whnf) | fail)
   exact hp
 have Tw:dc (k.drop i)=(aN (r3.length+1) 1 r3 {bD with name:=az t2.text,over:=1,roll:=1} []).bind fun q l=>(aF 0 [] l).bind fun _ l=> .ok q l:=by rw [sN,e3];rfl
 have N2:(k.drop i3).length<=k.length:=by rw [List.length_drop];omega
 have zf:=hl.1
 have Dw:= @KR (r3.length+1) 1 (by decide) k i3 (by rw [sX];exact yX) hl (by rw [sX];omega) x2 [] F6 (by rw [Qz];show 0+0+0+_<_;omega)
 rw [sX] at Dw
 rw [Qz] at Dw
 have Vp:=Dw
 rw [Cu] at Dw
 unfold xO at Dw
 conv=>whnf
 (repeat' first | (refine aa [] ?_;conv=>whnf) | (refine two ?_ ?_<;>intro g<;>(try simp only[an]at g)<;>(conv=>whnf)) | (refine And.intro rfl ?_;conv=>whnf) | fail)
 refine Dw _ (fun q r i4 x4 e4 Eb Jr Vq PJ Jl=> ?_) (fun p e i4 x4 he=> ?_)
 rotate_left
 · have hp:=(h1 p e i4 x4 (by rw [Tw,he];rfl)).1
   conv=>whnf
   (repeat' first | (refine aa [] ?_;conv=>whnf) | (refine two ?_ ?_<;>intro g<;>(try simp only[an]at g)<;>(conv=>whnf)) | (refine And.intro rfl ?_;conv=>whnf) | fail)
   exact hp
 have Tx:dc (k.drop i)=(aF 0 [] r).bind fun _ l=> .ok q l:=by rw [Tw,e4];rfl
 have So:= @mE k i4 (by rw [Eb];exact Jr) hl x4 0 [] (by decide)
 rw [Eb] at So
 unfold xO at So
 conv=>whnf
 (repeat' first | (refine aa [] ?_;conv=>whnf) | (refine two ?_ ?_<;>intro g<;>(try simp only[an]at g)<;>(conv=>whnf)) | (refine And.intro rfl ?_;conv=>whnf) | fail)
 refine So _ (fun t5 r5 i5 e5 WO WQ WR=> ?_) (fun p e i5 he=> ?_)
 rotate_left
 · have hp:=(h1 p e i5 x4 (by rw [Tx,he];rfl)).1
   conv=>whnf
   (repeat' first | (refine aa [] ?_;conv=>whnf) | (refine two ?_ ?_<;>intro g<;>(try simp only[an]at g)<;>(conv=>whnf)) | (refine And.intro rfl ?_;conv=>whnf) | fail)
   exact hp
 have hf:=h0 q r5 i5 x4 (by rw [Tx,e5];rfl) Vq PJ (by omega)
 conv=>whnf
 (repeat' first | (refine aa [] ?_;conv=>whnf) | (refine two ?_ ?_<;>intro g<;>(try simp only[an]at g)<;>(conv=>whnf)) | (refine And.intro rfl ?_;conv=>whnf) | fail)
 exact hf
end Sk
namespace Tz
open Go Go.Proofs VL D1 eG kb kj C8 jt c5 dj C1 C2 C3 C4 C6 D7 oO pQ oY Jq N' CR FA Oa vL kn yU pJ Gc Il Sk
set_option maxHeartbeats 8000000 in
theorem tw (k:List C3.Tok) (i:Nat) (x:PS) (sn:List (List Int)) (sQ:FE x.sn sn) (K:Out->List af->Prop)
 (h1:hQ sn->K (.ret (.bool true)) (xO false false false k i x)) (h0: ¬hQ sn->K (.ret (.bool false)) (xO false false false k i x)):
 ah Tryz.prog 20 [.ptr 0 0] (xO false false false k i x) K:=by
 have oJ:=xz 5 sQ
 have tB:=iG sQ (w:=cK) (by unfold zi;decide)
 have tC:=iG sQ (w:=cL) (by unfold zi;decide)
 have yY:=iG sQ (w:=dK) (by unfold zi;decide)
 have tD:=iG sQ (w:=cM) (by unfold zi;decide)
 have tE:=iG sQ (w:=cN) (by unfold zi;decide)
 have yZ:=iG sQ (w:=dL) (by unfold zi;decide)
 have tF:=iG sQ (w:=cG) (by unfold zi;decide)
 unfold xO at h0 h1 ⊢
 refine ag [] 5 Tryz.func20 (by rfl) (by rfl) ?_
 conv=>whnf
 (repeat' first | (refine aa [] ?_;conv=>whnf) | (refine two ?_ ?_<;>intro g<;>(try simp only[an]at g)<;>(conv=>whnf)) | (refine And.intro rfl ?_;conv=>whnf) | (refine ai [] ?_;conv=>whnf) | (refine ⟨by decide,_,rfl,rfl,?_⟩;conv=>whnf) | (refine ⟨_,aB.refl,?_⟩;conv=>whnf) | fail)
 by_cases jg:cK∈sn
 rotate_left
 · rw [if_neg jg] at tB
   refine ⟨oJ,_,tB,?_⟩
   conv=>whnf
   (repeat' first | (refine aa [] ?_;conv=>whnf) | (refine two ?_ ?_<;>intro g<;>(try simp only[an]at g)<;>(conv=>whnf)) | (refine And.intro rfl ?_;conv=>whnf) | (refine ⟨_,aB.refl,?_⟩;conv=>whnf) | fail)
   exact h0 fun h=>jg h.1
 rw [if_pos jg] at tB
 refine ⟨oJ,_,tB,?_⟩
 conv=>whnf
 (repeat' first | (refine aa [] ?_;conv=>whnf) | (refine two ?_ ?_<;>intro g<;>(try simp only[an]at g)<;>(conv=>whnf)) | (refine And.intro rfl ?_;conv=>whnf) | (refine ai [] ?_;conv=>whnf) | (refine ⟨by decide,_,rfl,rfl,?_⟩;conv=>whnf) | (refine ⟨_,aB.refl,?_⟩;conv=>whnf) | fail)
 by_cases jh:cL∈sn
 rotate_left
 · rw [if_neg jh] at tC
   refine ⟨oJ,_,tC,?_⟩
   conv=>whnf
   (repeat' first | (refine aa [] ?_;conv=>whnf) | (refine two ?_ ?_<;>intro g<;>(try simp only[an]at g)<;>(conv=>whnf)) | (refine And.intro rfl ?_;conv=>whnf) | (refine ⟨_,aB.refl,?_⟩;conv=>whnf) | fail)
   exact h0 fun h=>jh h.2.1
 rw [if_pos jh] at tC
 refine ⟨oJ,_,tC,?_⟩
 conv=>whnf
 (repeat' first | (refine aa [] ?_;conv=>whnf) | (refine two ?_ ?_<;>intro g<;>(try simp only[an]at g)<;>(conv=>whnf)) | (refine And.intro rfl ?_;conv=>whnf) | (refine ai [] ?_;conv=>whnf) | (refine ⟨by decide,_,rfl,rfl,?_⟩;conv=>whnf) | (refine ⟨_,aB.refl,?_⟩;conv=>whnf) | fail)
 by_cases mI:dK∈sn
 rotate_left
 · rw [if_neg mI] at yY
   refine ⟨oJ,_,yY,?_⟩
   conv=>whnf
   (repeat' first | (refine aa [] ?_;conv=>whnf) | (refine two ?_ ?_<;>intro g<;>(try simp only[an]at g)<;>(conv=>whnf)) | (refine And.intro rfl ?_;conv=>whnf) | (refine ⟨_,aB.refl,?_⟩;conv=>whnf) | fail)
   exact h0 fun h=>mI h.2.2.1
 rw [if_pos mI] at yY
 refine ⟨oJ,_,yY,?_⟩
 conv=>whnf
 (repeat' first | (refine aa [] ?_;conv=>whnf) | (refine two ?_ ?_<;>intro g<;>(try simp only[an]at g)<;>(conv=>whnf)) | (refine And.intro rfl ?_;conv=>whnf) | (refine ai [] ?_;conv=>whnf) | (refine ⟨by decide,_,rfl,rfl,?_⟩;conv=>whnf) | (refine ⟨_,aB.refl,?_⟩;conv=>whnf) | fail)
 by_cases ji:cM∈sn
 rotate_left
 · rw [if_neg ji] at tD
   refine ⟨oJ,_,tD,?_⟩
   conv=>whnf
   (repeat' first | (refine aa [] ?_;conv=>whnf) | (refine two ?_ ?_<;>intro g<;>(try simp only[an]at g)<;>(conv=>whnf)) | (refine And.intro rfl ?_;conv=>whnf) | (refine ⟨_,aB.refl,?_⟩;conv=>whnf) | fail)
   exact h0 fun h=>ji h.2.2.2.1
 rw [if_pos ji] at tD
 refine ⟨oJ,_,tD,?_⟩
 conv=>whnf
 (repeat' first | (refine aa [] ?_;conv=>whnf) | (refine two ?_ ?_<;>intro g<;>(try simp only[an]at g)<;>(conv=>whnf)) | (refine And.intro rfl ?_;conv=>whnf) | (refine ai [] ?_;conv=>whnf) | (refine ⟨by decide,_,rfl,rfl,?_⟩;conv=>whnf) | (refine ⟨_,aB.refl,?_⟩;conv=>whnf) | fail)
 by_cases jj:cN∈sn
 rotate_left
 · rw [if_neg jj] at tE
   refine ⟨oJ,_,tE,?_⟩
   conv=>whnf
   (repeat' first | (refine aa [] ?_;conv=>whnf) | (refine two ?_ ?_<;>intro g<;>(try simp only[an]at g)<;>(conv=>whnf)) | (refine And.intro rfl ?_;conv=>whnf) | (refine ⟨_,aB.refl,?_⟩;conv=>whnf) | fail)
   exact h0 fun h=>jj h.2.2.2.2.1
 rw [if_pos jj] at tE
 refine ⟨oJ,_,tE,?_⟩
 conv=>whnf
 (repeat' first | (refine aa [] ?_;conv=>whnf) | (refine two ?_ ?_<;>intro g<;>(try simp only[an]at g)<;>(conv=>whnf)) | (refine And.intro rfl ?_;conv=>whnf) | (refine ai [] ?_;conv=>whnf) | (refine ⟨by decide,_,rfl,rfl,?_⟩;conv=>whnf) | (refine ⟨_,aB.refl,?_⟩;conv=>whnf) | fail)
 by_cases mJ:dL∈sn
 rotate_left
 · rw [if_neg mJ] at yZ
   refine ⟨oJ,_,yZ,?_⟩
   conv=>whnf
   (repeat' first | (refine aa [] ?_;conv=>whnf) | (refine two ?_ ?_<;>intro g<;>(try simp only[an]at g)<;>(conv=>whnf)) | (refine And.intro rfl ?_;conv=>whnf) | (refine ⟨_,aB.refl,?_⟩;conv=>whnf) | fail)
   exact h0 fun h=>mJ h.2.2.2.2.2.1
 rw [if_pos mJ] at yZ
 refine ⟨oJ,_,yZ,?_⟩
 conv=>whnf
 (repeat' first | (refine aa [] ?_;conv=>whnf) | (refine two ?_ ?_<;>intro g<;>(try simp only[an]at g)<;>(conv=>whnf)) | (refine And.intro rfl ?_;conv=>whnf) | (refine ai [] ?_;conv=>whnf) | (refine ⟨by decide,_,rfl,rfl,?_⟩;conv=>whnf) | (refine ⟨_,aB.refl,?_⟩;conv=>whnf) | fail)
 by_cases jk:cG∈sn
 rotate_left
 · rw [if_neg jk] at tF
   refine ⟨oJ,_,tF,?_⟩
   conv=>whnf
   (repeat' first | (refine aa [] ?_;conv=>whnf) | (refine two ?_ ?_<;>intro g<;>(try simp only[an]at g)<;>(conv=>whnf)) | (refine And.intro rfl ?_;conv=>whnf) | (refine ⟨_,aB.refl,?_⟩;conv=>whnf) | fail)
   exact h0 fun h=>jk h.2.2.2.2.2.2
 rw [if_pos jk] at tF
 refine ⟨oJ,_,tF,?_⟩
 conv=>whnf
 (repeat' first | (refine aa [] ?_;conv=>whnf) | (refine two ?_ ?_<;>intro g<;>(try simp only[an]at g)<;>(conv=>whnf)) | (refine And.intro rfl ?_;conv=>whnf) | (refine ai [] ?_;conv=>whnf) | (refine ⟨by decide,_,rfl,rfl,?_⟩;conv=>whnf) | (refine ⟨_,aB.refl,?_⟩;conv=>whnf) | fail)
 exact h1 ⟨jg,jh,mI,ji,jj,mJ,jk⟩
end Tz
namespace LZ
open Go Go.Proofs VL D1 eG kb kj C8 jt c5 dj C1 C2 C3 C4 C6 D7 Nc oO pQ oY Jq N' CR FA Oa vL kn yU pJ Gc Il Sk Tz
def zP:List V:=[.str ⟨#[]⟩,.int .i64 0,.int .i64 0,.int .i64 0,.int .i64 0,.int .i64 0,.int .i64 0,.int .i64 0,.sl [] .ex,.int .i64 0,.int .i64 0,.int .i64 0,.int .i64 0,.int .i64 0,.int .i64 0,.sl [] .ex,.int .i64 0,.int .i64 0,.sl [] .ex]
def pO (l:List V) (a e:Int):List af:=[.cells true 28 l,.cells true 3 [.int .i64 a],.cells true 29 [.int .i64 e]]
theorem vP (a e p f:Int) (K) (h:K true (pO zP p f)):iP Tryz.prog 17 [.ptr 0 0,.ptr 1 0,.ptr 2 0] (pO zP a e) (some (gd p f)) K:=by
 unfold gd
 unfold pO zP at h ⊢
 refine eM [] 3 Tryz.func17 (by rfl) (by rfl) ?_
 conv=>whnf
 refine ⟨rfl,?_⟩
 conv=>whnf
 (repeat' first | (refine aa [] ?_;conv=>whnf) | (refine two ?_ ?_<;>intro g<;>(try simp only[an]at g)<;>(conv=>whnf)) | (refine And.intro rfl ?_;conv=>whnf) | (refine ak (by decide+kernel) ?_;conv=>whnf) | fail)
 exact h
theorem Im (l:List V) (hl:l=zP) (a e:Int) (K) (h:K false (pO l a e)):iP Tryz.prog 17 [.ptr 0 0,.ptr 1 0,.ptr 2 0] (pO l a e) none K:=by
 subst hl
 unfold pO zP at h ⊢
 refine eM [] 3 Tryz.func17 (by rfl) (by rfl) ?_
 conv=>whnf
 refine ⟨rfl,?_⟩
 conv=>whnf
 (repeat' first | (refine aa [] ?_;conv=>whnf) | (refine two ?_ ?_<;>intro g<;>(try simp only[an]at g)<;>(conv=>whnf)) | (refine And.intro rfl ?_;conv=>whnf) | (refine ak (by decide+kernel) ?_;conv=>whnf) | fail)
 exact h
def PK (k:Nat) (p:Prod) (s1 s2 s3:List V):List V:=[.str p.name,.int .i64 p.count,.int .i64 p.m3,.int .i64 p.kind,.int .i64 p.every,.int .i64 p.times,.int .i64 p.b_,.int .i64 p.bW,.bX k 2 0 p.au.length (p.au.length+s1.length),.int .i64 p.kY,.int .i64 p.o1,.int .i64 p.o2,.int .i64 p.o3,.int .i64 p.o4,.int .i64 p.over,.bX (k+1) 2 0 p.late.length (p.late.length+s2.length),.int .i64 p.cap,.int .i64 p.roll,.bX (k+2) 1 0 p.cT.length (p.cT.length+s3.length)]
theorem Io (p:Prod) (s1 s2 s3:List V) (K) (h:K false (pO (PK 3 p s1 s2 s3) 0 0++[.buf false 2 (rL p.au++s1),.buf false 2 (tL p.late++s2),.buf false 1 (iL p.cT++s3)])):
 iP Tryz.prog 17 [.ptr 0 0,.ptr 1 0,.ptr 2 0] (pO (PK 3 p s1 s2 s3) 0 0++[.buf false 2 (rL p.au++s1),.buf false 2 (tL p.late++s2),.buf false 1 (iL p.cT++s3)]) none K:=by
 unfold pO PK at h ⊢
 refine eM [] 6 Tryz.func17 (by rfl) (by rfl) ?_
 conv=>whnf
 refine ⟨rfl,?_⟩
 conv=>whnf
 (repeat' first | (refine aa [] ?_;conv=>whnf) | (refine two ?_ ?_<;>intro g<;>(try simp only[an]at g)<;>(conv=>whnf)) | (refine And.intro rfl ?_;conv=>whnf) | (refine ak (by decide+kernel) ?_;conv=>whnf) | fail)
 exact h
theorem Ny {l:List Rs} {s:List V}:List.take l.length (List.drop 0 (rL l++s))=rL l:=by rw [List.drop_zero,show l.length=(rL l).length by simp [rL],List.take_left]
theorem Nz {l:List Ti} {s:List V}:List.take l.length (List.drop 0 (tL l++s))=tL l:=by rw [List.drop_zero,show l.length=(tL l).length by simp [tL],List.take_left]
theorem NA {l:List Int} {s:List V}:List.take l.length (List.drop 0 (iL l++s))=iL l:=by rw [List.drop_zero,show l.length=(iL l).length by simp [iL],List.take_left]
theorem vQ (i:Nat) (sp:Bool) {m:Nat} {s F:St} (h:St.MK i sp s fun s'=>aB m s' F):aB m s F:=by
 obtain ⟨s',h1,h2⟩:=Av (m:=m) i sp h
 exact h1.trans h2
theorem AY {p:Prod} {a b c:Bool} {s1 s2 s3:List V} {K:Out->List af->Prop} (h:K (.ret (.aQ [dE p,.int .i64 0,.int .i64 0])) []):
 ∃v' iZ,aB 0 ⟨[.aQ [.agg (PK 0 p s1 s2 s3),.int .i64 0,.int .i64 0]],[.buf a 2 (rL p.au++s1),.buf b 2 (tL p.late++s2),.buf c 1 (iL p.cT++s3)],0,[]⟩ ⟨[v'],iZ,0,[]⟩/\K (.ret v') iZ:=by
 refine ⟨.aQ [dE p,.int .i64 0,.int .i64 0],[],?_,h⟩
 unfold PK
 refine vQ 0 false ?_
 conv=>whnf
 refine ⟨by simp [rL],?_⟩
 rw [Ny]
 conv=>whnf
 refine vQ 1 false ?_
 conv=>whnf
 refine ⟨by simp [tL],?_⟩
 rw [Nz]
 conv=>whnf
 refine vQ 2 false ?_
 conv=>whnf
 refine ⟨by simp [iL],?_⟩
 rw [NA]
 conv=>whnf
 exact ae (.cons (.eq rfl) .nil) .nil rfl rfl rfl
theorem hZ {s:List Int} {l:List C3.Tok} {p:Nat} {e:Int} (hl:fp s= .ok l) (h:dc l= .err p e):bo s=(bD,(p:Int),e):=by unfold bo;rw [hl];simp only;rw [h]
theorem rV {s:List Int} {l:List C3.Tok} {q r} (hl:fp s= .ok l) (h:dc l= .ok q r) (hw:hQ q.2) (hc:bA q.1):bo s=(q.1,0,0):=by unfold bo;rw [hl];simp only;rw [h];simp only;rw [if_pos ⟨hw,hc⟩]
theorem AZ {s:List Int} {l:List C3.Tok} {q r} (hl:fp s= .ok l) (h:dc l= .ok q r) (hw: ¬(hQ q.2/\bA q.1)):bo s=(bD,(((aC l).1.at_:Nat):Int),9):=by unfold bo;rw [hl];simp only;rw [h];simp only;rw [if_neg hw]
theorem xA {s:List Int} {p:Nat} {e:Int} (hl:fp s= .error (p,e)):bo s=(bD,(p:Int),e):=by unfold bo;rw [hl]
theorem Sp:LY {bD with over:=1,roll:=1}:=by
 refine ⟨by decide,?_,?_,?_,?_,?_,?_,?_,?_,?_,?_,?_,?_,?_,?_,?_,fun x hx=> ?_,fun x hx=> ?_,fun x hx=> ?_⟩
 all_goals first
  | (unfold bM;decide)
  | (exact absurd hx (by simp [bD]))
theorem Ec {l:List C3.Tok} {q r} (ht: ∀t∈l,t.text.length<1000000) (hl:bb l) (h:dc l= .ok q r):LY q.1:=by
 unfold dc at h
 obtain ⟨a1,s1,h1,h2⟩:=aK h
 obtain ⟨a2,s2,h3,h4⟩:=aK h2
 split at h4
 · obtain ⟨a3,s3,h5,h6⟩:=aK h4
   obtain ⟨a4,s4,h7,h8⟩:=aK h6
   obtain ⟨a5,s5,h9,Lw⟩:=aK h8
   injection Lw with e1 e2
   subst e1
   refine qK _ ?_ h7
   rename_i hn
   have Vr:a2.text.length<=20:=hn.1.2.1
   exact {Sp with name:=by rw [bO];omega}
 · cases h4
set_option maxHeartbeats 8000000 in
theorem y3 (s:ByteArray) (hs:s.size<1000000) (K:Out->List af->Prop)
 (h:K (.ret (.aQ [dE (bo (sB s)).1,.int .i64 (bo (sB s)).2.1,.int .i64 (bo (sB s)).2.2])) []):ah Tryz.prog 10 [.str s] [] K:=by
 refine ah.dv (ag [] 0 Tryz.func10 (by rfl) (by rfl) ?_)
 conv=>whnf
 (repeat' first | (refine aa [] ?_;conv=>whnf) | (refine two ?_ ?_<;>intro g<;>(try simp only[an]at g)<;>(conv=>whnf)) | (refine And.intro rfl ?_;conv=>whnf) | (refine ak (by decide+kernel) ?_;conv=>whnf) | fail)
 refine C8.PC s hs _ (fun l hl=> ?_) (fun p e hl=> ?_)
 rotate_left
 · rw [xA hl] at h
   have he:=vO hl
   conv=>whnf
   (repeat' first | (refine aa [] ?_;conv=>whnf) | (refine two ?_ ?_<;>intro g<;>(try simp only[an]at g)<;>(conv=>whnf)) | (refine And.intro rfl ?_;conv=>whnf) | (refine ak (by decide+kernel) ?_;conv=>whnf) | fail)
   rotate_left
   · exfalso;omega
   · refine Im zP rfl p e _ ?_
     conv=>whnf
     (repeat' first | (refine aa [] ?_;conv=>whnf) | (refine two ?_ ?_<;>intro g<;>(try simp only[an]at g)<;>(conv=>whnf)) | (refine And.intro rfl ?_;conv=>whnf) | fail)
     refine ⟨_,_,ae (.cons (.aQ (.cons (.agg ?_) (.cons (.eq rfl) (.cons (.eq rfl) .nil)))) .nil) .nil rfl rfl rfl,h⟩
     (repeat' first | exact du.nil | refine du.cons VQ.no ?_ | refine du.cons VQ.spare ?_ | refine du.cons (VQ.eq rfl) ?_)
 obtain ⟨fE,c_,bZ,MO,cg,zf⟩:=vN hl (kA s)
 conv=>whnf
 (refine aa [] ?_;conv=>whnf)
 (refine aa [] ?_;conv=>whnf)
 (refine aa [] ?_;conv=>whnf)
 let S1:St:=⟨(.str s:: .undef:: .ptr 0 0:: .ptr 1 0:: .ptr 2 0:: .sl (kL l) .no:: .ptr 4 0:: .undef:: .undef:: .undef:: .undef:: .undef:: .undef:: .undef:: .undef:: .undef:: .undef:: .undef:: .undef:: .undef:: .undef:: .undef:: .undef:: .undef:: .undef:: .undef:: .undef:: .undef:: .undef:: .undef:: .undef:: .undef:: .undef:: .undef:: .undef:: .undef:: .undef:: .undef:: .undef:: .undef:: .undef:: .undef:: .undef:: .undef:: .undef:: .undef:: .undef::[]),pO zP 0 0++[.map [],.cells true 54 [.sl (kL l) .no,.int .i64 0,.str ⟨#[]⟩,.int .i64 0,.int .i64 0,.int .i64 0,.int .i64 0,.int .i64 0,.int .i64 0,.int .i64 0,.bX 5 2 0 0 0,.int .i64 0,.int .i64 0,.int .i64 0,.int .i64 0,.int .i64 0,.int .i64 1,.bX 6 2 0 0 0,.int .i64 0,.int .i64 1,.bX 7 1 0 0 0,.mp 3],.buf false 2 [],.buf false 2 [],.buf false 1 []],0,[(.func 17,[],[.ptr 0 0,.ptr 1 0,.ptr 2 0])]⟩
 refine eU.dv (s':=S1) (aB.trans (iE 4 10 2 none rfl rfl (Nat.zero_le _)) (aB.trans (iE 4 17 2 none rfl rfl (Nat.zero_le _)) (aB.trans (iE 4 20 1 none rfl rfl (Nat.zero_le _)) (ae ?_ (.cons (.eq rfl) (.cons (.eq rfl) (.cons (.eq rfl) (.cons (.eq rfl) (.cons (.eq rfl) (.cons (.eq rfl) (.cons (.eq rfl) (.cons (.eq rfl) .nil)))))))) rfl rfl rfl)))) ?_
 · (repeat' first | exact aq.nil | refine aq.cons VW.undef ?_ | refine aq.cons (VW.eq rfl) ?_)
 dsimp only [S1,pO,zP,List.cons_append,List.nil_append]
 conv=>whnf
 (repeat' first | (refine aa [] ?_;conv=>whnf) | (refine two ?_ ?_<;>intro g<;>(try simp only[an]at g)<;>(conv=>whnf)) | (refine And.intro rfl ?_;conv=>whnf) | fail)
 refine Nw l 0 (by rw [List.drop_zero];exact fE) c_ ⟨{bD with over:=1,roll:=1},[],[],[],[]⟩ rfl rfl _ (fun q r i' x' e hq sQ hz=> ?_) (fun p e i' x' he=> ?_)
 rotate_left
 · rw [List.drop_zero] at he
   rw [hZ hl he] at h
   refine ⟨?_,?_⟩
   all_goals
    conv=>whnf
    (repeat' first | (refine aa [] ?_;conv=>whnf) | (refine two ?_ ?_<;>intro g<;>(try simp only[an]at g)<;>(conv=>whnf)) | (refine And.intro rfl ?_;conv=>whnf) | fail)
    refine vP 0 0 p e _ ?_
    conv=>whnf
    (repeat' first | (refine aa [] ?_;conv=>whnf) | (refine two ?_ ?_<;>intro g<;>(try simp only[an]at g)<;>(conv=>whnf)) | (refine And.intro rfl ?_;conv=>whnf) | fail)
    refine ⟨_,_,ae (.cons (.aQ (.cons (.agg ?_) (.cons (.eq rfl) (.cons (.eq rfl) .nil)))) .nil) .nil rfl rfl rfl,h⟩
    (repeat' first | exact du.nil | refine du.cons VQ.no ?_ | refine du.cons VQ.spare ?_ | refine du.cons (VQ.eq rfl) ?_)
 rw [List.drop_zero] at e
 obtain ⟨_,t,r0,aJ,Bx,_⟩:=bw fE
 have aD:(kL l)[Int.toNat 0]? =some (my t):=by rw [aJ];rfl
 have dN: ¬(hQ q.2/\bA q.1)->K (.ret (.aQ [dE bD,.int .i64 (t.at_:Nat),.int .i64 9])) []:=fun hh=>by rw [AZ hl e hh,Bx] at h;exact h
 have eZ:hQ q.2->bA q.1->K (.ret (.aQ [dE q.1,.int .i64 0,.int .i64 0])) []:=fun a b=>by rw [rV hl e a b] at h;exact h
 have hI:=Ec (fun t ht=>(c_.2 t ht).2) fE e
 rw [←hq] at hI hz dN eZ
 have NB:x'.p.ok:=hI.full (by omega) (by omega) (by omega)
 clear h
 conv=>whnf
 (repeat' first | (refine aa [] ?_;conv=>whnf) | (refine two ?_ ?_<;>intro g<;>(try simp only[an]at g)<;>(conv=>whnf)) | (refine And.intro rfl ?_;conv=>whnf) | fail)
 refine tw l i' x' q.2 sQ _ (fun hw=> ?_) (fun hw=> ?_)
 rotate_left
 · have hf:=dN fun hh=>hw hh.1
   conv=>whnf
   (repeat' first | (refine aa [] ?_;conv=>whnf) | (refine two ?_ ?_<;>intro g<;>(try simp only[an]at g)<;>(conv=>whnf)) | (refine And.intro rfl ?_;conv=>whnf) | (refine ⟨by decide,_,aD,rfl,?_⟩;conv=>whnf) | fail)
   refine vP 0 0 t.at_ 9 _ ?_
   conv=>whnf
   (repeat' first | (refine aa [] ?_;conv=>whnf) | (refine two ?_ ?_<;>intro g<;>(try simp only[an]at g)<;>(conv=>whnf)) | (refine And.intro rfl ?_;conv=>whnf) | fail)
   refine ⟨_,_,ae (.cons (.aQ (.cons (.agg ?_) (.cons (.eq rfl) (.cons (.eq rfl) .nil)))) .nil) .nil rfl rfl rfl,hf⟩
   (repeat' first | exact du.nil | refine du.cons VQ.no ?_ | refine du.cons VQ.spare ?_ | refine du.cons (VQ.eq rfl) ?_)
 conv=>whnf
 (repeat' first | (refine aa [] ?_;conv=>whnf) | (refine two ?_ ?_<;>intro g<;>(try simp only[an]at g)<;>(conv=>whnf)) | (refine And.intro rfl ?_;conv=>whnf) | fail)
 refine ah.nJ ?_
 conv=>whnf
 refine ⟨by simp [rL],?_⟩
 conv=>whnf
 refine ⟨by simp [tL],?_⟩
 conv=>whnf
 refine ⟨by simp [iL],?_⟩
 conv=>whnf
 rw [Ny,Nz,NA]
 refine Kt x'.p NB _ ?_
 conv=>whnf
 refine ⟨rfl,?_⟩
 conv=>whnf
 have F9:bA x'.p->cS x'.p=0:=fun hh=>by unfold cS;rw [if_pos hh]
 have Dp: ¬bA x'.p->cS x'.p=9:=fun hh=>by unfold cS;rw [if_neg hh]
 obtain ⟨cc,KS⟩: ∃cc,cS x'.p=cc:=⟨_,rfl⟩
 rw [KS] at F9 Dp ⊢
 (repeat' first | (refine aa [] ?_;conv=>whnf) | (refine two ?_ ?_<;>intro g<;>(try simp only[an]at g)<;>(conv=>whnf)) | (refine And.intro rfl ?_;conv=>whnf) | (refine ⟨by decide,_,aD,rfl,?_⟩;conv=>whnf) | fail)
 · have hf:=dN fun hh=>g (F9 hh.2)
   refine vP 0 0 t.at_ 9 _ ?_
   conv=>whnf
   (repeat' first | (refine aa [] ?_;conv=>whnf) | (refine two ?_ ?_<;>intro g<;>(try simp only[an]at g)<;>(conv=>whnf)) | (refine And.intro rfl ?_;conv=>whnf) | fail)
   refine ⟨_,_,ae (.cons (.aQ (.cons (.agg ?_) (.cons (.eq rfl) (.cons (.eq rfl) .nil)))) .nil) .nil rfl rfl rfl,hf⟩
   (repeat' first | exact du.nil | refine du.cons VQ.no ?_ | refine du.cons VQ.spare ?_ | refine du.cons (VQ.eq rfl) ?_)
 · have gb:bA x'.p:=by
    by_cases hh:bA x'.p
    · exact hh
    · have:=Dp hh;omega
   have hf:=eZ hw gb
   refine Io x'.p x'.s1 x'.s2 x'.s3 _ ?_
   conv=>whnf
   (repeat' first | (refine aa [] ?_;conv=>whnf) | (refine two ?_ ?_<;>intro g<;>(try simp only[an]at g)<;>(conv=>whnf)) | (refine And.intro rfl ?_;conv=>whnf) | fail)
   exact AY (s1:=x'.s1) (s2:=x'.s2) (s3:=x'.s3) hf
end LZ
namespace PL
open Go Go.Proofs VL D1 eG kb kj xt jt c5 dj C1 C2 C3 C4 C6 D7 oO pQ oY vL kn pJ Gc Il LZ
theorem A0: ∀(f:Nat) (l:List Int) (i p:Nat),l.length<f->cU f l i= .bad p->p<=i+l.length
 | 0,l,i,p,hf,h=>by omega
 | f+1,l,i,p,hf,h=>by
   have hs:=lE false l
   unfold cU at h
   split at h
   · cases h
   · rename_i c r hd
     have hlen:=congrArg List.length hd
     rw [List.length_drop,List.length_cons] at hlen
     split at h
     · injection h with h;omega
     · rename_i kd hk
       have Qv:=congrArg List.length (List.takeWhile_append_dropWhile (p:=bI kd) (l:=r));rw [List.length_append] at Qv
       cases h2:cU f (r.dropWhile (bI kd)) (i+aP false l+1+(r.takeWhile (bI kd)).length) with
       | bad p'=>
         rw [h2] at h
         injection h with h;subst h
         have:=A0 f _ _ p' (by omega) h2
         omega
       | ok k2=>rw [h2] at h;cases h
theorem FK {l:List Int} {p:Nat} {e:Int} (h:fp l= .error (p,e)):p<=l.length:=by
 unfold fp at h
 split at h
 · injection h with h;injection h with h1 h2;omega
 · split at h
   · cases h
   · rename_i p' h'
     injection h with h;injection h with h1 h2
     have:=A0 _ _ _ _ (by omega) h'
     omega
theorem NC {l:List Int} {k:List C3.Tok} (h:fp l= .ok k): ∀t∈k,t.at_<=l.length:=by
 unfold fp at h
 split at h
 · cases h
 · split at h
   · rename_i t ht
     injection h with h;subst h
     obtain ⟨a1,a2,a3⟩:=mH _ _ _ _ ht
     intro t ht
     have:=(a2 t ht).2.2.2;omega
   · cases h
theorem Ed {l:List Int} {k:List C3.Tok} (h:fp l= .ok k):bb k:=by
 unfold fp at h
 split at h
 · cases h
 · split at h
   · rename_i t ht
     injection h with h;subst h
     exact (mH _ _ _ _ ht).1
   · cases h
def Oc (l:List C3.Tok) (p:Nat) (e:Int):Prop:=(e=7\/e=8)/\ ∃t∈l,t.at_=p
theorem qM {l:List C3.Tok} (h:bb l):(aC l).1∈l/\ ∀t∈(aC l).2,t∈l:=by
 obtain ⟨_,t,r,hd,e1,e2⟩:=bw h
 rw [e1]
 subst hd
 refine ⟨by simp,?_⟩
 rcases e2 with ⟨_,e2⟩ | ⟨_,e2⟩<;>rw [e2]
 · exact fun t h=>h
 · exact fun t h=> .tail _ h
theorem Oc.mono {l l':List C3.Tok} {p:Nat} {e:Int} (h:Oc l p e) (hs: ∀t∈l,t∈l'):Oc l' p e:=by
 obtain ⟨h1,t,h2,h3⟩:=h
 exact ⟨h1,t,hs t h2,h3⟩
def GR {α:Type} (l:List C3.Tok):iR α->Prop
 | .ok _ r=>bb r/\ ∀t∈r,t∈l
 | .err p e=>Oc l p e
def Good {α:Type} (f:List C3.Tok->iR α):Prop:= ∀l,bb l->GR l (f l)
theorem GR.mono {α:Type} {l l':List C3.Tok} {x:iR α} (h:GR l x) (hs: ∀t∈l,t∈l'):GR l' x:=by
 cases x with
 | ok a r=>exact ⟨h.1,fun t ht=>hs t (h.2 t ht)⟩
 | err p e=>exact Oc.mono h hs
theorem ft (k:Int) (w:List Int):Good (aF k w):=by
 intro l hl
 obtain ⟨h1,h2⟩:=qM hl
 unfold aF
 split
 · exact ⟨(bw hl).1,h2⟩
 · exact ⟨.inl rfl,_,h1,rfl⟩
theorem bF {α β:Type} {f:List C3.Tok->iR α} {g:α->List C3.Tok->iR β} (hf:Good f) (hg: ∀a,Good (g a)):Good (fun l=>(f l).bind g):=by
 intro l hl
 have h1:=hf l hl
 simp only
 cases hc:f l with
 | err p e=>rw [hc] at h1;exact h1
 | ok a r=>
   rw [hc] at h1
   have h2:=hg a r h1.1
   show GR l (g a r)
   cases th:g a r with
   | err p e=>rw [th] at h2;exact h2.mono h1.2
   | ok b r2=>rw [th] at h2;exact ⟨h2.1,fun t ht=>h1.2 t (h2.2 t ht)⟩
theorem dF {α:Type} (a:α):Good (fun l=>iR.ok a l):=fun l hl=>⟨hl,fun t h=>h⟩
theorem mK {β:Type} {k:Int} {w:List Int} {g:C3.Tok->List C3.Tok->iR β} (hg: ∀l t r,bb l->aF k w l= .ok t r->t∈l->bb r->(∀t∈r,t∈l)->GR l (g t r)):Good (fun l=>(aF k w l).bind g):=by
 intro l hl
 have h1:=ft k w l hl
 obtain ⟨h3,h4⟩:=qM hl
 simp only
 cases hc:aF k w l with
 | err p e=>rw [hc] at h1;exact h1
 | ok a r=>
   rw [hc] at h1
   have ha:a∈l:=by
    unfold aF at hc
    split at hc
    · injection hc with h1 h2;rw [←h1];exact h3
    · cases hc
   exact hg l a r hl hc ha h1.1 h1.2
theorem iH:Good bg:=by
 refine mK fun l t r hl _ ht hr hs=> ?_
 show GR l ((match pH t.text with | some n=>iR.ok n r | none=> .err t.at_ 7))
 split
 · exact ⟨hr,hs⟩
 · exact ⟨.inl rfl,t,ht,rfl⟩
theorem h_ (f:List Int->Int × Int):Good (aL f):=by
 refine mK fun l t r hl _ ht hr hs=> ?_
 split
 · exact ⟨hr,hs⟩
 · exact ⟨.inl rfl,t,ht,rfl⟩
theorem jx (ws:List (List Int)):Good (bJ ws):=by
 refine mK fun l t r hl _ ht hr hs=> ?_
 split
 · exact ⟨hr,hs⟩
 · exact ⟨.inl rfl,t,ht,rfl⟩
theorem vR: ∀(n:Nat) (a:List Int),Good (aV n a)
 | 0,a=>dF a
 | n+1,a=>by
   intro l hl
   have h1:=jx dZ l hl
   obtain ⟨h3,_⟩:=qM hl
   show GR l ((bJ dZ l).bind (fun k r=>if k∈a then .err (aC l).1.at_ 7 else aV n (a++[k]) r))
   cases hc:bJ dZ l with
   | err p e=>rw [hc] at h1;exact h1
   | ok k r=>
     rw [hc] at h1
     show GR l ((if k∈a then iR.err (aC l).1.at_ 7 else aV n (a++[k]) r))
     by_cases hk:k∈a
     · rw [if_pos hk];exact ⟨.inl rfl,_,h3,rfl⟩
     · rw [if_neg hk]
       have h2:=vR n (a++[k]) r h1.1
       cases th:aV n (a++[k]) r with
       | err p e=>rw [th] at h2;exact h2.mono h1.2
       | ok b r2=>rw [th] at h2;exact ⟨h2.1,fun t ht=>h1.2 t (h2.2 t ht)⟩
theorem sw {w:List Int} {p:Prod} {l:List C3.Tok} {x:iR Prod} (hl:bb l) (hx:aZ w p l=some x):GR l (x):=by
 have key: ∀ {f:List C3.Tok->iR Prod},Good f->some (f l)=some x->GR l (x):=fun hf h=>by
  injection h with h
  rw [←h];exact hf l hl
 unfold aZ at hx
 rcases aR hx with hx | hx
 · exact key (bF (jx _) fun _=>dF _) hx
 rcases aR hx with hx | hx
 · exact key (bF (jx _) fun _=>dF _) hx
 rcases aR hx with hx | hx
 · exact key (bF (jx _) fun _=>dF _) hx
 rcases aR hx with hx | hx
 · exact key (bF iH fun _=>dF _) hx
 rcases aR hx with hx | hx
 · exact key (bF iH fun _=>dF _) hx
 rcases aR hx with hx | hx
 · exact key (bF iH fun _=>dF _) hx
 rcases aR hx with hx | hx
 · exact key (bF (h_ _) fun _=>dF _) hx
 rcases aR hx with hx | hx
 · exact key (bF (h_ _) fun _=>dF _) hx
 rcases aR hx with hx | hx
 · exact key (bF iH fun _=>bF (h_ _) fun _=>dF _) hx
 rcases aR hx with hx | hx
 · exact key (bF iH fun _=>bF (h_ _) fun _=>dF _) hx
 rcases aR hx with hx | hx
 · exact key (bF (h_ _) fun _=>dF _) hx
 rcases aR hx with hx | hx
 · exact key (bF (h_ _) fun _=>dF _) hx
 rcases aR hx with hx | hx
 · exact key (bF (vR _ _) fun _=>dF _) hx
 rcases aR hx with hx | hx
 · exact key (bF (jx _) fun _=>dF _) hx
 rcases aR hx with hx | hx
 · exact key (bF (jx _) fun _=>dF _) hx
 cases hx
theorem mL: ∀(f d:Nat) (p:Prod) (sn:List (List Int)) (l:List C3.Tok),bb l->l.length<f->GR l (aN f d l p sn)
 | 0,d,p,sn,l,hl,hf=>by omega
 | f+1,d,p,sn,l,hl,hf=>by
   obtain ⟨h1,h2⟩:=qM hl
   have C':=(bw hl).1
   have aJ:=qL hl
   rw [mG]
   by_cases hA:(aC l).1.kind=3/\(aC l).1.text=[125]
   · rw [if_pos hA];exact ⟨C',h2⟩
   rw [if_neg hA]
   by_cases hB:(aC l).1.kind=3/\(aC l).1.text=[123]
   · rw [if_pos hB]
     have aJ:=aJ (by omega)
     by_cases hd:32<=d
     · rw [if_pos hd];exact ⟨.inr rfl,_,h1,rfl⟩
     rw [if_neg hd]
     have g1:=mL f (d+1) p sn (aC l).2 C' (by omega)
     cases hc:aN f (d+1) (aC l).2 p sn with
     | err p e=>rw [hc] at g1;exact g1.mono h2
     | ok q r=>
       rw [hc] at g1
       have hle:=jv _ hc
       have g2:=mL f d q.1 q.2 r g1.1 (by omega)
       show GR l (aN f d r q.1 q.2)
       cases th:aN f d r q.1 q.2 with
       | err p e=>rw [th] at g2;exact g2.mono fun t ht=>h2 t (g1.2 t ht)
       | ok q2 r2=>rw [th] at g2;exact ⟨g2.1,fun t ht=>h2 t (g1.2 t (g2.2 t ht))⟩
   rw [if_neg hB]
   by_cases hC:(aC l).1.kind=1
   · rw [if_neg (fun h=>h hC)]
     have aJ:=aJ (by omega)
     cases hc:aZ (aC l).1.text p (aC l).2 with
     | none=>exact ⟨.inl rfl,_,h1,rfl⟩
     | some x=>
       show GR l ((if (aC l).1.text∈sn/\j5 (aC l).1.text=false then iR.err (aC l).1.at_ 7 else x.bind fun q r=>(aF 3 [59] r).bind fun _ r=>aN f d r q ((aC l).1.text::sn)))
       by_cases hD:(aC l).1.text∈sn/\j5 (aC l).1.text=false
       · rw [if_pos hD];exact ⟨.inl rfl,_,h1,rfl⟩
       rw [if_neg hD]
       have g1:=sw C' hc
       cases x with
       | err p e=>exact g1.mono h2
       | ok q r=>
         have hle:=(hY hc rfl).1
         have g2:=ft 3 [59] r g1.1
         show GR l ((aF 3 [59] r).bind (fun _ r=>aN f d r q ((aC l).1.text::sn)))
         cases th:aF 3 [59] r with
         | err p e=>rw [th] at g2;exact g2.mono fun t ht=>h2 t (g1.2 t ht)
         | ok t r2=>
           rw [th] at g2
           have Sq:=gG th
           have g3:=mL f d q ((aC l).1.text::sn) r2 g2.1 (by omega)
           show GR l (aN f d r2 q ((aC l).1.text::sn))
           cases TA:aN f d r2 q ((aC l).1.text::sn) with
           | err p e=>rw [TA] at g3;exact g3.mono fun t ht=>h2 t (g1.2 t (g2.2 t ht))
           | ok q2 r3=>rw [TA] at g3;exact ⟨g3.1,fun t ht=>h2 t (g1.2 t (g2.2 t (g3.2 t ht)))⟩
   · rw [if_pos hC];exact ⟨.inl rfl,_,h1,rfl⟩
theorem FL:Good dc:=by
 refine bF (ft _ _) fun _=>mK fun l t r hl _ ht hr hs=> ?_
 by_cases hn:dX t.text
 · rw [if_pos hn]
   have h:Good (fun l=>(aF 3 [123] l).bind fun _ l=>(aN (l.length+1) 1 l {bD with name:=az t.text,over:=1,roll:=1} []).bind fun q l=>(aF 0 [] l).bind fun _ l=>iR.ok q l):=
    bF (ft _ _) fun _=>bF (f:=fun l=>aN (l.length+1) 1 l {bD with name:=az t.text,over:=1,roll:=1} []) (fun l hl=>mL _ _ _ _ l hl (Nat.lt_succ_self _)) fun q=>bF (ft _ _) fun _=>dF q
   have h2:=h r hr
   simp only at h2
   exact h2.mono hs
 · rw [if_neg hn];exact ⟨.inl rfl,t,ht,rfl⟩
theorem Da {l:List C3.Tok} {p:Nat} {e:Int} (hl:bb l) (h:dc l= .err p e):Oc l p e:=by
 have:=FL l hl
 rw [h] at this;exact this
set_option maxHeartbeats 4000000 in
theorem A1 (s:List Int):((bo s).2.2=0/\(bo s).2.1=0)\/(((bo s).2.2=3\/(bo s).2.2=6\/(bo s).2.2=7\/(bo s).2.2=8\/(bo s).2.2=9)/\0<=(bo s).2.1/\(bo s).2.1<=s.length/\(bo s).1=bD):=by
 have hw: ∀ {k w l p e},aF k w l= .err p e->e=7/\p=(aC l).1.at_:=fun {k w l p e} h=>by
  unfold aF at h
  split at h
  · cases h
  · injection h with h1 h2;exact ⟨h2.symm,h1.symm⟩
 unfold bo
 split
 · rename_i p e hl
   rcases vO hl with ⟨h1,h2⟩ | h1
   · exact .inr ⟨.inl h1,by simp only;omega,by simp only;omega,rfl⟩
   · exact .inr ⟨.inr (.inl h1),by simp only;omega,by simp only;have:=FK hl;omega,rfl⟩
 · rename_i l hl
   have dh:=NC hl
   have fE:=Ed hl
   split
   · rename_i p e ht
     obtain ⟨h1,h2⟩:=Da fE ht
     obtain ⟨t,ht,h2⟩:=h2
     have:=dh t ht
     exact .inr ⟨by rcases h1 with h1 | h1<;>simp [h1],by simp only;omega,by simp only;omega,rfl⟩
   · split
     · exact .inl ⟨rfl,rfl⟩
     · have:=dh _ (by have:=fK (k:=l) (i:=0) (by rw [List.drop_zero];exact fE);rw [List.drop_zero] at this;exact this)
       exact .inr ⟨.inr (.inr (.inr (.inr rfl))),by simp only;omega,by simp only;omega,rfl⟩
end PL
namespace ND
open Go Go.Proofs VL D1 eG kb kj C8 jt c5 dj C1 C2 C3 C4 C6 oO pQ oY vL kn
structure RS where
 p:Prod
 s1:List V
 s2:List V
 s3:List V
 h:List (List Int)
 s4:List V
 err:Int
 at_:Int
def rO (a b c d:Bool) (k:List C3.Tok) (i:Nat) (x:RS):List af:=
 [.cells true 60 [.sl (kL k) .no,.int .i64 i,.str x.p.name,.int .i64 x.p.count,.int .i64 x.p.m3,.int .i64 x.p.kind,.int .i64 x.p.every,.int .i64 x.p.times,.int .i64 x.p.b_,.int .i64 x.p.bW,.bX 1 2 0 x.p.au.length (x.p.au.length+x.s1.length),.int .i64 x.p.kY,.int .i64 x.p.o1,.int .i64 x.p.o2,.int .i64 x.p.o3,.int .i64 x.p.o4,.int .i64 x.p.over,.bX 2 2 0 x.p.late.length (x.p.late.length+x.s2.length),.int .i64 x.p.cap,.int .i64 x.p.roll,.bX 3 1 0 x.p.cT.length (x.p.cT.length+x.s3.length),.bX 4 1 0 x.h.length (x.h.length+x.s4.length),.int .i64 x.err,.int .i64 x.at_],
  .buf a 2 (rL x.p.au++x.s1),.buf b 2 (tL x.p.late++x.s2),.buf c 1 (iL x.p.cT++x.s3),.buf d 1 (sL x.h++x.s4)]
abbrev nx (k:List C3.Tok) (i:Nat):C3.Tok:=(aC (k.drop i)).1
theorem sY {k:List C3.Tok} {i:Nat} (hk:bb (k.drop i)):(kL k)[((i:Nat):Int).toNat]? =some (my (nx k i))/\i<k.length:=by
 obtain ⟨_,t,r,hd,e1,e2⟩:=bw hk
 have cV:i<k.length:=by
  have:=congrArg List.length hd
  rw [List.length_drop,List.length_cons] at this;omega
 refine ⟨?_,cV⟩
 have:k[i]? =some t:=by
  have:=congrArg (fun l=>l[0]?) hd
  simpa using this
 rw [Int.toNat_natCast,nx,e1];simp [kL,this]
theorem sx {k:List C3.Tok} {i:Nat} (hk:bb (k.drop i)) (h:(nx k i).kind≠0):k.drop (i+1)=(aC (k.drop i)).2:=by
 obtain ⟨_,t,r,hd,e1,e2⟩:=bw hk
 rw [nx,e1] at h
 rcases e2 with ⟨e2,_⟩ | ⟨_,e3⟩
 · exact absurd e2 h
 · rw [e3, ←List.drop_drop,hd];rfl
set_option maxHeartbeats 2000000 in
theorem mM (k:List C3.Tok) (i:Nat) (x:RS) (hk:x.err=0->bb (k.drop i)) (e:Int) (K:Out->List af->Prop)
 (h0:x.err=0->K (.ret (.aQ [])) (rO false false false false k i {x with err:=e,at_:=(nx k i).at_}))
 (h1:x.err≠0->K (.ret (.aQ [])) (rO false false false false k i x)):
 ah Tryz.prog 27 [.ptr 0 0,.int .i64 e] (rO false false false false k i x) K:=by
 unfold rO at h0 h1 ⊢
 refine ag [] 5 Tryz.func27 (by rfl) (by rfl) ?_
 conv=>whnf
 (repeat' first | (refine aa [] ?_;conv=>whnf) | (refine two ?_ ?_<;>intro g<;>(try simp only[an]at g)<;>(conv=>whnf)) | (refine And.intro rfl ?_;conv=>whnf) | fail)
 · obtain ⟨aD,_⟩:=sY (hk g)
   refine ⟨by omega,_,aD,rfl,?_⟩
   conv=>whnf
   (repeat' first | (refine aa [] ?_;conv=>whnf) | (refine two ?_ ?_<;>intro g<;>(try simp only[an]at g)<;>(conv=>whnf)) | (refine And.intro rfl ?_;conv=>whnf) | fail)
   exact h0 g
 · exact h1 g
set_option maxHeartbeats 2000000 in
theorem Ip (k:List C3.Tok) (i:Nat) (x:RS) (hk:x.err=0->bb (k.drop i)) (hl:oD k) (kd:Int) (w:List Int) (hw: ∀x∈w,0<=x/\x<256) (K:Out->List af->Prop)
 (h1:x.err=0->(nx k i).kind=kd->(nx k i).text=w->K (.ret (.bool true)) (rO false false false false k i x))
 (h0: ¬(x.err=0/\(nx k i).kind=kd/\(nx k i).text=w)->K (.ret (.bool false)) (rO false false false false k i x)):
 ah Tryz.prog 53 [.ptr 0 0,.int .i64 kd,.str (az w)] (rO false false false false k i x) K:=by
 unfold rO at h0 h1 ⊢
 refine ag [] 5 Tryz.func53 (by rfl) (by rfl) ?_
 conv=>whnf
 by_cases he:x.err=0
 · obtain ⟨aD,_⟩:=sY (hk he)
   have hm:=fK (hk he)
   have hb:=hl.2 _ hm
   have e1:(az (nx k i).text).toList=(az w).toList↔(nx k i).text=w:=bd hb.1 hw
   obtain ⟨b,MV⟩: ∃b,((az (nx k i).text).toList==(az w).toList)=b:=⟨_,rfl⟩
   have PM:b=true↔(nx k i).text=w:=by rw [←MV,beq_iff_eq];exact e1
   (repeat' first | (refine aa [] ?_;conv=>whnf) | (refine two ?_ ?_<;>intro g<;>(try simp only[an]at g)<;>(conv=>whnf)) | (refine And.intro rfl ?_;conv=>whnf) | (refine ⟨by omega,_,aD,rfl,?_⟩;conv=>whnf) | fail)
   · rw [MV]
     cases b with
     | true=>exact h1 (by assumption) (by assumption) (PM.1 rfl)
     | false=>exact h0 (fun hh=>by have:=PM.2 hh.2.2;cases this)
   all_goals exact h0 (fun hh=>by first | exact absurd hh.1 (by assumption) | exact absurd hh.2.1 (by assumption))
 · (repeat' first | (refine aa [] ?_;conv=>whnf) | (refine two ?_ ?_<;>intro g<;>(try simp only[an]at g)<;>(conv=>whnf)) | (refine And.intro rfl ?_;conv=>whnf) | fail)
   all_goals first
    | exact h0 (fun hh=>he hh.1)
    | exact absurd (by assumption) he
set_option maxHeartbeats 2000000 in
theorem Ee (k:List C3.Tok) (i:Nat) (x:RS) (hk:x.err=0->bb (k.drop i)) (hl:oD k) (kd:Int) (Vs:kd≠0) (w:List Int) (hw: ∀x∈w,0<=x/\x<256) (Ph:w≠[]) (K:Out->List af->Prop)
 (h0:x.err=0-> ∀t r i',aF kd w (k.drop i)= .ok t r->k.drop i'=r->bb r->K (.ret (.aQ [])) (rO false false false false k i' x))
 (h1:x.err=0-> ∀p:Nat,aF kd w (k.drop i)= .err p 7->K (.ret (.aQ [])) (rO false false false false k i {x with err:=7,at_:=p}))
 (h2:x.err≠0->K (.ret (.aQ [])) (rO false false false false k i x)):
 ah Tryz.prog 23 [.ptr 0 0,.int .i64 kd,.str (az w)] (rO false false false false k i x) K:=by
 have L0:= @Ip k i x hk hl kd w hw
 have F5:= @mM k i x hk 7
 unfold rO at*
 refine ag [] 5 Tryz.func23 (by rfl) (by rfl) ?_
 conv=>whnf
 (repeat' first | (refine aa [] ?_;conv=>whnf) | (refine two ?_ ?_<;>intro g<;>(try simp only[an]at g)<;>(conv=>whnf)) | (refine And.intro rfl ?_;conv=>whnf) | fail)
 refine L0 _ (fun he e1 e2=> ?_) (fun hn=> ?_)
 · obtain ⟨aD,cV⟩:=sY (hk he)
   have iN:=hl.1
   conv=>whnf
   (repeat' first | (refine aa [] ?_;conv=>whnf) | (refine two ?_ ?_<;>intro g<;>(try simp only[an]at g)<;>(conv=>whnf)) | (refine And.intro rfl ?_;conv=>whnf) | fail)
   rw [wrap64 (by omega) (by omega)]
   exact h0 he _ _ (i+1) (by unfold aF;rw [if_pos ⟨e1,.inr e2⟩]) (sx (hk he) (by rw [e1];exact Vs)) (bw (hk he)).1
 · conv=>whnf
   (repeat' first | (refine aa [] ?_;conv=>whnf) | (refine two ?_ ?_<;>intro g<;>(try simp only[an]at g)<;>(conv=>whnf)) | (refine And.intro rfl ?_;conv=>whnf) | fail)
   refine F5 _ (fun he=> ?_) (fun he=> ?_)
   · conv=>whnf
     (repeat' first | (refine aa [] ?_;conv=>whnf) | (refine two ?_ ?_<;>intro g<;>(try simp only[an]at g)<;>(conv=>whnf)) | (refine And.intro rfl ?_;conv=>whnf) | fail)
     exact h1 he _ (by unfold aF;rw [if_neg (fun hh=>hn ⟨he,hh.1,hh.2.resolve_left Ph⟩)])
   · conv=>whnf
     (repeat' first | (refine aa [] ?_;conv=>whnf) | (refine two ?_ ?_<;>intro g<;>(try simp only[an]at g)<;>(conv=>whnf)) | (refine And.intro rfl ?_;conv=>whnf) | fail)
     exact h2 he
set_option maxHeartbeats 2000000 in
theorem A2 (k:List C3.Tok) (i:Nat) (x:RS) (hi:i<1000000) (K:Out->List af->Prop)
 (h:K (.ret (.aQ [])) (rO false false false false k (i+1) x)):
 ah Tryz.prog 24 [.ptr 0 0,.bool true] (rO false false false false k i x) K:=by
 unfold rO at*
 refine ag [] 5 Tryz.func24 (by rfl) (by rfl) ?_
 conv=>whnf
 (repeat' first | (refine aa [] ?_;conv=>whnf) | (refine two ?_ ?_<;>intro g<;>(try simp only[an]at g)<;>(conv=>whnf)) | (refine And.intro rfl ?_;conv=>whnf) | fail)
 rw [wrap64 (by omega) (by omega)]
 exact h
set_option maxHeartbeats 2000000 in
theorem vS (k:List C3.Tok) (i:Nat) (x:RS) (hk:x.err=0->bb (k.drop i)) (K:Out->List af->Prop)
 (h0:x.err=0->K (.ret (.aQ [])) (rO false false false false k i {x with err:=7,at_:=(nx k i).at_}))
 (h1:x.err≠0->K (.ret (.aQ [])) (rO false false false false k i x)):
 ah Tryz.prog 24 [.ptr 0 0,.bool false] (rO false false false false k i x) K:=by
 have F5:= @mM k i x hk 7
 unfold rO at*
 refine ag [] 5 Tryz.func24 (by rfl) (by rfl) ?_
 conv=>whnf
 (repeat' first | (refine aa [] ?_;conv=>whnf) | (refine two ?_ ?_<;>intro g<;>(try simp only[an]at g)<;>(conv=>whnf)) | (refine And.intro rfl ?_;conv=>whnf) | fail)
 refine F5 _ (fun he=> ?_) (fun he=> ?_)
 · conv=>whnf
   (repeat' first | (refine aa [] ?_;conv=>whnf) | (refine two ?_ ?_<;>intro g<;>(try simp only[an]at g)<;>(conv=>whnf)) | (refine And.intro rfl ?_;conv=>whnf) | fail)
   exact h0 he
 · conv=>whnf
   (repeat' first | (refine aa [] ?_;conv=>whnf) | (refine two ?_ ?_<;>intro g<;>(try simp only[an]at g)<;>(conv=>whnf)) | (refine And.intro rfl ?_;conv=>whnf) | fail)
   exact h1 he
set_option maxHeartbeats 2000000 in
theorem oz (k:List C3.Tok) (i:Nat) (x:RS) (hk:x.err=0->bb (k.drop i)) (K:Out->List af->Prop)
 (h1:x.err=0->(nx k i).kind=2->K (.ret (.str (az (nx k i).text))) (rO false false false false k i x))
 (h0: ¬(x.err=0/\(nx k i).kind=2)->K (.ret (.str ⟨#[]⟩)) (rO false false false false k i x)):
 ah Tryz.prog 116 [.ptr 0 0] (rO false false false false k i x) K:=by
 unfold rO at*
 refine ag [] 5 Tryz.func116 (by rfl) (by rfl) ?_
 conv=>whnf
 by_cases he:x.err=0
 · obtain ⟨aD,_⟩:=sY (hk he)
   (repeat' first | (refine aa [] ?_;conv=>whnf) | (refine two ?_ ?_<;>intro g<;>(try simp only[an]at g)<;>(conv=>whnf)) | (refine And.intro rfl ?_;conv=>whnf) | (refine ⟨by omega,_,aD,rfl,?_⟩;conv=>whnf) | fail)
   all_goals first
    | exact h1 (by assumption) (by assumption)
    | exact h0 (fun hh=>by first | exact absurd hh.1 (by assumption) | exact absurd hh.2 (by assumption))
 · (repeat' first | (refine aa [] ?_;conv=>whnf) | (refine two ?_ ?_<;>intro g<;>(try simp only[an]at g)<;>(conv=>whnf)) | (refine And.intro rfl ?_;conv=>whnf) | fail)
   all_goals first
    | exact h0 (fun hh=>he hh.1)
    | exact absurd (by assumption) he
theorem Iq {ws:List (List Int)} {j:Nat} {w:List Int} (hj:ws[j]? =some w) (hn:w ∉ ws.take j):ws.idxOf w=j:=by
 have eO:j<ws.length:=by
  rcases Nat.lt_or_ge j ws.length with h | h
  · exact h
  · rw [List.getElem?_eq_none h] at hj;cases hj
 have hd:ws.drop j=w::ws.drop (j+1):=by
  rw [List.drop_eq_getElem_cons eO]
  rw [List.getElem?_eq_getElem eO] at hj
  injection hj with hj;rw [hj]
 conv=>lhs;rw [←List.take_append_drop j ws,hd]
 rw [List.idxOf_append,if_neg hn,List.idxOf_cons_self,List.length_take];omega
set_option maxHeartbeats 2000000 in
theorem oE (k:List C3.Tok) (i:Nat) (x:RS) (hk:x.err=0->bb (k.drop i)) (hl:oD k) (ws:List (List Int)) (Sa:eX ws) (hn:ws.length<1000) (K:Out->List af->Prop)
 (h0:x.err=0-> ∀n r i',bJ ws (k.drop i)= .ok n r->k.drop i'=r->bb r->K (.ret (.int .i64 (n - 1))) (rO false false false false k i' x))
 (h1:x.err=0-> ∀p:Nat,bJ ws (k.drop i)= .err p 7->K (.ret (.int .i64 0)) (rO false false false false k i {x with err:=7,at_:=p}))
 (h2:x.err≠0->K (.ret (.int .i64 0)) (rO false false false false k i x)):
 ah Tryz.prog 88 [.ptr 0 0,.sl (sL ws) .no] (rO false false false false k i x) K:=by
 have nC:(sL ws).length=ws.length:=by simp [sL]
 have L0:=fun w hw=> @Ip k i x hk hl 1 w hw
 have F5:= @mM k i x hk 7
 let S:Nat->St:=fun j=>⟨(.ptr 0 0:: .sl (sL ws) .no:: .undef:: .undef:: .int .i64 0:: .int .i64 (j:Nat):: .undef:: .undef:: .undef:: .undef:: .undef:: .undef:: .undef:: .undef:: .undef:: .undef:: .undef:: .undef:: .undef:: .undef:: .undef:: .undef:: .undef:: .undef:: .undef:: .undef:: .undef:: .undef::[]),rO false false false false k i x,0,[]⟩
 unfold rO at L0 F5 h0 h1 h2 ⊢
 refine ag [] 5 Tryz.func88 (by rfl) (by rfl) ?_
 conv=>whnf
 (repeat' first | (refine aa [] ?_;conv=>whnf) | (refine two ?_ ?_<;>intro g<;>(try simp only[an]at g)<;>(conv=>whnf)) | (refine And.intro rfl ?_;conv=>whnf) | fail)
 refine aA.enter (s':=S 0) (ae ?_ (.cons (.eq rfl) (.cons (.eq rfl) (.cons (.eq rfl) (.cons (.eq rfl) (.cons (.eq rfl) .nil))))) rfl rfl rfl)
  (aA.dC S (fun j=>ws.length - j) (fun j=>j<=ws.length/\(x.err=0->(nx k i).kind=1->(nx k i).text ∉ ws.take j)) ?_ 0 ⟨by omega,by simp⟩)
 · (repeat' first | exact aq.nil | refine aq.cons VW.undef ?_ | refine aq.cons (VW.eq rfl) ?_)
 rintro j ⟨hj,hinv⟩ ih
 refine ai [] ?_;conv=>whnf
 (repeat' first | (refine aa [] ?_;conv=>whnf) | (refine two ?_ ?_<;>intro g<;>(try simp only[an]at g)<;>(conv=>whnf)) | (refine And.intro rfl ?_;conv=>whnf) | fail)
 · have eO:j<ws.length:=by omega
   have aD:(sL ws)[((j:Nat):Int).toNat]? =some (.str (az ws[j])):=by rw [Int.toNat_natCast];simp [sL,List.getElem?_eq_getElem eO]
   have dB:ws[j]∈ws:=List.getElem_mem _
   have TB:ws[j]? =some ws[j]:=List.getElem?_eq_getElem eO
   obtain ⟨w,p7⟩: ∃w,ws[j]=w:=⟨_,rfl⟩
   have kW:ws.take (j+1)=ws.take j++[w]:=by rw [List.take_succ_eq_append_getElem eO,p7]
   rw [p7] at aD dB TB
   have wj:IntKind.i64.wrap ((j:Int)+1)=((j+1:Nat):Int):=by rw [wrap64 (by omega) (by omega)];omega
   refine ⟨by omega,_,aD,rfl,?_⟩
   conv=>whnf
   (repeat' first | (refine aa [] ?_;conv=>whnf) | (refine two ?_ ?_<;>intro g<;>(try simp only[an]at g)<;>(conv=>whnf)) | (refine And.intro rfl ?_;conv=>whnf) | fail)
   refine L0 w (Sa w dB) _ (fun he e1 e2=> ?_) (fun hn=> ?_)
   · obtain ⟨_,cV⟩:=sY (hk he)
     have iN:=hl.1
     have Dz:=hinv he e1
     rw [e2] at Dz
     have qf:=Iq TB Dz
     have hf:=h0 he (j+1:Nat) _ (i+1) (by
      unfold bJ
      have FI:aF 1 [] (k.drop i)= .ok (nx k i) (aC (k.drop i)).2:=by unfold aF;rw [if_pos ⟨e1,.inl rfl⟩]
      rw [FI]
      show (if _ then _ else _)=_
      rw [if_pos (by rw [e2];exact dB),e2,qf]) (sx (hk he) (by rw [e1];decide)) (bw (hk he)).1
     rw [show (((j+1:Nat):Int) - 1)=(j:Int) by omega] at hf
     conv=>whnf
     (repeat' first | (refine aa [] ?_;conv=>whnf) | (refine two ?_ ?_<;>intro g<;>(try simp only[an]at g)<;>(conv=>whnf)) | (refine And.intro rfl ?_;conv=>whnf) | fail)
     rw [wrap64 (by omega) (by omega)]
     refine ⟨_,aB.refl,?_⟩;conv=>whnf
     (repeat' first | (refine aa [] ?_;conv=>whnf) | (refine two ?_ ?_<;>intro g<;>(try simp only[an]at g)<;>(conv=>whnf)) | (refine And.intro rfl ?_;conv=>whnf) | fail)
     exact hf
   · conv=>whnf
     (repeat' first | (refine aa [] ?_;conv=>whnf) | (refine two ?_ ?_<;>intro g<;>(try simp only[an]at g)<;>(conv=>whnf)) | (refine And.intro rfl ?_;conv=>whnf) | fail)
     exact ⟨S (j+1),ae (by rw [wj];(repeat' first | exact aq.nil | refine aq.cons VW.undef ?_ | refine aq.cons (VW.eq rfl) ?_)) (.cons (.eq rfl) (.cons (.eq rfl) (.cons (.eq rfl) (.cons (.eq rfl) (.cons (.eq rfl) .nil))))) rfl rfl rfl,ih (j+1) ⟨by omega,fun a b=>by
      rw [kW];simp only [List.mem_append,List.mem_singleton,not_or]
      exact ⟨hinv a b,fun e=>hn ⟨a,b,e⟩⟩⟩ (by omega)⟩
 · have eO:j=ws.length:=by omega
   subst eO
   rw [List.take_length] at hinv
   refine ⟨_,aB.refl,?_⟩;conv=>whnf
   (repeat' first | (refine aa [] ?_;conv=>whnf) | (refine two ?_ ?_<;>intro g<;>(try simp only[an]at g)<;>(conv=>whnf)) | (refine And.intro rfl ?_;conv=>whnf) | fail)
   refine F5 _ (fun he=> ?_) (fun he=> ?_)
   · have hf:=h1 he (nx k i).at_ (by
      unfold bJ
      by_cases e1:(nx k i).kind=1
      · have FI:aF 1 [] (k.drop i)= .ok (nx k i) (aC (k.drop i)).2:=by unfold aF;rw [if_pos ⟨e1,.inl rfl⟩]
        rw [FI]
        show (if _ then _ else _)=_
        rw [if_neg (hinv he e1)]
      · have FI:aF 1 [] (k.drop i)= .err (nx k i).at_ 7:=by unfold aF;rw [if_neg (fun hh=>e1 hh.1)]
        rw [FI];rfl)
     conv=>whnf
     (repeat' first | (refine aa [] ?_;conv=>whnf) | (refine two ?_ ?_<;>intro g<;>(try simp only[an]at g)<;>(conv=>whnf)) | (refine And.intro rfl ?_;conv=>whnf) | fail)
     exact hf
   · have hf:=h2 he
     conv=>whnf
     (repeat' first | (refine aa [] ?_;conv=>whnf) | (refine two ?_ ?_<;>intro g<;>(try simp only[an]at g)<;>(conv=>whnf)) | (refine And.intro rfl ?_;conv=>whnf) | fail)
     exact hf
end ND
namespace Od
open Go Go.Proofs VL D1 eG kb kj wg LQ MW C8 jt c5 dj C1 C2 C3 C4 C6 oO pQ Kz oY CR FA vL kn ND
def y4 (l:List Int):Int:=if l=[] then -1 else match pH l with
 | some n=>n
 | none=> -1
theorem KU {l:List Int} (h:l=[]\/ ¬((∀x∈l,cw x)/\l.length<=9/\(2<=l.length->l.head?≠some 48))):y4 l= -1:=by
 unfold y4
 rcases h with h | h
 · rw [if_pos h]
 · split
   · rfl
   · unfold pH;rw [if_neg h]
theorem Ir {l:List Int} (h0:l≠[]) (h:(∀x∈l,cw x)/\l.length<=9/\(2<=l.length->l.head?≠some 48)):y4 l=vl l:=by
 unfold y4
 rw [if_neg h0]
 unfold pH;rw [if_pos h]
set_option maxHeartbeats 2000000 in
theorem Is (s:ByteArray) (hs:s.size<1000000) (K:Out->List af->Prop) (h:K (.ret (.int .i64 (y4 (sB s)))) []):ah Tryz.prog 115 [.str s] [] K:=by
 have nC:=bh s
 obtain ⟨l,hl⟩: ∃l,sB s=l:=⟨_,rfl⟩
 have dN:(l=[]\/ ¬((∀x∈l,cw x)/\l.length<=9/\(2<=l.length->l.head?≠some 48)))->K (.ret (.int .i64 (-1))) []:=fun hh=>by rw [hl,KU hh] at h;exact h
 have eZ:l≠[]->((∀x∈l,cw x)/\l.length<=9/\(2<=l.length->l.head?≠some 48))->K (.ret (.int .i64 (vl l:Nat))) []:=fun h0 hh=>by rw [hl,Ir h0 hh] at h;exact h
 clear h
 rw [hl] at nC
 let S:Nat->St:=fun i=>⟨(.str s:: .undef:: .int .i64 0:: .int .i64 (vl (l.take i):Nat):: .int .i64 (i:Nat):: .undef:: .undef:: .undef:: .undef:: .undef:: .undef:: .undef:: .undef:: .undef:: .undef:: .undef:: .undef:: .undef:: .undef:: .undef:: .undef:: .undef:: .undef:: .undef:: .undef:: .undef:: .undef:: .undef:: .undef:: .undef:: .undef:: .undef:: .undef:: .undef:: .undef:: .undef:: .undef:: .undef:: .undef:: .undef:: .undef:: .undef:: .undef::[]),[],0,[]⟩
 refine ag [] 0 Tryz.func115 (by rfl) (by rfl) ?_
 conv=>whnf
 have qf: ∀(i:Nat),i<l.length-> ∃x,l[i]? =some x:=fun i hi=>⟨_,List.getElem?_eq_getElem hi⟩
 have Qw: ∀x,l[0]? =some x->l.head?=some x:=fun x hx=>by rw [List.head?_eq_getElem?];exact hx
 (repeat' first | (refine aa [] ?_;conv=>whnf) | (refine two ?_ ?_<;>intro g<;>(try simp only[an]at g)<;>(conv=>whnf)) | (refine And.intro rfl ?_;conv=>whnf) | fail)
 · exact dN (.inl (List.length_eq_zero_iff.1 (by omega)))
 · exact dN (.inr fun hh=>by omega)
 · obtain ⟨x,hx⟩:=qf 0 (by omega)
   have Ss:=Qw x hx
   refine aU (x:=x) (by omega) (by rw [hl];exact hx) fun c hc=> ?_
   conv=>whnf
   (repeat' first | (refine aa [] ?_;conv=>whnf) | (refine two ?_ ?_<;>intro g<;>(try simp only[an]at g)<;>(conv=>whnf)) | (refine And.intro rfl ?_;conv=>whnf) | fail)
   · rename_i g
     exact dN (.inr fun hh=>hh.2.2 (by omega) (by rw [Ss, ←hc];simp only [Option.some.injEq];omega))
   · rename_i g
     have A3:l≠[]/\l.length<=9/\(2<=l.length->l.head?≠some 48):=⟨fun e=>by rw [e] at nC;simp at nC;omega,by omega,fun _ e=>by rw [Ss] at e;injection e with e;omega⟩
     refine aA.enter (s':=S 0) (ae ?_ .nil rfl rfl rfl) (aA.dC S (fun j=>l.length - j) (fun j=>j<=l.length/\ ∀x∈l.take j,cw x) ?_ 0 ⟨by omega,by simp⟩)
     · (repeat' first | exact aq.nil | refine aq.cons VW.undef ?_ | refine aq.cons (VW.eq rfl) ?_)
     rintro j ⟨hj,hinv⟩ ih
     refine ai [] ?_;conv=>whnf
     (repeat' first | (refine aa [] ?_;conv=>whnf) | (refine two ?_ ?_<;>intro g<;>(try simp only[an]at g)<;>(conv=>whnf)) | (refine And.intro rfl ?_;conv=>whnf) | fail)
     · have eO:j<l.length:=by omega
       obtain ⟨x,hx⟩:=qf j eO
       have aJ:l.take (j+1)=l.take j++[x]:=by
        rw [List.take_add_one,hx];rfl
       have dB:x∈l:=List.mem_of_getElem? hx
       have Vt:=kA s x (by rw [hl];exact dB)
       refine aU (x:=x) (by omega) (by rw [hl,Int.toNat_natCast];exact hx) fun c hc=> ?_
       conv=>whnf
       (repeat' first | (refine aa [] ?_;conv=>whnf) | (refine two ?_ ?_<;>intro g<;>(try simp only[an]at g)<;>(conv=>whnf)) | (refine And.intro rfl ?_;conv=>whnf) | fail)
       refine mr _ _ ?_
       obtain ⟨b,Ky⟩: ∃b,decide (cw ((c.toNat:Nat):Int))=b:=⟨_,rfl⟩
       rw [Ky]
       cases b with
       | false=>
         have kX: ¬cw x:=by rw [←hc];exact of_decide_eq_false Ky
         conv=>whnf
         (repeat' first | (refine aa [] ?_;conv=>whnf) | (refine two ?_ ?_<;>intro g<;>(try simp only[an]at g)<;>(conv=>whnf)) | (refine And.intro rfl ?_;conv=>whnf) | fail)
         refine ⟨_,aB.refl,?_⟩;conv=>whnf
         (repeat' first | (refine aa [] ?_;conv=>whnf) | (refine two ?_ ?_<;>intro g<;>(try simp only[an]at g)<;>(conv=>whnf)) | (refine And.intro rfl ?_;conv=>whnf) | fail)
         exact dN (.inr fun hh=>kX (hh.1 x dB))
       | true=>
         have PN:cw x:=by rw [←hc];exact of_decide_eq_true Ky
         conv=>whnf
         (repeat' first | (refine aa [] ?_;conv=>whnf) | (refine two ?_ ?_<;>intro g<;>(try simp only[an]at g)<;>(conv=>whnf)) | (refine And.intro rfl ?_;conv=>whnf) | fail)
         refine aU (x:=x) (by omega) (by rw [hl,Int.toNat_natCast];exact hx) fun c2 th=> ?_
         conv=>whnf
         (repeat' first | (refine aa [] ?_;conv=>whnf) | (refine two ?_ ?_<;>intro g<;>(try simp only[an]at g)<;>(conv=>whnf)) | (refine And.intro rfl ?_;conv=>whnf) | fail)
         have Su:=mY (l.take j) hinv
         have hp:10^(l.take j).length<=10^9:=Nat.pow_le_pow_right (by omega) (by simp;omega)
         have NF:=PN
         unfold cw at NF
         have wn:IntKind.i64.wrap (IntKind.i64.wrap (10*((vl (l.take j):Nat):Int))+IntKind.i64.wrap (IntKind.u8.wrap (((c2.toNat:Nat):Int) - 48)))=(vl (l.take (j+1)):Nat):=by
          rw [show IntKind.u8.wrap (((c2.toNat:Nat):Int) - 48)=x - 48 by rw [IntKind.wrap_u8];omega,wrap64 (x:=x - 48) (by omega) (by omega),wrap64 (x:=10*((vl (l.take j):Nat):Int)) (by omega) (by omega),wrap64 (by omega) (by omega),aJ,cX];omega
         have wj:IntKind.i64.wrap ((j:Int)+1)=((j+1:Nat):Int):=by rw [wrap64 (by omega) (by omega)];omega
         exact ⟨S (j+1),ae (by rw [wj,wn];(repeat' first | exact aq.nil | refine aq.cons VW.undef ?_ | refine aq.cons (VW.eq rfl) ?_)) .nil rfl rfl rfl,ih (j+1) ⟨by omega,fun y hy=>by
          rw [aJ] at hy
          rcases List.mem_append.1 hy with hy | hy
          · exact hinv y hy
          · simp at hy;subst hy;exact PN⟩ (by omega)⟩
     · have eO:j=l.length:=by omega
       subst eO
       have hf:=eZ A3.1 ⟨fun x hx=>hinv x (by rw [List.take_length];exact hx),A3.2⟩
       rw [List.take_length]
       refine ⟨_,aB.refl,?_⟩;conv=>whnf
       (repeat' first | (refine aa [] ?_;conv=>whnf) | (refine two ?_ ?_<;>intro g<;>(try simp only[an]at g)<;>(conv=>whnf)) | (refine And.intro rfl ?_;conv=>whnf) | fail)
       exact hf
 · have A3:l≠[]/\l.length<=9/\(2<=l.length->l.head?≠some 48):=⟨fun e=>by rw [e] at nC;simp at nC;omega,by omega,fun _ e=>by omega⟩
   refine aA.enter (s':=S 0) (ae ?_ .nil rfl rfl rfl) (aA.dC S (fun j=>l.length - j) (fun j=>j<=l.length/\ ∀x∈l.take j,cw x) ?_ 0 ⟨by omega,by simp⟩)
   · (repeat' first | exact aq.nil | refine aq.cons VW.undef ?_ | refine aq.cons (VW.eq rfl) ?_)
   rintro j ⟨hj,hinv⟩ ih
   refine ai [] ?_;conv=>whnf
   (repeat' first | (refine aa [] ?_;conv=>whnf) | (refine two ?_ ?_<;>intro g<;>(try simp only[an]at g)<;>(conv=>whnf)) | (refine And.intro rfl ?_;conv=>whnf) | fail)
   · have eO:j<l.length:=by omega
     obtain ⟨x,hx⟩:=qf j eO
     have aJ:l.take (j+1)=l.take j++[x]:=by
      rw [List.take_add_one,hx];rfl
     have dB:x∈l:=List.mem_of_getElem? hx
     have Vt:=kA s x (by rw [hl];exact dB)
     refine aU (x:=x) (by omega) (by rw [hl,Int.toNat_natCast];exact hx) fun c hc=> ?_
     conv=>whnf
     (repeat' first | (refine aa [] ?_;conv=>whnf) | (refine two ?_ ?_<;>intro g<;>(try simp only[an]at g)<;>(conv=>whnf)) | (refine And.intro rfl ?_;conv=>whnf) | fail)
     refine mr _ _ ?_
     obtain ⟨b,Ky⟩: ∃b,decide (cw ((c.toNat:Nat):Int))=b:=⟨_,rfl⟩
     rw [Ky]
     cases b with
     | false=>
       have kX: ¬cw x:=by rw [←hc];exact of_decide_eq_false Ky
       conv=>whnf
       (repeat' first | (refine aa [] ?_;conv=>whnf) | (refine two ?_ ?_<;>intro g<;>(try simp only[an]at g)<;>(conv=>whnf)) | (refine And.intro rfl ?_;conv=>whnf) | fail)
       refine ⟨_,aB.refl,?_⟩;conv=>whnf
       (repeat' first | (refine aa [] ?_;conv=>whnf) | (refine two ?_ ?_<;>intro g<;>(try simp only[an]at g)<;>(conv=>whnf)) | (refine And.intro rfl ?_;conv=>whnf) | fail)
       exact dN (.inr fun hh=>kX (hh.1 x dB))
     | true=>
       have PN:cw x:=by rw [←hc];exact of_decide_eq_true Ky
       conv=>whnf
       (repeat' first | (refine aa [] ?_;conv=>whnf) | (refine two ?_ ?_<;>intro g<;>(try simp only[an]at g)<;>(conv=>whnf)) | (refine And.intro rfl ?_;conv=>whnf) | fail)
       refine aU (x:=x) (by omega) (by rw [hl,Int.toNat_natCast];exact hx) fun c2 th=> ?_
       conv=>whnf
       (repeat' first | (refine aa [] ?_;conv=>whnf) | (refine two ?_ ?_<;>intro g<;>(try simp only[an]at g)<;>(conv=>whnf)) | (refine And.intro rfl ?_;conv=>whnf) | fail)
       have Su:=mY (l.take j) hinv
       have hp:10^(l.take j).length<=10^9:=Nat.pow_le_pow_right (by omega) (by simp;omega)
       have NF:=PN
       unfold cw at NF
       have wn:IntKind.i64.wrap (IntKind.i64.wrap (10*((vl (l.take j):Nat):Int))+IntKind.i64.wrap (IntKind.u8.wrap (((c2.toNat:Nat):Int) - 48)))=(vl (l.take (j+1)):Nat):=by
        rw [show IntKind.u8.wrap (((c2.toNat:Nat):Int) - 48)=x - 48 by rw [IntKind.wrap_u8];omega,wrap64 (x:=x - 48) (by omega) (by omega),wrap64 (x:=10*((vl (l.take j):Nat):Int)) (by omega) (by omega),wrap64 (by omega) (by omega),aJ,cX];omega
       have wj:IntKind.i64.wrap ((j:Int)+1)=((j+1:Nat):Int):=by rw [wrap64 (by omega) (by omega)];omega
       exact ⟨S (j+1),ae (by rw [wj,wn];(repeat' first | exact aq.nil | refine aq.cons VW.undef ?_ | refine aq.cons (VW.eq rfl) ?_)) .nil rfl rfl rfl,ih (j+1) ⟨by omega,fun y hy=>by
        rw [aJ] at hy
        rcases List.mem_append.1 hy with hy | hy
        · exact hinv y hy
        · simp at hy;subst hy;exact PN⟩ (by omega)⟩
   · have eO:j=l.length:=by omega
     subst eO
     have hf:=eZ A3.1 ⟨fun x hx=>hinv x (by rw [List.take_length];exact hx),A3.2⟩
     rw [List.take_length]
     refine ⟨_,aB.refl,?_⟩;conv=>whnf
     (repeat' first | (refine aa [] ?_;conv=>whnf) | (refine two ?_ ?_<;>intro g<;>(try simp only[an]at g)<;>(conv=>whnf)) | (refine And.intro rfl ?_;conv=>whnf) | fail)
     exact hf
end Od
