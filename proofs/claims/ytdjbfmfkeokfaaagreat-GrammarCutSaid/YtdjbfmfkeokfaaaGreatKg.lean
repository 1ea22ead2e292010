/- Part Kg of the proof: GC2 GC3 PO1. -/
import Derived.Test.YtdjbfmfkeokfaaaGreatKf
import Derived.Test.YtdjbfmfkeokfaaaGreatKd
set_option linter.unusedVariables false
set_option linter.unusedSimpArgs false
set_option maxRecDepth 100000
namespace TQ
open Go Go.Proofs VL D1 D2 B2 B8 J7 Kw eG kb kj pG wg pP xt jt HF Jn Ga c5 dj C1 C2 C3 C4 C6 oO H2 pQ oY vL kn pJ Gc Il LZ Sz QB Qd PL Of P1 P2 QM QJ QL NW
theorem Dg {t:Int × List Int} (h:cJ t=true) {x:Int} (hx:x∈t.2):x≠123/\x≠125:=by
 obtain ⟨k,a⟩:=t
 cases a with
 | nil=>cases hx
 | cons c w=>
   unfold cJ at h
   simp only [Bool.or_eq_true,Bool.and_eq_true,List.all_eq_true] at h
   rcases h with ⟨⟨_,h1⟩,h2⟩ | ⟨⟨_,h1⟩,h2⟩
   · rcases List.mem_cons.1 hx with e | hh
     · have:=(dY c).1 h1;omega
     · rcases (oA x).1 (h2 x hh) with h | h | h
       · have:=(dY x).1 h;omega
       · have:=(dt x).1 h;omega
       · omega
   · rcases List.mem_cons.1 hx with e | hh
     · have:=(dt c).1 h1;omega
     · rcases (qA x).1 (h2 x hh) with h | h | h | h | h
       · have:=(dt x).1 h;omega
       all_goals omega
theorem Et: ∀ts:List (Int × List Int),(∀t∈ts,cJ t=true)-> ∀x∈II ts,x≠123/\x≠125
 | [],_,x,hx=>by simp [II] at hx;omega
 | [(k,a)],h,x,hx=>by
   rcases List.mem_append.1 hx with hx | hx
   · exact Dg (h _ (.head _)) hx
   · simp at hx;omega
 | (k,a)::t::r,h,x,hx=>by
  rcases List.mem_append.1 hx with hx | hx
  · exact Dg (h _ (.head _)) hx
  · rcases List.mem_cons.1 hx with hx | hx
    · omega
    · exact Et (t::r) (fun t ht=>h t (.tail _ ht)) x hx
theorem I8 {p:Prod} (h:bA p):125 ∉ o9 p/\(o9 p).count 123=1:=by
 have hn: ∀x∈sB p.name,x≠123/\x≠125:=fun x hx=>Dg (Er h.1.1.1) hx
 have hc: ∀x∈(cls p).flatMap zj,x≠123/\x≠125:=fun x hx=>by
  obtain ⟨ts,ht,hx⟩:=List.mem_flatMap.1 hx
  unfold zj at hx
  rcases List.mem_append.1 hx with hx | hx
  · rcases List.mem_append.1 hx with hx | hx
    · simp at hx;omega
    · exact Et ts (I2 h ts ht).1 x hx
  · simp at hx;omega
 constructor
 · intro hh
   unfold o9 at hh
   simp only [List.mem_append,List.mem_cons,List.not_mem_nil,or_false] at hh
   rcases hh with (((hh | hh) | hh) | hh) | hh
   · revert hh;decide
   · omega
   · exact (hn _ hh).2 rfl
   · omega
   · exact (hc _ hh).2 rfl
 · unfold o9
   simp only [List.count_append]
   have z1:cY.count 123=0:=by decide
   have z2:([32]:List Int).count 123=0:=by decide
   have z3:(sB p.name).count 123=0:=List.count_eq_zero.2 fun hh=>(hn _ hh).1 rfl
   have z4:([32,123,10]:List Int).count 123=1:=by decide
   have z5:((cls p).flatMap zj).count 123=0:=List.count_eq_zero.2 fun hh=>(hc _ hh).1 rfl
   omega
theorem F1 {p:Prod} (h:bA p) (hl:(eF p).length<=20000) {k:Nat} (hk:k+2<=(eF p).length): ∃q:Nat,q<=k/\bo ((eF p).take k)=(bD,(q:Int),7):=by
 have hb:=pL p
 have Bl:(eF p).length=(o9 p).length+2:=by rw [hb];simp
 have ht:(eF p).take k=(o9 p).take k:=by rw [hb,List.take_append_of_le_length (by omega)]
 obtain ⟨h1,h2⟩:=I8 h
 have hz:=(I7 h).take k
 obtain ⟨q,h3,h4⟩:=F0 ((eF p).take k) hz (by rw [List.length_take];omega) (by rw [ht];exact fun hh=>h1 (List.mem_of_mem_take hh)) (by rw [ht, ←h2];exact (List.take_sublist _ _).count_le _)
 exact ⟨q,by rw [List.length_take] at h3;omega,h4⟩
end TQ
namespace SR
open Go Go.Proofs VL D1 D2 B2 B8 J7 Kw eG kb kj pG wg pP xt jt HF Jn Ga c5 dj C1 C2 C3 C4 C6 oO H2 pQ oY vL kn pJ Gc Il LZ Sz QB Qd PL Of P1 P2 QM TQ QJ TP QL NW
theorem vZ (s:ByteArray):bK s=(sB s).map (V.int .u8):=by unfold bK sB;rw [List.map_map];rfl
theorem P' (s:ByteArray): ∀x∈sB s,0<=x/\x<256:=by
 intro x hx
 unfold sB at hx
 obtain ⟨b,_,rfl⟩:=List.mem_map.1 hx
 have:=b.toNat_lt
 omega
theorem Qa (a b:Int):0<=nf .xor .u8 a b/\nf .xor .u8 a b<256:=by
 unfold nf
 have h: ∀x:Int,0<=IntKind.u8.wrap x/\IntKind.u8.wrap x<256:=fun x=>by
  have:IntKind.u8.wrap x=x %256:=by unfold IntKind.wrap;simp [IntKind.bits,IntKind.signed]
  omega
 exact h _
theorem I9 (b:Bool) (hb:b=true) (K:Out->List af->Prop) (h:K (.ret (.bool b)) []):ah Tryz.prog 9 [] [] K:=Ei K (by rw [hb] at h;exact h)
theorem Eu (b:Bool) (hb:b=true) (p:Prod) (h1:p.au.length<1000000) (h2:p.late.length<1000000) (h3:p.cT.length<1000000) (K:Out->List af->Prop) (h:K (.ret (.bool b)) []):ah Tryz.prog 12 [dE p,dE p] [] K:=NI p h1 h2 h3 K (by rw [hb] at h;exact h)
theorem Qb (b:Bool) (hb:b=true) (K:Out->List af->Prop) (h:K (.ret (.bool b)) []):ah Tryz.prog 12 [dE bD,.agg zP] [] K:=by
 refine ah.args (cI:=[dE bD,dE bD]) (.cons (.eq rfl) (.cons (.agg ?_) .nil)) rfl (Eu b hb bD (by decide) (by decide) (by decide) _ h)
 unfold zP ff
 (repeat' first | exact du.nil | refine du.cons VQ.no ?_ | refine du.cons VQ.spare ?_ | refine du.cons (VQ.eq rfl) ?_)
theorem Bh (s:ByteArray) (hs:s.size<1000000) (P:Prod) (a e:Int) (he:bo (sB s)=(P,a,e)) (K:Out->List af->Prop) (h:K (.ret (.aQ [dE P,.int .i64 a,.int .i64 e])) []):ah Tryz.prog 10 [.str s] [] K:=
 y3 s hs K (by rw [he];exact h)
theorem F2 (s:ByteArray) (hs:s.size<1000000) (P:Prod) (a e:Int) (he:bo (sB s)=(P,a,e)) (K:Out->List af->Prop) (h:K (.ret (.aQ [dE P,.int .i64 a,.int .i64 e])) []):ah Tryz.prog 11 [.str s] [] K:=
 Iw s hs K (by rw [he];exact h)
set_option maxHeartbeats 8000000 in
theorem Oj (p:Prod) (hp:p.Kh) (at_:Int) (ha:bM at_) (v8:Int):ah Tryz.prog 7 [dE p,.int .i64 at_,.int .u8 v8] [] fun out _=>out= .ret (.bool true):=by
 obtain ⟨kP,_⟩:=Lc p (t:=40) (by decide)
 have cp:=NR p hp 40 (by decide)
 generalize xF p 40=P at kP cp
 unfold dE ff at cp
 obtain ⟨tt,QN⟩: ∃b:Bool,b=true:=⟨_,rfl⟩
 obtain ⟨n7,V_⟩: ∃z:Int,z=7:=⟨_,rfl⟩
 refine ag [46] 0 Tryz.func7 (by rfl) (by rfl) ?_
 conv=>whnf
 (repeat' first | (refine aa [46] ?_;conv=>whnf) | (refine two ?_ ?_<;>intro g<;>(try simp only[an]at g)<;>(conv=>whnf)) | (refine And.intro rfl ?_;conv=>whnf) | (refine cp _ ?_;conv=>whnf) | fail)
 have oP:P.Kh:=(Bb kP).w
 refine IQ P oP _ (fun _ hl T hT=> ?_) (fun _ _=> ?_) (fun hn=>absurd kP hn)
 · conv=>whnf
   (repeat' first | (refine aa [46] ?_;conv=>whnf) | (refine two ?_ ?_<;>intro g<;>(try simp only[an]at g)<;>(conv=>whnf)) | (refine And.intro rfl ?_;conv=>whnf) | fail)
   have hz:T.size=(eF P).length:=by rw [←hT,bh]
   have wc:8<=(eF P).length:=by rw [pL];unfold o9;simp only [List.length_append,List.length_cons,List.length_nil];have:cY.length=7:=rfl;omega
   have w1:IntKind.i64.wrap ((T.size:Int) - 2)=(T.size:Int) - 2:=wrap64 (by omega) (by omega)
   have w2:IntKind.u64.wrap ((T.size:Int) - 2)=(T.size:Int) - 2:=gp (by omega) (by omega)
   rw [w1,w2]
   refine ⟨by omega,?_⟩
   conv=>whnf
   obtain ⟨kk,TR⟩: ∃kk:Int,um at_ ((T.size:Int) - 2)=kk:=⟨_,rfl⟩
   have V':=kE at_ (n:=(T.size:Int) - 2) (by omega) (by omega)
   rw [TR] at V'
   obtain ⟨k,rfl⟩: ∃k:Nat,kk=k:=⟨kk.toNat,by omega⟩
   (repeat' first | (refine aa [46] ?_;conv=>whnf) | (refine two ?_ ?_<;>intro g<;>(try simp only[an]at g)<;>(conv=>whnf)) | (refine And.intro rfl ?_;conv=>whnf) | fail)
   rw [show IntKind.i64.wrap ((IntKind.u64.wrap at_).tmod ((T.size:Int) - 2))=(k:Int) from TR]
   refine ⟨by decide,by omega,by omega,?_⟩
   conv=>whnf
   have hex:sB (T.extract (Int.toNat 0) (k:Int).toNat)=(eF P).take k:=by rw [nI,hT,Int.toNat_natCast];rfl
   obtain ⟨q,hq,jJ⟩:=F1 kP hl (k:=k) (by omega)
   have OI:(T.extract (Int.toNat 0) (k:Int).toNat).size<1000000:=by rw [←bh,hex,List.length_take];omega
   rw [←hex, ←V_] at jJ
   (repeat' first | (refine aa [46] ?_;conv=>whnf) | (refine two ?_ ?_<;>intro g<;>(try simp only[an]at g)<;>(conv=>whnf)) | (refine And.intro rfl ?_;conv=>whnf) | fail)
   refine Bh _ OI bD q n7 jJ _ ?_
   conv=>whnf
   (repeat' first | (refine aa [46] ?_;conv=>whnf) | (refine two ?_ ?_<;>intro g<;>(try simp only[an]at g)<;>(conv=>whnf)) | (refine And.intro rfl ?_;conv=>whnf) | fail)
   intro sp sT
   conv=>whnf
   have Bl:(bK T).length=T.size:=b8 T
   have zf:k<(sB T).length:=by rw [bh];omega
   obtain ⟨c,hc⟩: ∃c,(sB T)[k]=c:=⟨_,rfl⟩
   have aD:(bK T++sp)[(k:Int).toNat]? =some (.int .u8 c):=by
    rw [Int.toNat_natCast,List.getElem?_append_left (by omega),vZ,List.getElem?_map,List.getElem?_eq_getElem zf,hc];rfl
   have L6:(bK T++sp)[0+(k:Int).toNat]? =some (.int .u8 c):=by rw [Nat.zero_add];exact aD
   (repeat' first | (refine aa [46] ?_;conv=>whnf) | (refine two ?_ ?_<;>intro g<;>(try simp only[an]at g)<;>(conv=>whnf)) | (refine And.intro rfl ?_;conv=>whnf) | (refine ⟨by omega,by omega,?_⟩;conv=>whnf) | (refine ⟨_,L6,?_⟩;conv=>whnf) | fail)
   have hx:=Qa c v8
   obtain ⟨x',p5⟩: ∃x',nf .xor .u8 c v8=x':=⟨_,rfl⟩
   rw [p5] at hx ⊢
   obtain ⟨bs,ke⟩: ∃bs:ByteArray,bs=az ((sB T).set k x'):=⟨_,rfl⟩
   have My:sB bs=(sB T).set k x':=by
    rw [ke]
    refine aT fun y hy=> ?_
    rcases List.mem_or_eq_of_mem_set hy with hy | hy
    · exact P' T y hy
    · rw [hy];exact hx
   have WY:bs.size=T.size:=by rw [←bh,My,List.length_set,bh]
   have hm:List.take T.size (List.drop 0 ((bK T++sp).set (0+(k:Int).toNat) ((V.int .u8 c).kI [V.int .u8 x'])))=bK bs:=by
    rw [List.drop_zero,Nat.zero_add,Int.toNat_natCast,List.set_append_left _ _ (by omega),vZ bs,My,List.map_set, ←vZ]
    exact List.take_left' (by rw [List.length_set,Bl])
   have Qc:bs.size<1000000:=by omega
   obtain ⟨X,A,G,hX⟩: ∃X A G,bo (sB bs)=(X,A,G):=⟨_,_,_,rfl⟩
   have QO:=FR (sB bs)
   rw [hX] at QO
   clear ke jJ hex aD L6
   refine ⟨by rw [List.length_set,List.length_append];omega,?_⟩
   conv=>whnf
   refine ⟨bs,hm,?_⟩
   conv=>whnf
   (repeat' first | (refine aa [46] ?_;conv=>whnf) | (refine two ?_ ?_<;>intro g<;>(try simp only[an]at g)<;>(conv=>whnf)) | (refine And.intro rfl ?_;conv=>whnf) | fail)
   refine Bh bs Qc X A G hX _ ?_
   conv=>whnf
   (repeat' first | (refine aa [46] ?_;conv=>whnf) | (refine two ?_ ?_<;>intro g<;>(try simp only[an]at g)<;>(conv=>whnf)) | (refine And.intro rfl ?_;conv=>whnf) | fail)
   refine ⟨by rw [List.length_set,List.length_append];omega,?_⟩
   conv=>whnf
   refine ⟨bs,hm,?_⟩
   conv=>whnf
   (repeat' first | (refine aa [46] ?_;conv=>whnf) | (refine two ?_ ?_<;>intro g<;>(try simp only[an]at g)<;>(conv=>whnf)) | (refine And.intro rfl ?_;conv=>whnf) | fail)
   refine F2 bs Qc X A G hX _ ?_
   conv=>whnf
   (repeat' first | (refine aa [46] ?_;conv=>whnf) | (refine two ?_ ?_<;>intro g<;>(try simp only[an,QN]at g)<;>(conv=>whnf)) | (refine And.intro rfl ?_;conv=>whnf) | (refine I9 tt QN _ ?_;conv=>whnf) | (refine Qb tt QN _ ?_;conv=>whnf) | (refine Eu tt QN X QO.1 QO.2.1 QO.2.2 _ ?_;conv=>whnf) | fail)
   all_goals first
    | (refine congrArg (fun b=>Out.ret (V.bool b)) ?_
       exact beq_self_eq_true _)
    | exact absurd trivial g
    | exact absurd g (by decide)
    | (exfalso;omega)
    | trace_state
 · conv=>whnf
   (repeat' first | (refine aa [46] ?_;conv=>whnf) | (refine two ?_ ?_<;>intro g<;>(try simp only[an]at g)<;>(conv=>whnf)) | (refine And.intro rfl ?_;conv=>whnf) | (refine Ei _ ?_;conv=>whnf) | fail)
   all_goals trace_state
end SR
namespace QP
open Go Go.Proofs VL eG dj kF C1 C2
def Bi:Ty:= .row [.int .i64,.int .i64]
def Br:Ty:= .row [.str,.int .i64,.int .i64,.int .i64,.int .i64,.int .i64,.int .i64,.int .i64,.sl Bi 2 16 true,.int .i64,.row [.int .i64,.int .i64,.int .i64,.int .i64],.int .i64,.sl Bi 2 16 true,.int .i64,.int .i64,.sl (.int .i64) 1 8 false]
theorem I_ {α:Type} {enc:α->V} {mk:Int->Int->α} {ok:α->Prop} (he: ∀a b,enc (mk a b)= .agg [.int .i64 a,.int .i64 b]) (ho: ∀a b,bM a->bM b->ok (mk a b)) {l:List V} (hl: ∀x∈l,if true=true then ∃cs,x= .agg cs/\v7 Bi cs else v7 Bi [x]): ∃HH:List α,l=HH.map enc/\ ∀a∈HH,ok a:=
 yH fun x hx=>by
  have:=hl x hx
  rw [if_pos rfl] at this
  obtain ⟨cs,rfl,h⟩:=this
  simp only [Bi,v7] at h
  obtain ⟨a,_,rfl,wa,h1⟩:=fo.int h
  obtain ⟨b,_,rfl,wb,h2⟩:=fo.int h1
  obtain rfl:=CE h2
  exact ⟨mk a b,(he a b).symm,ho a b (kF.ef wa) (kF.ef wb)⟩
theorem Jt {x:V} (h:L7 Br true x): ∃p:C2.Prod,x=dE p/\p.Kh:=by
 unfold L7 Br at h
 rw [if_pos rfl] at h
 obtain ⟨cs,rfl,h⟩:=h
 simp only [v7] at h
 obtain ⟨a1,_,rfl,w1,h1⟩:=M1 h
 obtain ⟨a2,_,rfl,w2,h2⟩:=fo.int h1
 obtain ⟨a3,_,rfl,w3,h3⟩:=fo.int h2
 obtain ⟨a4,_,rfl,w4,h4⟩:=fo.int h3
 obtain ⟨a5,_,rfl,w5,h5⟩:=fo.int h4
 obtain ⟨a6,_,rfl,w6,h6⟩:=fo.int h5
 obtain ⟨a7,_,rfl,w7,h7⟩:=fo.int h6
 obtain ⟨a8,_,rfl,w8,h8⟩:=fo.int h7
 obtain ⟨l9,_,rfl,z9,m9,h9⟩:=HG h8
 obtain ⟨Wa,_,rfl,Wb,Lw⟩:=fo.int h9
 unfold fo at Lw
 obtain ⟨r,r',rfl,hr,OS⟩:=Lw
 simp only [v7] at hr
 obtain ⟨b1,_,rfl,v1,hr⟩:=fo.int hr
 obtain ⟨b2,_,rfl,v2,hr⟩:=fo.int hr
 obtain ⟨b3,_,rfl,v3,hr⟩:=fo.int hr
 obtain ⟨b4,_,rfl,v4,hr⟩:=fo.int hr
 obtain rfl:=CE hr
 obtain ⟨a12,_,rfl,Wc,Kx⟩:=fo.int OS
 obtain ⟨WZ,_,rfl,Wd,We,SB⟩:=HG Kx
 obtain ⟨Wf,_,rfl,Wg,SC⟩:=fo.int SB
 obtain ⟨Wh,_,rfl,Wi,SD⟩:=fo.int SC
 obtain ⟨Wj,_,rfl,Wk,Wl,PY⟩:=HG SD
 obtain rfl:=CE PY
 obtain ⟨rs,rfl,Wm⟩:=I_ (enc:=m_) (mk:=fun a b=>⟨a,b⟩) (ok:=fun r:Rs=>bM r.lT/\bM r.bW) (fun _ _=>rfl) (fun _ _ h1 h2=>⟨h1,h2⟩) m9
 obtain ⟨ts,rfl,uZ⟩:=I_ (enc:=na) (mk:=fun a b=>⟨a,b⟩) (ok:=fun r:Ti=>bM r.days/\bM r.km) (fun _ _=>rfl) (fun _ _ h1 h2=>⟨h1,h2⟩) We
 obtain ⟨hs,rfl,Wn⟩:=yH (enc:=V.int .i64) (ok:=bM) (l:=Wj) fun x hx=>by
  have:=Wl x hx
  rw [if_neg (by decide)] at this
  simp only [v7] at this
  obtain ⟨n,hn,hw⟩:=this
  injection hn with hn
  exact ⟨n,hn,kF.ef hw⟩
 rw [List.length_map] at z9 Wd Wk
 exact ⟨⟨a1,a2,a3,a4,a5,a6,a7,a8,rs,Wa,b1,b2,b3,b4,a12,ts,Wf,Wh,hs⟩,rfl,⟨by show a1.size<_;omega,kF.ef w2,kF.ef w3,kF.ef w4,kF.ef w5,kF.ef w6,kF.ef w7,kF.ef w8,kF.ef Wb,kF.ef v1,kF.ef v2,kF.ef v3,kF.ef v4,kF.ef Wc,kF.ef Wg,kF.ef Wi,Wm,uZ,Wn,by show rs.length<_;omega,by show ts.length<_;omega,by show hs.length<_;omega⟩⟩
end QP
