/- Part Kc of the proof: VLReal VLHide VLAl VLDraw4 VLAl2 VLDraw5 VLSound3 VLSel VLFun VLLoop VLFrz VLLend VLNil VLStr VLBridge VLBridge2 VLBridge3 VLRow VLLaw VLUse VLBs VLTxt VLBld VLShelf VLLendC VLMid B1 D1 B2 B3 B4 B5 B6 B7. -/
import Derived.Test.YtdjbfmfkeokfaaaGreatKb
import Derived.Laws.Externs
import Derived.Lib.Overlaps
import Derived.MapKept
import Derived.Carry
import Derived.SizedLaws
import Derived.ChangeOld
import Derived.ChangeShapes
import Derived.DataReads
import Derived.ProofKit
import Derived.Lib.MakeNoZero
import Derived.Test.YtdjbfmfkeokfaaaGreatRows
set_option linter.unusedVariables false
set_option linter.unusedSimpArgs false
set_option maxRecDepth 100000
namespace VL
open Go
mutual
theorem yp: ∀v:V,gM (fun o=>o) v=v
 | .pM l=>by simp [gM,jQ l]
 | .dp l=>by simp [gM,jQ l]
 | .fn g a b=>by simp [gM,jQ a,jQ b]
 | .jl t v=>by simp [gM,yp v]
 | .agg l=>by simp [gM,jQ l]
 | .aQ l=>by simp [gM,jQ l]
 | .ptr _ _=>rfl
 | .mp _=>rfl
 | .bX .. =>rfl
 | .bp .. =>rfl
 | .undef=>rfl
 | .int _ _=>rfl
 | .bool _=>rfl
 | .str _=>rfl
 | .gH=>rfl
 | .sl _ _=>rfl
 | .spare _ _=>rfl
 | .ig=>rfl
 | .gL=>rfl
 | .ij=>rfl
theorem jQ: ∀l:List V,gO (fun o=>o) l=l
 | []=>rfl
 | v::r=>by simp [gO,yp v,jQ r]
end
theorem aw.Ta {bs xI:Nat->Nat} {I:Nat->Nat->Prop} {w:World} {n:Nat} {v:V} {c:Value} (h:aw bs I w n v c) (hb: ∀o∈aW v,o<n->xI o=bs o):aw xI I w n v c:=by
 have:=aw.gM (f:=fun o=>o) (n':=n) (xI:=xI) h fun o ho hn=>⟨hn,hb o ho hn⟩
 rwa [yp] at this
def G.lay (g:G) (j b:Nat):G:= {g with bs:=fun i=>if i=j then b else g.bs i}
section
variable {c:Ctx} {g:G} {w:World} {ob:List af} {nt:Nat}
theorem VT.lay {n j b:Nat} {o:Obj} {v:V} {x:Value} (hI: ∀b k,g.I b k->b<w.heap.size) (h:VT g w n nt v x) (hv:j ∉ aW v):VT (g.lay j b) (w.alloc o) n nt v x:=by
 refine ⟨?_,h.tok⟩
 have h1:aw (g.lay j b).bs g.I w n v x:=h.rel.Ta fun o ho _=>by
  show (if o=j then b else g.bs o)=g.bs o
  rw [if_neg (fun (e:o=j)=>hv (e▸ho))]
 exact h1.mono (fun o ho=>⟨ho,rfl⟩) fun b k hb=>⟨hb,by
  have:=hI b k hb
  simp only [World.cell?]
  rw [bc _ _ this]⟩
theorem a_.lay {j:Nat} {o:Obj} {x:af} (h:a_ c g w ob nt) (hj:ob[j]? =some .none) (hc:c.n0<=j) (rl: ∀(i:Nat) y,ob[i]? =some y->j ∉ fU y)
 (hx:fx (g.lay j w.heap.size) (w.alloc o) ob.length nt w.heap.size x):a_ c (g.lay j w.heap.size) (w.alloc o) (ob.set j x) nt:=by
 have eO:=(List.getElem?_eq_some_iff.1 hj).1
 have hI:=h.i3
 have ke: ∀i,i≠j->(g.lay j w.heap.size).bs i=g.bs i:=fun i hi=>by simp [G.lay,hi]
 have LA:(g.lay j w.heap.size).bs j=w.heap.size:=by simp [G.lay]
 have e7: ∀b k,g.I b k->(w.alloc o).cell? ⟨b,k,none⟩=w.cell? ⟨b,k,none⟩:=fun b k hb=>by
  simp only [World.cell?];rw [bc _ _ (hI b k hb)]
 have h0: ∀ {v:V} {c:Value},aw g.bs g.I w 0 v c->aw (g.lay j w.heap.size).bs (g.lay j w.heap.size).I (w.alloc o) 0 v c:=fun hv=>hv.mono (fun o ho=>absurd ho (by omega)) fun b k hb=>⟨hb,e7 b k hb⟩
 have Rt: ∀(i:Nat) y,i≠j->ob[i]? =some y->fx (g.lay j w.heap.size) (w.alloc o) ob.length nt (g.bs i) y:=fun i y hi hy=>by
  have ho:=h.obj i y hy
  cases y with
  | none=>trivial
  | cells wr T cs=>
    obtain ⟨arr,a1,a2,a3⟩:=ho
    refine ⟨arr,by rw [bc _ _ (h.lt i _ hy rfl)];exact a1,a2,fun k v c hv hc=>⟨(a3 k v c hv hc).1.lay hI fun hm=>rl i _ hy (bY hv hm),(a3 k v c hv hc).2⟩⟩
  | map es=>
    obtain ⟨arr,zb,a1,a2,a3⟩:=ho
    exact ⟨arr,zb,by rw [bc _ _ (h.lt i _ hy rfl)];exact a1,a2,fun k e c he hc=>⟨h0 (a3 k e c he hc).1,h0 (a3 k e c he hc).2⟩⟩
  | buf m z l=>
    rcases ho with ho | ⟨arr,T,a1,JE,a2,a3,a4⟩
    · exact .inl ho
    · by_cases hl:l=[]
      · exact .inl hl
      · exact .inr ⟨arr,T,a1.to (bc _ _ (h.lt i _ hy (by simp [af.real,hl]))),JE,a2,a3,fun k v c he hc=>⟨h0 (a4 k v c he hc).1,(a4 k v c he hc).2⟩⟩
 refine ⟨h.os,h.tape,h.output,?_,?_,by simp [h.len],?_,?_,?_,?_,?_,h.i1,h.i2,?_,?_,?_,?_,h.f2,fun b k Tb=>by rw [e7 b k (h.i1 b k Tb)];exact h.i6 b k Tb⟩
 · have:=h.size;simp;omega
 · intro b hb hw;rw [bc _ _ (by have:=h.size;omega)];exact h.jG b hb hw
 · intro i y hy
   rw [List.length_set]
   rcases aY hy with ⟨rfl,rfl⟩ | ⟨bZ,hy⟩
   · rw [LA];exact hx
   · rw [ke i (Ne.symm bZ)];exact Rt i y (Ne.symm bZ) hy
 · intro i y hy hr
   rcases aY hy with ⟨rfl,rfl⟩ | ⟨bZ,hy⟩
   · rw [LA];simp
   · rw [ke i (Ne.symm bZ)];have:=h.lt i y hy hr;simp;omega
 · intro i i' y z hy hz hr tf
   rcases aY hy with ⟨e1,Wt⟩ | ⟨bZ,hy⟩<;>rcases aY hz with ⟨e2,Wu⟩ | ⟨zV,hz⟩
   · intro _;rw [←e1, ←e2]
   · rw [←e1,LA,ke i' (Ne.symm zV)];have:=h.lt i' z hz tf;intro e;omega
   · rw [←e2,LA,ke i (Ne.symm bZ)];have:=h.lt i y hy hr;intro e;omega
   · rw [ke i (Ne.symm bZ),ke i' (Ne.symm zV)];exact h.inj i i' y z hy hz hr tf
 · intro i y hi hy hm
   rcases aY hy with ⟨e1,_⟩ | ⟨bZ,hy⟩
   · omega
   · rw [ke i (Ne.symm bZ)];exact h.sH i y hi hy hm
 · intro i y hy hr
   rcases aY hy with ⟨e1,_⟩ | ⟨bZ,hy⟩
   · rw [←e1,LA];exact .inl h.size
   · rw [ke i (Ne.symm bZ)];exact h.new i y hy hr
 · intro b k hb;have:=hI b k hb;simp;omega
 · intro i T cs k hy hb
   rcases aY hy with ⟨e1,_⟩ | ⟨bZ,hy⟩
   · rw [←e1,LA] at hb;have:=hI _ _ hb;omega
   · rw [ke i (Ne.symm bZ)] at hb;exact h.i4 i T cs k hy hb
 · intro i y k hy hl hb
   rcases aY hy with ⟨e1,_⟩ | ⟨bZ,hy⟩
   · rw [←e1,LA] at hb;have:=hI _ _ hb;omega
   · rw [ke i (Ne.symm bZ)] at hb;exact h.i5 i y k hy hl hb
 · intro i hi hn
   obtain ⟨f1,⟨Gl,U,f2,Rn⟩,f3,f4⟩:=h.f1 i hi hn
   have aJ:(g.db i).jF<w.heap.size:=by
    rcases Nat.lt_or_ge (g.db i).jF w.heap.size with h | h
    · exact h
    · rw [Array.getElem?_eq_none h] at f2;cases f2
   refine ⟨f1,⟨Gl,U,by show (w.alloc o).heap[(g.db i).jF]? =_;rw [bc _ _ aJ];exact f2,Rn⟩,f3,fun o' y hy hr=> ?_⟩
   show (g.lay j w.heap.size).bs o'≠(g.db i).jF
   rcases aY hy with ⟨e1,_⟩ | ⟨bZ,hy⟩
   · rw [←e1,LA];omega
   · rw [ke o' (Ne.symm bZ)];exact f4 o' y hy hr
end
end VL
namespace VL
open Go
def bx:List Nat->List af->List af
 | [],ob=>ob
 | k::r,ob=>bx r (ob.set k .none)
def yq (ks:List Nat):St->St
 | ⟨t,ob,nt,df⟩=>⟨t,bx ks ob,nt,df⟩
theorem bR: ∀(ks:List Nat) (ob:List af),(bx ks ob).length=ob.length
 | [],_=>rfl
 | k::r,ob=>by simp [bx,bR r]
theorem ea: ∀(ks:List Nat) (ob:List af) (i:Nat),(bx ks ob)[i]? =if i∈ks then (ob[i]?).map (fun _=>af.none) else ob[i]?
 | [],ob,i=>by simp [bx]
 | k::r,ob,i=>by
   rw [bx,ea r]
   by_cases h1:i=k
   · subst h1
     by_cases h2:i<ob.length
     · rw [List.getElem?_set_self h2,List.getElem?_eq_getElem h2]
       simp
     · have e1:ob[i]? =none:=List.getElem?_eq_none (by omega)
       have e2:(ob.set i .none)[i]? =none:=List.getElem?_eq_none (by simp;omega)
       rw [e1,e2];simp
   · rw [List.getElem?_set_ne (Ne.symm h1)]
     simp [h1]
structure jR (k:Nat) (t:List V) (ob:List af):Prop where
 lt:k<ob.length
 Ag:Clean k t
 eg: ∀(j:Nat) x,j≠k->ob[j]? =some x->k ∉ fU x
theorem jR.OU {k k':Nat} {t:List V} {ob:List af} (h:jR k t ob):jR k t (ob.set k' .none):=
 ⟨by simpa using h.lt,h.Ag,fun j x hj hx=>by
  rcases aY hx with ⟨rfl,rfl⟩ | ⟨_,hx⟩
  · simp [fU]
  · exact h.eg j x hj hx⟩
theorem uN (S:Sys) {o:Oper} {t:List V} {K:V->Prop}: ∀ {ks:List Nat} {ob:List af},(∀k∈ks,jR k t ob)->ga S o t ob K->ga S o t (bx ks ob) K
 | [],ob,_,h=>h
 | k::r,ob,hu,h=>uN S (ks:=r) (fun k' kN=>(hu k' (by simp [kN])).OU) (z_ S (hu k (by simp)).Ag h)
theorem xa (S:Sys) (hm:e_ S) {o:Oper} {t:List V} {nt:Nat} {df:List (Fn × List V × List V)}: ∀ {ks:List Nat} {k:Nat} {ob:List af} {K K':V->St->Prop},(∀j∈k::ks,jR j t ob)->(∀v s,K v s->K' v (yq (k::ks) s))->
 zm S o ⟨t,ob,nt,df⟩ K (fun _ _=>False)->zm S o ⟨t,bx (k::ks) ob,nt,df⟩ K' fun _ _=>False
 | [],k,ob,K,K',hu,OT,h=>by
   have hk:=hu k (by simp)
   exact DA S hm hk.lt hk.Ag hk.eg (fun v s h=>by obtain ⟨t,ob,nt,df⟩:=s;exact OT v _ h) h
 | k'::r,k,ob,K,K',hu,OT,h=>by
   have hk:=hu k (by simp)
   have h1:=DA S hm hk.lt hk.Ag hk.eg (K':=fun v s'=> ∃s,K v s/\s'=Ly k s) (fun v s h=>⟨s,h,rfl⟩) h
   refine xa S hm (ks:=r) (k:=k') (fun j hj=>(hu j (by simp at hj ⊢;exact .inr hj)).OU) (fun v s' h=> ?_) h1
   obtain ⟨s,hs,rfl⟩:=h
   have:=OT v s hs
   obtain ⟨t,ob,nt,df⟩:=s
   exact this
end VL
namespace VL
open Go
def dT (all:List Oper) (t:List V) (i:Nat):Option Nat:=
 match all[i]? with
 | some o=>(match pY o,o.dst with
   | true,some d=>(match t[d]? with | some (.ptr k 0)=>some k | _=>none)
   | _,_=>none)
 | none=>none
def dQ (all:List Oper) (U:List Nat) (t:List V):List Nat:=U.filterMap (dT all t)
def gJ (all:List Oper) (U:List Nat):St->St
 | ⟨t,ob,nt,df⟩=>⟨masked (bf all U) t,bx (dQ all U t) ob,nt,df⟩
theorem Af.obj {S:Sys} {all:List Oper} {done:List Nat} {m:Nat} {t:List V} {ob:List af} {df:List (Fn × List V × List V)} (h:Af S all done m t ob df) (ha:bz all m=true):
 ∃k,dT all t m=some k/\k<ob.length:=by
 obtain ⟨o,T,d,j,i,cz,h1,h2,h3,h4,h5,h6,h7,h8⟩:=h
 refine ⟨j,?_,(List.getElem?_eq_some_iff.1 h7).1⟩
 unfold bz at ha
 rw [h1] at ha
 unfold dT
 rw [h1]
 simp only at ha ⊢
 rw [ha,h3]
 simp only
 rw [h4];rfl
theorem fe {k:Nat} {ok:Nat->Bool}: ∀ {l:List V} {d:Nat},fO k ok d l=true-> ∀ {i:Nat} {v:V},l[i]? =some v->k∈aW v->ok (d+i)=true
 | x::r,d,h,0,v,hv,hk=>by
   simp only [fO,Bool.and_eq_true] at h
   simp at hv;subst hv
   have:=h.1
   rw [eI.2 hk] at this
   simpa using this
 | x::r,d,h,i+1,v,hv,hk=>by
   simp only [fO,Bool.and_eq_true] at h
   have:=fe h.2 (i:=i) (by simpa using hv) hk
   rwa [show d+1+i=d+(i+1) by omega] at this
 | [],d,h,i,v,hv,hk=>by simp at hv
theorem kQ {k:Nat}: ∀ {l:List af} {d:Nat},gQ k d l=true-> ∀ {i:Nat} {x:af},l[i]? =some x->k∈fU x->d+i=k
 | x::r,d,h,0,v,hv,hk=>by
   simp only [gQ,Bool.and_eq_true] at h
   simp at hv;subst hv
   have:=h.1
   rw [eI.2 hk] at this
   simpa using Nat.eq_of_beq_eq_true this
 | x::r,d,h,i+1,v,hv,hk=>by
   simp only [gQ,Bool.and_eq_true] at h
   have:=kQ h.2 (i:=i) (by simpa using hv) hk
   omega
 | [],d,h,i,v,hv,hk=>by simp at hv
theorem kz {all:List Oper} {A:List Nat} {a d:Nat}: ∀ {done:List Nat},ko all A done a d=true-> ∃i∈done,(all[i]?).bind (·.dst)=some d/\(i=a\/dn A i a=true)
 | [],h=>by cases h
 | i::r,h=>by
   simp only [ko,Bool.or_eq_true,Bool.and_eq_true] at h
   rcases h with ⟨h1,h2⟩ | h
   · refine ⟨i,by simp,?_,?_⟩
     · split at h1
       · rename_i d' e;rw [e];rw [Nat.eq_of_beq_eq_true h1]
       · cases h1
     · rcases h2 with h2 | h2
       · exact .inl (Nat.eq_of_beq_eq_true h2)
       · exact .inr h2
   · obtain ⟨j,hj,h1,h2⟩:=kz h
     exact ⟨j,by simp [hj],h1,h2⟩
theorem Af.Cc {S:Sys} {all:List Oper} {done U:List Nat} {m:Nat} {t:List V} {ob:List af} {df:List (Fn × List V × List V)} (h:Af S all done m t ob df) {k:Nat} (hk:dT all t m=some k)
 (hU: ∀i∈done,(i=m\/dn (dx all []) i m=true)->i∈U):jR k (masked (bf all U) t) ob:=by
 obtain ⟨o,T,d,j,i,cz,h1,h2,h3,h4,h5,h6,h7,h8⟩:=h
 have Mh:j=k:=by
  unfold dT at hk
  rw [h1] at hk
  simp only at hk
  split at hk
  · rename_i d' e1 e2
    rw [h3] at e2;cases e2
    rw [h4] at hk
    simpa using hk
  · cases hk
 subst Mh
 unfold gh at h8
 simp only [Bool.and_eq_true] at h8
 obtain ⟨⟨c1,c2⟩,c3⟩:=h8
 refine ⟨(List.getElem?_eq_some_iff.1 h7).1,fun v hv hm=> ?_,fun i x hi hx hm=> ?_⟩
 · obtain ⟨q,hq⟩:=List.mem_iff_getElem?.1 hv
   rw [bQ] at hq
   obtain ⟨u,hu,e⟩:=Option.map_eq_some_iff.1 hq
   split at e
   · subst e;simp [aW] at hm
   · rename_i hs
     subst e
     have:=fe c1 hu hm
     rw [Nat.zero_add] at this
     obtain ⟨p,hp,e1,e2⟩:=kz this
     obtain ⟨op,e3,e4⟩:=Option.bind_eq_some_iff.1 e1
     exact hs (dr.2 ⟨p,hU p hp e2,op,e3,e4⟩)
 · have:=kQ c2 hx hm
   omega
end VL
namespace VL
open Go
theorem uO {A:List Nat} {j:Nat}: ∀ {ds:List Nat} {m:Nat},(kM A ds m).testBit j=true->m.testBit j=true\/ ∃d∈ds,j=d\/((A[d]?).getD 0).testBit j=true
 | [],m,h=> .inl h
 | d::r,m,h=>by
   rcases uO (ds:=r) h with h | ⟨d',h1,h2⟩
   · rw [Nat.testBit_or,Nat.testBit_or,Bool.or_eq_true,Bool.or_eq_true] at h
     rcases h with (h | h) | h
     · exact .inl h
     · refine .inr ⟨d,by simp,.inl ?_⟩
       rw [Nat.one_shiftLeft,Nat.testBit_two_pow] at h
       exact (by simpa using h:d=j).symm
     · exact .inr ⟨d,by simp,.inr h⟩
   · exact .inr ⟨d',by simp [h1],h2⟩
theorem Ah (l:List Oper): ∀(A:List Nat), ∃B,dx l A=A++B:=by
 induction l with
 | nil=>intro A;exact ⟨[],by simp [dx]⟩
 | cons o r ih=>
   intro A
   obtain ⟨B,h⟩:=ih (A++[kM A (jD o) 0])
   exact ⟨kM A (jD o) 0::B,by rw [dx,h];simp⟩
theorem Ai (l:List Oper): ∀(A:List Nat) (k:Nat) (o:Oper),l[k]? =some o->(dx l A)[A.length+k]? =some (kM ((dx l A).take (A.length+k)) (jD o) 0):=by
 induction l with
 | nil=>intro A k o h;simp at h
 | cons p r ih=>
   intro A k o h
   cases k with
   | zero=>
     simp only [List.getElem?_cons_zero,Option.some.injEq] at h;subst h
     obtain ⟨B,hB⟩:=Ah r (A++[kM A (jD p) 0])
     rw [dx,hB]
     generalize hm:kM A (jD p) 0=m at*
     have:(A++[m]++B).take (A.length+0)=A:=by simp
     rw [this,hm]
     simp
   | succ k=>
     have:=ih (A++[kM A (jD p) 0]) k o (by simpa using h)
     rw [dx]
     simp only [List.length_append,List.length_singleton] at this
     rw [show A.length+(k+1)=A.length+1+k by omega]
     exact this
theorem uP (l:List Oper): ∀ {k:Nat},qV l k=true-> ∀(i:Nat) (o:Oper),l[i]? =some o-> ∀e∈o.after,Region.binds .any e=true->e.on<k+i:=by
 induction l with
 | nil=>intro k _ i o h;simp at h
 | cons o r ih=>
   intro k h i p hp e he hb
   simp only [qV,Bool.and_eq_true] at h
   cases i with
   | zero=>
     simp only [List.getElem?_cons_zero,Option.some.injEq] at hp;subst hp
     have:=List.all_eq_true.1 h.1 e.on (List.mem_map.2 ⟨e,List.mem_filter.2 ⟨by simpa using he,hb⟩,rfl⟩)
     simpa [Nat.blt_eq] using this
   | succ i=>
     have:=ih h.2 i p (by simpa using hp) e he hb
     omega
theorem GZ {o:Oper} {d:Nat} (h:d∈jD o): ∃e∈o.after,Region.binds .any e=true/\e.on=d:=by
 obtain ⟨e,he,rfl⟩:=List.mem_map.1 h
 obtain ⟨h1,h2⟩:=List.mem_filter.1 he
 exact ⟨e,by simpa using h1,h2,rfl⟩
theorem uQ {all:List Oper} (hd:qV all 0=true) {L:Nat->Prop} (hL: ∀(i:Nat) o,all[i]? =some o->L i-> ∀e∈o.after,Region.binds .any e=true->L e.on):
 ∀(i:Nat) (o:Oper),all[i]? =some o->(∀e∈o.after,Region.binds .any e=true->L e.on)-> ∀j,dn (dx all []) i j=true->L j:=by
 intro i
 induction i using Nat.strongRecOn with
 | _ i ih=>
   intro o ho q_ j hj
   have hg:=Ai all [] i o ho
   simp only [List.length_nil,Nat.zero_add] at hg
   unfold dn at hj
   rw [hg,Option.getD_some] at hj
   rcases uO hj with h | ⟨d,jq,h⟩
   · simp at h
   · obtain ⟨e,he,hb,rfl⟩:=GZ jq
     have aJ:=uP all hd i o ho e he hb
     rcases h with rfl | h
     · exact q_ e he hb
     · have cV:=(List.getElem?_eq_some_iff.1 ho).1
       have tR:e.on<all.length:=by omega
       refine ih e.on (by omega) all[e.on] (List.getElem?_eq_getElem tR) (hL e.on _ (List.getElem?_eq_getElem tR) (q_ e he hb)) j ?_
       rw [List.getElem?_take,if_pos (by omega)] at h
       exact h
section
variable {S:Sys} {c:Ctx} {Q:Exit->Act->World->Prop} {ops:Array Oper}
theorem jS {g:G} {w:World} {n nt:Nat} {tm:Array Value} {t:List V} (h:fy g w n nt tm t) {o:Oper} {b:Bool} (hg:DB ops.toList o t=some b):Region.wanted o (yielded ops tm)=b:=by
 unfold DB at hg
 unfold Region.wanted
 cases ho:o.guard with
 | none=>rw [ho] at hg;simpa using hg
 | some jw=>
   obtain ⟨j,want⟩:=jw
   rw [ho] at hg
   simp only at hg ⊢
   cases hj:(ops.toList[j]?).bind (·.dst) with
   | none=>rw [hj] at hg;cases hg
   | some d=>
     rw [hj] at hg
     simp only at hg
     cases hv:t[d]? with
     | none=>rw [hv] at hg;cases hg
     | some v=>
       rw [hv] at hg
       obtain ⟨y1,y2⟩:=uE h hj hv
       split at hg
       · rename_i b' e
         cases e
         rw [(y1 b' rfl).1]
         cases hg
         cases b'<;>cases want<;>rfl
       · cases hg
       · rename_i v' e1 e2 e
         cases e
         cases hg
         rw [y2 (fun h=>e2 (by rw [h])) (fun b h=>e1 b (by rw [h]))]
         cases want<;>rfl
       · rename_i e;cases e
theorem Aj {g:G} {w:World} {b:Act} {s:St} {U:List Nat} {i:Nat} {o:Oper} {u:V} {x:Value} (ho:ops.toList[i]? =some o) (hi:i∈U) (hU:U.Nodup)
 (hd: ∀d,o.dst=some d->s.t[d]? =some u/\bf ops.toList (U.erase i) d=false) (hs:cf c g w b (fG (bf ops.toList U) s)) (hv:VT g w s.eg.length s.nt u x):
 cf c g w (b.put o.dst x) (fG (bf ops.toList (U.erase i)) s):=by
 obtain ⟨t,ob,nt,df⟩:=s
 have LB: ∀k,o.dst≠some k->bf ops.toList (U.erase i) k=bf ops.toList U k:=fun k hk=>by
  rw [Bool.eq_iff_iff,dr,dr]
  constructor
  · rintro ⟨j,hj,p,hp,e⟩;exact ⟨j,List.mem_of_mem_erase hj,p,hp,e⟩
  · rintro ⟨j,hj,p,hp,e⟩
    refine ⟨j,(List.Nodup.mem_erase_iff hU).2 ⟨fun e'=> ?_,hj⟩,p,hp,e⟩
    subst e'
    rw [ho] at hp;cases hp
    exact hk e
 cases rv:o.dst with
 | none=>
   have:bf ops.toList (U.erase i)=bf ops.toList U:=by funext k;exact LB k (by rw [rv];simp)
   rw [this];exact hs
 | some d=>
   obtain ⟨h1,h2⟩:=hd d rv
   have ht:(masked (bf ops.toList U) t).set d u=masked (bf ops.toList (U.erase i)) t:=by
    apply List.ext_getElem?
    intro k
    rw [List.getElem?_set,fF]
    by_cases hk:d=k
    · subst hk
      have aJ:=(List.getElem?_eq_some_iff.1 h1).1
      simp only at aJ
      rw [if_pos rfl,if_pos aJ,bQ,h1]
      simp [h2]
    · rw [if_neg hk,bQ,bQ,LB k (by rw [rv];simpa using hk)]
   exact ⟨hs.wi,by
    show fy g w ob.length nt (b.tmps.setIfInBounds d x) (masked (bf ops.toList (U.erase i)) t)
    rw [←ht];exact hs.ti.set hv,hs.di⟩
theorem nA {g:G} {w:World} {n nt:Nat} {tm:Array Value} {t t':List V} (h:fy g w n nt tm t) (hl:t'.length=t.length) (ht: ∀(k:Nat) v,t'[k]? =some v->v= .undef\/t[k]? =some v):fy g w n nt tm t':=
 ⟨by rw [hl];exact h.size,fun k v x hv hx=>by
  rcases ht k v hv with rfl | h1
  · exact ⟨.undef,trivial⟩
  · exact h.rel k v x h1 hx,h.gl⟩
theorem ly {o:Option Tmp} {l:List Nat}:jE o l=true↔ ∃d,o=some d/\d∈l:=by
 cases o with
 | none=>simp [jE]
 | some d=>simp [jE,eI]
theorem fZ {o p:Option Tmp}:i9 o p=true↔ ∃d,o=some d/\p=some d:=by
 cases o<;>cases p<;>simp [i9]
 exact ⟨fun h=>h.symm,fun h=>h.symm⟩
structure rz (all:List Oper) (done:List Nat):Prop where
 self: ∀i∈done, ∀o,all[i]? =some o->jE o.dst (looks all o)=false
 same: ∀i∈done, ∀j∈done,i≠j-> ∀o p,all[i]? =some o->all[j]? =some p->i9 o.dst p.dst=false
 look: ∀i∈done, ∀j∈done,i≠j-> ∀o p,all[i]? =some o->all[j]? =some p->jE p.dst (looks all o)=true->dn (dx all []) i j=true
structure G0 (all:List Oper) (n:Nat) (fl:Bool) (r:List (Nat × Bool)) (done:List Nat) (o:Oper):Prop where
 op:all[n]? =some o
 apart: ∀i∈done, ∃p,all[i]? =some p/\i9 o.dst p.dst=false/\(fl=true->jE o.dst (looks all p)=false)/\(jE p.dst (looks all o)=true->dn (dx all []) n i=true)
 self:fl=true->jE o.dst (looks all o)=false
 last:fl=false-> ∀j∈r,dn (dx all []) j.1 n=true
 rest:pd all (dx all []) r (if fl then n::done else done)=true
theorem sf {all:List Oper} {n:Nat} {fl:Bool} {r:List (Nat × Bool)} {done:List Nat} (h:pd all (dx all []) ((n,fl)::r) done=true): ∃o,G0 all n fl r done o:=by
 unfold pd at h
 rw [Bool.and_eq_true] at h
 obtain ⟨h,hr⟩:=h
 split at h
 case h_2=>cases h
 rename_i o ho
 rw [Bool.and_eq_true,Bool.and_eq_true] at h
 obtain ⟨⟨h1,h2⟩,h3⟩:=h
 refine ⟨o,ho,fun i hi=> ?_,fun hf=>by subst hf;simpa using h2,fun hf=>by subst hf;simpa using h3,hr⟩
 have:=List.all_eq_true.1 h1 i hi
 split at this
 case h_2=>cases this
 rename_i p hp
 rw [Bool.and_eq_true,Bool.and_eq_true] at this
 obtain ⟨⟨a1,a2⟩,a3⟩:=this
 refine ⟨p,hp,by simpa using a1,fun hf=>by subst hf;simpa using a2,fun hd=> ?_⟩
 rw [hd] at a3;simpa using a3
theorem rz.cons {all:List Oper} {done:List Nat} {n:Nat} {o:Oper} {r:List (Nat × Bool)} (h:rz all done) (hh:G0 all n true r done o):rz all (n::done):=by
 have w_: ∀p,all[n]? =some p->p=o:=fun p hp=>by rw [hh.op] at hp;exact (Option.some.inj hp).symm
 have ap: ∀i∈done, ∀p,all[i]? =some p->i9 o.dst p.dst=false/\jE o.dst (looks all p)=false/\(jE p.dst (looks all o)=true->dn (dx all []) n i=true):=fun i hi p hp=>by
  obtain ⟨p',LC,a1,a2,a3⟩:=hh.apart i hi
  rw [hp] at LC;cases LC
  exact ⟨a1,a2 rfl,a3⟩
 have symm: ∀a b:Option Tmp,i9 a b=false->i9 b a=false:=fun a b h=>by
  cases hb:i9 b a with
  | false=>rfl
  | true=>
    obtain ⟨d,e1,e2⟩:=fZ.1 hb
    rw [fZ.2 ⟨d,e2,e1⟩] at h;cases h
 refine ⟨fun i hi p hp=> ?_,fun i hi j hj pe p q hp hq=> ?_,fun i hi j hj pe p q hp hq hd=> ?_⟩
 · rcases List.mem_cons.1 hi with rfl | hi
   · rw [w_ p hp];exact hh.self rfl
   · exact h.self i hi p hp
 · rcases List.mem_cons.1 hi with hi | hi<;>rcases List.mem_cons.1 hj with hj | hj
   · exact absurd (hi.trans hj.symm) pe
   · subst hi;rw [w_ p hp];exact (ap j ‹j∈done› q hq).1
   · subst hj;rw [w_ q hq];exact symm _ _ (ap i ‹i∈done› p hp).1
   · exact h.same i hi j hj pe p q hp hq
 · rcases List.mem_cons.1 hi with hi | hi<;>rcases List.mem_cons.1 hj with hj | hj
   · exact absurd (hi.trans hj.symm) pe
   · subst hi;rw [w_ p hp] at hd;exact (ap j ‹j∈done› q hq).2.2 hd
   · subst hj;rw [w_ q hq] at hd;rw [(ap i ‹i∈done› p hp).2.1] at hd;cases hd
   · exact h.look i hi j hj pe p q hp hq hd
theorem qi {t:List V} {ob:List af} {nt:Nat} {df:List (Fn × List V × List V)} {dst:Option Tmp} {v:V} {K:St->Prop} (h:St.put ⟨t,ob,nt,df⟩ dst v K):
 ∃t',K ⟨t',ob,nt,df⟩/\t'.length=t.length/\(∀d,dst=some d->t'[d]? =some v)/\ ∀k,dst≠some k->t'[k]? =t[k]? :=by
 cases dst with
 | none=>exact ⟨t,h,rfl,by simp,fun _ _=>rfl⟩
 | some d=>
   simp only [St.put,bk] at h
   obtain ⟨aJ,h⟩:=cj h
   refine ⟨_,h,by simp,fun d' e=> ?_,fun k hk=> ?_⟩
   · cases e;rw [List.getElem?_set_self aJ]
   · rw [List.getElem?_set_ne (fun e=>hk (by rw [e]))]
theorem eB {listed:Array Bool} {i:Nat}:listed.getD i true=false↔i<listed.size/\listed.getD i false=false:=by
 by_cases h:i<listed.size<;>simp [Array.getD,h]
theorem Cd {listed:Array Bool} {i j:Nat} (hi:i<listed.size):(listed.setIfInBounds i true).getD j false=true↔j=i\/listed.getD j false=true:=by
 by_cases h:i=j
 · subst h;simp [Array.getD,hi]
 · rw [getD_set_ne false h]
   exact ⟨.inr,fun h'=>h'.resolve_left fun e=>h e.symm⟩
theorem JL {g:G} {w:World} {b:Act} {m:Nat->Bool} {t t':List V} {ob:List af} {nt:Nat} {df:List (Fn × List V × List V)} {dst:Option Tmp} {v:V} {x:Value} (hs:cf c g w b (fG m ⟨t,ob,nt,df⟩)) (hv:VT g w ob.length nt v x)
 (hl:t'.length=t.length) (h1: ∀d,dst=some d->t'[d]? =some v) (h2: ∀k,dst≠some k->t'[k]? =t[k]?):cf c g w (b.put dst x) (fG m ⟨t',ob,nt,df⟩):=by
 cases dst with
 | none=>
   have:t'=t:=List.ext_getElem? fun k=>h2 k (by simp)
   rw [this];exact hs
 | some d=>
   refine ⟨hs.wi,nA (hs.ti.set (i:=d) hv) (by simp [fF,hl,fG]) fun k u hu=> ?_,hs.di⟩
   simp only [fG,bQ] at hu
   by_cases hk:d=k
   · subst hk
     rw [h1 d rfl] at hu
     simp only [Option.map_some,Option.some.injEq] at hu
     split at hu
     · exact .inl hu.symm
     · refine .inr ?_
       have:d<t.length:=by rw [←hl];exact (List.getElem?_eq_some_iff.1 (h1 d rfl)).1
       show ((masked m t).set d v)[d]? =_
       rw [List.getElem?_set_self (by rw [fF];exact this),hu]
   · rw [h2 k (by simpa using hk)] at hu
     refine .inr ?_
     show ((masked m t).set d v)[k]? =_
     rw [List.getElem?_set_ne hk,bQ];exact hu
end
end VL
namespace VL
open Go
theorem js {α:Type} {l:List α} {x:α} {i:Nat} {K:α->Prop} (h:cA l i K):cA (l++[x]) i K:=by
 obtain ⟨v,h1,h2⟩:=aX h
 rw [om,List.getElem?_append_left (List.getElem?_eq_some_iff.1 h1).1,h1]
 exact h2
theorem E3 (S:Sys) {o:Oper} {t:List V} {ob:List af} {x:af} {K:V->Prop} (h:ga S o t ob K):ga S o t (ob++[x]) K:=by
 unfold ga at h ⊢
 split at h
 case h_6=>
  refine (aM _ _).mono (fun v h=> ?_) h
  split at h
  · exact js h
  · exact h
  · exact js h
  · exact h
 case h_10=>
  refine (aM _ _).mono (fun v h=> ?_) h
  refine (aM _ _).mono (fun u h=> ?_) h
  unfold lW at h ⊢
  split at h
  · split at h
    · cases v<;>try exact h
      exact js h
    · exact h
  · exact h
 case h_11=>
  refine (aM _ _).mono (fun v h=> ?_) h
  split at h
  · split at h
    · split at h
      · exact js h
      · exact h
    · exact h
  · exact js h
  · exact h
 case h_16=>
  refine (aM _ _).mono (fun v h=> ?_) h
  refine (aM _ _).mono (fun u h=> ?_) h
  split at h
  · split at h
    · rename_i e j off _
      exact (bt S.P _).mono (fun z h=>⟨h.1,h.2.1,js h.2.2⟩) h
    all_goals exact h
  · exact h
 all_goals exact h
theorem E2.snoc {S:Sys} {all:List Oper} {m:Nat} {t:List V} {ob:List af} {x:af} (h:E2 S all m t ob):E2 S all m t (ob++[x]):=by
 obtain ⟨o,u,h1,h2,h3⟩:=h
 refine ⟨o,u,h1,h2,?_⟩
 rcases h3 with ⟨a,b⟩ | h3
 · exact .inl ⟨a,E3 S b⟩
 · exact .inr h3
theorem Ak {o:Oper} (h:pY o=true): ∃T d,o.op= .alloc T/\o.guard=none/\jD o=[]/\o.dst=some d:=by
 unfold pY at h
 split at h
 · rename_i e1 e2 e3 e4
   exact ⟨_,_,e1,e2,e3,e4⟩
 · cases h
theorem pw {all:List Oper} {i:Nat}:bz all i=true↔ ∃o,all[i]? =some o/\pY o=true:=by
 unfold bz
 cases all[i]? <;>simp
theorem G1 {all:List Oper} {i j:Nat} (h:bz all j=true):dn (dx all []) j i=false:=by
 obtain ⟨o,ho,ha⟩:=pw.1 h
 obtain ⟨T,d,_,_,hd,_⟩:=Ak ha
 have hg:=Ai all [] j o ho
 simp only [List.length_nil,Nat.zero_add] at hg
 unfold dn
 rw [hg,hd]
 simp [kM]
theorem fR {all:List Oper} {t:List V} {i:Nat} (h:bz all i=false):dT all t i=none:=by
 unfold bz at h
 unfold dT
 cases e:all[i]? with
 | none=>rfl
 | some o=>
   rw [e] at h
   simp only at h ⊢
   rw [h]
theorem jT {all:List Oper} {t:List V} {i k:Nat} (h:dT all t i=some k): ∃o d,all[i]? =some o/\pY o=true/\o.dst=some d/\t[d]? =some (.ptr k 0):=by
 unfold dT at h
 cases e:all[i]? with
 | none=>rw [e] at h;cases h
 | some o=>
   rw [e] at h
   simp only at h
   split at h
   · rename_i d e1 e2
     refine ⟨o,d,rfl,e1,e2,?_⟩
     split at h
     · cases h;assumption
     · cases h
   · cases h
theorem G2 {all:List Oper} {t:List V} {i k:Nat} {o:Oper} {d:Nat} (h1:all[i]? =some o) (h2:pY o=true) (h3:o.dst=some d) (h4:t[d]? =some (.ptr k 0)):dT all t i=some k:=by
 unfold dT
 rw [h1]
 simp only
 rw [h2,h3]
 simp only
 rw [h4]
 rfl
theorem iC {all:List Oper} {t t':List V} {i:Nat} (h: ∀o d,all[i]? =some o->o.dst=some d->t'[d]? =t[d]?):dT all t' i=dT all t i:=by
 unfold dT
 cases e:all[i]? with
 | none=>rfl
 | some o=>
   simp only
   cases e1:pY o with
   | false=>rfl
   | true=>
     cases e2:o.dst with
     | none=>rfl
     | some d=>simp only;rw [h o d e e2]
theorem mX {f:Nat->Option Nat} {i:Nat} (h:f i=none): ∀U:List Nat,(U.erase i).filterMap f=U.filterMap f
 | []=>rfl
 | x::r=>by
   by_cases e:x=i
   · subst e;simp [h]
   · rw [List.erase_cons_tail (by simpa using e),List.filterMap_cons,List.filterMap_cons,mX h r]
theorem rA {all:List Oper} {U:List Nat} {t t':List V} (h: ∀i∈U,dT all t' i=dT all t i):dQ all U t'=dQ all U t:=by
 unfold dQ
 induction U with
 | nil=>rfl
 | cons x r ih=>rw [List.filterMap_cons,List.filterMap_cons,h x (by simp),ih fun i hi=>h i (by simp [hi])]
theorem kR {k:Nat} {ok:Nat->Bool}: ∀ {l:List V} {d:Nat},(∀(i:Nat) v,l[i]? =some v->k∈aW v->ok (d+i)=true)->fO k ok d l=true
 | [],d,h=>rfl
 | x::r,d,h=>by
   simp only [fO,Bool.and_eq_true]
   refine ⟨?_,kR fun i v hv hk=>by have:=h (i+1) v (by simpa using hv) hk;rwa [show d+(i+1)=d+1+i by omega] at this⟩
   cases e:kZ k (aW x) with
   | true=>exact h 0 x (by simp) (eI.1 e)
   | false=>rfl
theorem qj {k:Nat}: ∀ {l:List af} {d:Nat},(∀(i:Nat) x,l[i]? =some x->k∈fU x->d+i=k)->gQ k d l=true
 | [],d,h=>rfl
 | x::r,d,h=>by
   simp only [gQ,Bool.and_eq_true]
   refine ⟨?_,qj fun i v hv hk=>by have:=h (i+1) v (by simpa using hv) hk;omega⟩
   cases e:kZ k (fU x) with
   | true=>have:=h 0 x (by simp) (eI.1 e);simp only [Nat.add_zero] at this;subst this;simp
   | false=>rfl
theorem mg {all:List Oper} {A:List Nat} {a d:Nat}: ∀ {done:List Nat} {i:Nat},i∈done->(all[i]?).bind (·.dst)=some d->(i=a\/dn A i a=true)->ko all A done a d=true
 | [],i,h,_,_=>by cases h
 | j::r,i,h,h1,h2=>by
   simp only [ko,Bool.or_eq_true,Bool.and_eq_true]
   cases h with
   | head=>
     refine .inl ⟨by rw [h1];simp,?_⟩
     rcases h2 with rfl | h2
     · exact .inl (by simp)
     · exact .inr h2
   | tail _ h=>exact .inr (mg h h1 h2)
theorem qk {all:List Oper} {A:List Nat} {done:List Nat} {n a d:Nat} (h:ko all A done a d=true):ko all A (n::done) a d=true:=by
 obtain ⟨i,hi,h1,h2⟩:=kz h
 exact mg (List.mem_cons_of_mem _ hi) h1 h2
theorem Af.slot {S:Sys} {all:List Oper} {done:List Nat} {m n:Nat} {t t':List V} {ob:List af} {df:List (Fn × List V × List V)} {o:Oper} {v:V} (h:Af S all done m t ob df) (ho:all[n]? =some o)
 (h0: ∀p d,all[m]? =some p->p.dst=some d->t'[d]? =t[d]?) (h1: ∀d,o.dst=some d->t'[d]? =some v) (h2: ∀k,o.dst≠some k->t'[k]? =t[k]?)
 (hv: ∀k,dT all t m=some k->k∈aW v->dn (dx all []) n m=true) (ha:bz all m=true):Af S all (n::done) m t' ob df:=by
 obtain ⟨k,hk,_⟩:=h.obj ha
 obtain ⟨o',T,d,j,i,cz,a1,a2,a3,a4,a5,a6,a7,a8⟩:=h
 obtain ⟨p,d',b1,b2,b3,b4⟩:=jT hk
 rw [a1] at b1;cases b1
 rw [a3] at b3;cases b3
 rw [a4] at b4;cases b4
 refine ⟨o',T,d,_,i,cz,a1,a2,a3,by rw [h0 o' d a1 a3];exact a4,a5,a6,a7,?_⟩
 unfold gh at a8 ⊢
 simp only [Bool.and_eq_true] at a8 ⊢
 refine ⟨⟨kR fun q u hu hm=> ?_,a8.1.2⟩,a8.2⟩
 rw [Nat.zero_add]
 by_cases hq:o.dst=some q
 · rw [h1 q hq] at hu;cases hu
   exact mg (List.mem_cons_self ..) (by rw [ho];exact hq) (.inr (hv _ hk hm))
 · rw [h2 q hq] at hu
   have:=fe a8.1.1 hu hm
   rw [Nat.zero_add] at this
   exact qk this
theorem Af.snoc {S:Sys} {all:List Oper} {done:List Nat} {m:Nat} {t:List V} {ob:List af} {df:List (Fn × List V × List V)} {x:af} (h:Af S all done m t ob df) (hx:fU x=[]):Af S all done m t (ob++[x]) df:=by
 obtain ⟨o',T,d,j,i,cz,a1,a2,a3,a4,a5,a6,a7,a8⟩:=h
 refine ⟨o',T,d,j,i,cz,a1,a2,a3,a4,a5,a6,by rw [List.getElem?_append_left (List.getElem?_eq_some_iff.1 a7).1];exact a7,?_⟩
 unfold gh at a8 ⊢
 simp only [Bool.and_eq_true] at a8 ⊢
 refine ⟨⟨a8.1.1,qj fun q y hy hm=> ?_⟩,a8.2⟩
 rcases eH hy with ⟨_,hy⟩ | ⟨_,rfl⟩
 · exact kQ a8.1.2 hy hm
 · rw [hx] at hm;cases hm
theorem Af.apart {S:Sys} {all:List Oper} {done:List Nat} {i j k:Nat} {t:List V} {ob:List af} {df:List (Fn × List V × List V)} (hd:rz all done) (hj:j∈done) (pe:i≠j) (aj:bz all j=true)
 (h:Af S all done i t ob df) (Un:dT all t i=some k) (Uo:dT all t j=some k):False:=by
 obtain ⟨o',T,d,k',_,cz,a1,a2,a3,a4,a5,a6,a7,a8⟩:=h
 obtain ⟨p,d',b1,b2,b3,b4⟩:=jT Un
 rw [a1] at b1;cases b1
 rw [a3] at b3;cases b3
 rw [a4] at b4;cases b4
 obtain ⟨p,d',b1,b2,b3,b4⟩:=jT Uo
 unfold gh at a8
 simp only [Bool.and_eq_true] at a8
 have:=fe a8.1.1 b4 (by simp [aW])
 rw [Nat.zero_add] at this
 obtain ⟨q,hq,e1,e2⟩:=kz this
 by_cases Tc:q=j
 · subst Tc
   rcases e2 with rfl | e2
   · exact pe rfl
   · rw [G1 aj] at e2;cases e2
 · obtain ⟨oq,e3,e4⟩:=Option.bind_eq_some_iff.1 e1
   have:=hd.same q hq j hj Tc oq p e3 b1
   rw [fZ.2 ⟨d',e4,b3⟩] at this;cases this
theorem rB {all:List Oper} {n:Nat} {t:List V} {v:V} {k:Prop}: ∀ {done:List Nat},zn all (dx all []) n t v done k->k/\ ∀a∈done,bz all a=true->dn (dx all []) n a=false-> ∀j,dT all t a=some j->j ∉ aW v
 | [],h=>⟨h,by simp⟩
 | a::r,h=>by
   unfold zn at h
   split at h
   case h_2=>exact h.elim
   rename_i o ho
   have key:k/\(∀a∈r,bz all a=true->dn (dx all []) n a=false-> ∀j,dT all t a=some j->j ∉ aW v)/\(bz all a=true->dn (dx all []) n a=false-> ∀j,dT all t a=some j->j ∉ aW v):=by
    split at h
    · rename_i hc
      obtain ⟨h1,h2⟩:=rB (done:=r) h
      refine ⟨h1,h2,fun ha hn=> ?_⟩
      obtain ⟨o',Ml,ha⟩:=pw.1 ha
      rw [ho] at Ml;cases Ml
      rw [ha,hn] at hc;cases hc
    · split at h
      case h_2=>exact h.elim
      rename_i d hd
      obtain ⟨p,hp,h⟩:=aX h
      split at h
      case h_2=>exact h.elim
      rename_i j
      split at h
      · exact h.elim
      · rename_i hm
        obtain ⟨h1,h2⟩:=rB (done:=r) h
        refine ⟨h1,h2,fun ha hn j' Gw Jc=> ?_⟩
        obtain ⟨o',d',b1,b2,b3,b4⟩:=jT Gw
        rw [ho] at b1;cases b1
        rw [hd] at b3;cases b3
        rw [hp] at b4;cases b4
        rw [eI.2 Jc] at hm;cases hm
   refine ⟨key.1,fun b hb=> ?_⟩
   cases hb with
   | head=>exact key.2.2
   | tail _ hb=>exact key.2.1 b hb
section
variable {c:Ctx} {g:G} {w:World} {ob:List af} {nt:Nat}
theorem Ext.more (g:G) (w:World) (n nt:Nat):Ext g w n nt g w (n+1) nt:=⟨by omega,Nat.le_refl _,fun _ _=>rfl,fun _ _ h=>⟨h,rfl⟩,fun _ _=>rfl⟩
theorem a_.G3 (h:a_ c g w ob nt):a_ c g w (ob++[.none]) nt:=by
 have he:=Ext.more g w ob.length nt
 have hlen:=h.len
 refine ⟨h.os,h.tape,h.output,h.size,h.jG,by simp;omega,?_,?_,?_,?_,?_,h.i1,h.i2,h.i3,?_,?_,?_,h.f2,h.i6⟩
 · intro i y hy
   rw [List.length_append,List.length_singleton]
   rcases eH hy with ⟨hi,hy⟩ | ⟨rfl,rfl⟩
   · exact he.tQ (h.obj i _ hy) fun _=>rfl
   · trivial
 · intro i y hy hr
   rcases eH hy with ⟨hi,hy⟩ | ⟨rfl,rfl⟩
   · exact h.lt i y hy hr
   · cases hr
 · intro i j y z hy hz hr tf
   rcases eH hy with ⟨hi,hy⟩ | ⟨rfl,rfl⟩
   · rcases eH hz with ⟨hj,hz⟩ | ⟨rfl,rfl⟩
     · exact h.inj i j y z hy hz hr tf
     · cases tf
   · cases hr
 · intro i y hi hy hm
   rcases eH hy with ⟨_,hy⟩ | ⟨e,rfl⟩
   · exact h.sH i y hi hy hm
   · omega
 · intro i y hy hr
   rcases eH hy with ⟨_,hy⟩ | ⟨e,rfl⟩
   · exact h.new i y hy hr
   · cases hr
 · intro i T cs k hy
   rcases eH hy with ⟨_,hy⟩ | ⟨e,e'⟩
   · exact h.i4 i T cs k hy
   · cases e'
 · intro i y k hy hl
   rcases eH hy with ⟨_,hy⟩ | ⟨e,rfl⟩
   · exact h.i5 i y k hy hl
   · cases hl
 · intro i hi hn
   obtain ⟨h1,h2,h3,h4⟩:=h.f1 i hi hn
   refine ⟨h1,h2,h3,fun o' y hy hr=> ?_⟩
   rcases eH hy with ⟨_,hy⟩ | ⟨e,rfl⟩
   · exact h4 o' y hy hr
   · cases hr
end
section
variable {S:Sys} {c:Ctx} {Q:Exit->Act->World->Prop} {ops:Array Oper}
theorem JM {P:Program} {g:G} {w:World} {a:Act} {o:Oper} {T:TypeId} {t:List V} {ob:List af} {nt:Nat} {df:List (Fn × List V × List V)} {k:Nat} {i:TypeInfo} {z:Value} {next:Act->World->Prop} (ho:o.op= .alloc T)
 (hs:cf c g w a ⟨t,ob,nt,df⟩) (hk:ob[k]? =some .none) (hn:c.n0<=k) (ht: ∀v∈t,k ∉ aW v) (rl: ∀(i:Nat) y,ob[i]? =some y->k ∉ fU y) (Ji:gP [k] df=true) (hi:P.info? T=some i) (hz:i.zero=some z)
 (h1:(ax z).cells.all V.aE=true) (h2:(ax z).jy=true)
 (H: ∀g' w' x,cf c g' w' a ⟨t,ob.set k (.cells true T (ax z).cells),nt,df⟩->VT g' w' ob.length nt (.ptr k 0) x->next (a.put o.dst x) w'):o.wp P a w next Q:=by
 have zf:=(List.getElem?_eq_some_iff.1 hk).1
 have aS:(execOp a.eval o).run P w= .ok (.value (.pointer (some ⟨w.heap.size,0,none⟩))) (w.alloc (.cells z.cells T)):=by
  simp [execOp,ho,Instr.alloc,zeroValue,typeInfo,hi,hz,newVar,newRow]
 unfold Oper.wp
 rw [aS]
 have hI:=hs.wi.i3
 have hx:fx (g.lay k w.heap.size) (w.alloc (.cells z.cells T)) ob.length nt w.heap.size (.cells true T (ax z).cells):=by
  obtain ⟨ka,Dl⟩:=jn (bP (bs:=(g.lay k w.heap.size).bs) (I:=g.I) (w:=w.alloc (.cells z.cells T)) (n:=ob.length) z) h1
  have oI:=k_ (bP (bs:=(g.lay k w.heap.size).bs) (I:=g.I) (w:=w.alloc (.cells z.cells T)) (n:=ob.length) z) h1
  have t_:=n_ (g:=g) (w:=w) (ob:=ob) (nt:=nt) (db:=g.db) (bP z) (.fA (fh z)) h1 h2
  exact ⟨z.cells,heap_alloc_new w _,ka,fun q u y hu hy=>⟨⟨Dl q u y hu hy,t_ q u y hu hy⟩,oI y (Array.mem_toList_iff.2 (Array.mem_of_getElem? hy))⟩⟩
 have OV: ∀v x,aw g.bs g.I w ob.length v x->k ∉ aW v->aw (g.lay k w.heap.size).bs (g.lay k w.heap.size).I (w.alloc (.cells z.cells T)) ob.length v x:=fun v x h hv=>by
  have h1:aw (g.lay k w.heap.size).bs g.I w ob.length v x:=h.Ta fun o ho _=>by
   show (if o=k then w.heap.size else g.bs o)=g.bs o
   rw [if_neg (fun (e:o=k)=>hv (e▸ho))]
  exact h1.mono (fun o ho=>⟨ho,rfl⟩) fun b q hb=>⟨hb,by
   have:=hI b q hb
   simp only [World.cell?]
   rw [bc _ _ this]⟩
 refine H (g.lay k w.heap.size) _ _ ⟨hs.wi.lay hk hn rl hx,?_,?_⟩ ?_
 · refine ⟨hs.ti.size,fun q v x hv hx=> ?_,⟨fun b l hb q v hv=>by
    obtain ⟨h1,h2⟩:=hs.ti.gl.1 b l hb q v hv
    refine ⟨?_,h2⟩
    rw [←h1]
    have:=hI b q h2
    simp only [World.cell?]
    rw [bc _ _ this],fun b hb=>by
    obtain ⟨m,h1,h2⟩:=hs.ti.gl.2 b hb
    refine ⟨m,?_,h2⟩
    rw [←h1]
    have:=hI b 0 h2
    simp only [World.cell?]
    rw [bc _ _ this]⟩⟩
   have:=hs.ti.rel q v x hv hx
   show VT _ _ (ob.set k _).length _ _ _
   rw [List.length_set]
   exact ⟨OV v x this.rel (ht v (List.mem_of_getElem? hv)),this.tok⟩
 · show gI _ _ (ob.set k _).length _ _
   rw [List.length_set]
   exact gI.forget (ms:=[k]) (fun v x h dN=>OV v x h fun hm=>dN k hm (by simp)) hs.di Ji
 · refine ⟨?_,trivial⟩
   have:aw (g.lay k w.heap.size).bs (g.lay k w.heap.size).I (w.alloc (.cells z.cells T)) ob.length (.ptr k 0) (.pointer (some ⟨(g.lay k w.heap.size).bs k,0,none⟩)):= .ptr zf
   have e:(g.lay k w.heap.size).bs k=w.heap.size:=by simp [G.lay]
   rw [e] at this
   exact this
end
end VL
namespace VL
open Go
section
variable {S:Sys} {c:Ctx} {Q:Exit->Act->World->Prop} {ops:Array Oper}
structure N7 (S:Sys) (c:Ctx) (all:List Oper) (done:List Nat) (i:Nat) (t:List V) (ob:List af) (df:List (Fn × List V × List V)):Prop where
 Ru:bz all i=false->E2 S all i t ob
 al:bz all i=true->Af S all done i t ob df
 low:bz all i=true-> ∀k,dT all t i=some k->c.n0<=k
 zero:bz all i=true-> ∀o T p z,all[i]? =some o->o.op= .alloc T->S.P.info? T=some p->p.zero=some z->(ax z).cells.all V.aE=true/\(ax z).jy=true
theorem N7.Cc {all:List Oper} {done U:List Nat} {t:List V} {ob:List af} {df:List (Fn × List V × List V)} (hu: ∀i∈U,N7 S c all done i t ob df) (hU: ∀m∈U, ∀i∈done,dn (dx all []) i m=true->i∈U):
 ∀k∈dQ all U t,jR k (masked (bf all U) t) ob:=by
 intro k hk
 obtain ⟨m,hm,hk⟩:=List.mem_filterMap.1 hk
 have ha:bz all m=true:=by
  cases e:bz all m with
  | true=>rfl
  | false=>rw [fR e] at hk;cases hk
 refine ((hu m hm).al ha).Cc hk fun i hi h=> ?_
 rcases h with rfl | h
 · exact hm
 · exact hU m hm i hi h
theorem yt (ks:List Nat) (ob:List af):bx ks (ob++[.none])=bx ks ob++[.none]:=by
 apply List.ext_getElem?
 intro q
 rw [ea]
 rcases Nat.lt_trichotomy q ob.length with h | h | h
 · rw [List.getElem?_append_left h,List.getElem?_append_left (by rw [bR];exact h),ea]
 · subst h
   rw [List.getElem?_append_right (Nat.le_refl _),List.getElem?_append_right (by rw [bR];exact Nat.le_refl _),bR]
   simp
 · rw [List.getElem?_eq_none (by simp;omega),List.getElem?_eq_none (by simp [bR];omega)]
   simp
theorem uR (s:St):yq [] s=s:=by obtain ⟨t,ob,nt,df⟩:=s;rfl
theorem Ce (S:Sys) (hm:e_ S) {o:Oper} {t:List V} {nt:Nat} {df:List (Fn × List V × List V)} {ks:List Nat} {ob:List af} {K:V->St->Prop} (hu: ∀j∈ks,jR j t ob)
 (h:zm S o ⟨t,ob,nt,df⟩ K fun _ _=>False):zm S o ⟨t,bx ks ob,nt,df⟩ (fun v s'=> ∃s,K v s/\s'=yq ks s) fun _ _=>False:=by
 cases ks with
 | cons k r=>exact xa S hm hu (fun v s h=>⟨s,h,rfl⟩) h
 | nil=>
   have:(fun v s'=> ∃s,K v s/\s'=yq [] s)=K:=by
    funext v s'
    apply propext
    constructor
    · rintro ⟨s,h,rfl⟩;rw [uR];exact h
    · intro h;exact ⟨s',h,(uR s').symm⟩
   rw [this];exact h
theorem G4 {g:G} {w:World} {a:Act} {s:St} {U:List Nat} {i:Nat} {o:Oper} (ho:ops.toList[i]? =some o) (hi:i∈U) (hU:U.Nodup) (se:bz ops.toList i=false) (hf:E2 S ops.toList i s.t s.eg)
 (DC: ∀d∈looks ops.toList o,bf ops.toList U d=false) (hd: ∀d,o.dst=some d->bf ops.toList (U.erase i) d=false) (Cb: ∀k∈dQ ops.toList U s.t,jR k (masked (bf ops.toList U) s.t) s.eg)
 (hs:cf c g w a (gJ ops.toList U s)) {Kc:Act->World->Prop} (hk: ∀g w a,cf c g w a (gJ ops.toList (U.erase i) s)->Kc a w):wpOp S.P ops Q i Kc a w:=by
 obtain ⟨o',u,Ml,h1,h2⟩:=hf
 have:o'=o:=by rw [ho] at Ml;exact (Option.some.inj Ml).symm
 subst this
 obtain ⟨t,ob,nt,df⟩:=s
 have GF: ∀d∈looks ops.toList o',t[d]? =(masked (bf ops.toList U) t)[d]? :=fun d hd=>by
  rw [bQ,DC d hd];cases t[d]? <;>rfl
 have w_:ops[i]? =some o':=by simpa using ho
 have DD:dQ ops.toList (U.erase i) t=dQ ops.toList U t:=mX (fR se) U
 have OX: ∀ {g:G} {w:World} {b:Act} {x:Value},cf c g w b (gJ ops.toList U ⟨t,ob,nt,df⟩)->VT g w ob.length nt u x->cf c g w (b.put o'.dst x) (gJ ops.toList (U.erase i) ⟨t,ob,nt,df⟩):=fun iw hv=>by
  have:=Aj (s:=⟨t,bx (dQ ops.toList U t) ob,nt,df⟩) ho hi hU (fun d ET=>⟨h1 d ET,hd d ET⟩) iw (by rw [bR];exact hv)
  show cf c _ _ _ ⟨_,bx (dQ ops.toList (U.erase i) t) ob,nt,df⟩
  rw [DD];exact this
 unfold wpOp
 rw [w_]
 simp only at h1 h2 ⊢
 rw [lx GF,me S ob (uL GF)] at h2
 rcases h2 with ⟨hg,h2⟩ | ⟨hg,rfl⟩
 · rw [jS hs.ti hg,if_pos rfl]
   have h2:=uN S Cb h2
   refine .inl (gV (S:=S) (K:=fun v s'=>v=u/\s'=gJ ops.toList U ⟨t,ob,nt,df⟩) (KP:=fun _ _=>False) (next:=Kc) ?_ hs ?_)
   · refine ⟨fun v x s' g' w' b kN iw _ hv=> ?_,fun _ _ _ _ _ _ h=>h.elim⟩
     obtain ⟨rfl,rfl⟩:=kN
     refine hk _ _ _ (OX iw ?_)
     have hv:VT g' w' (bx (dQ ops.toList U t) ob).length nt v x:=hv
     rw [bR] at hv;exact hv
   · obtain ⟨v,rfl,h3⟩:=ny S o' _ _ _ h2
     exact h3 _ ⟨rfl,rfl⟩
 · rw [jS hs.ti hg,if_neg (by simp)]
   exact hk _ _ _ (OX hs (.of (.aQ rfl (by simp)) rfl))
theorem G5 {g:G} {w:World} {a:Act} {s:St} {done U:List Nat} {i:Nat} {o:Oper} (ho:ops.toList[i]? =some o) (hi:i∈U) (hU:U.Nodup) (se:bz ops.toList i=true) (oV:rz ops.toList done) (Up: ∀j∈U,j∈done)
 (hu: ∀j∈U,N7 S c ops.toList done j s.t s.eg s.defers) (hd: ∀d,o.dst=some d->bf ops.toList (U.erase i) d=false) (Cb: ∀k∈dQ ops.toList U s.t,jR k (masked (bf ops.toList U) s.t) s.eg)
 (hs:cf c g w a (gJ ops.toList U s)) {Kc:Act->World->Prop} (hk: ∀g w a,cf c g w a (gJ ops.toList (U.erase i) s)->Kc a w):wpOp S.P ops Q i Kc a w:=by
 obtain ⟨t,ob,nt,df⟩:=s
 have hA:=(hu i hi).al se
 obtain ⟨k,OY,zf⟩:=hA.obj se
 have jH:=(hu i hi).low se k OY
 have Uq:=hA
 obtain ⟨o',T,d,j,p,z,a1,a2,a3,a4,a5,a6,a7,a8⟩:=hA
 rw [ho] at a1;cases a1
 obtain ⟨o2,d',b1,b2,b3,b4⟩:=jT OY
 rw [ho] at b1;cases b1
 rw [a3] at b3;cases b3
 simp only at a4 b4
 rw [a4] at b4;cases b4
 obtain ⟨T',d',e1,e2,e3,e4⟩:=Ak b2
 have hz:=(hu i hi).zero se o T p z ho a2 a5 a6
 have hm:k∈dQ ops.toList U t:=List.mem_filterMap.2 ⟨i,hi,OY⟩
 have yu:=Cb k hm
 have Mv:(bx (dQ ops.toList U t) ob)[k]? =some .none:=by
  rw [ea,if_pos hm]
  simp only at a7
  rw [a7];rfl
 have w_:ops[i]? =some o:=by simpa using ho
 have hg:DB ops.toList o (masked (bf ops.toList U) t)=some true:=by unfold DB;rw [e2]
 unfold wpOp
 rw [w_]
 simp only
 rw [jS hs.ti hg,if_pos rfl]
 unfold gh at a8
 simp only [Bool.and_eq_true] at a8
 refine .inl (JM (P:=S.P) (k:=k) a2 hs Mv jH yu.Ag (fun q y hy Jc=> ?_) a8.2 a5 a6 hz.1 hz.2 fun g' w' x iw hv=> ?_)
 · have hy:(bx (dQ ops.toList U t) ob)[q]? =some y:=hy
   rw [ea] at hy
   split at hy
   · obtain ⟨_,_,rfl⟩:=Option.map_eq_some_iff.1 hy
     simp [fU] at Jc
   · rename_i hq
     exact yu.eg q y (fun e=>hq (e▸hm)) hy Jc
 · refine hk g' w' _ ?_
   have rl:(bx (dQ ops.toList U t) ob).set k (.cells true T (ax z).cells)=bx (dQ ops.toList (U.erase i) t) ob:=by
    apply List.ext_getElem?
    intro q
    have dB: ∀q,q∈dQ ops.toList U t↔q=k\/q∈dQ ops.toList (U.erase i) t:=fun q=>by
     constructor
     · intro h
       obtain ⟨m,BO,EP⟩:=List.mem_filterMap.1 h
       by_cases e:m=i
       · subst e;rw [OY] at EP;cases EP;exact .inl rfl
       · exact .inr (List.mem_filterMap.2 ⟨m,(List.Nodup.mem_erase_iff hU).2 ⟨e,BO⟩,EP⟩)
     · rintro (rfl | h)
       · exact hm
       · obtain ⟨m,BO,EP⟩:=List.mem_filterMap.1 h
         exact List.mem_filterMap.2 ⟨m,List.mem_of_mem_erase BO,EP⟩
    have JN:k ∉ dQ ops.toList (U.erase i) t:=fun h=>by
     obtain ⟨m,BO,EP⟩:=List.mem_filterMap.1 h
     obtain ⟨Ur,BO⟩:=(List.Nodup.mem_erase_iff hU).1 BO
     have Us:bz ops.toList m=true:=by
      cases e:bz ops.toList m with
      | true=>rfl
      | false=>rw [fR e] at EP;cases EP
     exact Af.apart oV (Up m BO) (Ne.symm Ur) Us Uq OY EP
    by_cases hq:q=k
    · subst hq
      rw [List.getElem?_set_self (by rw [bR];exact zf),ea,if_neg JN]
      exact a7.symm
    · rw [List.getElem?_set_ne (Ne.symm hq),ea,ea]
      by_cases h:q∈dQ ops.toList (U.erase i) t
      · rw [if_pos h,if_pos ((dB q).2 (.inr h))]
      · rw [if_neg h,if_neg fun h'=>by
         rcases (dB q).1 h' with h' | h'
         · exact hq h'
         · exact h h']
   have:=Aj (s:=⟨t,(bx (dQ ops.toList U t) ob).set k (.cells true T (ax z).cells),nt,df⟩) ho hi hU (u:= .ptr k 0)
    (fun d2 fP=>⟨by rw [a3] at fP;cases fP;exact a4,hd d2 fP⟩) iw (by rw [List.length_set];exact hv)
   show cf c _ _ _ ⟨_,bx (dQ ops.toList (U.erase i) t) ob,nt,df⟩
   rw [←rl];exact this
theorem px {all:List Oper}: ∀ {done:List Nat} {t:List V} {K:List V->Prop},tO all done t K-> ∃t',K t'/\t'.length=t.length/\ ∀(k:Nat) v,t'[k]? =some v->v= .undef\/(bf all done k=false/\t[k]? =some v)
 | [],t,K,h=>⟨t,h,rfl,fun k v hv=> .inr ⟨by simp [bf],hv⟩⟩
 | i::r,t,K,h=>by
   simp only [tO] at h
   cases hd:(all[i]?).bind (·.dst) with
   | none=>
     rw [hd] at h
     obtain ⟨t',h1,h2,h3⟩:=px h
     refine ⟨t',h1,h2,fun k v hv=> ?_⟩
     rcases h3 k v hv with e | ⟨e,e2⟩
     · exact .inl e
     · refine .inr ⟨?_,e2⟩
       simp only [bf,List.any_cons,hd] at e ⊢
       simpa using e
   | some d=>
     rw [hd] at h
     simp only at h
     obtain ⟨aJ,h⟩:=cj h
     obtain ⟨t',h1,h2,h3⟩:=px h
     refine ⟨t',h1,by rw [h2,List.length_set],fun k v hv=> ?_⟩
     rcases h3 k v hv with e | ⟨e,e2⟩
     · exact .inl e
     · by_cases hk:d=k
       · subst hk
         rw [List.getElem?_set_self aJ] at e2
         exact .inl (Option.some.inj e2).symm
       · rw [List.getElem?_set_ne hk] at e2
         refine .inr ⟨?_,e2⟩
         simp only [bf,List.any_cons,hd] at e ⊢
         simpa [hk] using e
theorem Al {all:List Oper}: ∀ {done:List Nat},Gi all done=true-> ∀i∈done,bz all i=false
 | i::r,h,j,hj=>by
   simp only [Gi,Bool.and_eq_true] at h
   rcases List.mem_cons.1 hj with rfl | hj
   · unfold bz
     have:=h.1
     split at this
     · rename_i o ho;rw [ho];simpa using this
     · rename_i ho;rw [ho]
   · exact Al h.2 j hj
theorem G6 (hm:e_ S) (hS: ∀g args ob K,S.call g args ob K->jL S.P g args ob K) {K:St->Prop} {KP:V->St->Prop} (hk: ∀s g w a,K s->cf c g w a s->Q .normal a w) (Jg: ∀v x s g w a,KP v s->cf c g w a s->aw g.bs g.I w s.eg.length v x->Q (.panic [{v:=x,recovered:=false}]) a w) (hd:qV ops.toList 0=true):
 ∀(N:Nat) (π:List (Nat × Bool)) (done:List Nat) (s:St) (fuel:Nat) (listed:Array Bool) (U:List Nat) (g:G) (w:World) (a:Act),π.length+fuel<=N->
  pd ops.toList (dx ops.toList []) π done=true->(π.map (·.1)).Nodup->(∀i∈done,i ∉ π.map (·.1))->(∀i∈done,i<ops.size)->kp S ops.toList (dx ops.toList []) π done s K KP->rz ops.toList done->
  cf c g w a (gJ ops.toList U s)->U.Nodup->(∀i∈U,i∈done/\listed.getD i true=false/\i ∉ π.map (·.1)/\N7 S c ops.toList done i s.t s.eg s.defers)->
  (∀i,i<ops.size->listed.getD i true=false->i∈U\/i∈π.map (·.1))->(∀i∈π.map (·.1),listed.getD i true=false)->listed.size=ops.size->
  (∀(i:Nat) o,ops.toList[i]? =some o->listed.getD i false=true-> ∀e∈o.after,Region.binds .any e=true->listed.getD e.on false=true)->U.length+π.length<=fuel->
  wpAny S.P .any ops Q fuel listed a w:=by
 have G7: ∀s:St,gJ ops.toList [] s=s:=fun s=>by
  obtain ⟨t,ob,nt,df⟩:=s
  have:masked (bf ops.toList []) t=t:=List.ext_getElem? fun k=>by
   rw [bQ];simp [bf]
  simp only [gJ,this];rfl
 have fin: ∀(s:St) (g:G) (w:World) (a:Act),kp S ops.toList (dx ops.toList []) [] [] s K KP\/K s->cf c g w a (gJ ops.toList [] s)->Q .normal a w:=fun s g w a h hs=>by
  rw [G7] at hs
  rcases h with h | h
  · obtain ⟨t,ob,nt,df⟩:=s;exact hk _ _ _ _ h hs
  · exact hk _ _ _ _ h hs
 intro N
 induction N with
 | zero=>
   intro π done s fuel listed U g w a hN G8 kX G9 Cf h oV hs JO hU Am Cb DE ka nB
   have hf:fuel=0:=by omega
   have Rv:π=[]:=List.eq_nil_of_length_eq_zero (by omega)
   have OZ:U=[]:=List.eq_nil_of_length_eq_zero (by omega)
   subst hf;subst Rv;subst OZ
   refine ⟨?_,fin s g w a (.inr (by obtain ⟨t,ob,nt,df⟩:=s;exact h)) hs⟩
   cases hr:Region.ready .any ops listed with
   | nil=>rfl
   | cons j r=>
     obtain ⟨h1,o,h2,_⟩:=mem_ready.1 (show j∈Region.ready .any ops listed by rw [hr];simp)
     have:=Am j (Array.getElem?_eq_some_iff.1 h2).1 h1
     simp at this
 | succ N ih=>
   intro π done s fuel listed U g w a hN G8 kX G9 Cf h oV hs JO hU Am Cb DE ka nB
   cases fuel with
   | zero=>
     have Rv:π=[]:=List.eq_nil_of_length_eq_zero (by omega)
     have OZ:U=[]:=List.eq_nil_of_length_eq_zero (by omega)
     subst Rv;subst OZ
     refine ⟨?_,fin s g w a (.inr (by obtain ⟨t,ob,nt,df⟩:=s;exact h)) hs⟩
     cases hr:Region.ready .any ops listed with
     | nil=>rfl
     | cons j r=>
       obtain ⟨h1,o,h2,_⟩:=mem_ready.1 (show j∈Region.ready .any ops listed by rw [hr];simp)
       have:=Am j (Array.getElem?_eq_some_iff.1 h2).1 h1
       simp at this
   | succ f=>
     have Rw:ops.toList.length=ops.size:=by simp
     have JP: ∀i∈U, ¬listed.getD i false=true:=fun i hi h=>by
      have:=(eB.1 (hU i hi).2.1).2;rw [this] at h;cases h
     have LD: ∀i∈π.map (·.1), ¬listed.getD i false=true:=fun i hi h=>by
      have:=(eB.1 (Cb i hi)).2;rw [this] at h;cases h
     refine ⟨fun hr=> ?_,fun i hi=> ?_⟩
     · -- nothing is ready: all have come
       have q_: ∀k,k<ops.size->listed.getD k false=true:=by
        intro k
        induction k using Nat.strongRecOn with
        | _ k Ut=>
          intro kN
          cases hl:listed.getD k false with
          | true=>rfl
          | false=>
            have w_:ops[k]? =some ops[k]:=Array.getElem?_eq_getElem kN
            have:k∈Region.ready .any ops listed:=mem_ready.2 ⟨eB.2 ⟨by omega,hl⟩,ops[k],w_,fun e he hb=>by
             have:=uP ops.toList hd k ops[k] (by simp) e he hb
             exact Ut e.on (by omega) (by omega)⟩
            rw [hr] at this;cases this
       have OZ:U=[]:=by
        cases U with
        | nil=>rfl
        | cons i U=>
          have h1:=eB.1 (hU i (by simp)).2.1
          exact absurd (q_ i (by omega)) (JP i (by simp))
       have Rx:π=[]:=by
        cases π with
        | nil=>rfl
        | cons p r=>
          have h1:=eB.1 (Cb p.1 (by simp))
          exact absurd (q_ p.1 (by omega)) (LD p.1 (by simp))
       subst OZ;subst Rx
       exact fin s g w a (.inr (by obtain ⟨t,ob,nt,df⟩:=s;exact h)) hs
     · obtain ⟨Uu,o,ho,LF⟩:=mem_ready.1 hi
       have JQ:ops.toList[i]? =some o:=by simpa using ho
       have Ry:i<ops.size:=(Array.getElem?_eq_some_iff.1 ho).1
       have Mw: ∀j,dn (dx ops.toList []) i j=true->listed.getD j false=true:=uQ hd (L:=fun k=>listed.getD k false=true) (fun k p hp hL e he hb=>ka k p hp hL e he hb) i o JQ LF
       have Td: ∀j,(listed.setIfInBounds i true).getD j false=true↔j=i\/listed.getD j false=true:=fun j=>Cd (by omega)
       have An: ∀(k:Nat) p,ops.toList[k]? =some p->(listed.setIfInBounds i true).getD k false=true-> ∀e∈p.after,Region.binds .any e=true->(listed.setIfInBounds i true).getD e.on false=true:=fun k p hp hL e he hb=>by
        rw [Td] at hL ⊢
        rcases hL with rfl | hL
        · rw [JQ] at hp;cases hp;exact .inr (LF e he hb)
        · exact .inr (ka k p hp hL e he hb)
       have yu: ∀j,j≠i->(listed.setIfInBounds i true).getD j true=listed.getD j true:=fun j hj=>getD_set_ne true (Ne.symm hj)
       have G_: ¬(listed.setIfInBounds i true).getD i true=false:=fun h=>by
        have:=(eB.1 h).2
        rw [(Td i).2 (.inl rfl)] at this;cases this
       have O0: ∀m∈U, ∀j∈done,dn (dx ops.toList []) j m=true->j∈U:=fun m hm j hj O1=>by
        have eO:=Cf j hj
        have GQ:ops.toList[j]? =some ops[j]:=by simp [eO]
        have Mv:listed.getD j true=false:=by
         cases e:listed.getD j false with
         | false=>exact eB.2 ⟨by omega,e⟩
         | true=>exact absurd (uQ hd (L:=fun k=>listed.getD k false=true) (fun k p hp hL e he hb=>ka k p hp hL e he hb) j _ GQ (fun e he hb=>ka j _ GQ ‹_› e he hb) m O1) (JP m hm)
        rcases Am j eO Mv with h | h
        · exact h
        · exact absurd h (G9 j hj)
       have Mx: ∀k∈dQ ops.toList U s.t,jR k (masked (bf ops.toList U) s.t) s.eg:=N7.Cc (fun m hm=>(hU m hm).2.2.2) O0
       rcases Am i Ry Uu with O2 | JR
       · -- it is one that is still to come
         obtain ⟨b1,b2,b3,b4⟩:=hU i O2
         have Dy:(∀d∈looks ops.toList o,bf ops.toList U d=false)->(∀d,o.dst=some d->bf ops.toList (U.erase i) d=false)->(∀g w a,cf c g w a (gJ ops.toList (U.erase i) s)->wpAny S.P .any ops Q f (listed.setIfInBounds i true) a w)->
          wpOp S.P ops Q i (wpAny S.P .any ops Q f (listed.setIfInBounds i true)) a w:=fun e1 e2 e3=>by
          cases se:bz ops.toList i with
          | false=>exact G4 JQ O2 JO se (b4.Ru se) e1 e2 Mx hs e3
          | true=>exact G5 JQ O2 JO se oV (fun j hj=>(hU j hj).1) (fun j hj=>(hU j hj).2.2.2) e2 Mx hs e3
         refine Dy (fun d Cf=> ?_) (fun d Rz=> ?_) fun g' w' a' iw=> ?_
         · cases nC:bf ops.toList U d with
           | false=>rfl
           | true=>
             obtain ⟨j,hj,p,hp,e⟩:=dr.1 nC
             by_cases v_:j=i
             · subst v_
               rw [JQ] at hp;cases hp
               have:=oV.self j b1 o JQ
               rw [ly.2 ⟨d,e,Cf⟩] at this;cases this
             · have:=oV.look i b1 j (hU j hj).1 (Ne.symm v_) o p JQ hp (ly.2 ⟨d,e,Cf⟩)
               exact absurd (Mw j this) (JP j hj)
         · cases nC:bf ops.toList (U.erase i) d with
           | false=>rfl
           | true=>
             obtain ⟨j,hj,p,hp,e⟩:=dr.1 nC
             obtain ⟨v_,hj⟩:=(List.Nodup.mem_erase_iff JO).1 hj
             have:=oV.same i b1 j (hU j hj).1 (Ne.symm v_) o p JQ hp
             rw [fZ.2 ⟨d,Rz,e⟩] at this;cases this
         · have dh:0<U.length:=List.length_pos_of_mem O2
           refine ih π done s f (listed.setIfInBounds i true) (U.erase i) g' w' a' (by omega) G8 kX G9 Cf h oV iw (JO.erase i) (fun j hj=> ?_) (fun j hj eO=> ?_) (fun j hj=> ?_) (by simp [DE]) An (by rw [List.length_erase_of_mem O2];omega)
           · obtain ⟨v_,hj⟩:=(List.Nodup.mem_erase_iff JO).1 hj
             obtain ⟨q1,q2,q3,q4⟩:=hU j hj
             exact ⟨q1,by rw [yu j v_];exact q2,q3,q4⟩
           · have v_:j≠i:=fun e=>by subst e;exact G_ eO
             rw [yu j v_] at eO
             rcases Am j hj eO with h | h
             · exact .inl ((List.Nodup.mem_erase_iff JO).2 ⟨v_,h⟩)
             · exact .inr h
           · have v_:j≠i:=fun e=>by subst e;exact b3 hj
             rw [yu j v_];exact Cb j hj
       · -- the reckoning goes on
         cases π with
         | nil=>simp at JR
         | cons p r=>
           obtain ⟨n,fl⟩:=p
           obtain ⟨o',hh⟩:=sf G8
           have F8:n ∉ r.map (·.1)/\(r.map (·.1)).Nodup:=by simpa using kX
           have LG: ∀m∈done,m ∉ r.map (·.1):=fun m hm h=>G9 m hm (by simp only [List.map_cons,List.mem_cons];exact .inr h)
           have Uv:n ∉ done:=fun h=>G9 n h (by simp)
           have RA:n<ops.size:=by have:=(List.getElem?_eq_some_iff.1 hh.op).1;simpa using this
           cases fl with
           | true=>
             obtain ⟨t,ob,nt,df⟩:=s
             have rC: ∀ {t':List V},(∀k,o'.dst≠some k->t'[k]? =t[k]?)-> ∀m∈U, ∀p d,ops.toList[m]? =some p->p.dst=some d->t'[d]? =t[d]? :=fun {t'} e2 m hm p d hp Uw=>by
              obtain ⟨p',LC,a1,_,_⟩:=hh.apart m (hU m hm).1
              rw [hp] at LC;cases LC
              exact e2 d fun e=>by rw [fZ.2 ⟨d,e,Uw⟩] at a1;cases a1
             have O3: ∀ {t':List V},(∀k,o'.dst≠some k->t'[k]? =t[k]?)-> ∀m∈U,E2 S ops.toList m t ob->E2 S ops.toList m t' ob:=fun {t'} e2 m hm hf=>by
              have dN: ∀l:List Nat,jE o'.dst l=false-> ∀d∈l,t[d]? =t'[d]? :=fun l hl d Cf=>(e2 d fun e=>by rw [ly.2 ⟨d,e,Cf⟩] at hl;cases hl).symm
              obtain ⟨p,hp,a1,a2,a3⟩:=hh.apart m (hU m hm).1
              exact hf.congr hp (dN _ (a2 rfl)) fun d Rz=>(e2 d fun e=>by rw [fZ.2 ⟨d,e,Rz⟩] at a1;cases a1).symm
             have Bn: ∀(t':List V) (c6:List af) (v:V),t'.length=t.length->(∀d,o'.dst=some d->t'[d]? =some v)->(∀k,o'.dst≠some k->t'[k]? =t[k]?)->
              cf c g w a ⟨masked (bf ops.toList U) t,bx (dQ ops.toList (n::U) t') c6,nt,df⟩->(∀m∈n::U,N7 S c ops.toList (n::done) m t' c6 df)->kp S ops.toList (dx ops.toList []) r (n::done) ⟨t',c6,nt,df⟩ K KP->
              wpOp S.P ops Q i (wpAny S.P .any ops Q f (listed.setIfInBounds i true)) a w:=fun t' c6 v e0 e1 e2 iw ub hv=>by
              refine (ih r (n::done) ⟨t',c6,nt,df⟩ (f+1) listed (n::U) g w a (by simp at hN;omega) hh.rest F8.2 (fun m hm=> ?_) (fun m hm=> ?_) hv (oV.cons hh) ?_ ?_ (fun j hj=> ?_) (fun j hj eO=> ?_) (fun j hj=>Cb j (by simp at hj ⊢;exact .inr hj)) DE ka (by simp at nB ⊢;omega)).2 i hi
              · rcases List.mem_cons.1 hm with rfl | hm
                · exact F8.1
                · exact LG m hm
              · rcases List.mem_cons.1 hm with rfl | hm
                · exact RA
                · exact Cf m hm
              · refine ⟨iw.wi,nA iw.ti (by simp [gJ,fF,e0]) fun k u hu=> ?_,iw.di⟩
                simp only [gJ,bQ] at hu ⊢
                by_cases nC:bf ops.toList (n::U) k=true
                · cases Te:t'[k]? with
                  | none=>rw [Te] at hu;cases hu
                  | some u'=>rw [Te] at hu;simp [nC] at hu;exact .inl hu.symm
                · have iM:o'.dst≠some k:=fun e=>nC (dr.2 ⟨n,by simp,o',hh.op,e⟩)
                  have zA:bf ops.toList U k=false:=by
                   cases h:bf ops.toList U k with
                   | false=>rfl
                   | true=>
                     obtain ⟨j,hj,p,hp,e⟩:=dr.1 h
                     exact absurd (dr.2 ⟨j,by simp [hj],p,hp,e⟩) nC
                  rw [e2 k iM] at hu
                  simp only [nC,zA] at hu ⊢
                  exact .inr hu
              · exact List.nodup_cons.2 ⟨fun Ux=>(hU n Ux).2.2.1 (by simp),JO⟩
              · refine ⟨?_,?_,?_,ub j hj⟩
                · rcases List.mem_cons.1 hj with rfl | hj
                  · simp
                  · exact List.mem_cons_of_mem _ (hU j hj).1
                · rcases List.mem_cons.1 hj with rfl | hj
                  · exact Cb j (by simp)
                  · exact (hU j hj).2.1
                · rcases List.mem_cons.1 hj with rfl | hj
                  · exact F8.1
                  · exact fun h=>(hU j hj).2.2.1 (by simp at h ⊢;exact .inr h)
              · rcases Am j hj eO with h | h
                · exact .inl (by simp [h])
                · simp at h
                  rcases h with rfl | h
                  · exact .inl (by simp)
                  · exact .inr (by simpa using h)
             simp only [kp,hh.op] at h
             cases se:pY o' with
             | true=>
               rw [se] at h
               simp only at h
               have E4:bz ops.toList n=true:=pw.2 ⟨o',hh.op,se⟩
               split at h
               case h_2=>exact h.elim
               rename_i T d w_ rv
               obtain ⟨p,z,hp,hz,h⟩:=fW h
               split at h
               case h_2=>exact h.elim
               rename_i gb
               simp only [Bool.and_eq_true] at gb
               have Uy:b7 (ax z).cells=[]:=by
                have:=gb.2
                split at this
                · assumption
                · cases this
               have h:=dd h
               split at h
               case h_2=>exact h.elim
               rename_i An
               obtain ⟨aJ,h⟩:=cj h
               have rl:(ob++[af.cells true T (ax z).cells])[ob.length]? =some (.cells true T (ax z).cells):=by simp
               have e1: ∀d',o'.dst=some d'->(t.set d (.ptr ob.length 0))[d']? =some (.ptr ob.length 0):=fun d' e=>by
                rw [rv] at e;cases e;rw [List.getElem?_set_self aJ]
               have e2: ∀k,o'.dst≠some k->(t.set d (.ptr ob.length 0))[k]? =t[k]? :=fun k hk=>by
                rw [List.getElem?_set_ne (fun e=>hk (by rw [←e];exact rv))]
               have O4:dT ops.toList (t.set d (.ptr ob.length 0)) n=some ob.length:=G2 hh.op se rv (e1 d rv)
               have Ha:dQ ops.toList (n::U) (t.set d (.ptr ob.length 0))=ob.length::dQ ops.toList U t:=by
                show (n::U).filterMap _=_
                rw [List.filterMap_cons,O4]
                show _::dQ ops.toList U _=_
                rw [rA fun m hm=>iC (rC e2 m hm)]
               refine Bn (t.set d (.ptr ob.length 0)) _ (.ptr ob.length 0) (by simp) e1 e2 ?_ (fun m hm=> ?_) h
               · have:bx (dQ ops.toList (n::U) (t.set d (.ptr ob.length 0))) (ob++[af.cells true T (ax z).cells])=bx (dQ ops.toList U t) ob++[.none]:=by
                  rw [Ha,bx, ←yt]
                  congr 1
                  simp
                 rw [this]
                 refine ⟨hs.wi.G3,?_,?_⟩
                 · show fy _ _ (bx (dQ ops.toList U t) ob++[af.none]).length _ _ _
                   rw [List.length_append,List.length_singleton]
                   exact (Ext.more g w _ nt).kf hs.ti
                 · show gI _ _ (bx (dQ ops.toList U t) ob++[af.none]).length _ _
                   rw [List.length_append,List.length_singleton]
                   exact (Ext.more g w _ nt).kg hs.di
               · rcases List.mem_cons.1 hm with rfl | hm
                 · refine ⟨(fun e=>by rw [E4] at e;cases e),fun _=>⟨o',T,d,ob.length,p,z,hh.op,w_,rv,e1 d rv,hp,hz,rl,?_⟩,fun _ k hk=> ?_,fun _ o2 T2 p2 z2 q1 q2 q3 q4=> ?_⟩
                   · unfold gh at An ⊢
                     simp only [Bool.and_eq_true] at An ⊢
                     refine ⟨⟨kR fun q u hu Uz=> ?_,An.1.2⟩,An.2⟩
                     rw [Nat.zero_add]
                     by_cases hq:o'.dst=some q
                     · exact mg (List.mem_cons_self ..) (by rw [hh.op];exact hq) (.inl rfl)
                     · rw [e2 q hq] at hu
                       have:=fe An.1.1 hu Uz
                       rw [Nat.zero_add] at this
                       exact qk this
                   · rw [O4] at hk;cases hk
                     have:=hs.wi.len
                     have e:(gJ ops.toList U ⟨t,ob,nt,df⟩).eg.length=ob.length:=bR _ _
                     rw [e] at this
                     exact this
                   · rw [hh.op] at q1;cases q1
                     rw [w_] at q2;cases q2
                     rw [hp] at q3;cases q3
                     rw [hz] at q4;cases q4
                     exact ⟨gb.1.1,gb.1.2⟩
                 · have Jj:=(hU m hm).2.2.2
                   have xb:=iC (rC e2 m hm)
                   refine ⟨fun e=>(O3 e2 m hm (Jj.Ru e)).snoc,fun e=> ?_,fun e k hk=>Jj.low e k (by rw [←xb];exact hk),Jj.zero⟩
                   refine ((Jj.al e).slot hh.op (rC e2 m hm) e1 e2 (fun k hk O5=> ?_) e).snoc Uy
                   obtain ⟨k',kN,tR⟩:=(Jj.al e).obj e
                   rw [hk] at kN;cases kN
                   simp [aW] at O5
                   simp only at tR
                   omega
             | false=>
               rw [se] at h
               simp only at h
               have E4:bz ops.toList n=false:=by
                unfold bz;rw [hh.op];exact se
               have oM: ∀(t':List V) (v:V),t'.length=t.length->(∀d,o'.dst=some d->t'[d]? =some v)->(∀k,o'.dst≠some k->t'[k]? =t[k]?)->
                ((DB ops.toList o' t=some true/\ga S o' t ob fun u=>u=v)\/(DB ops.toList o' t=some false/\v= .aQ []))->
                (∀m∈U,bz ops.toList m=true->dn (dx ops.toList []) n m=false-> ∀j,dT ops.toList t m=some j->j ∉ aW v)->kp S ops.toList (dx ops.toList []) r (n::done) ⟨t',ob,nt,df⟩ K KP->
                wpOp S.P ops Q i (wpAny S.P .any ops Q f (listed.setIfInBounds i true)) a w:=fun t' v e0 e1 e2 e3 e4 hv=>by
                have Ha:dQ ops.toList (n::U) t'=dQ ops.toList U t:=by
                 show (n::U).filterMap _=_
                 rw [List.filterMap_cons,fR E4]
                 exact rA fun m hm=>iC (rC e2 m hm)
                refine Bn t' ob v e0 e1 e2 (by rw [Ha];exact hs) (fun m hm=> ?_) hv
                rcases List.mem_cons.1 hm with rfl | hm
                · have dN: ∀l:List Nat,jE o'.dst l=false-> ∀d∈l,t[d]? =t'[d]? :=fun l hl d Cf=>(e2 d fun e=>by rw [ly.2 ⟨d,e,Cf⟩] at hl;cases hl).symm
                  have GF:=dN _ (hh.self rfl)
                  exact ⟨fun _=>⟨o',v,hh.op,e1,by rw [←lx GF, ←me S ob (uL GF)];exact e3⟩,(fun e=>by rw [E4] at e;cases e),(fun e=>by rw [E4] at e;cases e),(fun e=>by rw [E4] at e;cases e)⟩
                · have Jj:=(hU m hm).2.2.2
                  have xb:=iC (rC e2 m hm)
                  refine ⟨fun e=>O3 e2 m hm (Jj.Ru e),fun e=> ?_,fun e k hk=>Jj.low e k (by rw [←xb];exact hk),Jj.zero⟩
                  refine (Jj.al e).slot hh.op (rC e2 m hm) e1 e2 (fun k hk O5=> ?_) e
                  cases RB:dn (dx ops.toList []) n m with
                  | true=>rfl
                  | false=>exact absurd O5 (e4 m hm e RB k hk)
               rcases pv h with ⟨hg,h⟩ | ⟨hg,h⟩
               · obtain ⟨v,hv,h2⟩:=ny S o' t ob _ h
                 obtain ⟨hv,hp⟩:=rB hv
                 obtain ⟨t',hv,e0,e1,e2⟩:=qi hv
                 exact oM t' v e0 e1 e2 (.inl ⟨hg,h2 _ rfl⟩) (fun m hm=>hp m (hU m hm).1) hv
               · obtain ⟨t',hv,e0,e1,e2⟩:=qi h
                 exact oM t' (.aQ []) e0 e1 e2 (.inr ⟨hg,rfl⟩) (fun m hm _ _ j _ h=>by simp [aW,b7] at h) hv
           | false=>
             have zW:i=n:=by
              have JR:i=n\/i∈r.map (·.1):=by simpa only [List.map_cons,List.mem_cons] using JR
              rcases JR with rfl | hr
              · rfl
              · obtain ⟨p,hp,UA⟩:=List.mem_map.1 hr
                have:=hh.last rfl p hp
                rw [UA] at this
                exact absurd (Mw n this) (LD n (by simp))
             subst zW
             have UB:o'=o:=by have:=hh.op;rw [JQ] at this;exact (Option.some.inj this).symm
             subst UB
             have Cg: ∀j∈U,dn (dx ops.toList []) i j=false:=fun j hj=>by
              cases h:dn (dx ops.toList []) i j with
              | false=>rfl
              | true=>exact absurd (Mw j h) (JP j hj)
             have DC: ∀d∈looks ops.toList o',bf ops.toList U d=false:=fun d Cf=>by
              cases nC:bf ops.toList U d with
              | false=>rfl
              | true=>
                obtain ⟨j,hj,p,hp,e⟩:=dr.1 nC
                obtain ⟨p',LC,a1,a2,a3⟩:=hh.apart j (hU j hj).1
                rw [hp] at LC;cases LC
                have:=a3 (ly.2 ⟨d,e,Cf⟩)
                rw [Cg j hj] at this;cases this
             obtain ⟨t,ob,nt,df⟩:=s
             have GF: ∀d∈looks ops.toList o',t[d]? =(masked (bf ops.toList U) t)[d]? :=fun d hd=>by
              rw [bQ,DC d hd];cases t[d]? <;>rfl
             have Bn: ∀(t1 t2:List V) (c6:List af) (k8:Nat) (O6:List (Fn × List V × List V)) (v:V) (x:Value) (g':G) (w':World) (b:Act),t2.length=t1.length->(∀d,o'.dst=some d->t2[d]? =some v)->(∀k,o'.dst≠some k->t2[k]? =t1[k]?)->
              (St.re S ops.toList (dx ops.toList []) i t done ⟨t2,c6,k8,O6⟩ fun s=>kp S ops.toList (dx ops.toList []) r done s K KP)->cf c g' w' b ⟨masked (bf ops.toList U) t1,bx (dQ ops.toList U t) c6,k8,O6⟩->VT g' w' c6.length k8 v x->
              wpAny S.P .any ops Q f (listed.setIfInBounds i true) (b.put o'.dst x) w':=fun t1 t2 c6 k8 O6 v x g' w' b e0 e1 e2 Ot My hv=>by
              obtain ⟨h1,h2⟩:=iB Ot
              have xb: ∀m∈U,dT ops.toList t2 m=dT ops.toList t m:=fun m hm=>by
               cases se:bz ops.toList m with
               | false=>rw [fR se,fR se]
               | true=>exact iC ((h2 m (hU m hm).1 (Cg m hm)).1 se).2
              have Ha:dQ ops.toList U t2=dQ ops.toList U t:=rA xb
              refine ih r done ⟨t2,c6,k8,O6⟩ f (listed.setIfInBounds i true) U g' w' _ (by simp at hN;omega) hh.rest F8.2 LG Cf h1 oV ?_ JO (fun j hj=> ?_) (fun j hj eO=> ?_) (fun j hj=> ?_) (by simp [DE]) An (by simp at nB;omega)
              · show cf c _ _ _ ⟨masked (bf ops.toList U) t2,bx (dQ ops.toList U t2) c6,k8,O6⟩
                rw [Ha]
                exact JL (m:=bf ops.toList U) (ob:=bx (dQ ops.toList U t) c6) My (by rw [bR];exact hv) e0 e1 e2
              · obtain ⟨q1,q2,q3,q4⟩:=hU j hj
                have v_:j≠i:=fun e=>by subst e;exact q3 (by simp)
                have OH:=h2 j q1 (Cg j hj)
                exact ⟨q1,by rw [yu j v_];exact q2,fun h=>q3 (by simp at h ⊢;exact .inr h),OH.2,fun e=>(OH.1 e).1,fun e k hk=>q4.low e k (by rw [←xb j hj];exact hk),q4.zero⟩
              · have v_:j≠i:=fun e=>by subst e;exact G_ eO
                rw [yu j v_] at eO
                rcases Am j hj eO with h | h
                · exact .inl h
                · simp at h
                  rcases h with rfl | h
                  · exact absurd rfl v_
                  · exact .inr (by simpa using h)
              · have v_:j≠i:=fun e=>by subst e;exact F8.1 hj
                rw [yu j v_];exact Cb j (by simp at hj ⊢;exact .inr hj)
             simp only [kp,hh.op] at h
             unfold wpOp
             rw [ho]
             simp only
             rcases pv h with ⟨hg,h⟩ | ⟨hg,h⟩
             · rw [lx GF] at hg
               rw [jS hs.ti hg,if_pos rfl]
               have h:=GY S hm (m:=bf ops.toList U) (fun x hx d e=>DC d (List.mem_append_left _ (List.mem_filterMap.2 ⟨x,hx,by rw [e]⟩))) h
               cases Qp:Gi ops.toList done with
               | true=>
                 have dN:=Al Qp
                 have Tf: ∀t:List V,dQ ops.toList U t=[]:=fun t=>by
                  unfold dQ
                  rw [List.filterMap_eq_nil_iff]
                  exact fun j hj=>fR (dN j (hU j hj).1)
                 have N6:cf c g w a ⟨masked (bf ops.toList U) t,ob,nt,df⟩:=by
                  have:=hs
                  simp only [gJ,Tf] at this
                  exact this
                 refine .inl (nu (S:=S) hS (next:=wpAny S.P .any ops Q f (listed.setIfInBounds i true)) ?_ N6 h)
                 refine ⟨fun v x s' g' w' b kN iw _ hv=> ?_,fun v x s' g' w' b kN iw hv=> ?_⟩
                 · obtain ⟨s1,kN,rfl⟩:=kN
                   obtain ⟨t1,py,Mz,N8⟩:=s1
                   obtain ⟨t2,kN,e0,e1,e2⟩:=qi kN
                   refine Bn t1 t2 py Mz N8 v x g' w' b e0 e1 e2 kN ?_ hv
                   rw [Tf];exact iw
                 · obtain ⟨s1,kN,rfl⟩:=kN
                   obtain ⟨t1,py,Mz,N8⟩:=s1
                   simp only [Di,Qp] at kN
                   obtain ⟨t2,kN,e0,e1⟩:=px kN
                   refine Jg v x ⟨t2,py,Mz,N8⟩ g' w' b kN ⟨iw.wi,nA iw.ti (by simp [fG,fF,e0]) fun k u hu=> ?_,iw.di⟩ hv
                   rcases e1 k u hu with e | ⟨e,e2⟩
                   · exact .inl e
                   · refine .inr ?_
                     have:bf ops.toList U k=false:=by
                      cases h:bf ops.toList U k with
                      | false=>rfl
                      | true=>
                        obtain ⟨j,hj,p,hp,e3⟩:=dr.1 h
                        rw [dr.2 ⟨j,(hU j hj).1,p,hp,e3⟩] at e;cases e
                     simp only [fG,bQ,e2,this]
                     rfl
               | false=>
               have UC:(fun v s'=> ∃s1,Di ops.toList done s1 (KP v)/\s'=fG (bf ops.toList U) s1)=fun (_:V) (_:St)=>False:=by
                funext v s'
                apply propext
                constructor
                · rintro ⟨⟨t1,py,Mz,N8⟩,hp,_⟩
                  simp only [Di,Qp] at hp
                · exact False.elim
               rw [UC] at h
               have h:=Ce S hm Mx h
               refine .inl (nu (S:=S) hS (next:=wpAny S.P .any ops Q f (listed.setIfInBounds i true)) ?_ hs h)
               refine ⟨fun v x s' g' w' b kN iw _ hv=> ?_,fun _ _ _ _ _ _ h=>h.elim⟩
               obtain ⟨_,⟨s1,kN,rfl⟩,rfl⟩:=kN
               obtain ⟨t1,py,Mz,N8⟩:=s1
               obtain ⟨t2,kN,e0,e1,e2⟩:=qi kN
               refine Bn t1 t2 py Mz N8 v x g' w' b e0 e1 e2 kN iw ?_
               have hv:VT g' w' (bx (dQ ops.toList U t) py).length Mz v x:=hv
               rw [bR] at hv;exact hv
             · rw [lx GF] at hg
               rw [jS hs.ti hg,if_neg (by simp)]
               obtain ⟨t2,kN,e0,e1,e2⟩:=qi h
               exact Bn t t2 ob nt df (.aQ []) undef g w a e0 e1 e2 kN hs (.of (.aQ rfl (by simp)) rfl)
theorem Ch (hm:e_ S) (hS: ∀g args ob K,S.call g args ob K->jL S.P g args ob K) {id:Nat} {s:St} {K:St->Prop} {KP:V->St->Prop} {g:G} {w:World} {a:Act}
 (h:Bt S.P ops.toList (lY S.mu ops.toList)=true/\kp S ops.toList (dx ops.toList []) (lY S.mu ops.toList) [] s K KP) (Jg: ∀v x s g w a,KP v s->cf c g w a s->aw g.bs g.I w s.eg.length v x->Q (.panic [{v:=x,recovered:=false}]) a w) (hk: ∀s g w a,K s->cf c g w a s->Q .normal a w) (hs:cf c g w a s):
 (Code.region id ops true).wp S.P Q a w:=by
 obtain ⟨c_,h⟩:=h
 simp only [Bt,Bool.and_eq_true] at c_
 obtain ⟨⟨⟨⟨h1,h2⟩,h3⟩,h4⟩,h5⟩:=c_
 refine wp_region_any h1 ?_
 have iw:cf c g w.drew a s:=⟨hs.wi.drew,(Ext.drew g w s.eg.length s.nt).kf hs.ti,(Ext.drew g w s.eg.length s.nt).kg hs.di⟩
 have G7:gJ ops.toList [] s=s:=by
  obtain ⟨t,ob,nt,df⟩:=s
  have:masked (bf ops.toList []) t=t:=List.ext_getElem? fun k=>by
   rw [bQ];simp [bf]
  simp only [gJ,this];rfl
 have kX:=gR h3
 have zW: ∀i,i<ops.size->i∈(lY S.mu ops.toList).map (·.1):=fun i hi=>gT h4 i (by simpa using hi)
 have aJ: ∀i∈(lY S.mu ops.toList).map (·.1),i<ops.size:=by
  have: ∀(π:List (Nat × Bool)) (done:List Nat),pd ops.toList (dx ops.toList []) π done=true-> ∀i∈π.map (·.1),i<ops.size:=by
   intro π
   induction π with
   | nil=>intro _ _ i hi;simp at hi
   | cons p r ih=>
     obtain ⟨n,fl⟩:=p
     intro done h i hi
     obtain ⟨o,hh⟩:=sf h
     have hi:i=n\/i∈r.map (·.1):=by simpa only [List.map_cons,List.mem_cons] using hi
     rcases hi with rfl | hr
     · have:=(List.getElem?_eq_some_iff.1 hh.op).1;simpa using this
     · exact ih _ hh.rest i hr
  exact this _ _ h5
 have Cb: ∀i,i<ops.size->(Array.replicate ops.size false).getD i true=false:=fun i hi=>by simp [Array.getD,hi]
 have hlen:(lY S.mu ops.toList).length<=ops.size:=by
  have:((lY S.mu ops.toList).map (·.1)).length<=(List.range ops.size).length:=List.Nodup.length_le_of_subset kX fun i hi=>by simpa using aJ i hi
  simpa using this
 exact G6 hm hS hk Jg h2 _ (lY S.mu ops.toList) [] s ops.size _ [] g w.drew a (Nat.le_refl _) h5 kX (by simp) (by simp) h ⟨by simp,by simp,by simp⟩ (by rw [G7];exact iw) .nil (by simp) (fun i hi _=> .inr (zW i hi))
  (fun i hi=>Cb i (aJ i hi)) (by simp) (fun i o _ h=>by simp [Array.getD] at h) (by simpa using hlen)
end
end VL
namespace VL
open Go
section
variable {S:Sys} {c:Ctx} {Q:Exit->Act->World->Prop}
theorem uS (hm:e_ S) (hS: ∀g args ob K,S.call g args ob K->jL S.P g args ob K)
 (hL: ∀(code:Code) (s:St) (K:Ex->St->Prop) (Q:Exit->Act->World->Prop) (g:G) (w:World) (a:Act),S.loop code s K->Fits c K Q->cf c g w a s->(Code.loop code).wp S.P Q a w)
 (hT: ∀(code:Code) (s:St) (K:Ex->St->Prop) (Q:Exit->Act->World->Prop) (g:G) (w:World) (a:Act),S.step code s K->Fits c K Q->cf c g w a s->code.wp S.P Q a w):
 ∀(code:Code) (s:St) (K:Ex->St->Prop) (Q:Exit->Act->World->Prop) (g:G) (w:World) (a:Act),Jv S code s K->Fits c K Q->cf c g w a s->code.wp S.P Q a w:=by
 intro code
 induction code with
 | skip=>intro s K Q g w a h hf hs;exact wp_skip (hf.normal _ _ _ _ h hs)
 | region id ops draw=>
   intro s K Q g w a h hf hs
   cases draw with
   | true=>exact Ch hm hS h (fun v x s g w a hk hs hv=>hf.dw v x s g w a hk hs hv) (fun s g w a hk hs=>hf.normal s g w a hk hs) hs
   | false=>exact wp_region_list (wS hS (fun s g w a hk hs=>hf.normal s g w a hk hs) (fun v x s g w a hk hs hv=>hf.dw v x s g w a hk hs hv) _ s g w a hs h)
 | seq x y RC UD=>
   intro s K Q g w a h hf hs
   refine wp_seq (RC s _ _ g w a h ?_ hs)
   exact ⟨fun s g w a hk hs=>hT y s K Q g w a hk hf hs,fun i s g w a hk hs=>hf.exit i s g w a hk hs,fun s g w a hk hs=>hf.ret s g w a hk hs,fun v x s g w a hk hs hv=>hf.dw v x s g w a hk hs hv⟩
 | cond x a' b' N9 UE=>
   intro s K Q g w a h hf hs
   obtain ⟨t,ob,nt,df⟩:=s
   obtain ⟨v,hv,hk⟩:=aG hs.ti h
   cases v<;>try exact hk.elim
   rename_i b
   have hx:a.eval x= .bool b:=by
    have:=hv.rel
    generalize a.eval x=e at this
    cases this;rfl
   rcases k9 hk with ⟨rfl,hk⟩ | ⟨rfl,hk⟩
   · exact wp_cond_true hx (N9 _ K Q g w a hk hf hs)
   · exact wp_cond_false hx (UE _ K Q g w a hk hf hs)
 | block i x ih=>
   intro s K Q g w a h hf hs
   refine wp_block (ih s _ _ g w a h ?_ hs)
   refine ⟨fun s g w a hk hs=>hf.normal s g w a hk hs,fun j s g w a hk hs=> ?_,fun s g w a hk hs=>hf.ret s g w a hk hs,fun v x s g w a hk hs hv=>hf.dw v x s g w a hk hs hv⟩
   simp only at hk
   by_cases e:j=i
   · subst e
     simp only [Nat.beq_refl] at hk
     simp only [Exit.inBlock,if_true]
     exact hf.normal _ _ _ _ hk hs
   · have hb:Nat.beq j i=false:=by cases hb:Nat.beq j i with
      | true=>exact absurd (Nat.eq_of_beq_eq_true hb) e
      | false=>rfl
     rw [hb] at hk
     simp only [Exit.inBlock,if_neg e]
     exact hf.exit _ _ _ _ _ hk hs
 | loop x ih=>intro s K Q g w a h hf hs;exact hL x s K Q g w a h hf hs
 | exit i=>intro s K Q g w a h hf hs;exact wp_exit (hf.exit _ _ _ _ _ h hs)
 | ret=>intro s K Q g w a h hf hs;exact wp_ret (hf.ret _ _ _ _ h hs)
 | _=>intro s K Q g w a h hf hs;exact h.elim
end
end VL
namespace VL
open Go
section
variable {c:Ctx} {g:G} {w:World} {ob:List af} {nt:Nat}
theorem fx.flat {g g':G} {w:World} {n n' nt k8 b:Nat} {x:af} (hI:g'.I=g.I) (hx: ∀wr T cs,x≠ .cells wr T cs) (h:fx g w n nt b x):fx g' w n' k8 b x:=by
 have h0: ∀ {v c},aw g.bs g.I w 0 v c->aw g'.bs g'.I w 0 v c:=fun hv=>by rw [hI];exact hv.mono (fun o ho=>absurd ho (by omega)) fun b k h=>⟨h,rfl⟩
 cases x with
 | none=>trivial
 | cells wr T cs=>exact absurd rfl (hx _ _ _)
 | map es=>
   obtain ⟨arr,zb,a1,a2,a3⟩:=h
   exact ⟨arr,zb,a1,a2,fun k e c he hc=>⟨h0 (a3 k e c he hc).1,h0 (a3 k e c he hc).2⟩⟩
 | buf m z l=>
   rcases h with h | ⟨arr,T,a1,JE,a2,a3,a4⟩
   · exact .inl h
   · exact .inr ⟨arr,T,a1,JE,a2,a3,fun k v c he hc=>⟨h0 (a4 k v c he hc).1,(a4 k v c he hc).2⟩⟩
theorem a_.bj (h:a_ c g w ob nt):a_ c g w (ob.map fQ) 0:=by
 have aD: ∀(i:Nat) y,(ob.map fQ)[i]? =some y-> ∃x,ob[i]? =some x/\y=fQ x/\x.real=y.real/\x.loose=y.loose/\x.mv=y.mv:=fun i y hy=>by
  rw [List.getElem?_map] at hy
  obtain ⟨x,hx,rfl⟩:=Option.map_eq_some_iff.1 hy
  exact ⟨x,hx,rfl,by cases x<;>rfl,by cases x<;>rfl,by cases x<;>rfl⟩
 refine ⟨h.os,h.tape,h.output,h.size,h.jG,by simp [h.len],?_,?_,?_,?_,?_,h.i1,h.i2,h.i3,?_,?_,fun i hi=>absurd hi (by omega),fun i j hi=>absurd hi (by omega),h.i6⟩
 · intro i y hy
   obtain ⟨x,hx,rfl,_⟩:=aD i y hy
   rw [List.length_map]
   have:=h.obj i x hx
   cases x with
   | cells wr T cs=>
     obtain ⟨arr,a1,a2,a3⟩:=this
     refine ⟨arr,a1,by simp [a2],fun k v c hv hc=> ?_⟩
     rw [List.getElem?_map] at hv
     obtain ⟨u,hu,rfl⟩:=Option.map_eq_some_iff.1 hv
     exact ⟨⟨(a3 k u c hu hc).1.rel.bj,.fA (bB u)⟩,(a3 k u c hu hc).2⟩
   | _=>exact this
 · intro i y hy hr
   obtain ⟨x,hx,rfl,e,_⟩:=aD i y hy
   exact h.lt i x hx (e▸hr)
 · intro i j y z hy hz hr tf
   obtain ⟨x,hx,rfl,e,_⟩:=aD i y hy
   obtain ⟨x',p5,rfl,e',_⟩:=aD j z hz
   exact h.inj i j x x' hx p5 (e▸hr) (e'▸tf)
 · intro i y hi hy hm
   obtain ⟨x,hx,rfl,_,_,e⟩:=aD i y hy
   exact h.sH i x hi hx (e▸hm)
 · intro i y hy hr
   obtain ⟨x,hx,rfl,e,_⟩:=aD i y hy
   exact h.new i x hx (e▸hr)
 · intro i T cs k hy
   obtain ⟨x,hx,e,_⟩:=aD i _ hy
   cases x with
   | cells wr U ds=>simp [fQ] at e;obtain ⟨rfl,_,_⟩:=e;exact h.i4 i _ _ k hx
   | _=>simp [fQ] at e
 · intro i y k hy hl
   obtain ⟨x,hx,rfl,_,e,_⟩:=aD i y hy
   exact h.i5 i x k hx (e▸hl)
theorem a_.Tg (h:a_ c g w ob nt) {src:List Nat} (kX:src.Nodup) {sub:List af} {f:Nat->Nat} (hf: ∀j i,src[j]? =some i->f i=j) (hl:sub.length=src.length)
 (qe: ∀i∈src, ∀x,ob[i]? =some x-> ∀o∈fU x,o∈src)
 (iA: ∀(j i:Nat),src[j]? =some i-> ∃o,ob[i]? =some o/\(sub[j]? =some (eN f o)\/ ∃m z l ty,o= .buf m z l ty/\sub[j]? =some (.buf true z l ty)))
 (ki: ∀j,j<c.n0->src[j]? =some j\/ ∃z l ty,sub[j]? =some (.buf true z l ty)) (hlen:c.n0<=src.length):a_ c (nr g src) w sub nt:=by
 have uq: ∀v x,VT g w ob.length nt v x->(∀o∈aW v,o∈src)->VT (nr g src) w sub.length nt (gM f v) x:=fun v x hv hp=>by
  refine ⟨hv.rel.gM fun o ho _=> ?_,?_⟩
  · obtain ⟨j,hj⟩:=List.mem_iff_getElem?.1 (hp o ho)
    rw [hf j o hj,hl]
    exact ⟨(List.getElem?_eq_some_iff.1 hj).1,by simp [nr,hj]⟩
  · have:=hv.tok
    cases v<;>first | exact this | (simp only [gM,Tok])
 have aD: ∀(j:Nat) x,sub[j]? =some x-> ∃i o,src[j]? =some i/\ob[i]? =some o/\(x=eN f o\/ ∃m z l ty,o= .buf m z l ty/\x= .buf true z l ty)/\(nr g src).bs j=g.bs i/\o.real=x.real/\o.loose=x.loose/\(x.mv=false->o.mv=false):=fun j x hx=>by
  have aJ:j<src.length:=by rw [←hl];exact (List.getElem?_eq_some_iff.1 hx).1
  obtain ⟨o,h1,h2⟩:=iA j src[j] (List.getElem?_eq_getElem aJ)
  rw [hx] at h2
  have h2:x=eN f o\/ ∃m z l ty,o= .buf m z l ty/\x= .buf true z l ty:=by simpa using h2
  refine ⟨src[j],o,List.getElem?_eq_getElem aJ,h1,h2,by simp [nr,aJ],?_,?_,?_⟩
  · rcases h2 with rfl | ⟨m,z,l,ty,rfl,rfl⟩
    · cases o<;>rfl
    · rfl
  · rcases h2 with rfl | ⟨m,z,l,ty,rfl,rfl⟩
    · cases o<;>rfl
    · rfl
  · rcases h2 with rfl | ⟨m,z,l,ty,rfl,rfl⟩
    · cases o<;>exact fun h=>h
    · exact fun h=>by cases h
 refine ⟨h.os,h.tape,h.output,h.size,h.jG,by rw [hl];exact hlen,?_,?_,?_,?_,?_,h.i1,h.i2,h.i3,?_,?_,?_,h.f2,h.i6⟩
 · intro j x hx
   obtain ⟨i,o,h1,h2,h3,hb,_⟩:=aD j x hx
   have ho:=h.obj i o h2
   rw [hb]
   rcases h3 with rfl | ⟨m,z,l,ty,rfl,rfl⟩
   · cases o with
     | none=>trivial
     | map es=>exact fx.flat (g:=g) (x:= .map es) rfl (by simp) ho
     | buf m z l ty=>exact fx.flat (g:=g) (x:= .buf m z l ty) rfl (by simp) ho
     | cells wr T cs=>
       obtain ⟨arr,a1,a2,a3⟩:=ho
       refine ⟨arr,a1,by rw [bU];exact a2,fun k v c hv hc=> ?_⟩
       rw [c8] at hv
       obtain ⟨v',iV,rfl⟩:=Option.map_eq_some_iff.1 hv
       exact ⟨uq v' c (a3 k v' c iV hc).1 fun o ho=>qe i (List.mem_of_getElem? h1) _ h2 o (bY iV ho),(a3 k v' c iV hc).2⟩
   · exact fx.flat (g:=g) (n:=ob.length) (nt:=nt) (x:= .buf true z l ty) rfl (by simp) ho
 · intro j x hx hr
   obtain ⟨i,o,h1,h2,h3,hb,e,_⟩:=aD j x hx
   rw [hb];exact h.lt i o h2 (e▸hr)
 · intro j j' x x' hx p5 hr tf e
   obtain ⟨i,o,h1,h2,_,hb,q,_⟩:=aD j x hx
   obtain ⟨i',o',ui,zc,_,Mo,q',_⟩:=aD j' x' p5
   rw [hb,Mo] at e
   have:=h.inj i i' o o' h2 zc (q▸hr) (q'▸tf) e
   subst this
   rw [←hf j i h1, ←hf j' i ui]
 · intro j x hj hx hm
   obtain ⟨i,o,h1,h2,h3,hb,_,_,q⟩:=aD j x hx
   rcases ki j hj with hp | ⟨z,l,ty,hp⟩
   · rw [hb];rw [h1] at hp;cases hp;exact h.sH _ o hj h2 (q hm)
   · rw [hx] at hp;cases hp;cases hm
 · intro j x hx hr
   obtain ⟨i,o,h1,h2,h3,hb,e,_⟩:=aD j x hx
   rw [hb];exact h.new i o h2 (e▸hr)
 · intro j T cs k hx
   obtain ⟨i,o,h1,h2,h3,hb,_⟩:=aD j _ hx
   rcases h3 with e | ⟨m,z,l,ty,rfl,e⟩
   · cases o with
     | cells wr U ds=>simp [eN] at e;obtain ⟨rfl,_,_⟩:=e;rw [hb];exact h.i4 i _ _ k h2
     | _=>simp [eN] at e
   · cases e
 · intro j x k hx wc
   obtain ⟨i,o,h1,h2,h3,hb,_,e,_⟩:=aD j x hx
   rw [hb];exact h.i5 i o k h2 (e▸wc)
 · intro i hi hn
   obtain ⟨f1,f2,f3,f4⟩:=h.f1 i hi hn
   refine ⟨f1,f2,f3,fun j x hx hr=> ?_⟩
   obtain ⟨i',o,h1,h2,h3,hb,e,_⟩:=aD j x hx
   rw [hb];exact f4 i' o h2 (e▸hr)
theorem JS {src:List Nat} {f:Nat->Nat} (hf: ∀j i,src[j]? =some i->f i=j) {n m:Nat} {v:V} {x:Value} (hm:m=src.length) (h:aw g.bs g.I w n v x) (hp: ∀o∈aW v,o∈src):aw (nr g src).bs (nr g src).I w m (gM f v) x:=
 h.gM fun o ho _=>by
  obtain ⟨j,hj⟩:=List.mem_iff_getElem?.1 (hp o ho)
  rw [hf j o hj,hm]
  exact ⟨(List.getElem?_eq_some_iff.1 hj).1,by simp [nr,hj]⟩
theorem nD {src:List Nat} (kX:src.Nodup): ∀j i,src[j]? =some i->dR i src 0=j:=fun j i hj=>by
 obtain ⟨_,q2,q3⟩:=qc (k:=0) (List.mem_of_getElem? hj)
 rw [Nat.sub_zero] at q3
 have l1:=(List.getElem?_eq_some_iff.1 hj).1
 have l2:dR i src 0<src.length:=by omega
 have hp:=List.pairwise_iff_getElem.1 kX
 have he:src[dR i src 0]=src[j]:=by rw [(List.getElem?_eq_some_iff.1 q3).2,(List.getElem?_eq_some_iff.1 hj).2]
 rcases Nat.lt_trichotomy (dR i src 0) j with aJ | h | aJ
 · exact absurd he (hp _ _ l2 l1 aJ)
 · exact h
 · exact absurd he.symm (hp _ _ l1 l2 aJ)
end
end VL
namespace VL
open Go
noncomputable section
def MA (P:Program) (t:List V) (ob:List af):ResultVar->(V->Prop)->Prop
 | .tmp i,K=>cA t i fun v=>v.aH K
 | .cell i T,K=>cA t i fun p=>match p with
   | .ptr j off=>cA ob j fun o=>match o with
     | .cells _ _ cs=>iT cs off fun cs=>im P T cs fun v=>v.aH K
     | _=>False
   | _=>False
def oneOf:List V->(V->Prop)->Prop
 | [v],K=>K v
 | vs,K=>K (.aQ vs)
def tj:Nat->Nat->List Nat->Bool
 | 0,_,_=>true
 | n+1,i,j::r=>Nat.beq j i &&tj n (i+1) r
 | _+1,_,[]=>false
def upto:Nat->Nat->List Nat
 | 0,_=>[]
 | n+1,i=>i::upto n (i+1)
def pz (n0:Nat) (v:V) (ob:List af) (K:V->List af->Prop):Prop:=
 ng (reach ob 64 (upto n0 0++aW v) []) fun idx=>
 match nh idx &&pS idx (aW v) &&pT ob idx idx &&tj n0 0 idx with
 | false=>False
 | true=>pU ob (fun i=>dR i idx 0) idx fun sub=>m6 (fun i=>dR i idx 0) v fun v=>K v sub
def Ci:Option V->Bool
 | none=>true
 | some v=>(match aW v with | []=>true | _=>false)
def rD (S:Sys):List (Fn × List V × List V)->Option V->List V->List af->(Option V->List V->List af->Prop)->Prop
 | [],r,t,ob,K=>K r t ob
 | (.func f,a,b)::ds,r,t,ob,K=>
  cd V.aH (a++b) fun args=>
  ng (reach ob 64 (b7 args) []) fun idx=>
  match Ci r &&nh idx &&pS idx (b7 args) &&pT ob idx idx with
  | false=>False
  | true=>
  pU ob (fun i=>dR i idx 0) idx fun sub=>
  Ew sub fun sub=>
  cd (m6 fun i=>dR i idx 0) args fun args=>
  S.Gf f args sub r fun rec iZ=>
  kK idx iZ fun ms=>fg ms t ob ds fun t c6=>
  mR (fun j=>(idx[j]?).getD (ob.length+(j - idx.length))) idx iZ c6 fun ob=>
  rD S ds (match rec with | true=>none | false=>r) t ob K
 | _::_,_,_,_,_=>False
def DF (P:Program) (fn:Func) (n0:Nat) (r:Option V) (t:List V) (ob:List af) (K:Out->List af->Prop):Prop:=
 match r with
 | none=>cd (MA P t ob) fn.results.toList fun vs=>oneOf vs fun v=>pz n0 v ob fun v ob=>K (.ret v) ob
 | some v=>pz n0 v ob fun v ob=>K (.dw v) ob
def RD (S:Sys) (fn:Func) (n0:Nat) (e:Ex):St->(Out->List af->Prop)->Prop
 | ⟨t,ob,_,df⟩,K=>match e with
   | .normal=>rD S df none t ob fun r t ob=>DF S.P fn n0 r t ob K
   | .ret=>rD S df none t ob fun r t ob=>DF S.P fn n0 r t ob K
   | .dw v=>rD S df (some v) t ob fun r t ob=>DF S.P fn n0 r t ob K
   | .exit _=>False
def sV:Nat->List V->List V
 | n,v::r=>v::sV (n - 1) r
 | n,[]=>yv n
where yv:Nat->List V
 | 0=>[]
 | n+1=> .undef::yv n
end
def nE (tmps:Array Value) (r:ResultVar):Sem Value:=
 match r with
 | .tmp t=>pure (tmps.getD t undef)
 | .cell a t=>do loadVar t (←asAddr (tmps.getD a undef))
theorem uT (fn:Func) (tmps:Array Value):results fn tmps=(do
 let vs ←fn.results.mapM (nE tmps)
 pure (if h:vs.size=1 then vs[0] else .tuple vs)):=rfl
theorem Ao {P:Program} {w:World} {α β:Type} {f:α->Sem β}: ∀ {l:List α} {ys:List β},ys.length=l.length->(∀(k:Nat) x y,l[k]? =some x->ys[k]? =some y->(f x).run P w= .ok y w)->
 (l.mapM f).run P w= .ok ys w
 | [],[],_,_=>by simp
 | x::r,y::ys,hl,h=>by
   have h0:=h 0 x y rfl rfl
   have ih:=Ao (P:=P) (w:=w) (f:=f) (l:=r) (ys:=ys) (by simpa using hl) fun k a b ha hb=>h (k+1) a b (by simpa using ha) (by simpa using hb)
   simp [List.mapM_cons,h0,ih]
theorem Ap {α β:Type} {f:α->(β->Prop)->Prop} {R:α->β->Prop} (hf: ∀x K,f x K-> ∃y,R x y/\K y): ∀ {l:List α} {K:List β->Prop},cd f l K->
 ∃ys,ys.length=l.length/\(∀(k:Nat) x y,l[k]? =some x->ys[k]? =some y->R x y)/\K ys
 | [],K,h=>⟨[],rfl,by simp,h⟩
 | x::r,K,h=>by
   obtain ⟨y,h1,h2⟩:=hf x _ h
   obtain ⟨ys,h3,h4,h5⟩:=Ap hf h2
   refine ⟨y::ys,by simp [h3],fun k a b ha hb=> ?_,h5⟩
   cases k with
   | zero=>simp at ha hb;subst ha;subst hb;exact h1
   | succ k=>exact h4 k a b (by simpa using ha) (by simpa using hb)
theorem sg: ∀ {n i:Nat} {l:List Nat},tj n i l=true-> ∀k,k<n->l[k]? =some (i+k)
 | n+1,i,j::r,h,k,hk=>by
   simp only [tj,Bool.and_eq_true] at h
   cases k with
   | zero=>simp [Nat.eq_of_beq_eq_true h.1]
   | succ k=>simp only [List.getElem?_cons_succ];rw [sg h.2 k (by omega)];congr 1;omega
section
variable {P:Program} {c:Ctx} {g:G} {w:World} {ob:List af} {nt:Nat}
theorem nF {v:V} {x:Value} {K:V->List af->Prop} (h:a_ c g w ob nt) (hv:aw g.bs g.I w ob.length v x) (hk:pz c.n0 v ob K):
 ∃g' sub v',a_ c g' w sub 0/\aw g'.bs g'.I w sub.length v' x/\(v.cB=true->v'.cB=true)/\K v' sub:=by
 unfold pz at hk
 have hk:=og hk
 generalize reach ob 64 (upto c.n0 0++aW v) []=idx at hk
 split at hk
 case h_1=>exact hk.elim
 rename_i uD
 simp only [Bool.and_eq_true] at uD
 obtain ⟨⟨⟨kX,zW⟩,qe⟩,ki⟩:=uD
 have kX:=gR kX
 obtain ⟨sub,hl,iA,hk⟩:=oi hk
 have ki: ∀o,o<c.n0->idx[o]? =some o:=fun o ho=>by have:=sg ki o ho;simpa using this
 have hu:=h.bj
 have hlen:c.n0<=idx.length:=by
  rcases Nat.lt_or_ge idx.length c.n0 with aJ | zg
  · have:=(List.getElem?_eq_some_iff.1 (ki idx.length aJ)).1;omega
  · exact zg
 have hs:=a_.Tg hu kX (sub:=sub) (f:=fun i=>dR i idx 0) (nD kX) hl (fun i hi x hx o ho=>by
  rw [List.getElem?_map] at hx
  obtain ⟨y,hy,rfl⟩:=Option.map_eq_some_iff.1 hx
  refine oe qe i hi y hy o ?_
  cases y with
  | cells wr T cs=>simpa [fQ,fU,zT] using ho
  | _=>exact ho) (fun j i hj=>by
  obtain ⟨o,h1,h2⟩:=iA j i hj
  exact ⟨fQ o,by rw [List.getElem?_map,h1];rfl,.inl h2⟩) (fun j hj=> .inl (ki j hj)) hlen
 exact ⟨_,sub,_,hs,JS (nD kX) hl hv (fun o ho=>gT zW o ho),fun hn=>lj hn,qd hk⟩
theorem E5 {a:Act} {t:List V} (hw:a_ c g w ob nt) (ht:fy g w ob.length nt a.tmps t) (r:ResultVar) (K:V->Prop) (h:MA P t ob r K):
 ∃v,(∃x,aw g.bs g.I w ob.length v x/\v.cB=true/\(nE a.tmps r).run P w= .ok x w)/\K v:=by
 cases r with
 | tmp i=>
   obtain ⟨v,h1,h2⟩:=aX h
   have aJ:i<a.tmps.size:=by rw [←ht.size];exact (List.getElem?_eq_some_iff.1 h1).1
   simp only [V.aH,bk] at h2
   refine ⟨_,⟨a.tmps[i],(ht.rel i v a.tmps[i] h1 (by simp [aJ])).rel.bj,bB _,by simp [nE,Array.getD,aJ]⟩,h2⟩
 | cell i T=>
   obtain ⟨v,h1,h2⟩:=aX h
   have aJ:i<a.tmps.size:=by rw [←ht.size];exact (List.getElem?_eq_some_iff.1 h1).1
   have hr:=(ht.rel i v a.tmps[i] h1 (by simp [aJ])).rel
   cases v<;>try exact h2.elim
   rename_i j off
   obtain ⟨x1,h3,h4⟩:=aX h2
   cases x1<;>try exact h4.elim
   obtain ⟨h5,h6⟩:=fV h4
   obtain ⟨v,y,hK,zd,hv,aS⟩:=l6 (b:=g.bs j) (off:=off) h6 (fun k v hv=>by obtain ⟨c,h1,h2⟩:=tY hw h3 hv;exact ⟨c,h1,h2.rel⟩)
   simp only [V.aH,bk] at hK
   generalize hx:a.tmps[i]=e at hr
   cases hr
   refine ⟨_,⟨y,zd.bj,bB _,?_⟩,hK⟩
   have p5:a.tmps.getD i undef= .pointer (some ⟨g.bs j,off,none⟩):=by simp [Array.getD,aJ,hx]
   simp only [nE,p5]
   simpa [Instr.loadAt,Instr.sureAddr,asAddr] using aS
theorem wD {fn:Func} {a:Act} {t:List V} (hw:a_ c g w ob nt) (ht:fy g w ob.length nt a.tmps t) {K:V->Prop} (h:cd (MA P t ob) fn.results.toList fun vs=>oneOf vs K):
 ∃v x,aw g.bs g.I w ob.length v x/\v.cB=true/\(results fn a.tmps).run P w= .ok x w/\K v:=by
 obtain ⟨vs,h1,h2,h3⟩:=Ap (R:=fun r v=> ∃x,aw g.bs g.I w ob.length v x/\v.cB=true/\(nE a.tmps r).run P w= .ok x w) (E5 hw ht) h
 clear h
 obtain ⟨xs,h4,h5⟩: ∃xs:List Value,xs.length=vs.length/\ ∀(k:Nat) r v x,fn.results.toList[k]? =some r->vs[k]? =some v->xs[k]? =some x->
  aw g.bs g.I w ob.length v x/\v.cB=true/\(nE a.tmps r).run P w= .ok x w:=by
  clear h3
  generalize fn.results.toList=rs at h1 h2
  induction rs generalizing vs with
  | nil=>exact ⟨[],by simp [h1],by simp⟩
  | cons r rs ih=>
    cases vs with
    | nil=>simp at h1
    | cons v vs=>
      obtain ⟨x,hx⟩:=h2 0 r v rfl rfl
      obtain ⟨xs,i1,i2⟩:=ih vs (by simpa using h1) fun k a b ha hb=>h2 (k+1) a b (by simpa using ha) (by simpa using hb)
      refine ⟨x::xs,by simp [i1],fun k a b c ha hb hc=> ?_⟩
      cases k with
      | zero=>simp at ha hb hc;subst ha;subst hb;subst hc;exact hx
      | succ k=>exact i2 k a b c (by simpa using ha) (by simpa using hb) (by simpa using hc)
 have aS:(fn.results.mapM (nE a.tmps)).run P w= .ok xs.toArray w:=by
  rw [Array.mapM_eq_mapM_toList]
  have:=Ao (P:=P) (w:=w) (l:=fn.results.toList) (ys:=xs) (f:=nE a.tmps) (by rw [h4,h1]) fun k r x hr hx=>by
   have aJ:k<vs.length:=by rw [←h4];exact (List.getElem?_eq_some_iff.1 hx).1
   exact (h5 k r vs[k] x hr (List.getElem?_eq_getElem aJ) hx).2.2
  simp [this]
 have ql: ∀k v x,vs[k]? =some v->xs[k]? =some x->aw g.bs g.I w ob.length v x/\v.cB=true:=fun k v x hv hx=>by
  have aJ:k<fn.results.toList.length:=by rw [←h1];exact (List.getElem?_eq_some_iff.1 hv).1
  have:=h5 k fn.results.toList[k] v x (List.getElem?_eq_getElem aJ) hv hx
  exact ⟨this.1,this.2.1⟩
 have eY:(results fn a.tmps).run P w= .ok (if h:xs.toArray.size=1 then xs.toArray[0] else .tuple xs.toArray) w:=by
  rw [uT,Sem.run_bind,aS]
  rfl
 unfold oneOf at h3
 split at h3
 · rename_i v
   obtain ⟨x,rfl⟩:=List.length_eq_one_iff.1 h4
   exact ⟨v,x,(ql 0 v x rfl rfl).1,(ql 0 v x rfl rfl).2,by rw [eY];rfl,h3⟩
 · rename_i bZ
   refine ⟨_,_,.aQ (ca:=xs.toArray) (by simp [h4]) fun k v c hv hc=>(ql k v c hv (by simpa using hc)).1,rfl,?_,h3⟩
   rw [eY]
   have: ¬xs.toArray.size=1:=fun e=>by
    have:vs.length=1:=by rw [←h4];simpa using e
    match vs,this with
    | [v],_=>exact bZ v rfl
   rw [dif_neg this]
end
def O7 (S:Sys) (fn:Func) (body:Code) (args:List V) (ob:List af) (K:Out->List af->Prop):Prop:=
 Jv S body ⟨sV fn.ntmps args,ob,0,[]⟩ fun e s=>RD S fn ob.length e s K
theorem xc: ∀n,sV.yv n=List.replicate n .undef
 | 0=>rfl
 | n+1=>by simp [sV.yv,xc n,List.replicate_succ]
theorem yw: ∀(l:List V) (n:Nat),sV n l=l++List.replicate (n - l.length) .undef
 | [],n=>by simp [sV,xc]
 | v::r,n=>by simp only [sV,yw r,List.length_cons,List.cons_append];rw [show n - 1 - r.length=n - (r.length+1) by omega]
def E6 (rec:Bool) (u:FrameMode):FrameMode:=
 match rec,u with
 | true,.panicking ({v,..}::O8)=> .panicking ({v,recovered:=true}::O8)
 | _,u=>u
theorem Cj (u:FrameMode):E6 false u=u:=by cases u<;>rfl
def Aq (g:G) (w:World) (n:Nat) (r:Option V) (u:FrameMode):Prop:=
 match r with
 | none=>u= .returning
 | some v=> ∃x,u= .panicking [{v:=x,recovered:=false}]/\aw g.bs g.I w n v x
def tn (P:Program) (f:FuncId) (args:List V) (ob:List af) (r:Option V) (K:Bool->List af->Prop):Prop:=
 ∀(w:World) (g:G) (b9:Array Value) (u:FrameMode),a_ ⟨w,ob.length,g.bs,g.I,ma g ob⟩ g w ob 0->args.length=b9.size->
  (∀(k:Nat) v x,args[k]? =some v->b9[k]? =some x->VT g w ob.length 0 v x)->Aq g w ob.length r u->zp g w->
  (callFunc f b9).run P w= .ok (.enter f b9) w/\
  CallsD P f b9 u w fun e u' w'=> ∃rec c6 g',K rec c6/\a_ ⟨w,ob.length,g.bs,g.I,ma g ob⟩ g' w' c6 0/\(∃y,e= .returned y)/\u'=E6 rec u/\(rec=true->r.isSome=true)
theorem Ck {r:Option V} (h:Ci r=true): ∀v,r=some v->aW v=[]:=by
 rintro v rfl
 simp only [Ci] at h
 split at h
 · assumption
 · cases h
theorem mh {S:Sys} (hD: ∀f args ob r K,S.Gf f args ob r K->tn S.P f args ob r K) {fn:Func} {tmps:Array Value} {R:Ending->World->Prop} {c:Ctx} {K:Option V->List V->List af->Prop}
 (fE: ∀r t ob g w u nt,K r t ob->a_ c g w ob nt->fy g w ob.length nt tmps t->Aq g w ob.length r u->Leaves S.P fn tmps R [] u w):
 ∀(df:List (Fn × List V × List V)) (ds:List Deferred) (r:Option V) (t:List V) (ob:List af) (g:G) (w:World) (u:FrameMode) (nt:Nat),rD S df r t ob K->a_ c g w ob nt->fy g w ob.length nt tmps t->gI g w ob.length ds df->
  Aq g w ob.length r u->Leaves S.P fn tmps R ds u w:=by
 intro df
 induction df with
 | nil=>
   intro ds r t ob g w u nt h hw ht hd hr
   cases hd
   exact fE r t ob g w u nt h hw ht hr
 | cons x df ih=>
   intro ds r t ob g w u nt h hw ht hd hr
   obtain ⟨f',a,b⟩:=x
   cases f'<;>try exact h.elim
   rename_i f
   cases hd with
   | @cons d _ ds _ h1 hd=>
   obtain ⟨cap,e1,e2,e3,e4,e5⟩:=h1
   simp only [rD] at h
   have h:=dq h
   obtain ⟨m1,m2⟩:=kx e2 e4 e3 e5
   obtain ⟨m1,m2⟩:=l_ m1 m2
   have dN: ∀v∈(a++b).map V.bj,v.cB=true:=fun v hv=>by
    obtain ⟨u,_,rfl⟩:=List.mem_map.1 hv;exact bB u
   generalize (a++b).map V.bj=args at h m1 m2 dN
   have h:=og h
   generalize reach ob 64 (b7 args) []=idx at h
   split at h
   case h_1=>exact h.elim
   rename_i uD
   simp only [Bool.and_eq_true] at uD
   obtain ⟨⟨⟨oJ,kX⟩,zW⟩,qe⟩:=uD
   have oJ:=Ck oJ
   have kX:=gR kX
   obtain ⟨Mt,Dq,GU,h⟩:=oi h
   have h:=uy h
   obtain ⟨sub,GV,hl,iA⟩: ∃sub,sub=Mt.map Jh/\sub.length=idx.length/\ ∀(j i:Nat),idx[j]? =some i-> ∃o,ob[i]? =some o/\sub[j]? =some (Jh (eN (fun i=>dR i idx 0) (fQ o))):=by
    refine ⟨_,rfl,by simp [Dq],fun j i hj=> ?_⟩
    obtain ⟨o,q1,q2⟩:=GU j i hj
    exact ⟨o,q1,by rw [List.getElem?_map,q2];rfl⟩
   rw [←GV] at h
   have h:=gU h
   have oT:=hD _ _ _ _ _ h
   have cQ:=Dx hw kX (oe qe) hl iA
   have qf: ∀i∈idx, ∃o,ob[i]? =some o:=fun i hi=>by
    obtain ⟨j,hj⟩:=List.mem_iff_getElem?.1 hi
    obtain ⟨o,ho,_⟩:=iA j i hj
    exact ⟨o,ho⟩
   obtain ⟨aS,ns⟩:=oT w (nr g idx) (d.args++cap) u cQ (by rw [bU];exact m1) (fun k v x hv hx=>by
    rw [c8] at hv
    obtain ⟨v',iV,rfl⟩:=Option.map_eq_some_iff.1 hv
    exact ⟨BU (m2 k v' x iV hx) (fun o ho=>gT zW o (bY iV ho)) hl,.fA (lj (dN v' (List.mem_of_getElem? iV)))⟩) (by
    cases r with
    | none=>exact hr
    | some v=>
      obtain ⟨x,q1,q2⟩:=hr
      exact ⟨x,q1,q2.GO fun o ho=>by rw [oJ v rfl] at ho;simp at ho⟩) ht.gl
   obtain ⟨tg,O9⟩:=d
   simp only at e1;subst e1
   refine leaves_cons (f:=f) (args:=O9++cap) ?_ ?_ (ns.mono fun e u' w' he=> ?_)
   · cases r with
     | none=>have hr:u= .returning:=hr;rw [hr];simp
     | some v=>obtain ⟨x,q1,_⟩:=hr;rw [q1];simp
   · simpa [invoke] using aS
   · obtain ⟨rec,os,g',hk,oS,⟨y,rfl⟩,rfl,yx⟩:=he
     simp only
     rw [hl] at oS
     obtain ⟨Ji,hk⟩:=iz (mb hk)
     obtain ⟨c6,b1,b2,b3,b4,b5,b6⟩:=rn kX hk
     rw [List.length_map] at b2 b4 b5
     have Ro: ∀(j i:Nat) o,idx[j]? =some i->os[j]? =some o-> ∃o0,ob[i]? =some o0/\c6[i]? =some ((eN (fC idx ob.length) o).pb o0.mv)/\(o0.mv=true-> ∃m z l ty,o= .buf m z l ty):=fun j i o hj ho=>by
      obtain ⟨o0,q1,q2,q3⟩:=b3 j i o hj ho
      rw [List.getElem?_map] at q1
      obtain ⟨o1,q4,rfl⟩:=Option.map_eq_some_iff.1 q1
      have:(cW (cE idx os) o1).mv=o1.mv:=by cases o1<;>rfl
      rw [this] at q2 q3
      exact ⟨o1,q4,q2,q3⟩
     obtain ⟨q1,q2,q3,q4,q5⟩:=zU hw kX qf hl (fun j i hj=>by
      obtain ⟨o,r1,r2⟩:=iA j i hj
      refine ⟨o,r1,fun s hs=> ?_⟩
      rw [r2] at hs
      cases hs
      cases o<;>rfl) oS b2 Ro (fun i hi hm=>by rw [b4 i hi hm,List.getElem?_map]) b5
     refine ih ds _ _ c6 (fD g g' idx ob.length) w' _ nt b6 q1 ⟨by simp [ht.size],fun k v x hv hx=> ?_,ht.gl.out oS rfl⟩ (hd.forget q5 Ji) ?_
     · rw [List.getElem?_map] at hv
       obtain ⟨v',iV,rfl⟩:=Option.map_eq_some_iff.1 hv
       rcases ew (cE idx os) v' with e | ⟨e,hp⟩
       · rw [e];exact ⟨.undef,trivial⟩
       · rw [e];exact q2 v' x (ht.rel k v' x iV hx) hp
     · cases rec with
       | true=>
         cases r with
         | none=>exact absurd (yx rfl) (by simp)
         | some v=>
           obtain ⟨x,rfl,_⟩:=hr
           rfl
       | false=>
         cases r with
         | none=>have hr:u= .returning:=hr;rw [hr];rfl
         | some v=>
           obtain ⟨x,rfl,hx⟩:=hr
           exact ⟨x,rfl,q5 v x hx fun o ho=>by rw [oJ v rfl] at ho;simp at ho⟩
theorem E7 {S:Sys} (hm:e_ S) (hS: ∀g args ob K,S.call g args ob K->jL S.P g args ob K) (hD: ∀f args ob r K,S.Gf f args ob r K->tn S.P f args ob r K) {ob:List af}
 (hL: ∀(code:Code) (s:St) (K:Ex->St->Prop) (c:Ctx) (Q:Exit->Act->World->Prop) (g:G) (w:World) (a:Act),c.n0=ob.length->S.loop code s K->Fits c K Q->cf c g w a s->(Code.loop code).wp S.P Q a w)
 (hT: ∀(code:Code) (s:St) (K:Ex->St->Prop) (c:Ctx) (Q:Exit->Act->World->Prop) (g:G) (w:World) (a:Act),c.n0=ob.length->S.step code s K->Fits c K Q->cf c g w a s->code.wp S.P Q a w)
 {f:FuncId} {fn:Func} {body:Code} (hf:S.P.funcs[f]? =some fn) (hb:fn.body=some body) (hn:(fn.name== "runtime.NumGoroutine")=false) {args:List V} {K:Out->List af->Prop}
 (h:O7 S fn body args ob K):jL S.P f args ob K:=by
 intro w g b9 hw hl hr we
 refine (rm.calls hf hb hn).2 (calls_of_wp_defers hf hb ?_)
 have MB:fy g w ob.length 0 (b9++Array.replicate (fn.ntmps - b9.size) undef) (sV fn.ntmps args):=by
  rw [yw]
  refine ⟨by simp [hl],fun k v c hv hc=> ?_,we⟩
  rw [List.getElem?_append] at hv
  rw [Array.getElem?_append] at hc
  split at hv
  · rename_i hk;rw [if_pos (by omega)] at hc;exact hr k v c hv hc
  · rw [List.getElem?_replicate] at hv
    split at hv
    · cases hv;exact ⟨.undef,trivial⟩
    · cases hv
 have fE: ∀(tmps:Array Value) r t py g' w' u nt,DF S.P fn ob.length r t py K->a_ ⟨w,ob.length,g.bs,g.I,ma g ob⟩ g' w' py nt->fy g' w' py.length nt tmps t->Aq g' w' py.length r u->
  Leaves S.P fn tmps (fun e w'=> ∃out c6 g',K out c6/\a_ ⟨w,ob.length,g.bs,g.I,ma g ob⟩ g' w' c6 0/\Ends g' w' c6.length out e) [] u w':=by
  intro tmps r t py g' w' u nt hk cQ MC Gt
  cases r with
  | none=>
    have Gt:u= .returning:=Gt
    subst Gt
    obtain ⟨v,x,h1,h2,h3,h4⟩:=wD (a:= {tmps:=tmps,defers:=[]}) cQ MC hk
    obtain ⟨O_,sub,v',h5,h6,h7,h8⟩:=nF cQ h1 h4
    exact ⟨x,h3,_,_,O_,h8,h5,⟨h6,.fA (h7 h2)⟩⟩
  | some v=>
    obtain ⟨x,rfl,hx⟩:=Gt
    obtain ⟨O_,sub,v',h5,h6,h7,h8⟩:=nF cQ hx hk
    exact ⟨.dw v',sub,O_,h8,h5,x,rfl,h6⟩
 refine uS (c:=⟨w,ob.length,g.bs,g.I,ma g ob⟩) hm hS (fun code s K Q g' w' a h hf hs=>hL code s K _ Q g' w' a rfl h hf hs) (fun code s K Q g' w' a h hf hs=>hT code s K _ Q g' w' a rfl h hf hs)
  body ⟨sV fn.ntmps args,ob,0,[]⟩ _ _ g w _ h ?_ ⟨hw,MB,.nil⟩
 refine ⟨fun s g' w' a hk hs=> ?_,fun i s g' w' a hk hs=> ?_,fun s g' w' a hk hs=> ?_,fun v x s g' w' a hk hs hv=> ?_⟩
 · obtain ⟨t,py,nt,df⟩:=s
   exact mh hD (fE a.tmps) df a.defers none t py g' w' .returning nt hk hs.wi hs.ti hs.di rfl
 · obtain ⟨t,py,nt,df⟩:=s
   exact hk.elim
 · obtain ⟨t,py,nt,df⟩:=s
   exact mh hD (fE a.tmps) df a.defers none t py g' w' .returning nt hk hs.wi hs.ti hs.di rfl
 · obtain ⟨t,py,nt,df⟩:=s
   exact mh hD (fE a.tmps) df a.defers (some v) t py g' w' _ nt hk hs.wi hs.ti hs.di ⟨x,rfl,hv⟩
def JT (S:Sys) (r:Option V):Code->St->(Bool->Ex->St->Prop)->Prop
 | .seq a b,s,K=>JT S r a s fun rec e s=>match e with
   | .normal=>S.step b s (K rec)
   | .exit i=>K rec (.exit i) s
   | .ret=>K rec .ret s
   | .dw v=>K rec (.dw v) s
 | .region _ ops false,s,K=>(match ops.toList with
   | [o]=>(match o.op,o.guard with
     | .call cl,none=>(match cl.callee with
       | .builtin .recover=>(match r with
         | none=>s.put o.dst .gL (K false .normal)
         | some v=>v.aH fun v=>s.put o.dst v (K true .normal))
       | _=>False)
     | _,_=>False)
   | _=>False)
 | _,_,_=>False
def LH (S:Sys) (fn:Func) (body:Code) (args:List V) (ob:List af) (r:Option V) (K:Bool->List af->Prop):Prop:=
 (fn.results.toList.isEmpty=true)/\JT S r body ⟨sV fn.ntmps args,ob,0,[]⟩ fun rec e s=>match s,e with
   | ⟨_,c6,_,[]⟩,.normal=>pz ob.length (.aQ []) c6 fun _ ob=>K rec ob
   | ⟨_,c6,_,[]⟩,.ret=>pz ob.length (.aQ []) c6 fun _ ob=>K rec ob
   | _,_=>False
theorem MD {S:Sys} {c:Ctx} (hm:e_ S) (hS: ∀g args ob K,S.call g args ob K->jL S.P g args ob K)
 (hT: ∀(code:Code) (s:St) (K:Ex->St->Prop) (Q:Exit->Act->World->Prop) (g:G) (w:World) (a:Act),S.step code s K->Fits c K Q->cf c g w a s->code.wp S.P Q a w)
 {r:Option V} {rE:Frame} {cs:List Frame}:
 ∀(code:Code) (s:St) (K:Bool->Ex->St->Prop) (Q:Exit->Act->List Frame->World->Prop) (g:G) (w:World) (a:Act),JT S r code s K->Aq g w s.eg.length r rE.mode->
  (∀rec,(rec=true->r.isSome=true)->Fits c (K rec) (fun e a w=>Q e a ({rE with mode:=E6 rec rE.mode}::cs) w))->cf c g w a s->code.wpS S.P Q a (rE::cs) w:=by
 intro code
 induction code with
 | seq x y RC UD=>
   intro s K Q g w a h hr hf hs
   refine wpS_seq (RC s _ _ g w a h hr (fun rec yx=> ?_) hs)
   have hf:=hf rec yx
   exact ⟨fun s g w a hk hs=>wpS_of_wp (hT y s (K rec) _ g w a hk hf hs),fun i s g w a hk hs=>hf.exit i s g w a hk hs,fun s g w a hk hs=>hf.ret s g w a hk hs,fun v x s g w a hk hs hv=>hf.dw v x s g w a hk hs hv⟩
 | region id ops draw=>
   intro s K Q g w a h hr hf hs
   cases draw with
   | true=>exact h.elim
   | false=>
     simp only [JT] at h
     split at h
     case h_2=>exact h.elim
     rename_i o O'
     split at h
     case h_2=>exact h.elim
     rename_i cl w_ hg
     split at h
     case h_2=>exact h.elim
     rename_i hc
     refine wpS_region ?_
     have cg:ops.size=1:=by have:=congrArg List.length O';simpa using this
     have h0:ops[0]? =some o:=by rw [←Array.getElem?_toList,O'];rfl
     have ME:List.range ops.size=[0]:=by rw [cg];rfl
     rw [ME]
     have hw:Region.wanted o (yielded ops a.tmps)=true:=by simp [Region.wanted,hg]
     have aS:(execOp a.eval o).run S.P w= .ok .recover w:=by
      rw [gj w_ hc];simp [Go.builtin]
     simp only [wpOpsS,h0,hw,if_true,aS]
     cases r with
     | none=>
       have hr:rE.mode= .returning:=hr
       have yx:recoverD (rE::cs)=none:=by simp [recoverD,hr]
       rw [yx]
       obtain ⟨s',h1,h2⟩:=oj (x:= .nilIface) hs (.of .gL rfl) h
       have:=(hf false (by simp)).normal s' g w _ h1 h2
       rw [Cj] at this
       exact this
     | some v=>
       obtain ⟨x,hx,hv⟩:=hr
       have yx:recoverD (rE::cs)=some (x,{rE with mode:= .panicking [{v:=x,recovered:=true}]}::cs):=by simp [recoverD,hx]
       rw [yx]
       simp only [V.aH,bk] at h
       obtain ⟨s',h1,h2⟩:=oj (x:=x) hs (.of hv.bj (bB v)) h
       have:=(hf true (by simp)).normal s' g w _ h1 h2
       simpa [E6,hx] using this
 | _=>intro s K Q g w a h;exact h.elim
theorem Cl {S:Sys} (hm:e_ S) (hS: ∀g args ob K,S.call g args ob K->jL S.P g args ob K) {ob:List af}
 (hT: ∀(code:Code) (s:St) (K:Ex->St->Prop) (c:Ctx) (Q:Exit->Act->World->Prop) (g:G) (w:World) (a:Act),c.n0=ob.length->S.step code s K->Fits c K Q->cf c g w a s->code.wp S.P Q a w)
 {f:FuncId} {fn:Func} {body:Code} (hf:S.P.funcs[f]? =some fn) (hb:fn.body=some body) (hn:(fn.name== "runtime.NumGoroutine")=false) {args:List V} {r:Option V} {K:Bool->List af->Prop}
 (h:LH S fn body args ob r K):tn S.P f args ob r K:=by
 intro w g b9 u hw hl hr Gt we
 refine ⟨qb hf hb hn b9 w,callsD_of_wpS hf hb fun rE cs Pa=> ?_⟩
 subst Pa
 obtain ⟨ql,h⟩:=h
 have MB:fy g w ob.length 0 (b9++Array.replicate (fn.ntmps - b9.size) undef) (sV fn.ntmps args):=by
  rw [yw]
  refine ⟨by simp [hl],fun k v c hv hc=> ?_,we⟩
  rw [List.getElem?_append] at hv
  rw [Array.getElem?_append] at hc
  split at hv
  · rename_i hk;rw [if_pos (by omega)] at hc;exact hr k v c hv hc
  · rw [List.getElem?_replicate] at hv
    split at hv
    · cases hv;exact ⟨.undef,trivial⟩
    · cases hv
 have Hb: ∀tm:Array Value, ∃v, ∀w':World,(results fn tm).run S.P w'= .ok v w':=fun tm=>by
  have h0:fn.results= #[]:=by
   have:fn.results.toList=[]:=List.isEmpty_iff.1 ql
   exact Array.toList_eq_nil_iff.1 this
  exact ⟨.tuple #[],fun w'=>by simp [uT,h0]⟩
 refine MD (c:=⟨w,ob.length,g.bs,g.I,ma g ob⟩) hm hS (fun code s K Q g' w' a h hf hs=>hT code s K _ Q g' w' a rfl h hf hs) body ⟨sV fn.ntmps args,ob,0,[]⟩ _ _ g w _ h Gt (fun rec yx=> ?_) ⟨hw,MB,.nil⟩
 have oN: ∀(py:List af) (nt:Nat) (g':G) (w':World) (a:Act),(pz ob.length (.aQ []) py fun _ ob=>K rec ob)->a_ ⟨w,ob.length,g.bs,g.I,ma g ob⟩ g' w' py nt->gI g' w' py.length a.defers []->
  a.defers=[]/\ ∃u',{rE with mode:=E6 rec rE.mode}::cs= {rE with mode:=u'}::cs/\ ∃v,(results fn a.tmps).run S.P w'= .ok v w'/\
   ∃MF c6 g',K MF c6/\a_ ⟨w,ob.length,g.bs,g.I,ma g ob⟩ g' w' c6 0/\(∃y,Ending.returned v= .returned y)/\u'=E6 MF rE.mode/\(MF=true->r.isSome=true):=by
  intro py nt g' w' a hk cQ Th
  obtain ⟨v,hv⟩:=Hb a.tmps
  obtain ⟨O_,sub,v',h5,_,_,h8⟩:=nF (x:= .tuple #[]) cQ (.aQ rfl (by simp)) hk
  refine ⟨?_,_,rfl,v,hv w',rec,sub,O_,h8,h5,⟨v,rfl⟩,rfl,yx⟩
  generalize a.defers=d at Th
  cases Th;rfl
 refine ⟨fun s g' w' a hk hs=> ?_,fun i s g' w' a hk hs=> ?_,fun s g' w' a hk hs=> ?_,fun v x s g' w' a hk hs hv=> ?_⟩
 · obtain ⟨t,py,nt,df⟩:=s
   cases df with
   | nil=>exact oN py nt g' w' a hk hs.wi hs.di
   | cons _ _=>exact hk.elim
 · obtain ⟨t,py,nt,df⟩:=s
   cases df<;>exact hk.elim
 · obtain ⟨t,py,nt,df⟩:=s
   cases df with
   | nil=>exact oN py nt g' w' a hk hs.wi hs.di
   | cons _ _=>exact hk.elim
 · obtain ⟨t,py,nt,df⟩:=s
   cases df<;>exact hk.elim
end VL
namespace VL
open Go
def xd (P:Program) (m:Nat) (code:Code) (s:St) (K:Ex->St->Prop):Prop:=
 ∀(c:Ctx) (Q:Exit->Act->World->Prop) (g:G) (w:World) (a:Act),c.n0<=m->Fits c K Q->cf c g w a s->code.wp P Q a w
def aB (m:Nat) (s s':St):Prop:= ∀(c:Ctx) (g:G) (w:World) (a:Act),c.n0<=m->cf c g w a s-> ∃g',cf c g' w a s'
def wk (m:Nat) (K:Ex->St->Prop) (e:Ex) (s:St):Prop:=
 match e with
 | .dw v=>K (.dw v) s
 | e=> ∃s',aB m s s'/\K e s'
inductive xe (P:Program) (m:Nat) (code:Code) (K:Ex->St->Prop):St->Prop
 | step {s:St} (R:St->Prop) (hR: ∀s',R s'->xe P m code K s')
    (h:xd P m code s (fun e s'=>match e with | .normal=>R s' | e=>K e s')):xe P m code K s
theorem Ar {P:Program} {m:Nat} {code:Code} {K:Ex->St->Prop} {s:St} (h:xe P m code K s):xd P m (.loop code) s K:=by
 intro c Q g w a hm hf hs b k cs
 have key: ∀s,xe P m code K s-> ∀g w a,cf c g w a s-> ∃e a' w',Q e a' w'/\Arrives P (lone (b.at a (.code code:: .inLoop code::k)) cs w) b k cs e a' w':=by
  intro s hl
  induction hl with
  | @step s R hR h ih=>
    intro g w a hs
    have hw:code.wp P (Exit.then (fun a' w'=> ∃s' g',R s'/\cf c g' w' a' s') Q) a w:=
     h c _ g w a hm ⟨fun s g w a hk hs=>⟨s,g,hk,hs⟩,fun i s g w a hk hs=>hf.exit i s g w a hk hs,fun s g w a hk hs=>hf.ret s g w a hk hs,fun v x s g w a hk hs hv=>hf.dw v x s g w a hk hs hv⟩ hs
    obtain ⟨e,E8,E9,hq,As⟩:=hw b (.inLoop code::k) cs
    cases e with
    | normal=>
      obtain ⟨s',g',hr,iw⟩:=hq
      obtain ⟨RE,RF,RG,Pb,JU⟩:=ih s' hr g' E9 E8 iw
      exact ⟨RE,RF,RG,Pb,.of_steps (Steps.trans As (.one step_inLoop)) JU⟩
    | exit id=>exact ⟨_,E8,E9,hq,.pass (x:= .inLoop code) rfl (fun _ _=> .inl (by simp)) As⟩
    | goto l=>exact ⟨_,E8,E9,hq,.pass (x:= .inLoop code) rfl (fun _ _=> .inl (by simp)) As⟩
    | ret=>exact ⟨_,E8,E9,hq,.pass (x:= .inLoop code) rfl (fun _ _=> .inl (by simp)) As⟩
    | panic ch=>exact ⟨_,E8,E9,hq,.pass (x:= .inLoop code) rfl (fun _ _=> .inl (by simp)) As⟩
    | outgrown=>exact ⟨_,E8,E9,hq,.pass (x:= .inLoop code) rfl (fun _ _=> .inl (by simp)) As⟩
 obtain ⟨e,a',w',hq,As⟩:=key s h g w a hs
 exact ⟨e,a',w',hq,.of_steps (.one step_loop) As⟩
theorem JV {c:Ctx} {m:Nat} (hm:c.n0<=m) {K:Ex->St->Prop} {Q:Exit->Act->World->Prop} (h:Fits c K Q):Fits c (wk m K) Q where
 normal s g w a hk hs:=by obtain ⟨s',hw,hk⟩:=hk;obtain ⟨g',iw⟩:=hw c g w a hm hs;exact h.normal s' g' w a hk iw
 exit i s g w a hk hs:=by obtain ⟨s',hw,hk⟩:=hk;obtain ⟨g',iw⟩:=hw c g w a hm hs;exact h.exit i s' g' w a hk iw
 ret s g w a hk hs:=by obtain ⟨s',hw,hk⟩:=hk;obtain ⟨g',iw⟩:=hw c g w a hm hs;exact h.ret s' g' w a hk iw
 dw v x s g w a hk hs hv:=h.dw v x s g w a hk hs hv
structure aA (P:Program) (m:Nat) (code:Code) (s:St) (K:Ex->St->Prop):Prop where
 mk::out:xe P m code (wk m K) s
theorem aA.sound {P:Program} {m:Nat} {code:Code} {s:St} {K:Ex->St->Prop} (h:aA P m code s K):xd P m (.loop code) s K:=by
 exact fun c Q g w a hm hf hs=>Ar h.out c Q g w a hm (JV hm hf) hs
theorem aA.enter {P:Program} {m:Nat} {code:Code} {s s':St} {K:Ex->St->Prop} (hw:aB m s s') (h:aA P m code s' K):aA P m code s K:=by
 refine ⟨?_⟩
 cases h.out with
 | step R hR h=>exact .step R hR fun c Q g w a hm hf hs=>by obtain ⟨g',iw⟩:=hw c g w a hm hs;exact h c Q g' w a hm hf iw
theorem aA.round {P:Program} {m:Nat} {code:Code} {s:St} {K:Ex->St->Prop} (h:xd P m code s fun e s'=>match e with
 | .normal=> ∃Jk,aB m s' Jk/\aA P m code Jk K
 | e=>wk m K e s'):aA P m code s K:=by
 refine ⟨?_⟩
 refine .step (fun s'=>xe P m code (wk m K) s') (fun _ h=>h) fun c Q g w a hm hf hs=>h c Q g w a hm ?_ hs
 refine ⟨fun s g w a hk hs=> ?_,fun i s g w a hk hs=>hf.exit i s g w a hk hs,fun s g w a hk hs=>hf.ret s g w a hk hs,fun v x s g w a hk hs hv=>hf.dw v x s g w a hk hs hv⟩
 obtain ⟨Jk,hw,hk⟩:=hk
 obtain ⟨g',iw⟩:=hw _ g w a hm hs
 exact hf.normal Jk g' w a hk.out iw
structure eU (P:Program) (m:Nat) (code:Code) (s:St) (K:Ex->St->Prop):Prop where
 mk::out:xd P m code s K
structure iP (P:Program) (f:FuncId) (args:List V) (ob:List af) (r:Option V) (K:Bool->List af->Prop):Prop where
 mk::out:tn P f args ob r K
theorem eU.dv {P:Program} {m:Nat} {code:Code} {s s':St} {K:Ex->St->Prop} (hw:aB m s s') (h:eU P m code s' K):eU P m code s K:=
 ⟨fun c Q g w a hm hf hs=>by obtain ⟨g',iw⟩:=hw c g w a hm hs;exact h.out c Q g' w a hm hf iw⟩
noncomputable def sys (P:Program) (m:Nat) (mu:List Tmp):Sys:=⟨P,ah P,fun code s K=>aA P m code s K,fun code s K=>eU P m code s K,iP P,mu⟩
theorem ot (P:Program) (m:Nat) (mu:List Tmp):e_ (sys P m mu):=fun g args ob K K' h hc=> .shut<| by
 intro w g b9 hw hl hr we
 refine (ah.open hc w g b9 hw hl hr we).mono fun e w' he=> ?_
 obtain ⟨out,c6,g',hk,rest⟩:=he
 exact ⟨out,c6,g',h _ _ hk,rest⟩
theorem ah.mono {P:Program} {f:FuncId} {args:List V} {ob:List af} {K K':Out->List af->Prop} (h: ∀o ob,K o ob->K' o ob) (hc:ah P f args ob K):ah P f args ob K':=
 ot P 0 [] f args ob K K' h hc
theorem uU {P:Program} {m:Nat} {mu:List Tmp} {code:Code} {s:St} {K:Ex->St->Prop} (h:Jv (sys P m mu) code s K):xd P m code s K:=
 fun c Q g w a hm hf hs=>uS (S:=sys P m mu) (c:=c) (ot P m mu) (fun _ _ _ _ h=>h.open) (fun code s K Q g w a h hf hs=>aA.sound h c Q g w a hm hf hs)
  (fun code s K Q g w a h hf hs=>eU.out h c Q g w a hm hf hs) code s K Q g w a h hf hs
theorem aa {P:Program} {m:Nat} (mu:List Tmp) {code:Code} {s:St} {K:Ex->St->Prop} (h:Jv (sys P m mu) code s K):eU P m code s K:=⟨uU h⟩
theorem ai {P:Program} {m:Nat} (mu:List Tmp) {code:Code} {s:St} {K:Ex->St->Prop} (h:Jv (sys P m mu) code s fun e s'=>match e with
 | .normal=> ∃Jk,aB m s' Jk/\aA P m code Jk K
 | e=>wk m K e s'):aA P m code s K:=aA.round (uU h)
theorem ag (mu:List Tmp) (m:Nat) {P:Program} {f:FuncId} {fn:Func} {body:Code} (hf:P.funcs[f]? =some fn) (hb:fn.body=some body) (hn:(fn.name== "runtime.NumGoroutine")=false) {args:List V} {ob:List af} {K:Out->List af->Prop}
 (h:O7 (sys P m mu) fn body args ob K) (hm:ob.length=m:=by rfl):ah P f args ob K:=by
 subst hm
 exact .shut (E7 (S:=sys P ob.length mu) (ot P _ mu) (fun _ _ _ _ h=>h.open) (fun _ _ _ _ _ h=>h.out) (fun code s K c Q g w a hc h hf hs=>aA.sound h c Q g w a (by omega) hf hs)
  (fun code s K c Q g w a hc h hf hs=>eU.out h c Q g w a (by omega) hf hs) hf hb hn h)
theorem eM (mu:List Tmp) (m:Nat) {P:Program} {f:FuncId} {fn:Func} {body:Code} (hf:P.funcs[f]? =some fn) (hb:fn.body=some body) (hn:(fn.name== "runtime.NumGoroutine")=false) {args:List V} {ob:List af} {r:Option V} {K:Bool->List af->Prop}
 (h:LH (sys P m mu) fn body args ob r K) (hm:ob.length=m:=by rfl):iP P f args ob r K:=by
 subst hm
 exact .mk (Cl (S:=sys P ob.length mu) (ot P _ mu) (fun _ _ _ _ h=>h.open) (fun code s K c Q g w a hc h hf hs=>eU.out h c Q g w a (by omega) hf hs) hf hb hn h)
inductive VQ:V->V->Prop
 | eq {v v'} (h:v=v'):VQ v v'
 | no {l r}:VQ (.sl l r) (.sl l .no)
 | spare {l m}:VQ (.spare l m) (.sl l .no)
inductive du:List V->List V->Prop
 | nil:du [] []
 | cons {v v' r r'} (h:VQ v v') (hr:du r r'):du (v::r) (v'::r')
theorem du.length {l l':List V} (h:du l l'):l.length=l'.length:=by
 induction h with
 | nil=>rfl
 | cons _ _ ih=>simp [ih]
theorem du.get {l l':List V} (h:du l l'): ∀ {k:Nat} {v':V},l'[k]? =some v'-> ∃v,l[k]? =some v/\VQ v v':=by
 induction h with
 | nil=>intro k v' h;simp at h
 | cons h _ ih=>
   intro k v' hk
   cases k with
   | zero=>simp at hk;subst hk;exact ⟨_,rfl,h⟩
   | succ k=>exact ih (by simpa using hk)
inductive VP:V->V->Prop
 | eq {v v'} (h:v=v'):VP v v'
 | no {l r}:VP (.sl l r) (.sl l .no)
 | spare {l m}:VP (.spare l m) (.sl l .no)
 | agg {l l'} (h:du l l'):VP (.agg l) (.agg l')
inductive LI:List V->List V->Prop
 | nil:LI [] []
 | cons {v v' r r'} (h:VP v v') (hr:LI r r'):LI (v::r) (v'::r')
theorem LI.length {l l':List V} (h:LI l l'):l.length=l'.length:=by
 induction h with
 | nil=>rfl
 | cons _ _ ih=>simp [ih]
theorem LI.get {l l':List V} (h:LI l l'): ∀ {k:Nat} {v':V},l'[k]? =some v'-> ∃v,l[k]? =some v/\VP v v':=by
 induction h with
 | nil=>intro k v' h;simp at h
 | cons h _ ih=>
   intro k v' hk
   cases k with
   | zero=>simp at hk;subst hk;exact ⟨_,rfl,h⟩
   | succ k=>exact ih (by simpa using hk)
inductive VW:V->V->Prop
 | agg {l l'} (h:du l l'):VW (.agg l) (.agg l')
 | undef {v}:VW v .undef
 | aQ {l l'} (h:LI l l'):VW (.aQ l) (.aQ l')
 | eq {v v'} (h:v=v'):VW v v'
 | no {l r}:VW (.sl l r) (.sl l .no)
 | spare {l m}:VW (.spare l m) (.sl l .no)
inductive aq:List V->List V->Prop
 | nil:aq [] []
 | cons {v v' r r'} (h:VW v v') (hr:aq r r'):aq (v::r) (v'::r')
inductive OW:af->af->Prop
 | none {o} (h:o.mv=false):OW o .none
 | eq {o o'} (h:o=o'):OW o o'
 | cells {w T cs tS} (h:aq cs tS):OW (.cells w T cs) (.cells w T tS)
 | av {z l ty}:OW (.buf false z l ty) (.buf true z l ty)
 | row {T cs} (h:jA cs=true):OW (.cells true T cs) (.buf false 1 cs)
inductive ic:List af->List af->Prop
 | nil {l}:ic l []
 | cons {v v' r r'} (h:OW v v') (hr:ic r r'):ic (v::r) (v'::r')
theorem OW.real {x y:af} (h:OW x y) (hy:y.real=true):x.real=true:=by
 cases h with
 | none=>cases hy
 | eq h=>subst h;exact hy
 | cells=>rfl
 | av=>exact hy
 | row=>rfl
theorem OW.loose {x y:af} (h:OW x y) (hy:y.loose=true):x.loose=true\/ ∃T cs,x= .cells true T cs:=by
 cases h with
 | none=>cases hy
 | eq h=>subst h;exact .inl hy
 | cells=>cases hy
 | av=>exact .inl hy
 | row=>exact .inr ⟨_,_,rfl⟩
theorem OW.mv {x y:af} (h:OW x y) (hy:y.mv=false):x.mv=false:=by
 cases h with
 | none h=>exact h
 | eq h=>subst h;exact hy
 | cells=>rfl
 | av=>rfl
 | row=>rfl
theorem aq.length {l l':List V} (h:aq l l'):l.length=l'.length:=by
 induction h with
 | nil=>rfl
 | cons _ _ ih=>simp [ih]
theorem aq.get {l l':List V} (h:aq l l'): ∀ {k:Nat} {v':V},l'[k]? =some v'-> ∃v,l[k]? =some v/\VW v v':=by
 induction h with
 | nil=>intro k v' h;simp at h
 | cons h _ ih=>
   intro k v' hk
   cases k with
   | zero=>simp at hk;subst hk;exact ⟨_,rfl,h⟩
   | succ k=>exact ih (by simpa using hk)
theorem ic.get {l l':List af} (h:ic l l'): ∀ {k:Nat} {v':af},l'[k]? =some v'-> ∃v,l[k]? =some v/\OW v v':=by
 induction h with
 | nil=>intro k v' h;simp at h
 | cons h _ ih=>
   intro k v' hk
   cases k with
   | zero=>simp at hk;subst hk;exact ⟨_,rfl,h⟩
   | succ k=>exact ih (by simpa using hk)
def af.low (n:Nat):af->Bool
 | .cells _ _ cs=>V.il n cs
 | _=>true
def JW (n:Nat):List af->Bool
 | []=>true
 | o::r=>o.low n &&JW n r
def V.uV (n:Nat):V->Bool
 | .sl _ (.tok i _)=>Nat.blt i n
 | _=>true
def rF (n:Nat):List V->Bool
 | []=>true
 | v::r=>v.uV n &&rF n r
def af.uV (n:Nat):af->Bool
 | .cells _ _ cs=>rF n cs
 | _=>true
def tp (n:Nat):List af->Bool
 | []=>true
 | o::r=>o.uV n &&tp n r
theorem uW {n:Nat}: ∀ {l:List af},JW n l=true-> ∀ {k:Nat} {o:af},l[k]? =some o->o.low n=true
 | x::r,h,k,o,hk=>by
   simp only [JW,Bool.and_eq_true] at h
   cases k with
   | zero=>simp at hk;exact hk▸h.1
   | succ k=>exact uW h.2 (by simpa using hk)
theorem jU {n:Nat}: ∀ {l:List V},rF n l=true-> ∀ {k:Nat} {v:V},l[k]? =some v->v.uV n=true
 | x::r,h,k,o,hk=>by
   simp only [rF,Bool.and_eq_true] at h
   cases k with
   | zero=>simp at hk;exact hk▸h.1
   | succ k=>exact jU h.2 (by simpa using hk)
theorem nG {n:Nat}: ∀ {l:List af},tp n l=true-> ∀ {k:Nat} {o:af},l[k]? =some o->o.uV n=true
 | x::r,h,k,o,hk=>by
   simp only [tp,Bool.and_eq_true] at h
   cases k with
   | zero=>simp at hk;exact hk▸h.1
   | succ k=>exact nG h.2 (by simpa using hk)
theorem aw.yy {bs:Nat->Nat} {I:Nat->Nat->Prop} {w:World} {n:Nat} {l m:List V} {x:Value} (h:aw bs I w n (.spare l m) x):aw bs I w n (.sl l .no) x:=by
 cases h with
 | spare u hl cu F3 hc hu=>
   exact .sl u hl (by omega) (by simp) (fun x hx=>F3 x (List.mem_append_left _ hx))
    (fun k v hk=>hc k v (by rw [List.flatMap_append,List.getElem?_append_left (List.getElem?_eq_some_iff.1 hk).1];exact hk))
    (fun k v hk=>hu k v (by rw [List.flatMap_append,List.getElem?_append_left (List.getElem?_eq_some_iff.1 hk).1];exact hk))
theorem aw.Pc {bs:Nat->Nat} {I:Nat->Nat->Prop} {w:World} {n:Nat} {l l':List V} {x:Value} (h:aw bs I w n (.agg l) x) (hp:du l l'):aw bs I w n (.agg l') x:=by
 cases h with
 | agg hl hh=>
   refine .agg (by rw [←hp.length];exact hl) fun k v' c hv hc=> ?_
   obtain ⟨v,RH,RI⟩:=hp.get hv
   have hr:=hh k v c RH hc
   cases RI with
   | eq e=>subst e;exact hr
   | no=>exact hr.room _ (by simp)
   | spare=>exact hr.yy
theorem VW.vt {g:G} {w:World} {n nt n' k8:Nat} {v v':V} {x:Value} (h:VT g w n nt v x) (hw:VW v v') (hl:v'.low n'=true) (ht:v'.uV k8=true):VT g w n' k8 v' x:=by
 have h1:VT g w n nt v' x:=by
  cases hw with
  | undef=>exact ⟨.undef,trivial⟩
  | agg hp=>exact ⟨h.rel.Pc hp,trivial⟩
  | eq h=>subst h;assumption
  | no=>exact ⟨h.rel.room _ (by simp),trivial⟩
  | spare=>exact ⟨h.rel.yy,trivial⟩
  | aQ hp=>
    refine ⟨?_,trivial⟩
    have h0:=h.rel
    cases h0 with
    | aQ hl hh=>
      refine .aQ (by rw [←hp.length];exact hl) fun k v' c hv hc=> ?_
      obtain ⟨v,RH,RI⟩:=hp.get hv
      have hr:=hh k v c RH hc
      cases RI with
      | eq e=>subst e;exact hr
      | no=>exact hr.room _ (by simp)
      | spare=>exact hr.yy
      | agg hq=>exact hr.Pc hq
 refine ⟨h1.rel.low hl,?_⟩
 have h2:=h1.tok
 unfold Tok at h2 ⊢
 split
 · rename_i i sz
   simp only at h2
   refine ⟨?_,h2.2⟩
   simpa [V.uV,Nat.blt_eq] using ht
 · trivial
def MG (n:Nat):List (Fn × List V × List V)->Bool
 | []=>true
 | (_,a,b)::r=>V.il n a &&V.il n b &&MG n r
theorem ae {m:Nat} {t t':List V} {ob c6:List af} {nt k8:Nat} {df:List (Fn × List V × List V)} (h1:aq t t') (h2:ic ob c6) (h3:Nat.ble k8 nt=true) (h4:Nat.ble m c6.length=true)
 (h5:(V.il c6.length t' &&JW c6.length c6 &&rF k8 t' &&tp k8 c6 &&MG c6.length df)=true):aB m ⟨t,ob,nt,df⟩ ⟨t',c6,k8,df⟩:=by
 intro c g w a hm hs
 simp only [Bool.and_eq_true] at h5
 obtain ⟨⟨⟨⟨l1,l2⟩,l3⟩,l4⟩,l5⟩:=h5
 have h3:=Nat.le_of_ble_eq_true h3
 have h4:=Nat.le_of_ble_eq_true h4
 refine ⟨g,⟨hs.wi.os,hs.wi.tape,hs.wi.output,hs.wi.size,hs.wi.jG,Nat.le_trans hm h4,?_,?_,?_,?_,?_,hs.wi.i1,hs.wi.i2,hs.wi.i3,?_,?_,?_,?_,hs.wi.i6⟩,⟨?_,?_,hs.ti.gl⟩,?_⟩
 · intro o y hy
   obtain ⟨x,hx,hw⟩:=h2.get hy
   have ho:=hs.wi.obj o x hx
   cases hw with
   | none=>trivial
   | eq h=>
     subst h
     cases x with
     | none=>trivial
     | map es=>exact ho
     | buf m z l=>exact ho
     | cells wr T cs=>
       obtain ⟨arr,a1,a2,a3⟩:=ho
       exact ⟨arr,a1,a2,fun k v c hv hc=>⟨(VW.eq rfl).vt (a3 k v c hv hc).1 (dS (uW l2 hy) hv) (jU (nG l4 hy) hv),(a3 k v c hv hc).2⟩⟩
   | av=>exact ho
   | row h=>
     obtain ⟨h0,h⟩:=lV h
     obtain ⟨arr,a1,a2,a3⟩:=ho
     refine .inr ⟨arr,_,.of a1,by simp,by rw [←a2];simp,fun x hx=> ?_,fun k v c hv hc=> ?_⟩
     · obtain ⟨k,n,rfl⟩:=h x hx
       exact ⟨rfl,rfl⟩
     · rw [kH h] at hv
       have:=a3 k v c hv hc
       obtain ⟨q,n,rfl⟩:=h v (List.mem_of_getElem? hv)
       exact ⟨this.1.rel.low rfl,this.2⟩
   | cells h=>
     obtain ⟨arr,a1,a2,a3⟩:=ho
     refine ⟨arr,a1,by rw [←h.length];exact a2,fun k v c hv hc=> ?_⟩
     obtain ⟨u,hu,hw⟩:=h.get hv
     exact ⟨hw.vt (a3 k u c hu hc).1 (dS (uW l2 hy) hv) (jU (nG l4 hy) hv),(a3 k u c hu hc).2⟩
 · intro o y hy hn
   obtain ⟨x,hx,hw⟩:=h2.get hy
   exact hs.wi.lt o x hx (hw.real hn)
 · intro o o' y y' hy Dj hn UF
   obtain ⟨x,hx,hw⟩:=h2.get hy
   obtain ⟨x',p5,oS⟩:=h2.get Dj
   exact hs.wi.inj o o' x x' hx p5 (hw.real hn) (oS.real UF)
 · intro o y ho hy Jf
   obtain ⟨x,hx,hw⟩:=h2.get hy
   exact hs.wi.sH o x ho hx (hw.mv Jf)
 · intro o y hy hn
   obtain ⟨x,hx,hw⟩:=h2.get hy
   exact hs.wi.new o x hx (hw.real hn)
 · intro o T cs k hy
   obtain ⟨x,hx,hw⟩:=h2.get hy
   cases hw with
   | eq h=>subst h;exact hs.wi.i4 o _ _ k hx
   | cells h=>exact hs.wi.i4 o _ _ k hx
 · intro o y k hy wc
   obtain ⟨x,hx,hw⟩:=h2.get hy
   rcases hw.loose wc with e | ⟨T,cs,rfl⟩
   · exact hs.wi.i5 o x k hx e
   · exact hs.wi.i4 o _ _ k hx
 · intro i hi hn
   obtain ⟨f1,f2,f3,f4⟩:=hs.wi.f1 i (Nat.lt_of_lt_of_le hi h3) hn
   refine ⟨f1,f2,f3,fun o y hy wK=> ?_⟩
   obtain ⟨x,hx,hw⟩:=h2.get hy
   exact f4 o x hx (hw.real wK)
 · intro i j hi hj
   exact hs.wi.f2 i j (Nat.lt_of_lt_of_le hi h3) (Nat.lt_of_lt_of_le hj h3)
 · rw [←h1.length];exact hs.ti.size
 · intro k v x hv hx
   obtain ⟨u,hu,hw⟩:=h1.get hv
   exact hw.vt (hs.ti.rel k u x hu hx) (dS l1 hv) (jU l3 hv)
 · have:=hs.di
   simp only at this ⊢
   generalize a.defers=ds at this
   clear h1 h2 l1 l2 l3 l4 hs h3 h4
   induction this with
   | nil=>exact .nil
   | @cons d x ds xs h _ ih=>
     obtain ⟨f,p,q⟩:=x
     simp only [MG,Bool.and_eq_true] at l5
     obtain ⟨cap,e1,e2,e3,e4,e5⟩:=h
     exact .cons ⟨cap,e1,e2,e3,fun k v c hv hc=>(e4 k v c hv hc).low (dS l5.1.1 hv),fun k v c hv hc=>(e5 k v c hv hc).low (dS l5.1.2 hv)⟩ (ih l5.2)
def St.qm (m:Nat) (src:List Nat):St->(St->Prop)->Prop
 | ⟨t,ob,nt,df⟩,K=>
   let gone:=rG (upto ob.length 0) src
   fg gone t ob df fun t ob=>
   match nh src &&Nat.ble m src.length &&DG ob src src &&DH ob m 0 src with
   | false=>False
   | true=>
   cd (m6 fun i=>dR i src 0) t fun t=>
   qn ob m src 0 src fun ob=>
   MH (fun i=>dR i src 0) df fun df=>K ⟨t,ob,nt,df⟩
where
 rG:List Nat->List Nat->List Nat
  | [],_=>[]
  | i::r,src=>match kZ i src with | true=>rG r src | false=>i::rG r src
 DG (ob:List af) (src:List Nat):List Nat->Bool
  | []=>true
  | i::r=>Nat.blt i ob.length &&pS src (((ob[i]?).map fU).getD []) &&DG ob src r
 DH (ob:List af) (m:Nat):Nat->List Nat->Bool
  | _,[]=>true
  | j,i::r=>(!Nat.blt j m || Nat.beq i j || (match ob[i]? with | some (.buf _ _ _ _)=>true | _=>false)) &&DH ob m (j+1) r
 qn (ob:List af) (m:Nat) (src:List Nat):Nat->List Nat->(List af->Prop)->Prop
  | _,[],K=>K []
  | j,i::r,K=>cA ob i fun o=>(match Nat.beq i j || !Nat.blt j m,o with
    | false,.buf _ z l ty=>qn ob m src (j+1) r fun os=>K (.buf true z l ty::os)
    | _,o=>iU (fun i=>dR i src 0) o fun o=>qn ob m src (j+1) r fun os=>K (o::os))
 MH (f:Nat->Nat):List (Fn × List V × List V)->(List (Fn × List V × List V)->Prop)->Prop
  | [],K=>K []
  | (g,a,b)::r,K=>cd (m6 f) a fun a=>cd (m6 f) b fun b=>MH f r fun r=>K ((g,a,b)::r)
theorem pA {src:List Nat}: ∀ {l:List Nat} {i:Nat},i∈l->i ∉ St.qm.rG l src->i∈src
 | j::r,i,h,hn=>by
   simp only [St.qm.rG] at hn
   cases hm:kZ j src with
   | true=>
     rw [hm] at hn
     rcases List.mem_cons.1 h with rfl | h
     · exact eI.1 hm
     · exact pA h hn
   | false=>
     rw [hm] at hn
     simp only [List.mem_cons,not_or] at hn
     rcases List.mem_cons.1 h with rfl | h
     · exact absurd rfl hn.1
     · exact pA h hn.2
theorem At: ∀ {n i k:Nat},i<=k->k<i+n->k∈upto n i
 | 0,i,k,h,h'=>by omega
 | n+1,i,k,h,h'=>by
   simp only [upto,List.mem_cons]
   by_cases e:k=i
   · exact .inl e
   · exact .inr (At (by omega) (by omega))
theorem xf {ob:List af} {src:List Nat}: ∀ {l:List Nat},St.qm.DG ob src l=true-> ∀i∈l,i<ob.length/\ ∀x,ob[i]? =some x-> ∀o∈fU x,o∈src
 | j::r,h,i,hi=>by
   simp only [St.qm.DG,Bool.and_eq_true] at h
   rcases List.mem_cons.1 hi with rfl | hi
   · exact ⟨by simpa [Nat.blt_eq] using h.1.1,fun x hx o ho=>gT h.1.2 o (by rw [hx];simpa using ho)⟩
   · exact xf h.2 i hi
theorem xg {ob:List af} {m:Nat}: ∀ {l:List Nat} {j0:Nat},St.qm.DH ob m j0 l=true-> ∀(j i:Nat),l[j]? =some i->j0+j<m->i=j0+j\/ ∃b z l ty,ob[i]? =some (.buf b z l ty)
 | k::r,j0,h,j,i,hj,hm=>by
   simp only [St.qm.DH,Bool.and_eq_true,Bool.or_eq_true,Bool.not_eq_true'] at h
   cases j with
   | zero=>
     simp at hj;subst hj
     rcases h.1 with (h1 | h1) | h1
     · have:Nat.blt j0 m=true:=by rw [Nat.blt_eq];omega
       rw [this] at h1;cases h1
     · exact .inl (by have:=Nat.eq_of_beq_eq_true h1;omega)
     · right
       split at h1
       · rename_i b z l ty e;exact ⟨b,z,l,ty,e⟩
       · cases h1
   | succ j=>
     rcases xg h.2 j i (by simpa using hj) (by omega) with h | h
     · exact .inl (by omega)
     · exact .inr h
theorem sh {ob:List af} {m:Nat} {src:List Nat}: ∀ {l:List Nat} {j0:Nat} {K:List af->Prop},St.qm.qn ob m src j0 l K-> ∃sub,sub.length=l.length/\
 (∀(j i:Nat),l[j]? =some i-> ∃o,ob[i]? =some o/\((sub[j]? =some (eN (fun i=>dR i src 0) o)/\(i≠j0+j->j0+j<m-> ∀b z l ty,o≠ .buf b z l ty))\/ ∃b z l ty,o= .buf b z l ty/\sub[j]? =some (.buf true z l ty)))/\K sub
 | [],_,K,h=>⟨[],rfl,by simp,h⟩
 | k::r,j0,K,h=>by
   obtain ⟨o,h0,h⟩:=aX h
   have step: ∀ {o':af},(St.qm.qn ob m src (j0+1) r fun os=>K (o'::os))->((o'=eN (fun i=>dR i src 0) o/\(k≠j0->j0<m-> ∀b z l ty,o≠ .buf b z l ty))\/ ∃b z l ty,o= .buf b z l ty/\o'= .buf true z l ty)-> ∃sub,sub.length=(k::r).length/\
    (∀(j i:Nat),(k::r)[j]? =some i-> ∃o,ob[i]? =some o/\((sub[j]? =some (eN (fun i=>dR i src 0) o)/\(i≠j0+j->j0+j<m-> ∀b z l ty,o≠ .buf b z l ty))\/ ∃b z l ty,o= .buf b z l ty/\sub[j]? =some (.buf true z l ty)))/\K sub:=fun {o'} h hc=>by
    obtain ⟨sub,g1,g2,g3⟩:=sh h
    refine (⟨o'::sub,by simp [g1],fun j i hj=> ?_,g3⟩: ∃sub,sub.length=(k::r).length/\
     (∀(j i:Nat),(k::r)[j]? =some i-> ∃o,ob[i]? =some o/\((sub[j]? =some (eN (fun i=>dR i src 0) o)/\(i≠j0+j->j0+j<m-> ∀b z l ty,o≠ .buf b z l ty))\/ ∃b z l ty,o= .buf b z l ty/\sub[j]? =some (.buf true z l ty)))/\K sub)
    cases j with
    | zero=>
      simp at hj;subst hj
      refine ⟨o,h0,?_⟩
      rcases hc with ⟨h1,h2⟩ | ⟨b,z,l,ty,h1,h2⟩
      · exact .inl ⟨by simp [h1],h2⟩
      · exact .inr ⟨b,z,l,ty,h1,by simp [h2]⟩
    | succ j=>
      obtain ⟨o1,q1,q2⟩:=g2 j i (by simpa using hj)
      refine ⟨o1,q1,?_⟩
      rcases q2 with ⟨q2,q3⟩ | ⟨b,z,l,ty,q2,q3⟩
      · exact .inl ⟨by simpa using q2,fun a b=>q3 (by omega) (by omega)⟩
      · exact .inr ⟨b,z,l,ty,q2,by simpa using q3⟩
   split at h
   · exact step h (.inr ⟨_,_,_,_,rfl,rfl⟩)
   · rename_i bZ
     refine step (oh h) (.inl ⟨rfl,fun h1 h2 b z l ty e=> ?_⟩)
     subst e
     refine bZ b z l ty ?_ rfl
     have e1:Nat.beq k j0=false:=by cases hb:Nat.beq k j0 with
      | true=>exact absurd (Nat.eq_of_beq_eq_true hb) h1
      | false=>rfl
     have e2:Nat.blt j0 m=true:=by rw [Nat.blt_eq];exact h2
     simp [e1,e2]
theorem Au {f:Nat->Nat}: ∀ {df:List (Fn × List V × List V)} {K:List (Fn × List V × List V)->Prop},St.qm.MH f df K->K (df.map fun x=>(x.1,gO f x.2.1,gO f x.2.2))
 | [],K,h=>h
 | (g,a,b)::r,K,h=>Au (df:=r) (gU (gU h))
theorem Hc {g g':G} {w:World} {n n':Nat} {ms:List Nat} {f:Nat->Nat} (hm: ∀v x,aw g.bs g.I w n v x->(∀o∈aW v,o ∉ ms)->aw g'.bs g'.I w n' (gM f v) x) {ds:List Deferred} {df:List (Fn × List V × List V)} (h:gI g w n ds df) (hd:gP ms df=true):
 gI g' w n' ds (df.map fun x=>(x.1,gO f x.2.1,gO f x.2.2)):=by
 induction h with
 | nil=>exact .nil
 | @cons d x ds xs h1 _ ih=>
   obtain ⟨f0,p,q⟩:=x
   simp only [gP,Bool.and_eq_true,Bool.not_eq_true'] at hd
   obtain ⟨⟨d1,d2⟩,d3⟩:=hd
   obtain ⟨Gs,e1,e2,e3,e4,e5⟩:=h1
   refine .cons ⟨Gs,e1,by rw [bU];exact e2,by rw [bU];exact e3,fun k v y hv hy=> ?_,fun k v y hv hy=> ?_⟩ (ih d3)
   · rw [c8] at hv
     obtain ⟨u,hu,rfl⟩:=Option.map_eq_some_iff.1 hv
     exact hm u y (e4 k u y hu hy) fun o ho=>jr.1 d1 o (bY hu ho)
   · rw [c8] at hv
     obtain ⟨u,hu,rfl⟩:=Option.map_eq_some_iff.1 hv
     exact hm u y (e5 k u y hu hy) fun o ho=>jr.1 d2 o (bY hu ho)
theorem fH {m:Nat} {src:List Nat} {s:St} {K:St->Prop} (h:St.qm m src s K): ∃s',aB m s s'/\K s':=by
 obtain ⟨t,ob,nt,df⟩:=s
 simp only [St.qm] at h
 obtain ⟨Ji,h⟩:=iz h
 generalize Pd:St.qm.rG (upto ob.length 0) src=gone at h Ji
 split at h
 case h_1=>exact h.elim
 rename_i uD
 simp only [Bool.and_eq_true] at uD
 obtain ⟨⟨⟨kX,oK⟩,c_⟩,ki⟩:=uD
 have kX:=gR kX
 have oK:=Nat.le_of_ble_eq_true oK
 have c_:=xf c_
 have ki:=xg ki
 obtain ⟨sub,hl,iA,h⟩:=sh (gU h)
 have h:=Au h
 refine ⟨_,fun c g w a hm hs=> ?_,h⟩
 have zW: ∀v x,aw g.bs g.I w ob.length v x->(∀o∈aW v,o ∉ gone)-> ∀o∈aW v,o<ob.length->o∈src:=fun v x hv hp o ho aJ=>by
  refine pA (l:=upto ob.length 0) (At (by omega) (by omega)) ?_
  rw [Pd];exact hp o ho
 have ze:a_ c g w (ob.map (cW gone)) nt:=by
  have aD: ∀(i:Nat) y,(ob.map (cW gone))[i]? =some y-> ∃x,ob[i]? =some x/\y=cW gone x/\x.real=y.real/\x.loose=y.loose/\x.mv=y.mv:=fun i y hy=>by
   rw [List.getElem?_map] at hy
   obtain ⟨x,hx,rfl⟩:=Option.map_eq_some_iff.1 hy
   exact ⟨x,hx,rfl,by cases x<;>rfl,by cases x<;>rfl,by cases x<;>rfl⟩
  have cQ:=hs.wi
  refine ⟨cQ.os,cQ.tape,cQ.output,cQ.size,cQ.jG,by simpa using cQ.len,?_,?_,?_,?_,?_,cQ.i1,cQ.i2,cQ.i3,?_,?_,?_,cQ.f2,cQ.i6⟩
  · intro i y hy
    obtain ⟨x,hx,rfl,_⟩:=aD i y hy
    rw [List.length_map]
    have:=cQ.obj i x hx
    cases x with
    | cells wr T cs=>
      obtain ⟨arr,a1,a2,a3⟩:=this
      refine ⟨arr,a1,by simp [a2],fun k v c hv hc=> ?_⟩
      rw [List.getElem?_map] at hv
      obtain ⟨u,hu,rfl⟩:=Option.map_eq_some_iff.1 hv
      refine ⟨?_,(a3 k u c hu hc).2⟩
      rcases ew gone u with e | ⟨e,_⟩
      · rw [e];exact ⟨.undef,trivial⟩
      · rw [e];exact (a3 k u c hu hc).1
    | _=>exact this
  · intro i y hy hr
    obtain ⟨x,hx,rfl,e,_⟩:=aD i y hy
    exact cQ.lt i x hx (e▸hr)
  · intro i j y z hy hz hr tf
    obtain ⟨x,hx,rfl,e,_⟩:=aD i y hy
    obtain ⟨x',p5,rfl,e',_⟩:=aD j z hz
    exact cQ.inj i j x x' hx p5 (e▸hr) (e'▸tf)
  · intro i y hi hy Jf
    obtain ⟨x,hx,rfl,_,_,e⟩:=aD i y hy
    exact cQ.sH i x hi hx (e▸Jf)
  · intro i y hy hr
    obtain ⟨x,hx,rfl,e,_⟩:=aD i y hy
    exact cQ.new i x hx (e▸hr)
  · intro i T cs k hy
    obtain ⟨x,hx,e,_⟩:=aD i _ hy
    cases x with
    | cells wr U ds=>simp [cW] at e;obtain ⟨rfl,_,_⟩:=e;exact cQ.i4 i _ _ k hx
    | _=>simp [cW] at e
  · intro i y k hy wc
    obtain ⟨x,hx,rfl,_,e,_⟩:=aD i y hy
    exact cQ.i5 i x k hx (e▸wc)
  · intro i hi hn
    obtain ⟨f1,f2,f3,f4⟩:=cQ.f1 i hi hn
    refine ⟨f1,f2,f3,fun j y hy hr=> ?_⟩
    obtain ⟨x,hx,rfl,e,_⟩:=aD j y hy
    exact f4 j x hx (e▸hr)
 rw [List.length_map] at c_
 have RJ:=a_.Tg ze kX (sub:=sub) (f:=fun i=>dR i src 0) (nD kX) hl (fun i hi x hx=>(c_ i hi).2 x hx)
  (fun j i hj=>by
    obtain ⟨o,h1,h2⟩:=iA j i hj
    refine ⟨o,h1,?_⟩
    rcases h2 with ⟨h2,_⟩ | ⟨b,z,l,ty,h2,h3⟩
    · exact .inl h2
    · exact .inr ⟨b,z,l,ty,h2,h3⟩)
  (fun j hj=>by
    have aJ:j<src.length:=by omega
    have Gw:src[j]? =some src[j]:=List.getElem?_eq_getElem aJ
    by_cases e:src[j]=j
    · left;rw [Gw,e]
    · right
      rcases ki j _ Gw (by omega) with h | ⟨b,z,l,ty,h⟩
      · exact absurd (by omega) e
      · obtain ⟨o,h1,h2⟩:=iA j _ Gw
        rw [h] at h1;cases h1
        rcases h2 with ⟨_,h2⟩ | ⟨b',z',l',NZ,h2,h3⟩
        · exact absurd rfl (h2 (by omega) (by omega) b z l ty)
        · exact ⟨z',l',NZ,h3⟩) (by omega)
 have zd: ∀v x,VT g w ob.length nt v x->(∀o∈aW v,o ∉ gone)->VT (nr g src) w sub.length nt (gM (fun i=>dR i src 0) v) x:=fun v x hv hp=>by
  refine ⟨hv.rel.gM fun o ho aJ=> ?_,?_⟩
  · obtain ⟨j,hj⟩:=List.mem_iff_getElem?.1 (zW v x hv.rel hp o ho aJ)
    simp only [nD kX j o hj,hl]
    exact ⟨(List.getElem?_eq_some_iff.1 hj).1,by simp [nr,hj]⟩
  · have:=hv.tok
    cases v<;>first | exact this | (simp only [gM,Tok])
 refine ⟨nr g src,RJ,⟨by rw [bU];simp [hs.ti.size],fun k v x hv hx=> ?_,hs.ti.gl⟩,?_⟩
 · rw [c8,List.getElem?_map] at hv
   obtain ⟨u,hu,rfl⟩:=Option.map_eq_some_iff.1 hv
   obtain ⟨u',ub,rfl⟩:=Option.map_eq_some_iff.1 hu
   rcases ew gone u' with e | ⟨e,hp⟩
   · rw [e];exact ⟨.undef,trivial⟩
   · rw [e];exact zd u' x (hs.ti.rel k u' x ub hx) hp
 · exact Hc (g:=g) (g':=nr g src) (n:=ob.length) (n':=sub.length) (fun v x hv hp=>hv.gM fun o ho aJ=>by
    obtain ⟨j,hj⟩:=List.mem_iff_getElem?.1 (zW v x hv hp o ho aJ)
    have e:dR o src 0=j:=nD kX j o hj
    refine ⟨by show dR o src 0<sub.length;rw [e,hl];exact (List.getElem?_eq_some_iff.1 hj).1,?_⟩
    show (nr g src).bs (dR o src 0)=g.bs o
    rw [e];simp [nr,hj]) hs.di Ji
theorem E_ {m i sz:Nat} {t:List V} {ob:List af} {nt:Nat} {df:List (Fn × List V × List V)} {l:List V} (hi:t[i]? =some (.sl l .ex)) (cg:0<sz) (hl: ∀x∈l,x.cells.length=sz):
 aB m ⟨t,ob,nt,df⟩ ⟨t.set i (.sl l (.tok nt sz)),ob,nt+1,df⟩:=by
 intro c g w a hm hs
 have cQ:=hs.wi.more ⟨0,0,0⟩ (fun h=>absurd h (by simp))
 have aJ:i<a.tmps.size:=by rw [←hs.ti.size];exact (List.getElem?_eq_some_iff.1 hi).1
 refine ⟨_,cQ,⟨by simp [hs.ti.size],fun k v x hv hx=> ?_,hs.ti.gl⟩,hs.di.same rfl rfl⟩
 rcases aY hv with ⟨rfl,rfl⟩ | ⟨_,hv⟩
 · have h0:=hs.ti.rel i _ x hi hx
   refine ⟨h0.rel.room _ (by simp),Nat.lt_succ_self nt,cg,hl,?_⟩
   have h1:=h0.rel
   cases h1 with
   | slnil=>exact ⟨_,_,_,rfl,.inl rfl⟩
   | sl u h1 h2 h3=>exact ⟨_,_,_,rfl,.inl (h3 rfl)⟩
 · have:=hs.ti.rel k v x hv hx
   exact ⟨this.rel,(this.tok.db this.tok.nt fun j hj=>by simp [G.bV,hj]).ext (Nat.le_succ nt) fun _ _=>rfl⟩
theorem aB.trans {m:Nat} {s s' Jk:St} (h:aB m s s') (k:aB m s' Jk):aB m s Jk:=fun c g w a hm hs=>by
 obtain ⟨g',iw⟩:=h c g w a hm hs
 exact k c g' w a hm iw
theorem aB.refl {m:Nat} {s:St}:aB m s s:=fun c g w a hm hs=>⟨g,hs⟩
end VL
namespace VL
open Go
theorem ah.args {P:Program} {f:FuncId} {args cI:List V} {ob:List af} {K:Out->List af->Prop} (hw:aq args cI) (hl:(V.il ob.length cI &&rF 0 cI)=true) (h:ah P f cI ob K):ah P f args ob K:=by
 simp only [Bool.and_eq_true] at hl
 refine .shut fun w g b9 cQ cg hr we=>h.open w g b9 cQ (by rw [←hw.length];exact cg) (fun k v x hv hx=> ?_) we
 obtain ⟨u,hu,UG⟩:=hw.get hv
 exact UG.vt (hr k u x hu hx) (dS hl.1 hv) (jU hl.2 hv)
def Out.val:Out->V
 | .ret v=>v
 | .dw v=>v
def Out.with:Out->V->Out
 | .ret _,v=> .ret v
 | .dw _,v=> .dw v
theorem ah.dv {P:Program} {f:FuncId} {args:List V} {ob:List af} {K:Out->List af->Prop}
 (h:ah P f args ob fun out sub=>match out with
   | .ret v=> ∃v' iZ,aB ob.length ⟨[v],sub,0,[]⟩ ⟨[v'],iZ,0,[]⟩/\K (.ret v') iZ
   | .dw v=>K (.dw v) sub):ah P f args ob K:=by
 refine .shut fun w g b9 cQ cg hr we=>(h.open w g b9 cQ cg hr we).mono fun e w' ⟨out,sub,g',hk,MI,he⟩=> ?_
 cases out with
 | dw v=>exact ⟨_,_,_,hk,MI,he⟩
 | ret v=>
   obtain ⟨x,rfl⟩: ∃x,e= .returned x:=by
    cases e with
    | returned x=>exact ⟨x,rfl⟩
    | _=>exact he.elim
   obtain ⟨v',iZ,hw,hk⟩:=hk
   have hs:cf ⟨w,ob.length,g.bs,g.I,ma g ob⟩ g' w' ⟨#[x],[]⟩ ⟨[v],sub,0,[]⟩:=⟨MI,⟨rfl,fun k u y hu hy=>by
    cases k with
    | zero=>simp at hu hy;subst hu;subst hy;exact he
    | succ k=>simp at hu,we.out MI rfl⟩,.nil⟩
   obtain ⟨g2,F6⟩:=hw _ _ _ _ (Nat.le_refl _) hs
   exact ⟨_,_,_,hk,F6.wi,F6.ti.rel 0 _ _ rfl rfl⟩
mutual
def jb (i z:Nat) (L:List V) (sp:Bool):V->(V->Prop)->Prop
 | .bX o z' lo n c,K=>match Nat.beq o i with
   | false=>K (.bX o z' lo n c)
   | true=>(match Nat.beq z' z with
     | true=>lo+c<=L.length/\(match sp with
       | true=>0<c/\K (.spare ((L.drop lo).take n) ((L.drop (lo+n)).take (c - n)))
       | false=>K (.sl ((L.drop lo).take n) .no))
     | false=>K .undef)
 | .agg l,K=>si i z L sp l fun l=>K (.agg l)
 | .aQ l,K=>si i z L sp l fun l=>K (.aQ l)
 | v,K=>(V.forget [i] v).c7 K
def si (i z:Nat) (L:List V) (sp:Bool):List V->(List V->Prop)->Prop
 | [],K=>K []
 | v::r,K=>jb i z L sp v fun v=>si i z L sp r fun r=>K (v::r)
end
def MJ (i z:Nat) (L:List V) (sp:Bool):af->(af->Prop)->Prop
 | .cells wr T cs,K=>si i z L sp cs fun cs=>K (.cells wr T cs)
 | o,K=>K o
def St.MK (i:Nat) (sp:Bool):St->(St->Prop)->Prop
 | ⟨t,ob,nt,df⟩,K=>cA ob i fun o=>match o with
   | .buf _ z L _=>(match gP [i] df with
     | true=>si i z L sp t fun t=>cd (MJ i z L sp) ob fun ob=>fw ob i (.buf true z []) fun ob=>K ⟨t,ob,nt,df⟩
     | false=>False)
   | _=>False
section
variable {c:Ctx} {g:G} {w:World} {ob:List af} {nt:Nat}
structure Row (g:G) (w:World) (i z:Nat) (L:List V):Prop where
 row:L=[]\/ ∃(arr:Array Value) (T:TypeId),Hp w (g.bs i) arr T (some 0)/\arr.size=L.length*z/\(∀x∈L,x.cells.length=z/\x.cells.all V.aE=true)/\
  (∀(k:Nat) v c,(L.flatMap V.cells)[k]? =some v->arr[k]? =some c->aw g.bs g.I w 0 v c)/\ ∀k,k<L.length*z->g.I (g.bs i) k
theorem Cm {n i z lo m c:Nat} {L:List V} {sp:Bool} {x:Value} (hr:Row g w i z L) (h:aw g.bs g.I w n (.bX i z lo m c) x) (hb:lo+c<=L.length):
 (0<c->aw g.bs g.I w n (.spare ((L.drop lo).take m) ((L.drop (lo+m)).take (c - m))) x)/\aw g.bs g.I w n (.sl ((L.drop lo).take m) .no) x:=by
 cases h with | @bX _ _ _ _ _ _ ad aJ hle ha hf=>
 have oK:((L.drop lo).take m).length=m:=by simp;omega
 have nC:((L.drop (lo+m)).take (c - m)).length=c - m:=by simp;omega
 have oL:(L.drop lo).take m++(L.drop (lo+m)).take (c - m)=(L.drop lo).take c:=by
  rw [show L.drop (lo+m)=(L.drop lo).drop m by rw [List.drop_drop]]
  rw [show c=m+(c - m) by omega,List.take_add]
  simp
 rcases Nat.eq_zero_or_pos c with hc | hc
 · subst hc
   have Je:m=0:=by omega
   subst Je
   refine ⟨fun h=>absurd h (by omega),?_⟩
   rw [List.take_zero]
   rcases hf with rfl | ⟨b,k,rfl⟩
   · exact .slnil
   · exact .sl (sz:=0) (fun _=>undef) rfl (Nat.le_refl _) (by simp) (by simp) (by simp) (by simp)
 · obtain rfl:=ha.resolve_left (by omega)
   have bZ:L≠[]:=fun e=>by rw [e,List.length_nil] at hb;omega
   obtain ⟨arr,T,a1,a2,a3,a4,a5⟩:=hr.row.resolve_left bZ
   have hz: ∀y∈L,y.cells.length=z:=fun y hy=>(a3 y hy).1
   have BJ:=cP hz
   have key: ∀ {q:Nat},q<=c-> ∀(k:Nat) v,(((L.drop lo).take q).flatMap V.cells)[k]? =some v->
    (w.cell? ⟨g.bs i,lo*z+k,none⟩=some (arr.getD (lo*z+k) undef)/\g.I (g.bs i) (lo*z+k))/\aw g.bs g.I w 0 v (arr.getD (lo*z+k) undef):=fun {q} hq k v hk=>by
    have UH:=cP (l:=(L.drop lo).take q) (z:=z) fun y hy=>hz y (List.mem_of_mem_drop (List.mem_of_mem_take hy))
    have tR:k<q*z:=by
     have:=(List.getElem?_eq_some_iff.1 hk).1
     rw [UH,List.length_take,List.length_drop,Nat.min_eq_left (by omega)] at this
     exact this
    have hmul:lo*z+q*z<=arr.size:=by rw [a2, ←Nat.add_mul];exact Nat.mul_le_mul_right z (by omega)
    have EM:lo*z+k<arr.size:=by omega
    rw [lb (sz:=z) (fun y hy=>a3 y (List.mem_of_mem_drop hy)),qZ a3,List.getElem?_take,if_pos tR,List.getElem?_drop] at hk
    have hg:arr.getD (lo*z+k) undef=arr[lo*z+k]:=by simp [Array.getD,EM]
    refine ⟨⟨by simp [a1.cell,Array.getD,EM],a5 _ (by omega)⟩,?_⟩
    rw [hg]
    exact a4 _ v _ hk (by simp [EM])
   refine ⟨fun _=> ?_,?_⟩
   · refine .spare (sz:=z) (fun k=>arr.getD (lo*z+k) undef) oK.symm (by rw [oK,nC];omega) (fun y hy=> ?_) (fun k v hk=> ?_) (fun k v hk=> ?_)
     · rw [oL] at hy;exact a3 y (List.mem_of_mem_drop (List.mem_of_mem_take hy))
     · rw [oL] at hk;exact (key (Nat.le_refl c) k v hk).1
     · rw [oL] at hk;exact (key (Nat.le_refl c) k v hk).2
   · exact .sl (sz:=z) (fun k=>arr.getD (lo*z+k) undef) oK.symm hle (by simp) (fun y hy=>a3 y (List.mem_of_mem_drop (List.mem_of_mem_take hy)))
      (fun k v hk=>(key hle k v hk).1) (fun k v hk=>(key hle k v hk).2)
theorem Cn {n:Nat} {ms:List Nat} {v:V} {x:Value} (h:aw g.bs g.I w n v x):aw g.bs g.I w n (V.forget ms v) x:=by
 rcases ew ms v with e | ⟨e,_⟩<;>rw [e]
 · exact .undef
 · exact h
theorem cn {i z:Nat} {L:List V} {sp:Bool} {v:V} {K:V->Prop} (he: ∀K,jb i z L sp v K=(V.forget [i] v).c7 K) (h:jb i z L sp v K): ∃v',(∀g w n,Row g w i z L-> ∀x,aw g.bs g.I w n v x->aw g.bs g.I w n v' x)/\(v'.cB=true\/v'=v)/\K v':=by
 rw [he,bk] at h
 refine ⟨_,fun g w n _ x hx=>Cn hx,?_,h⟩
 rcases ew [i] v with e | ⟨e,_⟩<;>rw [e]
 · exact .inl rfl
 · exact .inr rfl
mutual
theorem Co {i z:Nat} {L:List V} {sp:Bool}: ∀(v:V) {K:V->Prop},jb i z L sp v K-> ∃v',(∀g w n,Row g w i z L-> ∀x,aw g.bs g.I w n v x->aw g.bs g.I w n v' x)/\(v'.cB=true\/v'=v)/\K v'
 | .bX o z' lo m c,K,h=>by
   unfold jb at h
   split at h
   · exact ⟨_,fun _ _ _ _ _ h=>h,.inr rfl,h⟩
   · rename_i ho
     have ho:=Nat.eq_of_beq_eq_true ho
     subst ho
     split at h
     · rename_i hz
       have hz:=Nat.eq_of_beq_eq_true hz
       subst hz
       obtain ⟨hb,h⟩:=h
       split at h
       · exact ⟨_,fun g w n hr x hx=>(Cm (sp:=true) hr hx hb).1 h.1,.inl rfl,h.2⟩
       · exact ⟨_,fun g w n hr x hx=>(Cm (sp:=true) hr hx hb).2,.inl rfl,h⟩
     · exact ⟨_,fun _ _ _ _ _ _=> .undef,.inl rfl,h⟩
 | .agg l,K,h=>by
   unfold jb at h
   obtain ⟨l',h1,h2,h3⟩:=iD l h
   refine ⟨_,fun g w n hr x hx=> ?_,.inl rfl,h3⟩
   cases hx with | agg hl hh=>
   refine .agg (by rw [h1];exact hl) fun k v y hv hy=> ?_
   obtain ⟨u,hu,q,_⟩:=h2 k v hv
   exact q g w n hr y (hh k u y hu hy)
 | .aQ l,K,h=>by
   unfold jb at h
   obtain ⟨l',h1,h2,h3⟩:=iD l h
   refine ⟨_,fun g w n hr x hx=> ?_,.inl rfl,h3⟩
   cases hx with | aQ hl hh=>
   refine .aQ (by rw [h1];exact hl) fun k v y hv hy=> ?_
   obtain ⟨u,hu,q,_⟩:=h2 k v hv
   exact q g w n hr y (hh k u y hu hy)
 | .undef,K,h=>cn (fun K=>by unfold jb;rfl) h
 | .int _ _,K,h=>cn (fun K=>by unfold jb;rfl) h
 | .bool _,K,h=>cn (fun K=>by unfold jb;rfl) h
 | .str _,K,h=>cn (fun K=>by unfold jb;rfl) h
 | .ptr _ _,K,h=>cn (fun K=>by unfold jb;rfl) h
 | .gH,K,h=>cn (fun K=>by unfold jb;rfl) h
 | .dp _,K,h=>cn (fun K=>by unfold jb;rfl) h
 | .sl _ _,K,h=>cn (fun K=>by unfold jb;rfl) h
 | .pM _,K,h=>cn (fun K=>by unfold jb;rfl) h
 | .spare _ _,K,h=>cn (fun K=>by unfold jb;rfl) h
 | .fn _ _ _,K,h=>cn (fun K=>by unfold jb;rfl) h
 | .ig,K,h=>cn (fun K=>by unfold jb;rfl) h
 | .jl _ _,K,h=>cn (fun K=>by unfold jb;rfl) h
 | .gL,K,h=>cn (fun K=>by unfold jb;rfl) h
 | .mp _,K,h=>cn (fun K=>by unfold jb;rfl) h
 | .ij,K,h=>cn (fun K=>by unfold jb;rfl) h
 | .bp _ _ _ _,K,h=>cn (fun K=>by unfold jb;rfl) h
theorem iD {i z:Nat} {L:List V} {sp:Bool}: ∀(l:List V) {K:List V->Prop},si i z L sp l K-> ∃l',l'.length=l.length/\(∀(k:Nat) v',l'[k]? =some v'-> ∃v,l[k]? =some v/\(∀g w n,Row g w i z L-> ∀x,aw g.bs g.I w n v x->aw g.bs g.I w n v' x)/\(v'.cB=true\/v'=v))/\K l'
 | [],K,h=>⟨[],rfl,by simp,by unfold si at h;exact h⟩
 | v::r,K,h=>by
   unfold si at h
   obtain ⟨v',a1,a2,h⟩:=Co v h
   obtain ⟨r',b1,b2,h⟩:=iD r h
   refine ⟨v'::r',by simp [b1],fun k u hu=> ?_,h⟩
   cases k with
   | zero=>simp at hu;subst hu;exact ⟨v,rfl,a1,a2⟩
   | succ k=>exact b2 k u (by simpa using hu)
end
def RL (P:G->World->Prop) (o o':af):Prop:=
 (∀g w n nt b,P g w->fx g w n nt b o->fx g w n nt b o')/\o'.real=o.real/\o'.loose=o.loose/\o'.mv=o.mv/\ ∀wr T cs,o'= .cells wr T cs-> ∃tS,o= .cells wr T tS
theorem Cp {i z:Nat} {L:List V} {sp:Bool} {o:af} {K:af->Prop} (h:MJ i z L sp o K): ∃o',RL (fun g w=>Row g w i z L) o o'/\K o':=by
 cases o with
 | cells wr T cs=>
   obtain ⟨tS,h1,h2,h3⟩:=iD cs h
   refine ⟨.cells wr T tS,⟨fun g w n nt b hr ⟨arr,a1,a2,a3⟩=>⟨arr,a1,by rw [h1];exact a2,fun k v c hv hc=> ?_⟩,rfl,rfl,rfl,fun Wv T' UI e=>by cases e;exact ⟨_,rfl⟩⟩,h3⟩
   obtain ⟨u,hu,q1,q2⟩:=h2 k v hv
   have:=a3 k u c hu hc
   refine ⟨⟨q1 _ _ _ hr _ this.1.rel,?_⟩,this.2⟩
   rcases q2 with q2 | rfl
   · exact .fA q2
   · exact this.1.tok
 | none=>exact ⟨_,⟨fun _ _ _ _ _ _ h=>h,rfl,rfl,rfl,fun a b c e=>by cases e⟩,h⟩
 | map es=>exact ⟨_,⟨fun _ _ _ _ _ _ h=>h,rfl,rfl,rfl,fun a b c e=>by cases e⟩,h⟩
 | buf m z l=>exact ⟨_,⟨fun _ _ _ _ _ _ h=>h,rfl,rfl,rfl,fun a b c e=>by cases e⟩,h⟩
theorem sj {i z:Nat} {L:List V} {sp:Bool}: ∀ {ob:List af} {K:List af->Prop},cd (MJ i z L sp) ob K-> ∃c6,c6.length=ob.length/\(∀(k:Nat) o',c6[k]? =some o'-> ∃o,ob[k]? =some o/\RL (fun g w=>Row g w i z L) o o')/\K c6
 | [],K,h=>⟨[],rfl,by simp,h⟩
 | o::r,K,h=>by
   obtain ⟨o',a1,h⟩:=Cp h
   obtain ⟨r',b1,b2,h⟩:=sj h
   refine ⟨o'::r',by simp [b1],fun k u hu=> ?_,h⟩
   cases k with
   | zero=>simp at hu;subst hu;exact ⟨o,rfl,a1⟩
   | succ k=>exact b2 k u (by simpa using hu)
theorem a_.ML {P:G->World->Prop} {c6:List af} (h:a_ c g w ob nt) (hp:P g w) (hl:c6.length=ob.length) (ho: ∀(k:Nat) o',c6[k]? =some o'-> ∃o,ob[k]? =some o/\RL P o o'):a_ c g w c6 nt:=by
 refine ⟨h.os,h.tape,h.output,h.size,h.jG,by rw [hl];exact h.len,?_,?_,?_,?_,?_,h.i1,h.i2,h.i3,?_,?_,?_,h.f2,h.i6⟩
 · intro i y hy
   obtain ⟨x,hx,q,_⟩:=ho i y hy
   rw [hl];exact q _ _ _ _ _ hp (h.obj i x hx)
 · intro i y hy hr
   obtain ⟨x,hx,_,e,_⟩:=ho i y hy
   exact h.lt i x hx (e▸hr)
 · intro i j y z hy hz hr tf
   obtain ⟨x,hx,_,e,_⟩:=ho i y hy
   obtain ⟨x',p5,_,e',_⟩:=ho j z hz
   exact h.inj i j x x' hx p5 (e▸hr) (e'▸tf)
 · intro i y hi hy hm
   obtain ⟨x,hx,_,_,_,e,_⟩:=ho i y hy
   exact h.sH i x hi hx (e▸hm)
 · intro i y hy hr
   obtain ⟨x,hx,_,e,_⟩:=ho i y hy
   exact h.new i x hx (e▸hr)
 · intro i T cs k hy
   obtain ⟨x,hx,_,_,_,_,e⟩:=ho i _ hy
   obtain ⟨tS,rfl⟩:=e _ _ _ rfl
   exact h.i4 i _ _ k hx
 · intro i y k hy wc
   obtain ⟨x,hx,_,_,e,_⟩:=ho i y hy
   exact h.i5 i x k hx (e▸wc)
 · intro i hi hn
   obtain ⟨f1,f2,f3,f4⟩:=h.f1 i hi hn
   refine ⟨f1,f2,f3,fun o y hy wK=> ?_⟩
   obtain ⟨x,hx,_,e,_⟩:=ho o y hy
   exact f4 o x hx (e▸wK)
theorem Av (i:Nat) (sp:Bool) {m:Nat} {s:St} {K:St->Prop} (h:St.MK i sp s K): ∃s',aB m s s'/\K s':=by
 obtain ⟨t,ob,nt,df⟩:=s
 unfold St.MK at h
 obtain ⟨x,hx,h⟩:=aX h
 cases x<;>try exact h.elim
 rename_i mv z L ty
 simp only at h
 split at h
 case h_2=>exact h.elim
 rename_i Ji
 obtain ⟨t',t1,t2,h⟩:=iD t h
 obtain ⟨c6,o1,o2,h⟩:=sj h
 obtain ⟨_,h⟩:=cj h
 refine ⟨_,fun c g w a hm hs=> ?_,h⟩
 have cQ:=hs.wi
 have oI: ∀(g':G),(∀b k,g.I b k->g'.I b k)->Row g' w i z L->a_ c g' w (ob.set i (.buf true z [])) nt->(∀v x,VT g w ob.length nt v x->VT g' w ob.length nt v x)->(∀v x,aw g.bs g.I w ob.length v x->aw g'.bs g'.I w ob.length v x)->
  ∃g',cf c g' w a ⟨t',c6.set i (.buf true z []),nt,df⟩:=fun g' Tj iK hw zd BH=>by
  have p7:=hw.ML (P:=fun g w=>Row g w i z L) (c6:=c6.set i (.buf true z [])) iK (by simp [o1]) fun k o' hk=>by
   rcases aY hk with ⟨rfl,rfl⟩ | ⟨bZ,hk⟩
   · exact ⟨_,by rw [List.getElem?_set_self (by have:=(List.getElem?_eq_some_iff.1 hx).1;exact this)],⟨fun _ _ _ _ _ _ h=>h,rfl,rfl,rfl,fun a b c e=>by cases e⟩⟩
   · obtain ⟨o,h1,h2⟩:=o2 k o' hk
     exact ⟨o,by rw [List.getElem?_set_ne bZ];exact h1,h2⟩
  refine ⟨g',p7,⟨by rw [t1];exact hs.ti.size,fun k v x hv hx=> ?_,⟨fun b l hb k v hk=>⟨(hs.ti.gl.1 b l hb k v hk).1,Tj _ _ (hs.ti.gl.1 b l hb k v hk).2⟩,fun b hb=>(hs.ti.gl.2 b hb).imp fun m h=>⟨h.1,Tj _ _ h.2⟩⟩⟩,?_⟩
  · obtain ⟨u,hu,q1,q2⟩:=t2 k v hv
    have h1:=zd _ _ (hs.ti.rel k u x hu hx)
    have hl:(c6.set i (.buf true z [])).length=ob.length:=by simp [o1]
    show VT g' w (c6.set i (.buf true z [])).length nt v x
    rw [hl]
    refine ⟨q1 _ _ _ iK _ h1.rel,?_⟩
    rcases q2 with q2 | rfl
    · exact .fA q2
    · exact h1.tok
  · show gI g' w (c6.set i (.buf true z [])).length _ _
    rw [show (c6.set i (.buf true z [])).length=ob.length by simp [o1]]
    exact hs.di.forget (fun v x hv _=>BH v x hv) Ji
 by_cases hL:L=[]
 · subst hL
   refine oI g (fun _ _ h=>h) ⟨.inl rfl⟩ ?_ (fun _ _ h=>h) (fun _ _ h=>h)
   refine ⟨cQ.os,cQ.tape,cQ.output,cQ.size,cQ.jG,by simp [cQ.len],?_,?_,?_,?_,?_,cQ.i1,cQ.i2,cQ.i3,?_,?_,?_,cQ.f2,cQ.i6⟩
   · intro j y hy
     rw [List.length_set]
     rcases aY hy with ⟨rfl,rfl⟩ | ⟨bZ,hy⟩
     · exact .inl rfl
     · exact cQ.obj j y hy
   · intro j y hy hr
     rcases aY hy with ⟨rfl,rfl⟩ | ⟨bZ,hy⟩
     · cases hr
     · exact cQ.lt j y hy hr
   · intro j k y u hy hu hr tf
     rcases aY hy with ⟨rfl,rfl⟩ | ⟨bZ,hy⟩
     · cases hr
     · rcases aY hu with ⟨rfl,rfl⟩ | ⟨bZ,hu⟩
       · cases tf
       · exact cQ.inj j k y u hy hu hr tf
   · intro j y hj hy Jf
     rcases aY hy with ⟨rfl,rfl⟩ | ⟨bZ,hy⟩
     · cases Jf
     · exact cQ.sH j y hj hy Jf
   · intro j y hy hr
     rcases aY hy with ⟨rfl,rfl⟩ | ⟨bZ,hy⟩
     · cases hr
     · exact cQ.new j y hy hr
   · intro j T cs k hy
     rcases aY hy with ⟨_,e⟩ | ⟨bZ,hy⟩
     · cases e
     · exact cQ.i4 j T cs k hy
   · intro j y k hy hl
     rcases aY hy with ⟨rfl,rfl⟩ | ⟨bZ,hy⟩
     · cases hl
     · exact cQ.i5 j y k hy hl
   · intro j hj hn
     obtain ⟨f1,f2,f3,f4⟩:=cQ.f1 j hj hn
     refine ⟨f1,f2,f3,fun o y hy hr=> ?_⟩
     rcases aY hy with ⟨rfl,rfl⟩ | ⟨bZ,hy⟩
     · cases hr
     · exact f4 o y hy hr
 · obtain ⟨arr,T,a1,_,a2,a3,a4⟩:=(cQ.obj i _ hx).resolve_left hL
   have he:=Ext.freeze cQ (g.bs i) (L.length*z)
   refine oI (g.data (g.bs i) (L.length*z)) (fun b k h=>(he.hI b k h).1) ⟨.inr ⟨arr,T,a1.any,a2,a3,fun k v c hv hc=>he.qW (a4 k v c hv hc).1,fun k hk=> .inr ⟨rfl,hk⟩⟩⟩
    (a_.freeze cQ hx (by simp [af.real,hL]) _ (.inl rfl) (fun h=>by cases h) (fun T cs e=>by cases e) rfl) (fun v x h=>he.vt h) (fun v x h=>he.EB h)
end
end VL
namespace VL
open Go
mutual
def V.bare:V->Bool
 | .int _ _ | .bool _ | .str _ | .gH | .gL | .ig | .ij | .undef=>true
 | .agg l=>V.Aw l
 | .aQ l=>V.Aw l
 | _=>false
def V.Aw:List V->Bool
 | []=>true
 | v::r=>v.bare &&V.Aw r
end
theorem rH: ∀ {l:List V},V.Aw l=true-> ∀ {k:Nat} {v:V},l[k]? =some v->v.bare=true
 | [],_,k,v,h=>by simp at h
 | x::r,h,k,v,hk=>by
   simp only [V.Aw,Bool.and_eq_true] at h
   cases k with
   | zero=>simp at hk;exact hk▸h.1
   | succ k=>exact rH h.2 (by simpa using hk)
theorem aw.bare {bs xI:Nat->Nat} {I I':Nat->Nat->Prop} {w w':World} {n n':Nat} {v:V} {c:Value} (h:aw bs I w n v c) (hb:v.bare=true):aw xI I' w' n' v c:=by
 induction h with
 | undef=>exact .undef
 | int=>exact .int
 | bool=>exact .bool
 | str=>exact .str
 | gH=>exact .gH
 | ig=>exact .ig
 | gL=>exact .gL
 | ij=>exact .ij
 | agg hl _ ih=>exact .agg hl fun k v c h1 h2=>ih k v c h1 h2 (rH hb h1)
 | aQ hl _ ih=>exact .aQ hl fun k v c h1 h2=>ih k v c h1 h2 (rH hb h1)
 | _=>simp [V.bare] at hb
end VL
namespace VL
open Go
theorem JX {bs:Nat->Nat} {I:Nat->Nat->Prop} {w:World} {n n' o z:Nat} {x:Value} (h:aw bs I w n (.sl [] .ex) x) (ho:o<n'):aw bs I w n' (.bX o z 0 0 0) x:=by
 cases h with
 | slnil=>exact .bX ho (Nat.le_refl _) (.inl rfl) (.inl rfl)
 | sl u hl cu hr hz hc hu=>
   have h0:_=0:=hl
   have h1:=hr rfl
   subst h0;subst h1
   exact .bX ho (Nat.le_refl _) (.inl rfl) (.inr ⟨_,_,rfl⟩)
theorem a_.swap {c:Ctx} {g:G} {w:World} {ob c6:List af} {nt:Nat} (h:a_ c g w ob nt) (hl:c.n0<=c6.length)
 (rl: ∀(i:Nat) y,c6[i]? =some y->y.real=false/\y.loose=false/\(i<c.n0->y.mv=true)\/ ∃x,ob[i]? =some x/\y.real=x.real/\y.mv=x.mv/\y.loose=x.loose/\ ∀T cs,y= .cells true T cs-> ∃tS,x= .cells true T tS)
 (Rt: ∀(i:Nat) y,c6[i]? =some y->fx g w c6.length nt (g.bs i) y):a_ c g w c6 nt:=by
 refine ⟨h.os,h.tape,h.output,h.size,h.jG,hl,Rt,?_,?_,?_,?_,h.i1,h.i2,h.i3,?_,?_,?_,h.f2,h.i6⟩
 · intro i y hy hr
   rcases rl i y hy with ⟨e,_⟩ | ⟨x,hx,e,_⟩
   · rw [hr] at e;cases e
   · exact h.lt i x hx (e▸hr)
 · intro i j y z hy hz hr tf
   rcases rl i y hy with ⟨e,_⟩ | ⟨x,hx,e,_⟩
   · rw [hr] at e;cases e
   rcases rl j z hz with ⟨e',_⟩ | ⟨x',p5,e',_⟩
   · rw [tf] at e';cases e'
   exact h.inj i j x x' hx p5 (e▸hr) (e'▸tf)
 · intro i y hi hy hm
   rcases rl i y hy with ⟨_,_,e⟩ | ⟨x,hx,_,e,_⟩
   · rw [e hi] at hm;cases hm
   · exact h.sH i x hi hx (e▸hm)
 · intro i y hy hr
   rcases rl i y hy with ⟨e,_⟩ | ⟨x,hx,e,_⟩
   · rw [hr] at e;cases e
   · exact h.new i x hx (e▸hr)
 · intro i T cs k hy
   rcases rl i _ hy with ⟨e,_⟩ | ⟨x,hx,_,_,_,e⟩
   · cases e
   · obtain ⟨tS,rfl⟩:=e T cs rfl
     exact h.i4 i T tS k hx
 · intro i y k hy wc
   rcases rl i y hy with ⟨_,e,_⟩ | ⟨x,hx,_,_,e,_⟩
   · rw [wc] at e;cases e
   · exact h.i5 i x k hx (e▸wc)
 · intro i hi hn
   obtain ⟨f1,f2,f3,f4⟩:=h.f1 i hi hn
   refine ⟨f1,f2,f3,fun o y hy hr=> ?_⟩
   rcases rl o y hy with ⟨e,_⟩ | ⟨x,hx,e,_⟩
   · rw [hr] at e;cases e
   · exact f4 o x hx (e▸hr)
theorem iE (o k z:Nat) (ty:Option TypeId:=none) {m:Nat} {t:List V} {ob:List af} {nt:Nat} {df:List (Fn × List V × List V)} {wr:Bool} {T:TypeId} {cs:List V} (ho:ob[o]? =some (.cells wr T cs)) (hk:cs[k]? =some (.sl [] .ex)) (hm:m<=ob.length):
 aB m ⟨t,ob,nt,df⟩ ⟨t,ob.set o (.cells wr T (cs.set k (.bX ob.length z 0 0 0)))++[.buf false z [] ty],nt,df⟩:=by
 intro c g w a hc hs
 have cT:=(List.getElem?_eq_some_iff.1 ho).1
 have he:Ext g w ob.length nt g w (ob.length+1) nt:=⟨by omega,Nat.le_refl _,fun _ _=>rfl,fun _ _ h=>⟨h,rfl⟩,fun _ _=>rfl⟩
 have hlen:(ob.set o (.cells wr T (cs.set k (.bX ob.length z 0 0 0)))++[af.buf false z [] ty]).length=ob.length+1:=by simp
 have ka:=hs.wi.len
 have aD: ∀(i:Nat) y,(ob.set o (.cells wr T (cs.set k (.bX ob.length z 0 0 0)))++[af.buf false z [] ty])[i]? =some y->(i=ob.length/\y= .buf false z [] ty)\/(i=o/\y= .cells wr T (cs.set k (.bX ob.length z 0 0 0)))\/ob[i]? =some y/\i<ob.length:=fun i y hy=>by
  rw [List.getElem?_append] at hy
  split at hy
  · rename_i aJ
    rcases aY hy with ⟨e1,e2⟩ | ⟨_,hy⟩
    · exact .inr (.inl ⟨e1.symm,e2⟩)
    · exact .inr (.inr ⟨hy,by simpa using aJ⟩)
  · rename_i zg
    simp only [List.length_set] at hy zg
    have:i - ob.length=0:=by
     rcases Nat.eq_zero_or_pos (i - ob.length) with h | h
     · exact h
     · rw [List.getElem?_eq_none (by simp;omega)] at hy;cases hy
    rw [this] at hy
    simp at hy
    exact .inl ⟨by omega,hy.symm⟩
 refine ⟨g,hs.wi.swap (by rw [hlen];have:c.n0<=ob.length:=ka;show c.n0<=_;omega) (fun i y hy=> ?_) (fun i y hy=> ?_),?_,?_⟩
 · rcases aD i y hy with ⟨rfl,rfl⟩ | ⟨rfl,rfl⟩ | ⟨hy,_⟩
   · have:c.n0<=ob.length:=ka
     exact .inl ⟨rfl,rfl,fun h=>absurd h (by omega)⟩
   · exact .inr ⟨_,ho,rfl,rfl,rfl,fun T' tS e=>by cases e;exact ⟨_,rfl⟩⟩
   · exact .inr ⟨y,hy,rfl,rfl,rfl,fun T' tS e=>⟨tS,e⟩⟩
 · rw [hlen]
   rcases aD i y hy with ⟨rfl,rfl⟩ | ⟨rfl,rfl⟩ | ⟨hy,_⟩
   · exact .inl rfl
   · obtain ⟨arr,a1,a2,a3⟩:=hs.wi.obj i _ ho
     refine ⟨arr,a1,by simpa using a2,fun q v x hv hx=> ?_⟩
     rcases aY hv with ⟨rfl,rfl⟩ | ⟨_,hv⟩
     · have:=a3 k _ x hk hx
       exact ⟨.of (JX this.1.rel (by omega)) rfl,this.2⟩
     · exact ⟨he.vt (a3 q v x hv hx).1,(a3 q v x hv hx).2⟩
   · exact he.tQ (hs.wi.obj i y hy) fun _=>rfl
 · show fy _ _ (ob.set o _++[af.buf false z [] ty]).length _ _ _
   rw [hlen];exact he.kf hs.ti
 · show gI _ _ (ob.set o _++[af.buf false z [] ty]).length _ _
   rw [hlen];exact he.kg hs.di
end VL
namespace VL
open Go
def yz (s:ByteArray) (c:UInt8):Int:=match (List.range s.size).find? fun i=>s[i]! ==c with
 | some i=>(i:Int)
 | none=> -1
theorem Ax {P:Program} {f:FuncId} {fn:Func} (hf:P.funcs[f]? =some fn) (sk:(fn.name== "runtime.NumGoroutine")=false) (hb:fn.body.isNone=true) (hn:Extern.findNext fn=none)
 (he:Extern.find fn=some Extern.BytealgIndexByte.indexByte) {s:ByteArray} {c:Int} {K:Out->List af->Prop} (h:K (.ret (.int .i64 (yz s c.toNat.toUInt8))) []):ah P f [.str s,.int .u8 c] [] K:=by
 refine .shut fun w g b9 cQ cg hr we=> ?_
 obtain ⟨x,y,rfl⟩: ∃x y,b9= #[x,y]:=by
  match b9,cg with
  | ⟨[x,y]⟩,_=>exact ⟨x,y,rfl⟩
 have hx:=(hr 0 _ x rfl rfl).rel
 have hy:=(hr 1 _ y rfl rfl).rel
 cases hx
 cases hy
 have aS:(Extern.BytealgIndexByte.indexByte #[.string s,.int .u8 c]).run P w= .ok (.int .i64 (yz s c.toNat.toUInt8)) w:=by
  have e:Extern.BytealgIndexByte.indexByte #[.string s,.int .u8 c]=(match (List.range s.size).find? (fun i=>s[i]! ==c.toNat.toUInt8) with
   | some i=>pure (goInt i)
   | none=>pure (goInt (-1))):=rfl
  rw [e]
  unfold yz
  cases (List.range s.size).find? fun i=>s[i]! ==c.toNat.toUInt8<;>rfl
 unfold rm
 rw [run_callFunc_extern hf sk hb hn he,aS]
 simp only [Result.andThen]
 exact ⟨_,_,g,h,cQ,.of .int rfl⟩
end VL
namespace VL
open Go
inductive Ty where
 | bool
 | int (k:IntKind)
 | str
 | sl (e:Ty) (z v8:Nat) (agg:Bool)
 | row (ps:List Ty)
mutual
def Ty.flat:Ty->Bool
 | .sl .. =>false
 | .row ps=>Ty.xh ps
 | _=>true
def Ty.xh:List Ty->Bool
 | []=>true
 | p::r=>p.flat &&Ty.xh r
end
mutual
def Ty.size:Ty->Nat
 | .row ps=>Ty.xi ps
 | _=>1
def Ty.xi:List Ty->Nat
 | []=>0
 | p::r=>p.size+Ty.xi r
end
def qo (sz:TypeId->Nat):Nat->List Field->Bool
 | _,[]=>true
 | i,f::r=>Nat.beq f.offset i &&qo sz (i+sz f.type) r
def iQ:TypeDesc->Bool
 | .struct _ | .array _ _=>true
 | _=>false
def uX (P:Program):Nat->TypeId->Option Ty
 | 0,_=>none
 | n+1,t=>match P.underlying t with
   | some .bool=>some .bool
   | some (.int k)=>some (.int k)
   | some .string=>some .str
   | some (.slice e)=>match uX P n e,P.underlying e with
     | some x,some d=>if x.flat &&Nat.beq x.size (P.cellsOf e) &&Nat.blt 0 x.size &&Nat.blt 0 (P.bytesOf e) then some (.sl x (P.cellsOf e) (P.bytesOf e) (iQ d)) else none
     | _,_=>none
   | some (.struct fs)=>match fs.toList.mapM (fun f=>uX P n f.type) with
     | some ps=>if qo P.cellsOf 0 fs.toList &&Nat.beq (Ty.xi ps) (P.cellsOf t) &&(fs.toList.zip ps).all (fun x=>Nat.beq x.2.size (P.cellsOf x.1.type)) then some (.row ps) else none
     | none=>none
   | some (.array m e)=>match uX P n e with
     | some x=>if Nat.beq x.size (P.cellsOf e) &&Nat.beq (m*x.size) (P.cellsOf t) then some (.row (List.replicate m x)) else none
     | none=>none
   | _=>none
mutual
def v7:Ty->List V->Prop
 | .bool,vs=> ∃b,vs=[.bool b]
 | .int k,vs=> ∃n,vs=[.int k n]/\(Lit.int k n).wf=true
 | .str,vs=> ∃s,vs=[.str s]/\s.size<=140737488351232
 | .sl e z v8 agg,vs=> ∃l,vs=[.sl l .no]/\l.length*v8<=140737488351232/\ ∀x∈l,(if agg then ∃cs,x= .agg cs/\v7 e cs else v7 e [x])
 | .row ps,vs=>fo ps vs
def fo:List Ty->List V->Prop
 | [],vs=>vs=[]
 | p::r,vs=> ∃a b,vs=a++b/\v7 p a/\fo r b
end
def pC (c:Value):Prop:= ∀a len cap,c= .slice (some a) len cap->a.spot=none
theorem sm {P:Program} {w:World} {r:Reach} {base:Nat} {t:TypeId} {v:Value} (h:Cell.okWide P w r base t v):pC v:=by
 rintro a len cap rfl
 cases hd:P.underlying t with
 | none=>simp [Cell.okWide,Cell.ok,hd] at h
 | some d=>
   cases d<;>simp [Cell.okWide,Cell.ok,hd] at h
   exact h.2.2.2.1
theorem yA {P:Program} {w:World} {r:Reach} {base:Nat} {t:TypeId} {v:Value} (h:Value.okWide P w r base t v): ∀c∈v.cells.toList,pC c:=by
 have row: ∀cs,v= .agg cs->Row.okWide P w r base t cs-> ∀c∈v.cells.toList,pC c:=fun cs hv hr c hc=>by
  subst hv
  obtain ⟨ts,_,_,h3⟩:=hr
  obtain ⟨i,hi⟩:=List.mem_iff_getElem?.1 hc
  obtain ⟨u,_,h4⟩:=h3 i c (by simpa [Value.cells] using hi)
  exact sm h4
 have one:Cell.okWide P w r base t v->(∀cs,v≠ .agg cs)-> ∀c∈v.cells.toList,pC c:=fun hc hn c h=>by
  have:v.cells= #[v]:=by cases v<;>first | rfl | exact absurd rfl (hn _)
  rw [this] at h;simp at h;subst h;exact sm hc
 unfold Value.okWide at h
 split at h
 · obtain ⟨cs,hv,_,hr⟩:=h;exact row cs hv hr
 · obtain ⟨cs,hv,_,hr⟩:=h;exact row cs hv hr
 · rename_i h1 h2
   refine one h fun cs e=> ?_
   subst e
   cases hd:P.underlying t with
   | none=>simp [Cell.okWide,Cell.ok,hd] at h
   | some d=>cases d<;>simp [Cell.okWide,Cell.ok,hd] at h
def Told (w:World) (cs:List Value) (vs:List V):Prop:=
 vs.length=cs.length/\ ∀(k:Nat) v c,vs[k]? =some v->cs[k]? =some c->aw (fun _=>0) (fun b _=>b<w.heap.size) w 0 v c/\v.cB=true/\v.aE=true
theorem Told.one {w:World} {v:V} {c:Value} (h:aw (fun _=>0) (fun b _=>b<w.heap.size) w 0 v c) (h1:v.cB=true) (h2:v.aE=true):Told w [c] [v]:=
 ⟨rfl,fun k u d hu hd=>by
  cases k with
  | zero=>simp at hu hd;subst hu;subst hd;exact ⟨h,h1,h2⟩
  | succ k=>simp at hu⟩
theorem Told.append {w:World} {cs ds:List Value} {vs us:List V} (h:Told w cs vs) (k:Told w ds us):Told w (cs++ds) (vs++us):=by
 refine ⟨by simp [h.1,k.1],fun i v c hv hc=> ?_⟩
 rw [List.getElem?_append] at hv hc
 rw [h.1] at hv
 split at hv
 · rename_i aJ;rw [if_pos aJ] at hc;exact h.2 i v c hv hc
 · rename_i aJ;rw [if_neg aJ] at hc;exact k.2 _ v c hv hc
end VL
namespace VL
open Go
section
variable {H:Type} {enc:TypeId × Value->H} {P:Program} {w:World} {base:Nat} {spare:Nat->Bool} {held:Bool}
theorem trod_bool {m:Nat} {t:TypeId} {cs:List Value} {d:DataW H} {ps:List MemPlace} (hu:P.underlying t=some .bool) (h:DataW.trod enc P w base spare held m t cs=some (d,ps)): ∃b,cs=[.bool b]:=by
 cases m with
 | zero=>simp [DataW.trod] at h
 | succ m=>
   unfold DataW.trod at h
   rw [hu] at h
   split at h<;>rename_i h1<;>first | (cases h1;done) | skip
   all_goals first | exact ⟨_,rfl⟩ | (simp at h)
theorem trod_int {m:Nat} {t:TypeId} {k:IntKind} {cs:List Value} {d:DataW H} {ps:List MemPlace} (hu:P.underlying t=some (.int k)) (h:DataW.trod enc P w base spare held m t cs=some (d,ps)): ∃n,cs=[.int k n]/\(Lit.int k n).wf=true:=by
 cases m with
 | zero=>simp [DataW.trod] at h
 | succ m=>
   unfold DataW.trod at h
   rw [hu] at h
   split at h
   all_goals first
    | (simp only [reduceCtorEq] at h;done)
    | (rename_i h1;cases h1
       split at h
       · rename_i hk;obtain ⟨rfl,hk⟩:=hk;exact ⟨_,rfl,hk⟩
       · cases h)
    | (rename_i h1;cases h1;done)
    | (simp at h)
theorem Hd {m:Nat} {t:TypeId} {cs:List Value} {d:DataW H} {ps:List MemPlace} (hu:P.underlying t=some .string) (h:DataW.trod enc P w base spare held m t cs=some (d,ps)): ∃s,cs=[.string s]/\d= .lit (.string s.data.toList):=by
 cases m with
 | zero=>simp [DataW.trod] at h
 | succ m=>
   unfold DataW.trod at h
   rw [hu] at h
   split at h
   all_goals first
    | (simp only [reduceCtorEq] at h;done)
    | (rename_i h1;cases h1
       split at h
       · simp at h;exact ⟨_,rfl,h.1.symm⟩
       · cases h)
    | (rename_i h1;cases h1;done)
    | (simp at h)
theorem trod_struct {m:Nat} {t:TypeId} {fs:Array Field} {cs:List Value} {d:DataW H} {ps:List MemPlace} (hu:P.underlying t=some (.struct fs)) (h:DataW.trod enc P w base spare held m t cs=some (d,ps)):
 ∃m' xs,cs.length=P.cellsOf t/\(fs.toList.mapM fun f=>DataW.trod enc P w base spare held m' f.type ((cs.drop f.offset).take (P.cellsOf f.type)))=some xs/\d= .agg (xs.map (·.1)):=by
 cases m with
 | zero=>simp [DataW.trod] at h
 | succ m=>
   unfold DataW.trod at h
   rw [hu] at h
   split at h
   all_goals first
    | (simp only [reduceCtorEq] at h;done)
    | (rename_i h1;cases h1
       split at h
       · rename_i hlen
         obtain ⟨xs,h2,h3⟩:=Option.map_eq_some_iff.1 h
         simp at h3;exact ⟨m,xs,hlen,h2,h3.1.symm⟩
       · cases h)
    | (rename_i h1;cases h1;done)
    | (simp at h;obtain ⟨hl,a,h2,h3,_⟩:=h;exact ⟨m,a,hl,h2,h3.symm⟩)
theorem Cq {m:Nat} {t e:TypeId} {n:Nat} {cs:List Value} {d:DataW H} {ps:List MemPlace} (hu:P.underlying t=some (.array n e)) (h:DataW.trod enc P w base spare held m t cs=some (d,ps)):
 ∃m' xs,cs.length=P.cellsOf t/\((List.range n).mapM fun i=>DataW.trod enc P w base spare held m' e ((cs.drop (i*P.cellsOf e)).take (P.cellsOf e)))=some xs/\d= .agg (xs.map (·.1)):=by
 cases m with
 | zero=>simp [DataW.trod] at h
 | succ m=>
   unfold DataW.trod at h
   rw [hu] at h
   split at h
   all_goals first
    | (simp only [reduceCtorEq] at h;done)
    | (rename_i h1;cases h1
       split at h
       · rename_i hlen
         obtain ⟨xs,h2,h3⟩:=Option.map_eq_some_iff.1 h
         simp at h3;exact ⟨m,xs,hlen,h2,h3.1.symm⟩
       · cases h)
    | (rename_i h1;cases h1;done)
    | (simp at h;obtain ⟨hl,a,h2,h3,_⟩:=h;exact ⟨m,a,hl,h2,h3.symm⟩)
theorem trod_slice {m:Nat} {t e:TypeId} {cs:List Value} {d:DataW H} {ps:List MemPlace} (hu:P.underlying t=some (.slice e)) (h:DataW.trod enc P w base spare held m t cs=some (d,ps)):
 cs=[.slice none 0 0]\/ ∃m' a len cap xs rest,cs=[.slice (some a) len cap]/\len<=cap/\
  ((List.range len).mapM fun i=>(w.cells? base (a.add (i*P.cellsOf e)) (P.cellsOf e)).bind (DataW.trod enc P w base spare held m' e))=some xs/\d= .slice (xs.map (·.1)) rest:=by
 cases m with
 | zero=>simp [DataW.trod] at h
 | succ m=>
   unfold DataW.trod at h
   rw [hu] at h
   split at h
   all_goals first
    | (simp only [reduceCtorEq] at h;done)
    | (rename_i h1;cases h1;exact .inl rfl)
    | (rename_i h1;cases h1
       simp only at h
       split at h
       · rename_i hlen
         obtain ⟨xs,h2,h3⟩:=Option.bind_eq_some_iff.1 h
         obtain ⟨rest,h4,h5⟩:=Option.map_eq_some_iff.1 h3
         simp at h5
         exact .inr ⟨m,_,_,_,xs,_,rfl,hlen.2.1,h2,h5.1.symm⟩
       · cases h)
    | (rename_i h1;cases h1;done)
    | (simp at h)
end
end VL
namespace VL
open Go
theorem so {α:Type} {R:Nat->α->Prop}: ∀(n:Nat),(∀i,i<n-> ∃y,R i y)-> ∃L:List α,L.length=n/\ ∀(i:Nat) y,L[i]? =some y->R i y
 | 0,_=>⟨[],rfl,by simp⟩
 | n+1,h=>by
   obtain ⟨L,h1,h2⟩:=so n fun i hi=>h i (by omega)
   obtain ⟨y,hy⟩:=h n (by omega)
   refine ⟨L++[y],by simp [h1],fun i z hz=> ?_⟩
   rw [List.getElem?_append] at hz
   split at hz
   · exact h2 i z hz
   · have:i=n:=by
      rcases Nat.lt_or_ge (i - L.length) 1 with aJ | zg
      · omega
      · rw [List.getElem?_eq_none (by simpa using zg)] at hz;cases hz
     subst this
     rw [h1] at hz;simp at hz;subst hz;exact hy
theorem Ay {sz:Nat} (hp:0<sz): ∀ {l:List V} (hz: ∀x∈l,x.cells.length=sz) {k:Nat} {v:V},(l.flatMap V.cells)[k]? =some v-> ∃i j x,l[i]? =some x/\x.cells[j]? =some v/\k=i*sz+j/\j<sz
 | [],_,k,v,h=>by simp at h
 | x::r,hz,k,v,h=>by
   rw [List.flatMap_cons,List.getElem?_append] at h
   have hx:=hz x (by simp)
   split at h
   · rename_i aJ
     exact ⟨0,k,x,rfl,h,by omega,by omega⟩
   · obtain ⟨i,j,y,h1,h2,h3,h4⟩:=Ay hp (fun y hy=>hz y (by simp [hy])) h
     exact ⟨i+1,j,y,by simpa using h1,h2,by rw [Nat.add_mul];omega,h4⟩
theorem jV {H:Type} {P:Program} {e:TypeId}: ∀ {ds:List (DataW H)} {d:DataW H},d∈ds-> ∀x∈d.weights P e,x∈DataW.weightsAll P e ds
 | d::r,_,.head _,x,hx=>by simp only [DataW.weightsAll,List.mem_append];exact .inl hx
 | _::r,d,.tail _ h,x,hx=>by simp only [DataW.weightsAll,List.mem_append];exact .inr (jV h x hx)
section
variable {H:Type} {enc:TypeId × Value->H} {P:Program} {w:World} {base:Nat} {spare:Nat->Bool} {held:Bool}
theorem Az {a:Addr} (h:a.spot=none) (n:Nat):a.add n=⟨a.block,a.off+n,none⟩:=by
 obtain ⟨b,o,s⟩:=a
 simp only at h;subst h
 unfold Addr.add
 split
 · rename_i e;simp [e]
 · rfl
theorem JY {b k:Nat} {c:Value} (h:w.cell? ⟨b,k,none⟩=some c):b<w.heap.size:=by
 rcases Nat.lt_or_ge b w.heap.size with h1 | h1
 · exact h1
 · simp [World.cell?,Array.getElem?_eq_none h1] at h
theorem uY {ty:Ty} {vs:List V} (h:v7 ty vs) (hs: ∀ps,ty≠ .row ps): ∃v,vs=[v]/\v.cells=[v]:=by
 cases ty with
 | bool=>obtain ⟨b,rfl⟩:=h;exact ⟨_,rfl,rfl⟩
 | int k=>obtain ⟨b,rfl,_⟩:=h;exact ⟨_,rfl,rfl⟩
 | str=>obtain ⟨b,rfl,_⟩:=h;exact ⟨_,rfl,rfl⟩
 | sl e z b a=>obtain ⟨l,rfl,_⟩:=h;exact ⟨_,rfl,rfl⟩
 | row ps=>exact absurd rfl (hs ps)
theorem AA {n:Nat} {t:TypeId} {ty:Ty} {d:TypeDesc} (h:uX P n t=some ty) (hu:P.underlying t=some d) (hd:iQ d=false): ∀ps,ty≠ .row ps:=by
 rintro ps rfl
 cases n with
 | zero=>simp [uX] at h
 | succ n=>
   unfold uX at h
   rw [hu] at h
   cases d<;>simp [iQ] at hd h
   split at h
   · split at h<;>simp at h
   · simp at h
theorem Told.take_drop {cs:List Value} {i a b:Nat} {vs us:List V} (h:Told w ((cs.drop i).take a) vs) (k:Told w ((cs.drop (i+a)).take b) us):Told w ((cs.drop i).take (a+b)) (vs++us):=by
 have:(cs.drop i).take (a+b)=(cs.drop i).take a++(cs.drop (i+a)).take b:=by
  rw [List.take_add,List.drop_drop]
 rw [this];exact h.append k
theorem MM: ∀(n:Nat) (t:TypeId) (ty:Ty),uX P n t=some ty-> ∀(m:Nat) (cs:List Value) (d:DataW H) (ps:List MemPlace),DataW.trod enc P w base spare held m t cs=some (d,ps)->
 (∀x∈d.weights P t,x<=reachBytes)->(ty.flat=true\/ ∀c∈cs,pC c)-> ∃vs,Told w cs vs/\v7 ty vs:=by
 intro n
 induction n with
 | zero=>intro t ty h;simp [uX] at h
 | succ n ih=>
   intro t ty pZ m cs d ps h hw sT
   unfold uX at pZ
   split at pZ
   · rename_i hu
     cases pZ
     obtain ⟨b,rfl⟩:=trod_bool hu h
     exact ⟨[.bool b],.one .bool rfl rfl,b,rfl⟩
   · rename_i k hu
     cases pZ
     obtain ⟨x,rfl,UJ⟩:=trod_int hu h
     exact ⟨[.int k x],.one .int rfl rfl,x,rfl,UJ⟩
   · rename_i hu
     cases pZ
     obtain ⟨s,rfl,rfl⟩:=Hd hu h
     refine ⟨[.str s],.one .str rfl rfl,s,rfl,?_⟩
     have:=hw s.data.toList.length (by unfold DataW.weights;exact List.mem_singleton.2 rfl)
     have e:s.data.toList.length=s.size:=Array.length_toList ..
     rw [e] at this;exact this
   · rename_i e hu
     split at pZ
     · rename_i x JZ he UK
       split at pZ
       · rename_i hc
         cases pZ
         simp only [Bool.and_eq_true] at hc
         obtain ⟨⟨⟨kv,cg⟩,dh⟩,wu⟩:=hc
         have cg:=Nat.eq_of_beq_eq_true cg
         have dh:0<x.size:=by simpa [Nat.blt_eq] using dh
         rcases trod_slice hu h with rfl | ⟨m',a,len,cap,xs,rest,rfl,hlen,MN,rfl⟩
         · exact ⟨[.sl [] .no],.one .slnil rfl rfl,[],rfl,by simp,by simp⟩
         · have He:a.spot=none:=by
            rcases sT with hf | sT
            · simp [Ty.flat] at hf
            · exact sT _ (by simp) a len cap rfl
           have Tk:xs.length=len:=by rw [mapM_some_length MN];simp
           have Lk: ∀i,i<len-> ∃vi:List V, ∃ci,w.cells? base (a.add (i*P.cellsOf e)) (P.cellsOf e)=some ci/\Told w ci vi/\v7 x vi:=fun i hi=>by
            have hg:=mapM_some_get MN i i (by rw [List.getElem?_range hi])
            rw [List.getElem?_eq_getElem (by omega)] at hg
            obtain ⟨ci,h1,h2⟩:=Option.bind_eq_some_iff.1 hg
            have dB:xs[i]∈xs:=List.getElem_mem _
            obtain ⟨vi,h3,h4⟩:=ih e x he m' ci xs[i].1 xs[i].2 h2 (fun y hy=>hw y (by
             simp only [DataW.weights,hu,List.mem_cons,List.mem_append]
             exact .inr (.inl (jV (List.mem_map.2 ⟨xs[i],dB,rfl⟩) y hy)))) (.inl kv)
            exact ⟨vi,ci,h1,h3,h4⟩
           obtain ⟨L,hL,RM⟩:=so len Lk
           let mk:List V->V:=fun vs=>if iQ JZ then .agg vs else vs.headD .undef
           have OL: ∀i vi,L[i]? =some vi->(mk vi).cells=vi/\(if iQ JZ=true then ∃cs,mk vi= .agg cs/\v7 x cs else v7 x [mk vi]):=fun i vi hi=>by
            obtain ⟨ci,_,_,h3⟩:=RM i vi hi
            by_cases hr:iQ JZ=true
            · simp only [mk,hr,if_true];exact ⟨rfl,_,rfl,h3⟩
            · have hr:iQ JZ=false:=by simpa using hr
              obtain ⟨v,rfl,hv⟩:=uY h3 (AA he UK hr)
              simp only [mk,hr]
              exact ⟨hv,h3⟩
           have aJ: ∀i vi,L[i]? =some vi->i<len:=fun i vi hi=>by rw [←hL];exact (List.getElem?_eq_some_iff.1 hi).1
           have oK: ∀y∈L.map mk,y.cells.length=P.cellsOf e/\y.cells.all V.aE=true:=fun y hy=>by
            obtain ⟨vi,Hf,rfl⟩:=List.mem_map.1 hy
            obtain ⟨i,hi⟩:=List.mem_iff_getElem?.1 Hf
            obtain ⟨ci,h1,h2,h3⟩:=RM i vi hi
            rw [(OL i vi hi).1]
            obtain ⟨_,ka,_⟩:=World.cells?_some h1
            refine ⟨by rw [h2.1,ka],List.all_eq_true.2 fun v hv=> ?_⟩
            obtain ⟨j,hj⟩:=List.mem_iff_getElem?.1 hv
            have eO:j<ci.length:=by rw [←h2.1];exact (List.getElem?_eq_some_iff.1 hj).1
            exact (h2.2 j v ci[j] hj (List.getElem?_eq_getElem eO)).2.2
           have e7: ∀k v,((L.map mk).flatMap V.cells)[k]? =some v-> ∃c,w.cell? ⟨a.block,a.off+k,none⟩=some c/\aw (fun _=>0) (fun b _=>b<w.heap.size) w 0 v c:=fun k v hk=>by
            obtain ⟨i,j,y,h1,h2,rfl,h4⟩:=Ay (by rw [←cg];exact dh) (fun y hy=>(oK y hy).1) hk
            rw [List.getElem?_map] at h1
            obtain ⟨vi,Hf,rfl⟩:=Option.map_eq_some_iff.1 h1
            rw [(OL i vi Hf).1] at h2
            obtain ⟨ci,g1,g2,g3⟩:=RM i vi Hf
            obtain ⟨_,ka,F9⟩:=World.cells?_some g1
            have eO:j<ci.length:=by omega
            have:=F9 j h4
            rw [Az He,Az rfl,List.getElem?_eq_getElem eO] at this
            refine ⟨ci[j],?_,(g2.2 j v ci[j] h2 (List.getElem?_eq_getElem eO)).1⟩
            rw [←this];simp only [Nat.add_assoc]
           obtain ⟨ab,ao,Rp⟩:=a
           simp only at He;subst He
           refine ⟨[.sl (L.map mk) .no],.one (.sl (sz:=P.cellsOf e) (fun k=>(w.cell? ⟨ab,ao+k,none⟩).getD undef) (by simp [hL]) hlen (by simp) oK (fun k v hk=> ?_) fun k v hk=> ?_) rfl rfl,L.map mk,rfl,?_,fun y hy=> ?_⟩
           · obtain ⟨c,h1,_⟩:=e7 k v hk
             simp only at h1 ⊢
             rw [h1];exact ⟨rfl,JY h1⟩
           · obtain ⟨c,h1,h2⟩:=e7 k v hk
             simp only at h1
             rw [h1];exact h2
           · rw [List.length_map,hL]
             have:=hw ((xs.map (·.1)).length+rest.length |>.mul (P.bytesOf e)) (by simp [DataW.weights,hu])
             have h2:len*P.bytesOf e<=((xs.map (·.1)).length+rest.length)*P.bytesOf e:=Nat.mul_le_mul_right _ (by rw [List.length_map,Tk];omega)
             exact Nat.le_trans h2 this
           · obtain ⟨vi,Hf,rfl⟩:=List.mem_map.1 hy
             obtain ⟨i,hi⟩:=List.mem_iff_getElem?.1 Hf
             exact (OL i vi hi).2
       · cases pZ
     · cases pZ
   · rename_i fs hu
     split at pZ
     · rename_i F_ RN
       split at pZ
       · rename_i hc
         cases pZ
         simp only [Bool.and_eq_true] at hc
         obtain ⟨⟨MO,Hg⟩,RO⟩:=hc
         have Hg:=Nat.eq_of_beq_eq_true Hg
         obtain ⟨m',xs,hlen,MN,rfl⟩:=trod_struct hu h
         have key: ∀(l:List Field) (i:Nat) (tl:List Ty) (ys:List (DataW H × List MemPlace)),qo P.cellsOf i l=true->l.mapM (fun f=>uX P n f.type)=some tl->
          (l.mapM fun f=>DataW.trod enc P w base spare held m' f.type ((cs.drop f.offset).take (P.cellsOf f.type)))=some ys->(l.zip tl).all (fun x=>Nat.beq x.2.size (P.cellsOf x.1.type))=true->
          (∀x∈DataW.weightsEach P (l.map (·.type)) (ys.map (·.1)),x<=reachBytes)->(Ty.xh tl=true\/ ∀c∈cs,pC c)-> ∃vs,Told w ((cs.drop i).take (Ty.xi tl)) vs/\fo tl vs:=by
          intro l
          induction l with
          | nil=>
            intro i tl ys _ h1 _ _ _ _
            simp at h1;subst h1
            exact ⟨[],⟨by simp [Ty.xi],by simp⟩,rfl⟩
          | cons f r UL=>
            intro i tl ys MO h1 h2 h3 h4 h5
            simp only [qo,Bool.and_eq_true] at MO
            simp only [List.mapM_cons,bind,Option.bind_eq_some_iff] at h1 h2
            obtain ⟨t1,a1,tr,a2,a3⟩:=h1
            obtain ⟨y1,b1,yr,b2,b3⟩:=h2
            simp only [pure,Option.some.injEq] at a3 b3
            subst a3;subst b3
            simp only [List.zip_cons_cons,List.all_cons,Bool.and_eq_true] at h3
            have RP:=Nat.eq_of_beq_eq_true h3.1
            have Ou:=Nat.eq_of_beq_eq_true MO.1
            rw [Ou] at b1
            obtain ⟨va,c1,c2⟩:=ih f.type t1 a1 m' _ y1.1 y1.2 b1 (fun x hx=>h4 x (by simp only [List.map_cons,DataW.weightsEach,List.mem_append];exact .inl hx)) (by
             rcases h5 with h5 | h5
             · simp only [Ty.xh,Bool.and_eq_true] at h5;exact .inl h5.1
             · exact .inr fun c hc=>h5 c (List.mem_of_mem_drop (List.mem_of_mem_take hc)))
            obtain ⟨vb,d1,d2⟩:=UL _ tr yr MO.2 a2 b2 h3.2 (fun x hx=>h4 x (by simp only [List.map_cons,DataW.weightsEach,List.mem_append];exact .inr hx)) (by
             rcases h5 with h5 | h5
             · simp only [Ty.xh,Bool.and_eq_true] at h5;exact .inl h5.2
             · exact .inr h5)
            refine ⟨va++vb,?_,va,vb,rfl,c2,d2⟩
            simp only [Ty.xi]
            rw [RP]
            exact c1.take_drop d1
         obtain ⟨vs,k1,k2⟩:=key fs.toList 0 F_ xs MO RN MN RO (fun x hx=>hw x (by simp only [DataW.weights,hu];exact hx)) (by
          rcases sT with h | h
          · exact .inl (by simpa [Ty.flat] using h)
          · exact .inr h)
         refine ⟨vs,?_,k2⟩
         rw [List.drop_zero,Hg, ←hlen,List.take_length] at k1
         exact k1
       · cases pZ
     · cases pZ
   · rename_i k e hu
     split at pZ
     · rename_i x he
       split at pZ
       · rename_i hc
         cases pZ
         simp only [Bool.and_eq_true] at hc
         have cg:=Nat.eq_of_beq_eq_true hc.1
         have Hg:=Nat.eq_of_beq_eq_true hc.2
         obtain ⟨m',xs,hlen,MN,rfl⟩:=Cq hu h
         have Tk:xs.length=k:=by rw [mapM_some_length MN];simp
         have hx:k=0\/x.flat=true\/ ∀c∈cs,pC c:=by
          rcases sT with h | h
          · cases k with
            | zero=>exact .inl rfl
            | succ k=>
              simp only [Ty.flat,List.replicate_succ,Ty.xh,Bool.and_eq_true] at h;exact .inr (.inl h.1)
          · exact .inr (.inr h)
         have key: ∀j,j<=k-> ∃vs,Told w ((cs.drop ((k - j)*P.cellsOf e)).take (j*P.cellsOf e)) vs/\fo (List.replicate j x) vs:=by
          intro j
          induction j with
          | zero=>intro _;exact ⟨[],⟨by simp,by simp⟩,rfl⟩
          | succ j UM=>
            intro hj
            obtain ⟨vb,d1,d2⟩:=UM (by omega)
            have hg:=mapM_some_get MN (k - (j+1)) (k - (j+1)) (by rw [List.getElem?_range (by omega)])
            rw [List.getElem?_eq_getElem (by omega)] at hg
            have dB:xs[k - (j+1)]'(by omega)∈xs:=List.getElem_mem _
            obtain ⟨va,c1,c2⟩:=ih e x he m' _ _ _ hg (fun y hy=>hw y (by
             simp only [DataW.weights,hu]
             exact jV (List.mem_map.2 ⟨_,dB,rfl⟩) y hy)) (by
             rcases hx with h | h | h
             · omega
             · exact .inl h
             · exact .inr fun c hc=>h c (List.mem_of_mem_drop (List.mem_of_mem_take hc)))
            refine ⟨va++vb,?_,va,vb,rfl,c2,d2⟩
            have e1:(j+1)*P.cellsOf e=P.cellsOf e+j*P.cellsOf e:=by rw [Nat.add_mul];omega
            have e2:(k - j)*P.cellsOf e=(k - (j+1))*P.cellsOf e+P.cellsOf e:=by rw [show k - j=(k - (j+1))+1 by omega,Nat.add_mul];omega
            rw [e2] at d1
            rw [e1]
            exact c1.take_drop d1
         obtain ⟨vs,k1,k2⟩:=key k (Nat.le_refl _)
         refine ⟨vs,?_,k2⟩
         rw [Nat.sub_self,Nat.zero_mul,List.drop_zero, ←cg,Hg, ←hlen,List.take_length] at k1
         exact k1
       · cases pZ
     · cases pZ
   · cases pZ
end
end VL
namespace VL
open Go Go.RowKit
def L7 (t:Ty) (agg:Bool) (x:V):Prop:=if agg then ∃cs,x= .agg cs/\v7 t cs else v7 t [x]
def Ev:List (Ty × Bool)->List V->Prop
 | [],xs=>xs=[]
 | (t,a)::r,xs=> ∃x ys,xs=x::ys/\L7 t a x/\Ev r ys
def DI (P:Program) (n:Nat) (t:TypeId):Option (Ty × Bool):=(uX P n t).bind fun ty=>(P.underlying t).map fun d=>(ty,iQ d)
section
variable {H:Type} {enc:TypeId × Value->H} {P:Program} {w:World} {base:Nat}
theorem Pe {n:Nat} {t:TypeId} {ty:Ty} {agg:Bool} {v:Value} {d:DataW H} {ps:List MemPlace} {r:Reach} {b:Nat} (pZ:DI P n t=some (ty,agg)) (h:DataW.Trod enc P w 0 (fun _=>true) true t v d ps)
 (hv:Value.okWide P w r b t v) (hw: ∀x∈d.weights P t,x<=reachBytes): ∃x,aw (fun _=>0) (fun b _=>b<w.heap.size) w 0 x v/\x.cB=true/\L7 ty agg x:=by
 obtain ⟨NZ,h1,h2⟩:=Option.bind_eq_some_iff.1 pZ
 obtain ⟨JZ,h3,h4⟩:=Option.map_eq_some_iff.1 h2
 simp only [Prod.mk.injEq] at h4
 obtain ⟨rfl,rfl⟩:=h4
 obtain ⟨m,hm⟩:=h
 obtain ⟨vs,k1,k2⟩:=MM n t NZ h1 m _ d ps hm hw (.inr (yA hv))
 have kG:=hv
 unfold Value.okWide at kG
 rw [h3] at kG
 by_cases hr:iQ JZ=true
 · have: ∃cs,v= .agg cs:=by
    cases JZ<;>simp [iQ] at hr<;>obtain ⟨cs,h,_⟩:=kG<;>exact ⟨cs,h⟩
   obtain ⟨cs,rfl⟩:=this
   refine ⟨.agg vs,.agg (by rw [k1.1];simp [Value.cells]) fun k u c hu hc=>(k1.2 k u c hu (by simpa [Value.cells] using hc)).1,rfl,?_⟩
   unfold L7;rw [if_pos hr];exact ⟨vs,rfl,k2⟩
 · have hr:iQ JZ=false:=by simpa using hr
   obtain ⟨x,rfl,hx⟩:=uY k2 (AA h1 h3 hr)
   have hl:=k1.1
   have Rh:v.cells.toList=[v]:=by
    cases v with
    | agg cs=>
      exfalso
      cases JZ<;>simp [iQ] at hr<;>simp [Cell.okWide,Cell.ok,h3] at kG
    | _=>rfl
   rw [Rh] at k1
   have:=k1.2 0 x v rfl rfl
   refine ⟨x,this.1,this.2.1,?_⟩
   unfold L7;rw [if_neg (by simp [hr])];exact k2
theorem Hh {n:Nat} {r:Reach} {b:Nat}: ∀ {ts:List TypeId} {F_:List (Ty × Bool)} {vs:List Value} {ds:List (DataW H)} {ps:List MemPlace},ts.mapM (DI P n)=some F_->DataW.TrodAll enc P w 0 (fun _=>true) true ts vs ds ps->
 (∀(j:Nat) t v,ts[j]? =some t->vs[j]? =some v->Value.okWide P w r b t v)->(∀x∈DataW.weightsEach P ts ds,x<=reachBytes)->
 ∃xs:List V,xs.length=vs.length/\(∀(k:Nat) x v,xs[k]? =some x->vs[k]? =some v->aw (fun _=>0) (fun b _=>b<w.heap.size) w 0 x v/\x.cB=true)/\Ev F_ xs
 | [],F_,vs,ds,ps,h,ht,hv,hw=>by
   simp at h;subst h
   cases vs with
   | nil=>exact ⟨[],rfl,by simp,rfl⟩
   | cons v vs=>cases ds<;>exact ht.elim
 | t::ts,F_,vs,ds,ps,h,ht,hv,hw=>by
   simp only [List.mapM_cons,bind,Option.bind_eq_some_iff] at h
   obtain ⟨t1,a1,tr,a2,a3⟩:=h
   simp only [pure,Option.some.injEq] at a3
   subst a3
   cases vs with
   | nil=>exact ht.elim
   | cons v vs=>
     cases ds with
     | nil=>exact ht.elim
     | cons d ds=>
       obtain ⟨p,q,h1,h2,rfl⟩:=ht
       obtain ⟨ty,agg⟩:=t1
       obtain ⟨x,b1,b2,b3⟩:=Pe a1 h1 (hv 0 t v rfl rfl) (fun x hx=>hw x (by simp only [DataW.weightsEach,List.mem_append];exact .inl hx))
       obtain ⟨xs,c1,c2,c3⟩:=Hh a2 h2 (fun j t v h h'=>hv (j+1) t v (by simpa using h) (by simpa using h')) (fun x hx=>hw x (by simp only [DataW.weightsEach,List.mem_append];exact .inr hx))
       refine ⟨x::xs,by simp [c1],fun k y z hy hz=> ?_,x,xs,rfl,b3,c3⟩
       cases k with
       | zero=>simp at hy hz;subst hy;subst hz;exact ⟨b1,b2⟩
       | succ k=>exact c2 k y z (by simpa using hy) (by simpa using hz)
theorem oW (hl:laidOutB P=true) {W W':World} (hb:Below W.heap.size W W'): ∀ {ts:List TypeId} {vs:List Value} {ds:List (DataW H)} {ps:List MemPlace},
 (ts.all fun t=>P.readableRec t &&decide (t<P.types.size))=true->DataW.TrodAll enc P W 0 (fun _=>true) true ts vs ds ps->DataW.TrodAll enc P W' 0 (fun b=>decide (b<W.heap.size)) true ts vs ds ps
 | [],[],[],_,_,h=>h
 | [],[],_::_,_,_,h=>h.elim
 | [],_::_,_,_,_,h=>h.elim
 | _::_,[],_,_,_,h=>h.elim
 | _::_,_::_,[],_,_,h=>h.elim
 | t::ts,v::vs,d::ds,ps,hr,h=>by
   simp only [List.all_cons,Bool.and_eq_true,decide_eq_true_eq] at hr
   obtain ⟨p,q,h1,h2,rfl⟩:=h
   refine ⟨p,q,Below.trod hl hr.1.1 hr.1.2 h1 hb ?_,oW hl hb hr.2 h2,rfl⟩
   obtain ⟨m,hm⟩:=h1
   exact DataW.trod_lt m _ _ _ hm
theorem E' {n f:Nat} {fn:Func} {body:Code} {r:Reach} {b:Nat} {ts:List TypeId} {F_:List (Ty × Bool)} {args:Array Value} {ds:List (DataW H)} {ps:List MemPlace} (hf:P.funcs[f]? =some fn) (hb:fn.body=some body)
 (hn:(fn.name== "runtime.NumGoroutine")=false) (pZ:ts.mapM (DI P n)=some F_)
 (ht:DataW.TrodAll enc P w 0 (fun _=>true) true ts args.toList ds ps) (hv: ∀(j:Nat) t v,ts[j]? =some t->args[j]? =some v->Value.okWide P w r b t v) (hw: ∀x∈DataW.weightsEach P ts ds,x<=reachBytes)
 (we: ∀b l,tJ b=some l-> ∀(k:Nat) v,l[k]? =some v->w.cell? ⟨b,k,none⟩=some v) (Ok: ∀b,zk b=true-> ∃m,w.cell? ⟨b,0,none⟩=some (.int .i64 m))
 (MP: ∀xs,Ev F_ xs->ah P f xs [] fun out _=>out= .ret (.bool true)):Calls P f args w fun e w'=>e= .returned (.bool true)/\Below w.heap.size w w':=by
 obtain ⟨xs,h1,h2,h3⟩:=Hh pZ ht (fun j t v h h'=>hv j t v h (by simpa using h')) hw
 have hc:=ah.open (MP xs h3)
 have Pf:a_ ⟨w,0,fun _=>0,fun b _=>b<w.heap.size,ma ⟨fun _=>0,fun b _=>b<w.heap.size,fun _=>⟨0,0,0⟩⟩ []⟩ ⟨fun _=>0,fun b _=>b<w.heap.size,fun _=>⟨0,0,0⟩⟩ w [] 0:=
  ⟨rfl,rfl,rfl,Nat.le_refl _,fun _ _ _=>rfl,Nat.le_refl _,fun o x h=>by simp at h,fun o x h=>by simp at h,fun o o' x x' h=>by simp at h,fun o x _ h=>by simp at h,fun o x h=>by simp at h,fun _ _ h=>h,fun _ _ _ _ h=>h,fun _ _ h=>h,
   fun o T cs k h=>by simp at h,fun o x k h=>by simp at h,fun i h=>absurd h (by omega),fun i j h=>absurd h (by omega),fun _ _ _=>rfl⟩
 refine (rm.calls hf hb hn).1 ((hc w ⟨fun _=>0,fun b _=>b<w.heap.size,fun _=>⟨0,0,0⟩⟩ args Pf (by simpa using h1) (fun k v x hx hy=> ?_) ⟨fun b l hb k v hk=>⟨we b l hb k v hk,?_⟩,fun b hb=>(Ok b hb).imp fun m h=>⟨h,?_⟩⟩).mono fun e w' he=> ?_)
 · obtain ⟨a1,a2⟩:=h2 k v x hx (by simpa using hy)
   exact ⟨a1,.fA a2⟩
 · show b<w.heap.size
   have h:=we b l hb k v hk
   rcases Nat.lt_or_ge b w.heap.size with h1 | h1
   · exact h1
   · unfold World.cell? at h
     rw [Array.getElem?_eq_none h1] at h
     cases h
 · show b<w.heap.size
   rcases Nat.lt_or_ge b w.heap.size with h1 | h1
   · exact h1
   · unfold World.cell? at h
     rw [Array.getElem?_eq_none h1] at h
     cases h
 · obtain ⟨out,c6,g',rfl,cQ,fE⟩:=he
   cases e with
   | returned x=>
     have hx:=fE.rel
     cases hx
     exact ⟨rfl,cQ.os,cQ.tape,cQ.output,cQ.size,fun k hk=>cQ.jG k hk (fun ⟨o,x,ho,_⟩=>by simp at ho)⟩
   | _=>exact fE.elim
end
end VL
namespace VL
open Go Go.RowKit Go.ChangeShapes
theorem nH {H:Type} {enc:TypeId × Value->H} {P:Program} {W:World} {b:Nat} {sp:Nat->Bool} {hd:Bool}: ∀ {ts:List TypeId} {vs:List Value} {ds:List (DataW H)} {ps:List MemPlace},
 DataW.TrodAll enc P W b sp hd ts vs ds ps->ds.length=ts.length
 | [],[],[],_,_=>rfl
 | [],[],_::_,_,h=>h.elim
 | [],_::_,_,_,h=>h.elim
 | _::_,[],_,_,h=>h.elim
 | _::_,_::_,[],_,h=>h.elim
 | t::ts,v::vs,d::ds,ps,h=>by
   obtain ⟨p,q,h1,h2,rfl⟩:=h
   simp [nH h2]
theorem Ge {C:Checked} {H:Type} {enc:TypeId × Value->H} {f:FuncId} {fn:Func} {s:ChangeSpec} {n:Nat} {F_:List (Ty × Bool)} {ts:List TypeId} {tb:TypeId} (uZ:fn.params.toList=ts) (hl:laidOutB C.prog=true)
 (pZ:ts.mapM (DI C.prog n)=some F_) (Hi:s.vars=[]) (UN:fn.resultTypes= #[tb]) (UO:C.prog.underlying tb=some .bool)
 (Pg:(ts.all fun t=>C.prog.readableRec t &&decide (t<C.prog.types.size))=true)
 (hs: ∀ds:List (DataW H),ds.length=ts.length->s.fn H ds= {results:=[.lit (.bool true)],args:=ds,vars:=[]})
 {body:Code} (hf:C.prog.funcs[f]? =some fn) (hb:fn.body=some body) (hn:(fn.name== "runtime.NumGoroutine")=false)
 (MP: ∀xs,Ev F_ xs->ah C.prog f xs [] fun out _=>out= .ret (.bool true))
 (W:World) (base:Nat) (args:Array Value) (ds gs:List (DataW H)) (before:List MemPlace)
 (kG: ∀(j:Nat) t v,fn.params[j]? =some t->args[j]? =some v->Value.okWide C.prog W .any base t v)
 (hW:DataW.Whole enc C.prog fn.params.toList s.vars false W args.toList ds gs before)
 (cg:(DataW.weightsEach C.prog (fn.params.toList++s.plain.varTypes C.prog) (ds++gs)).all (· <=reachBytes)=true)
 (we: ∀b l,tJ b=some l-> ∀(k:Nat) v,l[k]? =some v->W.cell? ⟨b,k,none⟩=some v:=by intro b l h;cases h)
 (Ok: ∀b,zk b=true-> ∃m,W.cell? ⟨b,0,none⟩=some (.int .i64 m):=by intro b h;cases h):
 Calls C.prog f args W fun e W'=> ∃v,e= .returned v/\s.post enc C.prog fn false true false false W args v W':=by
 have Tl:=hW
 obtain ⟨p,q,hA,hV,rfl,_,_⟩:=hW
 rw [Hi] at hV
 obtain ⟨rfl,rfl⟩:=trodVars_none hV
 have oJ:s.plain.varTypes C.prog=[]:=by simp [DataSpec.varTypes,ChangeSpec.plain,Hi]
 rw [oJ,List.append_nil,List.append_nil] at cg
 rw [uZ] at hA cg
 have hlen:=nH hA
 have aJ: ∀x∈p++[],x.block<W.heap.size:=fun x hx=>by simpa using Tl.lt x hx
 refine (E' (r:= .any) (b:=base) hf hb hn pZ hA (fun j t v h1 h2=>kG j t v (by rw [←uZ] at h1;simpa using h1) h2) (fun x hx=>by simpa using List.all_eq_true.1 cg x hx) we Ok MP).mono fun e W' ⟨he,hb⟩=> ?_
 have iw:=hs ds hlen
 refine ⟨_,he,ds,[],p++[],[],p,[],Tl,?_,?_,?_,hb.frame _,fun h=>by cases h⟩
 · rw [List.append_nil,iw,UN]
   exact trodAll_mk1 (shut_bool UO true)
 · rw [List.append_nil,iw,uZ]
   exact oW hl hb Pg hA
 · rw [Hi,List.append_nil,iw];exact rfl
end VL
namespace VL
open Go
theorem aA.dC {P:Program} {m:Nat} {code:Code} {K:Ex->St->Prop} {α:Type} (S:α->St) (R:α->Nat) (Inv:α->Prop) (h: ∀x,Inv x->(∀y,Inv y->R y<R x->aA P m code (S y) K)->aA P m code (S x) K) (x0:α) (h0:Inv x0):aA P m code (S x0) K:=by
 have key: ∀n x,R x<n->Inv x->aA P m code (S x) K:=fun n=>by
  induction n with
  | zero=>intro x hx;omega
  | succ n ih=>intro x hx hi;exact h x hi fun y hy hr=>ih y (by omega) hy
 exact key _ x0 (Nat.lt_succ_self _) h0
theorem wrap64 {x:Int} (h1: -9223372036854775808<=x) (h2:x<=9223372036854775807):IntKind.i64.wrap x=x:=by rw [IntKind.wrap_i64];omega
theorem yes {b:Bool} {x y:Prop} (hb:b=true) (h:x): @Bool.rec (fun _=>Prop) y x b:=by subst hb;exact h
theorem no {b:Bool} {x y:Prop} (hb:b=false) (h:y): @Bool.rec (fun _=>Prop) y x b:=by subst hb;exact h
def bL (l:List Int):List V:=l.map (V.int .u8)
theorem yB (l:List Int):(bL l).length=l.length:=by simp [bL]
theorem yC (l:List Int) (i:Nat):(bL l)[i]? =(l[i]?).map (V.int .u8):=by simp [bL]
def sB (s:ByteArray):List Int:=s.data.toList.map fun b=>(b.toNat:Int)
theorem ou (s:ByteArray):bK s=bL (sB s):=by simp [bK,bL,sB]
theorem bh (s:ByteArray):(sB s).length=s.size:=by unfold sB;rw [List.length_map,Array.length_toList];rfl
theorem kA (s:ByteArray): ∀x∈sB s,0<=x/\x<256:=by
 intro x hx
 obtain ⟨b,_,rfl⟩:=List.mem_map.1 hx
 have:=b.toNat_lt
 omega
def az (l:List Int):ByteArray:=⟨(l.map fun x=>UInt8.ofNat x.toNat).toArray⟩
theorem aT {l:List Int} (h: ∀x∈l,0<=x/\x<256):sB (az l)=l:=by
 simp only [sB,az,List.map_map]
 conv=>rhs;rw [←List.map_id l]
 apply List.map_congr_left
 intro x hx
 have:=h x hx
 simp only [Function.comp,id,UInt8.toNat_ofNat',Nat.reducePow]
 omega
theorem gk (s:ByteArray):az (sB s)=s:=by
 have: ∀b:UInt8,UInt8.ofNat ((b.toNat:Int)).toNat=b:=fun b=>by rw [Int.toNat_natCast,UInt8.ofNat_toNat]
 unfold sB az
 rw [List.map_map]
 have e:((fun x:Int=>UInt8.ofNat x.toNat) ∘ fun b:UInt8=>(b.toNat:Int))=id:=funext this
 rw [e,List.map_id]
theorem u0 {l:List Int} (h: ∀x∈l,0<=x/\x<256):bL l=bK (az l):=by rw [ou,aT h]
theorem bO (l:List Int):(az l).size=l.length:=by unfold az;show (List.map _ l).toArray.size=_;rw [List.size_toArray,List.length_map]
theorem fo.int {k:IntKind} {r:List Ty} {vs:List V} (h:fo (.int k::r) vs): ∃n b,vs= .int k n::b/\(Lit.int k n).wf=true/\fo r b:=by
 simp only [fo,v7] at h
 obtain ⟨a,b,rfl,⟨n,rfl,hw⟩,hb⟩:=h
 exact ⟨n,b,rfl,hw,hb⟩
end VL
namespace VL
theorem an:(∀(p:Prop) [Decidable p],(decide p=true)=p)/\(∀(p:Prop) [Decidable p],(decide p=false)↔ ¬p)/\(∀b:Bool,((!b)=true)=(b=false))/\(∀b:Bool,((!b)=false)=(b=true))/\
 (∀(α:Type) [BEq α] [LawfulBEq α] (a b:α),(a==b)=true↔a=b)/\(∀(α:Type) [BEq α] [LawfulBEq α] (a b:α),(a==b)=false↔a≠b)/\
 (∀(α:Type) [BEq α] [LawfulBEq α] (a b:α),(a !=b)=true↔a≠b)/\(∀(α:Type) [BEq α] [LawfulBEq α] (a b:α),(a !=b)=false↔a=b)/\
 (∀(α:Type) (a b:α),(a≠b)= ¬(a=b))/\(∀(α:Type) [LT α] (x y:α),x>y↔y<x)/\(∀(α:Type) [LE α] (x y:α),x ≥ y↔y<=x)/\
 (∀a b:Int, ¬a<b↔b<=a)/\(∀a b:Int, ¬a<=b↔b<a)/\(∀a b:Nat, ¬a<b↔b<=a)/\(∀a b:Nat, ¬a<=b↔b<a)/\
 (∀b:Bool,(¬(b=true))=(b=false))/\(∀b:Bool,(¬(b=false))=(b=true))/\(∀(p:Prop) [Decidable p], ¬¬p↔p):=
 ⟨fun _ _=>decide_eq_true_eq,fun _ _=>decide_eq_false_iff_not,fun b=>by cases b<;>simp,fun b=>by cases b<;>simp,fun _ _ _ _ _=>beq_iff_eq,fun _ _ _ _ _=>beq_eq_false_iff_ne,fun _ _ _ _ _=>bne_iff_ne,fun _ _ _ _ _=>bne_eq_false_iff_eq,
  fun _ _ _=>ne_eq _ _,fun _ _ _ _=>gt_iff_lt,fun _ _ _ _=>ge_iff_le,fun _ _=>Int.not_lt,fun _ _=>Int.not_le,fun _ _=>Nat.not_lt,fun _ _=>Nat.not_le,fun b=>by cases b<;>simp,fun b=>by cases b<;>simp,fun _ _=>Decidable.not_not⟩
end VL
namespace VL
open Go
theorem J0 (b:ByteArray): ∀(k i:Nat) (r:List UInt8),i+k=b.size->ByteArray.toList.loop b i r=r.reverse++b.data.toList.drop i:=by
 intro k
 induction k with
 | zero=>
   intro i r h
   rw [ByteArray.toList.loop]
   rw [if_neg (by omega),List.drop_eq_nil_of_le (by rw [Array.length_toList];show b.size<=i;omega),List.append_nil]
 | succ k ih=>
   intro i r h
   rw [ByteArray.toList.loop]
   have hi:i<b.size:=by omega
   rw [if_pos hi,ih (i+1) _ (by omega)]
   have hl:i<b.data.toList.length:=by rw [Array.length_toList];exact hi
   rw [List.drop_eq_getElem_cons hl,List.reverse_cons,List.append_assoc]
   congr 1
   show [b.get! i]++_=_
   rw [List.singleton_append]
   congr 1
   show b.data[i]! =_
   rw [getElem!_pos b.data i hi];simp
theorem xj (b:ByteArray):b.toList=b.data.toList:=by
 unfold ByteArray.toList
 rw [J0 b b.size 0 [] (by omega)];simp
theorem Hj {a b:ByteArray} (h:sB a=sB b):a=b:=by
 rw [←gk a, ←gk b,h]
theorem bS (a b:ByteArray):sB (a++b)=sB a++sB b:=by
 unfold sB;simp
theorem nI (s:ByteArray) (i j:Nat):sB (s.extract i j)=((sB s).take j).drop i:=by
 unfold sB;simp [ByteArray.data_extract,List.extract_eq_drop_take',List.map_drop,List.map_take]
theorem kB (a b:ByteArray):(a.toList==b.toList)=(sB a==sB b):=by
 rw [xj,xj,Bool.eq_iff_iff]
 simp only [beq_iff_eq]
 constructor
 · intro h;unfold sB;rw [h]
 · intro h;have:=Hj h;rw [this]
theorem DJ {s:ByteArray} {i:Nat} (h:i<s.size): ∃c,s[i]? =some c/\(sB s)[i]? =some (c.toNat:Int):=by
 refine ⟨s[i],by simp [h],?_⟩
 unfold sB
 have:i<s.data.toList.length:=by rw [Array.length_toList];exact h
 rw [List.getElem?_map,List.getElem?_eq_getElem this,Array.getElem_toList]
 rfl
theorem aU {s:ByteArray} {n:Int} {P:UInt8->Prop} {x:Int} (hn:0<=n) (hx:(sB s)[n.toNat]? =some x) (h: ∀c:UInt8,(c.toNat:Int)=x->P c):0<=n/\ ∃c,s[n.toNat]? =some c/\P c:=by
 have hl:n.toNat<s.size:=by rw [←bh];exact (List.getElem?_eq_some_iff.1 hx).1
 obtain ⟨c,h1,h2⟩:=DJ hl
 rw [hx] at h2
 exact ⟨hn,c,h1,h c (by simpa using h2.symm)⟩
theorem c9 (a b:List Int):az a++az b=az (a++b):=by
 have: ∀x y:ByteArray,x.data=y.data->x=y:=fun x y h=>by cases x;cases y;simp_all
 apply this
 simp [az]
end VL
namespace VL
open Go
end VL
namespace VL
open Go
theorem Hk {P:Program} {f:FuncId} {fn:Func} {body:Code} (hf:P.funcs[f]? =some fn) (hb:fn.body=some body) (hn:(fn.name== "runtime.NumGoroutine")=false) {s t:ByteArray} {r:V} {x:Value}
 (hr: ∀bs I w n,aw bs I w n r x) (ht:r.cB=true) (hc: ∀w:World,(∀b,zk b=true-> ∃m,w.cell? ⟨b,0,none⟩=some (.int .i64 m))->Calls P f #[.string s,.string t] w fun e w'=>e= .returned x/\w'=w)
 {K:Out->List af->Prop} (h:K (.ret r) []):ah P f [.str s,.str t] [] K:=by
 refine .shut fun w g b9 cQ cg uq we=> ?_
 obtain ⟨x,y,rfl⟩: ∃x y,b9= #[x,y]:=by
  match b9,cg with
  | ⟨[x,y]⟩,_=>exact ⟨x,y,rfl⟩
 have hx:=(uq 0 _ x rfl rfl).rel
 have hy:=(uq 1 _ y rfl rfl).rel
 cases hx
 cases hy
 refine (rm.calls hf hb hn).2 ((hc w fun b hb=>(we.2 b hb).imp fun m h=>h.1).mono ?_)
 rintro e w' ⟨rfl,rfl⟩
 exact ⟨.ret r,[],g,h,cQ,⟨hr _ _ _ _,.fA ht⟩⟩
end VL
namespace VL
open Go
def V.isInt:V->Bool
 | .int _ _=>true
 | _=>false
def pD (ob:List af):V->(V->Prop)->Prop
 | .bX o z lo n c,K=>cA ob o fun x=>match x with
   | .buf false z' L=>(match Nat.beq z z' with | true=>lo+c<=L.length/\K (.sl ((L.drop lo).take n) .no) | false=>False)
   | .cells _ _ cs=>(match Nat.beq z 1 &&((cs.drop lo).take c).all V.isInt with | true=>lo+c<=cs.length/\K (.sl ((cs.drop lo).take n) .no) | false=>False)
   | _=>False
 | .int k n,K=>K (.int k n)
 | .bool b,K=>K (.bool b)
 | .str s,K=>K (.str s)
 | .sl l r,K=>K (.sl l .no)
 | .fn (.func f) [] [],K=>K (.fn (.func f) [] [])
 | _,_=>False
def rI (ob:List af):V->(V->Prop)->Prop
 | .agg l,K=>cd (pD ob) l fun l=>K (.agg l)
 | v,K=>pD ob v K
def G.eb (g:G) (ob:List af):G:= {g with I:=fun b k=>g.I b k\/(∃(i z:Nat) (L:List V),ob[i]? =some (.buf false z L)/\L≠[]/\b=g.bs i/\k<L.length*z)\/
 ∃(i:Nat) (m:Bool) (T:TypeId) (cs:List V) (v:V),ob[i]? =some (.cells m T cs)/\b=g.bs i/\cs[k]? =some v/\v.isInt=true}
theorem u9: ∀ {l:List V},(∀v∈l,v.isInt=true)->l.flatMap V.cells=l
 | [],_=>rfl
 | v::r,h=>by
   have h1:=h v (.head _)
   have h2:=u9 (l:=r) fun v hv=>h v (.tail _ hv)
   rw [List.flatMap_cons,h2]
   cases v<;>first | rfl | cases h1
theorem J1 {g:G} {w:World} {n nt i lo m c:Nat} {mv:Bool} {T:TypeId} {cs:List V} {x:Value} {I':Nat->Nat->Prop} (hr:fx g w n nt (g.bs i) (.cells mv T cs)) (h:aw g.bs I' w n (.bX i 1 lo m c) x)
 (hi: ∀v∈(cs.drop lo).take c,v.isInt=true) (hb:lo+c<=cs.length) (hI: ∀k v,cs[k]? =some v->v.isInt=true->I' (g.bs i) k):
 aw g.bs I' w n (.sl ((cs.drop lo).take m) .no) x:=by
 cases h with | @bX _ _ _ _ _ _ ad aJ hle ha hf=>
 have oK:((cs.drop lo).take m).length=m:=by simp;omega
 rcases Nat.eq_zero_or_pos c with hc | hc
 · subst hc
   have Je:m=0:=by omega
   subst Je
   rw [List.take_zero]
   rcases hf with rfl | ⟨b,k,rfl⟩
   · exact .slnil
   · exact .sl (sz:=0) (fun _=>undef) rfl (Nat.le_refl _) (by simp) (by simp) (by simp) (by simp)
 · obtain rfl:=ha.resolve_left (by omega)
   obtain ⟨arr,a1,a2,a3⟩:=hr
   have iA: ∀v∈(cs.drop lo).take m,v.isInt=true:=fun v hv=>hi v (by
    rw [show m=min m c by omega, ←List.take_take] at hv
    exact List.mem_of_mem_take hv)
   have key: ∀(k:Nat) v,((cs.drop lo).take m)[k]? =some v->(w.cell? ⟨g.bs i,lo*1+k,none⟩=some (arr.getD (lo*1+k) undef)/\I' (g.bs i) (lo*1+k))/\aw g.bs I' w 0 v (arr.getD (lo*1+k) undef):=fun k v hk=>by
    have Hf:=iA v (List.mem_of_getElem? hk)
    have O5:k<m:=by
     have:=(List.getElem?_eq_some_iff.1 hk).1
     rw [oK] at this;exact this
    rw [List.getElem?_take,if_pos O5,List.getElem?_drop] at hk
    have EM:lo*1+k<arr.size:=by omega
    have Tm:lo+k<arr.size:=by omega
    have hg:arr.getD (lo*1+k) undef=arr[lo*1+k]:=by simp [Array.getD,Tm]
    have iM:cs[lo*1+k]? =some v:=by rw [Nat.mul_one];exact hk
    refine ⟨⟨by simp [World.cell?,a1,Array.getD,Tm],hI _ v iM Hf⟩,?_⟩
    rw [hg]
    have hv:=(a3 _ v _ iM (show arr[lo*1+k]? =some arr[lo*1+k] by simp [EM])).1.rel
    cases v<;>first | cases Hf | skip
    generalize arr[lo*1+k]=y at hv
    cases hv
    exact .int
   exact .sl (sz:=1) (fun k=>arr.getD (lo*1+k) undef) oK.symm hle (by simp) (fun y hy=>by
    have:=iA y hy
    cases y<;>first | exact ⟨rfl,by decide⟩ | cases this | skip
    exact ⟨rfl,by simp [V.cells,V.aE]⟩)
    (fun k v hk=>(key k v (by rwa [u9 iA] at hk)).1) (fun k v hk=>(key k v (by rwa [u9 iA] at hk)).2)
theorem qp {g:G} {w:World} {ob:List af} (iK: ∀(i z:Nat) (L:List V),ob[i]? =some (.buf false z L)->Row (g.eb ob) w i z L)
 (AB: ∀(i:Nat) (m:Bool) (T:TypeId) (cs:List V),ob[i]? =some (.cells m T cs)->fx g w ob.length 0 (g.bs i) (.cells m T cs)) (hI: ∀b k,g.I b k->(g.eb ob).I b k) {v:V} {K:V->Prop} (h:pD ob v K):
 ∃v',(∀x,aw g.bs g.I w ob.length v x->aw (g.eb ob).bs (g.eb ob).I w 0 v' x)/\v'.cB=true/\K v':=by
 have hm: ∀ {v x},aw g.bs g.I w 0 v x->aw (g.eb ob).bs (g.eb ob).I w 0 v x:=fun h=>h.mono (fun o ho=>absurd ho (by omega)) fun b k h=>⟨hI b k h,rfl⟩
 unfold pD at h
 split at h
 · obtain ⟨x1,Dm,h2⟩:=aX h
   clear h
   split at h2
   · split at h2
     · rename_i L _ hz
       have hz:=Nat.eq_of_beq_eq_true hz
       subst hz
       refine ⟨_,fun x hv=> ?_,?_,h2.2⟩
       · have hr:=iK _ _ _ Dm
         have iV:aw (g.eb ob).bs (g.eb ob).I w ob.length _ x:=hv.mono (fun o ho=>⟨ho,rfl⟩) fun b k h=>⟨hI b k h,rfl⟩
         exact (Cm (sp:=false) hr iV h2.1).2.low rfl
       · rfl
     · exact h2.elim
   · split at h2
     · rename_i cs hz
       rw [Bool.and_eq_true] at hz
       have xL:=Nat.eq_of_beq_eq_true hz.1
       subst xL
       refine ⟨_,fun x hv=> ?_,?_,h2.2⟩
       · have hr:=AB _ _ _ _ Dm
         have iV:aw (g.eb ob).bs (g.eb ob).I w ob.length _ x:=hv.mono (fun o ho=>⟨ho,rfl⟩) fun b k h=>⟨hI b k h,rfl⟩
         exact (J1 hr iV (List.all_eq_true.1 hz.2) h2.1 fun k v hk Hf=> .inr (.inr ⟨_,_,_,_,_,Dm,rfl,hk,Hf⟩)).low rfl
       · rfl
     · exact h2.elim
   · exact h2.elim
 · exact ⟨_,fun x hx=>hm (hx.low rfl),rfl,h⟩
 · exact ⟨_,fun x hx=>hm (hx.low rfl),rfl,h⟩
 · exact ⟨_,fun x hx=>hm (hx.low rfl),rfl,h⟩
 · exact ⟨_,fun x hx=>hm ((hx.room .no (by simp)).low rfl),rfl,h⟩
 · exact ⟨_,fun x hx=>hm (hx.low rfl),rfl,h⟩
 · exact h.elim
theorem u_ {g:G} {w:World} {ob:List af} (iK: ∀(i z:Nat) (L:List V),ob[i]? =some (.buf false z L)->Row (g.eb ob) w i z L)
 (AB: ∀(i:Nat) (m:Bool) (T:TypeId) (cs:List V),ob[i]? =some (.cells m T cs)->fx g w ob.length 0 (g.bs i) (.cells m T cs)) (hI: ∀b k,g.I b k->(g.eb ob).I b k):
 ∀ {l:List V} {K:List V->Prop},cd (pD ob) l K-> ∃l',l'.length=l.length/\(∀(k:Nat) v',l'[k]? =some v'-> ∃v,l[k]? =some v/\ ∀x,aw g.bs g.I w ob.length v x->aw (g.eb ob).bs (g.eb ob).I w 0 v' x)/\(∀v∈l',v.cB=true)/\K l'
 | [],K,h=>⟨[],rfl,by simp,by simp,h⟩
 | v::r,K,h=>by
   have h:pD ob v fun v'=>cd (pD ob) r fun r=>K (v'::r):=h
   obtain ⟨v',a1,a2,h⟩:=qp iK AB hI h
   obtain ⟨r',b1,b2,b3,h⟩:=u_ iK AB hI h
   refine ⟨v'::r',by simp [b1],fun k u hu=> ?_,fun u hu=> ?_,h⟩
   · cases k with
     | zero=>simp at hu;subst hu;exact ⟨v,rfl,a1⟩
     | succ k=>exact b2 k u (by simpa using hu)
   · rcases List.mem_cons.1 hu with rfl | hu
     · exact a2
     · exact b3 u hu
theorem vd {g:G} {w:World} {ob:List af} (iK: ∀(i z:Nat) (L:List V),ob[i]? =some (.buf false z L)->Row (g.eb ob) w i z L)
 (AB: ∀(i:Nat) (m:Bool) (T:TypeId) (cs:List V),ob[i]? =some (.cells m T cs)->fx g w ob.length 0 (g.bs i) (.cells m T cs)) (hI: ∀b k,g.I b k->(g.eb ob).I b k):
 ∀ {args:List V} {K:List V->Prop},cd (rI ob) args K-> ∃cI,cI.length=args.length/\(∀(k:Nat) v',cI[k]? =some v'-> ∃v,args[k]? =some v/\ ∀x,VT g w ob.length 0 v x->VT (g.eb ob) w 0 0 v' x)/\K cI
 | [],K,h=>⟨[],rfl,by simp,h⟩
 | v::r,K,h=>by
   have key: ∀v':V,(∀x,VT g w ob.length 0 v x->VT (g.eb ob) w 0 0 v' x)->cd (rI ob) r (fun r=>K (v'::r))-> ∃cI,cI.length=(v::r).length/\(∀(k:Nat) v',cI[k]? =some v'-> ∃u,(v::r)[k]? =some u/\ ∀x,VT g w ob.length 0 u x->VT (g.eb ob) w 0 0 v' x)/\K cI:=fun v' hv h=>by
    obtain ⟨r',b1,b2,h⟩:=vd iK AB hI h
    refine ⟨v'::r',by simp [b1],fun k u hu=> ?_,h⟩
    cases k with
    | zero=>simp at hu;subst hu;exact ⟨v,rfl,hv⟩
    | succ k=>exact b2 k u (by simpa using hu)
   have h:rI ob v fun v'=>cd (rI ob) r fun r=>K (v'::r):=h
   unfold rI at h
   split at h
   · rename_i l
     obtain ⟨l',a1,a2,a3,h⟩:=u_ iK AB hI h
     refine key _ (fun x hx=> .of ?_ ?_) h
     · have hr:=hx.rel
       cases hr with
       | agg hl hc=>
         refine .agg (by rw [a1];exact hl) fun k v c hk zA=> ?_
         obtain ⟨u,hu,q⟩:=a2 k v hk
         exact q c (hc k u c hu zA)
     · rfl
   · obtain ⟨v',a1,a2,h⟩:=qp iK AB hI h
     exact key v' (fun x hx=> .of (a1 x hx.rel) a2) h
theorem ah.nJ {P:Program} {f:FuncId} {args:List V} {ob:List af} {K:Out->List af->Prop}
 (h:cd (rI ob) args fun cI=>ah P f cI [] fun out _=>match out with | .ret v=>V.bare v=true/\K (.ret v) ob | .dw _=>False):ah P f args ob K:=by
 refine .shut fun w g b9 cQ cg hr we=> ?_
 have UP: ∀b k,(g.eb ob).I b k->b<w.heap.size:=by
  rintro b k (h | ⟨i,z,L,h1,h2,rfl,_⟩ | ⟨i,m,T,cs,v,h1,rfl,_⟩)
  · exact cQ.i3 b k h
  · exact cQ.lt i _ h1 (by simp [af.real,h2])
  · exact cQ.lt i _ h1 rfl
 have iK: ∀(i z:Nat) (L:List V),ob[i]? =some (.buf false z L)->Row (g.eb ob) w i z L:=fun i z L hi=>by
  refine ⟨?_⟩
  by_cases hL:L=[]
  · exact .inl hL
  · obtain ⟨arr,T,a1,_,a2,a3,a4⟩:=(cQ.obj i _ hi).resolve_left hL
    exact .inr ⟨arr,T,a1.any,a2,a3,fun k v c hv hc=>(a4 k v c hv hc).1.mono (fun o ho=>absurd ho (by omega)) fun b k h=>⟨.inl h,rfl⟩,fun k hk=> .inr (.inl ⟨i,z,L,hi,hL,rfl,hk⟩)⟩
 obtain ⟨cI,l1,l2,h⟩:=vd iK (fun i m T cs hi=>cQ.obj i _ hi) (fun b k h=> .inl h) h
 have Ph:a_ ⟨w,0,(g.eb ob).bs,(g.eb ob).I,ma (g.eb ob) []⟩ (g.eb ob) w [] 0:=by
  refine ⟨rfl,rfl,rfl,Nat.le_refl _,fun _ _ _=>rfl,Nat.le_refl _,by simp,by simp,by simp,by simp,by simp,fun _ _ h=>h,fun _ _ _ _ h=>h,UP,by simp,by simp,fun i hi=>absurd hi (by omega),fun i j hi=>absurd hi (by omega),fun _ _ _=>rfl⟩
 refine (h.open w (g.eb ob) b9 Ph (by rw [l1];exact cg) (fun k v' x hv hx=> ?_) ⟨fun b l hb k v hk=>⟨(we.1 b l hb k v hk).1,.inl (we.1 b l hb k v hk).2⟩,fun b hb=>(we.2 b hb).imp fun m h=>⟨h.1,.inl h.2⟩⟩).mono fun e w' ⟨out,sub,g',hk,oS,he⟩=> ?_
 · obtain ⟨v,iV,q⟩:=l2 k v' hv
   exact q x (hr k v x iV hx)
 · cases out with
   | dw v=>exact hk.elim
   | ret v=>
     obtain ⟨LJ,hk⟩:=hk
     obtain ⟨x,rfl⟩: ∃x,e= .returned x:=by
      cases e with
      | returned x=>exact ⟨x,rfl⟩
      | _=>exact he.elim
     have sc: ∀b,b<w.heap.size->w'.heap[b]? =w.heap[b]? :=fun b hb=>oS.jG b hb (by rintro ⟨o,x,h,_⟩;simp at h)
     have e7: ∀b k,g.I b k->w'.cell? ⟨b,k,none⟩=w.cell? ⟨b,k,none⟩:=fun b k hI=>by
      have:=sc b (cQ.i3 b k hI)
      simp [World.cell?,this]
     have hex:Ext g w ob.length 0 g w' ob.length 0:=⟨Nat.le_refl _,Nat.le_refl _,fun _ _=>rfl,fun b k h=>⟨h,e7 b k h⟩,fun _ _=>rfl⟩
     refine ⟨.ret v,ob,g,hk,?_,⟨(he.rel).bare LJ,.fA (by cases v<;>first | rfl | (simp [V.bare] at LJ))⟩⟩
     refine ⟨oS.os,oS.tape,oS.output,oS.size,fun b hb _=>sc b hb,Nat.le_refl _,fun o x hx=> ?_,fun o x hx hr=>Nat.lt_of_lt_of_le (cQ.lt o x hx hr) oS.size,cQ.inj,cQ.sH,cQ.new,cQ.i1,cQ.i2,
      fun b k h=>Nat.lt_of_lt_of_le (cQ.i3 b k h) oS.size,cQ.i4,cQ.i5,fun i hi=>absurd hi (by omega),fun i j hi=>absurd hi (by omega),fun b k h=> ?_⟩
     · exact hex.tQ (cQ.obj o x hx) fun hr=>sc _ (cQ.lt o x hx hr)
     · exact e7 b k h
end VL
namespace VL
open Go
section
variable {S:Sys} {c:Ctx} {Q:Exit->Act->World->Prop}
end
end VL
namespace B1
open Go Go.Proofs VL
end B1
namespace D1
open Go VL
def dg (n:Nat):List Int:=if n<10 then [48+(n:Int)] else dg (n/10)++[48+((n %10:Nat):Int)]
termination_by n
def fL:Nat->Nat->List Int
 | 0,_=>[]
 | w+1,n=>fL w (n/10)++[48+((n %10:Nat):Int)]
def vl (l:List Int):Nat:=l.foldl (fun v c=>10*v+(c - 48).toNat) 0
def cw (x:Int):Prop:=48<=x/\x<=57
instance (x:Int):Decidable (cw x):=inferInstanceAs (Decidable (_/\_))
theorem fI {n:Nat} (h:n<10):dg n=[48+(n:Int)]:=by rw [dg,if_pos h]
theorem pE {n:Nat} (h:10<=n):dg n=dg (n/10)++[48+((n %10:Nat):Int)]:=by rw [dg,if_neg (by omega)]
theorem cF: ∀(w n:Nat),(fL w n).length=w
 | 0,_=>rfl
 | w+1,n=>by simp [fL,cF w]
theorem gm: ∀(w n:Nat), ∀x∈fL w n,cw x
 | 0,_=>by simp [fL]
 | w+1,n=>by
   intro x hx
   simp only [fL,List.mem_append,List.mem_singleton] at hx
   rcases hx with hx | rfl
   · exact gm w _ x hx
   · unfold cw;omega
theorem ve: ∀(w n:Nat),10^w<=n->n<10^(w+1)->dg n=fL (w+1) n
 | 0,n,h1,h2=>by rw [fI (by simpa using h2)];simp at h2;simp [fL];omega
 | w+1,n,h1,h2=>by
   have e:(10:Nat)^(w+1)=10^w*10:=Nat.pow_succ ..
   have e2:(10:Nat)^(w+1+1)=10^(w+1)*10:=Nat.pow_succ ..
   have hp:1<=(10:Nat)^w:=Nat.one_le_pow _ _ (by omega)
   rw [pE (by omega),ve w (n/10) (by omega) (by omega)]
   rfl
theorem gn (n:Nat): ∀x∈dg n,cw x:=by
 induction n using Nat.strongRecOn with
 | _ n ih=>
   by_cases h:n<10
   · rw [fI h];simp [cw];omega
   · rw [pE (by omega)]
     intro x hx
     simp only [List.mem_append,List.mem_singleton] at hx
     rcases hx with hx | rfl
     · exact ih _ (by omega) x hx
     · unfold cw;omega
theorem LK (n:Nat):dg n≠[]:=by
 by_cases h:n<10
 · rw [fI h];simp
 · rw [pE (by omega)];simp
theorem mi (n:Nat):0<(dg n).length:=List.length_pos_iff.2 (LK n)
theorem ov: ∀(w n:Nat),n<10^(w+1)->(dg n).length<=w+1
 | 0,n,h=>by rw [fI (by simpa using h)];simp
 | w+1,n,h=>by
   by_cases h1:n<10
   · rw [fI h1];simp
   · have e2:(10:Nat)^(w+1+1)=10^(w+1)*10:=Nat.pow_succ ..
     rw [pE (by omega)]
     have:=ov w (n/10) (by omega)
     simp;omega
theorem xk: ∀(w n:Nat),10^w<=n->w+1<=(dg n).length
 | 0,n,h=>mi n
 | w+1,n,h=>by
   have e:(10:Nat)^(w+1)=10^w*10:=Nat.pow_succ ..
   have hp:1<=(10:Nat)^w:=Nat.one_le_pow _ _ (by omega)
   rw [pE (by omega)]
   have:=xk w (n/10) (by omega)
   simp;omega
theorem cX (l:List Int) (x:Int):vl (l++[x])=10*vl l+(x - 48).toNat:=by unfold vl;rw [List.foldl_append];rfl
theorem rJ:vl []=0:=rfl
theorem Hl: ∀(w n:Nat),vl (fL w n)=n %10^w
 | 0,n=>by simp [fL,rJ];omega
 | w+1,n=>by
   rw [fL,cX,Hl w,Nat.pow_succ,Nat.mul_comm (10^w) 10,Nat.mod_mul]
   omega
theorem Hm (n:Nat):vl (dg n)=n:=by
 induction n using Nat.strongRecOn with
 | _ n ih=>
   by_cases h:n<10
   · rw [fI h, ←List.nil_append [_],cX,rJ];omega
   · rw [pE (by omega),cX,ih _ (by omega)];omega
theorem J2 {n:Nat} (h:0<n): ∃x r,dg n=x::r/\x≠48:=by
 induction n using Nat.strongRecOn with
 | _ n ih=>
   by_cases h1:n<10
   · rw [fI h1];exact ⟨_,_,rfl,by omega⟩
   · rw [pE (by omega)]
     obtain ⟨x,r,e,hx⟩:=ih (n/10) (by omega) (by omega)
     rw [e];exact ⟨x,_,rfl,hx⟩
theorem mY: ∀(l:List Int),(∀x∈l,cw x)->vl l<10^l.length:=by
 intro l
 induction h:l.length generalizing l with
 | zero=>intro _;rw [List.length_eq_zero_iff.1 h];simp [rJ]
 | succ k ih=>
   intro hd
   obtain ⟨m,x,rfl⟩: ∃m x,l=m++[x]:=⟨l.dropLast,l.getLast (by intro e;simp [e] at h),(List.dropLast_concat_getLast _).symm⟩
   simp at h
   have:=ih m h fun y hy=>hd y (by simp [hy])
   have hx:=hd x (by simp)
   unfold cw at hx
   rw [cX,Nat.pow_succ]
   omega
theorem Hn: ∀(l:List Int),(∀x∈l,cw x)->fL l.length (vl l)=l:=by
 intro l
 induction h:l.length generalizing l with
 | zero=>intro _;rw [List.length_eq_zero_iff.1 h];rfl
 | succ k ih=>
   intro hd
   obtain ⟨m,x,rfl⟩: ∃m x,l=m++[x]:=⟨l.dropLast,l.getLast (by intro e;simp [e] at h),(List.dropLast_concat_getLast _).symm⟩
   simp at h
   have hx:=hd x (by simp)
   unfold cw at hx
   rw [cX,fL]
   rw [show (10*vl m+(x - 48).toNat)/10=vl m by omega,ih m h fun y hy=>hd y (by simp [hy])]
   congr 2
   omega
theorem MQ: ∀(l:List Int) (x:Int),x≠48->cw x->(∀y∈l,cw y)->10^l.length<=vl (x::l):=by
 intro l x hx hd hl
 induction h:l.length generalizing l with
 | zero=>
   rw [List.length_eq_zero_iff.1 h]
   unfold cw at hd
   rw [←List.nil_append [x],cX,rJ];simp;omega
 | succ k ih=>
   obtain ⟨m,y,rfl⟩: ∃m x,l=m++[x]:=⟨l.dropLast,l.getLast (by intro e;simp [e] at h),(List.dropLast_concat_getLast _).symm⟩
   simp at h
   have:=ih m (fun y hy=>hl y (by simp [hy])) h
   rw [←List.cons_append,cX,Nat.pow_succ]
   omega
theorem Pj {l:List Int} (hd: ∀x∈l,cw x) (h0:l≠[]) (h1:l.length=1\/l.head?≠some 48):dg (vl l)=l:=by
 cases l with
 | nil=>exact absurd rfl h0
 | cons x r=>
   by_cases hx:x=48
   · subst hx
     simp at h1
     subst h1
     rw [show vl [48]=0 from rfl,fI (by omega)];rfl
   · have h2:=MQ r x hx (hd x (by simp)) fun y hy=>hd y (by simp [hy])
     have h3:=mY _ hd
     rw [ve r.length _ h2 (by simpa using h3)]
     exact Hn _ hd
theorem rK: ∀(b a n:Nat),fL (a+b) n=fL a (n/10^b)++fL b n
 | 0,a,n=>by simp [fL]
 | b+1,a,n=>by
   rw [←Nat.add_assoc,fL,fL,rK b a,List.append_assoc,Nat.div_div_eq_div_mul,Nat.pow_succ,Nat.mul_comm (10^b) 10]
theorem AD (w n:Nat): ∀x∈fL w n,0<=x/\x<256:=fun x h=>by have:=gm w n x h;unfold cw at this;omega
theorem J3 (n:Nat): ∀x∈dg n,0<=x/\x<256:=fun x h=>by have:=gn n x h;unfold cw at this;omega
end D1
namespace B2
open Go Go.Proofs VL B1 D1
theorem gp {x:Int} (h1:0<=x) (h2:x<18446744073709551616):IntKind.u64.wrap x=x:=by
 have:IntKind.u64.wrap x=x %18446744073709551616:=by unfold IntKind.wrap;simp [IntKind.bits,IntKind.signed]
 omega
theorem MR (x:Int):IntKind.u8.wrap x=x %256:=by unfold IntKind.wrap;simp [IntKind.bits,IntKind.signed]
theorem Pk (n k:Nat) (hk:k<=64):o_ .shr .u64 (n:Int) (k:Int)=((n/2^k:Nat):Int):=by
 unfold o_
 simp only [Int.toNat_natCast]
 rw [show min k IntKind.u64.bits=k from Nat.min_eq_left hk,Int.fdiv_eq_ediv_of_nonneg _ (Int.pow_nonneg (by omega))]
 rfl
theorem vf (n:Nat):o_ .shr .u64 (n:Int) 32=((n/4294967296:Nat):Int):=Pk n 32 (by omega)
end B2
namespace B3
open Go Go.Proofs VL B1 D1 B2
end B3
namespace B4
open Go Go.Proofs VL B1 D1 B2 B3
theorem Cr {a:Nat} (h:a<18446744073709551616):IntKind.u64.wrap (a:Int)=a:=gp (by omega) (by omega)
end B4
namespace B5
open Go Go.Proofs VL B1 D1 B2 B3 B4
theorem lz {n:Nat} (h:n<18446744073709551616):(dg n).length<=20:=ov 19 n (by omega)
end B5
namespace B6
open Go Go.Proofs VL B1 D1 B2 B3 B4 B5
theorem Ho (n:Nat) (h:n<18446744073709551616):nf .and .u64 (n:Int) 4294967295=((n %4294967296:Nat):Int):=by
 unfold nf
 simp only
 have e1:(BitVec.ofInt IntKind.u64.bits (n:Int)).toNat=n:=by
  rw [BitVec.toNat_ofInt];show ((n:Int) %((2^64:Nat):Int)).toNat=_;omega
 have e2:(BitVec.ofInt IntKind.u64.bits 4294967295).toNat=2^32 - 1:=by decide
 rw [BitVec.toNat_and,e1,e2,Nat.and_two_pow_sub_one_eq_mod]
 rw [Cr (by omega)]
theorem tu {a b:Nat} (h:a*b<18446744073709551616):IntKind.u64.wrap ((a:Int)*(b:Int))=((a*b:Nat):Int):=by
 rw [←Int.natCast_mul,Cr h]
theorem tv {a b:Nat} (h:a+b<18446744073709551616):IntKind.u64.wrap ((a:Int)+(b:Int))=((a+b:Nat):Int):=by
 rw [←Int.natCast_add,Cr h]
theorem AE {a b:Nat} (ha:a<4294967296) (hb:b<4294967296):a*b<=18446744065119617025:=
 Nat.le_trans (Nat.mul_le_mul (show a<=4294967295 by omega) (show b<=4294967295 by omega)) (by decide)
theorem MS (a b:Nat) (ha:a<18446744073709551616) (hb:b<18446744073709551616):
 let t:=a/4294967296*(b %4294967296)+a %4294967296*(b %4294967296)/4294967296
 a/4294967296*(b/4294967296)+t/4294967296+(t %4294967296+a %4294967296*(b/4294967296))/4294967296=a*b/18446744073709551616:=by
 have e:a*b=a/4294967296*(b/4294967296)*18446744073709551616+(a/4294967296*(b %4294967296)+a %4294967296*(b/4294967296))*4294967296+a %4294967296*(b %4294967296):=by
  conv=>lhs;rw [←Nat.div_add_mod a 4294967296, ←Nat.div_add_mod b 4294967296]
  generalize a/4294967296=x1
  generalize a %4294967296=x0
  generalize b/4294967296=y1
  generalize b %4294967296=y0
  rw [Nat.add_mul,Nat.mul_add,Nat.mul_add,Nat.add_mul]
  rw [show 4294967296*x1*(4294967296*y1)=x1*y1*18446744073709551616 by rw [Nat.mul_mul_mul_comm,Nat.mul_comm]]
  rw [show 4294967296*x1*y0=x1*y0*4294967296 by rw [Nat.mul_assoc,Nat.mul_comm],show x0*(4294967296*y1)=x0*y1*4294967296 by rw [Nat.mul_left_comm,Nat.mul_comm]]
  omega
 have b1:=AE (a:=a/4294967296) (b:=b %4294967296) (by omega) (by omega)
 have b2:=AE (a:=a %4294967296) (b:=b/4294967296) (by omega) (by omega)
 have b3:=AE (a:=a %4294967296) (b:=b %4294967296) (by omega) (by omega)
 have b4:=AE (a:=a/4294967296) (b:=b/4294967296) (by omega) (by omega)
 rw [e]
 intro t
 show _=_
 simp only [t]
 generalize a/4294967296*(b/4294967296)=Ww at*
 generalize a/4294967296*(b %4294967296)=Wx at*
 generalize a %4294967296*(b/4294967296)=Wy at*
 generalize a %4294967296*(b %4294967296)=Wz at*
 clear e
 omega
theorem J4 (a b:Nat) (ha:a<18446744073709551616) (hb:b<18446744073709551616) (K) (hk:K (.ret (.aQ [.int .u64 ((a*b/18446744073709551616:Nat):Int),.int .u64 ((a*b %18446744073709551616:Nat):Int)])) []):
 ah Tryz.prog 162 [.int .u64 (a:Int),.int .u64 (b:Int)] [] K:=by
 have hh:=MS a b ha hb
 simp only at hh
 have b1:=AE (a:=a/4294967296) (b:=b %4294967296) (by omega) (by omega)
 have b2:=AE (a:=a %4294967296) (b:=b/4294967296) (by omega) (by omega)
 have b3:=AE (a:=a %4294967296) (b:=b %4294967296) (by omega) (by omega)
 have b4:=AE (a:=a/4294967296) (b:=b/4294967296) (by omega) (by omega)
 have Hq:a*b/18446744073709551616<18446744073709551616:=by
  rw [Nat.div_lt_iff_lt_mul (by omega)]
  exact Nat.lt_of_le_of_lt (Nat.mul_le_mul_right b (show a<=18446744073709551615 by omega)) (by omega)
 refine ag [] 0 Tryz.func162 (by rfl) (by rfl) ?_;(conv=>whnf);(repeat (refine aa [] ?_;conv=>whnf))
 rw [Ho a ha]
 (repeat (refine aa [] ?_;conv=>whnf))
 refine ⟨by omega,?_⟩;rw [vf a];(conv=>whnf);(repeat (refine aa [] ?_;conv=>whnf))
 rw [Ho b hb]
 refine ⟨by omega,?_⟩;rw [vf b];(conv=>whnf);(repeat (refine aa [] ?_;conv=>whnf))
 rw [tu (a:=a %4294967296) (b:=b %4294967296) (by omega)]
 refine ⟨by omega,?_⟩;rw [vf];(conv=>whnf);(repeat (refine aa [] ?_;conv=>whnf))
 rw [tu (a:=a/4294967296) (b:=b %4294967296) (by omega),tv (a:=a/4294967296*(b %4294967296)) (by omega)]
 generalize ht:a/4294967296*(b %4294967296)+a %4294967296*(b %4294967296)/4294967296=t at*
 have sN:t<18446744073709551616:=by omega
 rw [Ho t sN]
 rw [vf t]
 refine ⟨by omega,?_⟩;(conv=>whnf);(repeat (refine aa [] ?_;conv=>whnf))
 rw [tu (a:=a %4294967296) (b:=b/4294967296) (by omega),tv (a:=t %4294967296) (by omega)]
 rw [vf,tu (a:=a/4294967296) (b:=b/4294967296) (by omega),tv (a:=a/4294967296*(b/4294967296)) (by omega)]
 refine ⟨by omega,?_⟩
 (conv=>whnf);(repeat (refine aa [] ?_;conv=>whnf))
 rw [tv (a:=a/4294967296*(b/4294967296)+t/4294967296) (by omega),hh]
 refine Eq.mp (congrArg (fun x=>K (Out.ret (V.aQ [V.int IntKind.u64 ↑(a*b/18446744073709551616),V.int .u64 x])) []) ?_) hk
 have: ∀x,IntKind.u64.wrap x=x %18446744073709551616:=fun x=>by unfold IntKind.wrap;simp [IntKind.bits,IntKind.signed]
 rw [this, ←Int.natCast_mul];omega
theorem Pl (a b:Nat) (ha:a<18446744073709551616) (hb:b<18446744073709551616) (K) (hk:K (.ret (.aQ [.int .u64 ((a*b/18446744073709551616:Nat):Int),.int .u64 ((a*b %18446744073709551616:Nat):Int)])) []):
 ah Tryz.prog 151 [.int .u64 (a:Int),.int .u64 (b:Int)] [] K:=by
 refine ag [] 0 Tryz.func151 (by rfl) (by rfl) ?_;(conv=>whnf);(repeat (refine aa [] ?_;conv=>whnf))
 refine J4 a b ha hb _ ?_;(conv=>whnf);(repeat (refine aa [] ?_;conv=>whnf))
 exact hk
end B6
namespace B7
open Go Go.Proofs VL B1 D1 B2 B3 B4 B5 B6
def dJ (s t:List Int):Bool:=s.take t.length==t
theorem AF {s t:List Int} (h:dJ s t=true):t.length<=s.length:=by
 unfold dJ at h
 have:=congrArg List.length (beq_iff_eq.1 h)
 simp at this;omega
theorem DK (s t:ByteArray) (K) (h:K (.ret (.bool (dJ (sB s) (sB t)))) []):ah Tryz.prog 160 [.str s,.str t] [] K:=by
 refine ag [] 0 Tryz.func160 (by rfl) (by rfl) ?_;(conv=>whnf);(repeat (refine aa [] ?_;conv=>whnf))
 refine two (fun g=> ?_) (fun g=> ?_)
 · have g:t.size<=s.size:=by simp at g;omega
   conv=>whnf
   refine ⟨by omega,by omega,by omega,?_⟩;(conv=>whnf);(repeat (refine aa [] ?_;conv=>whnf))
   rw [kB,nI]
   refine Eq.mp (congrArg (fun x=>K (Out.ret (V.bool x)) []) ?_) h
   unfold dJ
   rw [bh,Int.toNat_natCast]
   simp
 · have g:s.size<t.size:=by simp at g;omega
   (conv=>whnf);(repeat (refine aa [] ?_;conv=>whnf))
   refine Eq.mp (congrArg (fun x=>K (Out.ret (V.bool x)) []) ?_) h
   cases e:dJ (sB s) (sB t) with
   | false=>rfl
   | true=>have:=AF e;rw [bh,bh] at this;omega
theorem Cs (s t:ByteArray) (K) (h:K (.ret (.bool (dJ (sB s) (sB t)))) []):ah Tryz.prog 152 [.str s,.str t] [] K:=by
 refine ag [] 0 Tryz.func152 (by rfl) (by rfl) ?_;(conv=>whnf);(repeat (refine aa [] ?_;conv=>whnf))
 refine DK s t _ ?_;(conv=>whnf);(repeat (refine aa [] ?_;conv=>whnf))
 exact h
theorem mj (s:ByteArray) {l:List Int} {i j:Nat} (h:((sB s).take j).drop i=l):s.extract i j=az l:=by
 rw [←h, ←nI,gk]
theorem Hr (s t:ByteArray) (K) (h:K (.ret (.aQ [.str (az (if dJ (sB s) (sB t) then (sB s).drop (sB t).length else sB s)),.bool (dJ (sB s) (sB t))])) []):ah Tryz.prog 138 [.str s,.str t] [] K:=by
 refine ag [] 0 Tryz.func138 (by rfl) (by rfl) ?_;(conv=>whnf);(repeat (refine aa [] ?_;conv=>whnf))
 have h':ah Tryz.prog 149 [.str s,.str t] [] fun o ob=>o= .ret (.aQ [.str (az (if dJ (sB s) (sB t) then (sB s).drop (sB t).length else sB s)),.bool (dJ (sB s) (sB t))])/\ob=[]:=by
  refine ag [] 0 Tryz.func149 (by rfl) (by rfl) ?_;(conv=>whnf);(repeat (refine aa [] ?_;conv=>whnf))
  refine DK s t _ ?_;(conv=>whnf);(repeat (refine aa [] ?_;conv=>whnf))
  refine two (fun g=> ?_) (fun g=> ?_)
  · have g:dJ (sB s) (sB t)=false:=by simpa using g
    rw [g];(conv=>whnf);(repeat (refine aa [] ?_;conv=>whnf))
    exact ⟨by simp [gk],rfl⟩
  · have g:dJ (sB s) (sB t)=true:=by simpa using g
    have hl:=AF g
    rw [bh,bh] at hl
    rw [g];(conv=>whnf);(repeat (refine aa [] ?_;conv=>whnf))
    refine ⟨by omega,by omega,?_⟩;(conv=>whnf);(repeat (refine aa [] ?_;conv=>whnf))
    refine ⟨?_,rfl⟩
    rw [if_pos rfl,mj s (l:=(sB s).drop (sB t).length) (by rw [bh,List.take_of_length_le (by rw [bh];omega)];simp)]
 refine ah.mono ?_ h'
 rintro _ _ ⟨rfl,rfl⟩
 (conv=>whnf);(repeat (refine aa [] ?_;conv=>whnf))
 exact h
def nK (s t:List Int):Bool:=decide (t.length<=s.length) &&(s.drop (s.length - t.length)==t)
theorem MT (s t:ByteArray) (K) (hs:s.size<9223372036854775808) (h:K (.ret (.aQ [.str (az (if nK (sB s) (sB t) then (sB s).take (s.size - t.size) else sB s)),.bool (nK (sB s) (sB t))])) []):ah Tryz.prog 136 [.str s,.str t] [] K:=by
 refine ag [] 0 Tryz.func136 (by rfl) (by rfl) ?_;(conv=>whnf);(repeat (refine aa [] ?_;conv=>whnf))
 have h0:ah Tryz.prog 159 [.str s,.str t] [] fun o ob=>o= .ret (.bool (nK (sB s) (sB t)))/\ob=[]:=by
  refine ag [] 0 Tryz.func159 (by rfl) (by rfl) ?_;(conv=>whnf);(repeat (refine aa [] ?_;conv=>whnf))
  refine two (fun g=> ?_) (fun g=> ?_)
  · have g:t.size<=s.size:=by simp at g;omega
    conv=>whnf
    have e:IntKind.i64.wrap ((s.size:Int) - (t.size:Int))=((s.size - t.size:Nat):Int):=by rw [wrap64 (by omega) (by omega)];omega
    rw [e]
    refine ⟨by omega,by omega,?_⟩;(conv=>whnf);(repeat (refine aa [] ?_;conv=>whnf))
    rw [kB,nI]
    refine ⟨?_,rfl⟩
    unfold nK
    rw [bh,bh,Int.toNat_natCast,List.take_of_length_le (by rw [bh];omega)]
    simp [g]
  · have g:s.size<t.size:=by simp at g;omega
    (conv=>whnf);(repeat (refine aa [] ?_;conv=>whnf))
    refine ⟨?_,rfl⟩
    unfold nK
    rw [bh,bh,decide_eq_false (by omega)];rfl
 have h':ah Tryz.prog 148 [.str s,.str t] [] fun o ob=>o= .ret (.aQ [.str (az (if nK (sB s) (sB t) then (sB s).take (s.size - t.size) else sB s)),.bool (nK (sB s) (sB t))])/\ob=[]:=by
  refine ag [] 0 Tryz.func148 (by rfl) (by rfl) ?_;(conv=>whnf);(repeat (refine aa [] ?_;conv=>whnf))
  refine ah.mono ?_ h0
  rintro _ _ ⟨rfl,rfl⟩
  (conv=>whnf);(repeat (refine aa [] ?_;conv=>whnf))
  refine two (fun g=> ?_) (fun g=> ?_)
  · have g:nK (sB s) (sB t)=false:=by simpa using g
    rw [g];(conv=>whnf);(repeat (refine aa [] ?_;conv=>whnf))
    exact ⟨by simp [gk],rfl⟩
  · have g:nK (sB s) (sB t)=true:=by simpa using g
    have hl:t.size<=s.size:=by
     unfold nK at g
     simp only [Bool.and_eq_true,decide_eq_true_eq,bh] at g
     exact g.1
    rw [g];(conv=>whnf);(repeat (refine aa [] ?_;conv=>whnf))
    have e:IntKind.i64.wrap ((s.size:Int) - (t.size:Int))=((s.size - t.size:Nat):Int):=by rw [wrap64 (by omega) (by omega)];omega
    rw [e]
    refine ⟨by omega,by omega,by omega,?_⟩;(conv=>whnf);(repeat (refine aa [] ?_;conv=>whnf))
    refine ⟨?_,rfl⟩
    rw [if_pos rfl,mj s (l:=(sB s).take (s.size - t.size)) (by simp)]
 refine ah.mono ?_ h'
 rintro _ _ ⟨rfl,rfl⟩
 (conv=>whnf);(repeat (refine aa [] ?_;conv=>whnf))
 exact h
end B7
