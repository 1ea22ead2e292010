/- Part Kb of the proof: VLOp8 VLOp9 VLOp10 VLOpB VLOpC VLOpD VLOpE VLUns VLOpF VLCall VLCall2 VLSound VLSound2 VLDraw1 VLDraw2 VLObs VLDraw3. -/
import Derived.Test.YtdjbfmfkeokfaaaGreatKa
import Derived.Laws.MakeOwn
import Derived.MapKept
import Derived.Lib.UnsafeStr
set_option linter.unusedVariables false
set_option linter.unusedSimpArgs false
set_option maxRecDepth 100000
namespace VL
open Go
section
variable {P:Program} {c:Ctx} {g:G} {w:World} {a:Act} {t:List V} {ob:List af} {nt:Nat} {df:List (Fn × List V × List V)}
theorem fy.bV {n i:Nat} {tm:Array Value} (h:fy g w n nt tm t) (hf: ∀v∈t,V.free i v) (f:Bw):fy (g.bV i f) w n nt tm t:=
 ⟨h.size,fun k v x hv hx=>(h.rel k v x hv hx).bV (hf v (List.mem_of_getElem? hv)) f,h.gl⟩
theorem gI.same {g':G} {n:Nat} {ds:List Deferred} (h:gI g w n ds df) (h1:g'.bs=g.bs) (h2:g'.I=g.I):gI g' w n ds df:=by
 induction h with
 | nil=>exact .nil
 | cons h _ ih=>
   obtain ⟨cap,a1,a2,a3,a4,a5⟩:=h
   exact .cons ⟨cap,a1,a2,a3,fun k v c hv hc=>by rw [h1,h2];exact a4 k v c hv hc,fun k v c hv hc=>by rw [h1,h2];exact a5 k v c hv hc⟩ ih
structure Src (P:Program) (g:G) (w:World) (z:Nat) (x:Value) (m:List V) (news:List Value):Prop where
 len: ∀w',(Builtin.lenOf x).run P w'= .ok m.length w'
 first: ∀w':World,w'.heap=w.heap-> ∀k,k<=m.length->(Builtin.firstCells z k x).run P w'= .ok (news.take (k*z)).toArray w'
 size:news.length=m.length*z
 one: ∀y∈news,y.oneCell'=true
 rel: ∀(k:Nat) v y,(m.flatMap V.cells)[k]? =some v->news[k]? =some y->aw g.bs g.I w 0 v y
 ok: ∀x∈m,x.cells.length=z/\x.cells.all V.aE=true
theorem Src.cells {P:Program} {g:G} {w:World} {z:Nat} {x:Value} {m:List V} {news:List Value} (h:Src P g w z x m news) (w':World) (oS:w'.heap=w.heap):(Builtin.firstCells z m.length x).run P w'= .ok news.toArray w':=by
 have:=h.first w' oS m.length (Nat.le_refl _)
 rwa [←h.size,List.take_length] at this
theorem ri {n z:Nat} {m:List V} {r:Room} {x:Value} (h:aw g.bs g.I w n (.sl m r) x) (hz: ∀y∈m,y.cells.length=z): ∃news,Src P g w z x m news:=by
 cases h with
 | slnil=>exact ⟨[],fun _=>rfl,fun w' _ k hk=>by simp [Builtin.firstCells],by simp,by simp,by simp,by simp⟩
 | @sl _ _ _ b off len cap sz u hl cu hr c_ hc hu=>
   have hlen:=jI hz
   have kv: ∀k,k<(m.flatMap V.cells).length-> ∃v,(m.flatMap V.cells)[k]? =some v:=fun k hk=>⟨_,List.getElem?_eq_getElem hk⟩
   refine ⟨(List.range (m.length*z)).map u,fun w'=>by simp [Builtin.lenOf,hl],fun w' oS k hk=> ?_,by simp,fun y hy=> ?_,fun k v y hv hy=> ?_,fun x hx=>⟨hz x hx,(c_ x hx).2⟩⟩
   · refine run_firstCells_some (P:=P) w' z k ⟨b,off,none⟩ len cap _ (by simp [List.length_take];first | exact Nat.min_eq_left (Nat.mul_le_mul_right z hk) | rw [Nat.min_eq_left hk]) fun j v hj=> ?_
     rw [List.getElem?_take] at hj
     split at hj
     case isFalse=>cases hj
     rename_i Mh
     have aJ:j<m.length*z:=Nat.lt_of_lt_of_le Mh (Nat.mul_le_mul_right z hk)
     obtain ⟨v',iV⟩:=kv j (by rw [hlen];exact aJ)
     rw [List.getElem?_map,List.getElem?_range aJ] at hj
     cases hj
     rw [Addr.add_mid]
     have:=(hc j v' iV).1
     simpa [World.cell?,oS] using this
   · obtain ⟨k,hk,rfl⟩:=List.mem_map.1 hy
     have aJ:k<m.length*z:=by simpa using hk
     obtain ⟨v',iV⟩:=kv k (by rw [hlen];exact aJ)
     obtain ⟨x',p5,Mi⟩:=List.mem_flatMap.1 (List.mem_of_getElem? iV)
     exact (hu k v' iV).s0 (List.all_eq_true.1 (c_ x' p5).2 v' Mi)
   · have aJ:k<m.length*z:=by have:=(List.getElem?_eq_some_iff.1 hy).1;simpa using this
     rw [List.getElem?_map,List.getElem?_range aJ] at hy
     cases hy
     exact hu k v hv
theorem BK (s:ByteArray): ∃news,Src P g w 1 (.string s) (bK s) news:=by
 refine ⟨Lib.strCells s,fun w'=>by rw [b8];rfl,fun w' _ k hk=> ?_,?_,Lib.strCells_oneCell s,fun k v y hv hy=> ?_,ld s⟩
 · rw [b8] at hk
   show Result.ok ((s.extract 0 k).data.map fun b=>Value.int .u8 b.toNat) w'=_
   congr 1
   apply Array.ext'
   simp only [Array.toList_map,Nat.mul_one,Lib.strCells,List.take_toArray,List.map_take]
   rw [←List.map_take]
   congr 1
   rw [ByteArray.data_extract];simp
 · rw [b8,Nat.mul_one];exact Lib.strCells_length s
 · rw [fk] at hv
   obtain ⟨aJ,rfl⟩:=jK hv
   unfold Lib.strCells at hy
   rw [List.getElem?_map] at hy
   obtain ⟨b,hb,rfl⟩:=Option.map_eq_some_iff.1 hy
   rw [Array.getElem?_toList] at hb
   obtain ⟨_,hb⟩:=Array.getElem?_eq_some_iff.1 hb
   rw [←hb]
   exact .int
theorem mV {ts:Array TypeId} {T e ty:TypeId} {inf:TypeInfo} (h0:ts[0]? =some T) (hs:mS P ts=true) (hu:P.underlying T=some (.slice e)) (hi:P.info? e=some inf) {base:Option Addr} {len cap:Nat} {x:Value}
 (hlen:(Builtin.lenOf x).run P w= .ok 0 w) (hf:(Builtin.firstCells inf.size 0 x).run P w= .ok #[] w) (dy:len<=cap):
 (Builtin.append_ ts ty #[.slice base len cap,x]).run P w= .ok (.slice base len cap) w:=by
 have cg:(Go.sizeOf e).run P w= .ok inf.size w:=cH hi
 rw [l8 h0 hs]
 cases base<;>simp [Builtin.append_,run_underlying hu,cg,hlen,hf,dy,storeCells]
theorem uj {ts:Array TypeId} {T e ty:TypeId} {inf:TypeInfo} {zv:Value} (h0:ts[0]? =some T) (zH:mS P ts=true) (hu:P.underlying T=some (.slice e)) (hi:P.info? e=some inf) (hz:inf.zero=some zv) (kh:zv.cells.size=inf.size)
 (dh:0<inf.size) (wu:0<inf.bytes) (hs:cf c g w a ⟨t,ob,nt,df⟩) {i:Nat} (Bx:i<nt) (Mj: ∀v∈t,V.free i v) (Mk:Dk i ob) {l m:List V} {base:Option Addr} {len cap:Nat} {x:Value} {news:List Value}
 (hl:aw g.bs g.I w ob.length (.sl l .no) (.slice base len cap)) (zI: ∀y∈l,y.cells.length=inf.size)
 (iX:cap=len\/ ∃off,base=some ⟨(g.db i).jF,off,none⟩/\off+len*inf.size=(g.db i).st/\(cap - len)*inf.size<=(g.db i).n)
 (eu:Src P g w inf.size x m news) (dy:(l.length+m.length)*inf.bytes<=140737488355328):
 ∃x' w' g',(Builtin.append_ ts ty #[.slice base len cap,x]).run P w= .ok x' w'/\cf c g' w' a ⟨t,ob,nt,df⟩/\VT g' w' ob.length nt (.sl (l++m) (.tok i inf.size)) x':=by
 have hlen:len=l.length:=by cases hl<;>first | rfl | assumption
 have cu:len<=cap:=by cases hl<;>first | exact Nat.le_refl _ | assumption
 have Dr: ∀y∈l++m,y.cells.length=inf.size:=fun y hy=>by
  rcases List.mem_append.1 hy with h | h
  · exact zI y h
  · exact (eu.ok y h).1
 have q_: ∀y∈l++m,y.cells.length=inf.size/\y.cells.all V.aE=true:=fun y hy=>by
  rcases List.mem_append.1 hy with h | h
  · cases hl with
    | slnil=>simp at h
    | sl u _ _ _ c_ _ _=>exact ⟨zI y h,(c_ y h).2⟩
  · exact eu.ok y h
 have BJ:(l.flatMap V.cells).length=len*inf.size:=by rw [jI zI,hlen]
 by_cases hm:m=[]
 · -- nothing is appended
   subst hm
   have Q6:(Builtin.firstCells inf.size 0 x).run P w= .ok #[] w:=by
    have:=eu.cells w rfl
    have hn:news=[]:=List.eq_nil_of_length_eq_zero (by rw [eu.size];simp)
    rw [hn] at this;exact this
   refine ⟨_,w,g,mV h0 zH hu hi (eu.len w) Q6 cu,hs,⟨?_,?_⟩⟩
   · rw [List.append_nil];exact hl.room _ (by simp)
   · rw [List.append_nil]
     exact ⟨Bx,dh,zI,_,_,_,rfl,iX⟩
 · have Ds:0<m.length:=List.length_pos_iff.2 hm
   have Lo:len+m.length<=140737488355328:=by
    rw [hlen]
    exact Nat.le_trans (Nat.le_mul_of_pos_right _ wu) dy
   by_cases iW:cap<len+m.length
   · -- a new row
     have hold: ∃gi:List Value,gi.length=len*inf.size/\(Builtin.firstCells inf.size len (.slice base len cap)).run P w.drew= .ok gi.toArray w.drew/\
      ∀(k:Nat) v y,(l.flatMap V.cells)[k]? =some v->gi[k]? =some y->aw g.bs g.I w 0 v y:=by
      obtain ⟨gi,ho⟩:=ri (P:=P) hl zI
      refine ⟨gi,by rw [ho.size,hlen],?_,ho.rel⟩
      have:=ho.cells w.drew rfl
      rwa [←hlen] at this
     obtain ⟨gi,tc,Qk,T5⟩:=hold
     have aS:=lf (ty:=ty) h0 zH hu hi hz (eu.len w) Qk (eu.cells w.drew rfl) iW (by omega) (by rw [hlen];exact dy)
     generalize Ql:grownCap w (len+m.length) cap e=nc at aS
     have Gz:len+m.length<=nc:=by rw [←Ql];exact grownCap_ge w _ _ e
     generalize iK:gi.toArray++news.toArray++Builtin.zeroCells zv.cells (nc - (len+m.length))=row at aS
     have BL:row.size=nc*inf.size:=by
      rw [←iK]
      simp only [Array.size_append,List.size_toArray,tc,eu.size,size_zeroCells,kh]
      rw [←Nat.add_mul, ←Nat.add_mul];congr 1;omega
     have ze:=hs.wi.drew
     have e1:=Ext.drew g w ob.length nt
     have p7:=a_.data ze (.cells row e) ((len+m.length)*inf.size)
     have e2:=Ext.data ze (.cells row e) ((len+m.length)*inf.size)
     have sN:=e2.kf (e1.kf hs.ti)
     have fP:=e2.kg (e1.kg hs.di)
     have GA:w.drew.heap.size=w.heap.size:=rfl
     have Lp:=p7.bV (i:=i) Mk ⟨w.heap.size,(len+m.length)*inf.size,(nc - (len+m.length))*inf.size⟩ (fun _=>by
      refine ⟨.inl hs.wi.size,⟨row,e,heap_alloc_new w.drew _,?_⟩,?_,?_,?_⟩
      · rw [BL];simp only;rw [←Nat.add_mul];exact Nat.mul_le_mul_right _ (by omega)
      · rintro k hk (hI | ⟨_,aJ⟩)
        · exact ze.gN _ _ (Nat.le_refl _) hI
        · simp only at hk;omega
      · intro o y hy bZ e'
        have:=hs.wi.lt o y hy bZ
        have SY:g.bs o=w.heap.size:=e'
        omega
      · intro j hj v_ hn e'
        obtain ⟨_,⟨arr,U,hh,_⟩,_,_⟩:=hs.wi.f1 j hj hn
        have SY:(g.db j).jF=w.heap.size:=e'
        rw [SY,Array.getElem?_eq_none (Nat.le_refl _)] at hh
        cases hh)
     refine ⟨_,_,_,aS,⟨Lp,sN.bV Mj _,fP.same rfl rfl⟩,⟨?_,?_⟩⟩
     · have zJ:((l++m).flatMap V.cells).length=(len+m.length)*inf.size:=by rw [jI Dr,List.length_append,hlen]
       refine .sl (sz:=inf.size) (fun k=>row.getD k undef) (by rw [List.length_append,hlen]) Gz (by simp) q_ (fun k v hk=> ?_) (fun k v hk=> ?_)
       · have aJ:k<(len+m.length)*inf.size:=by rw [←zJ];exact (List.getElem?_eq_some_iff.1 hk).1
         have xW:k<row.size:=by rw [BL];exact Nat.lt_of_lt_of_le aJ (Nat.mul_le_mul_right _ Gz)
         rw [Nat.zero_add]
         refine ⟨?_,.inr ⟨rfl,aJ⟩⟩
         rw [show w.heap.size=w.drew.heap.size from rfl,World.cell?_alloc_new]
         simp [Array.getD,xW]
       · have aJ:k<(len+m.length)*inf.size:=by rw [←zJ];exact (List.getElem?_eq_some_iff.1 hk).1
         have xW:k<row.size:=by rw [BL];exact Nat.lt_of_lt_of_le aJ (Nat.mul_le_mul_right _ Gz)
         have aD: ∃y,row[k]? =some y/\aw g.bs g.I w 0 v y:=by
          rw [List.flatMap_append,List.getElem?_append,BJ] at hk
          rw [←iK,Array.getElem?_append]
          have wO:(gi.toArray++news.toArray).size=(len+m.length)*inf.size:=by simp [tc,eu.size,Nat.add_mul]
          rw [wO,if_pos aJ,Array.getElem?_append]
          have F6:gi.toArray.size=len*inf.size:=by simp [tc]
          rw [F6]
          split at hk
          · rename_i iM
            rw [if_pos iM]
            have:k<gi.length:=by rw [tc];exact iM
            exact ⟨gi[k],by simp [this],T5 k v _ hk (by simp [this])⟩
          · rename_i iM
            rw [if_neg iM]
            have:k - len*inf.size<news.length:=by rw [eu.size];rw [Nat.add_mul] at aJ;omega
            exact ⟨news[k - len*inf.size],by simp [this],eu.rel _ v _ hk (by simp [this])⟩
         obtain ⟨y,hy,BH⟩:=aD
         have:row.getD k undef=y:=by simp only [Array.getD];rw [dif_pos xW];exact (Array.getElem?_eq_some_iff.1 hy).2
         rw [this]
         exact e2.qW (e1.qW BH)
     · refine ⟨Bx,dh,Dr,_,_,_,rfl,.inr ⟨0,?_,?_,?_⟩⟩
       · simp [G.bV]
       · simp [G.bV]
       · simp [G.bV]
   · -- in the room
     have ka: ¬cap=len:=by omega
     obtain ⟨off,hb,iI,hn⟩:=iX.resolve_left ka
     subst hb
     have OA:m.length<=cap - len:=by omega
     have T6:m.length*inf.size<=(g.db i).n:=Nat.le_trans (Nat.mul_le_mul_right _ OA) hn
     have Lq:0<(g.db i).n:=Nat.lt_of_lt_of_le (Nat.mul_pos Ds dh) T6
     obtain ⟨f1,⟨arr,U,f2,f3⟩,f4,f5⟩:=hs.wi.f1 i Bx Lq
     have aS:=rh (ty:=ty) h0 zH hu hi (eu.len w) (eu.cells w rfl) (by omega:len+m.length<=cap) (.of (ty:=none) f2) (by rw [iI,eu.size];omega) eu.one
     generalize iK:(arr.toList.take (off+len*inf.size)++news++arr.toList.drop (off+len*inf.size+news.length)).toArray=row at aS
     have Q7:row.size=arr.size:=by
      rw [←iK];simp;rw [iI,eu.size];omega
     have Lr: ∀k,k<(g.db i).st->row[k]? =arr[k]? :=fun k hk=>by
      rw [←iK,List.getElem?_toArray,List.append_assoc,List.getElem?_append_left (by simp;omega),List.getElem?_take,if_pos (by omega)];simp
     have OC: ∀k,k<news.length->row[(g.db i).st+k]? =news[k]? :=fun k hk=>by
      rw [←iK,List.getElem?_toArray,List.append_assoc,List.getElem?_append_right (by simp;omega)]
      have:(arr.toList.take (off+len*inf.size)).length=(g.db i).st:=by simp;omega
      rw [this,List.getElem?_append_left (by omega)]
      congr 1;omega
     have ze:=hs.wi.bV (i:=i) Mk ⟨0,0,0⟩ (fun h=>absurd h (by simp))
     have GB:=hs.ti.bV Mj ⟨0,0,0⟩
     have jq:gI (g.bV i ⟨0,0,0⟩) w ob.length a.defers df:=hs.di.same rfl rfl
     have SZ: ∀j,j<nt->0<((g.bV i ⟨0,0,0⟩).db j).n->((g.bV i ⟨0,0,0⟩).db j).jF≠(g.db i).jF:=fun j hj xN=>by
      by_cases e':j=i
      · subst e';simp [G.bV] at xN
      · simp only [G.bV,if_neg e'] at xN ⊢
        exact hs.wi.f2 j i hj Bx e' xN Lq
     have p7:=ze.fill (e:=(g.db i).st+m.length*inf.size) arr row U f2 f4 Lr f1 f5 SZ
     have e2:=Ext.fill (e:=(g.db i).st+m.length*inf.size) ze arr row U f2 f4 Lr
     have sN:=e2.kf GB
     have fP:=e2.kg jq
     have Lp:=p7.bV (i:=i) Mk ⟨(g.db i).jF,(g.db i).st+m.length*inf.size,(g.db i).n - m.length*inf.size⟩ (fun hp=>by
      refine ⟨f1,⟨row,U,setRow_heap _ _ _ _ _ _ f2,?_⟩,?_,f5,fun j hj v_ xN=>SZ j hj xN⟩
      · simp only at hp ⊢;rw [Q7];omega
      · rintro k hk (hI | ⟨_,_,aJ⟩)
        · exact f4 k (by simp only at hk;omega) hI
        · simp only at hk;omega)
     refine ⟨_,_,_,aS,⟨Lp,sN.bV Mj _,fP.same rfl rfl⟩,⟨?_,?_⟩⟩
     · have zJ:((l++m).flatMap V.cells).length=(len+m.length)*inf.size:=by rw [jI Dr,List.length_append,hlen]
       have sI:=(hl.mono (xI:=g.bs) (I':=((g.bV i ⟨0,0,0⟩).part (g.db i).jF (g.db i).st ((g.db i).st+m.length*inf.size)).I) (w':=w.setRow (g.db i).jF row) (n':=ob.length) (fun o ho=>⟨ho,rfl⟩) e2.hI)
       cases sI with
       | @sl _ _ _ _ _ _ _ sz u h1 h2 h3 h4 h5 h6=>
         refine .sl (sz:=inf.size) (fun k=>if k<len*inf.size then u k else news.getD (k - len*inf.size) undef) (by rw [List.length_append,hlen]) (by omega) (by simp) q_ (fun k v hk=> ?_) (fun k v hk=> ?_)
         · have aJ:k<(len+m.length)*inf.size:=by rw [←zJ];exact (List.getElem?_eq_some_iff.1 hk).1
           rw [List.flatMap_append,List.getElem?_append,BJ] at hk
           split at hk
           · rename_i iM
             simp only [if_pos iM]
             exact h5 k v hk
           · rename_i iM
             simp only [if_neg iM]
             have xW:k - len*inf.size<news.length:=by rw [eu.size];rw [Nat.add_mul] at aJ;omega
             refine ⟨?_,.inr ⟨rfl,by omega,by rw [Nat.add_mul] at aJ;omega⟩⟩
             rw [cell_setRow_same _ _ _ _ _ _ _ f2,show off+k=(g.db i).st+(k - len*inf.size) by omega,OC _ xW]
             simp [xW]
         · have aJ:k<(len+m.length)*inf.size:=by rw [←zJ];exact (List.getElem?_eq_some_iff.1 hk).1
           rw [List.flatMap_append,List.getElem?_append,BJ] at hk
           split at hk
           · rename_i iM
             simp only [if_pos iM]
             exact h6 k v hk
           · rename_i iM
             simp only [if_neg iM]
             have xW:k - len*inf.size<news.length:=by rw [eu.size];rw [Nat.add_mul] at aJ;omega
             have hg:news.getD (k - len*inf.size) undef=news[k - len*inf.size]:=by simp [xW]
             rw [hg]
             exact e2.qW (eu.rel _ v _ hk (by simp [xW]))
     · refine ⟨Bx,dh,Dr,_,_,_,rfl,.inr ⟨off,?_,?_,?_⟩⟩
       · simp [G.bV]
       · simp only [G.bV,if_true];rw [Nat.add_mul];omega
       · simp only [G.bV,if_true]
         rw [show cap - (len+m.length)=cap - len - m.length by omega,Nat.sub_mul]
         omega
end
end VL
namespace VL
open Go
theorem pg {K:List V->Prop} {i:Nat}: ∀ {l:List V},cd (fun v K=>(V.strip i v).c7 K) l K->K (l.map (V.strip i))
 | [],h=>h
 | x::r,h=>by
   have h:(V.strip i x).c7 _:=h
   rw [bk] at h
   exact pg (l:=r) h
theorem iv {K:List af->Prop} {i:Nat}: ∀ {l:List af},cd (fun o K=>match o with
 | af.cells w T cs=>cd (fun v K=>(V.strip i v).c7 K) cs fun cs=>K (af.cells w T cs)
 | o=>K o) l K->K (l.map (dI i))
 | [],h=>h
 | x::r,h=>by
   simp only [cd] at h
   cases x with
   | cells w T cs=>exact iv (l:=r) (pg h)
   | none=>exact iv (l:=r) h
   | map es=>exact iv (l:=r) h
   | buf m z l=>exact iv (l:=r) h
theorem ph {i:Nat} {t:List V} {ob:List af} {nt:Nat} {df:List (Fn × List V × List V)} {K:St->Prop} (h:kJ i ⟨t,ob,nt,df⟩ K):K ⟨t.map (V.strip i),ob.map (dI i),nt,df⟩:=
 iv (pg h)
section
variable {S:Sys} {c:Ctx} {g:G} {w:World} {a:Act} {o:Oper} {K KP:V->St->Prop} {next:Act->World->Prop} {Q:Exit->Act->World->Prop}
 {t:List V} {ob:List af} {nt:Nat} {df:List (Fn × List V × List V)}
theorem cf.kJ (h:cf c g w a ⟨t,ob,nt,df⟩) (i:Nat):cf c g w a ⟨t.map (V.strip i),ob.map (dI i),nt,df⟩:=by
 have hl:(ob.map (dI i)).length=ob.length:=List.length_map ..
 refine ⟨h.wi.kJ i,⟨by simp [h.ti.size],fun k v x hv hx=> ?_,h.ti.gl⟩,?_⟩
 · rw [List.getElem?_map] at hv
   obtain ⟨u,hu,rfl⟩:=Option.map_eq_some_iff.1 hv
   show VT g w (ob.map (dI i)).length nt _ _
   rw [hl]
   exact (h.ti.rel k u x hu hx).strip i
 · show gI g w (ob.map (dI i)).length _ _
   rw [hl];exact h.di
theorem xX {ts:Array TypeId} {e ty:TypeId} {T:TypeId} (h0:ts[0]? =some T) (hu:S.P.underlying T=some (.slice e)) (zH:mS S.P ts=true) (H:bu c a o.dst K KP next Q) (hs:cf c g w a ⟨t,ob,nt,df⟩)
 {l m:List V} {r:Room} {cs cx:Value} (hl:VT g w ob.length nt (.sl l r) cs) (hx: ∀z,(∀y∈m,y.cells.length=z)->z=dk S.P e-> ∃news,Src S.P g w z cx m news)
 (aS: ∀x' w',(Builtin.append_ ts ty #[cs,cx]).run S.P w= .ok x' w'->(execOp a.eval o).run S.P w= .ok (.value x') w')
 (h:i7 S.P e l r m ⟨t,ob,nt,df⟩ K):o.wp S.P a w next Q:=by
 unfold i7 at h
 obtain ⟨inf,hi,dh,h⟩:=cD h
 split at h
 case h_2=>exact h.elim
 rename_i zv v8 EL wu
 split at h
 case h_2=>exact h.elim
 rename_i kh
 have kh:zv.cells.size=inf.size:=by simpa using kh
 have hz:inf.zero=some zv:=by simpa [hi] using EL
 have N3:inf.bytes=v8+1:=by simpa [xH,hi] using wu
 obtain ⟨dy,Bk,h⟩:=h
 obtain ⟨news,eu⟩:=hx _ Bk (fj hi).symm
 obtain ⟨base,len,cap,rfl,ka⟩: ∃base len cap,cs= .slice base len cap/\len=l.length:=by
  cases hl.rel with
  | slnil=>exact ⟨_,_,_,rfl,rfl⟩
  | sl u h1=>exact ⟨_,_,_,rfl,h1⟩
 have Dq:aw g.bs g.I w ob.length (.sl l .no) (.slice base len cap):=hl.rel.room _ (by simp)
 cases r with
 | no=>exact h.elim
 | ex=>
   obtain ⟨zI,hk⟩:=h
   have cu:cap=len:=by
    cases hl.rel with
    | slnil=>rfl
    | sl u h1 h2 h3=>exact h3 rfl
   have iw:cf c (g.bV nt ⟨0,0,0⟩) w a ⟨t,ob,nt+1,df⟩:=by
    refine ⟨hs.wi.more ⟨0,0,0⟩ (fun h=>absurd h (by simp)),⟨hs.ti.size,fun k v x hv hx=> ?_,hs.ti.gl⟩,hs.di.same rfl rfl⟩
    have:=hs.ti.rel k v x hv hx
    exact ⟨this.rel,(this.tok.db this.tok.nt fun j hj=>by simp [G.bV,hj]).ext (Nat.le_succ nt) fun _ _=>rfl⟩
   have OD:Src S.P (g.bV nt ⟨0,0,0⟩) w inf.size cx m news:=⟨eu.len,eu.first,eu.size,eu.one,eu.rel,eu.ok⟩
   have Mj: ∀v∈t,V.free nt v:=fun v hv=>by
    obtain ⟨k,hk⟩:=List.mem_iff_getElem?.1 hv
    have aJ:k<a.tmps.size:=by rw [←hs.ti.size];exact (List.getElem?_eq_some_iff.1 hk).1
    exact (hs.ti.rel k v a.tmps[k] hk (by simp [aJ])).tok.nt
   have Mk:Dk nt ob:=fun o wr U cs ho v hv=>by
    obtain ⟨arr,_,g2,g3⟩:=nZ hs.wi ho
    obtain ⟨k,hk⟩:=List.mem_iff_getElem?.1 hv
    have aJ:k<arr.size:=by rw [←g2];exact (List.getElem?_eq_some_iff.1 hk).1
    exact (g3 k v arr[k] hk (by simp [aJ])).1.tok.nt
   obtain ⟨x',w',g',h1,h2,h3⟩:=uj (ty:=ty) h0 zH hu hi hz kh dh (by omega) iw (i:=nt) (Nat.lt_succ_self nt) Mj Mk Dq zI (.inl cu) OD (by rw [N3];exact dy)
   unfold Oper.wp
   rw [aS _ _ h1]
   exact H.val _ _ _ _ _ a hk h2 rfl h3
 | tok i sz=>
   simp only at h
   split at h
   case h_2=>exact h.elim
   rename_i cg
   have cg:sz=inf.size:=Nat.eq_of_beq_eq_true cg
   subst cg
   have hk:=ph h
   obtain ⟨Bx,_,zI,ad,Q2,Gs,he,iX⟩:=hl.tok
   cases he
   have iw:=hs.kJ i
   have Mj: ∀v∈t.map (V.strip i),V.free i v:=fun v hv=>by
    obtain ⟨u,_,rfl⟩:=List.mem_map.1 hv
    exact tT i u
   have hlen:(ob.map (dI i)).length=ob.length:=List.length_map ..
   obtain ⟨x',w',g',h1,h2,h3⟩:=uj (ty:=ty) h0 zH hu hi hz kh dh (by omega) iw (i:=i) Bx Mj (zq i ob) (by rw [hlen];exact Dq) zI iX eu (by rw [N3];exact dy)
   unfold Oper.wp
   rw [aS _ _ h1]
   exact H.val _ _ _ _ _ a hk h2 rfl h3
end
end VL
namespace VL
open Go
section
variable {S:Sys} {c:Ctx} {g:G} {w:World} {a:Act} {o:Oper} {K KP:V->St->Prop} {next:Act->World->Prop} {Q:Exit->Act->World->Prop}
 {t:List V} {ob:List af} {nt:Nat} {df:List (Fn × List V × List V)}
theorem oa {n nt:Nat} {cl:Call} {vs:List V} (h1:vs.length=cl.args.toList.length) (h2: ∀(k:Nat) v x,vs[k]? =some v->cl.args.toList[k]? =some x->VT g w n nt v (a.eval x)):
 vs.length=(cl.args.map a.eval).size/\ ∀(k:Nat) v x,vs[k]? =some v->(cl.args.map a.eval)[k]? =some x->VT g w n nt v x:=by
 refine ⟨by simp [h1],fun k v x hv hx=> ?_⟩
 rw [Array.getElem?_map] at hx
 obtain ⟨y,hy,rfl⟩:=Option.map_eq_some_iff.1 hx
 exact h2 k v y hv (by simpa using hy)
theorem xY {n nt:Nat} {ca:Array Value} {x:V} (h1:[x].length=ca.size) (h2: ∀(k:Nat) v y,[x][k]? =some v->ca[k]? =some y->VT g w n nt v y):
 ∃c1,ca= #[c1]/\VT g w n nt x c1:=by
 obtain ⟨l⟩:=ca
 match l,h1 with
 | [c1],_=>exact ⟨c1,rfl,h2 0 x c1 rfl rfl⟩
theorem GC {n nt:Nat} {ca:Array Value} {x y:V} (h1:[x,y].length=ca.size) (h2: ∀(k:Nat) v z,[x,y][k]? =some v->ca[k]? =some z->VT g w n nt v z):
 ∃c1 c2,ca= #[c1,c2]/\VT g w n nt x c1/\VT g w n nt y c2:=by
 obtain ⟨l⟩:=ca
 match l,h1 with
 | [c1,c2],_=>exact ⟨c1,c2,rfl,h2 0 x c1 rfl rfl,h2 1 y c2 rfl rfl⟩
theorem gj {b:Builtin} {cl:Call} (ho:o.op= .call cl) (hc:cl.callee= .builtin b):
 execOp a.eval o=Go.builtin b cl.argTypes o.type (cl.args.map fun | .const _=>true | _=>false) (cl.args.map a.eval):=by
 simp only [execOp,ho,resolve,hc]
 rfl
theorem dA {P:Program} {ts:Array TypeId} {d:TypeDesc} (h:Ey P ts=some d): ∃T,ts[0]? =some T/\P.underlying T=some d:=by
 unfold Ey at h
 cases h0:ts[0]? with
 | none=>simp [h0] at h
 | some T=>exact ⟨T,rfl,by simpa [h0] using h⟩
theorem p_ {n:Nat} {v:V} {x:Value} {l:List V} (h:aw g.bs g.I w n v x) (hv:(∃r,v= .sl l r)\/v= .pM l\/ ∃m,v= .spare l m): ∃base cap,x= .slice base l.length cap/\ ∀m,v= .spare l m->cap=l.length+m.length:=by
 cases h<;>simp at hv
 · obtain ⟨rfl,_⟩:=hv;exact ⟨_,_,rfl,by simp⟩
 · rename_i hl _ _ _ _ _;obtain ⟨rfl,_⟩:=hv;exact ⟨_,_,by rw [hl],by simp⟩
 · rename_i hl _ _ _ _;subst hv;exact ⟨_,_,by rw [hl],by simp⟩
 · rename_i hl cu _ _ _
   obtain rfl:=hv
   exact ⟨_,_,by rw [hl],fun m e=>by cases e;exact cu⟩
theorem uk {b:Builtin} {cl:Call} (ho:o.op= .call cl) (hc:cl.callee= .builtin b) (H:bu c a o.dst K KP next Q) (hs:cf c g w a ⟨t,ob,nt,df⟩)
 (hh:sy t cl.args.toList fun args=>k0 S b cl.argTypes args fun v=>K v ⟨t,ob,nt,df⟩):o.wp S.P a w next Q:=by
 obtain ⟨vs,k1,k2,h⟩:=fi hs.ti hh
 clear hh
 obtain ⟨h1,h2⟩:=oa k1 k2
 clear k1 k2
 have hx:=gj (a:=a) ho hc
 generalize cl.args.map a.eval=ca at h1 h2 hx
 have kG: ∀ {v:V} {x:Value},(Go.builtin b cl.argTypes o.type (cl.args.map fun | .const _=>true | _=>false) ca).run S.P w= .ok (.value x) w->VT g w ob.length nt v x->K v ⟨t,ob,nt,df⟩->o.wp S.P a w next Q:=
  fun hr hv hk=>H.same hs (by rw [hx];exact hr) hv hk
 unfold k0 at h
 split at h
 · rename_i hT
   obtain ⟨T,h0,hu⟩:=dA hT
   obtain ⟨c1,rfl,r1⟩:=xY h1 h2
   have hr:=r1.rel
   cases hr
   exact kG (x:=_) (by simp [Go.builtin,Builtin.len_,h0,run_underlying hu];rfl) (.of .int rfl) h
 · rename_i hT
   obtain ⟨T,h0,hu⟩:=dA hT
   obtain ⟨c1,rfl,r1⟩:=xY h1 h2
   obtain ⟨base,cap,rfl,_⟩:=p_ r1.rel (.inl ⟨_,rfl⟩)
   exact kG (x:=_) (by simp [Go.builtin,Builtin.len_,h0,run_underlying hu];rfl) (.of .int rfl) h
 · rename_i hT
   obtain ⟨T,h0,hu⟩:=dA hT
   obtain ⟨c1,rfl,r1⟩:=xY h1 h2
   obtain ⟨base,cap,rfl,_⟩:=p_ r1.rel (.inr (.inl rfl))
   exact kG (x:=_) (by simp [Go.builtin,Builtin.len_,h0,run_underlying hu];rfl) (.of .int rfl) h
 · rename_i hT
   obtain ⟨T,h0,hu⟩:=dA hT
   obtain ⟨c1,rfl,r1⟩:=xY h1 h2
   obtain ⟨base,cap,rfl,_⟩:=p_ r1.rel (.inr (.inr ⟨_,rfl⟩))
   exact kG (x:=_) (by simp [Go.builtin,Builtin.len_,h0,run_underlying hu];rfl) (.of .int rfl) h
 · rename_i hT
   obtain ⟨T,h0,hu⟩:=dA hT
   obtain ⟨c1,rfl,r1⟩:=xY h1 h2
   have hr:=r1.rel
   cases hr
   exact kG (x:=_) (by simp [Go.builtin,Builtin.len_,h0,run_underlying hu];rfl) (.of .int rfl) h
 · rename_i hT
   obtain ⟨T,h0,hu⟩:=dA hT
   obtain ⟨c1,rfl,r1⟩:=xY h1 h2
   have hr:=r1.rel
   cases hr
   exact kG (x:=_) (by simp only [Go.builtin,Builtin.cap_,h0];simp [run_underlying hu];rfl) (.of .int rfl) h
 · rename_i hT
   obtain ⟨T,h0,hu⟩:=dA hT
   obtain ⟨c1,rfl,r1⟩:=xY h1 h2
   exact kG (x:=_) (by simp [Go.builtin,Builtin.len_,h0,run_underlying hu];rfl) (.of .int rfl) h
 · rename_i e0 o1 z lo n cp hT
   obtain ⟨T,h0,hu⟩:=dA hT
   obtain ⟨c1,rfl,r1⟩:=xY h1 h2
   obtain ⟨hc,h⟩:=h
   have hr:=r1.rel
   cases hr with | bX Ml hl ha hf=>
   have ha:=ha.resolve_left (by omega)
   subst ha
   have N0:aw g.bs g.I w ob.length (.bp o1 z lo 0) (.pointer (some ⟨g.bs o1,lo*z+0,none⟩)):= .bp Ml
   refine kG (x:=_) ?_ (.of N0 rfl) h
   have bZ:cp≠0:=by omega
   have e: ∀(ts:Array TypeId) (ty:TypeId) (ad:Addr),(Builtin.unsafeSliceData_ ts ty #[.slice (some ad) n cp]).run S.P w= .ok (.pointer (some ad)) w:=fun ts ty ad=>by
    have:Builtin.unsafeSliceData_ ts ty #[.slice (some ad) n cp]=(if cp≠0 then pure (.pointer (some ad)) else do
     if (←viewAt ad.block).isSome then pure (.pointer (some ad)) else pure (.pointer (some ⟨←newObj (.view ad (←elemOf ty)),0,none⟩))):=rfl
    rw [this,if_pos bZ];rfl
   simp only [Go.builtin,Sem.run_bind,e,Result.andThen_ok,Nat.add_zero]
   rfl
 · rename_i hT
   obtain ⟨T,h0,hu⟩:=dA hT
   obtain ⟨c1,rfl,r1⟩:=xY h1 h2
   obtain ⟨base,cap,rfl,cu⟩:=p_ r1.rel (.inr (.inr ⟨_,rfl⟩))
   rw [cu _ rfl] at hx kG
   exact kG (x:=_) (by simp only [Go.builtin,Builtin.cap_,h0];simp [run_underlying hu];rfl) (.of .int rfl) h
 · obtain ⟨c1,c2,rfl,r1,r2⟩:=GC h1 h2
   have e1:=r1.rel
   have e2:=r2.rel
   cases e1;cases e2
   exact kG (x:=_) (by simp [Go.builtin,Builtin.min_,Builtin.min2]) (.of .int rfl) h.2
 · obtain ⟨c1,c2,rfl,r1,r2⟩:=GC h1 h2
   have e1:=r1.rel
   have e2:=r2.rel
   cases e1;cases e2
   exact kG (x:=_) (by simp [Go.builtin,Builtin.max_,Builtin.max2]) (.of .int rfl) h.2
 · exact h.elim
theorem l_ {n:Nat} {vs:List V} {ca:Array Value} (h1:vs.length=ca.size) (h2: ∀(k:Nat) v x,vs[k]? =some v->ca[k]? =some x->aw g.bs g.I w n v x):
 (vs.map V.bj).length=ca.size/\ ∀(k:Nat) v x,(vs.map V.bj)[k]? =some v->ca[k]? =some x->aw g.bs g.I w n v x:=by
 refine ⟨by simp [h1],fun k v x hv hx=> ?_⟩
 rw [List.getElem?_map] at hv
 obtain ⟨u,hu,rfl⟩:=Option.map_eq_some_iff.1 hv
 exact (h2 k u x hu hx).bj
theorem kx {n:Nat} {vs us:List V} {ca da:Array Value} (h1:vs.length=ca.size) (h2: ∀(k:Nat) v x,vs[k]? =some v->ca[k]? =some x->aw g.bs g.I w n v x)
 (h3:us.length=da.size) (h4: ∀(k:Nat) v x,us[k]? =some v->da[k]? =some x->aw g.bs g.I w n v x):
 (vs++us).length=(ca++da).size/\ ∀(k:Nat) v x,(vs++us)[k]? =some v->(ca++da)[k]? =some x->aw g.bs g.I w n v x:=by
 refine ⟨by simp [h1,h3],fun k v x hv hx=> ?_⟩
 rw [List.getElem?_append] at hv
 rw [Array.getElem?_append] at hx
 rw [h1] at hv
 split at hv
 · rename_i hk;rw [if_pos hk] at hx;exact h2 k v x hv hx
 · rename_i hk;rw [if_neg hk] at hx;exact h4 _ v x hv hx
theorem zK {x:Operand} (ho:o.op= .panic x) (H:bu c a o.dst K KP next Q) (hs:cf c g w a ⟨t,ob,nt,df⟩)
 (h:ev t x fun x=>match x with
   | .jl T v=>KP (.jl T v) ⟨t,ob,nt,df⟩
   | _=>False):o.wp S.P a w next Q:=by
 obtain ⟨v,hv,hk⟩:=aG hs.ti h
 cases v<;>try exact hk.elim
 rename_i T v
 have hr:=hv.rel
 generalize hx:a.eval x=e at hr
 cases hr
 rename_i y hy
 unfold Oper.wp
 have:(execOp a.eval o).run S.P w= .halt (.panic (.iface T y)) w:=by simp [execOp,ho,hx,Instr.panic,goPanic]
 rw [this,Oper.upon_panic]
 exact H.dw _ _ _ g w a hk hs (.jl hy)
theorem zL {cl:Call} {f:Operand} (ho:o.op= .defer cl) (hc:cl.callee= .value f) (H:bu c a o.dst K KP next Q) (hs:cf c g w a ⟨t,ob,nt,df⟩)
 (h0:ev t f fun f=>sy t cl.args.toList fun args=>match f with
   | .fn (.func g) first cap=>cd V.aH (first++args) fun a=>cd V.aH cap fun cap=>K (.aQ []) ⟨t,ob,nt,(.func g,a,cap)::df⟩
   | _=>False):o.wp S.P a w next Q:=by
 obtain ⟨v,hv,Dt⟩:=aG hs.ti h0
 clear h0
 obtain ⟨vs,k1,k2,h⟩:=fi hs.ti Dt
 clear Dt
 obtain ⟨h1,h2⟩:=oa k1 k2
 cases v<;>try exact h.elim
 rename_i f' first cap
 cases f'<;>try exact h.elim
 rename_i Q8
 have h:=dq (dq h)
 have hr:=hv.rel
 generalize hx:a.eval f=e at hr
 cases hr
 rename_i ca cb ha hb i1 i2
 unfold Oper.wp
 have aS:(execOp a.eval o).run S.P w= .ok (.defer {target:= .fn (.func Q8) cb,args:=ca++cl.args.map a.eval}) w:=by
  simp [execOp,ho,resolve,hc,hx,Deferred.ofValue]
 rw [aS,Oper.upon_defer]
 obtain ⟨j1,j2⟩:=kx ha hb h1 fun k v x hv hx=>(h2 k v x hv hx).rel
 obtain ⟨m1,m2⟩:=l_ j1 j2
 obtain ⟨n1,n2⟩:=l_ i1 i2
 exact H.val _ _ ⟨t,ob,nt,_⟩ g w {a with defers:=_::a.defers} h ⟨hs.wi,hs.ti,.cons ⟨cb,rfl,m1,n1,m2,n2⟩ hs.di⟩ rfl (.of (.aQ rfl (by simp)) rfl)
end
end VL
namespace VL
open Go
section
variable {S:Sys} {c:Ctx} {g:G} {w:World} {a:Act} {o:Oper} {K KP:V->St->Prop} {next:Act->World->Prop} {Q:Exit->Act->World->Prop}
 {t:List V} {ob:List af} {nt:Nat} {df:List (Fn × List V × List V)}
theorem cf.drew (hs:cf c g w a ⟨t,ob,nt,df⟩):cf c g w.drew a ⟨t,ob,nt,df⟩:=
 ⟨hs.wi.drew,(Ext.drew g w ob.length nt).kf hs.ti,(Ext.drew g w ob.length nt).kg hs.di⟩
theorem oc (hs:cf c g w a ⟨t,ob,nt,df⟩) {row:Array Value} {e:TypeId} {z:Nat} {L:List V} (cg:row.size=L.length*z) (c_: ∀x∈L,x.cells.length=z/\x.cells.all V.aE=true)
 (hr: ∀(k:Nat) v y,(L.flatMap V.cells)[k]? =some v->row[k]? =some y->aw g.bs g.I w 0 v y/\y.oneCell'=true) {n cap:Nat} (hn:n<=cap) {wt:Option TypeId} (Mm: ∀t,wt=some t->t=e):
 ∃g',cf c g' (w.alloc (.cells row e)) a ⟨t,ob++[.buf false z L wt],nt,df⟩/\VT g' (w.alloc (.cells row e)) (ob.length+1) nt (.bX ob.length z 0 n cap) (.slice (some ⟨w.heap.size,0,none⟩) n cap):=by
 have he:=Ext.alloc hs.wi (.cells row e)
 have hw:=a_.alloc hs.wi (.cells row e) (.buf false z L wt) (.inr ⟨row,e,.of (heap_alloc_new w _),Mm,cg,c_,fun k v y hv hy=>⟨he.qW (hr k v y hv hy).1,(hr k v y hv hy).2⟩⟩)
 have hlen:(ob++[af.buf false z L wt]).length=ob.length+1:=by simp
 refine ⟨_,⟨hw,?_,?_⟩,.of ?_ rfl⟩
 · show fy _ _ (ob++[af.buf false z L wt]).length _ _ _
   rw [hlen];exact he.kf hs.ti
 · show gI _ _ (ob++[af.buf false z L wt]).length _ _
   rw [hlen];exact he.kg hs.di
 · refine .bX (by omega) hn (.inr ?_) (.inr ⟨_,_,rfl⟩)
   simp
theorem te {P:Program} {n:Nat} (hw:a_ c g w ob nt) {o z lo m cp:Nat} {l:List V} {mv:Bool} {ty:Option TypeId} {x:Value} (ho:ob[o]? =some (.buf mv z l ty)) (h:aw g.bs g.I w n (.bX o z lo m cp) x) (hb:lo+m<=l.length):
 ∃news,Src P g w z x ((l.drop lo).take m) news:=by
 cases h with | @bX _ _ _ _ _ _ ad aJ hl ha hf=>
 have oK:((l.drop lo).take m).length=m:=by simp;omega
 by_cases hm:m=0
 · subst hm
   refine ⟨[],fun w'=>by simp [Builtin.lenOf],fun w' _ k hk=> ?_,by simp,by simp,by simp,by simp⟩
   have hk:k=0:=by simpa using hk
   subst hk
   cases ad with
   | none=>simp [Builtin.firstCells]
   | some b=>simpa using run_firstCells_some (P:=P) w' z 0 b 0 cp [] (by simp) (by simp)
 · obtain rfl:=ha.resolve_left (by omega)
   have bZ:l≠[]:=by intro e;rw [e] at hb;simp at hb;omega
   obtain ⟨arr,T,g1,_,g2,g3,g4⟩:=(hw.obj o _ ho).resolve_left bZ
   have hz: ∀y∈l,y.cells.length=z:=fun y hy=>(g3 y hy).1
   have F3: ∀y∈(l.drop lo).take m,y.cells.length=z:=fun y hy=>hz y (List.mem_of_mem_drop (List.mem_of_mem_take hy))
   have BJ:=cP hz
   have Q9:=cP F3
   rw [oK] at Q9
   have hmul:lo*z+m*z<=arr.size:=by rw [g2, ←Nat.add_mul];exact Nat.mul_le_mul_right z hb
   have kv: ∀k,k<m*z->(((l.drop lo).take m).flatMap V.cells)[k]? =(l.flatMap V.cells)[lo*z+k]? :=fun k hk=>by
    rw [lb (sz:=z) (fun y hy=>g3 y (List.mem_of_mem_drop hy)),qZ g3,List.getElem?_take,if_pos hk,List.getElem?_drop]
   have hex: ∀k,k<m*z-> ∃v,(l.flatMap V.cells)[lo*z+k]? =some v:=fun k hk=>⟨_,List.getElem?_eq_getElem (by rw [BJ, ←g2];omega)⟩
   refine ⟨(List.range (m*z)).map fun k=>arr.getD (lo*z+k) undef,fun w'=>by rw [oK];rfl,fun w' oS k hk=> ?_,by rw [oK];simp,fun y hy=> ?_,fun k v y hv hy=> ?_,fun y hy=>g3 y (List.mem_of_mem_drop (List.mem_of_mem_take hy))⟩
   · rw [oK] at hk
     refine run_firstCells_some (P:=P) w' z k ⟨g.bs o,lo*z,none⟩ m cp _ (by simp [List.length_take];first | exact Nat.min_eq_left (Nat.mul_le_mul_right z hk) | rw [Nat.min_eq_left hk]) fun j v hj=> ?_
     rw [List.getElem?_take] at hj
     split at hj
     case isFalse=>cases hj
     rename_i Mh
     have aJ:j<m*z:=Nat.lt_of_lt_of_le Mh (Nat.mul_le_mul_right z hk)
     rw [List.getElem?_map,List.getElem?_range aJ] at hj
     cases hj
     have EM:lo*z+j<arr.size:=by omega
     rw [Addr.add_mid]
     simp [(g1.to (by rw [oS])).cell,Array.getD,EM]
   · obtain ⟨k,hk,rfl⟩:=List.mem_map.1 hy
     have aJ:k<m*z:=by simpa using hk
     obtain ⟨v,hv⟩:=hex k aJ
     have EM:lo*z+k<arr.size:=by omega
     have:=(g4 _ v arr[lo*z+k] hv (by simp [EM])).2
     simpa [Array.getD,EM] using this
   · have aJ:k<m*z:=by have:=(List.getElem?_eq_some_iff.1 hy).1;simpa using this
     rw [List.getElem?_map,List.getElem?_range aJ] at hy
     cases hy
     rw [kv k aJ] at hv
     have EM:lo*z+k<arr.size:=by omega
     have:=(g4 _ v arr[lo*z+k] hv (by simp [EM])).1
     simpa [Array.getD,EM] using this
theorem uo {P:Program} {e:TypeId} {ts:Array TypeId} {v:V} {x:Value} {K:List V->Prop} (hw:a_ c g w ob nt) (hv:aw g.bs g.I w ob.length v x) (h:sG P e ts ob v K):
 ∃m,K m/\ ∀z,(∀y∈m,y.cells.length=z)->z=dk P e-> ∃news,Src P g w z x m news:=by
 unfold sG at h
 split at h
 · exact ⟨_,h,fun z hz _=>ri hv hz⟩
 · rename_i m sp
   refine ⟨_,h,fun z hz _=> ?_⟩
   cases hv with
   | spare u hl cu F3 hc hu=>
     rename_i b0 Q_ Q' Ra Wr
     have r8:aw g.bs g.I w ob.length (.sl m .no) (.slice (some ⟨b0,Q_,none⟩) Q' Ra):= .sl u hl (by omega) (by simp) (fun x hx=>F3 x (List.mem_append_left _ hx))
      (fun k v hk=>hc k v (by rw [List.flatMap_append,List.getElem?_append_left (List.getElem?_eq_some_iff.1 hk).1];exact hk))
      (fun k v hk=>hu k v (by rw [List.flatMap_append,List.getElem?_append_left (List.getElem?_eq_some_iff.1 hk).1];exact hk))
     exact ri r8 hz
 · rename_i s
   split at h
   · rename_i xL
     refine ⟨_,h,fun z hz he=> ?_⟩
     cases hv
     rw [he,xL];exact BK s
   · exact h.elim
 · rename_i o1 z1 lo n cp
   obtain ⟨x1,h1,h⟩:=aX h
   cases x1<;>try exact h.elim
   rename_i mv z' l NZ
   simp only at h
   split at h
   case h_2=>exact h.elim
   rename_i hz
   have hz:=Nat.eq_of_beq_eq_true hz
   subst hz
   obtain ⟨hb,h⟩:=h
   refine ⟨_,h,fun z hz he=> ?_⟩
   obtain ⟨news,hn⟩:=te (P:=P) hw h1 hv hb
   by_cases hm:(l.drop lo).take n=[]
   · rw [hm] at hn ⊢
     refine ⟨news,hn.len,fun w' oS k hk=> ?_,by rw [hn.size];simp,hn.one,hn.rel,by simp⟩
     have OE:news=[]:=List.eq_nil_of_length_eq_zero (by rw [hn.size];simp)
     subst OE
     have hk:k=0:=by simpa using hk
     subst hk
     cases hv with | @bX _ _ _ _ _ _ ad aJ hl ha hf=>
     cases ad with
     | none=>simp [Builtin.firstCells]
     | some b=>simpa using run_firstCells_some (P:=P) w' z 0 b n cp [] (by simp) (by simp)
   · obtain ⟨y,hy⟩:=List.exists_mem_of_ne_nil _ hm
     have:z=z1:=by rw [←hz y hy,(hn.ok y hy).1]
     subst this
     exact ⟨news,hn⟩
 · exact h.elim
theorem Src.GD {P:Program} {z:Nat} {x:Value} {m:List V} {news:List Value} (h:Src P g w z x m news):Src P g w.drew z x m news:=
 ⟨h.len,fun w' oS=>h.first w' oS,h.size,h.one,fun k v y hv hy=>(Ext.drew g w 0 0).qW (h.rel k v y hv hy),h.ok⟩
theorem fB {P:Program} {e:TypeId} {inf:TypeInfo} {zv:Value} (hi:P.info? e=some inf) (kh:zv.cells.size=inf.size) (c_:(ax zv).cells.all V.aE=true) (n:Nat):
 (∀x∈List.replicate n (ax zv),x.cells.length=inf.size/\x.cells.all V.aE=true)/\
 ∀(k:Nat) v y,((List.replicate n (ax zv)).flatMap V.cells)[k]? =some v->(Builtin.zeroCells zv.cells n)[k]? =some y->aw g.bs g.I w 0 v y/\y.oneCell'=true:=by
 have GF:=wN (bs:=g.bs) (I:=g.I) (w:=w) (n:=0) zv
 have hl:(ax zv).cells.length=inf.size:=by rw [GF.1,kh]
 refine ⟨fun x hx=>by rw [List.eq_of_mem_replicate hx];exact ⟨hl,c_⟩,fun k v y hv hy=> ?_⟩
 have hz: ∀x∈List.replicate n (ax zv),x.cells.length=inf.size:=fun x hx=>by rw [List.eq_of_mem_replicate hx];exact hl
 have aJ:k<n*inf.size:=by
  have:=(List.getElem?_eq_some_iff.1 hv).1
  rwa [cP hz,List.length_replicate] at this
 have dh:0<inf.size:=by
  rcases Nat.eq_zero_or_pos inf.size with h | h
  · rw [h] at aJ;simp at aJ
  · exact h
 have hdiv:k/inf.size<n:=Nat.div_lt_of_lt_mul (by rw [Nat.mul_comm];exact aJ)
 have Rb:k %inf.size<inf.size:=Nat.mod_lt _ dh
 have aD:=s_ hz (i:=k/inf.size) (x:=ax zv) (by rw [List.getElem?_replicate,if_pos hdiv]) (k %inf.size) Rb
 rw [Nat.div_add_mod' k inf.size,hv] at aD
 have Dj:zv.cells[k %inf.size]? =some y:=by
  simp only [Builtin.zeroCells,kh] at hy
  rw [Array.getElem?_map] at hy
  obtain ⟨j,hj,rfl⟩:=Option.map_eq_some_iff.1 hy
  have Mh:j=k:=by
   by_cases zf:k<n*inf.size
   · rw [Array.getElem?_eq_getElem (by simpa using zf)] at hj
     simp at hj;exact hj.symm
   · exact absurd aJ zf
  subst Mh
  have:j %inf.size<zv.cells.size:=by omega
  simp [this]
 have hr:=GF.2 _ v y aD.symm Dj
 exact ⟨hr,hr.s0 (List.all_eq_true.1 c_ v (List.mem_of_getElem? aD.symm))⟩
theorem lg {zv:Value} {n:Nat}:(Builtin.zeroCells zv.cells n).size=n*zv.cells.size:=by simp [Builtin.zeroCells]
theorem ky {L M:List V} {ra rb:Array Value} {z:Nat} (hL: ∀x∈L,x.cells.length=z) (T7:ra.size=L.length*z)
 (h1: ∀(k:Nat) v y,(L.flatMap V.cells)[k]? =some v->ra[k]? =some y->aw g.bs g.I w 0 v y/\y.oneCell'=true) (h2: ∀(k:Nat) v y,(M.flatMap V.cells)[k]? =some v->rb[k]? =some y->aw g.bs g.I w 0 v y/\y.oneCell'=true):
 ∀(k:Nat) v y,((L++M).flatMap V.cells)[k]? =some v->(ra++rb)[k]? =some y->aw g.bs g.I w 0 v y/\y.oneCell'=true:=by
 intro k v y hv hy
 rw [List.flatMap_append,List.getElem?_append,cP hL] at hv
 rw [Array.getElem?_append,T7] at hy
 split at hv
 · rename_i hk;rw [if_pos hk] at hy;exact h1 k v y hv hy
 · rename_i hk;rw [if_neg hk] at hy;exact h2 _ v y hv hy
theorem Src.rows {P:Program} {z:Nat} {x:Value} {m:List V} {news:List Value} (h:Src P g w z x m news): ∀(k:Nat) v y,(m.flatMap V.cells)[k]? =some v->news.toArray[k]? =some y->aw g.bs g.I w 0 v y/\y.oneCell'=true:=fun k v y hv hy=>by
 rw [List.getElem?_toArray] at hy
 exact ⟨h.rel k v y hv hy,h.one y (List.mem_of_getElem? hy)⟩
theorem r9 (hs:cf c g w a ⟨t,ob,nt,df⟩) {ts:Array TypeId} {T e ty:TypeId} {inf:TypeInfo} {zv:Value} (h0:ts[0]? =some T) (zH:mS S.P ts=true) (hu:S.P.underlying T=some (.slice e)) (hi:S.P.info? e=some inf) (hz:inf.zero=some zv)
 (kh:zv.cells.size=inf.size) (m7:(ax zv).cells.all V.aE=true) (wu:0<inf.bytes) {base:Option Addr} {n cap:Nat} {x:Value} {l m:List V} {gi news:List Value}
 (hl:Src S.P g w inf.size (.slice base n cap) l gi) (Bj:l.length=n) (hm:Src S.P g w inf.size x m news) (iW:cap<n+m.length) (dy:(n+m.length)*inf.bytes<=140737488355328) {wt:Option TypeId} (Mm: ∀t,wt=some t->t=e):
 ∃(sp:List V) (w':World) (g':G),(∀y∈sp,y.cells.length=inf.size)/\(Builtin.append_ ts ty #[.slice base n cap,x]).run S.P w= .ok (.slice (some ⟨w.heap.size,0,none⟩) (n+m.length) (n+m.length+sp.length)) w'/\
  cf c g' w' a ⟨t,ob++[.buf false inf.size (l++m++sp) wt],nt,df⟩/\VT g' w' (ob.length+1) nt (.bX ob.length inf.size 0 (n+m.length) (n+m.length+sp.length)) (.slice (some ⟨w.heap.size,0,none⟩) (n+m.length) (n+m.length+sp.length)):=by
 have Lo:n+m.length<=140737488355328:=Nat.le_trans (Nat.le_mul_of_pos_right _ wu) dy
 have cT:(Builtin.firstCells inf.size n (.slice base n cap)).run S.P w.drew= .ok gi.toArray w.drew:=by have:=hl.cells w.drew rfl;rwa [Bj] at this
 have aS:=lf (ty:=ty) h0 zH hu hi hz (hm.len w) cT (hm.cells w.drew rfl) iW (by omega) dy
 generalize Ql:grownCap w (n+m.length) cap e=nc at aS
 have zg:n+m.length<=nc:=by rw [←Ql];exact grownCap_ge w _ _ e
 obtain ⟨xZ,GG⟩:=fB (g:=g) (w:=w.drew) hi kh m7 (nc - (n+m.length))
 have zI: ∀y∈l,y.cells.length=inf.size:=fun y hy=>(hl.ok y hy).1
 have Bk: ∀y∈m,y.cells.length=inf.size:=fun y hy=>(hm.ok y hy).1
 have c_: ∀y∈l++m++List.replicate (nc - (n+m.length)) (ax zv),y.cells.length=inf.size/\y.cells.all V.aE=true:=fun y hy=>by
  rcases List.mem_append.1 hy with hy | hy
  · rcases List.mem_append.1 hy with hy | hy
    · exact hl.ok y hy
    · exact hm.ok y hy
  · exact xZ y hy
 have uq:=ky (g:=g) (w:=w.drew) (L:=l++m) (M:=List.replicate (nc - (n+m.length)) (ax zv)) (ra:=gi.toArray++news.toArray) (rb:=Builtin.zeroCells zv.cells (nc - (n+m.length))) (z:=inf.size)
  (fun y hy=>(List.mem_append.1 hy).elim (zI y) (Bk y)) (by simp [hl.size,hm.size,Nat.add_mul]) (ky zI (by simp [hl.size]) hl.GD.rows hm.GD.rows) GG
 obtain ⟨g',h1,h2⟩:=oc hs.drew (row:=gi.toArray++news.toArray++Builtin.zeroCells zv.cells (nc - (n+m.length))) (e:=e) (z:=inf.size) (L:=l++m++List.replicate (nc - (n+m.length)) (ax zv))
  (by simp [hl.size,hm.size,lg,kh,Nat.add_mul,Nat.add_assoc]) c_ uq (n:=n+m.length) (cap:=nc) zg Mm
 have cu:n+m.length+(List.replicate (nc - (n+m.length)) (ax zv)).length=nc:=by simp;omega
 refine ⟨List.replicate (nc - (n+m.length)) (ax zv),_,g',fun y hy=>(xZ y hy).1,?_,h1,?_⟩
 · rw [cu];exact aS
 · rw [cu];exact h2
theorem ur {P:Program} {ts:Array TypeId} {T e ty:TypeId} {inf:TypeInfo} (h0:ts[0]? =some T) (hs:mS P ts=true) (hu:P.underlying T=some (.slice e)) (hi:P.info? e=some inf) {base:Option Addr} {len cap m:Nat} {x:Value}
 (hlen:(Builtin.lenOf x).run P w= .ok m w) {news:List Value} (hf:(Builtin.firstCells inf.size m x).run P w= .ok news.toArray w) (dy:len+m<=cap) {w':World}
 (iI: ∀b,base=some b->(storeCells (b.add (len*inf.size)) news).run P w= .ok () w') (dN:base=none->w'=w):
 (Builtin.append_ ts ty #[.slice base len cap,x]).run P w= .ok (.slice base (len+m) cap) w':=by
 have cg:(Go.sizeOf e).run P w= .ok inf.size w:=cH hi
 rw [l8 h0 hs]
 cases base with
 | none=>rw [dN rfl];simp [Builtin.append_,run_underlying hu,cg,hlen,dy,hf]
 | some b=>simp [Builtin.append_,run_underlying hu,cg,hlen,dy,hf,iI b rfl]
theorem zM (hs:cf c g w a ⟨t,ob,nt,df⟩) {mv:Bool} {ty:Option TypeId} {o1 z i:Nat} {l m:List V} {news:List Value} (ho:ob[o1]? =some (.buf mv z l ty)) (hm: ∀y∈m,y.cells.length=z/\y.cells.all V.aE=true) (F7:news.length=m.length*z)
 (hr: ∀(k:Nat) v y,(m.flatMap V.cells)[k]? =some v->news[k]? =some y->aw g.bs g.I w 0 v y/\y.oneCell'=true) (hb:i+m.length<=l.length) (bZ:m≠[]):
 ∃w',(storeCells ⟨g.bs o1,i*z,none⟩ news).run S.P w= .ok () w'/\cf c g w' a ⟨t,ob.set o1 (.buf mv z (l.take i++m++l.drop (i+m.length)) ty),nt,df⟩/\Ext g w ob.length nt g w' ob.length nt:=by
 have Ds:0<m.length:=List.length_pos_iff.2 bZ
 have EN:l≠[]:=fun e=>by rw [e,List.length_nil] at hb;omega
 obtain ⟨arr,T,g1,_,g2,g3,g4⟩:=(hs.wi.obj o1 _ ho).resolve_left EN
 have zI: ∀y∈l,y.cells.length=z:=fun y hy=>(g3 y hy).1
 have hmul:i*z+m.length*z<=arr.size:=by rw [g2, ←Nat.add_mul];exact Nat.mul_le_mul_right z hb
 have oI: ∀y∈news,y.oneCell'=true:=fun y hy=>by
  obtain ⟨k,hk⟩:=List.mem_iff_getElem?.1 hy
  have aJ:k<m.length*z:=by rw [←F7];exact (List.getElem?_eq_some_iff.1 hk).1
  have BJ:=cP fun y hy=>(hm y hy).1
  obtain ⟨v,this⟩: ∃v,(m.flatMap V.cells)[k]? =some v:=⟨_,List.getElem?_eq_getElem (by rw [BJ];exact aJ)⟩
  exact (hr k _ y this hk).2
 have iI:=eS (P:=S.P) (g.bs o1) (i*z) T news 0 arr w g1 (by rw [Nat.add_zero,F7];exact hmul) oI
 simp only [Nat.add_zero] at iI
 have hlen:(l.take i++m++l.drop (i+m.length)).length=l.length:=by simp;omega
 obtain ⟨p7,l7⟩:=wL (l':=l.take i++m++l.drop (i+m.length)) hs.wi ho g1 g2 hlen EN (fun y hy=>by
  rcases List.mem_append.1 hy with hy | hy
  · rcases List.mem_append.1 hy with hy | hy
    · exact g3 y (List.mem_of_mem_take hy)
    · exact hm y hy
  · exact g3 y (List.mem_of_mem_drop hy)) (dP:=(arr.toList.take (i*z)++news++arr.toList.drop (i*z+news.length)).toArray) (by simp only [List.size_toArray,List.length_append,List.length_take,List.length_drop,Array.length_toList];omega)
  (fun k v y hv hy=>by
    rw [r7 zI (fun y hy=>(hm y hy).1) hb] at hv
    rw [tZ (by rw [F7];exact hmul),F7] at hy
    split at hv
    · rename_i hk;rw [if_pos hk] at hy;exact hr _ v y hv hy
    · rename_i hk;rw [if_neg hk] at hy;exact g4 k v y hv hy)
 exact ⟨_,iI,⟨p7,by simpa using l7.kf hs.ti,by simpa using l7.kg hs.di⟩,l7⟩
theorem qa {l:List af} {i:Nat} {x:af} (h:l[i]? =some x):l.set i x=l:=by
 apply List.ext_getElem?
 intro k
 rw [List.getElem?_set]
 split
 · rename_i e;subst e
   split
   · exact h.symm
   · rename_i aJ;rw [List.getElem?_eq_none (by omega)]
 · rfl
end
end VL
namespace VL
open Go
section
variable {S:Sys} {c:Ctx} {g:G} {w:World} {a:Act} {o:Oper} {K KP:V->St->Prop} {next:Act->World->Prop} {Q:Exit->Act->World->Prop}
 {t:List V} {ob:List af} {nt:Nat} {df:List (Fn × List V × List V)}
theorem bu.grown (H:bu c a o.dst K KP next Q) {P:Program} {v:V} {x:Value} {s':St} {w':World} {g':G} (hr:(execOp a.eval o).run P w= .ok (.value x) w') (hs:cf c g' w' a s') (hv:VT g' w' s'.eg.length s'.nt v x) (hk:K v s'):o.wp P a w next Q:=by
 unfold Oper.wp
 rw [hr]
 exact H.val v x s' g' w' a hk hs rfl hv
theorem EO {e:TypeId} {inf:TypeInfo} {zv:Value} (hi:S.P.info? e=some inf) (kh:zv.cells.size=inf.size) (c_:(ax zv).cells.all V.aE=true) (n:Nat):
 (∀x∈List.replicate n (ax zv),x.cells.length=inf.size/\x.cells.all V.aE=true)/\
 (∀(k:Nat) v y,((List.replicate n (ax zv)).flatMap V.cells)[k]? =some v->(Builtin.zeroCells zv.cells n).toList[k]? =some y->aw g.bs g.I w 0 v y/\y.oneCell'=true):=by
 obtain ⟨h1,h2⟩:=fB (g:=g) (w:=w) hi kh c_ n
 exact ⟨h1,fun k v y hv hy=>h2 k v y hv (by simpa using hy)⟩
theorem wP {e:TypeId} {v8:Nat} {zv:Value} {inf:TypeInfo} (hi:S.P.info? e=some inf) (EL:((S.P.info? e).bind (·.zero))=some zv) (wu:xH S.P e=v8+1):inf.zero=some zv/\inf.bytes=v8+1:=
 ⟨by simpa [hi] using EL,by simpa [xH,hi] using wu⟩
theorem sO {ts:Array TypeId} {e ty T:TypeId} (h0:ts[0]? =some T) (hu:S.P.underlying T=some (.slice e)) (zH:mS S.P ts=true) (H:bu c a o.dst K KP next Q) (hs:cf c g w a ⟨t,ob,nt,df⟩) {m:List V} {cs cx:Value}
 (hl:aw g.bs g.I w ob.length (.sl [] .ex) cs) (hx: ∀z,(∀y∈m,y.cells.length=z)->z=dk S.P e-> ∃news,Src S.P g w z cx m news)
 (aS: ∀x' w',(Builtin.append_ ts ty #[cs,cx]).run S.P w= .ok x' w'->(execOp a.eval o).run S.P w= .ok (.value x') w')
 (h:eo S.P e m ⟨t,ob,nt,df⟩ K):o.wp S.P a w next Q:=by
 unfold eo at h
 obtain ⟨inf,hi,dh,h⟩:=cD h
 split at h
 case h_2=>exact h.elim
 rename_i zv v8 EL wu
 split at h
 case h_2=>exact h.elim
 rename_i gb
 simp only [Bool.and_eq_true,beq_iff_eq] at gb
 obtain ⟨⟨kh,_⟩,m7⟩:=gb
 obtain ⟨hz,N3⟩:=wP hi EL wu
 obtain ⟨dy,Bk,h⟩:=h
 obtain ⟨news,eu⟩:=hx _ Bk (fj hi).symm
 obtain ⟨base,rfl,N0⟩: ∃base,cs= .slice base 0 0/\Plain base:=by
  cases hl with
  | slnil=>exact ⟨_,rfl,.inl rfl⟩
  | sl u h1 h2 h3=>simp at h1;subst h1;have:=h3 rfl;subst this;exact ⟨_,rfl,.inr ⟨_,_,rfl⟩⟩
 by_cases hm:m=[]
 · subst hm
   have Q6:(Builtin.firstCells inf.size 0 cx).run S.P w= .ok #[] w:=by
    have:=eu.cells w rfl
    have hn:news=[]:=List.eq_nil_of_length_eq_zero (by rw [eu.size];simp)
    rw [hn] at this;exact this
   have hr:=mV (ty:=ty) (base:=base) (len:=0) (cap:=0) h0 zH hu hi (eu.len w) Q6 (Nat.le_refl _)
   have hk:=dd (h [] (fun _=>rfl) (by simp))
   have hw:a_ c {g with bs:=fun i=>if i=ob.length then w.heap.size else g.bs i} w (ob++[.buf false inf.size []]) nt:=by
    have cQ:=hs.wi
    have aD:=fun (i:Nat) (y:af)=>eH (ob:=ob) (x:= .buf false inf.size []) (y:=y) (i:=i)
    have he:Ext g w ob.length nt {g with bs:=fun i=>if i=ob.length then w.heap.size else g.bs i} w (ob.length+1) nt:=⟨by omega,Nat.le_refl _,fun i hi=>by simp;intro e;omega,fun b k h=>⟨h,rfl⟩,fun _ _=>rfl⟩
    have ke: ∀i,i<ob.length->(if i=ob.length then w.heap.size else g.bs i)=g.bs i:=fun i hi=>by rw [if_neg (by omega)]
    refine ⟨cQ.os,cQ.tape,cQ.output,cQ.size,cQ.jG,by rw [List.length_append];exact Nat.le_trans (show c.n0<=ob.length from cQ.len) (Nat.le_add_right _ _),?_,?_,?_,?_,?_,cQ.i1,cQ.i2,cQ.i3,?_,?_,?_,cQ.f2,cQ.i6⟩
    · intro i y hy
      rw [List.length_append,List.length_singleton]
      rcases aD i y hy with ⟨mT,hy⟩ | ⟨rfl,rfl⟩
      · show fx _ _ _ _ (if i=ob.length then w.heap.size else g.bs i) y
        rw [ke i mT];exact he.By (cQ.obj i _ hy) rfl
      · exact .inl rfl
    · intro i y hy hr
      show (if i=ob.length then w.heap.size else g.bs i)<_
      rcases aD i y hy with ⟨mT,hy⟩ | ⟨rfl,rfl⟩
      · rw [ke i mT];exact cQ.lt i y hy hr
      · cases hr
    · intro i j y z hy hz hr tf
      rcases aD i y hy with ⟨mT,hy⟩ | ⟨rfl,rfl⟩<;>rcases aD j z hz with ⟨hj,hz⟩ | ⟨rfl,rfl⟩
      · show (if i=ob.length then w.heap.size else g.bs i)=(if j=ob.length then w.heap.size else g.bs j)->_
        rw [ke i mT,ke j hj];exact cQ.inj i j y z hy hz hr tf
      · cases tf
      · cases hr
      · cases hr
    · intro i y Qi hy Jf
      rcases aD i y hy with ⟨mT,hy⟩ | ⟨rfl,rfl⟩
      · show (if i=ob.length then w.heap.size else g.bs i)=_
        rw [ke i mT];exact cQ.sH i y Qi hy Jf
      · have:c.n0<=ob.length:=cQ.len
        omega
    · intro i y hy hr
      show _<=(if i=ob.length then w.heap.size else g.bs i)\/c.own (if i=ob.length then w.heap.size else g.bs i)
      rcases aD i y hy with ⟨mT,hy⟩ | ⟨rfl,rfl⟩
      · rw [ke i mT];exact cQ.new i y hy hr
      · cases hr
    · intro i U ds k hy
      show ¬g.I (if i=ob.length then w.heap.size else g.bs i) k
      rcases aD i _ hy with ⟨mT,hy⟩ | ⟨rfl,h⟩
      · rw [ke i mT];exact cQ.i4 i _ _ k hy
      · cases h
    · intro i y k hy wc
      show ¬g.I (if i=ob.length then w.heap.size else g.bs i) k
      rcases aD i _ hy with ⟨mT,hy⟩ | ⟨rfl,rfl⟩
      · rw [ke i mT];exact cQ.i5 i _ k hy wc
      · cases wc
    · intro i Qi hn
      obtain ⟨f1,f2,f3,f4⟩:=cQ.f1 i Qi hn
      refine ⟨f1,f2,f3,fun j y hy hr=> ?_⟩
      show (if j=ob.length then w.heap.size else g.bs j)≠_
      rcases aD j y hy with ⟨hj,hy⟩ | ⟨rfl,rfl⟩
      · rw [ke j hj];exact f4 j y hy hr
      · cases hr
   have he:Ext g w ob.length nt {g with bs:=fun i=>if i=ob.length then w.heap.size else g.bs i} w (ob.length+1) nt:=⟨by omega,Nat.le_refl _,fun i hi=>by simp;intro e;omega,fun b k h=>⟨h,rfl⟩,fun _ _=>rfl⟩
   refine H.grown (aS _ _ hr) (g':= {g with bs:=fun i=>if i=ob.length then w.heap.size else g.bs i}) ⟨hw,?_,?_⟩ (.of ?_ rfl) hk
   · simpa using he.kf hs.ti
   · simpa using he.kg hs.di
   · exact .bX (by simp) (by simp) (.inl rfl) N0
 · have Ds:0<m.length:=List.length_pos_iff.2 hm
   have hold:Src S.P g w inf.size (.slice base 0 0) [] []:=⟨fun _=>rfl,fun w' _ k hk=>by
    have hk:k=0:=by simpa using hk
    subst hk
    cases base with
    | none=>simp [Builtin.firstCells]
    | some b=>simpa using run_firstCells_some (P:=S.P) w' inf.size 0 b 0 0 [] (by simp) (by simp),by simp,by simp,by simp,by simp⟩
   obtain ⟨sp,w',g',h1,h2,h3,h4⟩:=r9 (ty:=ty) hs h0 zH hu hi hz kh m7 (by omega) hold rfl eu (by omega) (by rw [N3];simpa using dy) (wt:=none) (by simp)
   have hk:=dd (h sp (fun e=>absurd e hm) h1)
   simp only [Nat.zero_add,List.nil_append] at h2 h3 h4
   exact H.grown (aS _ _ h2) h3 (by simpa using h4) hk
theorem zN {wt:Option TypeId} {e:TypeId}: ∀t,zl wt e=some t->t=e:=fun t h=>by
 cases wt with
 | none=>cases h
 | some T=>
   unfold zl at h
   simp only at h
   split at h
   · rename_i hb;cases h;exact Nat.eq_of_beq_eq_true hb
   · cases h
theorem mW {ts:Array TypeId} {e ty T:TypeId} (h0:ts[0]? =some T) (hu:S.P.underlying T=some (.slice e)) (H:bu c a o.dst K KP next Q) (hs:cf c g w a ⟨t,ob,nt,df⟩) {m:List V} {o1 z lo n cp:Nat} {cs cx:Value}
 (hl:aw g.bs g.I w ob.length (.bX o1 z lo n cp) cs)
 (aS: ∀x' w',(Builtin.append_ ts ty #[cs,cx]).run S.P w= .ok x' w'->(execOp a.eval o).run S.P w= .ok (.value x') w')
 (iX: ∀inf zv base,S.P.info? e=some inf->inf.zero=some zv->zv.cells.size=inf.size->(ax zv).cells.all V.aE=true->cs= .slice base n cp->n+m.length<=cp->(∀x∈m,x.cells.length=inf.size)->(n+m.length)*inf.bytes<=140737488355328->
   ∃news:List Value,news.length=m.length*inf.size/\(∀x∈m,x.cells.length=inf.size/\x.cells.all V.aE=true)/\(∀(k:Nat) v y,(m.flatMap V.cells)[k]? =some v->news[k]? =some y->aw g.bs g.I w 0 v y/\y.oneCell'=true)/\
    ∀w',(∀b,base=some b->(storeCells (b.add (n*inf.size)) news).run S.P w= .ok () w')->(base=none->w'=w)->(Builtin.append_ ts ty #[cs,cx]).run S.P w= .ok (.slice base (n+m.length) cp) w')
 (iW: ∀inf zv base l mv wt,S.P.info? e=some inf->inf.zero=some zv->zv.cells.size=inf.size->(ax zv).cells.all V.aE=true->0<inf.bytes->cs= .slice base n cp->cp<n+m.length->(∀x∈m,x.cells.length=inf.size)->
   (n+m.length)*inf.bytes<=140737488355328->ob[o1]? =some (.buf mv inf.size l wt)->z=inf.size->lo+n<=l.length->
   ∃(sp:List V) (w':World) (g':G),(∀y∈sp,y.cells.length=inf.size)/\(Builtin.append_ ts ty #[cs,cx]).run S.P w= .ok (.slice (some ⟨w.heap.size,0,none⟩) (n+m.length) (n+m.length+sp.length)) w'/\
    cf c g' w' a ⟨t,ob++[.buf false inf.size ((l.drop lo).take n++m++sp) (zl wt e)],nt,df⟩/\VT g' w' (ob.length+1) nt (.bX ob.length inf.size 0 (n+m.length) (n+m.length+sp.length)) (.slice (some ⟨w.heap.size,0,none⟩) (n+m.length) (n+m.length+sp.length)))
 (h:dm S.P e o1 z lo n cp m ⟨t,ob,nt,df⟩ K):o.wp S.P a w next Q:=by
 unfold dm at h
 obtain ⟨inf,hi,dh,h⟩:=cD h
 split at h
 case h_2=>exact h.elim
 rename_i zv v8 EL wu pN
 have pN:=Nat.eq_of_beq_eq_true pN
 split at h
 case h_2=>exact h.elim
 rename_i gb
 simp only [Bool.and_eq_true,beq_iff_eq] at gb
 obtain ⟨⟨kh,_⟩,m7⟩:=gb
 subst pN
 obtain ⟨hz,N3⟩:=wP hi EL wu
 obtain ⟨dy,Bk,h⟩:=h
 rw [←N3] at dy
 obtain ⟨x1,h1,h⟩:=aX h
 cases x1<;>try exact h.elim
 rename_i mv z' l wt
 simp only at h
 split at h
 case h_2=>exact h.elim
 rename_i pN
 have pN:=Nat.eq_of_beq_eq_true pN
 subst pN
 cases hl with | @bX _ _ _ _ _ _ ad aJ hle ha hf=>
 rcases k9 h with ⟨hb,h⟩ | ⟨hb,h⟩
 · -- in the room
   have hb:=Nat.le_of_ble_eq_true hb
   obtain ⟨ka,h⟩:=h
   obtain ⟨cT,hk⟩:=cj h
   obtain ⟨news,F7,Rc,F8,oL⟩:=iX inf zv ad hi hz kh m7 rfl hb Bk dy
   by_cases hm:m=[]
   · subst hm
     have OE:news=[]:=List.eq_nil_of_length_eq_zero (by rw [F7];simp)
     subst OE
     have hr:=oL w (fun b _=>by simp [storeCells]) (fun _=>rfl)
     have Lj:l.take (lo+n)++[]++l.drop (lo+n+([]:List V).length)=l:=by simp
     rw [Lj,qa h1] at hk
     exact H.grown (aS _ _ hr) hs (.of (.bX aJ hb ha hf) rfl) hk
   · have Ds:0<m.length:=List.length_pos_iff.2 hm
     obtain rfl:=ha.resolve_left (by omega)
     obtain ⟨w',q1,q2,q3⟩:=zM hs h1 (i:=lo+n) (m:=m) Rc F7 F8 (by omega) hm
     have hr:=oL w' (fun b hb=>by cases hb;rw [Addr.add_mid, ←Nat.add_mul];exact q1) (fun e=>by cases e)
     exact H.grown (aS _ _ hr) q2 (.of (.bX (by simpa using aJ) hb (.inr rfl) hf) rfl) hk
 · -- a new row
   have hb:cp<n+m.length:=by
    rcases Nat.lt_or_ge cp (n+m.length) with h | h
    · exact h
    · rw [Nat.ble_eq_true_of_le h] at hb;cases hb
   obtain ⟨Bj,h⟩:=h
   obtain ⟨sp,w',g',q1,q2,q3,q4⟩:=iW inf zv ad l mv wt hi hz kh m7 (by omega) rfl hb Bk dy h1 rfl Bj
   have hk:=dd (h sp q1)
   exact H.grown (aS _ _ q2) q3 (by simpa using q4) hk
theorem rj {P:Program} {ts:Array TypeId} {T e ty u:TypeId} {ik:IntKind} {inf:TypeInfo} {zv:Value} (h0:ts[0]? =some T) (h1:ts[1]? =some u) (BB:P.underlying u=some (.int ik)) (hu:P.underlying T=some (.slice e)) (hi:P.info? e=some inf)
 (hz:inf.zero=some zv) (kh:zv.cells.size=inf.size) {base:Option Addr} {len cap:Nat} {kk:IntKind} {n:Nat} (hn:(n:Int)<281474976710656) (dy:n*inf.bytes<=281474976710656) (iX:len+n<=cap) {w':World}
 (iI: ∀b,base=some b->(storeCells (b.add (len*inf.size)) (Builtin.zeroCells zv.cells n).toList).run P w= .ok () w') (dN:base=none->w'=w):
 (Builtin.append_ ts ty #[.slice base len cap,.int kk n]).run P w= .ok (.slice base (len+n) cap) w':=by
 have cg:(Go.sizeOf e).run P w= .ok inf.size w:=cH hi
 have Ls:IntKind.i64.wrap (n:Int)=n:=by
  have h1:(n:Int) %2^64=n:=Int.emod_eq_of_lt (by omega) (by omega)
  have h2: ¬((n:Int) ≥ 2^63):=by omega
  simp only [IntKind.wrap,IntKind.bits,IntKind.signed,h1,Bool.true_and,decide_eq_true_eq]
  rw [if_neg h2]
 have BM: ¬((n:Int)<0):=by omega
 have iN: ¬((281474976710656:Int)<(n:Int)*(inf.bytes:Int)):=by
  have h:=Int.ofNat_le.2 dy
  rw [Int.natCast_mul] at h;omega
 have T8:n*inf.size=0->Builtin.zeroCells zv.cells n= #[]:=fun h=>by
  apply Array.eq_empty_of_size_eq_zero
  rw [lg,kh];exact h
 cases base with
 | none=>
   rw [dN rfl]
   by_cases Dt:n*inf.size=0
   · simp [Builtin.append_,h0,h1,run_underlying hu,run_underlying BB,cg,asInt,asIntOf,Ls,BM,typeInfo,hi,iN,iX,Dt]
   · simp [Builtin.append_,h0,h1,run_underlying hu,run_underlying BB,cg,asInt,asIntOf,Ls,BM,typeInfo,hi,iN,iX,Dt,zeroValue,hz]
 | some b=>
   have iI:=iI b rfl
   by_cases Dt:n*inf.size=0
   · rw [T8 Dt] at iI
     simp [Builtin.append_,h0,h1,run_underlying hu,run_underlying BB,cg,asInt,asIntOf,Ls,BM,typeInfo,hi,iN,iX,Dt,iI]
   · simp [Builtin.append_,h0,h1,run_underlying hu,run_underlying BB,cg,asInt,asIntOf,Ls,BM,typeInfo,hi,iN,iX,Dt,zeroValue,hz,iI]
theorem m8 {P:Program} {ts:Array TypeId} {T e ty u:TypeId} {ik:IntKind} {inf:TypeInfo} {zv:Value} (h0:ts[0]? =some T) (h1:ts[1]? =some u) (BB:P.underlying u=some (.int ik)) (hu:P.underlying T=some (.slice e)) (hi:P.info? e=some inf)
 (hz:inf.zero=some zv) {base:Option Addr} {len cap:Nat} {kk:IntKind} {n:Nat} (hn:(n:Int)<281474976710656) {gi:List Value} (ho:(Builtin.firstCells inf.size len (.slice base len cap)).run P w.drew= .ok gi.toArray w.drew)
 (iW:cap<len+n) (dy:(len+n)*inf.bytes<=140737488355328) (Qj:((len+n:Nat):Int)<=9223372036854775807) (Dt: ¬n*inf.size=0):
 (Builtin.append_ ts ty #[.slice base len cap,.int kk n]).run P w= .ok (.slice (some ⟨w.heap.size,0,none⟩) (len+n) (grownCap w (len+n) cap e))
   (w.drew.alloc (.cells (gi.toArray++Builtin.zeroCells zv.cells n++Builtin.zeroCells zv.cells (grownCap w (len+n) cap e - (len+n))) e)):=by
 have cg:(Go.sizeOf e).run P w= .ok inf.size w:=cH hi
 have Ls:IntKind.i64.wrap (n:Int)=n:=by
  have h1:(n:Int) %2^64=n:=Int.emod_eq_of_lt (by omega) (by omega)
  have h2: ¬((n:Int) ≥ 2^63):=by omega
  simp only [IntKind.wrap,IntKind.bits,IntKind.signed,h1,Bool.true_and,decide_eq_true_eq]
  rw [if_neg h2]
 have BM: ¬((n:Int)<0):=by omega
 have OF:n*inf.bytes<=140737488355328:=Nat.le_trans (Nat.mul_le_mul_right _ (by omega)) dy
 have iN: ¬((281474976710656:Int)<(n:Int)*(inf.bytes:Int)):=by
  have h:=Int.ofNat_le.2 OF
  rw [Int.natCast_mul] at h;omega
 have F8: ¬(len+n<=cap):=by omega
 have Mf: ¬(9223372036854775807<((len:Int)+(n:Int))):=by omega
 have T4:=growslice_fits (bytes:=inf.bytes) iW dy
 have Mg: ¬(281474976710656<Builtin.nextslicecap (len+n) cap*inf.bytes):=by omega
 simp [Builtin.append_,h0,h1,run_underlying hu,run_underlying BB,cg,asInt,asIntOf,Ls,BM,typeInfo,hi,iN,F8,Dt,Mf,Mg,zeroValue,hz,Question.forced,ho,newRow,grownCap]
theorem BN (hs:cf c g w a ⟨t,ob,nt,df⟩) {ts:Array TypeId} {T e ty u:TypeId} {ik kk:IntKind} {inf:TypeInfo} {zv:Value} (h0:ts[0]? =some T) (ui:ts[1]? =some u) (BB:S.P.underlying u=some (.int ik)) (hu:S.P.underlying T=some (.slice e))
 (hi:S.P.info? e=some inf) (hz:inf.zero=some zv) (kh:zv.cells.size=inf.size) (dh:0<inf.size) (m7:(ax zv).cells.all V.aE=true) (wu:0<inf.bytes) {base:Option Addr} {n cap k:Nat} {l:List V} {gi:List Value}
 (hl:Src S.P g w inf.size (.slice base n cap) l gi) (Bj:l.length=n) (hk:(k:Int)<281474976710656) (Ql:n<=cap) (iW:cap<n+k) (dy:(n+k)*inf.bytes<=140737488355328) {wt:Option TypeId} (Mm: ∀t,wt=some t->t=e):
 ∃(sp:List V) (w':World) (g':G),(∀y∈sp,y.cells.length=inf.size)/\(Builtin.append_ ts ty #[.slice base n cap,.int kk k]).run S.P w= .ok (.slice (some ⟨w.heap.size,0,none⟩) (n+k) (n+k+sp.length)) w'/\
  cf c g' w' a ⟨t,ob++[.buf false inf.size (l++List.replicate k (ax zv)++sp) wt],nt,df⟩/\VT g' w' (ob.length+1) nt (.bX ob.length inf.size 0 (n+k) (n+k+sp.length)) (.slice (some ⟨w.heap.size,0,none⟩) (n+k) (n+k+sp.length)):=by
 have Lo:n+k<=140737488355328:=Nat.le_trans (Nat.le_mul_of_pos_right _ wu) dy
 have cT:(Builtin.firstCells inf.size n (.slice base n cap)).run S.P w.drew= .ok gi.toArray w.drew:=by have:=hl.cells w.drew rfl;rwa [Bj] at this
 have aS:=m8 (ty:=ty) (kk:=kk) h0 ui BB hu hi hz hk cT iW dy (by omega) (by
  have:0<k*inf.size:=Nat.mul_pos (by omega) dh
  omega)
 generalize Rd:grownCap w (n+k) cap e=nc at aS
 have zg:n+k<=nc:=by rw [←Rd];exact grownCap_ge w _ _ e
 obtain ⟨BO,EP⟩:=fB (g:=g) (w:=w.drew) hi kh m7 k
 obtain ⟨xZ,GG⟩:=fB (g:=g) (w:=w.drew) hi kh m7 (nc - (n+k))
 have zI: ∀y∈l,y.cells.length=inf.size:=fun y hy=>(hl.ok y hy).1
 have c_: ∀y∈l++List.replicate k (ax zv)++List.replicate (nc - (n+k)) (ax zv),y.cells.length=inf.size/\y.cells.all V.aE=true:=fun y hy=>by
  rcases List.mem_append.1 hy with hy | hy
  · rcases List.mem_append.1 hy with hy | hy
    · exact hl.ok y hy
    · exact BO y hy
  · exact xZ y hy
 have uq:=ky (g:=g) (w:=w.drew) (L:=l++List.replicate k (ax zv)) (M:=List.replicate (nc - (n+k)) (ax zv)) (ra:=gi.toArray++Builtin.zeroCells zv.cells k) (rb:=Builtin.zeroCells zv.cells (nc - (n+k))) (z:=inf.size)
  (fun y hy=>(List.mem_append.1 hy).elim (zI y) (fun h=>(BO y h).1)) (by simp [hl.size,lg,kh,Nat.add_mul]) (ky zI (by simp [hl.size]) hl.GD.rows EP) GG
 obtain ⟨g',h1,h2⟩:=oc hs.drew (row:=gi.toArray++Builtin.zeroCells zv.cells k++Builtin.zeroCells zv.cells (nc - (n+k))) (e:=e) (z:=inf.size) (L:=l++List.replicate k (ax zv)++List.replicate (nc - (n+k)) (ax zv))
  (by simp [hl.size,lg,kh,Nat.add_mul,Nat.add_assoc]) c_ uq (n:=n+k) (cap:=nc) zg Mm
 have cu:n+k+(List.replicate (nc - (n+k)) (ax zv)).length=nc:=by simp;omega
 refine ⟨List.replicate (nc - (n+k)) (ax zv),_,g',fun y hy=>(xZ y hy).1,?_,h1,?_⟩
 · rw [cu];exact aS
 · rw [cu];exact h2
end
end VL
namespace VL
open Go
section
variable {S:Sys} {c:Ctx} {g:G} {w:World} {a:Act} {o:Oper} {K KP:V->St->Prop} {next:Act->World->Prop} {Q:Exit->Act->World->Prop}
 {t:List V} {ob:List af} {nt:Nat} {df:List (Fn × List V × List V)}
theorem wv {mu:Bool} {cl:Call} (ho:o.op= .call cl) (hc:cl.callee= .builtin .append) (H:bu c a o.dst K KP next Q) (hs:cf c g w a ⟨t,ob,nt,df⟩)
 (hh:sy t cl.args.toList fun args=>pV S mu cl.argTypes args ⟨t,ob,nt,df⟩ K):o.wp S.P a w next Q:=by
 obtain ⟨vs,k1,k2,h⟩:=fi hs.ti hh
 clear hh
 obtain ⟨h1,h2⟩:=oa k1 k2
 clear k1 k2
 have hx:=gj (a:=a) ho hc
 generalize cl.args.map a.eval=ca at h1 h2 hx
 have aS: ∀ {cs cx:Value},ca= #[cs,cx]-> ∀x' w',(Builtin.append_ cl.argTypes o.type #[cs,cx]).run S.P w= .ok x' w'->(execOp a.eval o).run S.P w= .ok (.value x') w':=fun e x' w' hr=>by
  rw [hx,e];simp [Go.builtin,hr]
 unfold pV at h
 split at h
 case h_2=>exact h.elim
 rename_i e b v hT
 obtain ⟨T,h0,hu⟩:=dA hT
 obtain ⟨c1,c2,Me,r1,r2⟩:=GC h1 h2
 have aS:=aS Me
 split at h
 · rename_i zH
   obtain ⟨m,h,eu⟩:=uo hs.wi r2.rel h
   cases b<;>try exact h.elim
   case sl l r=>
    simp only at h
    split at h
    · exact sO (ty:=o.type) h0 hu zH H hs r1.rel (cx:=c2) eu aS h
    · exact xX (ty:=o.type) h0 hu zH H hs r1 (cx:=c2) eu aS h
   case bX o1 z lo n cp=>
    refine mW (ty:=o.type) h0 hu H hs r1.rel aS ?_ ?_ h
    · intro inf zv base hi hz kh m7 GH iX Bk dy
      subst GH
      obtain ⟨news,hn⟩:=eu _ Bk (fj hi).symm
      refine ⟨news,hn.size,hn.ok,fun k v y hv hy=>⟨hn.rel k v y hv hy,hn.one y (List.mem_of_getElem? hy)⟩,fun w' iI dN=> ?_⟩
      exact ur h0 zH hu hi (hn.len w) (hn.cells w rfl) iX iI dN
    · intro inf zv base l mv wt hi hz kh m7 wu GH iW Bk dy rl pN Bj
      subst GH;subst pN
      obtain ⟨news,hn⟩:=eu _ Bk (fj hi).symm
      obtain ⟨gi,cT⟩:=te (P:=S.P) hs.wi rl r1.rel Bj
      exact r9 (ty:=o.type) hs h0 zH hu hi hz kh m7 wu cT (by simp;omega) hn iW dy zN
 · rename_i zH
   split at h
   case h_2=>exact h.elim
   rename_i o1 z lo n cp ik k Ws Re
   obtain ⟨u,ui,BB⟩:=Option.bind_eq_some_iff.1 Re
   split at h
   case h_2=>exact h.elim
   rename_i Rf ER
   obtain ⟨sK,iM,h⟩:=h
   have Lt:=r2.rel
   cases Lt
   have SX: ∀inf,S.P.info? e=some inf->0<inf.size:=fun inf hi=>by
    unfold dm at h
    obtain ⟨T9,mT,dh,_⟩:=cD h
    rw [hi] at mT;cases mT;exact dh
   have S0:((k.toNat:Nat):Int)=k:=Int.toNat_of_nonneg sK
   refine mW (ty:=o.type) h0 hu H hs r1.rel aS ?_ ?_ h
   · intro inf zv base hi hz kh m7 GH iX Bk dy
     subst GH
     have pN:Rf=zv:=by rw [hi] at ER;simp [hz] at ER;exact ER.symm
     subst pN
     obtain ⟨q1,q2⟩:=EO (S:=S) (g:=g) (w:=w) hi kh m7 k.toNat
     refine ⟨(Builtin.zeroCells Rf.cells k.toNat).toList,by rw [Array.length_toList,lg,kh,List.length_replicate],q1,q2,fun w' iI dN=> ?_⟩
     rw [List.length_replicate] at iX dy ⊢
     have:=rj (ty:=o.type) (kk:=ik) (n:=k.toNat) h0 ui BB hu hi hz kh (by omega) (by
      have:=Nat.mul_le_mul_right inf.bytes (show k.toNat<=n+k.toNat by omega);omega) iX iI dN
     rw [S0] at this
     exact this
   · intro inf zv base l mv wt hi hz kh m7 wu GH iW Bk dy rl pN Bj
     subst GH;subst pN
     have pN:Rf=zv:=by rw [hi] at ER;simp [hz] at ER;exact ER.symm
     subst pN
     obtain ⟨gi,cT⟩:=te (P:=S.P) hs.wi rl r1.rel Bj
     rw [List.length_replicate] at iW dy ⊢
     have dh:0<inf.size:=SX inf hi
     have hle:n<=cp:=by have:=r1.rel;cases this;assumption
     have:=BN (ty:=o.type) (kk:=ik) hs h0 ui BB hu hi hz kh dh m7 wu cT (by simp;omega) (k:=k.toNat) (by omega) hle iW dy (wt:=zl wt e) zN
     rw [S0] at this
     exact this
end
end VL
namespace VL
open Go
section
variable {S:Sys} {c:Ctx} {g:G} {w:World} {a:Act} {o:Oper} {K KP:V->St->Prop} {next:Act->World->Prop} {Q:Exit->Act->World->Prop}
 {t:List V} {ob:List af} {nt:Nat} {df:List (Fn × List V × List V)}
theorem BP {cl:Call} (ho:o.op= .call cl) (hc:cl.callee= .builtin .copy) (H:bu c a o.dst K KP next Q) (hs:cf c g w a ⟨t,ob,nt,df⟩)
 (hh:sy t cl.args.toList fun args=>tM S cl.argTypes args ⟨t,ob,nt,df⟩ K):o.wp S.P a w next Q:=by
 obtain ⟨vs,k1,k2,h⟩:=fi hs.ti hh
 clear hh
 obtain ⟨h1,h2⟩:=oa k1 k2
 clear k1 k2
 have hx:=gj (a:=a) ho hc
 generalize cl.args.map a.eval=ca at h1 h2 hx
 unfold tM at h
 simp only at h
 split at h
 case h_2=>exact h.elim
 rename_i e o1 z lo n cp v hT
 obtain ⟨T,h0,hu⟩:=dA hT
 obtain ⟨c1,c2,Me,r1,r2⟩:=GC h1 h2
 obtain ⟨m,h,eu⟩:=uo hs.wi r2.rel h
 obtain ⟨inf,hi,dh,h⟩:=cD h
 split at h
 case h_2=>exact h.elim
 rename_i zE
 have hz:=Nat.eq_of_beq_eq_true zE
 subst hz
 obtain ⟨Bk,h⟩:=h
 obtain ⟨x1,tc,h⟩:=aX h
 cases x1<;>try exact h.elim
 rename_i mv z' l ty
 simp only at h
 split at h
 case h_2=>exact h.elim
 rename_i zE
 have hz:=Nat.eq_of_beq_eq_true zE
 subst hz
 obtain ⟨Bj,h⟩:=h
 obtain ⟨_,h⟩:=cj h
 obtain ⟨news,hn⟩:=eu _ Bk (fj hi).symm
 have OG:(Nat.min m.length n)=min m.length n:=rfl
 have hf:=hn.first w rfl (min m.length n) (Nat.min_le_left _ _)
 obtain ⟨ad,T_,aJ,Ua,Rg⟩: ∃ad,c1= .slice ad n cp/\o1<ob.length/\n<=cp/\(cp=0\/ad=some ⟨g.bs o1,lo*inf.size,none⟩):=by
  have:=r1.rel
  cases this with | bX a1 a2 a3 a4=>exact ⟨_,rfl,a1,a2,a3⟩
 subst Me
 subst T_
 have fin: ∀w',(∀b,ad=some b->(storeCells b (news.take (min m.length n*inf.size))).run S.P w= .ok () w')->(ad=none->w'=w)->(execOp a.eval o).run S.P w= .ok (.value (.int .i64 ((min m.length n:Nat):Int))) w':=fun w' iI dN=>by
  rw [hx]
  have cg:(Go.sizeOf e).run S.P w= .ok inf.size w:=cH hi
  cases ad with
  | none=>
    rw [dN rfl]
    simp [Go.builtin,Builtin.copy_,h0,run_underlying hu,cg,hn.len w,OG,hf,goInt]
  | some b=>
    simp [Go.builtin,Builtin.copy_,h0,run_underlying hu,cg,hn.len w,OG,hf,iI b rfl,goInt]
 by_cases hk:min m.length n=0
 · have ht:m.take n=[]:=by
    apply List.eq_nil_of_length_eq_zero
    rw [List.length_take,Nat.min_comm];exact hk
   have hl:l.take lo++m.take n++l.drop (lo+min m.length n)=l:=by rw [ht,hk];simp
   rw [hl,qa tc] at h
   refine H.grown (fin w (fun b _=> ?_) fun _=>rfl) hs (.of .int rfl) h
   rw [hk];simp [storeCells]
 · have hlen:(m.take n).length=min m.length n:=by rw [List.length_take,Nat.min_comm]
   have bZ:m.take n≠[]:=fun e=>by rw [e] at hlen;exact hk hlen.symm
   have F7:(news.take (min m.length n*inf.size)).length=(m.take n).length*inf.size:=by
    rw [List.length_take,hn.size,hlen];exact Nat.min_eq_left (Nat.mul_le_mul_right _ (Nat.min_le_left _ _))
   have kv:=lb hn.ok n
   obtain ⟨w',s1,s2,s3⟩:=zM (S:=S) hs tc (i:=lo) (m:=m.take n) (news:=news.take (min m.length n*inf.size)) (fun y hy=>hn.ok y (List.mem_of_mem_take hy)) F7
    (fun k v y hv hy=>by
      rw [kv,List.getElem?_take] at hv
      rw [List.getElem?_take] at hy
      split at hv
      case isFalse=>cases hv
      split at hy
      case isFalse=>cases hy
      exact ⟨hn.rel k v y hv hy,hn.one y (List.mem_of_getElem? hy)⟩) (by omega) bZ
   rw [hlen] at s2
   obtain rfl:=Rg.resolve_left (by omega)
   refine H.grown (fin w' (fun b hb=>by cases hb;exact s1) fun e=>by cases e) s2 (.of .int rfl) ?_
   exact h
theorem ES {zv:Value} {n:Nat}:madeCells zv.cells (n*zv.cells.size)=Builtin.zeroCells zv.cells n:=rfl
theorem sP {T:TypeId} {len cap:Operand} (ho:o.op= .makeSlice T len cap) (H:bu c a o.dst K KP next Q) (hs:cf c g w a ⟨t,ob,nt,df⟩)
 (h:ev t len fun len=>ev t cap fun cap=>fM S T len cap ⟨t,ob,nt,df⟩ K):o.wp S.P a w next Q:=by
 obtain ⟨vl,Ox,h'⟩:=aG hs.ti h
 clear h
 obtain ⟨vc,Ub,h⟩:=aG hs.ti h'
 clear h'
 unfold fM at h
 simp only at h
 split at h
 case h_2=>exact h.elim
 rename_i kl n kc cp e hu
 obtain ⟨inf,hi,dh,h'⟩:=cD h
 clear h
 have h:=h'
 clear h'
 split at h
 case h_2=>exact h.elim
 rename_i zv EL
 split at h
 case h_2=>exact h.elim
 rename_i gb
 simp only [Bool.and_eq_true,beq_iff_eq] at gb
 obtain ⟨⟨kh,_⟩,m7⟩:=gb
 have hz:inf.zero=some zv:=by simpa [hi] using EL
 obtain ⟨h0,N1,wu,Qj,h⟩:=h
 have h:=dd h
 have nb:=Ox.rel
 have OH:=Ub.rel
 generalize Uc:a.eval len=el at nb
 generalize Ud:a.eval cap=ec at OH
 cases nb
 cases OH
 have Ue:(inf.bytes:Int)*cp<=281474976710656:=by
  rw [Int.mul_comm]
  have:xH S.P e=inf.bytes:=by simp [xH,hi]
  rw [this] at wu
  omega
 have aS:=run_make (P:=S.P) w T e inf zv hu hi hz kl kc n cp h0 N1 Ue (by omega)
 rw [←kh,ES] at aS
 obtain ⟨xZ,GG⟩:=fB (g:=g) (w:=w) hi kh m7 cp.toNat
 obtain ⟨g',h1,h2⟩:=oc hs (wt:=none) (Mm:=by simp) (row:=Builtin.zeroCells zv.cells cp.toNat) (e:=e) (z:=inf.size) (L:=List.replicate cp.toNat (ax zv))
  (by simp [lg,kh]) xZ GG (n:=n.toNat) (cap:=cp.toNat) (by omega)
 refine H.grown (g':=g') (w':=w.alloc (.cells (Builtin.zeroCells zv.cells cp.toNat) e)) ?_ h1 (by simpa using h2) h
 simp only [execOp,ho,Uc,Ud,Sem.run_bind,aS,Result.andThen_ok]
 rfl
theorem wx {T:TypeId} (ho:o.op= .makeMap T none) (H:bu c a o.dst K KP next Q) (hs:cf c g w a ⟨t,ob,nt,df⟩)
 (h:match S.P.underlying T with
 | some (.map _ _)=>e6 ob (.map []) fun n ob=>K (.mp n) ⟨t,ob,nt,df⟩
 | _=>False):o.wp S.P a w next Q:=by
 split at h
 case h_2=>exact h.elim
 have h:=dd h
 have he:=Ext.alloc hs.wi (.map #[] 0)
 have hw:=a_.alloc hs.wi (.map #[] 0) (.map []) ⟨#[],0,heap_alloc_new w _,rfl,by simp⟩
 have hlen:(ob++[af.map []]).length=ob.length+1:=by simp
 have aS:(execOp a.eval o).run S.P w= .ok (.value (.map (some w.heap.size))) (w.alloc (.map #[] 0)):=by
  simp [execOp,ho,Instr.makeMap]
 refine H.grown aS ⟨hw,?_,?_⟩ (v:= .mp ob.length) (.of ?_ rfl) h
 · show fy _ _ (ob++[af.map []]).length _ _ _
   rw [hlen];exact he.kf hs.ti
 · show gI _ _ (ob++[af.map []]).length _ _
   rw [hlen];exact he.kg hs.di
 · show aw _ _ _ (ob++[af.map []]).length _ _
   rw [hlen]
   have:=aw.mp (bs:=fun i=>if i=ob.length then w.heap.size else g.bs i) (I:=g.I) (w:=w.alloc (.map #[] 0)) (o:=ob.length) (n:=ob.length+1) (by omega)
   simpa using this
open Go.MapKept
theorem zO {P:Program} {kt:TypeId} {x y:V} {cx cy:Value} {n m:Nat} (hx:plainKey P kt x=true) (hy:plainKey P kt y=true) (rx:aw g.bs g.I w n x cx) (ry:aw g.bs g.I w m y cy):
 ∃d,P.underlying kt=some d/\IsKey d cx/\IsKey d cy/\Instr.sameNow d cx cy=some (pa x y)/\(pa x y=true->cy=cx):=by
 unfold plainKey at hx hy
 cases hu:P.underlying kt with
 | none=>rw [hu] at hx;simp at hx
 | some d=>
   rw [hu] at hx hy
   refine ⟨d,rfl,?_⟩
   cases d<;>try (simp at hx;done)
   · cases x<;>try (simp at hx;done)
     cases y<;>try (simp at hy;done)
     cases rx;cases ry
     refine ⟨trivial,trivial,by simp [Instr.sameNow,pa],fun h=> ?_⟩
     simp [pa] at h;rw [h]
   · cases x<;>try (simp at hx;done)
     cases y<;>try (simp at hy;done)
     cases rx;cases ry
     have hx:_=_:=of_decide_eq_true hx
     have hy:_=_:=of_decide_eq_true hy
     subst hx;subst hy
     refine ⟨rfl,rfl,by simp [Instr.sameNow,pa],fun h=> ?_⟩
     simp [pa] at h;rw [h]
   · cases x<;>try (simp at hx;done)
     cases y<;>try (simp at hy;done)
     cases rx;cases ry
     refine ⟨trivial,trivial,by simp [Instr.sameNow,pa],fun h=> ?_⟩
     have:=(bytes_beq _ _).1 h
     rw [this]
theorem uu {P:Program} {kt:TypeId} {k:V} {ck:Value} {n:Nat} {d:TypeDesc} (hd:P.underlying kt=some d) (hk:plainKey P kt k=true) (rk:aw g.bs g.I w n k ck): ∀(es:List (V × V)) (cs:List MapEntry) (i:Nat),es.length=cs.length->
 (∀(j:Nat) e (c:MapEntry),es[j]? =some e->cs[j]? =some c->aw g.bs g.I w 0 e.1 c.key/\aw g.bs g.I w 0 e.2 c.val)->(∀e∈es,plainKey P kt e.1=true)->
 (es.find? (fun e=>pa k e.1)=none/\Instr.findNow d ck cs i=some none/\ ∀v,pR k v es=es++[(k,v)])\/
 ∃j e c,es[j]? =some e/\cs[j]? =some c/\es.find? (fun e=>pa k e.1)=some e/\Instr.findNow d ck cs i=some (some (i+j,c.val))/\c.key=ck/\ ∀v,pR k v es=es.set j (k,v)
 | [],[],_,_,_,_=> .inl ⟨rfl,rfl,fun _=>rfl⟩
 | [],_::_,_,h,_,_=>by simp at h
 | _::_,[],_,h,_,_=>by simp at h
 | e::es,c::cs,i,hl,hr,hp=>by
   obtain ⟨r1,r2⟩:=hr 0 e c rfl rfl
   obtain ⟨d',ET,i1,i2,sQ,heq⟩:=zO hk (hp e (.head _)) rk r1
   rw [hd] at ET;cases ET
   cases hb:pa k e.1 with
   | true=>
     rw [hb] at sQ
     exact .inr ⟨0,e,c,rfl,rfl,by simp [List.find?,hb],by simp [Instr.findNow,sQ],heq hb,fun v=>by simp [pR,hb]⟩
   | false=>
     rw [hb] at sQ
     rcases uu hd hk rk es cs (i+1) (by simpa using hl) (fun j e c h1 h2=>hr (j+1) e c (by simpa using h1) (by simpa using h2)) (fun x hx=>hp x (.tail _ hx)) with ⟨h1,h2,h3⟩ | ⟨j,e',c',h1,h2,h3,h4,h5,h6⟩
     · exact .inl ⟨by simp [List.find?,hb,h1],by simp [Instr.findNow,sQ,h2],fun v=>by simp [pR,hb,h3]⟩
     · exact .inr ⟨j+1,e',c',by simpa using h1,by simpa using h2,by simp [List.find?,hb,h3],by simp [Instr.findNow,sQ,h4];omega,h5,fun v=>by simp [pR,hb,h6]⟩
theorem GI {P:Program} {kt:TypeId} {x:V} {cx:Value} {n:Nat} (hx:plainKey P kt x=true) (rx:aw g.bs g.I w n x cx): ∃d,P.underlying kt=some d/\IsKey d cx:=by
 obtain ⟨d,h1,h2,_⟩:=zO hx hx rx rx
 exact ⟨d,h1,h2⟩
theorem GJ (w:World) (b:Nat) (x:Obj):Gk w {w with heap:=w.heap.setIfInBounds b x} b:=
 ⟨rfl,rfl,rfl,by simp,fun k hk=>by simp [Ne.symm hk]⟩
theorem sR {T:TypeId} {x k v:Operand} (ho:o.op= .mapUpdate T x k v) (H:bu c a o.dst K KP next Q) (hs:cf c g w a ⟨t,ob,nt,df⟩)
 (h:ev t x fun x=>ev t k fun k=>ev t v fun v=>fN S T x k v ⟨t,ob,nt,df⟩ K):o.wp S.P a w next Q:=by
 obtain ⟨vx,Mi,h1⟩:=aG hs.ti h
 clear h
 obtain ⟨vk,Mn,h2⟩:=aG hs.ti h1
 clear h1
 obtain ⟨vv,Uf,h⟩:=aG hs.ti h2
 clear h2
 unfold fN at h
 simp only at h
 split at h
 case h_2=>exact h.elim
 rename_i kt et o1 hu
 simp only [V.aH,bk] at h
 split at h
 case h_2=>exact h.elim
 rename_i gb
 simp only [Bool.and_eq_true] at gb
 obtain ⟨Jg,jH⟩:=gb
 obtain ⟨x1,tc,h⟩:=aX h
 cases x1<;>try exact h.elim
 rename_i es
 obtain ⟨OI,h⟩:=h
 obtain ⟨_,h⟩:=cj h
 obtain ⟨arr,zb,g1,g2,g3⟩:=hs.wi.obj o1 _ tc
 obtain ⟨d,hd,kq⟩:=GI Jg Mn.rel
 have N4:=Mi.rel
 generalize hx:a.eval x=ex at N4
 cases N4 with | mp aJ=>
 generalize gb:a.eval k=ck at Mn kq
 have BH:=Uf.rel.bj.low jH
 generalize Rh:a.eval v=cv at BH
 have hI: ∀j, ¬g.I (g.bs o1) j:=fun j=>hs.wi.i5 o1 _ j tc rfl
 have fin: ∀(dP:Array MapEntry) (EU:Nat),(Instr.mapUpdate T (.map (some (g.bs o1))) ck cv).run S.P w= .ok () {w with heap:=w.heap.setIfInBounds (g.bs o1) (.map dP EU)}->
  (pR vk vv.bj es).length=dP.size->(∀(j:Nat) e (c:MapEntry),(pR vk vv.bj es)[j]? =some e->dP[j]? =some c->aw g.bs g.I w 0 e.1 c.key/\aw g.bs g.I w 0 e.2 c.val)->o.wp S.P a w next Q:=fun dP EU aS hl hr=>by
  have OJ:=GJ w (g.bs o1) (.map dP EU)
  have he:Ext g w ob.length nt g {w with heap:=w.heap.setIfInBounds (g.bs o1) (.map dP EU)} ob.length nt:=Ext.only OJ hI
  have hw:=hs.wi.put (x':= .map (pR vk vv.bj es)) tc rfl hI OJ ⟨dP,EU,(heap_set g1).1,hl,fun j e c h1 h2=>⟨he.qW (hr j e c h1 h2).1,he.qW (hr j e c h1 h2).2⟩⟩ fun _=>rfl
  have hex:(execOp a.eval o).run S.P w= .ok .skip {w with heap:=w.heap.setIfInBounds (g.bs o1) (.map dP EU)}:=by
   simp only [execOp,ho,hx,gb,Rh,Sem.run_bind,aS,Result.andThen_ok]
   rfl
  unfold Oper.wp
  rw [hex]
  exact H.val (.aQ []) _ _ _ _ a h ⟨hw,by simpa using he.kf hs.ti,by simpa using he.kg hs.di⟩ rfl (.of (.aQ rfl (by simp)) rfl)
 have sK:aw g.bs g.I w 0 vk ck:=Mn.rel.low (by
  unfold plainKey at Jg
  cases vk<;>simp_all [V.low])
 rcases uu hd Jg sK es arr.toList 0 (by simpa using g2) (fun j e c h1 h2=>g3 j e c h1 (by simpa using h2)) OI with ⟨h1,h2,h3⟩ | ⟨j,e,c',h1,h2,h3,h4,h5,h6⟩
 · refine fin (arr.push {key:=ck,val:=cv,born:=zb}) (zb+1) ?_ (by rw [h3];simp [g2]) fun j e c hj hc=> ?_
   · simp [Instr.mapUpdate,run_underlying hu,run_getObj_map g1,run_checkKey hd kq,run_findKey hd h2,run_setObj_map _ g1]
   · rw [h3,List.getElem?_append] at hj
     rw [Array.getElem?_push] at hc
     split at hj
     · rename_i tR
       rw [if_neg (by omega)] at hc
       exact g3 j e c hj hc
     · rename_i zg
       have Ug:j - es.length=0:=by
        have:=(List.getElem?_eq_some_iff.1 hj).1
        simpa using this
       rw [Ug] at hj
       cases hj
       rw [if_pos (by omega)] at hc
       cases hc
       exact ⟨sK,BH⟩
 · have S4:arr[j]? =some c':=by simpa using h2
   refine fin (arr.modify j fun e=> {e with key:=ck,val:=cv}) zb ?_ (by rw [h6];simp [g2]) fun j' e' c hj hc=> ?_
   · simp [Instr.mapUpdate,run_underlying hu,run_getObj_map g1,run_checkKey hd kq,run_findKey hd h4,S4,h5,run_keyThatStays kq,run_setObj_map _ g1]
   · rw [h6] at hj
     rw [Array.getElem?_modify] at hc
     rcases aY hj with ⟨rfl,rfl⟩ | ⟨bZ,hj⟩
     · rw [if_pos rfl,S4] at hc
       cases hc
       exact ⟨sK,BH⟩
     · rw [if_neg bZ] at hc
       exact g3 _ _ _ hj hc
theorem pj {ok:Bool} {v:V} {x y:V->Prop} (hk:v.aH fun v=>(match ok with | true=>x v | false=>y v)):(ok=true->x v.bj)/\(ok=false->y v.bj):=by
 simp only [V.aH,bk] at hk
 exact ⟨fun e=>by subst e;exact hk,fun e=>by subst e;exact hk⟩
theorem x_ {T:TypeId} {x k:Operand} {ok:Bool} (ho:o.op= .lookup T x k ok) (H:bu c a o.dst K KP next Q) (hs:cf c g w a ⟨t,ob,nt,df⟩)
 (h:ev t x fun x=>ev t k fun k=>lW S.P T ob x k ok fun v=>K v ⟨t,ob,nt,df⟩):o.wp S.P a w next Q:=by
 obtain ⟨vx,Mi,h1⟩:=aG hs.ti h
 clear h
 obtain ⟨vk,Mn,h⟩:=aG hs.ti h1
 clear h1
 unfold lW at h
 split at h
 case h_2=>exact h.elim
 rename_i kt et hu
 split at h
 case h_2=>exact h.elim
 rename_i Jg
 simp only at h
 obtain ⟨d,hd,kq⟩:=GI Jg Mn.rel
 have N4:=Mi.rel
 generalize hx:a.eval x=ex at N4
 generalize gb:a.eval k=ck at Mn kq
 have fin: ∀ {v:V} {cv:Value} {b:Bool},(Instr.lookup T ex ck ok).run S.P w= .ok (if ok then .tuple #[cv,.bool b] else cv) w->aw g.bs g.I w ob.length v cv->
  ((ok=true->K (.aQ [v.bj,.bool b]) ⟨t,ob,nt,df⟩)/\(ok=false->K v.bj ⟨t,ob,nt,df⟩))->o.wp S.P a w next Q:=fun {v cv b} aS hv hk=>by
  have hv:=hv.bj
  cases ok with
  | true=>
    refine H.same hs (x:= .tuple #[cv,.bool b]) ?_ (.of (.aQ rfl fun j u y h1 h2=> ?_) rfl) (hk.1 rfl)
    · simp only [execOp,ho,hx,gb,Sem.run_bind,aS,Result.andThen_ok];rfl
    · match j with
      | 0=>simp at h1 h2;subst h1;subst h2;exact hv
      | 1=>simp at h1 h2;subst h1;subst h2;exact .bool
      | j+2=>simp at h1
  | false=>
    refine H.same hs (x:=cv) ?_ (.of hv (bB v)) (hk.2 rfl)
    simp only [execOp,ho,hx,gb,Sem.run_bind,aS,Result.andThen_ok];rfl
 cases vx<;>try exact h.elim
 case ij=>
  cases N4
  obtain ⟨i,z,hi,hz,hk⟩:=fW h
  refine fin (cv:=z) (b:=false) ?_ (bP z) (pj hk)
  simp [Instr.lookup,run_underlying hu,run_checkKey hd kq,Instr.findKey,run_underlying hd,Instr.findNow,zeroValue,typeInfo,hi,hz]
 case mp o1=>
  obtain ⟨x1,tc,h⟩:=aX h
  cases x1<;>try exact h.elim
  rename_i es
  obtain ⟨OI,r,hr,h⟩:=h
  obtain ⟨arr,zb,g1,g2,g3⟩:=hs.wi.obj o1 _ tc
  cases N4 with | mp aJ=>
  rcases uu hd Jg Mn.rel es arr.toList 0 (by simpa using g2) (fun j e c h1 h2=>g3 j e c h1 (by simpa using h2)) OI with ⟨h1,h2,h3⟩ | ⟨j,e,c',h1,h2,h3,h4,h5,h6⟩
  · rw [h1] at hr
    subst hr
    obtain ⟨i,z,hi,hz,hk⟩:=fW h
    refine fin (cv:=z) (b:=false) ?_ (bP z) (pj hk)
    simp [Instr.lookup,run_underlying hu,run_getObj_map g1,run_checkKey hd kq,run_findKey hd h2,zeroValue,typeInfo,hi,hz]
  · rw [h3] at hr
    subst hr
    have hr:=(g3 j e c' h1 (by simpa using h2)).2
    refine fin (cv:=c'.val) (b:=true) ?_ (hr.mono (fun o ho=>absurd ho (by omega)) fun b k h=>⟨h,rfl⟩) (pj h)
    simp [Instr.lookup,run_underlying hu,run_getObj_map g1,run_checkKey hd kq,run_findKey hd h4]
end
end VL
namespace VL
open Go
section
variable {S:Sys} {c:Ctx} {g:G} {w:World} {a:Act} {o:Oper} {K KP:V->St->Prop} {next:Act->World->Prop} {Q:Exit->Act->World->Prop}
 {t:List V} {ob:List af} {nt:Nat} {df:List (Fn × List V × List V)}
theorem run_shape {P:Program} {b:Nat} {arr:Array Value} {T:TypeId} {fz:Nat × Nat} (h:w.heap[b]? =some (.cells arr T fz)):(shape b).run P w= .ok (some (T,arr.size)) w:=by
 have:w.shape? b=some (T,arr.size):=by unfold World.shape?;rw [h]
 simp [shape,Sem.run,this]
theorem BQ {P:Program} {b:Nat} {arr:Array Value} {T:TypeId} {fz:Nat × Nat} (h:w.heap[b]? =some (.cells arr T fz)):(viewAt b).run P w= .ok none w:=by
 simp [viewAt,run_shape h,Result.andThen]
theorem zQ {P:Program} {b:Nat} {arr:Array Value} {T:TypeId} {fz:Nat × Nat} (h:w.heap[b]? =some (.cells arr T fz)):(cellsIn b).run P w= .ok (some arr.size) w:=by
 simp [cellsIn,run_shape h,Result.andThen]
theorem uv {P:Program} {b off:Nat} {arr:Array Value} {T:TypeId} {fz:Nat × Nat} (h:w.heap[b]? =some (.cells arr T fz)):(Conv.seenAt ⟨b,off,none⟩).run P w= .ok ⟨b,off,none⟩ w:=by
 simp [Conv.seenAt,BQ h,Result.andThen]
theorem sS {P:Program} {b off n:Nat} {u:TypeId} {arr:Array Value} {T:TypeId} {fz:Nat × Nat} (h:w.heap[b]? =some (.cells arr T fz)):(variablesAt ⟨b,off,none⟩ u n).run P w= .ok (liesAt P P.depth T (arr.size/P.cellsOf T) off u n) w:=by
 simp [variablesAt,run_shape h,Result.andThen,program,Sem.run]
theorem ya {P:Program} {A B e:TypeId} {b off:Nat} {arr:Array Value} {T:TypeId} {fz:Nat × Nat} (hA:P.underlying A=some (.pointer e)) (hB:P.underlying B=some .unsafePointer)
 (hs:0<dk P e) (ho:off<arr.size) (h:w.heap[b]? =some (.cells arr T fz)):(convert A B (.pointer (some ⟨b,off,none⟩))).run P w= .ok (.pointer (some ⟨b,off,none⟩)) w:=by
 obtain ⟨m,hm⟩: ∃m,dk P e=m+1:=⟨dk P e - 1,by omega⟩
 obtain ⟨inf,hi,iw⟩:=nj hm
 have cg:(Go.sizeOf e).run P w= .ok inf.size w:=by simp [Go.sizeOf,typeInfo,hi]
 have h1: ¬arr.size<=off:=by omega
 have h2:inf.size≠0:=by omega
 simp [convert,run_underlying hA,run_underlying hB,Conv.unsafePointer,uv h,zQ h,cg,Result.andThen,h1,h2]
theorem yb {P:Program} {A B e:TypeId} {b off:Nat} {arr:Array Value} {T:TypeId} {fz:Nat × Nat} (hA:P.underlying A=some .unsafePointer) (hB:P.underlying B=some (.pointer e))
 (hs:0<dk P e) (hl:liesAt P P.depth T (arr.size/P.cellsOf T) off e 1=true) (h:w.heap[b]? =some (.cells arr T fz)):(convert A B (.pointer (some ⟨b,off,none⟩))).run P w= .ok (.pointer (some ⟨b,off,none⟩)) w:=by
 obtain ⟨m,hm⟩: ∃m,dk P e=m+1:=⟨dk P e - 1,by omega⟩
 obtain ⟨inf,hi,iw⟩:=nj hm
 have cg:(Go.sizeOf e).run P w= .ok inf.size w:=by simp [Go.sizeOf,typeInfo,hi]
 have h2:inf.size≠0:=by omega
 simp [convert,run_underlying hA,run_underlying hB,Conv.unsafePointer,uv h,sS h,cg,hl,Result.andThen,h2]
theorem yc {A B:TypeId} {x:Operand} {i off:Nat} (ho:o.op= .convert A B x) (H:bu c a o.dst K KP next Q) (hs:cf c g w a ⟨t,ob,nt,df⟩) (hp:VT g w ob.length nt (.ptr i off) (a.eval x))
 (hk:cA ob i fun o1=>pX S.P A B o1 off fun b=>(match b with | true=>K (.ptr i off) ⟨t,ob,nt,df⟩ | false=>False)):o.wp S.P a w next Q:=by
 obtain ⟨x1,tc,hk⟩:=aX hk
 unfold pX at hk
 have hu:pW S.P A B x1 off=true:=by
  cases h:pW S.P A B x1 off with
  | true=>rfl
  | false=>rw [h] at hk;exact hk.elim
 rw [hu] at hk
 simp only at hk
 have hr:=hp.rel
 generalize hx:a.eval x=e at hr
 cases hr
 rename_i aJ
 have Qk:=hs.wi.obj i x1 tc
 unfold pW at hu
 have aS:(convert A B (.pointer (some ⟨g.bs i,off,none⟩))).run S.P w= .ok (.pointer (some ⟨g.bs i,off,none⟩)) w:=by
  split at hu
  · rename_i hA hB
    simp only [Bool.and_eq_true,Nat.blt_eq] at hu
    obtain ⟨arr,a1,a2,_⟩:=Qk
    exact ya hA hB hu.1 (by rw [←a2];exact hu.2) a1
  · rename_i hA hB
    simp only [Bool.and_eq_true,Nat.blt_eq] at hu
    obtain ⟨arr,a1,a2,_⟩:=Qk
    exact yb hA hB hu.1 (by rw [←a2];exact hu.2) a1
  · cases hu
 refine H.same hs (x:= .pointer (some ⟨g.bs i,off,none⟩)) ?_ (.of (.ptr aJ) rfl) hk
 simp only [execOp,ho,hx,Sem.run_bind,aS,Result.andThen_ok]
 rfl
theorem wz {P:Program} {ts:Array TypeId} {pt ty e:TypeId} (h0:ts[0]? =some pt) (hp:P.underlying pt=some (.pointer e)) (hc:P.cellsOf e=1) {b cells:Nat} (Ju:w.shape? b=some (e,cells)) (l:List UInt8) (Dq:l≠[]) (hn:l.length<=cells)
 (Qj:l.length<=9223372036854775807) (e7: ∀j x,l[j]? =some x->w.cell? ((⟨b,0,none⟩:Addr).add j)=some (.int .u8 x.toNat)):
 (Builtin.unsafeString_ ts ty #[.pointer (some ⟨b,0,none⟩),.int .i64 l.length]).run P w= .ok (.string ⟨l.toArray⟩) (w.freeze ⟨b,0,none⟩ l.length):=by
 have e0:Builtin.unsafeString_ ts ty #[.pointer (some ⟨b,0,none⟩),.int .i64 l.length]=Builtin.unsafeString_ #[pt,pt] ty #[.pointer (some ⟨b,0,none⟩),.int .i64 l.length]:=by
  unfold Builtin.unsafeString_
  rw [h0];rfl
 rw [e0]
 exact Go.Lib.run_unsafeString_row w pt pt ty e hp hc b cells Ju l Dq hn Qj e7
theorem uw {P:Program} {ts:Array TypeId} {pt ty:TypeId} (h0:ts[0]? =some pt) (p:Option Addr):
 (Builtin.unsafeString_ ts ty #[.pointer p,.int .i64 0]).run P w= .ok (.string .empty) w:=by
 have e0:Builtin.unsafeString_ ts ty #[.pointer p,.int .i64 0]=Builtin.unsafeString_ #[pt,pt] ty #[.pointer p,.int .i64 0]:=by
  unfold Builtin.unsafeString_
  rw [h0];rfl
 rw [e0]
 exact Go.Lib.run_unsafeString_none w pt pt ty p
theorem zR (w:World) (b off n:Nat):Gk w (w.freeze ⟨b,off,none⟩ n) b:=by
 unfold World.freeze
 split
 · exact ⟨rfl,rfl,rfl,rfl,fun _ _=>rfl⟩
 · exact ⟨rfl,rfl,rfl,by simp,fun k hk=>by simp [Array.getElem?_modify,Ne.symm hk]⟩
theorem pk {cl:Call} (ho:o.op= .call cl) (hc:cl.callee= .builtin .unsafeString) (H:bu c a o.dst K KP next Q) (hs:cf c g w a ⟨t,ob,nt,df⟩)
 (hh:sy t cl.args.toList fun args=>dH S cl.argTypes args ⟨t,ob,nt,df⟩ K):o.wp S.P a w next Q:=by
 obtain ⟨vs,k1,k2,h⟩:=fi hs.ti hh
 clear hh
 obtain ⟨h1,h2⟩:=oa k1 k2
 clear k1 k2
 have hx:=gj (a:=a) ho hc
 generalize cl.args.map a.eval=ca at h1 h2 hx
 unfold dH at h
 simp only at h
 split at h
 case h_2=>exact h.elim
 rename_i e o1 z n hT
 obtain ⟨T,h0,hu⟩:=dA hT
 obtain ⟨c1,c2,Me,r1,r2⟩:=GC h1 h2
 obtain ⟨x1,tc,h'⟩:=aX h
 clear h
 split at h'
 case h_2=>exact h'.elim
 rename_i mv z' l T'
 split at h'
 case h_2=>exact h'.elim
 rename_i gb
 simp only [Bool.and_eq_true] at gb
 obtain ⟨⟨⟨xL,hz⟩,Ri⟩,Rj⟩:=gb
 have xL:=Nat.eq_of_beq_eq_true xL
 have hz:=Nat.eq_of_beq_eq_true hz
 have Ri:=Nat.eq_of_beq_eq_true Ri
 have Rj:=Nat.eq_of_beq_eq_true Rj
 subst xL;subst hz;subst Ri
 obtain ⟨OK,S5,N5,bs,ke,h⟩:=h'
 have Rk:=r1.rel
 have Lt:=r2.rel
 cases Rk with | bp aJ=>
 cases Lt
 subst Me
 have hlen:bs.size=n.toNat:=by
  have:=congrArg List.length ke
  rw [b8,List.length_take] at this;omega
 simp only [Nat.zero_mul,Nat.add_zero] at hx
 rcases k9 h with ⟨hb,h⟩ | ⟨hb,h⟩
 · have hb:=Nat.eq_of_beq_eq_true hb
   have hn:n=0:=by omega
   subst hn
   have Qm:bs= .empty:=by
    apply ByteArray.ext
    apply Array.eq_empty_of_size_eq_zero
    show bs.size=0
    omega
   subst Qm
   refine H.grown (w':=w) ?_ hs (.of .str rfl) h
   rw [hx]
   simp [Go.builtin,uw (w:=w) h0]
 · have hb:n.toNat≠0:=fun e=>by rw [e] at hb;cases hb
   obtain ⟨cT,h⟩:=cj h
   have EN:l≠[]:=fun e=>by rw [e] at N5;simp at N5;omega
   obtain ⟨arr,U,g1,g2,g3,g4,g5⟩:=(hs.wi.obj o1 _ tc).resolve_left EN
   have hU:=g2 _ rfl
   subst hU
   have Gp:(af.buf mv 1 l (some T')).real=true:=by simp [af.real,EN]
   have hI: ∀k, ¬g.I (g.bs o1) k:=fun k=>hs.wi.i5 o1 _ k tc (by simp [af.loose,EN])
   have OJ:=zR w (g.bs o1) 0 n.toNat
   have he:Ext g w ob.length nt g (w.freeze ⟨g.bs o1,0,none⟩ n.toNat) ob.length nt:=Ext.only OJ hI
   have p7:=hs.wi.put tc Gp hI OJ (x':= .buf true 1 []) (.inl rfl) (fun h=>by cases h)
   have Ju:w.shape? (g.bs o1)=some (T',arr.size):=by
    obtain ⟨fz,q1,_⟩:=g1
    unfold World.shape?;rw [q1]
   have Bl:bs.data.toList.length=n.toNat:=by rw [Array.length_toList];exact hlen
   have aS:=wz (w:=w) (ty:=o.type) h0 hu Rj Ju bs.data.toList (fun e=>by rw [e] at Bl;simp at Bl;omega) (by rw [Bl,g3];omega) (by rw [Bl];omega) (fun j x hj=>by
    have eO:j<n.toNat:=by rw [←Bl];exact (List.getElem?_eq_some_iff.1 hj).1
    have hv:(l.take n.toNat)[j]? =some (.int .u8 x.toNat):=by rw [ke];unfold bK;rw [List.getElem?_map,hj];rfl
    rw [List.getElem?_take,if_pos eO] at hv
    have hf:=s_ (fun y hy=>(g4 y hy).1) hv 0 (by omega)
    simp only [Nat.mul_one,Nat.add_zero,V.cells,List.getElem?_cons_zero] at hf
    have S6:j<arr.size:=by rw [g3];omega
    have nb:=(g5 j _ arr[j] hf (by simp [S6])).1
    generalize hy:arr[j]=y at nb
    cases nb
    rw [Addr.add_mid]
    simp [g1.cell,S6,hy])
   rw [Bl] at aS
   have Uh:((n.toNat:Nat):Int)=n:=Int.toNat_of_nonneg OK
   rw [Uh] at aS
   refine H.grown (w':=w.freeze ⟨g.bs o1,0,none⟩ n.toNat) ?_ ⟨p7,by simpa using he.kf hs.ti,by simpa using he.kg hs.di⟩ (.of .str rfl) h
   rw [hx]
   simp [Go.builtin,aS]
end
end VL
namespace VL
open Go
section
variable {S:Sys} {c:Ctx} {g:G} {w:World} {a:Act} {o:Oper} {K KP:V->St->Prop} {next:Act->World->Prop} {Q:Exit->Act->World->Prop}
 {t:List V} {ob:List af} {nt:Nat} {df:List (Fn × List V × List V)}
theorem wA {T:TypeId} {n:Nat} {parts:Array (Nat × Operand)} (ho:o.op= .buildSlice T n parts) (H:bu c a o.dst K KP next Q) (hs:cf c g w a ⟨t,ob,nt,df⟩)
 (h:jC S T n parts t ob fun v ob=>K v ⟨t,ob,nt,df⟩):o.wp S.P a w next Q:=by
 unfold jC at h
 obtain ⟨ps,hl,hr,hk⟩:=i_ hs.ti h
 clear h
 split at hk
 case h_2=>exact hk.elim
 rename_i l Oy
 split at hk
 case h_2=>exact hk.elim
 rename_i gb
 simp only [Bool.and_eq_true,beq_iff_eq] at gb
 obtain ⟨Bj,cg⟩:=gb
 obtain ⟨inf,de,dh,hk⟩:=cD hk
 split at hk
 case h_2=>exact hk.elim
 rename_i zv hb EL
 have hb: ¬16777216<n*inf.size:=by
  intro e
  have:Nat.blt 16777216 (n*inf.size)=true:=by rw [Nat.blt_eq];exact e
  rw [this] at hb;cases hb
 split at hk
 case h_2=>exact hk.elim
 rename_i kh
 have kh:zv.cells.size=inf.size:=by simpa using kh
 rw [fj de] at cg
 have pN:=nn cg
 have hzero:inf.zero=some zv:=by simpa [de] using EL
 have main: ∀ {e:TypeId},S.P.underlying T=some (.slice e)-> ∃cells:Array Value,(execOp a.eval o).run S.P w= .ok (.value (.slice (some ⟨w.heap.size,0,none⟩) n n)) (w.alloc (.cells cells e))/\cells.size=n*inf.size/\
  (∀(k:Nat) v c,(l.flatMap V.cells)[k]? =some v->cells[k]? =some c->aw g.bs g.I w ob.length v c)/\l.length=n:=fun {e} hu=>by
  have he:jz S.P T=e:=by simp [jz,hu]
  rw [he] at de
  have oJ:ps.length=l.length:=nm Oy
  have uh:((Array.range (n*inf.size)).map (zv.cells[· %zv.cells.size]!)).size=n*inf.size:=by simp
  obtain ⟨ca,h1,h2,h3,h4,h5⟩:=ug (w:=w) (bs:=g.bs) (I:=g.I) (n:=ob.length) (size:=inf.size) (ca:=(Array.range (n*inf.size)).map (zv.cells[· %zv.cells.size]!)) Oy
   (qs:=parts.toList.map fun (i,x)=>(i,a.eval x)) (by simp [hl]) (q9 hl hr) pN (by rw [uh,Nat.zero_add,oJ,Bj];exact Nat.le_refl _)
  refine ⟨ca,?_,by rw [h2,uh],fun k v c hv hc=>h5 k v c hv (by simpa using hc),Bj⟩
  simp only [execOp,ho,Instr.buildSlice,Sem.run_bind,run_underlying hu,Result.andThen_ok,cH de]
  rw [if_neg hb]
  by_cases h0:n*inf.size=0
  · have Me:ca= #[]:=Array.eq_empty_of_size_eq_zero (by rw [h2,uh,h0])
    rw [h0] at h1
    simp only [h0,if_true,Sem.run_pure,Result.andThen_ok]
    have ui:Instr.fill (fun i=>some (i*inf.size,inf.size)) ((Array.range 0).map fun x=>(#[]:Array Value)[x %(#[]:Array Value).size]!) (parts.map fun (i,x)=>(i,a.eval x)).toList=some ca:=by
     rw [Array.toList_map]
     have e0: ∀f:Nat->Value,(Array.range 0).map f= #[]:=fun f=>by simp [Array.range]
     rw [e0] at h1 ⊢
     exact h1
    simp only [ui,newRow,Sem.run_bind,run_newObj_alloc,Result.andThen_ok,Sem.run_pure]
  · have Q5:(zeroValue e).run S.P w= .ok zv w:=by simp [zeroValue,typeInfo,de,hzero]
    have ui:Instr.fill (fun i=>some (i*inf.size,inf.size)) ((Array.range (n*inf.size)).map fun x=>zv.cells[x %zv.cells.size]!) (parts.map fun (i,x)=>(i,a.eval x)).toList=some ca:=by
     rw [Array.toList_map];exact h1
    simp only [h0,if_false,Sem.run_bind,Q5,Sem.run_pure,Result.andThen_ok,ui,newRow,run_newObj_alloc]
 split at hk
 case h_2=>exact hk.elim
 rename_i e hu jH
 have hk:=dd hk
 obtain ⟨cells,aS,h1,h2,h3⟩:=main hu
 have c_: ∀x∈l,x.cells.length=inf.size/\x.cells.all V.aE=true:=fun x hx=>⟨(pN x hx).1,(pN x hx).2.1⟩
 obtain ⟨g',s1,s2⟩:=oc hs (wt:=none) (Mm:=by simp) (row:=cells) (e:=e) (z:=inf.size) (L:=l) (by rw [h1,h3]) c_
  (fun k v y hv hy=>by
    have hr:=(h2 k v y hv hy).low (tP jH hv)
    obtain ⟨x,hx,Mi⟩:=List.mem_flatMap.1 (List.mem_of_getElem? hv)
    exact ⟨hr,hr.s0 (List.all_eq_true.1 (c_ x hx).2 v Mi)⟩) (Nat.le_refl n)
 exact H.grown aS s1 (by simpa using s2) hk
theorem BR (hs:cf c g w a ⟨t,ob,nt,df⟩) {row:Array Value} {e:TypeId} {z:Nat} {L:List V} {mk:Nat × Nat} (OL:row.size<=mk.1) (cg:row.size=L.length*z) (c_: ∀x∈L,x.cells.length=z/\x.cells.all V.aE=true)
 (hr: ∀(k:Nat) v y,(L.flatMap V.cells)[k]? =some v->row[k]? =some y->aw g.bs g.I w 0 v y/\y.oneCell'=true) {n cap:Nat} (hn:n<=cap):
 ∃g',cf c g' (w.alloc (.cells row e mk)) a ⟨t,ob++[.buf false z L (some e)],nt,df⟩/\VT g' (w.alloc (.cells row e mk)) (ob.length+1) nt (.bX ob.length z 0 n cap) (.slice (some ⟨w.heap.size,0,none⟩) n cap):=by
 have he:=Ext.alloc hs.wi (.cells row e mk)
 have hw:=a_.alloc hs.wi (.cells row e mk) (.buf false z L (some e)) (.inr ⟨row,e,⟨mk,heap_alloc_new w _,.inr ⟨rfl,OL⟩⟩,fun _ h=>(Option.some.inj h).symm,cg,c_,fun k v y hv hy=>⟨he.qW (hr k v y hv hy).1,(hr k v y hv hy).2⟩⟩)
 have hlen:(ob++[af.buf false z L (some e)]).length=ob.length+1:=by simp
 refine ⟨_,⟨hw,?_,?_⟩,.of ?_ rfl⟩
 · show fy _ _ (ob++[af.buf false z L (some e)]).length _ _ _
   rw [hlen];exact he.kf hs.ti
 · show gI _ _ (ob++[af.buf false z L (some e)]).length _ _
   rw [hlen];exact he.kg hs.di
 · refine .bX (by omega) hn (.inr ?_) (.inr ⟨_,_,rfl⟩)
   simp
theorem ye {A B:TypeId} {x:Operand} (ho:o.op= .convert A B x) (H:bu c a o.dst K KP next Q) (hs:cf c g w a ⟨t,ob,nt,df⟩)
 (h:ev t x fun x=>lX S A B x ob fun v ob=>K v ⟨t,ob,nt,df⟩):o.wp S.P a w next Q:=by
 obtain ⟨p,hp,hk⟩:=aG hs.ti h
 clear h
 have hr:=hp.rel
 unfold lX at hk
 split at hk
 case h_2=>exact hk.elim
 rename_i e s hA hB
 split at hk
 case h_2=>exact hk.elim
 rename_i he
 generalize hx:a.eval x=ex at hr
 cases hr
 have aS:=run_bytes_of_string (P:=S.P) w A B e s hA hB he
 have Ln:(execOp a.eval o).run S.P w= .ok (.value (.slice (some ⟨w.heap.size,0,none⟩) s.size (grownCap w s.size 0 e)))
  (w.drew.alloc (.cells (bytesRow s (grownCap w s.size 0 e)) e ((bytesRow s (grownCap w s.size 0 e)).size,(bytesRow s (grownCap w s.size 0 e)).size+1))):=by
  simp only [execOp,ho,hx,Sem.run_bind,aS,Result.andThen_ok]
  rfl
 have cu:s.size<=grownCap w s.size 0 e:=by unfold grownCap Question.cut;simp
 generalize grownCap w s.size 0 e=nc at Ln cu
 have hk:=dd (hk (List.replicate (nc - s.size) (.int .u8 0)) fun v hv=>(List.mem_replicate.1 hv).2)
 have Bl:(bK s).length=s.size:=b8 s
 have ke:s.data.size=s.size:=rfl
 have BJ:(bK s++List.replicate (nc - s.size) (V.int .u8 0)).flatMap V.cells=bK s++List.replicate (nc - s.size) (V.int .u8 0):=by
  rw [List.flatMap_append,fk]
  congr 1
  generalize nc - s.size=m
  induction m with
  | zero=>rfl
  | succ m ih=>rw [List.replicate_succ,List.flatMap_cons,ih];rfl
 have iK:(bytesRow s nc).size=s.size+(nc - s.size):=by unfold bytesRow;rw [Array.size_append,Array.size_map,Array.size_replicate];rfl
 obtain ⟨g',s1,s2⟩:=BR hs.drew (row:=bytesRow s nc) (e:=e) (z:=1) (L:=bK s++List.replicate (nc - s.size) (.int .u8 0)) (mk:=((bytesRow s nc).size,(bytesRow s nc).size+1)) (Nat.le_refl _)
  (by rw [iK];simp [Bl]) (fun y hy=>by
    rcases List.mem_append.1 hy with hy | hy
    · exact ld s y hy
    · rw [(List.mem_replicate.1 hy).2];exact ⟨rfl,rfl⟩)
  (fun k v y hv hy=>by
    rw [BJ] at hv
    have hk:=(Array.getElem?_eq_some_iff.1 hy).1
    unfold bytesRow at hy
    rw [Array.getElem?_append,Array.size_map] at hy
    rw [List.getElem?_append,Bl] at hv
    split at hy
    · rename_i aJ
      rw [if_pos (show k<s.size from aJ)] at hv
      obtain ⟨h1,rfl⟩:=jK hv
      rw [Array.getElem?_map,Array.getElem?_eq_getElem h1] at hy
      cases hy
      exact ⟨.int,rfl⟩
    · rename_i aJ
      rw [if_neg (show ¬k<s.size from aJ)] at hv
      have e1:=List.mem_of_getElem? hv
      rw [(List.mem_replicate.1 e1).2]
      have e2:=Array.mem_of_getElem? hy
      rw [Array.eq_of_mem_replicate e2]
      exact ⟨.int,rfl⟩) cu
 have th:s.size+(List.replicate (nc - s.size) (V.int .u8 0)).length=nc:=by simp;omega
 rw [th] at hk
 exact H.grown Ln s1 (by simpa using s2) hk
def GK (a:Act) (lo:Option Operand) (n:Option Int):Prop:=
 match lo,n with
 | none,none=>True
 | some y,some n=> ∃k,a.eval y= .int k n
 | _,_=>False
theorem pn {g:G} {n nt:Nat} (h:fy g w n nt a.tmps t) {lo:Option Operand} {K:Option Int->Prop} (hk:m5 t lo K): ∃n,GK a lo n/\K n:=by
 unfold m5 at hk
 cases lo with
 | none=>exact ⟨none,trivial,hk⟩
 | some y=>
   obtain ⟨v,hv,hk⟩:=aG h hk
   cases v<;>try exact hk.elim
   rename_i k n
   have hr:=hv.rel
   generalize hx:a.eval y=e at hr
   cases hr
   exact ⟨some n,⟨k,hx⟩,hk⟩
theorem od {T e:TypeId} {x:Operand} {lo hi:Option Operand} (ho:o.op= .slice T x lo hi none) (H:bu c a o.dst K KP next Q) (hs:cf c g w a ⟨t,ob,nt,df⟩) {i n z l m:Nat} {inf:TypeInfo}
 (hp:VT g w ob.length nt (.ptr i 0) (a.eval x)) (hu:S.P.underlying T=some (.array n e)) (mT:S.P.info? e=some inf) (hz:z=inf.size)
 (hb:(Instr.sliceBounds false n n (lo.map a.eval) (hi.map a.eval) none).run S.P w= .ok (l,m,n) w) (h1:l<=m) (h2:m<=n) (hk:K (.bX i z l (m - l) (n - l)) ⟨t,ob,nt,df⟩):o.wp S.P a w next Q:=by
 have hr:=hp.rel
 generalize hx:a.eval x=ex at hr
 cases hr with | ptr aJ=>
 subst hz
 refine H.same hs (x:= .slice (some (if n=l then ⟨g.bs i,0,none⟩ else (⟨g.bs i,0,none⟩:Addr).add (l*inf.size))) (m - l) (n - l)) ?_ (.of ?_ rfl) hk
 · have Mo:(Instr.sliceBounds false n n (lo.map a.eval) (hi.map a.eval) none).run S.P w= .ok (l,m,n) w:=hb
   simp only [execOp,ho,hx,Sem.run_bind,Instr.sliceAt,run_underlying hu,Result.andThen_ok,Instr.sureAddr,Sem.run_pure,Option.map_none,Mo,cH mT]
 · have oJ:Plain (some (if n=l then ⟨g.bs i,0,none⟩ else (⟨g.bs i,0,none⟩:Addr).add (l*inf.size))):=by
    split
    · exact .inr ⟨_,_,rfl⟩
    · exact .inr ⟨g.bs i,0+l*inf.size,by rw [Addr.add_mid]⟩
   refine .bX aJ (by omega) ?_ oJ
   by_cases hn:n=l
   · exact .inl (by omega)
   · rw [if_neg hn,Addr.add_mid];exact .inr (by simp)
theorem wQ {α:Type} {K:α->Prop}: ∀ {l:List α} {i:Nat} {x:α},l[i]? =some x->K x->cA l i K
 | _::_,0,x,h,k=>by simp at h;subst h;exact k
 | _::r,i+1,x,h,k=>wQ (l:=r) (i:=i) (by simpa using h) k
def Mp (b:Bool) (X:Prop):Prop:=match b with | true=>X | false=>False
theorem BS {b:Bool} {X:Prop} (hb:b=true) (hx:X):Mp b X:=by subst hb;exact hx
theorem yf {T:TypeId} {x:Operand} {lo hi mx:Option Operand} {i:Nat}
 (h:match S.P.underlying T,hi,lo,mx with
   | some (.array n e),hi,lo,none=>cA ob i fun o1=>match o1 with
     | .buf _ z l _=>jm S.P e fun z'=>m5 t lo fun l1=>m5 t hi fun h1=>(match Nat.beq z z',l1,h1 with
       | true,none,none=>K (.bX i z 0 n n) ⟨t,ob,nt,df⟩
       | true,some a,none=>0<=a/\a<=n/\K (.bX i z a.toNat (n - a.toNat) (n - a.toNat)) ⟨t,ob,nt,df⟩
       | true,none,some b=>0<=b/\b<=n/\K (.bX i z 0 b.toNat n) ⟨t,ob,nt,df⟩
       | true,some a,some b=>0<=a/\a<=b/\b<=n/\K (.bX i z a.toNat (b.toNat - a.toNat) (n - a.toNat)) ⟨t,ob,nt,df⟩
       | _,_,_=>False)
     | .cells _ U cs=>match lo.isNone &&hi.isNone &&cs.length==n &&dk S.P e==1 &&cs.all (fun c=>match c with | .int _ _=>true | _=>false) with
       | true=>fw ob i (.cells false U cs) fun eg=>K (.sl cs .ex) ⟨t,eg,nt,df⟩
       | false=>False
     | _=>False
   | _,_,_,_=>False)
 (ho:o.op= .slice T x lo hi mx) (H:bu c a o.dst K KP next Q) (hs:cf c g w a ⟨t,ob,nt,df⟩)
 (hp:VT g w ob.length nt (.ptr i 0) (a.eval x)):o.wp S.P a w next Q:=by
 split at h
 case h_2=>exact h.elim
 rename_i hi lo _ _ _ _ n e hu
 obtain ⟨x1,tc,h'⟩:=aX h
 clear h
 cases x1<;>try exact h'.elim
 case cells wr U cs=>
  simp only at h'
  split at h'
  case h_2=>exact h'.elim
  rename_i gb
  simp only [Bool.and_eq_true,Option.isNone_iff_eq_none] at gb
  obtain ⟨⟨⟨⟨rfl,rfl⟩,c1⟩,c2⟩,c3⟩:=gb
  exact xV ho H hs hp hu (wQ tc (BS (b:=cs.length==n &&dk S.P e==1 &&cs.all (fun c=>match c with | .int _ _=>true | _=>false)) (by rw [c1,c2];exact c3) h'))
 case buf mv z l ty=>
  simp only at h'
  obtain ⟨inf,mT,dh,ui⟩:=cD h'
  clear h'
  obtain ⟨l1,EJ,zc⟩:=pn hs.ti ui
  clear ui
  obtain ⟨h1,JB,h'⟩:=pn hs.ti zc
  clear zc
  cases zE:Nat.beq z inf.size with
  | false=>rw [zE] at h';cases l1<;>cases h1<;>exact h'.elim
  | true=>
    rw [zE] at h'
    have hz:=Nat.eq_of_beq_eq_true zE
    unfold GK at EJ JB
    cases l1<;>cases h1<;>cases lo<;>cases hi<;>simp only at EJ JB h'<;>try exact EJ.elim
    all_goals try exact JB.elim
    · exact od ho H hs hp hu mT hz (l:=0) (m:=n) (jo (lo:=none) (n:=0) (P:=S.P) (w:=w) (a:=a) rfl (by omega) (by omega)) (by omega) (by omega) h'
    · obtain ⟨k,hk⟩:=JB
      obtain ⟨b0,b1,h'⟩:=h'
      rename_i b y
      have:=fX (lo:=none) (n:=0) (m:=b) (k:=k) (isSlice:=false) (len:=n) (cap:=n) (P:=S.P) (w:=w) (a:=a) rfl (by omega) (by omega) (by omega)
      refine od ho H hs hp hu mT hz (l:=0) (m:=b.toNat) (by rw [Option.map_some,hk];exact this) (by omega) (by omega) ?_
      simpa using h'
    · obtain ⟨k,hk⟩:=EJ
      obtain ⟨b0,b1,h'⟩:=h'
      rename_i b y
      have:=jo (lo:=some y) (n:=b) (isSlice:=false) (len:=n) (cap:=n) (P:=S.P) (w:=w) (a:=a) ⟨k,hk⟩ (by omega) (by omega)
      exact od ho H hs hp hu mT hz (l:=b.toNat) (m:=n) this (by omega) (by omega) h'
    · obtain ⟨k,hk⟩:=EJ
      obtain ⟨k',kN⟩:=JB
      obtain ⟨b0,b1,b2,h'⟩:=h'
      rename_i b d y y'
      have:=fX (lo:=some y) (n:=b) (m:=d) (k:=k') (isSlice:=false) (len:=n) (cap:=n) (P:=S.P) (w:=w) (a:=a) ⟨k,hk⟩ (by omega) (by omega) (by omega)
      exact od ho H hs hp hu mT hz (l:=b.toNat) (m:=d.toNat) (by rw [Option.map_some (a:=y'),kN];exact this) (by omega) (by omega) h'
theorem yg {T:TypeId} {x:Operand} {lo hi mx:Option Operand} {i off:Nat}
 (h:match S.P.underlying T,hi,lo,mx with
   | some (.array n e),some hi,none,none=>cA ob i fun o1=>match o1 with
     | .cells _ _ _=>jm S.P e fun z=>m5 t (some hi) fun h1=>(match Nat.beq z 1,h1 with
       | true,some b=>0<=b/\b<=n/\K (.bX i 1 (off+1) b.toNat n) ⟨t,ob,nt,df⟩
       | _,_=>False)
     | _=>False
   | _,_,_,_=>False)
 (ho:o.op= .slice T x lo hi mx) (H:bu c a o.dst K KP next Q) (hs:cf c g w a ⟨t,ob,nt,df⟩)
 (hp:VT g w ob.length nt (.ptr i (off+1)) (a.eval x)):o.wp S.P a w next Q:=by
 split at h
 case h_2=>exact h.elim
 rename_i n e hi hu
 obtain ⟨x1,tc,h'⟩:=aX h
 clear h
 cases x1<;>try exact h'.elim
 case cells wr U cs=>
  simp only at h'
  obtain ⟨inf,mT,dh,ui⟩:=cD h'
  clear h'
  obtain ⟨h1,JB,h'⟩:=pn hs.ti ui
  clear ui
  cases zE:Nat.beq inf.size 1 with
  | false=>rw [zE] at h';cases h1<;>exact h'.elim
  | true=>
    rw [zE] at h'
    have hz:=Nat.eq_of_beq_eq_true zE
    unfold GK at JB
    cases h1 with
    | none=>exact h'.elim
    | some b=>
      simp only at JB h'
      obtain ⟨k,hk⟩:=JB
      obtain ⟨b0,b1,h'⟩:=h'
      have hb:=fX (lo:=none) (n:=0) (m:=b) (k:=k) (isSlice:=false) (len:=n) (cap:=n) (P:=S.P) (w:=w) (a:=a) rfl (by omega) (by omega) (by omega)
      have Mo:(Instr.sliceBounds false n n none (Option.map a.eval (some hi)) none).run S.P w= .ok (0,b.toNat,n) w:=by rw [Option.map_some,hk];exact hb
      have hr:=hp.rel
      generalize hx:a.eval x=ex at hr
      cases hr with | ptr aJ=>
      refine H.same hs (x:= .slice (some (if n=0 then ⟨g.bs i,off+1,none⟩ else (⟨g.bs i,off+1,none⟩:Addr).add (0*inf.size))) (b.toNat - 0) (n - 0)) ?_ (.of ?_ rfl) h'
      · simp only [execOp,ho,hx,Sem.run_bind,Instr.sliceAt,run_underlying hu,Result.andThen_ok,Instr.sureAddr,Sem.run_pure,Option.map_none,Mo,cH mT]
      · have oJ:Plain (some (if n=0 then ⟨g.bs i,off+1,none⟩ else (⟨g.bs i,off+1,none⟩:Addr).add (0*inf.size))):=by
         split
         · exact .inr ⟨_,_,rfl⟩
         · exact .inr ⟨g.bs i,off+1+0*inf.size,by rw [Addr.add_mid]⟩
        refine .bX aJ (by omega) ?_ oJ
        by_cases hn:n=0
        · exact .inl (by omega)
        · rw [if_neg hn,Addr.add_mid];exact .inr (by simp)
theorem Du {n:Nat} {v:V} {x:Value} {K:Bool->Prop} (h:aw g.bs g.I w n v x) (hk:jB.Bs v K): ∃ad l c,x= .slice ad l c/\K ad.isNone:=by
 unfold jB.Bs at hk
 cases h<;>try exact hk.elim
 case slnil=>exact ⟨none,_,_,rfl,hk _ fun _=>rfl⟩
 case sl=>exact ⟨_,_,_,rfl,hk _ (by simp)⟩
 case pM=>exact ⟨_,_,_,rfl,hk _ (by simp)⟩
 case spare=>exact ⟨_,_,_,rfl,hk _ (by simp)⟩
 case bX=>
  rename_i ad _ ha _ _
  exact ⟨ad,_,_,rfl,hk _ fun e=>by
   rcases ha with ha | ha
   · exact ha
   · rw [ha] at e;simp at e⟩
theorem r_ (d:Nat) {T e:TypeId} {P:Program} (ad:Option Addr) (l c l' c':Nat) (hu:P.underlying T=some (.slice e)):(Op.equalIn (d+1) T (.slice ad l c) (.slice none l' c')).run P w= .ok ad.isNone w:=by
 cases ad<;>simp [Op.equalIn,run_underlying hu]
theorem zS {op:BinOp} {T U:TypeId} {x y:Operand} (ho:o.op= .binOp op T x y U) (hy:sZ y=true) (H:bu c a o.dst K KP next Q) (hs:cf c g w a ⟨t,ob,nt,df⟩)
 (h:ev t x fun x=>jB S.P op T x fun v=>K v ⟨t,ob,nt,df⟩):o.wp S.P a w next Q:=by
 obtain ⟨v,hv,hk⟩:=aG hs.ti h
 obtain ⟨l0,c0,rfl⟩: ∃l0 c0,y= .const (.slice none l0 c0):=by
  unfold sZ at hy
  split at hy
  · exact ⟨_,_,rfl⟩
  · cases hy
 have S8:a.eval (.const (.slice none l0 c0))= .slice none l0 c0:=rfl
 unfold jB at hk
 split at hk
 · rename_i e hu
   obtain ⟨ad,l,cp,hx,hk⟩:=Du hv.rel hk
   have he:(Op.equal T (.slice ad l cp) (.slice none l0 c0)).run S.P w= .ok ad.isNone w:=r_ 9999 ad l cp l0 c0 hu
   refine H.same hs (x:= .bool ad.isNone) ?_ (.of .bool rfl) hk
   simp only [execOp,ho,hx,S8]
   simp [eqGuard,binOp,he]
 · rename_i e hu
   obtain ⟨ad,l,cp,hx,hk⟩:=Du hv.rel hk
   have he:(Op.equal T (.slice ad l cp) (.slice none l0 c0)).run S.P w= .ok ad.isNone w:=r_ 9999 ad l cp l0 c0 hu
   refine H.same hs (x:= .bool !ad.isNone) ?_ (.of .bool rfl) hk
   simp only [execOp,ho,hx,S8]
   simp [eqGuard,binOp,he]
 · exact hk.elim
theorem ux {A B:TypeId} {x:Operand} (ho:o.op= .convert A B x) (H:bu c a o.dst K KP next Q) (hs:cf c g w a ⟨t,ob,nt,df⟩)
 (h:ev t x fun x=>(match x with
 | .bX _ _ _ _ _=>(match S.P.underlying A,S.P.underlying B with
   | some (.slice e),some .string=>(match S.P.underlying e with
     | some (.int .u8)=>sG S.P e #[] ob x fun m=> ∃bs:ByteArray,m=bK bs/\K (.str bs) ⟨t,ob,nt,df⟩
     | _=>False)
   | _,_=>False)
 | .ptr i off=>cA ob i fun o1=>pX S.P A B o1 off fun b=>(match b with | true=>K (.ptr i off) ⟨t,ob,nt,df⟩ | false=>False)
 | x=>wI S.P A B x fun v=>K v ⟨t,ob,nt,df⟩)):o.wp S.P a w next Q:=by
 obtain ⟨p,hp,hk⟩:=aG hs.ti h
 clear h
 split at hk
 case h_2=>exact yc ho H hs hp hk
 case h_3=>exact ue ho H hs hp hk
 rename_i o1 z lo n cp
 split at hk
 case h_2=>exact hk.elim
 rename_i e hA hB
 split at hk
 case h_2=>exact hk.elim
 rename_i he
 have hr:=hp.rel
 unfold sG at hk
 simp only at hk
 obtain ⟨x1,tc,hk⟩:=aX hk
 cases x1<;>try exact hk.elim
 rename_i mv z' l ty
 simp only at hk
 split at hk
 case h_2=>exact hk.elim
 rename_i zE
 have hz:=Nat.eq_of_beq_eq_true zE
 subst hz
 obtain ⟨hb,s,hm,hk⟩:=hk
 obtain ⟨news,hn⟩:=te (P:=S.P) hs.wi tc hr hb
 have oK:((l.drop lo).take n).length=n:=by simp;omega
 have sQ:s.size=n:=by rw [hm,b8] at oK;exact oK
 have GL:news=s.data.toList.map fun b=>Value.int .u8 b.toNat:=by
  by_cases h0:n=0
  · have OK:news=[]:=List.eq_nil_of_length_eq_zero (by rw [hn.size,oK,h0];simp)
    have N6:s.data.toList=[]:=List.eq_nil_of_length_eq_zero (by rw [Array.length_toList];show s.size=0;omega)
    rw [OK,N6];rfl
  · have xL:z=1:=by
     obtain ⟨y,hy⟩:=List.exists_mem_of_ne_nil ((l.drop lo).take n) (fun e=>by rw [e] at oK;simp at oK;omega)
     rw [←(hn.ok y hy).1]
     rw [hm] at hy
     exact (ld s y hy).1
    subst xL
    apply List.ext_getElem?
    intro k
    by_cases hk:k<s.data.size
    · have kN:k<news.length:=by rw [hn.size,oK, ←sQ];simpa using hk
      have hv:(((l.drop lo).take n).flatMap V.cells)[k]? =some (.int .u8 (s.data[k]).toNat):=by
       rw [hm,fk];unfold bK;rw [List.getElem?_map,Array.getElem?_toList,Array.getElem?_eq_getElem hk];rfl
      have nb:=hn.rel k _ _ hv (List.getElem?_eq_getElem kN)
      rw [List.getElem?_eq_getElem kN]
      generalize news[k]=y at nb
      cases nb
      rw [List.getElem?_map,Array.getElem?_toList,Array.getElem?_eq_getElem hk];rfl
    · have h1:news.length<=k:=by rw [hn.size,oK, ←sQ];simpa using hk
      rw [List.getElem?_eq_none h1,List.getElem?_eq_none (by simpa using hk)]
 have hf:=hn.cells w rfl
 rw [oK] at hf
 have aS:(convert A B (a.eval x)).run S.P w= .ok (.string s) w:=by
  generalize a.eval x=ex at hr hf
  cases hr with | @bX _ _ _ _ _ _ ad aJ hl ha hf=>
  cases ad with
  | none=>
    rw [run_convert_bytes_nil w A e hA he n cp B hB]
    have OE:news=[]:=by simpa [Builtin.firstCells] using hf.symm
    have:s=ByteArray.empty:=by
     obtain ⟨d⟩:=s
     have:d= #[]:=by simpa [OE] using GL.symm
     subst this;rfl
    rw [this]
  | some b=>
    rw [run_convert_bytes_string w A B e (some b) n cp hA he hB]
    by_cases h0:n=0
    · subst h0
      have N6:s.data.toList=[]:=List.eq_nil_of_length_eq_zero (by rw [Array.length_toList];exact sQ)
      have Rl:(loadCells b 0).run S.P w= .ok (([]:List Int).map (Value.int .u8)).toArray w:=by
       have:(Builtin.firstCells z 0 (.slice (some b) 0 cp)).run S.P w= .ok news.toArray w:=hf
       simp only [Builtin.firstCells,Nat.zero_mul] at this
       rw [this,GL,N6];rfl
      rw [run_bytesToString w b 0 cp [] Rl]
      have:s=ByteArray.empty:=by
       obtain ⟨d⟩:=s
       have:d= #[]:=by simpa using N6
       subst this;rfl
      rw [this];rfl
    · have xL:z=1:=by
       obtain ⟨y,hy⟩:=List.exists_mem_of_ne_nil ((l.drop lo).take n) (fun e=>by rw [e] at oK;simp at oK;omega)
       rw [←(hn.ok y hy).1]
       rw [hm] at hy
       exact (ld s y hy).1
      subst xL
      have Ui:(loadCells b n).run S.P w= .ok ((s.data.toList.map fun b=>(b.toNat:Int)).map (Value.int .u8)).toArray w:=by
       have:(Builtin.firstCells 1 n (.slice (some b) n cp)).run S.P w= .ok news.toArray w:=hf
       simp only [Builtin.firstCells,Nat.mul_one] at this
       rw [this,GL,List.map_map];rfl
      rw [run_bytesToString w b n cp _ Ui,foldl_push_byteCells]
      have JC:ByteArray.empty.data= #[]:=rfl
      rw [JC]
      simp
 refine H.same hs (x:= .string s) ?_ (.of .str rfl) hk
 simp only [execOp,ho,Sem.run_bind,aS,Result.andThen_ok]
 rfl
end
end VL
namespace VL
open Go
def Ends (g:G) (w:World) (n:Nat):Out->Ending->Prop
 | .ret v,.returned x=>VT g w n 0 v x
 | .dw v,.panicked ch=> ∃x,ch=[{v:=x,recovered:=false}]/\aw g.bs g.I w n v x
 | _,_=>False
def ma (g:G) (ob:List af) (b:Nat):Prop:= ∃(o:Nat) (x:af),ob[o]? =some x/\x.real=true/\g.bs o=b
def rm (P:Program) (f:FuncId) (b9:Array Value) (w:World) (R:Ending->World->Prop):Prop:=
 match (callFunc f b9).run P w with
 | .ok (.enter f' cI) w'=>Calls P f' cI w' R
 | .ok (.value v) w'=>R (.returned v) w'
 | .ok (.row row args) w'=>Rows P row args w' fun v Uj=>R (.returned v) Uj
 | _=>False
theorem rm.mono {P:Program} {f:FuncId} {b9:Array Value} {w:World} {R R':Ending->World->Prop} (h:rm P f b9 w R) (hr: ∀e w',R e w'->R' e w'):rm P f b9 w R':=by
 unfold rm at h ⊢
 split at h
 · exact h.mono hr
 · exact hr _ _ h
 · exact h.mono fun v w' hv=>hr _ _ hv
 · exact h.elim
theorem qb {P:Program} {f:FuncId} {fn:Func} {body:Code} (hf:P.funcs[f]? =some fn) (hb:fn.body=some body) (hn:(fn.name== "runtime.NumGoroutine")=false) (b9:Array Value) (w:World):
 (callFunc f b9).run P w= .ok (.enter f b9) w:=by
 have Mq: ¬fn.name= "runtime.NumGoroutine":=by simpa using hn
 simp [callFunc,hf,Mq,hb]
theorem rm.calls {P:Program} {f:FuncId} {fn:Func} {body:Code} (hf:P.funcs[f]? =some fn) (hb:fn.body=some body) (hn:(fn.name== "runtime.NumGoroutine")=false) {b9:Array Value} {w:World} {R:Ending->World->Prop}:
 rm P f b9 w R↔Calls P f b9 w R:=by
 unfold rm
 rw [qb hf hb hn]
def jL (P:Program) (f:FuncId) (args:List V) (ob:List af) (K:Out->List af->Prop):Prop:=
 ∀(w:World) (g:G) (b9:Array Value),a_ ⟨w,ob.length,g.bs,g.I,ma g ob⟩ g w ob 0->args.length=b9.size->
  (∀(k:Nat) v x,args[k]? =some v->b9[k]? =some x->VT g w ob.length 0 v x)->zp g w->
  rm P f b9 w fun e w'=> ∃out c6 g',K out c6/\a_ ⟨w,ob.length,g.bs,g.I,ma g ob⟩ g' w' c6 0/\Ends g' w' c6.length out e
structure ah (P:Program) (f:FuncId) (args:List V) (ob:List af) (K:Out->List af->Prop):Prop where
 shut:: «open» :jL P f args ob K
theorem eI {i:Nat}: ∀ {l:List Nat},kZ i l=true↔i∈l
 | []=>by simp [kZ]
 | j::r=>by
   simp only [kZ,List.mem_cons]
   cases h:Nat.beq i j with
   | true=>simp [Nat.eq_of_beq_eq_true h]
   | false=>simp only [eI (l:=r)];exact ⟨.inr,fun h'=>h'.resolve_left fun e=>by subst e;simp at h⟩
theorem gR: ∀ {l:List Nat},nh l=true->l.Nodup
 | [],_=> .nil
 | i::r,h=>by
   simp only [nh,Bool.and_eq_true,Bool.not_eq_true'] at h
   refine List.nodup_cons.2 ⟨fun hm=> ?_,gR h.2⟩
   rw [eI.2 hm] at h;simp at h
theorem gT {idx:List Nat}: ∀ {l:List Nat},pS idx l=true-> ∀i∈l,i∈idx
 | j::r,h,i,hi=>by
   simp only [pS,Bool.and_eq_true] at h
   cases hi with
   | head=>exact eI.1 h.1
   | tail _ hi=>exact gT h.2 i hi
theorem oe {ob:List af} {idx:List Nat}: ∀ {l:List Nat},pT ob idx l=true-> ∀i∈l, ∀x,ob[i]? =some x-> ∀o∈fU x,o∈idx
 | j::r,h,i,hi,x,hx,o,ho=>by
   simp only [pT,Bool.and_eq_true] at h
   cases hi with
   | head=>exact gT h.1 o (by rw [hx];simpa using ho)
   | tail _ hi=>exact oe h.2 i hi x hx o ho
theorem qc: ∀ {l:List Nat} {i k:Nat},i∈l->k<=dR i l k/\dR i l k<k+l.length/\l[dR i l k - k]? =some i
 | j::r,i,k,h=>by
   simp only [dR]
   cases hb:Nat.beq i j with
   | true=>rw [Nat.eq_of_beq_eq_true hb];simp
   | false=>
     have hr:i∈r:=by
      cases h with
      | head=>simp at hb
      | tail _ h=>exact h
     obtain ⟨h1,h2,h3⟩:=qc (k:=k+1) hr
     refine ⟨by simp only;omega,by simp only [List.length_cons];omega,?_⟩
     simp only
     rw [show dR i r (k+1) - k=(dR i r (k+1) - (k+1))+1 by omega]
     simpa using h3
def fQ:af->af
 | .cells w T cs=> .cells w T (cs.map V.bj)
 | o=>o
theorem BT {o:af} {K:af->Prop} (h:o.aH K):K (fQ o):=by
 cases o with
 | cells w T cs=>exact dq h
 | _=>exact h
def Jh:af->af
 | .buf _ z l ty=> .buf false z l ty
 | o=>o
theorem JD {o:af} {K:af->Prop} (h:o.Qf K):K (Jh o):=by
 cases o<;>exact h
theorem uy: ∀ {l:List af} {K:List af->Prop},Ew l K->K (l.map Jh)
 | [],K,h=>h
 | o::r,K,h=>uy (l:=r) (JD h)
theorem Dv {o:af} {K:Bool->Prop} (h:o.Ja K):K o.mv:=by
 unfold af.Ja at h
 split at h
 · exact h
 · cases o with
   | buf m z l=>cases m<;>first | exact h | (rename_i hn;exact absurd rfl (hn _ _ _))
   | _=>exact h
def cE:List Nat->List af->List Nat
 | i::r,o::os=>if o.mv then i::cE r os else cE r os
 | _,_=>[]
theorem mb: ∀ {idx:List Nat} {os:List af} {K:List Nat->Prop},kK idx os K->K (cE idx os)
 | [],os,K,h=>by cases os<;>exact h
 | _::_,[],K,h=>h
 | i::r,o::os,K,h=>by
   have h:=Dv h
   simp only [cE]
   cases hm:o.mv with
   | true=>rw [hm] at h;exact mb h
   | false=>rw [hm] at h;exact mb h
theorem sa: ∀ {idx:List Nat} {os:List af} {j i:Nat} {o:af},idx[j]? =some i->os[j]? =some o->o.mv=true->i∈cE idx os
 | [],os,j,i,o,h,_,_=>by simp at h
 | _::_,[],j,i,o,_,h,_=>by simp at h
 | k::r,p::os,0,i,o,h1,h2,h3=>by
   simp at h1 h2;subst h1;subst h2;simp [cE,h3]
 | k::r,p::os,j+1,i,o,h1,h2,h3=>by
   have:=sa (idx:=r) (os:=os) (by simpa using h1) (by simpa using h2) h3
   simp only [cE];split
   · exact List.mem_cons_of_mem _ this
   · exact this
mutual
theorem yh (f:Nat->Nat): ∀v:V,aW v=[]->gM f v=v
 | .undef,_ | .int _ _,_ | .bool _,_ | .str _,_ | .gH,_ | .sl _ _,_ | .spare _ _,_ | .ig,_ | .gL,_ | .ij,_=>rfl
 | .ptr _ _,h=>by simp [aW] at h
 | .mp _,h=>by simp [aW] at h
 | .bX _ _ _ _ _,h=>by simp [aW] at h
 | .bp _ _ _ _,h=>by simp [aW] at h
 | .pM l,h=>by simp only [gM,iy f l (by simpa [aW] using h)]
 | .dp l,h=>by simp only [gM,iy f l (by simpa [aW] using h)]
 | .agg l,h=>by simp only [gM,iy f l (by simpa [aW] using h)]
 | .aQ l,h=>by simp only [gM,iy f l (by simpa [aW] using h)]
 | .jl t v,h=>by simp only [gM,yh f v (by simpa [aW] using h)]
 | .fn g a b,h=>by
   have h:b7 a=[]/\b7 b=[]:=by simpa [aW] using h
   simp only [gM,iy f a h.1,iy f b h.2]
theorem iy (f:Nat->Nat): ∀l:List V,b7 l=[]->gO f l=l
 | [],_=>rfl
 | v::r,h=>by
   have h:aW v=[]/\b7 r=[]:=by simpa [b7] using h
   simp only [gO,yh f v h.1,iy f r h.2]
end
theorem np {n:Nat} {K:Nat->Prop} (h:wh n K):K n:=by cases n<;>exact h
theorem og: ∀ {l:List Nat} {K:List Nat->Prop},ng l K->K l
 | [],K,h=>h
 | i::r,K,h=>og (l:=r) (np h)
theorem qd {f:Nat->Nat} {v:V} {K:V->Prop} (h:m6 f v K):K (gM f v):=by
 unfold m6 at h
 split at h
 · exact np h
 · exact np h
 · exact np h
 · exact np h
 · split at h
   · rename_i e;rw [yh f v e];exact h
   · exact h
theorem gU {f:Nat->Nat} {K:List V->Prop}: ∀ {l:List V},cd (m6 f) l K->K (gO f l)
 | [],h=>h
 | x::r,h=>gU (l:=r) (qd h)
theorem oh {f:Nat->Nat} {o:af} {K:af->Prop} (h:iU f o K):K (eN f o):=by
 unfold iU at h
 split at h
 · rename_i w T cs
   split at h
   · rename_i e
     simp only [eN,iy f cs e];exact h
   · exact gU h
 · cases o with
   | cells w T cs=>rename_i hn;exact absurd rfl (hn w T cs)
   | _=>exact h
theorem uz {f:Nat->Nat} {K:List af->Prop}: ∀ {l:List af},cd (iU f) l K->K (l.map (eN f))
 | [],h=>h
 | x::r,h=>uz (l:=r) (oh h)
theorem oi {ob:List af} {f:Nat->Nat}: ∀ {idx:List Nat} {K:List af->Prop},pU ob f idx K->
 ∃sub,sub.length=idx.length/\(∀(j i:Nat),idx[j]? =some i-> ∃o,ob[i]? =some o/\sub[j]? =some (eN f (fQ o)))/\K sub
 | [],K,h=>⟨[],rfl,by simp,h⟩
 | i::r,K,h=>by
   obtain ⟨o,h1,h2⟩:=aX h
   have h4:=BT h2
   obtain ⟨sub,h5,h6,h7⟩:=oi h4
   have h7:=oh h7
   refine ⟨_::sub,by simp [h5],fun j k hj=> ?_,h7⟩
   cases j with
   | zero=>simp at hj;subst hj;exact ⟨o,h1,rfl⟩
   | succ j=>exact h6 j k (by simpa using hj)
theorem EV {m:Bool} {o:af} {K:af->Prop} (h:o.rZ m K):K (o.pb m)/\(m=true-> ∃m' z l ty,o= .buf m' z l ty):=by
 unfold af.rZ at h
 split at h
 · exact ⟨h,fun _=>⟨_,_,_,_,rfl⟩⟩
 · exact ⟨h,fun _=>⟨_,_,_,_,rfl⟩⟩
 · refine ⟨?_,fun h=>by cases h⟩
   cases o with
   | buf m' z l=>cases m'<;>(rename_i h1 h2;first | exact absurd rfl (h1 _ _ _) | exact absurd rfl (h2 _ _ _))
   | _=>exact h
 · exact h.elim
theorem GM {f:Nat->Nat} {o:af} {m:Bool} {z:Nat} {l:List V} {ty:Option TypeId} (h:eN f o= .buf m z l ty):o= .buf m z l ty:=by
 cases o<;>simp [eN] at h ⊢
 exact h
theorem rn {f:Nat->Nat}: ∀ {idx:List Nat} {os ob:List af} {K:List af->Prop},idx.Nodup->mR f idx os ob K->
 ∃c6,idx.length<=os.length/\c6.length=ob.length+(os.length - idx.length)/\(∀(j i:Nat) o,idx[j]? =some i->os[j]? =some o-> ∃o0,ob[i]? =some o0/\c6[i]? =some ((eN f o).pb o0.mv)/\(o0.mv=true-> ∃m z l ty,o= .buf m z l ty))/\
  (∀i,i<ob.length->i ∉ idx->c6[i]? =ob[i]?)/\(∀(k:Nat) o,os[idx.length+k]? =some o->c6[ob.length+k]? =some (eN f o))/\K c6
 | [],os,ob,K,_,h=>⟨ob++os.map (eN f),by simp,by simp,by simp,fun i hi _=>by rw [List.getElem?_append_left hi],fun k o ho=>by
    rw [List.getElem?_append_right (by omega),Nat.add_sub_cancel_left,List.getElem?_map]
    simp at ho;simp [ho],uz h⟩
 | i::r,[],ob,K,_,h=>h.elim
 | i::r,o::os,ob,K,hn,h=>by
   obtain ⟨o0,h0,h⟩:=aX (oh h)
   obtain ⟨h,Dw⟩:=EV (Dv h)
   obtain ⟨hi,h⟩:=cj h
   obtain ⟨S9,hr⟩:=List.nodup_cons.1 hn
   obtain ⟨c6,h1,h2,h3,h4,h5,h6⟩:=rn hr h
   simp only [List.length_set] at h2 h4 h5
   refine ⟨c6,by simp;omega,by simp only [List.length_cons];omega,fun j k x hj hx=> ?_,fun k hk kN=> ?_,fun k x hx=> ?_,h6⟩
   · cases j with
     | zero=>
       simp at hj hx;subst hj;subst hx
       exact ⟨o0,h0,by rw [h4 i hi S9,List.getElem?_set_self hi],fun hm=>by
        obtain ⟨m,z,l,ty,e⟩:=Dw hm
        exact ⟨m,z,l,ty,GM e⟩⟩
     | succ j=>
       obtain ⟨o1,g1,g2⟩:=h3 j k x (by simpa using hj) (by simpa using hx)
       have kq:i≠k:=fun e=>by subst e;exact S9 (List.mem_of_getElem? (by simpa using hj))
       rw [List.getElem?_set_ne kq] at g1
       exact ⟨o1,g1,g2⟩
   · simp only [List.mem_cons,not_or] at kN
     rw [h4 k hk kN.2,List.getElem?_set_ne (by omega)]
   · exact h5 k x (by
      have:(i::r).length+k=(r.length+k)+1:=by simp;omega
      rw [this] at hx;simpa using hx)
theorem jr {ms:List Nat}: ∀ {l:List Nat},ni ms l=false↔ ∀o∈l,o ∉ ms
 | []=>by simp [ni]
 | i::r=>by
   simp only [ni,List.mem_cons,forall_eq_or_imp]
   cases h:kZ i ms with
   | true=>simp [eI.1 h]
   | false=>
     simp only [jr (l:=r)]
     refine ⟨fun h'=>⟨fun hm=> ?_,h'⟩,fun h'=>h'.2⟩
     rw [eI.2 hm] at h;cases h
theorem ew (ms:List Nat) (v:V):V.forget ms v= .undef\/(V.forget ms v=v/\ ∀o∈aW v,o ∉ ms):=by
 unfold V.forget
 cases h:ni ms (aW v) with
 | true=>exact .inl rfl
 | false=>exact .inr ⟨rfl,jr.1 h⟩
def cW (ms:List Nat):af->af
 | .cells w T cs=> .cells w T (cs.map (V.forget ms))
 | o=>o
theorem nq {ms:List Nat} {K:List V->Prop}: ∀ {l:List V},cd (fun v K=>(V.forget ms v).c7 K) l K->K (l.map (V.forget ms))
 | [],h=>h
 | x::r,h=>by
   have h:(V.forget ms x).c7 _:=h
   rw [bk] at h
   exact nq (l:=r) h
theorem mc {ms:List Nat} {K:List af->Prop}: ∀ {l:List af},cd (af.fg ms) l K->K (l.map (cW ms))
 | [],h=>h
 | x::r,h=>by
   cases x with
   | cells w T cs=>exact mc (l:=r) (nq (show cd (fun v K=>(V.forget ms v).c7 K) cs _ from h))
   | _=>exact mc (l:=r) h
theorem rp: ∀l:List Nat,ni [] l=false
 | []=>rfl
 | _::r=>by simp [ni,kZ,rp r]
theorem po (v:V):V.forget [] v=v:=by simp [V.forget,rp]
theorem sb (o:af):cW [] o=o:=by
 cases o with
 | cells w T cs=>simp [cW,funext po]
 | _=>rfl
theorem uA: ∀df,gP [] df=true
 | []=>rfl
 | (_,a,b)::r=>by simp [gP,rp,uA r]
theorem iz {ms:List Nat} {t:List V} {ob:List af} {df:List (Fn × List V × List V)} {K:List V->List af->Prop} (h:fg ms t ob df K):gP ms df=true/\K (t.map (V.forget ms)) (ob.map (cW ms)):=by
 unfold fg at h
 split at h
 · refine ⟨uA df,?_⟩
   rw [show V.forget []=id from funext po,show cW []=id from funext sb,List.map_id,List.map_id];exact h
 · split at h
   · exact h.elim
   · rename_i hn
     exact ⟨hn,mc (nq h)⟩
end VL
namespace VL
open Go
theorem lj {f:Nat->Nat} {v:V} (h:v.cB=true):(gM f v).cB=true:=by
 cases v<;>simp [gM,V.cB] at h ⊢
 exact h
theorem GN {db:Nat->Bw} {v:V} {x:Value} (h:Tok db 0 v x):v.cB=true:=by
 cases v with
 | sl l r=>cases r with
   | tok i sz=>exact absurd h.1 (by omega)
   | _=>rfl
 | _=>rfl
theorem uB (v:V):aW (V.bj v)=aW v:=by
 unfold V.bj;split<;>simp [aW]
theorem zT (l:List V):b7 (l.map V.bj)=b7 l:=by
 induction l with
 | nil=>rfl
 | cons x r ih=>simp [b7,uB,ih]
section
variable {c:Ctx} {g:G} {w:World} {ob:List af} {nt:Nat} {idx:List Nat} {sub:List af}
def nr (g:G) (idx:List Nat):G:= {g with bs:=fun j=>g.bs ((idx[j]?).getD 0)}
theorem BU {n m:Nat} {v:V} {x:Value} (h:aw g.bs g.I w n v x) (hp: ∀o∈aW v,o∈idx) (hm:m=idx.length):
 aw (nr g idx).bs (nr g idx).I w m (gM (fun i=>dR i idx 0) v) x:=by
 refine h.gM fun o ho _=> ?_
 obtain ⟨_,h2,h3⟩:=qc (k:=0) (hp o ho)
 rw [Nat.sub_zero] at h3
 refine ⟨by omega,?_⟩
 show g.bs ((idx[dR o idx 0]?).getD 0)=_
 rw [h3];rfl
theorem aw.GO {bs:Nat->Nat} {I:Nat->Nat->Prop} {n:Nat} {v:V} {x:Value} {xI:Nat->Nat} {n':Nat} (h:aw bs I w n v x) (hp: ∀o∈aW v,o<n->o<n'/\xI o=bs o):aw xI I w n' v x:=by
 have h1:=h.gM (f:=id) (xI:=xI) (n':=n') hp
 have: ∀v:V,VL.gM id v=v:=by
  intro v
  have aux: ∀n:Nat, ∀v:V,sizeOf v<n->VL.gM id v=v:=by
   intro n
   induction n with
   | zero=>intro v h;omega
   | succ n ih=>
     intro v hv
     have hl: ∀l:List V,sizeOf l<n->gO id l=l:=by
      intro l
      induction l with
      | nil=>intro _;rfl
      | cons a r Uk=>intro hr;simp only [gO];rw [ih a (by simp at hr;omega),Uk (by simp at hr;omega)]
     cases v with
     | fn f a b=>simp at hv;simp only [VL.gM];rw [hl a (by omega),hl b (by omega)]
     | _=>simp only [VL.gM,id]<;>first | rfl | (simp at hv;congr 1;first | exact hl _ (by omega) | exact ih _ (by omega))
  exact aux (sizeOf v+1) v (by omega)
 rw [this] at h1;exact h1
theorem gI.forget {g g':G} {w w':World} {n n':Nat} {ms:List Nat} (hm: ∀v x,aw g.bs g.I w n v x->(∀o∈aW v,o ∉ ms)->aw g'.bs g'.I w' n' v x) {ds:List Deferred} {df:List (Fn × List V × List V)} (h:gI g w n ds df) (hd:gP ms df=true):gI g' w' n' ds df:=by
 induction h with
 | nil=>exact .nil
 | @cons d x ds xs h1 _ ih=>
   obtain ⟨f0,p,q⟩:=x
   simp only [gP,Bool.and_eq_true,Bool.not_eq_true'] at hd
   obtain ⟨⟨d1,d2⟩,d3⟩:=hd
   obtain ⟨Gs,e1,e2,e3,e4,e5⟩:=h1
   exact .cons ⟨Gs,e1,e2,e3,fun k v y hv hy=>hm v y (e4 k v y hv hy) fun o ho=>jr.1 d1 o (bY hv ho),
    fun k v y hv hy=>hm v y (e5 k v y hv hy) fun o ho=>jr.1 d2 o (bY hv ho)⟩ (ih d3)
theorem Dx (h:a_ c g w ob nt) (kX:idx.Nodup) (qe: ∀i∈idx, ∀x,ob[i]? =some x-> ∀o∈fU x,o∈idx) (hl:sub.length=idx.length)
 (iA: ∀(j i:Nat),idx[j]? =some i-> ∃o,ob[i]? =some o/\sub[j]? =some (Jh (eN (fun i=>dR i idx 0) (fQ o)))):
 a_ ⟨w,sub.length,(nr g idx).bs,g.I,ma (nr g idx) sub⟩ (nr g idx) w sub 0:=by
 have aD: ∀(j:Nat) x,sub[j]? =some x-> ∃i o,idx[j]? =some i/\ob[i]? =some o/\x=Jh (eN (fun i=>dR i idx 0) (fQ o))/\(nr g idx).bs j=g.bs i/\(x.real=true->o.real=true):=fun j x hx=>by
  have aJ:j<idx.length:=by rw [←hl];exact (List.getElem?_eq_some_iff.1 hx).1
  obtain ⟨o,h1,h3⟩:=iA j idx[j] (List.getElem?_eq_getElem aJ)
  rw [hx] at h3
  have p5:=Option.some.inj h3
  refine ⟨idx[j],o,List.getElem?_eq_getElem aJ,h1,p5,by simp [nr,aJ],?_⟩
  rw [p5];cases o<;>exact fun h=>h
 refine ⟨rfl,rfl,rfl,Nat.le_refl _,fun _ _ _=>rfl,Nat.le_refl _,?_,?_,?_,fun _ _ _ _ _=>rfl,fun o x ho hr=> .inr ⟨o,x,ho,hr,rfl⟩,fun _ _ h=>h,fun _ _ _ _ h=>h,h.i3,?_,?_,fun i hi=>absurd hi (by omega),fun i j hi=>absurd hi (by omega),fun _ _ _=>rfl⟩
 · intro j x hx
   obtain ⟨i,o,h1,h2,rfl,hb,_⟩:=aD j x hx
   have ho:=h.obj i o h2
   have Ju:=qe i (List.mem_of_getElem? h1) o h2
   rw [hb]
   cases o with
   | none=>trivial
   | map es=>
     obtain ⟨arr,zb,a1,a2,a3⟩:=ho
     exact ⟨arr,zb,a1,a2,fun k e c he hc=>⟨(a3 k e c he hc).1.mono (fun o ho=>absurd ho (by omega)) fun b k hi=>⟨hi,rfl⟩,(a3 k e c he hc).2.mono (fun o ho=>absurd ho (by omega)) fun b k hi=>⟨hi,rfl⟩⟩⟩
   | buf m z l=>
     rcases ho with ho | ⟨arr,T,a1,JE,a2,a3,a4⟩
     · exact .inl ho
     · exact .inr ⟨arr,T,a1,JE,a2,a3,fun k v c he hc=>⟨(a4 k v c he hc).1.mono (fun o ho=>absurd ho (by omega)) fun b k hi=>⟨hi,rfl⟩,(a4 k v c he hc).2⟩⟩
   | cells wr T cs=>
     obtain ⟨arr,a1,a2,a3⟩:=ho
     refine ⟨arr,a1,by rw [bU];simp [a2],fun k v c hv hc=> ?_⟩
     rw [c8,List.getElem?_map] at hv
     obtain ⟨v',iV,rfl⟩:=Option.map_eq_some_iff.1 hv
     obtain ⟨S_,Mr,rfl⟩:=Option.map_eq_some_iff.1 iV
     refine ⟨⟨BU (a3 k S_ c Mr hc).1.rel.bj (fun o ho=>Ju o ?_) hl,.fA (lj (bB _))⟩,(a3 k S_ c Mr hc).2⟩
     rw [uB] at ho
     exact bY Mr ho
 · intro j x hx bZ
   obtain ⟨i,o,h1,h2,_,hb,h3⟩:=aD j x hx
   rw [hb];exact h.lt i o h2 (h3 bZ)
 · intro j j' x x' hx p5 hr tf e
   obtain ⟨i,o,h1,h2,_,hb,h3⟩:=aD j x hx
   obtain ⟨i',o',ui,zc,_,Mo,Ul⟩:=aD j' x' p5
   rw [hb,Mo] at e
   have e':=h.inj i i' o o' h2 zc (h3 hr) (Ul tf) e
   subst e'
   have l1:=(List.getElem?_eq_some_iff.1 h1).1
   have l2:=(List.getElem?_eq_some_iff.1 ui).1
   have hp:=List.pairwise_iff_getElem.1 kX
   have he:idx[j]=idx[j']:=by rw [(List.getElem?_eq_some_iff.1 h1).2,(List.getElem?_eq_some_iff.1 ui).2]
   rcases Nat.lt_trichotomy j j' with aJ | rfl | aJ
   · exact absurd he (hp j j' l1 l2 aJ)
   · rfl
   · exact absurd he.symm (hp j' j l2 l1 aJ)
 · intro j T cs k hx
   obtain ⟨i,o,h1,h2,he,hb,_⟩:=aD j _ hx
   cases o with
   | cells wr U ds=>
     simp [fQ,eN,Jh] at he
     obtain ⟨rfl,_,_⟩:=he
     rw [hb];exact h.i4 i _ _ k h2
   | _=>simp [fQ,eN,Jh] at he
 · intro j x k hx wc
   obtain ⟨i,o,h1,h2,he,hb,_⟩:=aD j _ hx
   rw [hb]
   refine h.i5 i o k h2 ?_
   subst he
   cases o<;>exact wc
def fC (idx:List Nat) (n:Nat) (j:Nat):Nat:=(idx[j]?).getD (n+(j - idx.length))
def fD (g g':G) (idx:List Nat) (n:Nat):G:= {bs:=fun o=>if o<n then (if o∈idx then g'.bs (dR o idx 0) else g.bs o) else g'.bs (o - n+idx.length),I:=g'.I,db:=g.db}
variable {g':G} {w':World} {os c6:List af}
theorem EW {o:af} {m:Bool}:(o.pb m).real=o.real:=by
 cases o with
 | buf m' z l=>cases m'<;>rfl
 | _=>rfl
theorem BV {o:af} {m:Bool}:(o.pb m).loose=o.loose:=by
 cases o with
 | buf m' z l=>cases m'<;>rfl
 | _=>rfl
theorem wR {f:Nat->Nat} {o:af}:(eN f o).real=o.real:=by cases o<;>rfl
theorem uC {f:Nat->Nat} {o:af}:(eN f o).loose=o.loose:=by cases o<;>rfl
theorem JF {f:Nat->Nat} {o:af}:(eN f o).mv=o.mv:=by cases o<;>rfl
theorem JG {o:af} {m:Bool}:(o.pb m).mv=true↔o.mv=true\/(m=true/\ ∃z l ty,o= .buf false z l ty):=by
 cases o with
 | buf m' z l=>cases m'<;>simp [af.pb,af.mv]
 | _=>simp [af.pb,af.mv]
theorem EX {g:G} {n nt b:Nat} {o:af} {m:Bool} (h:fx g w n nt b o):fx g w n nt b (o.pb m):=by
 cases o with
 | buf m' z l=>cases m'<;>exact h
 | _=>exact h
theorem zU (h:a_ c g w ob nt) (kX:idx.Nodup) (qf: ∀i∈idx, ∃o,ob[i]? =some o) (hl:sub.length=idx.length)
 (iA: ∀(j i:Nat),idx[j]? =some i-> ∃o,ob[i]? =some o/\ ∀s,sub[j]? =some s->s.real=o.real)
 (h':a_ ⟨w,idx.length,(nr g idx).bs,g.I,ma (nr g idx) sub⟩ g' w' os 0) (hlen:c6.length=ob.length+(os.length - idx.length))
 (h1: ∀(j i:Nat) o,idx[j]? =some i->os[j]? =some o-> ∃o0,ob[i]? =some o0/\c6[i]? =some ((eN (fC idx ob.length) o).pb o0.mv)/\(o0.mv=true-> ∃m z l ty,o= .buf m z l ty))
 (h2: ∀i,i<ob.length->i ∉ idx->c6[i]? =(ob[i]?).map (cW (cE idx os))) (h3: ∀(k:Nat) o,os[idx.length+k]? =some o->c6[ob.length+k]? =some (eN (fC idx ob.length) o)):
 a_ c (fD g g' idx ob.length) w' c6 nt/\(∀v x,VT g w ob.length nt v x->(∀o∈aW v,o ∉ cE idx os)->VT (fD g g' idx ob.length) w' c6.length nt v x)/\
  (∀v x,VT g' w' os.length 0 v x->VT (fD g g' idx ob.length) w' c6.length nt (gM (fC idx ob.length) v) x)/\
  (∀v x,aw g'.bs g'.I w' os.length v x->aw (fD g g' idx ob.length).bs (fD g g' idx ob.length).I w' c6.length (gM (fC idx ob.length) v) x)/\
  ∀v x,aw g.bs g.I w ob.length v x->(∀o∈aW v,o ∉ cE idx os)->aw (fD g g' idx ob.length).bs (fD g g' idx ob.length).I w' c6.length v x:=by
 have hle:idx.length<=os.length:=h'.len
 have cg:w.heap.size<=w'.heap.size:=h'.size
 have Qn: ∀j i,idx[j]? =some i->(nr g idx).bs j=g.bs i:=fun j i hj=>by simp [nr,hj]
 have dh: ∀j i,idx[j]? =some i->dR i idx 0=j:=fun j i hj=>by
  obtain ⟨_,q2,q3⟩:=qc (k:=0) (List.mem_of_getElem? hj)
  rw [Nat.sub_zero] at q3
  have l1:=(List.getElem?_eq_some_iff.1 hj).1
  have l2:dR i idx 0<idx.length:=by omega
  have hp:=List.pairwise_iff_getElem.1 kX
  have he:idx[dR i idx 0]=idx[j]:=by rw [(List.getElem?_eq_some_iff.1 q3).2,(List.getElem?_eq_some_iff.1 hj).2]
  rcases Nat.lt_trichotomy (dR i idx 0) j with aJ | h | aJ
  · exact absurd he (hp _ _ l2 l1 aJ)
  · exact h
  · exact absurd he.symm (hp _ _ l1 l2 aJ)
 have GP: ∀j i,idx[j]? =some i->(fD g g' idx ob.length).bs i=g'.bs j:=fun j i hj=>by
  have hm:=List.mem_of_getElem? hj
  obtain ⟨o,ho⟩:=qf i hm
  have hb:i<ob.length:=(List.getElem?_eq_some_iff.1 ho).1
  simp only [fD,if_pos hb,if_pos hm,dh j i hj]
 have ke: ∀j i o,idx[j]? =some i->os[j]? =some o->o.mv=false->g'.bs j=g.bs i:=fun j i o hj ho hm=>by
  rw [←Qn j i hj];exact h'.sH j o (List.getElem?_eq_some_iff.1 hj).1 ho hm
 have dN: ∀i,i<ob.length->i ∉ cE idx os->(fD g g' idx ob.length).bs i=g.bs i:=fun i hi hm=>by
  by_cases hx:i∈idx
  · obtain ⟨j,hj⟩:=List.mem_iff_getElem?.1 hx
    have eO:=(List.getElem?_eq_some_iff.1 hj).1
    have GQ:os[j]? =some os[j]:=List.getElem?_eq_getElem (by omega)
    rw [GP j i hj]
    refine ke j i _ hj GQ ?_
    cases Jf:os[j].mv with
    | false=>rfl
    | true=>exact absurd (sa hj GQ Jf) hm
  · simp only [fD,if_pos hi,if_neg hx]
 have OM: ∀b,ma (nr g idx) sub b-> ∃i o,i∈idx/\ob[i]? =some o/\o.real=true/\g.bs i=b:=fun b hb=>by
  obtain ⟨j,x,hj,hr,rfl⟩:=hb
  have eO:j<idx.length:=by rw [←hl];exact (List.getElem?_eq_some_iff.1 hj).1
  obtain ⟨o,q1,q2⟩:=iA j idx[j] (List.getElem?_eq_getElem eO)
  exact ⟨idx[j],o,List.getElem_mem eO,q1,by rw [←q2 x hj];exact hr,(Qn j _ (List.getElem?_eq_getElem eO)).symm⟩
 have sc: ∀b,b<w.heap.size->(∀i∈idx, ∀o,ob[i]? =some o->o.real=true->b≠g.bs i)->w'.heap[b]? =w.heap[b]? /\ ∀k,g'.I b k->g.I b k:=fun b hb hn=>by
  have hx: ¬ma (nr g idx) sub b:=fun hb=>by
   obtain ⟨i,o,q1,q2,q3,q4⟩:=OM b hb
   exact hn i q1 o q2 q3 q4.symm
  exact ⟨h'.jG b hb hx,fun k=>h'.i2 b k hb hx⟩
 have e7: ∀b k,g.I b k->g'.I b k/\w'.cell? ⟨b,k,none⟩=w.cell? ⟨b,k,none⟩:=fun b k hI=>⟨h'.i1 b k hI,h'.i6 b k hI⟩
 have Lu: ∀v x,aw g.bs g.I w ob.length v x->(∀o∈aW v,o ∉ cE idx os)->aw (fD g g' idx ob.length).bs (fD g g' idx ob.length).I w' c6.length v x:=fun v x hv hp=>
  (hv.GO (xI:=(fD g g' idx ob.length).bs) (n':=ob.length) fun o ho aJ=>⟨aJ,dN o aJ (hp o ho)⟩).mono (fun o ho=>⟨by omega,rfl⟩) e7
 have ON: ∀v x,VT g w ob.length nt v x->(∀o∈aW v,o ∉ cE idx os)->VT (fD g g' idx ob.length) w' c6.length nt v x:=fun v x hv hp=>
  ⟨Lu v x hv.rel hp,hv.tok⟩
 have GS: ∀ {v x},aw g.bs g.I w 0 v x->aw (fD g g' idx ob.length).bs (fD g g' idx ob.length).I w' 0 v x:=fun hv=>hv.mono (fun o ho=>absurd ho (by omega)) e7
 have OO: ∀j,j<os.length->fC idx ob.length j<c6.length/\(fD g g' idx ob.length).bs (fC idx ob.length j)=g'.bs j:=fun j hj=>by
  rcases Nat.lt_or_ge j idx.length with aJ | zg
  · obtain ⟨o,ho⟩:=qf idx[j] (List.getElem_mem aJ)
    have hb:idx[j]<ob.length:=(List.getElem?_eq_some_iff.1 ho).1
    have Bm:fC idx ob.length j=idx[j]:=by simp [fC,aJ]
    rw [Bm]
    exact ⟨by omega,GP j _ (List.getElem?_eq_getElem aJ)⟩
  · have Bm:fC idx ob.length j=ob.length+(j - idx.length):=by simp [fC,List.getElem?_eq_none zg]
    rw [Bm]
    refine ⟨by omega,?_⟩
    simp only [fD]
    rw [if_neg (by omega)]
    congr 1;omega
 have uq: ∀v x,aw g'.bs g'.I w' os.length v x->aw (fD g g' idx ob.length).bs (fD g g' idx ob.length).I w' c6.length (gM (fC idx ob.length) v) x:=
  fun v x hv=>hv.gM fun o _ ho=>OO o ho
 have zd: ∀v x,VT g' w' os.length 0 v x->VT (fD g g' idx ob.length) w' c6.length nt (gM (fC idx ob.length) v) x:=
  fun v x hv=>⟨uq v x hv.rel,.fA (lj (GN hv.tok))⟩
 have OP: ∀b o,fx g' w' os.length 0 b o->fx (fD g g' idx ob.length) w' c6.length nt b (eN (fC idx ob.length) o):=fun b o ho=>by
  cases o with
  | none=>trivial
  | map es=>
    obtain ⟨arr,zb,a1,a2,a3⟩:=ho
    exact ⟨arr,zb,a1,a2,fun k e c he hc=>⟨(a3 k e c he hc).1.mono (fun o ho=>absurd ho (by omega)) fun b k hi=>⟨hi,rfl⟩,(a3 k e c he hc).2.mono (fun o ho=>absurd ho (by omega)) fun b k hi=>⟨hi,rfl⟩⟩⟩
  | buf m z l=>
    rcases ho with ho | ⟨arr,T,a1,JE,a2,a3,a4⟩
    · exact .inl ho
    · exact .inr ⟨arr,T,a1,JE,a2,a3,fun k v c he hc=>⟨(a4 k v c he hc).1.mono (fun o ho=>absurd ho (by omega)) fun b k hi=>⟨hi,rfl⟩,(a4 k v c he hc).2⟩⟩
  | cells wr T cs=>
    obtain ⟨arr,a1,a2,a3⟩:=ho
    refine ⟨arr,a1,by rw [bU,a2],fun k v c hv hc=> ?_⟩
    rw [c8] at hv
    obtain ⟨v',iV,rfl⟩:=Option.map_eq_some_iff.1 hv
    exact ⟨zd v' c (a3 k v' c iV hc).1,(a3 k v' c iV hc).2⟩
 have Ms: ∀b o,fx g w ob.length nt b o->(o.real=true->w'.heap[b]? =w.heap[b]?)->fx (fD g g' idx ob.length) w' c6.length nt b (cW (cE idx os) o):=fun b o ho hb=>by
  cases o with
  | none=>trivial
  | map es=>
    obtain ⟨arr,zb,a1,a2,a3⟩:=ho
    exact ⟨arr,zb,by rw [hb rfl];exact a1,a2,fun k e c he hc=>⟨GS (a3 k e c he hc).1,GS (a3 k e c he hc).2⟩⟩
  | buf m z l=>
    by_cases hl:l=[]
    · exact .inl hl
    · rcases ho with ho | ⟨arr,T,a1,JE,a2,a3,a4⟩
      · exact .inl ho
      · exact .inr ⟨arr,T,a1.to (hb (by simp [af.real,hl])),JE,a2,a3,fun k v c he hc=>⟨GS (a4 k v c he hc).1,(a4 k v c he hc).2⟩⟩
  | cells wr T cs=>
    obtain ⟨arr,a1,a2,a3⟩:=ho
    refine ⟨arr,by rw [hb rfl];exact a1,by simp [a2],fun k v c hv hc=> ?_⟩
    rw [List.getElem?_map] at hv
    obtain ⟨v',iV,rfl⟩:=Option.map_eq_some_iff.1 hv
    refine ⟨?_,(a3 k v' c iV hc).2⟩
    rcases ew (cE idx os) v' with e | ⟨e,hp⟩
    · rw [e];exact ⟨.undef,trivial⟩
    · rw [e];exact ON v' c (a3 k v' c iV hc).1 hp
 have aD: ∀(i:Nat) y,c6[i]? =some y->
  (i<ob.length/\i ∉ idx/\(∃x,ob[i]? =some x/\y=cW (cE idx os) x/\x.real=y.real/\x.loose=y.loose/\x.mv=y.mv)/\(fD g g' idx ob.length).bs i=g.bs i)\/
  (∃j o m,os[j]? =some o/\y=(eN (fC idx ob.length) o).pb m/\(fD g g' idx ob.length).bs i=g'.bs j/\i=fC idx ob.length j/\o.real=y.real/\o.loose=y.loose/\
    ((j<idx.length/\i<ob.length/\idx[j]? =some i/\ ∃o0,ob[i]? =some o0/\m=o0.mv/\(o0.mv=true-> ∃m z l ty,o= .buf m z l ty))\/(idx.length<=j/\ob.length<=i))):=fun i y hy=>by
  have hi:=(List.getElem?_eq_some_iff.1 hy).1
  rcases Nat.lt_or_ge i ob.length with aJ | zg
  · by_cases hm:i∈idx
    · obtain ⟨j,hj⟩:=List.mem_iff_getElem?.1 hm
      have eO:=(List.getElem?_eq_some_iff.1 hj).1
      have GQ:os[j]? =some os[j]:=List.getElem?_eq_getElem (by omega)
      obtain ⟨o0,q0,q1,q2⟩:=h1 j i _ hj GQ
      rw [hy] at q1
      have q1:=Option.some.inj q1
      exact .inr ⟨j,_,o0.mv,GQ,q1,GP j i hj,by simp [fC,hj],by rw [q1,EW,wR],by rw [q1,BV,uC],.inl ⟨eO,aJ,hj,o0,q0,rfl,q2⟩⟩
    · have:=h2 i aJ hm
      rw [hy] at this
      obtain ⟨x,hx,e⟩:=Option.map_eq_some_iff.1 this.symm
      refine .inl ⟨aJ,hm,⟨x,hx,e.symm,?_,?_,?_⟩,by simp [fD,aJ,hm]⟩<;>rw [←e]<;>cases x<;>rfl
  · have GQ:os[idx.length+(i - ob.length)]? =some os[idx.length+(i - ob.length)]:=List.getElem?_eq_getElem (by omega)
    have:=h3 _ _ GQ
    rw [show ob.length+(i - ob.length)=i by omega,hy] at this
    have q1:=Option.some.inj this
    refine .inr ⟨_,_,false,GQ,?_,?_,?_,by rw [q1,wR],by rw [q1,uC],.inr ⟨by omega,zg⟩⟩
    · rw [q1]
      generalize os[idx.length+(i - ob.length)]=oo
      cases oo with
      | buf m z l=>cases m<;>rfl
      | _=>rfl
    · simp only [fD];rw [if_neg (by omega)];congr 1;omega
    · simp only [fC];rw [List.getElem?_eq_none (by omega)];simp;omega
 have hold: ∀i y,i<ob.length->i ∉ idx->ob[i]? =some y->y.real=true->w'.heap[g.bs i]? =w.heap[g.bs i]? /\ ∀k,g'.I (g.bs i) k->g.I (g.bs i) k:=fun i y hi hm hy bZ=>by
  refine sc _ (h.lt i y hy bZ) fun i' mT o ho hr e=> ?_
  have:=h.inj i i' y o hy ho bZ hr e
  subst this;exact hm mT
 have GA: ∀j o,os[j]? =some o->o.real=true->w.heap.size<=g'.bs j\/ ∃i x,i∈idx/\ob[i]? =some x/\x.real=true/\g.bs i=g'.bs j:=fun j o ho hr=>by
  rcases h'.new j o ho hr with h | h
  · exact .inl h
  · obtain ⟨i,x,q1,q2,q3,q4⟩:=OM _ h
    exact .inr ⟨i,x,q1,q2,q3,q4⟩
 refine ⟨⟨?_,?_,?_,?_,?_,?_,?_,?_,?_,?_,?_,?_,?_,?_,?_,?_,?_,?_,?_⟩,ON,zd,uq,Lu⟩
 · exact h'.os.trans h.os
 · exact h'.tape.trans h.tape
 · exact h'.output.trans h.output
 · exact Nat.le_trans h.size cg
 · intro b hb hw
   rw [(sc b (by have:=h.size;omega) fun i hi o ho hr e=> ?_).1]
   · exact h.jG b hb hw
   · rcases h.new i o ho hr with h1 | h1
     · omega
     · exact hw (e▸h1)
 · have:=h.len;omega
 · intro i y hy
   rcases aD i y hy with ⟨a1,a2,⟨x,a3,rfl,_,_,_⟩,a4⟩ | ⟨j,o,m,a1,rfl,a3,_,_,_,_⟩
   · rw [a4];exact Ms _ _ (h.obj i x a3) fun hr=>(hold i _ a1 a2 a3 hr).1
   · rw [a3];exact EX (OP _ _ (h'.obj j o a1))
 · intro i y hy bZ
   rcases aD i y hy with ⟨a1,a2,⟨x,a3,_,ar,_,_⟩,a4⟩ | ⟨j,o,m,a1,_,a3,_,ar,_,_⟩
   · rw [a4];have:=h.lt i x a3 (by rw [ar];exact bZ);omega
   · rw [a3];exact h'.lt j o a1 (by rw [ar];exact bZ)
 · intro i i' y y' hy Dj bZ zV e
   rcases aD i y hy with ⟨a1,a2,⟨x,a3,_,ar,_,_⟩,a4⟩ | ⟨j,o,m,a1,_,a3,a4,ar,_,a5⟩<;>rcases aD i' y' Dj with ⟨b1,b2,⟨x',b3,_,br,_,_⟩,b4⟩ | ⟨j',o',m',b1,_,b3,b4,br,_,b5⟩
   · rw [a4,b4] at e;exact h.inj i i' x x' a3 b3 (by rw [ar];exact bZ) (by rw [br];exact zV) e
   · rw [a4,b3] at e
     rcases GA j' o' b1 (by rw [br];exact zV) with q | ⟨i2,x2,q1,q2,q3,q4⟩
     · have:=h.lt i x a3 (by rw [ar];exact bZ);omega
     · have:=h.inj i i2 x x2 a3 q2 (by rw [ar];exact bZ) q3 (e.trans q4.symm)
       subst this;exact absurd q1 a2
   · rw [a3,b4] at e
     rcases GA j o a1 (by rw [ar];exact bZ) with q | ⟨i2,x2,q1,q2,q3,q4⟩
     · have:=h.lt i' x' b3 (by rw [br];exact zV);omega
     · have:=h.inj i' i2 x' x2 b3 q2 (by rw [br];exact zV) q3 (e.symm.trans q4.symm)
       subst this;exact absurd q1 b2
   · rw [a3,b3] at e
     have:=h'.inj j j' o o' a1 b1 (by rw [ar];exact bZ) (by rw [br];exact zV) e
     subst this;rw [a4,b4]
 · intro i y hi hy hm
   have aJ:i<ob.length:=by have:=h.len;omega
   rcases aD i y hy with ⟨a1,a2,⟨x,a3,_,_,_,am⟩,a4⟩ | ⟨j,o,m,a1,ay,a3,a4,_,_,a5⟩
   · rw [a4];exact h.sH i x hi a3 (by rw [am];exact hm)
   · rcases a5 with ⟨q1,q2,q3,o0,q4,q5,q6⟩ | ⟨_,q2⟩
     · have Rm:o.mv=false/\(o0.mv=true-> ¬ ∃z l ty,o= .buf false z l ty):=by
        have hx: ¬(o.mv=true\/(m=true/\ ∃z l ty,eN (fC idx ob.length) o= .buf false z l ty)):=fun hx=>by
         rw [←JF (f:=fC idx ob.length), ←JG, ←ay,hm] at hx;cases hx
        refine ⟨by cases hh:o.mv<;>first | rfl | exact absurd (.inl hh) hx,fun hh ⟨z,l,ty,e⟩=>hx (.inr ⟨by rw [q5];exact hh,z,l,ty,by rw [e];rfl⟩)⟩
       rw [a3,ke j i o q3 a1 Rm.1]
       refine h.sH i o0 hi q4 ?_
       cases hh:o0.mv with
       | false=>rfl
       | true=>
         exfalso
         obtain ⟨m',z,l,ty,e⟩:=q6 hh
         refine Rm.2 hh ⟨z,l,ty,?_⟩
         have:=Rm.1
         rw [e] at this ⊢
         simp only [af.mv] at this
         rw [this]
     · omega
 · intro i y hy bZ
   rcases aD i y hy with ⟨a1,a2,⟨x,a3,_,ar,_,_⟩,a4⟩ | ⟨j,o,m,a1,_,a3,_,ar,_,a5⟩
   · rw [a4];exact h.new i x a3 (by rw [ar];exact bZ)
   · rw [a3]
     rcases GA j o a1 (by rw [ar];exact bZ) with q | ⟨i2,x2,q1,q2,q3,q4⟩
     · have:=h.size;exact .inl (by omega)
     · rw [←q4];exact h.new i2 x2 q2 q3
 · intro b k hI;exact h'.i1 b k (h.i1 b k hI)
 · intro b k hb hw hI
   refine h.i2 b k hb hw ((sc b (by have:=h.size;omega) fun i hi o ho hr e=> ?_).2 k hI)
   rcases h.new i o ho hr with h1 | h1
   · omega
   · exact hw (e▸h1)
 · exact h'.i3
 · intro i T cs k hy
   rcases aD i _ hy with ⟨a1,a2,⟨x,a3,e,ar,_,_⟩,a4⟩ | ⟨j,o,m,a1,he,a3,a4,_,_,a5⟩
   · rw [a4]
     cases x with
     | cells wr U ds=>
       simp [cW] at e
       obtain ⟨rfl,_,_⟩:=e
       exact fun hI=>h.i4 i _ _ k a3 ((hold i _ a1 a2 a3 rfl).2 k hI)
     | _=>simp [cW] at e
   · rw [a3]
     cases o with
     | cells wr U ds=>simp [eN,af.pb] at he;obtain ⟨rfl,_,_⟩:=he;exact h'.i4 j _ _ k a1
     | buf m' z l=>cases m'<;>simp [eN,af.pb] at he
     | _=>simp [eN,af.pb] at he
 · intro i y k hy wc
   rcases aD i _ hy with ⟨a1,a2,⟨x,a3,_,ar,al,_⟩,a4⟩ | ⟨j,o,m,a1,he,a3,a4,_,al,a5⟩
   · rw [a4];exact fun hI=>h.i5 i x k a3 (by rw [al];exact wc) ((hold i _ a1 a2 a3 (by rw [ar];exact lU wc)).2 k hI)
   · rw [a3];exact h'.i5 j _ k a1 (by rw [al];exact wc)
 · intro i hi hn
   obtain ⟨f1,⟨arr,T,f2,Rn⟩,f3,f4⟩:=h.f1 i hi hn
   have aJ:(g.db i).jF<w.heap.size:=by
    rcases Nat.lt_or_ge (g.db i).jF w.heap.size with h | h
    · exact h
    · rw [Array.getElem?_eq_none h] at f2;cases f2
   obtain ⟨k1,k2⟩:=sc (g.db i).jF aJ fun i' mT o ho hr e=>f4 i' o ho hr e.symm
   refine ⟨f1,⟨arr,T,by rw [←f2];exact k1,Rn⟩,fun k hk hI=>f3 k hk (k2 k hI),fun i' y hy bZ=> ?_⟩
   rcases aD i' y hy with ⟨a1,a2,⟨x,a3,_,ar,_,_⟩,a4⟩ | ⟨j,o,m,a1,_,a3,_,ar,_,a5⟩
   · rw [a4];exact f4 i' x a3 (by rw [ar];exact bZ)
   · rw [a3]
     rcases GA j o a1 (by rw [ar];exact bZ) with q | ⟨i2,x2,q1,q2,q3,q4⟩
     · intro e
       have e':g'.bs j=(g.db i).jF:=e
       omega
     · rw [←q4];exact f4 i2 x2 q2 q3
 · exact h.f2
 · intro b k hI
   rw [h'.i6 b k (h.i1 b k hI)];exact h.i6 b k hI
end
section
variable {S:Sys} {c:Ctx} {g:G} {w:World} {a:Act} {o:Oper} {K KP:V->St->Prop} {next:Act->World->Prop} {Q:Exit->Act->World->Prop}
 {t:List V} {ob:List af} {nt:Nat} {df:List (Fn × List V × List V)}
theorem BW {cl:Call} {f:Operand} (hS: ∀g args ob K,S.call g args ob K->jL S.P g args ob K) (ho:o.op= .call cl) (hc:cl.callee= .value f) (H:bu c a o.dst K KP next Q)
 (hs:cf c g w a ⟨t,ob,nt,df⟩) (h0:ev t f fun f=>sy t cl.args.toList fun args=>Dh S f args ⟨t,ob,nt,df⟩ K KP):o.wp S.P a w next Q:=by
 obtain ⟨v,hv,Dt⟩:=aG hs.ti h0
 clear h0
 obtain ⟨vs,k1,k2,h⟩:=fi hs.ti Dt
 clear Dt
 obtain ⟨h1,h2⟩:=oa k1 k2
 cases v<;>try exact h.elim
 rename_i f' first cap
 cases f'<;>try exact h.elim
 rename_i Q8
 have h:=dq h
 have hr:=hv.rel
 generalize hx:a.eval f=e at hr
 cases hr
 rename_i ca cb ha hb i1 i2
 obtain ⟨j1,j2⟩:=kx ha hb h1 fun k v x hv hx=>(h2 k v x hv hx).rel
 obtain ⟨j1,j2⟩:=kx j1 j2 i1 i2
 obtain ⟨m1,m2⟩:=l_ j1 j2
 have dN: ∀v∈(first++vs++cap).map V.bj,v.cB=true:=fun v hv=>by
  obtain ⟨u,_,rfl⟩:=List.mem_map.1 hv;exact bB u
 have Dy:execOp a.eval o=callFunc Q8 (ca++cl.args.map a.eval++cb):=by
  simp only [execOp,ho,resolve,hc,hx]
  rfl
 generalize (first++vs++cap).map V.bj=args at h m1 m2 dN
 generalize ca++cl.args.map a.eval++cb=b9 at m1 m2 Dy
 simp only at h
 have h:=og h
 generalize reach ob 64 (b7 args) []=idx at h
 split at h
 case h_1=>exact h.elim
 rename_i uD
 simp only [Bool.and_eq_true] at uD
 obtain ⟨⟨kX,zW⟩,qe⟩:=uD
 have kX:=gR kX
 obtain ⟨Mt,Dq,GU,h⟩:=oi h
 have h:=uy h
 obtain ⟨sub,GV,hl,iA⟩: ∃sub,sub=Mt.map Jh/\sub.length=idx.length/\ ∀(j i:Nat),idx[j]? =some i-> ∃o,ob[i]? =some o/\sub[j]? =some (Jh (eN (fun i=>dR i idx 0) (fQ o))):=by
  refine ⟨_,rfl,by simp [Dq],fun j i hj=> ?_⟩
  obtain ⟨o,q1,q2⟩:=GU j i hj
  exact ⟨o,q1,by rw [List.getElem?_map,q2];rfl⟩
 rw [←GV] at h
 have h:=gU h
 have oT:=hS _ _ _ _ h
 have cQ:=Dx hs.wi kX (oe qe) hl iA
 have qf: ∀i∈idx, ∃o,ob[i]? =some o:=fun i hi=>by
  obtain ⟨j,hj⟩:=List.mem_iff_getElem?.1 hi
  obtain ⟨o,ho,_⟩:=iA j i hj
  exact ⟨o,ho⟩
 have ns:=oT w (nr g idx) b9 cQ (by rw [bU];exact m1) (fun k v x hv hx=>by
  rw [c8] at hv
  obtain ⟨u,hu,rfl⟩:=Option.map_eq_some_iff.1 hv
  exact ⟨BU (m2 k u x hu hx) (fun o ho=>gT zW o (bY hu ho)) hl,.fA (lj (dN u (List.mem_of_getElem? hu)))⟩) hs.ti.gl
 have fin: ∀(e:Ending) (w':World),(∃out os g',(kK idx os fun ms=>fg ms t ob df fun t Mu=>mR (fun j=>(idx[j]?).getD (ob.length+(j - idx.length))) idx os Mu fun ob=>match out with
  | .ret v=>m6 (fun j=>(idx[j]?).getD (ob.length+(j - idx.length))) v fun v=>K v ⟨t,ob,nt,df⟩
  | .dw v=>m6 (fun j=>(idx[j]?).getD (ob.length+(j - idx.length))) v fun v=>KP v ⟨t,ob,nt,df⟩)/\
  a_ ⟨w,sub.length,(nr g idx).bs,(nr g idx).I,ma (nr g idx) sub⟩ g' w' os 0/\Ends g' w' os.length out e)->True:=fun _ _ _=>trivial
 clear fin
 have key: ∀(out:Out) (os:List af) (g':G) (w':World),(kK idx os fun ms=>fg ms t ob df fun t Mu=>mR (fun j=>(idx[j]?).getD (ob.length+(j - idx.length))) idx os Mu fun OQ=>match out with
  | .ret v=>m6 (fun j=>(idx[j]?).getD (ob.length+(j - idx.length))) v fun v=>K v ⟨t,OQ,nt,df⟩
  | .dw v=>m6 (fun j=>(idx[j]?).getD (ob.length+(j - idx.length))) v fun v=>KP v ⟨t,OQ,nt,df⟩)->
  a_ ⟨w,sub.length,(nr g idx).bs,(nr g idx).I,ma (nr g idx) sub⟩ g' w' os 0->
  (∀v x,VT g' w' os.length 0 v x->out= .ret v->next (a.put o.dst x) w')/\(∀v x,aw g'.bs g'.I w' os.length v x->out= .dw v->Q (.panic [{v:=x,recovered:=false}]) a w'):=by
  intro out os g' w' hk oS
  rw [hl] at oS
  obtain ⟨Ji,hk⟩:=iz (mb hk)
  obtain ⟨c6,b1,b2,b3,b4,b5,b6⟩:=rn kX hk
  rw [List.length_map] at b2 b4 b5
  have Ro: ∀(j i:Nat) o,idx[j]? =some i->os[j]? =some o-> ∃o0,ob[i]? =some o0/\c6[i]? =some ((eN (fC idx ob.length) o).pb o0.mv)/\(o0.mv=true-> ∃m z l ty,o= .buf m z l ty):=fun j i o hj ho=>by
   obtain ⟨o0,q1,q2,q3⟩:=b3 j i o hj ho
   rw [List.getElem?_map] at q1
   obtain ⟨o1,q4,rfl⟩:=Option.map_eq_some_iff.1 q1
   have:(cW (cE idx os) o1).mv=o1.mv:=by cases o1<;>rfl
   rw [this] at q2 q3
   exact ⟨o1,q4,q2,q3⟩
  obtain ⟨q1,q2,q3,q4,q5⟩:=zU hs.wi kX qf hl (fun j i hj=>by
   obtain ⟨o,r1,r2⟩:=iA j i hj
   refine ⟨o,r1,fun s hs=> ?_⟩
   rw [r2] at hs
   cases hs
   cases o<;>rfl) oS b2 Ro (fun i hi hm=>by rw [b4 i hi hm,List.getElem?_map]) b5
  have Um: ∀v x,aw g.bs g.I w ob.length v x->(∀o∈aW v,o ∉ cE idx os)->aw (fD g g' idx ob.length).bs (fD g g' idx ob.length).I w' c6.length v x:=fun v x hv hp=>by
   exact q5 v x hv hp
  have OR:cf c (fD g g' idx ob.length) w' a ⟨t.map (V.forget (cE idx os)),c6,nt,df⟩:=by
   refine ⟨q1,⟨by simp [hs.ti.size],fun k v x hv hx=> ?_,hs.ti.gl.out oS rfl⟩,?_⟩
   · rw [List.getElem?_map] at hv
     obtain ⟨u,hu,rfl⟩:=Option.map_eq_some_iff.1 hv
     rcases ew (cE idx os) u with e | ⟨e,hp⟩
     · rw [e];exact ⟨.undef,trivial⟩
     · rw [e];exact q2 u x (hs.ti.rel k u x hu hx) hp
   · exact hs.di.forget (fun v x hv hp=>(Um v x hv hp)) Ji
  cases out with
  | ret v=>
    refine ⟨fun v' x hv he=> ?_,fun _ _ _ he=>by cases he⟩
    cases he
    exact H.val _ _ _ _ _ a (qd b6) OR rfl (q3 _ _ hv)
  | dw v=>
    refine ⟨(fun _ _ _ he=>by cases he),fun v' x hv he=> ?_⟩
    cases he
    exact H.dw _ _ _ _ _ a (qd b6) OR (q4 _ _ hv)
 unfold Oper.wp
 rw [Dy]
 unfold rm at ns
 split at ns
 · rename_i f' cI w1 aS
   rw [aS,Oper.upon_enter]
   refine ns.mono fun e w' he=> ?_
   obtain ⟨out,os,g',hk,oS,fE⟩:=he
   obtain ⟨k1,k2⟩:=key out os g' w' hk oS
   cases out with
   | ret v=>
     cases e<;>try exact fE.elim
     exact k1 v _ fE rfl
   | dw v=>
     cases e<;>try exact fE.elim
     obtain ⟨x,rfl,hx⟩:=fE
     exact k2 v x hx rfl
 · rename_i x w1 aS
   rw [aS,Oper.upon_value]
   obtain ⟨out,os,g',hk,oS,fE⟩:=ns
   cases out with
   | ret v=>exact (key (.ret v) os g' _ hk oS).1 v _ fE rfl
   | dw v=>exact fE.elim
 · rename_i row cI w1 aS
   rw [aS,Oper.upon_row]
   refine ns.mono fun x w' he=> ?_
   obtain ⟨out,os,g',hk,oS,fE⟩:=he
   cases out with
   | ret v=>exact (key (.ret v) os g' _ hk oS).1 v _ fE rfl
   | dw v=>exact fE.elim
 · exact ns.elim
end
end VL
namespace VL
open Go
section
variable {S:Sys} {c:Ctx} {g:G} {w:World} {a:Act} {o:Oper} {K KP:V->St->Prop} {next:Act->World->Prop} {Q:Exit->Act->World->Prop}
 {t:List V} {ob:List af} {nt:Nat} {df:List (Fn × List V × List V)}
theorem zX {op:BinOp} {T U:TypeId} {x y:Operand} (ho:o.op= .binOp op T x y U) (H:bu c a o.dst K KP next Q) (hs:cf c g w a ⟨t,ob,nt,df⟩)
 (h:ev t x fun x=>ev t y fun y=>qS S.P op T x y fun v=>K v ⟨t,ob,nt,df⟩):o.wp S.P a w next Q:=by
 obtain ⟨u,hu,hk⟩:=aG hs.ti h
 obtain ⟨v,hv,hk⟩:=aG hs.ti hk
 obtain ⟨r,cr,h1,h2,h3,h4⟩:=zx (w:=w) (ox:=x) (oy:=y) hu.rel hv.rel hk
 refine H.same hs (x:=cr) ?_ (.of h2 h3) h1
 simp only [execOp,ho]
 simp only [Sem.run_bind,Sem.run_pure] at h4 ⊢
 generalize Sem.run S.P (eqGuard op T x y (a.eval x) (a.eval y)) w=r at h4 ⊢
 cases r with
 | ok u w1=>
   simp only [Result.andThen] at h4 ⊢
   rw [h4]
 | halt h w1=>simp [Result.andThen] at h4
theorem gV (H:bu c a o.dst K KP next Q) (hs:cf c g w a ⟨t,ob,nt,df⟩) (h:ga S o t ob fun v=>K v ⟨t,ob,nt,df⟩):o.wp S.P a w next Q:=by
 unfold ga at h
 split at h
 next ho=>exact tU (.inl ho) H hs h
 next ho=>exact tU (.inr ho) H hs h
 next ho=>exact Bz ho H hs h
 next ho=>exact zF ho H hs h
 next ho=>exact rf ho H hs h
 next ho=>exact BF ho H hs h
 next ho=>exact tV ho H hs h
 next ho=>exact zX ho H hs h
 next ho=>exact BA ho H hs h
 next ho=>exact x_ ho H hs h
 next ho=>exact ux ho H hs h
 next ho=>exact oH ho H hs h
 next ho=>exact tW ho H hs h
 next ho=>exact sJ ho H hs h
 next ho=>exact zC ho H hs h
 next ho=>exact sM ho H hs h
 next ho=>exact zD ho H hs h
 next ho=>exact q7 ho H hs h
 next ho=>exact wq ho H hs h
 next ho=>exact xU ho H hs h
 next ho=>exact xT ho H hs h
 next ho=>
  split at h
  next hc=>exact uk ho hc H hs h
  next hc=>exact h.elim
 next ho=>exact h.elim
theorem nu (hS: ∀g args ob K,S.call g args ob K->jL S.P g args ob K) (H:bu c a o.dst K KP next Q) (hs:cf c g w a ⟨t,ob,nt,df⟩)
 (h:zm S o ⟨t,ob,nt,df⟩ K KP):o.wp S.P a w next Q:=by
 simp only [zm] at h
 split at h
 next ho=>exact zB ho H hs h
 next ho=>exact EK ho H hs h
 next ho=>exact zz ho H hs h
 next ho=>exact sP ho H hs h
 next ho=>exact wx ho H hs h
 next ho=>exact sR ho H hs h
 next ho=>
  split at h
  next hy=>exact zS ho hy H hs h
  next=>exact gV H hs h
 next ho=>
  split at h
  next=>exact wA ho H hs h
  next=>exact gV H hs h
 next ho=>
  split at h
  next=>exact ye ho H hs h
  next=>exact gV H hs h
 next ho=>
  obtain ⟨p,hp,hk⟩:=aG hs.ti h
  split at hk
  · exact yf hk ho H hs hp
  · exact yg hk ho H hs hp
  · exact gV H hs hk
 next ho=>
  split at h
  next hc=>exact BW hS ho hc H hs h
  next hc=>exact wv ho hc H hs h
  next hc=>exact BP ho hc H hs h
  next hc=>exact pk ho hc H hs h
  next hc=>exact gV H hs h
  next hc=>exact h.elim
 next ho=>
  split at h
  next hc=>exact zL ho hc H hs h
  next hc=>exact h.elim
 next ho=>exact zK ho H hs h
 next=>exact gV H hs h
end
end VL
namespace VL
open Go
structure Fits (c:Ctx) (K:Ex->St->Prop) (Q:Exit->Act->World->Prop):Prop where
 normal: ∀s g w a,K .normal s->cf c g w a s->Q .normal a w
 exit: ∀i s g w a,K (.exit i) s->cf c g w a s->Q (.exit i) a w
 ret: ∀s g w a,K .ret s->cf c g w a s->Q .ret a w
 dw: ∀v x s g w a,K (.dw v) s->cf c g w a s->aw g.bs g.I w s.eg.length v x->Q (.panic [{v:=x,recovered:=false}]) a w
section
variable {S:Sys} {c:Ctx} {Q:Exit->Act->World->Prop}
theorem fy.set {g:G} {w:World} {n nt:Nat} {tm:Array Value} {t:List V} (h:fy g w n nt tm t) {i:Nat} {v:V} {x:Value} (hv:VT g w n nt v x):fy g w n nt (tm.setIfInBounds i x) (t.set i v):=by
 refine ⟨by simp [h.size],fun k u y hu hy=> ?_,h.gl⟩
 rw [List.getElem?_set] at hu
 rw [Array.getElem?_setIfInBounds] at hy
 by_cases e:i=k
 · subst e
   by_cases aJ:i<t.length
   · rw [if_pos rfl,if_pos aJ] at hu
     rw [if_pos rfl,if_pos (by rw [←h.size];exact aJ)] at hy
     cases hu;cases hy
     exact hv
   · rw [if_pos rfl,if_neg aJ] at hu;cases hu
 · rw [if_neg e] at hu hy
   exact h.rel k u y hu hy
theorem oj {s:St} {g:G} {w:World} {b:Act} {dst:Option Tmp} {v:V} {x:Value} {K:St->Prop} (hs:cf c g w b s) (hv:VT g w s.eg.length s.nt v x) (h:s.put dst v K):
 ∃s',K s'/\cf c g w (b.put dst x) s':=by
 obtain ⟨t,ob,nt,df⟩:=s
 cases dst with
 | none=>exact ⟨_,h,hs⟩
 | some i=>
   simp only [St.put,bk] at h
   obtain ⟨_,h⟩:=cj h
   exact ⟨_,h,hs.wi,hs.ti.set hv,hs.di⟩
theorem GW {bs:Nat->Nat} {I:Nat->Nat->Prop} {w:World} {n:Nat} {v:V} {b:Bool} (h:aw bs I w n v (.bool b)):v= .undef\/v= .bool b:=by
 cases h<;>simp
theorem uE {g:G} {w:World} {n nt:Nat} {tm:Array Value} {t:List V} (h:fy g w n nt tm t) {ops:Array Oper} {j d:Nat} (hj:(ops.toList[j]?).bind (·.dst)=some d) {v:V} (hv:t[d]? =some v):
 (∀b,v= .bool b->yielded ops tm j=some b/\tm[d]? =some (.bool b))/\(v≠ .undef->(∀b,v≠ .bool b)->yielded ops tm j=none):=by
 have aJ:d<tm.size:=by rw [←h.size];exact (List.getElem?_eq_some_iff.1 hv).1
 obtain ⟨e,he⟩: ∃e,tm[d]? =some e:=⟨tm[d],Array.getElem?_eq_getElem aJ⟩
 have hr:=(h.rel d v e hv he).rel
 have Gw:(ops[j]?).bind (·.dst)=some d:=by simpa using hj
 have hy: ∀e,tm[d]? =some e->yielded ops tm j=(match e with | .bool b=>some b | _=>none):=by
  intro e he
  unfold yielded
  rw [Gw,Option.bind_some,he]
  cases e<;>rfl
 have hy:=hy e he
 constructor
 · rintro b rfl
   cases hr
   exact ⟨hy,he⟩
 · intro h1 h2
   rw [hy]
   cases e<;>simp
   rcases GW hr with h | h
   · exact h1 h
   · exact h2 _ h
theorem wS (hS: ∀g args ob K,S.call g args ob K->jL S.P g args ob K) {ops:Array Oper} {K:St->Prop} {KP:V->St->Prop}
 (hk: ∀s g w a,K s->cf c g w a s->Q .normal a w)
 (hp: ∀v x s g w a,KP v s->cf c g w a s->aw g.bs g.I w s.eg.length v x->Q (.panic [{v:=x,recovered:=false}]) a w):
 ∀(l:List Oper) (s:St) (g:G) (w:World) (a:Act),cf c g w a s->qU S ops.toList l s K KP->wpList S.P ops Q l a w
 | [],s,g,w,a,hs,h=>hk s g w a h hs
 | o::r,⟨t,ob,nt,df⟩,g,w,a,hs,h=>by
   have Lv: ∀(s:St) g w a,cf c g w a s->qU S ops.toList r s K KP->wpList S.P ops Q r a w:=fun s g w a=>wS hS hk hp r s g w a
   have jM: ∀a,bu c a o.dst (fun v s=>s.put o.dst v fun s=>qU S ops.toList r s K KP) KP (wpList S.P ops Q r) Q:=fun a=> {
    val:=fun v x s g w b kN iw _ hv=>by
     obtain ⟨s',h1,h2⟩:=oj iw hv kN
     exact Lv s' g w _ h2 h1
    dw:=fun v x s g w b kN iw hv=>hp v x s g w b kN iw hv}
   have GX: ∀ {t:List V},cf c g w a ⟨t,ob,nt,df⟩->(St.put ⟨t,ob,nt,df⟩ o.dst (.aQ []) fun s=>qU S ops.toList r s K KP)->wpList S.P ops Q r (a.put o.dst undef) w:=fun iw h=>by
    obtain ⟨s',h1,h2⟩:=oj (v:= .aQ []) (x:=undef) iw (.of (.aQ rfl (by simp)) rfl) h
    exact Lv s' g w _ h2 h1
   unfold wpList
   cases hg:o.guard with
   | none=>
     simp only [qU,hg] at h
     have hw:Region.wanted o (yielded ops a.tmps)=true:=by simp [Region.wanted,hg]
     rw [hw,if_pos rfl]
     exact .inl (nu hS (jM a) hs h)
   | some jw=>
     obtain ⟨j,want⟩:=jw
     simp only [qU,hg] at h
     cases hj:(ops.toList[j]?).bind (·.dst) with
     | none=>rw [hj] at h;exact h.elim
     | some d=>
       rw [hj] at h
       obtain ⟨v,h1,h2⟩:=aX h
       obtain ⟨y1,y2⟩:=uE hs.ti hj h1
       split at h2
       · rename_i b
         obtain ⟨y1,yd⟩:=y1 b rfl
         have EI: ∀b',b'=b->cf c g w a ⟨t.set d (.bool b'),ob,nt,df⟩:=fun b' e=>by
          subst e
          have:=hs.ti.set (i:=d) (v:= .bool b') (x:= .bool b') (.of .bool rfl)
          have heq:a.tmps.setIfInBounds d (.bool b')=a.tmps:=by
           apply Array.ext_getElem?
           intro k
           rw [Array.getElem?_setIfInBounds]
           split
           · rename_i e;subst e
             split
             · exact yd.symm
             · rename_i aJ;rw [Array.getElem?_eq_none (by omega)]
           · rfl
          rw [heq] at this
          exact ⟨hs.wi,this,hs.di⟩
         have hw:Region.wanted o (yielded ops a.tmps)=(b==want):=by
          simp [Region.wanted,hg,y1]
         rw [hw]
         rcases k9 h2 with ⟨rfl,h2⟩ | ⟨rfl,h2⟩
         · obtain ⟨_,h2⟩:=cj h2
           cases want with
           | true=>rw [if_pos (by simp)];exact .inl (nu hS (jM a) (EI true rfl) h2)
           | false=>rw [if_neg (by simp)];exact GX (EI true rfl) h2
         · obtain ⟨_,h2⟩:=cj h2
           cases want with
           | false=>rw [if_pos (by simp)];exact .inl (nu hS (jM a) (EI false rfl) h2)
           | true=>rw [if_neg (by simp)];exact GX (EI false rfl) h2
       · exact h2.elim
       · rename_i Dz JH
         have hw:Region.wanted o (yielded ops a.tmps)=false:=by
          simp [Region.wanted,hg,y2 (fun e=>JH e) (fun b e=>Dz b e)]
         rw [hw,if_neg (by simp)]
         exact GX hs h2
end
end VL
namespace VL
open Go
def ba {α:Type} (F:(α->Prop)->Prop):Prop:= ∀K,F K-> ∃v,K v/\ ∀K':α->Prop,K' v->F K'
theorem ba.bind {α β:Type} {F:(α->Prop)->Prop} {G:α->(β->Prop)->Prop} (hF:ba F) (hG: ∀a,ba (G a)):ba fun K=>F fun a=>G a K:=fun K h=>by
 obtain ⟨a,h1,h2⟩:=hF _ h
 obtain ⟨b,h3,h4⟩:=hG a _ h1
 exact ⟨b,h3,fun K' h=>h2 _ (h4 K' h)⟩
theorem ba.ret {α:Type} (v:α):ba fun K:α->Prop=>K v:=fun K h=>⟨v,h,fun _ h=>h⟩
theorem ba.no {α:Type}:ba fun _:α->Prop=>False:=fun _ h=>h.elim
theorem ba.and {α:Type} {A:Prop} {F:(α->Prop)->Prop} (h:A->ba F):ba fun K=>A/\F K:=fun K ⟨ha,hk⟩=>by
 obtain ⟨v,h1,h2⟩:=h ha K hk
 exact ⟨v,h1,fun K' h=>⟨ha,h2 K' h⟩⟩
theorem ba.ex {α β:Type} {F:β->(α->Prop)->Prop} (h: ∀b,ba (F b)):ba fun K=> ∃b,F b K:=fun K ⟨b,hk⟩=>by
 obtain ⟨v,h1,h2⟩:=h b K hk
 exact ⟨v,h1,fun K' h=>⟨b,h2 K' h⟩⟩
theorem ba.bif {α:Type} {b:Bool} {F G:(α->Prop)->Prop} (hF:ba F) (hG:ba G):ba fun K=> @Bool.rec (fun _=>Prop) (G K) (F K) b:=by
 cases b
 · exact hG
 · exact hF
theorem eL (v:V):ba v.c7:=by cases v<;>exact .ret _
theorem nv (n:Nat):ba (wh n):=by cases n<;>exact .ret _
theorem wU: ∀l:List Nat,ba (ng l)
 | []=> .ret _
 | i::r=>show ba fun K=>wh i fun i=>ng r fun r=>K (i::r) from ba.bind (nv i) fun i=>ba.bind (wU r) fun r=> .ret (i::r)
theorem jN (f:Nat->Nat) (v:V):ba (m6 f v):=fun K h=>by
 unfold m6 at h ⊢
 split at h
 · exact (ba.bind (nv _) fun o=> .ret _) K h
 · exact (ba.bind (nv _) fun o=> .ret _) K h
 · exact (ba.bind (nv _) fun o=> .ret _) K h
 · exact (ba.bind (nv _) fun o=> .ret _) K h
 · split at h
   · exact ⟨_,h,fun _ h=>h⟩
   · exact ⟨_,h,fun _ h=>h⟩
theorem bm {α:Type}: ∀(l:List α) (i:Nat),ba (cA l i)
 | [],_=> .no
 | x::_,0=> .ret x
 | _::r,n+1=>bm r n
theorem eJ {α:Type}: ∀(l:List α) (i:Nat) (v:α),ba (fw l i v)
 | [],_,_=> .no
 | x::r,0,v=> .ret (v::r)
 | x::r,n+1,v=>show ba fun K=>fw r n v fun r'=>K (x::r') from ba.bind (eJ r n v) fun r'=> .ret (x::r')
theorem gW {α:Type}: ∀(l:List α) (i:Nat),ba (iT l i)
 | l,0=>by cases l<;>exact .ret _
 | [],_+1=> .no
 | _::r,n+1=>gW r n
theorem rq {α:Type}: ∀(l:List α) (i:Nat),ba (tK l i)
 | l,0=>by cases l<;>exact .ret _
 | [],_+1=> .no
 | x::r,n+1=>show ba fun K=>tK r n fun l=>K (x::l) from ba.bind (rq r n) fun l=> .ret (x::l)
theorem e9 {α:Type}: ∀(l:List α) (n:Nat) (vs:List α),ba (eR l n vs)
 | l,0,[]=>by cases l<;>exact .ret _
 | [],0,_::_=> .no
 | _::r,0,v::vs=>show ba fun K=>eR r 0 vs fun l=>K (v::l) from ba.bind (e9 r 0 vs) fun l=> .ret (v::l)
 | [],_+1,_=> .no
 | x::r,n+1,vs=>show ba fun K=>eR r n vs fun l=>K (x::l) from ba.bind (e9 r n vs) fun l=> .ret (x::l)
theorem cC {α β:Type} {f:α->(β->Prop)->Prop} (hf: ∀x,ba (f x)): ∀l:List α,ba (cd f l)
 | []=> .ret _
 | x::r=>show ba fun K=>f x fun y=>cd f r fun ys=>K (y::ys) from ba.bind (hf x) fun y=>ba.bind (cC hf r) fun ys=> .ret (y::ys)
theorem bl (v:V):ba v.aH:=show ba fun K=>v.c7 fun v=>v.bj.c7 K from ba.bind (eL v) fun v=>eL _
theorem lk {α:Type}: ∀(l:List α) (v:α),ba fun K:(Nat × List α)->Prop=>e6 l v fun n l=>K (n,l)
 | [],v=> .ret (0,[v])
 | x::r,v=>fun K h=>by
   obtain ⟨p,h1,h2⟩:=lk r v (fun p=>K (p.1+1,x::p.2)) h
   exact ⟨_,h1,fun K' h=>h2 (fun p=>K' (p.1+1,x::p.2)) h⟩
theorem aM (t:List V) (x:Operand):ba (ev t x):=by
 cases x with
 | tmp i=>exact bm t i
 | const c=>exact eL _
 | func f=>exact .ret _
 | global b=>
   show ba fun K=>match tJ b with
    | some l=>K (V.dp (l.map ofConst))
    | none=>False
   generalize tJ b=q
   cases q with
   | some l=>exact .ret _
   | none=>exact .no
theorem ib (t:List V): ∀l,ba (sy t l)
 | []=> .ret _
 | x::r=>show ba fun K=>ev t x fun v=>sy t r fun vs=>K (v::vs) from ba.bind (aM t x) fun v=>ba.bind (ib t r) fun vs=> .ret (v::vs)
theorem bt (P:Program) (T:TypeId):ba (jm P T):=fun K h=>by
 unfold jm at h ⊢
 split at h
 · exact h.elim
 · exact ⟨_,h,fun _ h=>h⟩
theorem ln (P:Program) (T:TypeId) (cs:List V):ba (im P T cs):=fun K h=>by
 unfold im at h ⊢
 split at h
 · exact (ba.bind (rq cs _) fun l=>ba.bind (cC bl l) fun l=> .ret (.agg l)) K h
 · exact (ba.bind (rq cs _) fun l=>ba.bind (cC bl l) fun l=> .ret (.agg l)) K h
 · split at h
   · exact eL _ K h
   · exact h.elim
 · exact h.elim
theorem gX (P:Program) (T:TypeId):ba (zeroV P T):=fun K h=>by
 unfold zeroV at h ⊢
 split at h
 · exact eL _ K h
 · exact h.elim
theorem zY (P:Program) (T:TypeId) (ok:Bool) (x:V):ba (nW P T ok x):=fun K h=>by
 unfold nW at h ⊢
 split at h
 · split at h
   · cases ok
     · exact (ba.bind (bl _) fun v=> .ret v) K h
     · exact (ba.bind (bl _) fun v=> .ret _) K h
   · cases ok
     · exact h.elim
     · exact (ba.bind (gX P T) fun z=> .ret _) K h
 · cases ok
   · exact h.elim
   · exact (ba.bind (gX P T) fun z=> .ret _) K h
 · exact h.elim
theorem rr (place:Nat->Option (Nat × Nat)): ∀(ps:List (Nat × V)) (cs:List V),ba (rY place cs ps)
 | [],cs=> .ret cs
 | (i,v)::r,cs=>fun K h=>by
  unfold rY at h ⊢
  split at h
  · refine (ba.bind (eL v) fun v K h=> ?_) K h
    split at h
    · rename_i hc
      obtain ⟨u,h1,h2⟩:=(ba.bind (e9 _ _ _) fun cs=>rr place r cs) K h
      exact ⟨u,h1,fun K' h=>h2 K' h⟩
    · exact h.elim
  · exact h.elim
theorem jO (t:List V): ∀l,ba (gg t l)
 | []=> .ret _
 | (i,x)::r=>show ba fun K=>ev t x fun v=>v.aH fun v=>gg t r fun ps=>K ((i,v)::ps) from ba.bind (aM t x) fun v=>ba.bind (bl v) fun v=>ba.bind (jO t r) fun ps=> .ret ((i,v)::ps)
theorem BX (P:Program) (T:TypeId) (ps:List (Nat × V)):ba (qT P T ps):=by
 show ba fun K=>qT P T ps K
 unfold qT
 refine ba.bind (gX P T) fun z K h=> ?_
 split at h
 · split at h
   · rename_i hc
     obtain ⟨u,h1,h2⟩:=(ba.bind (rr _ ps _) fun cs=> .ret (V.agg cs)) K h
     exact ⟨u,h1,fun K' h=>h2 K' h⟩
   · exact h.elim
 · split at h
   · rename_i hc
     obtain ⟨u,h1,h2⟩:=(ba.bind (rr _ ps _) fun cs=> .ret (V.agg cs)) K h
     exact ⟨u,h1,fun K' h=>h2 K' h⟩
   · exact h.elim
 · exact h.elim
theorem zZ (t:List V) (lo:Option Operand):ba (sE t lo):=by
 cases lo with
 | none=>exact .ret 0
 | some y=>
   show ba fun K=>sE t (some y) K
   unfold sE
   refine ba.bind (aM t y) fun v=> ?_
   cases v<;>first | exact .no | exact .ret _
theorem BY (P:Program) (op:BinOp) (T:TypeId) (x y:V):ba (qS P op T x y):=fun K h=>by
 unfold qS at h ⊢
 split at h
 all_goals first
  | exact h.elim
  | exact ⟨_,h,fun _ h=>h⟩
  | (obtain ⟨a,h⟩:=h;exact ⟨_,h,fun _ h=>⟨a,h⟩⟩)
  | (by_cases hk: ‹IntKind› = ‹IntKind›
     · rename_i k _ k' _ _ _
       by_cases hk:k=k'
       · subst hk
         simp only [if_true] at h ⊢
         split at h
         all_goals first
          | exact h.elim
          | exact ⟨_,h,fun _ h=>h⟩
          | (obtain ⟨a,h⟩:=h;exact ⟨_,h,fun _ h=>⟨a,h⟩⟩)
       · simp only [if_neg hk] at h
     · exact absurd rfl hk)
  | (split at h
     all_goals first
      | exact h.elim
      | exact ⟨_,h,fun _ h=>h⟩
      | exact (ba.bind (bt P _) fun _=> .ret _) K h
      | (split at h
         all_goals first
          | exact h.elim
          | exact ⟨_,h,fun _ h=>h⟩
          | exact (ba.bind (bt P _) fun _=> .ret _) K h))
theorem EY (P:Program) (A B:TypeId) (x:V):ba (wI P A B x):=fun K h=>by
 unfold wI at h ⊢
 split at h
 all_goals first
  | exact h.elim
  | exact ⟨_,h,fun _ h=>h⟩
  | (split at h
     all_goals first
      | exact h.elim
      | exact ⟨_,h,fun _ h=>h⟩
      | (obtain ⟨a,b,h⟩:=h;exact ⟨_,h,fun _ h=>⟨a,b,h⟩⟩))
variable (S:Sys)
theorem wB (b:Builtin) (ts:Array TypeId) (args:List V):ba (k0 S b ts args):=fun K h=>by
 unfold k0 at h ⊢
 split at h
 all_goals first
  | exact h.elim
  | exact ⟨_,h,fun _ h=>h⟩
  | (obtain ⟨a,h⟩:=h;exact ⟨_,h,fun _ h=>⟨a,h⟩⟩)
theorem nw (P:Program) (e:TypeId) (ts:Array TypeId) (ob:List af) (v:V):ba (sG P e ts ob v):=fun K h=>by
 unfold sG at h ⊢
 split at h
 · exact ⟨_,h,fun _ h=>h⟩
 · exact ⟨_,h,fun _ h=>h⟩
 · split at h
   · exact ⟨_,h,fun _ h=>h⟩
   · exact h.elim
 · refine (ba.bind (bm ob _) fun x=> ?_) K h
   cases x<;>try exact .no
   simp only
   split
   · exact .and fun _=> .ret _
   · exact .no
 · exact h.elim
theorem yi (ok:Bool) (v:V) (b:Bool):ba fun K:V->Prop=>v.aH fun v=>(match ok with | true=>K (.aQ [v,.bool b]) | false=>K v):=
 ba.bind (bl v) fun v=>by cases ok<;>exact .ret _
theorem z6 (P:Program) (T:TypeId) (ob:List af) (x k:V) (ok:Bool):ba (lW P T ob x k ok):=fun K h=>by
 unfold lW at h ⊢
 split at h
 · split at h
   · cases x<;>try exact h.elim
     · refine (ba.bind (bm ob _) fun x=> ?_) K h
       cases x<;>try exact .no
       refine .and fun _=> .ex fun r=> .and fun _=> ?_
       cases r
       · exact ba.bind (gX P _) fun z=>yi ok _ _
       · exact yi ok _ _
     · exact (ba.bind (gX P _) fun z=>yi ok _ _) K h
   · exact h.elim
 · exact h.elim
theorem EZ (T:TypeId) (t:List V) (hi:Option Operand) (x:V) (l:Int):ba fun K:V->Prop=>(match x with
 | .str b=>match S.P.underlying T with
   | some .string=>(match hi with
     | none=>0<=l/\l<=b.size/\K (.str (b.extract l.toNat b.size))
     | some y=>ev t y fun y=>match y with
       | .int _ h=>0<=l/\l<=h/\h<=b.size/\K (.str (b.extract l.toNat h.toNat))
       | _=>False)
   | _=>False
 | .sl xs r=>match S.P.underlying T with
   | some (.slice e)=>jm S.P e fun z=>(match hi with
     | none=>0<=l/\l<=xs.length/\(∀x∈xs,x.cells.length=z)/\K (.sl (xs.drop l.toNat) r)
     | some y=>ev t y fun y=>match y with
       | .int _ h=>0<=l/\l<=h/\h<=xs.length/\(∀x∈xs,x.cells.length=z)/\K (.sl ((xs.take h.toNat).drop l.toNat) .no)
       | _=>False)
   | _=>False
 | .spare xs sp=>match S.P.underlying T with
   | some (.slice e)=>jm S.P e fun z=>(match hi with
     | none=>False
     | some y=>ev t y fun y=>match y with
       | .int _ h=>0<=l/\l<=h/\h<=xs.length+sp.length/\(∀x∈xs++sp,x.cells.length=z)/\K (.sl (((xs++sp).take h.toNat).drop l.toNat) .no)
       | _=>False)
   | _=>False
 | .bX o z a n c=>match S.P.underlying T with
   | some (.slice e)=>jm S.P e fun z'=>(match Nat.beq z z',hi with
     | true,none=>0<=l/\l<=n/\K (.bX o z (a+l.toNat) (n - l.toNat) (c - l.toNat))
     | true,some y=>ev t y fun y=>match y with
       | .int _ h=>0<=l/\l<=h/\h<=c/\K (.bX o z (a+l.toNat) (h.toNat - l.toNat) (c - l.toNat))
       | _=>False
     | _,_=>False)
   | _=>False
 | _=>False):=by
 cases x with
 | str b=>
   simp only
   split
   · cases hi with
     | none=>exact .and fun _=> .and fun _=> .ret _
     | some y=>
       refine ba.bind (aM t y) fun v=> ?_
       cases v<;>first | exact .no | exact .and fun _=> .and fun _=> .and fun _=> .ret _
   · exact .no
 | sl xs r=>
   simp only
   split
   · refine ba.bind (bt S.P _) fun z=> ?_
     cases hi with
     | none=>exact .and fun _=> .and fun _=> .and fun _=> .ret _
     | some y=>
       refine ba.bind (aM t y) fun v=> ?_
       cases v<;>first | exact .no | exact .and fun _=> .and fun _=> .and fun _=> .and fun _=> .ret _
   · exact .no
 | spare xs sp=>
   simp only
   split
   · refine ba.bind (bt S.P _) fun z=> ?_
     cases hi with
     | none=>exact .no
     | some y=>
       show ba fun K:V->Prop=>ev t y fun y=>match y with
        | .int _ h=>0<=l/\l<=h/\h<=xs.length+sp.length/\(∀x∈xs++sp,x.cells.length=z)/\K (.sl (((xs++sp).take h.toNat).drop l.toNat) .no)
        | _=>False
       refine ba.bind (aM t y) fun v=> ?_
       cases v<;>first | exact .no | exact .and fun _=> .and fun _=> .and fun _=> .and fun _=> .ret _
   · exact .no
 | bX o z a n c=>
   simp only
   split
   · refine ba.bind (bt S.P _) fun z'=> ?_
     cases hb:Nat.beq z z' with
     | false=>cases hi<;>exact .no
     | true=>
       cases hi with
       | none=>exact .and fun _=> .and fun _=> .ret _
       | some y=>
         refine ba.bind (aM t y) fun v=> ?_
         cases v<;>first | exact .no | exact .and fun _=> .and fun _=> .and fun _=> .ret _
   · exact .no
 | _=>exact .no
theorem BZ (T:TypeId) (x h m:V) (l:Int):ba fun K:V->Prop=>(match x,h,m,S.P.underlying T with
 | .sl xs _,.int _ h,.int _ m,some (.slice e)=>jm S.P e fun z=>0<=l/\l<=h/\h=m/\h<=xs.length/\(∀x∈xs,x.cells.length=z)/\K (.sl ((xs.take h.toNat).drop l.toNat) .ex)
 | .bX o z a n c,.int _ h,.int _ m,some (.slice e)=>jm S.P e fun z'=>(match Nat.beq z z' with
   | true=>0<=l/\l<=h/\h<=m/\m<=c/\K (.bX o z (a+l.toNat) (h.toNat - l.toNat) (m.toNat - l.toNat))
   | false=>False)
 | _,_,_,_=>False):=by
 split
 · exact ba.bind (bt S.P _) fun z=> .and fun _=> .and fun _=> .and fun _=> .and fun _=> .and fun _=> .ret _
 · refine ba.bind (bt S.P _) fun z=> ?_
   split
   · exact .and fun _=> .and fun _=> .and fun _=> .and fun _=> .ret _
   · exact .no
 · exact .no
theorem ny (o:Oper) (t:List V) (ob:List af):ba (ga S o t ob):=by
 show ba fun K=>ga S o t ob K
 unfold ga
 split
 · exact aM t _
 · exact aM t _
 · refine ba.bind (aM t _) fun v=> ?_
   cases v<;>first | exact .no | exact .bif (aM t _) (aM t _)
 · exact ba.bind (jO t _) fun ps=>BX _ _ _
 · refine ba.bind (jO t _) fun ps K h=> ?_
   split at h
   · split at h
     · obtain ⟨z,h1,h2⟩:=bt S.P _ _ h
       split at h1
       · split at h1
         · split at h1
           · exact ⟨_,h1,fun K' h=>h2 _ (by simp_all)⟩
           · exact ⟨_,h1,fun K' h=>h2 _ (by simp_all)⟩
           · split at h1
             · exact ⟨_,h1,fun K' h=>h2 _ (by simp_all)⟩
             · exact h1.elim
           · exact h1.elim
         · exact h1.elim
       · exact h1.elim
     · exact h.elim
   · exact h.elim
 · refine ba.bind (aM t _) fun v=> ?_
   cases v<;>try exact .no
   · refine ba.bind (bm ob _) fun x=> ?_
     cases x<;>try exact .no
     exact ba.bind (gW _ _) fun cs=>ln _ _ _
   · exact ba.bind (ln _ _ _) fun v=>bl v
   · refine ba.bind (bm ob _) fun x=> ?_
     cases x<;>try exact .no
     simp only
     split
     · exact .ex fun x=> .and fun _=>ba.bind (gW _ _) fun cs=>ba.bind (ln _ _ _) fun v=>bl v
     · exact .no
 · refine ba.bind (aM t _) fun v=> ?_
   cases v<;>try first | exact .no | exact .ret _
   rename_i f a b
   cases f<;>first | exact .no | exact .ret _
 · exact ba.bind (aM t _) fun x=>ba.bind (aM t _) fun y=>BY _ _ _ _ _
 · refine ba.bind (aM t _) fun v=> ?_
   split<;>first | exact .no | exact .ret _
 · exact ba.bind (aM t _) fun x=>ba.bind (aM t _) fun k=>z6 _ _ _ _ _ _
 · refine ba.bind (aM t _) fun x=> ?_
   split
   · split
     · split
       · exact ba.bind (nw _ _ _ _ _) fun m=> .ex fun bs=> .and fun _=> .ret _
       · exact .no
     · exact .no
   · exact ba.bind (bm ob _) fun o1=>ba.bind (F:=pX S.P _ _ o1 _) (ba.ret _) fun b=>by
      cases b
      · exact .no
      · exact .ret _
   · exact EY _ _ _ _
 · refine ba.bind (aM t _) fun v=>ba.bind (bl v) fun v=> ?_
   split<;>first | exact .no | exact .ret _
 · exact ba.bind (ib t _) fun a=>ba.bind (ib t _) fun b=>ba.bind (cC bl a) fun a=>ba.bind (cC bl b) fun b=> .ret _
 · refine ba.bind (aM t _) fun v=> ?_
   split
   · split
     · exact .no
     · cases v<;>first | exact .no | exact .ret _ | exact ba.bind (gW _ _) fun c=> .ret _
   · exact .no
 · refine ba.bind (aM t _) fun v=> ?_
   split
   · exact ba.bind (gW _ _) fun cs=>ba.bind (ln _ _ _) fun v=>bl v
   · exact .no
 · refine ba.bind (aM t _) fun p=>ba.bind (aM t _) fun i=> ?_
   cases i<;>try exact .no
   simp only
   split
   · refine ba.bind (bt _ _) fun z=> .and fun _=> .and fun _=>ba.bind (bm ob _) fun x=> ?_
     cases x<;>try exact .ret _
     simp only
     split
     · exact .ret _
     · exact .no
   · refine ba.bind (bt _ _) fun z=> ?_
     split
     · exact .and fun _=> .and fun _=> .ret _
     · exact .no
   · exact ba.bind (bt _ _) fun z=> .and fun _=> .and fun _=>ba.bind (gW _ _) fun c=> .ret _
   · exact ba.bind (bt _ _) fun z=> .and fun _=> .ex fun _=> .and fun _=> .and fun _=> .ret _
   · exact ba.bind (bt _ _) fun z=> .and fun _=> .ex fun _=> .and fun _=> .and fun _=> .ret _
   · exact ba.bind (bt _ _) fun z=> .and fun _=> .ex fun _=> .and fun _=> .and fun _=> .ret _
   · exact .no
 · refine ba.bind (aM t _) fun p=>ba.bind (aM t _) fun i=> ?_
   cases i<;>try exact .no
   simp only
   split
   · exact .and fun _=> .ex fun _=> .and fun _=> .ret _
   · exact ba.bind (bt _ _) fun z=> .and fun _=> .and fun _=>ba.bind (gW _ _) fun c=>ba.bind (ln _ _ _) fun v=>bl v
   · exact .no
 · refine ba.bind (aM t _) fun v=> ?_
   split
   · exact .no
   · exact zY _ _ _ _
   · exact .no
 · refine ba.bind (aM t _) fun v=> ?_
   cases v<;>try exact .no
   exact ba.bind (bm _ _) fun v=>bl v
 · exact ba.bind (aM t _) fun x=>ba.bind (zZ t _) fun l=>EZ S _ t _ x l
 · exact ba.bind (aM t _) fun x=>ba.bind (zZ t _) fun l=>ba.bind (aM t _) fun h=>ba.bind (aM t _) fun m=>BZ S _ x h m l
 · split
   · exact ba.bind (ib t _) fun args=>wB S _ _ _
   · exact .no
 · exact .no
end VL
namespace VL
open Go
theorem fm {t t':List V}: ∀ {l:List Operand},(∀x∈l,ev t x=ev t' x)->sy t l=sy t' l
 | [],_=>by funext K;rfl
 | x::r,h=>by
   funext K
   simp only [sy,h x (by simp),fm (l:=r) fun y hy=>h y (by simp [hy])]
theorem ja {t t':List V}: ∀ {l:List (Nat × Operand)},(∀x∈l.map (·.2),ev t x=ev t' x)->gg t l=gg t' l
 | [],_=>by funext K;rfl
 | (i,x)::r,h=>by
  funext K
  simp only [gg,h x (by simp),ja (l:=r) fun y hy=>h y (by simp at hy ⊢;exact .inr hy)]
theorem uF {t t':List V} {lo:Option Operand} (h: ∀x∈lo.toList,ev t x=ev t' x):sE t lo=sE t' lo:=by
 funext K
 cases lo with
 | none=>rfl
 | some y=>simp only [sE,h y (by simp)]
theorem uG {t t':List V} {lo:Option Operand} (h: ∀x∈lo.toList,ev t x=ev t' x):m5 t lo=m5 t' lo:=by
 funext K
 cases lo with
 | none=>rfl
 | some y=>simp only [m5,h y (by simp)]
theorem me (S:Sys) {o:Oper} {t t':List V} (ob:List af) (h: ∀x∈o.op.operands.toList,ev t x=ev t' x):ga S o t ob=ga S o t' ob:=by
 funext K
 unfold ga
 split
 next x ho=>rw [h x (by simp [ho,Op.operands])]
 next x ho=>rw [h x (by simp [ho,Op.operands])]
 next x y z ho=>rw [h x (by simp [ho,Op.operands]),h y (by simp [ho,Op.operands]),h z (by simp [ho,Op.operands])]
 next T ps ho=>rw [ja fun x hx=>h x (by simp [ho,Op.operands] at hx ⊢;exact hx)]
 next T n ps ho=>rw [ja fun x hx=>h x (by simp [ho,Op.operands] at hx ⊢;exact hx)]
 next x ho=>rw [h _ (by rw [ho];simp [Op.operands])]
 next x ho=>rw [h _ (by rw [ho];simp [Op.operands])]
 next ho=>
  rename_i x y U
  rw [h x (by simp [ho,Op.operands]),h y (by simp [ho,Op.operands])]
 next ho=>rw [h _ (by rw [ho];simp [Op.operands])]
 next T x k ok ho=>rw [h x (by simp [ho,Op.operands]),h k (by simp [ho,Op.operands])]
 next ho=>rw [h _ (by rw [ho];simp [Op.operands])]
 next ho=>rw [h _ (by rw [ho];simp [Op.operands])]
 next f a b ho=>rw [fm fun x hx=>h x (by simp [ho,Op.operands];exact .inl (by simpa using hx)),fm fun x hx=>h x (by simp [ho,Op.operands];exact .inr (by simpa using hx))]
 next ho=>rw [h _ (by rw [ho];simp [Op.operands])]
 next ho=>rw [h _ (by rw [ho];simp [Op.operands])]
 next T x ix ho=>rw [h x (by simp [ho,Op.operands]),h ix (by simp [ho,Op.operands])]
 next T x ix ho=>rw [h x (by simp [ho,Op.operands]),h ix (by simp [ho,Op.operands])]
 next ho=>rw [h _ (by rw [ho];simp [Op.operands])]
 next ho=>rw [h _ (by rw [ho];simp [Op.operands])]
 next T x lo hi ho=>
  rw [h x (by simp [ho,Op.operands]),uF (lo:=lo) fun y hy=>h y (by simp [ho,Op.operands];simp at hy;simp [hy])]
  cases hi with
  | none=>
    congr 1;funext x;congr 1;funext l
    cases x<;>try rfl
    simp only
    split<;>try rfl
    congr 1;funext z'
    cases Nat.beq _ z'<;>rfl
  | some y=>
    simp only [h y (by simp [ho,Op.operands])]
    congr 1;funext x;congr 1;funext l
    cases x<;>try rfl
    simp only
    split<;>try rfl
    congr 1;funext z'
    cases Nat.beq _ z'<;>try rfl
    simp only [h y (by simp [ho,Op.operands])]
 next T x lo hi mx ho=>
  rw [h x (by simp [ho,Op.operands]),h hi (by simp [ho,Op.operands]),h mx (by simp [ho,Op.operands]),uF (lo:=lo) fun y hy=>h y (by simp [ho,Op.operands];simp at hy;simp [hy])]
 next c ho=>
  split
  next hc=>rw [fm fun x hx=>h x (by simp [ho,Op.operands,Call.operands,hc];simpa using hx)]
  next=>rfl
 next=>rfl
def masked (m:Nat->Bool) (t:List V):List V:=t.mapIdx fun i v=>if m i then .undef else v
theorem bQ {m:Nat->Bool} {t:List V} {i:Nat}:(masked m t)[i]? =(t[i]?).map fun v=>if m i then .undef else v:=by
 simp [masked,List.getElem?_mapIdx]
theorem fF {m:Nat->Bool} {t:List V}:(masked m t).length=t.length:=by simp [masked]
theorem om {α:Type} {K:α->Prop}: ∀(l:List α) (i:Nat),cA l i K=match l[i]? with | some x=>K x | none=>False
 | [],_=>by simp [cA]
 | x::_,0=>by simp [cA]
 | _::r,n+1=>by simp only [cA,om r n,List.getElem?_cons_succ]
theorem E0 {m:Nat->Bool} {t:List V} {x:Operand} (h: ∀d,x= .tmp d->m d=false):ev (masked m t) x=ev t x:=by
 funext K
 cases x with
 | tmp d=>
   simp only [ev,om,bQ,h d rfl]
   cases t[d]? <;>rfl
 | _=>rfl
theorem B0 {m:Nat->Bool} {t:List V} {i:Nat}:masked m (t.map (V.strip i))=(masked m t).map (V.strip i):=by
 apply List.ext_getElem?
 intro k
 rw [bQ,List.getElem?_map,List.getElem?_map,bQ]
 cases t[k]? with
 | none=>rfl
 | some v=>
   simp only [Option.map_some]
   split<;>rfl
theorem oU {m:Nat->Bool} {t:List V} {ms:List Nat}:masked m (t.map (V.forget ms))=(masked m t).map (V.forget ms):=by
 apply List.ext_getElem?
 intro k
 rw [bQ,List.getElem?_map,List.getElem?_map,bQ]
 cases t[k]? with
 | none=>rfl
 | some v=>
   simp only [Option.map_some]
   split
   · simp [V.forget,aW,ni]
   · rfl
theorem jP {ms:List Nat}: ∀ {l:List V} {K:List V->Prop},K (l.map (V.forget ms))->cd (fun v K=>(V.forget ms v).c7 K) l K
 | [],K,h=>h
 | x::r,K,h=>by
   show (V.forget ms x).c7 _
   rw [bk];exact jP (l:=r) h
theorem iO {ms:List Nat}: ∀ {l:List af} {K:List af->Prop},K (l.map (cW ms))->cd (af.fg ms) l K
 | [],K,h=>h
 | x::r,K,h=>by
   cases x with
   | cells w T cs=>exact jP (iO (l:=r) h)
   | _=>exact iO (l:=r) h
theorem uH {ms:List Nat} {t:List V} {ob:List af} {df:List (Fn × List V × List V)} {K:List V->List af->Prop} (h1:gP ms df=true) (h:K (t.map (V.forget ms)) (ob.map (cW ms))):fg ms t ob df K:=by
 unfold fg
 split
 · rw [show V.forget []=id from funext po,show cW []=id from funext sb,List.map_id,List.map_id] at h;exact h
 · rw [h1]
   exact jP (iO h)
def fG (m:Nat->Bool):St->St
 | ⟨t,ob,nt,df⟩=>⟨masked m t,ob,nt,df⟩
theorem lp (f:Nat->Nat) (o:af):ba (iU f o):=fun K h=>by
 unfold iU at h ⊢
 split at h
 · split at h
   · exact ⟨_,h,fun _ h=>h⟩
   · exact (ba.bind (cC (jN f) _) fun cs=> .ret _) K h
 · exact ⟨_,h,fun _ h=>h⟩
theorem yj (o:af):ba o.Ja:=fun K h=>by
 unfold af.Ja at h ⊢
 split at h
 · exact ⟨_,h,fun _ h=>h⟩
 · exact ⟨_,h,fun _ h=>h⟩
theorem wV (m:Bool) (o:af):ba (o.rZ m):=fun K h=>by
 unfold af.rZ at h ⊢
 split at h
 · exact ⟨_,h,fun _ h=>h⟩
 · exact ⟨_,h,fun _ h=>h⟩
 · exact ⟨_,h,fun _ h=>h⟩
 · exact h.elim
theorem JI (o:af):ba o.Qf:=by cases o<;>exact .ret _
theorem uI: ∀l:List af,ba (Ew l)
 | []=> .ret _
 | o::r=>show ba fun K=>o.Qf fun o=>Ew r fun r=>K (o::r) from ba.bind (JI o) fun o=>ba.bind (uI r) fun r=> .ret _
theorem mf: ∀(idx:List Nat) (os:List af),ba (kK idx os)
 | [],os=>by cases os<;>exact .ret _
 | _::_,[]=> .ret _
 | i::r,o::os=>fun K h=>by
   refine (ba.bind (yj o) fun m=> ?_:ba fun K=>o.Ja fun m=>match m with | true=>kK r os fun l=>K (i::l) | false=>kK r os K) K h
   cases m with
   | true=>exact ba.bind (mf r os) fun l=> .ret _
   | false=>exact mf r os
theorem wW (f:Nat->Nat): ∀(idx:List Nat) (os ob:List af),ba (mR f idx os ob)
 | i::r,o::os,ob=>show ba fun K=>iU f o fun o=>cA ob i fun o0=>o0.Ja fun m=>o.rZ m fun o=>fw ob i o fun ob=>mR f r os ob K from ba.bind (lp _ _) fun o=>ba.bind (bm _ _) fun o0=>ba.bind (yj o0) fun m=>ba.bind (wV m o) fun o=>ba.bind (eJ _ _ _) fun ob=>wW f r os ob
 | [],os,ob=>show ba fun K=>cd (iU f) os fun os=>K (ob++os) from ba.bind (cC (lp f) os) fun os=> .ret _
 | _::_,[],_=> .no
theorem uJ (o:af):ba o.aH:=by
 cases o with
 | cells w T cs=>exact (ba.bind (cC bl cs) fun cs=> .ret (af.cells w T cs):ba fun K=>cd V.aH cs fun cs=>K (af.cells w T cs))
 | _=>exact .ret _
theorem ru (ob:List af) (f:Nat->Nat): ∀idx,ba (pU ob f idx)
 | []=> .ret _
 | i::r=>show ba fun K=>cA ob i fun o=>o.aH fun o=>pU ob f r fun os=>iU f o fun o=>K (o::os) from
    ba.bind (bm _ _) fun o=>ba.bind (uJ o) fun o=>ba.bind (ru ob f r) fun os=>ba.bind (lp _ _) fun o=> .ret _
theorem B_ (i:Nat) (s:St):ba (kJ i s):=by
 obtain ⟨t,ob,nt,df⟩:=s
 show ba fun K=>kJ i ⟨t,ob,nt,df⟩ K
 unfold kJ
 refine ba.bind (cC (fun v=>eL _) t) fun t=> ?_
 refine ba.bind (cC (fun o=> ?_) ob) fun ob=> .ret _
 cases o with
 | cells w T cs=>exact (ba.bind (cC (fun v=>eL _) cs) fun cs=> .ret (af.cells w T cs):ba fun K=>cd (fun v K=>(V.strip i v).c7 K) cs fun cs=>K (af.cells w T cs))
 | _=>exact .ret _
theorem wX {i:Nat} {t:List V} {ob:List af} {nt:Nat} {df:List (Fn × List V × List V)} {K:St->Prop} (h:K ⟨t.map (V.strip i),ob.map (dI i),nt,df⟩):kJ i ⟨t,ob,nt,df⟩ K:=by
 obtain ⟨v,h1,h2⟩:=B_ i ⟨t,ob,nt,df⟩ (fun s=>s=⟨t.map (V.strip i),ob.map (dI i),nt,df⟩) (by
  have hm: ∀l:List V, ∀K:List V->Prop,K (l.map (V.strip i))->cd (fun v K=>(V.strip i v).c7 K) l K:=fun l=>by
   induction l with
   | nil=>intro K h;exact h
   | cons x r ih=>intro K h;show (V.strip i x).c7 _;rw [bk];exact ih _ h
  have ho: ∀l:List af, ∀K:List af->Prop,K (l.map (dI i))->cd (fun o K=>match o with
   | af.cells w T cs=>cd (fun v K=>(V.strip i v).c7 K) cs fun cs=>K (af.cells w T cs)
   | o=>K o) l K:=fun l=>by
   induction l with
   | nil=>intro K h;exact h
   | cons x r ih=>
     intro K h
     cases x with
     | cells w T cs=>exact hm cs _ (ih _ h)
     | _=>exact ih _ h
  exact hm t _ (ho ob _ rfl))
 exact h2 K (h1▸h)
variable (S:Sys)
theorem ba.mono {α:Type} {F:(α->Prop)->Prop} (hF:ba F) {K K':α->Prop} (hK: ∀v,K v->K' v) (h:F K):F K':=by
 obtain ⟨v,h1,h2⟩:=hF K h
 exact h2 K' (hK v h1)
theorem lq (t:List V) (lo:Option Operand):ba (m5 t lo):=by
 cases lo with
 | none=>exact .ret none
 | some y=>
   show ba fun K=>m5 t (some y) K
   unfold m5
   refine ba.bind (aM t y) fun v=> ?_
   cases v<;>first | exact .no | exact .ret _
theorem lu {α:Type} {l:List α} {v:α} {K K':Nat->List α->Prop} (hK: ∀n l,K n l->K' n l) (h:e6 l v K):e6 l v K':=
 (lk l v).mono (K:=fun p=>K p.1 p.2) (K':=fun p=>K' p.1 p.2) (fun p h=>hK _ _ h) h
section
variable {t t':List V} {df:List (Fn × List V × List V)} {K K':V->St->Prop}
theorem yk {P:Program} {e:TypeId} {m:List V} {ob:List af} {nt:Nat} (hK: ∀v ob nt,K v ⟨t,ob,nt,df⟩->K' v ⟨t',ob,nt,df⟩) (h:eo P e m ⟨t,ob,nt,df⟩ K):eo P e m ⟨t',ob,nt,df⟩ K':=by
 unfold eo at h ⊢
 refine (bt P e).mono (fun z h=> ?_) h
 split at h
 · split at h
   · obtain ⟨a,b,h⟩:=h
     exact ⟨a,b,fun sp c d=>lu (fun i ob h=>hK _ _ _ h) (h sp c d)⟩
   · exact h.elim
 · exact h.elim
theorem qg {P:Program} {e:TypeId} {o z lo n c:Nat} {m:List V} {ob:List af} {nt:Nat} (hK: ∀v ob nt,K v ⟨t,ob,nt,df⟩->K' v ⟨t',ob,nt,df⟩) (h:dm P e o z lo n c m ⟨t,ob,nt,df⟩ K):dm P e o z lo n c m ⟨t',ob,nt,df⟩ K':=by
 unfold dm at h ⊢
 refine (bt P e).mono (fun z' h=> ?_) h
 split at h
 · split at h
   · obtain ⟨a,b,h⟩:=h
     refine ⟨a,b,(bm ob o).mono (fun x h=> ?_) h⟩
     split at h
     · split at h
       · cases hb:Nat.ble (n+m.length) c with
         | true=>
           rw [hb] at h
           obtain ⟨c1,h⟩:=h
           exact ⟨c1,(eJ _ _ _).mono (fun ob h=>hK _ _ _ h) h⟩
         | false=>
           rw [hb] at h
           obtain ⟨c1,h⟩:=h
           exact ⟨c1,fun sp sT=>lu (fun i ob h=>hK _ _ _ h) (h sp sT)⟩
       · exact h.elim
     · exact h.elim
   · exact h.elim
 · exact h.elim
theorem JJ {S:Sys} {ts:Array TypeId} {args:List V} {ob:List af} {nt:Nat} (hK: ∀v ob nt,K v ⟨t,ob,nt,df⟩->K' v ⟨t',ob,nt,df⟩) (h:tM S ts args ⟨t,ob,nt,df⟩ K):tM S ts args ⟨t',ob,nt,df⟩ K':=by
 unfold tM at h ⊢
 simp only at h ⊢
 split at h
 · refine (nw _ _ _ _ _).mono (fun m h=> ?_) h
   refine (bt _ _).mono (fun z' h=> ?_) h
   split at h
   · obtain ⟨a,h⟩:=h
     refine ⟨a,(bm ob _).mono (fun x h=> ?_) h⟩
     split at h
     · split at h
       · exact ⟨h.1,(eJ _ _ _).mono (fun ob h=>hK _ _ _ h) h.2⟩
       · exact h.elim
     · exact h.elim
   · exact h.elim
 · exact h.elim
theorem sU {S:Sys} {ts:Array TypeId} {args:List V} {ob:List af} {nt:Nat} (hK: ∀v ob nt,K v ⟨t,ob,nt,df⟩->K' v ⟨t',ob,nt,df⟩) (h:dH S ts args ⟨t,ob,nt,df⟩ K):dH S ts args ⟨t',ob,nt,df⟩ K':=by
 unfold dH at h ⊢
 simp only at h ⊢
 split at h
 · refine (bm ob _).mono (fun x h=> ?_) h
   split at h
   · split at h
     · obtain ⟨a,b,c,bs,d,h⟩:=h
       refine ⟨a,b,c,bs,d,?_⟩
       generalize Nat.beq _ 0=b0 at h ⊢
       cases b0 with
       | true=>exact hK _ _ _ h
       | false=>exact (eJ _ _ _).mono (fun ob h=>hK _ _ _ h) h
     · exact h.elim
   · exact h.elim
 · exact h.elim
theorem yl {S:Sys} {T:TypeId} {len cap:V} {ob:List af} {nt:Nat} (hK: ∀v ob nt,K v ⟨t,ob,nt,df⟩->K' v ⟨t',ob,nt,df⟩) (h:fM S T len cap ⟨t,ob,nt,df⟩ K):fM S T len cap ⟨t',ob,nt,df⟩ K':=by
 unfold fM at h ⊢
 simp only at h ⊢
 split at h
 · refine (bt _ _).mono (fun z' h=> ?_) h
   split at h
   · split at h
     · obtain ⟨a,b,c,d,h⟩:=h
       exact ⟨a,b,c,d,lu (fun i ob h=>hK _ _ _ h) h⟩
     · exact h.elim
   · exact h.elim
 · exact h.elim
theorem ym {S:Sys} {T:TypeId} {x k v:V} {ob:List af} {nt:Nat} (hK: ∀v ob nt,K v ⟨t,ob,nt,df⟩->K' v ⟨t',ob,nt,df⟩) (h:fN S T x k v ⟨t,ob,nt,df⟩ K):fN S T x k v ⟨t',ob,nt,df⟩ K':=by
 unfold fN at h ⊢
 simp only at h ⊢
 split at h
 · refine (bl _).mono (fun v h=> ?_) h
   split at h
   · refine (bm ob _).mono (fun x h=> ?_) h
     split at h
     · exact ⟨h.1,(eJ _ _ _).mono (fun ob h=>hK _ _ _ h) h.2⟩
     · exact h.elim
   · exact h.elim
 · exact h.elim
theorem z7 {P:Program} {op:BinOp} {T:TypeId} {x:V} {K K':V->Prop} (hK: ∀v,K v->K' v) (h:jB P op T x K):jB P op T x K':=by
 have hn: ∀ {K K':Bool->Prop},(∀b,K b->K' b)->jB.Bs x K->jB.Bs x K':=fun {K K'} hk h=>by
  unfold jB.Bs at h ⊢
  split at h
  all_goals first
   | exact h.elim
   | exact fun b hb=>hk _ (h b hb)
 unfold jB at h ⊢
 split at h
 · exact hn (fun b h=>hK _ h) h
 · exact hn (fun b h=>hK _ h) h
 · exact h.elim
theorem E1 {S:Sys} {A B:TypeId} {x:V} {ob:List af} {K K':V->List af->Prop} (hK: ∀v ob,K v ob->K' v ob) (h:lX S A B x ob K):lX S A B x ob K':=by
 unfold lX at h ⊢
 split at h
 · split at h
   · exact fun sp hs=>lu (fun i ob h=>hK _ _ h) (h sp hs)
   · exact h.elim
 · exact h.elim
theorem B' {S:Sys} {T:TypeId} {n:Nat} {parts:Array (Nat × Operand)} {ob:List af} {K K':V->List af->Prop} (hp:gg t parts.toList=gg t' parts.toList) (hK: ∀v ob,K v ob->K' v ob) (h:jC S T n parts t ob K):jC S T n parts t' ob K':=by
 unfold jC at h ⊢
 rw [←hp]
 refine (jO _ _).mono (fun ps h=> ?_) h
 split at h
 · split at h
   · refine (bt _ _).mono (fun z h=> ?_) h
     split at h
     · split at h
       · split at h
         · exact lu (fun i ob h=>hK _ _ h) h
         · exact h.elim
       · exact h.elim
     · exact h.elim
   · exact h.elim
 · exact h.elim
end
def e_:Prop:= ∀g args ob (K K':Out->List af->Prop),(∀o ob,K o ob->K' o ob)->S.call g args ob K->S.call g args ob K'
theorem GY (hm:e_ S) {o:Oper} {m:Nat->Bool} (hU: ∀x∈o.op.operands.toList, ∀d,x= .tmp d->m d=false) {t:List V} {ob:List af} {nt:Nat} {df:List (Fn × List V × List V)}
 {K KP:V->St->Prop} (h:zm S o ⟨t,ob,nt,df⟩ K KP):zm S o (fG m ⟨t,ob,nt,df⟩) (fun v s'=> ∃s1,K v s1/\s'=fG m s1) fun v s'=> ∃s1,KP v s1/\s'=fG m s1:=by
 have pq: ∀x∈o.op.operands.toList,ev (masked m t) x=ev t x:=fun x hx=>E0 (hU x hx)
 have hK: ∀v ob nt,K v ⟨t,ob,nt,df⟩-> ∃s1,K v s1/\(⟨masked m t,ob,nt,df⟩:St)=fG m s1:=fun v ob nt h=>⟨_,h,rfl⟩
 have oM: ∀ {K0:V->St->Prop},(ga S o t ob fun v=>K0 v ⟨t,ob,nt,df⟩)->ga S o (masked m t) ob fun v=>(fun v s'=> ∃s1,K0 v s1/\s'=fG m s1) v ⟨masked m t,ob,nt,df⟩:=fun {K0} h=>by
  rw [me S ob pq]
  obtain ⟨v,h1,h2⟩:=ny S o t ob _ h
  exact h2 _ ⟨_,h1,rfl⟩
 show zm S o ⟨masked m t,ob,nt,df⟩ _ _
 unfold zm at h ⊢
 simp only at h ⊢
 split at h
 next T ho=>
  obtain ⟨z,h1,h2⟩:=gX _ _ _ h
  refine h2 _ ?_
  split at h1
  next hc=>
   split at h1
   next hd=>
    obtain ⟨p,h3,h4⟩:=lk _ _ (fun p=>K (.ptr p.1 0) ⟨t,p.2,nt,df⟩) h1
    exact h4 (fun p=> ∃s1,K (.ptr p.1 0) s1/\(⟨masked m t,p.2,nt,df⟩:St)=fG m s1) ⟨_,h3,rfl⟩
   next hd=>
    obtain ⟨p,h3,h4⟩:=lk _ _ (fun p=>K (.ptr p.1 0) ⟨t,p.2,nt,df⟩) h1
    exact h4 (fun p=> ∃s1,K (.ptr p.1 0) s1/\(⟨masked m t,p.2,nt,df⟩:St)=fG m s1) ⟨_,h3,rfl⟩
  next=>exact h1.elim
 next T x ho=>
  rw [pq x (by simp [ho,Op.operands])]
  obtain ⟨v,h1,h2⟩:=aM _ _ _ h
  refine h2 _ ?_
  obtain ⟨v',h1,h3⟩:=bl _ _ h1
  refine h3 _ ?_
  split at h1
  next hc=>
   obtain ⟨p,h3,h4⟩:=lk _ _ (fun p=>K (.ptr p.1 0) ⟨t,p.2,nt,df⟩) h1
   exact h4 (fun p=> ∃s1,K (.ptr p.1 0) s1/\(⟨masked m t,p.2,nt,df⟩:St)=fG m s1) ⟨_,h3,rfl⟩
  next=>exact h1.elim
 next T x y ho=>
  rw [pq x (by simp [ho,Op.operands]),pq y (by simp [ho,Op.operands])]
  obtain ⟨p,h1,h2⟩:=aM _ _ _ h
  refine h2 _ ?_
  obtain ⟨v,h1,h3⟩:=aM _ _ _ h1
  refine h3 _ ?_
  obtain ⟨v,h1,h4⟩:=eL _ _ h1
  refine h4 _ ?_
  split at h1
  next i off=>
   obtain ⟨x1,h1,h5⟩:=bm _ _ _ h1
   refine h5 _ ?_
   split at h1
   next U cs=>
    split at h1
    next hc=>
     obtain ⟨tS,h1,h6⟩:=e9 _ _ _ _ h1
     refine h6 _ ?_
     obtain ⟨c6,h1,h7⟩:=eJ _ _ _ _ h1
     exact h7 _ ⟨_,h1,rfl⟩
    next=>exact h1.elim
   next=>exact h1.elim
  next o z i off=>
   refine (bl _).mono (fun v h=> ?_) h1
   refine (bm ob _).mono (fun x1 h=> ?_) h
   split at h
   next=>
    split at h
    next=>
     obtain ⟨y,hy,h⟩:=h
     exact ⟨y,hy,(e9 _ _ _).mono (fun cs h=>(eJ _ _ _).mono (fun ob h=>hK _ _ _ h) h) h⟩
    next=>exact h.elim
   next=>exact h.elim
  next=>exact h1.elim
 next T len cap ho=>
  rw [pq len (by simp [ho,Op.operands]),pq cap (by simp [ho,Op.operands])]
  refine (aM _ _).mono (fun x h=> ?_) h
  refine (aM _ _).mono (fun y h=> ?_) h
  exact yl hK h
 next T ho=>
  split at h
  next=>exact lu (fun i ob h=>hK _ _ _ h) h
  next=>exact h.elim
 next T x k v ho=>
  rw [pq x (by simp [ho,Op.operands]),pq k (by simp [ho,Op.operands]),pq v (by simp [ho,Op.operands])]
  refine (aM _ _).mono (fun x h=> ?_) h
  refine (aM _ _).mono (fun y h=> ?_) h
  refine (aM _ _).mono (fun z h=> ?_) h
  exact ym hK h
 next op T x y U ho=>
  split at h
  next hy=>
   rw [pq x (by simp [ho,Op.operands])]
   exact (aM _ _).mono (fun x h=>z7 (fun v h=>hK _ _ _ h) h) h
  next=>exact oM h
 next T n parts ho=>
  split at h
  next=>exact B' (ja fun x hx=>(pq x (by simp [ho,Op.operands] at hx ⊢;exact hx)).symm) (fun v ob h=>hK _ _ _ h) h
  next=>exact oM h
 next A B x ho=>
  split at h
  next=>
   rw [pq x (by simp [ho,Op.operands])]
   obtain ⟨v,h1,h2⟩:=aM _ _ _ h
   refine h2 _ ?_
   exact E1 (fun v ob h=>hK _ _ _ h) h1
  next=>exact oM h
 next T x lo hi mx ho=>
  rw [pq x (by simp [ho,Op.operands])]
  obtain ⟨p,h1,h2⟩:=aM _ _ _ h
  refine h2 _ ?_
  have wc:m5 (masked m t) lo=m5 t lo:=uG fun y hy=>pq y (by simp [ho,Op.operands];simp at hy;simp [hy])
  have S':m5 (masked m t) hi=m5 t hi:=uG fun y hy=>pq y (by simp [ho,Op.operands];simp at hy;simp [hy])
  split at h1
  · cases hu:S.P.underlying T with
    | none=>simp only [hu] at h1
    | some d=>
      cases d<;>simp only [hu] at h1 ⊢
      cases mx with
      | some _=>exact h1.elim
      | none=>
        refine (bm ob _).mono (fun x1 h=> ?_) h1
        cases x1 with
        | cells wr U cs=>
          simp only at h ⊢
          split at h
          next hc=>exact (eJ _ _ _).mono (fun ob h=>hK _ _ _ h) h
          next=>exact h.elim
        | buf mv z l=>
          simp only [wc,S'] at h ⊢
          refine (bt _ _).mono (fun z' h=> ?_) h
          refine (lq _ _).mono (fun l1 h=> ?_) h
          refine (lq _ _).mono (fun h1 h=> ?_) h
          split at h
          next=>exact hK _ _ _ h
          next=>exact ⟨h.1,h.2.1,hK _ _ _ h.2.2⟩
          next=>exact ⟨h.1,h.2.1,hK _ _ _ h.2.2⟩
          next=>exact ⟨h.1,h.2.1,h.2.2.1,hK _ _ _ h.2.2.2⟩
          next=>exact h.elim
        | _=>exact h.elim
  · cases hu:S.P.underlying T with
    | none=>simp only [hu] at h1
    | some d=>
      cases d<;>simp only [hu] at h1 ⊢
      cases hi with
      | none=>exact h1.elim
      | some hi=>
        cases lo with
        | some _=>exact h1.elim
        | none=>
          cases mx with
          | some _=>exact h1.elim
          | none=>
            refine (bm ob _).mono (fun x1 h=> ?_) h1
            cases x1 with
            | cells wr U cs=>
              simp only [S'] at h ⊢
              refine (bt _ _).mono (fun z' h=> ?_) h
              refine (lq _ _).mono (fun h1 h=> ?_) h
              split at h
              next=>exact ⟨h.1,h.2.1,hK _ _ _ h.2.2⟩
              next=>exact h.elim
            | _=>exact h.elim
  · exact oM h1
 next c ho=>
  split at h
  next f hc=>
   rw [pq f (by simp [ho,Op.operands,Call.operands,hc]),fm fun x hx=>pq x (by simp [ho,Op.operands,Call.operands,hc];exact .inr (by simpa using hx))]
   obtain ⟨f,h1,h2⟩:=aM _ _ _ h
   refine h2 _ ?_
   obtain ⟨args,h1,h3⟩:=ib _ _ _ h1
   refine h3 _ ?_
   clear h2 h3
   cases f with
   | fn f first cap=>
     cases f with
     | func g=>
       simp only [Dh] at h1 ⊢
       obtain ⟨Rp,h1,h4⟩:=cC bl _ _ h1
       refine h4 _ ?_
       obtain ⟨idx,h1,h8⟩:=wU _ _ h1
       refine h8 _ ?_
       split at h1
       next=>exact h1.elim
       next gb=>
        obtain ⟨sub,h1,h5⟩:=ru _ _ _ _ h1
        refine h5 _ ?_
        obtain ⟨sub,h1,Lw⟩:=uI _ _ h1
        refine Lw _ ?_
        obtain ⟨Rp,h1,h9⟩:=cC (jN _) _ _ h1
        refine h9 _ ?_
        refine hm _ _ _ _ _ (fun out iZ hk=> ?_) h1
        obtain ⟨ms,h1,OS⟩:=mf _ _ _ hk
        refine OS _ ?_
        obtain ⟨hd,h1⟩:=iz h1
        refine uH hd ?_
        obtain ⟨c6,h1,h6⟩:=wW _ _ _ _ _ h1
        refine h6 _ ?_
        cases out with
        | ret v=>
          obtain ⟨v',h1,h7⟩:=jN _ _ _ h1
          exact h7 _ ⟨_,h1,by simp only [fG,oU]⟩
        | dw v=>
          obtain ⟨v',h1,h7⟩:=jN _ _ _ h1
          exact h7 _ ⟨_,h1,by simp only [fG,oU]⟩
     | _=>exact h1.elim
   | _=>exact h1.elim
  next hc=>
   rw [fm fun x hx=>pq x (by simp [ho,Op.operands,Call.operands,hc];simpa using hx)]
   obtain ⟨args,h1,h3⟩:=ib _ _ _ h
   refine h3 _ ?_
   have oL: ∀ {e:TypeId} {l:List V} {r:Room} {u:List V},i7 S.P e l r u ⟨t,ob,nt,df⟩ K->i7 S.P e l r u ⟨masked m t,ob,nt,df⟩ fun v s'=> ∃s1,K v s1/\s'=fG m s1:=fun {e l r u} h=>by
    unfold i7 at h ⊢
    obtain ⟨z,h1,h2⟩:=bt _ _ _ h
    refine h2 _ ?_
    split at h1
    next=>
     split at h1
     next hz=>
      obtain ⟨a1,a2,h1⟩:=h1
      refine ⟨a1,a2,?_⟩
      cases r with
      | no=>exact h1
      | ex=>exact ⟨h1.1,_,h1.2,rfl⟩
      | tok i sz=>
        simp only at h1 ⊢
        split at h1
        next=>
         refine wX ?_
         have:=ph h1
         exact ⟨_,this,by simp only [fG,B0]⟩
        next=>exact h1.elim
     next=>exact h1.elim
    next=>exact h1.elim
   unfold pV at h1 ⊢
   split at h1
   · split at h1
     · refine (nw _ _ _ _ _).mono (fun u h=> ?_) h1
       split at h
       · split at h
         · exact yk hK h
         · exact oL h
       · exact qg hK h
       · exact h.elim
     · split at h1
       · split at h1
         · exact ⟨h1.1,h1.2.1,qg hK h1.2.2⟩
         · exact h1.elim
       · exact h1.elim
   · exact h1.elim
  next hc=>
   rw [fm fun x hx=>pq x (by simp [ho,Op.operands,Call.operands,hc];simpa using hx)]
   exact (ib _ _).mono (fun args h=>JJ hK h) h
  next hc=>
   rw [fm fun x hx=>pq x (by simp [ho,Op.operands,Call.operands,hc];simpa using hx)]
   exact (ib _ _).mono (fun args h=>sU hK h) h
  next=>exact oM h
  next=>exact h.elim
 next c ho=>
  split at h
  next f hc=>
   rw [pq f (by simp [ho,Op.operands,Call.operands,hc]),fm fun x hx=>pq x (by simp [ho,Op.operands,Call.operands,hc];exact .inr (by simpa using hx))]
   obtain ⟨f,h1,h2⟩:=aM _ _ _ h
   refine h2 _ ?_
   obtain ⟨args,h1,h3⟩:=ib _ _ _ h1
   refine h3 _ ?_
   split at h1
   next=>
    obtain ⟨a,h1,h4⟩:=cC bl _ _ h1
    refine h4 _ ?_
    obtain ⟨b,h1,h5⟩:=cC bl _ _ h1
    exact h5 _ ⟨_,h1,rfl⟩
   next=>exact h1.elim
  next=>exact h.elim
 next x ho=>
  rw [pq x (by simp [ho,Op.operands])]
  refine (aM _ _).mono (fun v h=> ?_) h
  split at h
  next=>exact ⟨_,h,rfl⟩
  next=>exact h.elim
 next=>exact oM h
end VL
namespace VL
open Go
section
variable {k:Nat} {t:List V} {ob:List af} {nt:Nat} {df:List (Fn × List V × List V)}
theorem cm {i:Nat} {K:af->Prop} (hi:i≠k) (h:cA ob i K):cA (ob.set k .none) i K:=by
 rw [om] at h ⊢
 rw [List.getElem?_set_ne (Ne.symm hi)];exact h
theorem yn {x:af}: ∀ {l:List af} {i:Nat},i<l.length->fw l i x fun l'=>l'=l.set i x
 | [],i,h=>by simp at h
 | y::r,0,h=>rfl
 | y::r,i+1,h=>by
   show fw r i x fun r'=>y::r'=(y::r).set (i+1) x
   obtain ⟨l,h1,h2⟩:=eJ r i x _ (yn (l:=r) (i:=i) (by simpa using h))
   exact h2 _ (by rw [h1];rfl)
theorem fY {i:Nat} {x:af} {K K':List af->Prop} (hi:i≠k) (hK: ∀l,K l->K' (l.set k .none)) (h:fw ob i x K):fw (ob.set k .none) i x K':=by
 obtain ⟨aJ,h⟩:=cj h
 obtain ⟨l,h1,h2⟩:=eJ (ob.set k .none) i x (fun l=>l=(ob.set k .none).set i x) (yn (by simpa using aJ))
 refine h2 _ ?_
 rw [h1,List.set_comm _ _ (Ne.symm hi)]
 exact hK _ h
theorem z8 {α:Type}: ∀ {l:List α} {v:α} {K:Nat->List α->Prop},K l.length (l++[v])->e6 l v K
 | [],v,K,h=>h
 | x::r,v,K,h=>by
   show e6 r v fun n l=>K (n+1) (x::l)
   exact z8 (l:=r) (by simpa using h)
theorem ez {x:af} {K K':Nat->List af->Prop} (hk:k<ob.length) (hK: ∀n l,K n l->K' n (l.set k .none)) (h:e6 ob x K):e6 (ob.set k .none) x K':=by
 have h:=hK _ _ (dd h)
 refine z8 ?_
 rw [List.length_set]
 rwa [List.set_append_left _ _ hk] at h
theorem wC (c:Value):aW (ofConst c)=[]:=by
 unfold ofConst
 split<;>rfl
theorem yo (c:Value):aW (ax c)=[]:=by
 have h1: ∀c,aW (ofConst c)=[]:=fun c=>by
  unfold ofConst
  split<;>rfl
 unfold ax
 split
 · rename_i cs
   simp only [aW]
   generalize cs.toList=l
   induction l with
   | nil=>rfl
   | cons x r ih=>simp [b7,h1,ih]
 · exact h1 _
def Clean (k:Nat) (t:List V):Prop:= ∀v∈t,k ∉ aW v
theorem fc (ht:Clean k t) {x:Operand} {K:V->Prop} (h:ev t x K): ∃v,k ∉ aW v/\K v/\ ∀K':V->Prop,K' v->ev t x K':=by
 obtain ⟨v,h1,h2⟩:=aM t x (fun v=>k ∉ aW v/\K v) (by
  cases x with
  | tmp i=>
    obtain ⟨v,h1,h2⟩:=aX h
    exact (by rw [ev,om,h1];exact ⟨ht v (List.mem_of_getElem? h1),h2⟩)
  | const c=>
    show (ax c).c7 _
    have h:(ax c).c7 _:=h
    rw [bk] at h ⊢
    exact ⟨by rw [yo];simp,h⟩
  | func f=>exact ⟨by simp [aW,b7],h⟩
  | global g=>
    have h:match tJ g with
     | some l=>K (V.dp (l.map ofConst))
     | none=>False:=h
    show match tJ g with
     | some l=>k ∉ aW (V.dp (l.map ofConst))/\K (V.dp (l.map ofConst))
     | none=>False
    revert h
    generalize tJ g=q
    cases q with
    | some l=>
      intro h
      refine ⟨fun hk=> ?_,h⟩
      have: ∀l:List Value,b7 (l.map ofConst)=[]:=fun l=>by
       induction l with
       | nil=>rfl
       | cons a r ih=>simp [b7,wC,ih]
      rw [show aW (V.dp (l.map ofConst))=b7 (l.map ofConst) from rfl,this] at hk
      cases hk
    | none=>exact fun h=>h)
 exact ⟨v,h1.1,h1.2,h2⟩
theorem z_ (S:Sys) {o:Oper} (ht:Clean k t) {K:V->Prop} (h:ga S o t ob K):ga S o t (ob.set k .none) K:=by
 unfold ga at h ⊢
 split at h
 case h_6=>
  obtain ⟨v,hv,h,h2⟩:=fc ht h
  refine h2 _ ?_
  split at h
  · rename_i i off
    exact cm (by simpa [aW,eq_comm] using hv) h
  · exact h
  · rename_i o1 z i off
    exact cm (by simpa [aW,eq_comm] using hv) h
  · exact h
 case h_10=>
  obtain ⟨v,hv,h,h2⟩:=fc ht h
  refine h2 _ ?_
  obtain ⟨u,hu,h,h3⟩:=fc ht h
  refine h3 _ ?_
  unfold lW at h ⊢
  split at h
  · split at h
    · cases v<;>try exact h
      exact cm (by simpa [aW,eq_comm] using hv) h
    · exact h
  · exact h
 case h_11=>
  obtain ⟨v,hv,h,h2⟩:=fc ht h
  refine h2 _ ?_
  split at h
  · split at h
    · split at h
      · exact cm (by simpa [aW,eq_comm] using hv) h
      · exact h
    · exact h
  · exact cm (by simpa [aW,eq_comm] using hv) h
  · exact h
 case h_16=>
  obtain ⟨v,hv,h,h2⟩:=fc ht h
  refine h2 _ ?_
  obtain ⟨u,hu,h,h3⟩:=fc ht h
  refine h3 _ ?_
  split at h
  · split at h
    · rename_i e j off _
      exact (bt S.P _).mono (fun z h=>⟨h.1,h.2.1,cm (by simpa [aW,eq_comm] using hv) h.2.2⟩) h
    all_goals exact h
  · exact h
 all_goals exact h
def Ly (k:Nat):St->St
 | ⟨t,ob,nt,df⟩=>⟨t,ob.set k .none,nt,df⟩
theorem pr (rl: ∀(j:Nat) x,j≠k->ob[j]? =some x->k ∉ fU x): ∀(n:Nat) (todo acc:List Nat),k ∉ todo->k ∉ acc->reach (ob.set k .none) n todo acc=reach ob n todo acc/\k ∉ reach ob n todo acc
 | 0,todo,acc,_,h=>by cases todo<;>exact ⟨rfl,h⟩
 | n+1,[],acc,_,h=>⟨rfl,h⟩
 | n+1,i::r,acc,ht,ha=>by
   have kq:i≠k:=fun e=>ht (by simp [e])
   have hr:k ∉ r:=fun h=>ht (by simp [h])
   unfold reach
   cases kZ i acc with
   | true=>exact pr rl n r acc hr ha
   | false=>
     simp only
     rw [List.getElem?_set_ne (Ne.symm kq)]
     refine pr rl n _ _ (fun h=> ?_) (fun h=> ?_)
     · rcases List.mem_append.1 h with h | h
       · exact hr h
       · cases hi:ob[i]? with
         | none=>rw [hi] at h;simp at h
         | some x=>rw [hi] at h;exact rl i x kq hi (by simpa using h)
     · rcases List.mem_append.1 h with h | h
       · exact ha h
       · simp at h;exact kq h.symm
theorem wY {idx:List Nat}: ∀ {l:List Nat},k ∉ l->pT (ob.set k .none) idx l=pT ob idx l
 | [],_=>rfl
 | i::r,h=>by
   have kq:i≠k:=fun e=>h (by simp [e])
   unfold pT
   rw [List.getElem?_set_ne (Ne.symm kq),wY fun hr=>h (by simp [hr])]
theorem wZ {f:Nat->Nat}: ∀ {idx:List Nat} {K:List af->Prop},k ∉ idx->pU ob f idx K->pU (ob.set k .none) f idx K
 | [],K,_,h=>h
 | i::r,K,hk,h=>by
   have kq:i≠k:=fun e=>hk (by simp [e])
   exact cm kq (by
    refine (bm ob i).mono (fun o h=> ?_) h
    refine (uJ o).mono (fun o h=> ?_) h
    exact wZ (fun hr=>hk (by simp [hr])) h)
theorem w9 {f:Nat->Nat}: ∀ {idx:List Nat} {os ob:List af} {K K':List af->Prop},k<ob.length->k ∉ idx->(∀l,K l->K' (l.set k .none))->mR f idx os ob K->mR f idx os (ob.set k .none) K'
 | [],os,ob,K,K',hl,hk,hK,h=>by
   have h:cd (iU f) os fun os=>K (ob++os):=h
   show cd (iU f) os fun os=>K' (ob.set k .none++os)
   refine (cC (lp f) os).mono (fun os h=> ?_) h
   have:=hK _ h
   rwa [List.set_append_left _ _ hl] at this
 | i::r,o::os,ob,K,K',hl,hk,hK,h=>by
   have kq:i≠k:=fun e=>hk (by simp [e])
   have h:iU f o fun o=>cA ob i fun o0=>o0.Ja fun m=>o.rZ m fun o=>fw ob i o fun ob=>mR f r os ob K:=h
   show iU f o fun o=>cA (ob.set k .none) i fun o0=>o0.Ja fun m=>o.rZ m fun o=>fw (ob.set k .none) i o fun ob=>mR f r os ob K'
   refine (lp f o).mono (fun o h=> ?_) h
   refine cm kq ?_
   refine (bm ob i).mono (fun o0 h=> ?_) h
   refine (yj o0).mono (fun m h=> ?_) h
   refine (wV m o).mono (fun o h=> ?_) h
   obtain ⟨aJ,h⟩:=cj h
   have h2:fw ob i o fun l=>l=ob.set i o:=by
    obtain ⟨l,h1,h2⟩:=eJ ob i o (fun l=>l=ob.set i o) (by
     have:=yn (l:=ob) (x:=o) aJ
     exact this)
    exact h2 _ h1
   exact fY (K:=fun l=>l=ob.set i o) kq (fun l Jw=>by
    subst Jw
    exact w9 (by simpa using hl) (fun hr=>hk (by simp [hr])) hK h) h2
 | _::_,[],_,_,_,_,_,_,h=>h.elim
theorem Aa {f:af->af} (hf:f .none= .none):(ob.set k .none).map f=(ob.map f).set k .none:=by
 rw [List.map_set,hf]
theorem Ca {v:V} (h:k ∉ aW v):k ∉ aW v.bj:=by
 unfold V.bj
 split
 · simp [aW]
 · exact h
theorem lv (ht:Clean k t): ∀ {l:List Operand} {K:List V->Prop},sy t l K-> ∃vs,(∀v∈vs,k ∉ aW v)/\K vs/\ ∀K':List V->Prop,K' vs->sy t l K'
 | [],K,h=>⟨[],by simp,h,fun _ h=>h⟩
 | x::r,K,h=>by
   obtain ⟨v,h1,h2,h3⟩:=fc ht h
   obtain ⟨vs,h4,h5,h6⟩:=lv ht h2
   refine ⟨v::vs,fun u hu=> ?_,h5,fun K' h=>h3 _ (h6 _ h)⟩
   cases hu with
   | head=>exact h1
   | tail _ hu=>exact h4 u hu
theorem sd: ∀ {l:List V},(∀v∈l,k ∉ aW v)->k ∉ b7 l
 | [],_=>by simp [b7]
 | x::r,h=>by
   simp only [b7,List.mem_append,not_or]
   exact ⟨h x (by simp),sd fun v hv=>h v (by simp [hv])⟩
theorem Ab {l:List V} (h:k ∉ b7 l): ∀v∈l,k ∉ aW v:=fun v hv hk=>by
 obtain ⟨i,hi⟩:=List.mem_iff_getElem?.1 hv
 exact h (bY hi hk)
theorem Ac {P:Program} {e:TypeId} {ts:Array TypeId} {v:V} {K:List V->Prop} (hv:k ∉ aW v) (h:sG P e ts ob v K):sG P e ts (ob.set k .none) v K:=by
 unfold sG at h ⊢
 split at h
 · exact h
 · exact h
 · exact h
 · exact cm (by simpa [aW,eq_comm] using hv) h
 · exact h
theorem uK {P:Program} {e:TypeId} {m:List V} {K K':V->St->Prop} (hk:k<ob.length) (hK: ∀v t ob nt df,K v ⟨t,ob,nt,df⟩->K' v ⟨t,ob.set k .none,nt,df⟩) (h:eo P e m ⟨t,ob,nt,df⟩ K):eo P e m ⟨t,ob.set k .none,nt,df⟩ K':=by
 unfold eo at h ⊢
 refine (bt P e).mono (fun z h=> ?_) h
 split at h
 · split at h
   · obtain ⟨a,b,h⟩:=h
     exact ⟨a,b,fun sp c d=>ez hk (fun i l h=>hK _ _ _ _ _ h) (h sp c d)⟩
   · exact h.elim
 · exact h.elim
theorem Ad {P:Program} {e:TypeId} {l:List V} {r:Room} {m:List V} {K K':V->St->Prop} (hK: ∀v t ob nt df,K v ⟨t,ob,nt,df⟩->K' v ⟨t,ob.set k .none,nt,df⟩) (h:i7 P e l r m ⟨t,ob,nt,df⟩ K):i7 P e l r m ⟨t,ob.set k .none,nt,df⟩ K':=by
 unfold i7 at h ⊢
 refine (bt P e).mono (fun z h=> ?_) h
 split at h
 · split at h
   · obtain ⟨a,b,h⟩:=h
     refine ⟨a,b,?_⟩
     cases r with
     | no=>exact h
     | ex=>exact ⟨h.1,hK _ _ _ _ _ h.2⟩
     | tok i sz=>
       simp only at h ⊢
       split at h
       · refine wX ?_
         have:=ph h
         rw [Aa rfl]
         exact hK _ _ _ _ _ this
       · exact h.elim
   · exact h.elim
 · exact h.elim
theorem nz {P:Program} {e:TypeId} {o z lo n c:Nat} {m:List V} {K K':V->St->Prop} (hk:k<ob.length) (ho:o≠k) (hK: ∀v t ob nt df,K v ⟨t,ob,nt,df⟩->K' v ⟨t,ob.set k .none,nt,df⟩) (h:dm P e o z lo n c m ⟨t,ob,nt,df⟩ K):dm P e o z lo n c m ⟨t,ob.set k .none,nt,df⟩ K':=by
 unfold dm at h ⊢
 refine (bt P e).mono (fun z' h=> ?_) h
 split at h
 · split at h
   · obtain ⟨a,b,h⟩:=h
     refine ⟨a,b,cm ho ?_⟩
     refine (bm ob o).mono (fun x h=> ?_) h
     split at h
     · split at h
       · cases hb:Nat.ble (n+m.length) c with
         | true=>
           rw [hb] at h
           obtain ⟨c1,h⟩:=h
           exact ⟨c1,fY ho (fun l h=>hK _ _ _ _ _ h) h⟩
         | false=>
           rw [hb] at h
           obtain ⟨c1,h⟩:=h
           exact ⟨c1,fun sp sT=>ez hk (fun i l h=>hK _ _ _ _ _ h) (h sp sT)⟩
       · exact h.elim
     · exact h.elim
   · exact h.elim
 · exact h.elim
theorem DA (S:Sys) (hm:e_ S) (hk:k<ob.length) (ht:Clean k t) (rl: ∀(j:Nat) x,j≠k->ob[j]? =some x->k ∉ fU x) {o:Oper} {K K':V->St->Prop} (OT: ∀v s,K v s->K' v (Ly k s)) (h:zm S o ⟨t,ob,nt,df⟩ K fun _ _=>False):
 zm S o ⟨t,ob.set k .none,nt,df⟩ K' fun _ _=>False:=by
 have hK: ∀v t ob nt df,K v ⟨t,ob,nt,df⟩->K' v ⟨t,ob.set k .none,nt,df⟩:=fun v t ob nt df h=>OT v _ h
 have oM:(ga S o t ob fun v=>K v ⟨t,ob,nt,df⟩)->ga S o t (ob.set k .none) fun v=>K' v ⟨t,ob.set k .none,nt,df⟩:=fun h=>by
  have h:=z_ S ht h
  exact (ny S o t _).mono (fun v h=>hK _ _ _ _ _ h) h
 have bZ: ∀ {i:Nat} {v:V},k ∉ aW v->i∈aW v->i≠k:=fun hv hi e=>hv (e▸hi)
 unfold zm at h ⊢
 simp only at h ⊢
 split at h
 next T ho=>
  refine (gX _ _).mono (fun z h=> ?_) h
  split at h
  next=>
   split at h
   next=>exact ez hk (fun n l h=>hK _ _ _ _ _ h) h
   next=>exact ez hk (fun n l h=>hK _ _ _ _ _ h) h
  next=>exact h.elim
 next T x ho=>
  refine (aM _ _).mono (fun v h=> ?_) h
  refine (bl _).mono (fun v h=> ?_) h
  split at h
  next=>exact ez hk (fun n l h=>hK _ _ _ _ _ h) h
  next=>exact h.elim
 next T x y ho=>
  obtain ⟨p,hp,h',h2⟩:=fc ht h
  clear h
  refine h2 _ ?_
  clear h2
  refine (aM _ _).mono (fun v h3=> ?_) h'
  clear h'
  refine (eL _).mono (fun v h4=> ?_) h3
  clear h3
  split at h4
  next i off=>
   have kq:=bZ (i:=i) hp (by simp [aW])
   refine cm kq ?_
   refine (bm ob _).mono (fun x1 h=> ?_) h4
   split at h
   next=>
    split at h
    next=>exact (e9 _ _ _).mono (fun cs h=>fY kq (fun l h=>hK _ _ _ _ _ h) h) h
    next=>exact h.elim
   next=>exact h.elim
  next o1 z i off=>
   have kq:=bZ (i:=o1) hp (by simp [aW])
   refine (bl _).mono (fun v h5=> ?_) h4
   refine cm kq ?_
   refine (bm ob _).mono (fun x1 h=> ?_) h5
   split at h
   next=>
    split at h
    next=>
     obtain ⟨y,hy,h⟩:=h
     exact ⟨y,hy,(e9 _ _ _).mono (fun cs h=>fY kq (fun l h=>hK _ _ _ _ _ h) h) h⟩
    next=>exact h.elim
   next=>exact h.elim
  next=>exact h4.elim
 next T len cap ho=>
  refine (aM _ _).mono (fun x h1=> ?_) h
  refine (aM _ _).mono (fun y h2=> ?_) h1
  unfold fM at h2 ⊢
  simp only at h2 ⊢
  split at h2
  · refine (bt _ _).mono (fun z' h=> ?_) h2
    split at h
    · split at h
      · obtain ⟨a,b,c,d,h⟩:=h
        exact ⟨a,b,c,d,ez hk (fun i l h=>hK _ _ _ _ _ h) h⟩
      · exact h.elim
    · exact h.elim
  · exact h2.elim
 next T ho=>
  split at h
  next=>exact ez hk (fun n l h=>hK _ _ _ _ _ h) h
  next=>exact h.elim
 next T x k1 v ho=>
  obtain ⟨p,hp,h1,h2⟩:=fc ht h
  refine h2 _ ?_
  clear h h2
  refine (aM _ _).mono (fun y h3=> ?_) h1
  refine (aM _ _).mono (fun z h4=> ?_) h3
  unfold fN at h4 ⊢
  simp only at h4 ⊢
  split at h4
  · rename_i o1 _
    have kq:=bZ (i:=o1) hp (by simp [aW])
    refine (bl _).mono (fun v h=> ?_) h4
    split at h
    · refine cm kq ?_
      refine (bm ob _).mono (fun x h=> ?_) h
      split at h
      · exact ⟨h.1,fY kq (fun l h=>hK _ _ _ _ _ h) h.2⟩
      · exact h.elim
    · exact h.elim
  · exact h4.elim
 next op T x y U ho=>
  split at h
  next hy=>exact (aM _ _).mono (fun x h=>z7 (fun v h=>hK _ _ _ _ _ h) h) h
  next=>exact oM h
 next T n parts ho=>
  split at h
  next=>
   unfold jC at h ⊢
   refine (jO _ _).mono (fun ps h=> ?_) h
   split at h
   · split at h
     · refine (bt _ _).mono (fun z h=> ?_) h
       split at h
       · split at h
         · split at h
           · exact ez hk (fun i l h=>hK _ _ _ _ _ h) h
           · exact h.elim
         · exact h.elim
       · exact h.elim
     · exact h.elim
   · exact h.elim
  next=>exact oM h
 next A B x ho=>
  split at h
  next=>
   refine (aM _ _).mono (fun v h=> ?_) h
   unfold lX at h ⊢
   split at h
   · split at h
     · exact fun sp hs=>ez hk (fun i l h=>hK _ _ _ _ _ h) (h sp hs)
     · exact h.elim
   · exact h.elim
  next=>exact oM h
 next T x lo hi mx ho=>
  obtain ⟨p,hp,h1,h2⟩:=fc ht h
  refine h2 _ ?_
  clear h h2
  split at h1
  · rename_i i
    have kq:=bZ (i:=i) hp (by simp [aW])
    cases hu:S.P.underlying T with
    | none=>simp only [hu] at h1
    | some d=>
      cases d<;>simp only [hu] at h1 ⊢
      cases mx with
      | some _=>exact h1.elim
      | none=>
        refine cm kq ?_
        refine (bm ob _).mono (fun x1 h=> ?_) h1
        cases x1 with
        | cells wr U cs=>
          simp only at h ⊢
          split at h
          next hc=>exact fY kq (fun l h=>hK _ _ _ _ _ h) h
          next=>exact h.elim
        | buf mv z l=>
          simp only at h ⊢
          refine (bt _ _).mono (fun z' h=> ?_) h
          refine (lq _ _).mono (fun l1 h=> ?_) h
          refine (lq _ _).mono (fun h1 h=> ?_) h
          split at h
          next=>exact hK _ _ _ _ _ h
          next=>exact ⟨h.1,h.2.1,hK _ _ _ _ _ h.2.2⟩
          next=>exact ⟨h.1,h.2.1,hK _ _ _ _ _ h.2.2⟩
          next=>exact ⟨h.1,h.2.1,h.2.2.1,hK _ _ _ _ _ h.2.2.2⟩
          next=>exact h.elim
        | _=>exact h.elim
  · rename_i i off
    have kq:=bZ (i:=i) hp (by simp [aW])
    cases hu:S.P.underlying T with
    | none=>simp only [hu] at h1
    | some d=>
      cases d<;>simp only [hu] at h1 ⊢
      cases hi with
      | none=>exact h1.elim
      | some hi=>
        cases lo with
        | some _=>exact h1.elim
        | none=>
          cases mx with
          | some _=>exact h1.elim
          | none=>
            refine cm kq ?_
            refine (bm ob _).mono (fun x1 h=> ?_) h1
            cases x1 with
            | cells wr U cs=>
              simp only at h ⊢
              refine (bt _ _).mono (fun z' h=> ?_) h
              refine (lq _ _).mono (fun h1 h=> ?_) h
              split at h
              next=>exact ⟨h.1,h.2.1,hK _ _ _ _ _ h.2.2⟩
              next=>exact h.elim
            | _=>exact h.elim
  · exact oM h1
 next c ho=>
  split at h
  next f hc=>
   obtain ⟨fv,Rq,h1,h2⟩:=fc ht h
   refine h2 _ ?_
   clear h h2
   obtain ⟨args,qh,h3,h4⟩:=lv ht h1
   refine h4 _ ?_
   clear h1 h4
   cases fv with
   | fn f first cap=>
     cases f with
     | func g=>
       simp only [Dh] at h3 ⊢
       have h5:=dq h3
       have ka:k ∉ b7 ((first++args++cap).map V.bj):=by
        simp only [aW,List.mem_append,not_or] at Rq
        refine sd fun v hv=> ?_
        obtain ⟨u,hu,rfl⟩:=List.mem_map.1 hv
        refine Ca ?_
        rcases List.mem_append.1 hu with hu | hu
        · rcases List.mem_append.1 hu with hu | hu
          · exact Ab Rq.1 u hu
          · exact qh u hu
        · exact Ab Rq.2 u hu
       have Cb: ∀(l:List V) (K:List V->Prop),K (l.map V.bj)->cd V.aH l K:=fun l=>by
        induction l with
        | nil=>intro K h;exact h
        | cons x r ih=>
          intro K h
          show x.aH _
          simp only [V.aH,bk]
          exact ih _ h
       refine Cb _ _ ?_
       obtain ⟨Rk,Lt⟩:=pr rl 64 _ [] ka (by simp)
       rw [Rk]
       have EJ: ∀(l:List Nat) (K:List Nat->Prop),ng l K->K l:=fun l=>by
        induction l with
        | nil=>intro K h;exact h
        | cons x r ih=>
          intro K h
          have h:wh x fun i=>ng r fun r=>K (i::r):=h
          cases x<;>exact ih _ h
       have sI: ∀(l:List Nat) (K:List Nat->Prop),K l->ng l K:=fun l=>by
        induction l with
        | nil=>intro K h;exact h
        | cons x r ih=>
          intro K h
          show wh x fun i=>ng r fun r=>K (i::r)
          cases x<;>exact ih _ h
       have h6:=EJ _ _ h5
       refine sI _ _ ?_
       clear h5 h3
       generalize reach ob 64 (b7 ((first++args++cap).map V.bj)) []=idx at h6 Lt
       rw [wY Lt]
       split at h6
       next=>exact h6.elim
       next gb=>
        refine wZ Lt ?_
        refine (ru _ _ _).mono (fun sub h=> ?_) h6
        refine (uI _).mono (fun sub h=> ?_) h
        refine (cC (jN _) _).mono (fun Rp h=> ?_) h
        refine hm _ _ _ _ _ (fun out iZ h=> ?_) h
        rw [List.length_set]
        refine (mf _ _).mono (fun ms h=> ?_) h
        obtain ⟨hd,h⟩:=iz h
        refine uH hd ?_
        rw [Aa rfl]
        refine w9 (by simpa using hk) Lt (fun l h=> ?_) h
        cases out with
        | ret v=>exact (jN _ _).mono (fun v h=>hK _ _ _ _ _ h) h
        | dw v=>exact (jN _ _).mono (fun v h=>h.elim) h
     | _=>exact h3.elim
   | _=>exact h3.elim
  next hc=>
   obtain ⟨args,qh,h1,h2⟩:=lv ht h
   refine h2 _ ?_
   clear h h2
   have Qo:=hK
   unfold pV at h1 ⊢
   split at h1
   · rename_i e b v _
     have hb:=qh b (by simp)
     have hv:=qh v (by simp)
     split at h1
     · refine Ac hv ((nw _ _ _ _ _).mono (fun u h=> ?_) h1)
       split at h
       · split at h
         · exact uK hk Qo h
         · exact Ad Qo h
       · rename_i o1 z lo n cp
         exact nz hk (bZ (i:=o1) hb (by simp [aW])) Qo h
       · exact h.elim
     · split at h1
       · rename_i o1 z lo n cp _ _ _ _
         split at h1
         · exact ⟨h1.1,h1.2.1,nz hk (bZ (i:=o1) hb (by simp [aW])) Qo h1.2.2⟩
         · exact h1.elim
       · exact h1.elim
   · exact h1.elim
  next hc=>
   obtain ⟨args,qh,h1,h2⟩:=lv ht h
   refine h2 _ ?_
   clear h h2
   unfold tM at h1 ⊢
   simp only at h1 ⊢
   split at h1
   · rename_i e o1 z lo n cp v _
     have kq:=bZ (i:=o1) (qh (.bX o1 z lo n cp) (by simp)) (by simp [aW])
     refine Ac (qh v (by simp)) ((nw _ _ _ _ _).mono (fun m h=> ?_) h1)
     refine (bt _ _).mono (fun z' h=> ?_) h
     split at h
     · obtain ⟨a,h⟩:=h
       refine ⟨a,cm kq ((bm ob _).mono (fun x h=> ?_) h)⟩
       split at h
       · split at h
         · exact ⟨h.1,fY kq (fun l h=>hK _ _ _ _ _ h) h.2⟩
         · exact h.elim
       · exact h.elim
     · exact h.elim
   · exact h1.elim
  next hc=>
   obtain ⟨args,qh,h1,h2⟩:=lv ht h
   refine h2 _ ?_
   clear h h2
   unfold dH at h1 ⊢
   simp only at h1 ⊢
   split at h1
   · rename_i e o1 z n _
     have kq:=bZ (i:=o1) (qh (.bp o1 z 0 0) (by simp)) (by simp [aW])
     refine cm kq ((bm ob _).mono (fun x h=> ?_) h1)
     split at h
     · split at h
       · obtain ⟨a,b,c,bs,d,h⟩:=h
         refine ⟨a,b,c,bs,d,?_⟩
         generalize Nat.beq _ 0=b0 at h ⊢
         cases b0 with
         | true=>exact hK _ _ _ _ _ h
         | false=>exact fY kq (fun l h=>hK _ _ _ _ _ h) h
       · exact h.elim
     · exact h.elim
   · exact h1.elim
  next=>exact oM h
  next=>exact h.elim
 next c ho=>
  split at h
  next f hc=>
   refine (aM _ _).mono (fun f h=> ?_) h
   refine (ib _ _).mono (fun args h=> ?_) h
   split at h
   next=>
    refine (cC bl _).mono (fun a h=> ?_) h
    exact (cC bl _).mono (fun b h=>hK _ _ _ _ _ h) h
   next=>exact h.elim
  next=>exact h.elim
 next x ho=>exact h
 next=>exact oM h
end
end VL
namespace VL
open Go
def DB (all:List Oper) (o:Oper) (t:List V):Option Bool:=
 match o.guard with
 | none=>some true
 | some (j,want)=>match (all[j]?).bind (·.dst) with
   | some d=>match t[d]? with
     | some (.bool b)=>some (b==want)
     | some .undef=>none
     | some _=>some false
     | none=>none
   | none=>none
theorem Ae {t:List V} {d:Nat} {v:V} (h:t[d]? =some v):t.set d v=t:=by
 apply List.ext_getElem?
 intro k
 rw [List.getElem?_set]
 split
 · rename_i e;subst e
   split
   · exact h.symm
   · rename_i aJ;rw [List.getElem?_eq_none (by omega)]
 · rfl
theorem pv {all:List Oper} {o:Oper} {t:List V} {KT KF:List V->Prop} (h:tN all o t KT KF):(DB all o t=some true/\KT t)\/(DB all o t=some false/\KF t):=by
 unfold tN at h
 unfold DB
 cases hg:o.guard with
 | none=>rw [hg] at h;exact .inl ⟨rfl,h⟩
 | some jw=>
   obtain ⟨j,want⟩:=jw
   rw [hg] at h
   simp only at h ⊢
   cases hj:(all[j]?).bind (·.dst) with
   | none=>rw [hj] at h;exact h.elim
   | some d=>
     rw [hj] at h
     simp only at h ⊢
     obtain ⟨v,h1,h2⟩:=aX h
     rw [h1]
     split at h2
     · rename_i b
       rcases k9 h2 with ⟨rfl,h2⟩ | ⟨rfl,h2⟩
       · obtain ⟨_,h2⟩:=cj h2
         rw [Ae h1] at h2
         cases want
         · exact .inr ⟨rfl,h2⟩
         · exact .inl ⟨rfl,h2⟩
       · obtain ⟨_,h2⟩:=cj h2
         rw [Ae h1] at h2
         cases want
         · exact .inl ⟨rfl,h2⟩
         · exact .inr ⟨rfl,h2⟩
     · exact h2.elim
     · rename_i Dz JH
       refine .inr ⟨?_,h2⟩
       cases v<;>first | rfl | exact absurd rfl (Dz _) | exact absurd rfl JH
def E2 (S:Sys) (all:List Oper) (m:Nat) (t:List V) (ob:List af):Prop:=
 ∃o u,all[m]? =some o/\(∀d,o.dst=some d->t[d]? =some u)/\((DB all o t=some true/\ga S o t ob fun v=>v=u)\/(DB all o t=some false/\u= .aQ []))
theorem uL {all:List Oper} {o:Oper} {t t':List V} (h: ∀d∈looks all o,t[d]? =t'[d]?): ∀x∈o.op.operands.toList,ev t x=ev t' x:=by
 intro x hx
 funext K
 cases x with
 | tmp d=>simp only [ev,om,h d (List.mem_append_left _ (List.mem_filterMap.2 ⟨.tmp d,hx,rfl⟩))]
 | _=>rfl
theorem lx {all:List Oper} {o:Oper} {t t':List V} (h: ∀d∈looks all o,t[d]? =t'[d]?):DB all o t=DB all o t':=by
 unfold DB
 cases hg:o.guard with
 | none=>rfl
 | some jw=>
   obtain ⟨j,want⟩:=jw
   simp only
   cases hj:(all[j]?).bind (·.dst) with
   | none=>rfl
   | some d=>simp only [h d (List.mem_append_right _ (by simp [hg,hj]))]
theorem E2.congr {S:Sys} {all:List Oper} {m:Nat} {t t':List V} {ob:List af} {o:Oper} (ho:all[m]? =some o) (h:E2 S all m t ob) (h1: ∀d∈looks all o,t[d]? =t'[d]?) (h2: ∀d,o.dst=some d->t[d]? =t'[d]?):E2 S all m t' ob:=by
 obtain ⟨o',u,e,a1,a2⟩:=h
 have:o'=o:=by rw [ho] at e;exact (Option.some.inj e).symm
 subst this
 exact ⟨o',u,ho,fun d hd=>by rw [←h2 d hd];exact a1 d hd,by rw [←lx h1, ←me S ob (uL h1)];exact a2⟩
theorem uM {o:Option Tmp} {t:List V} {v:V} {k:Prop} (h:Bu o t v k):(∀d,o=some d->t[d]? =some v)/\k:=by
 cases o with
 | none=>exact ⟨by simp,h⟩
 | some d=>
   obtain ⟨u,h1,rfl,h2⟩:=aX h
   exact ⟨fun d' e=>by cases e;exact h1,h2⟩
def Af (S:Sys) (all:List Oper) (done:List Nat) (m:Nat) (t:List V) (ob:List af) (df:List (Fn × List V × List V)):Prop:=
 ∃o T d j i cz,all[m]? =some o/\o.op= .alloc T/\o.dst=some d/\t[d]? =some (.ptr j 0)/\S.P.info? T=some i/\i.zero=some cz/\ob[j]? =some (.cells true T (ax cz).cells)/\gh all (dx all []) done m j t ob df=true
def bz (all:List Oper) (m:Nat):Bool:=match all[m]? with | some o=>pY o | none=>false
theorem iB {S:Sys} {all:List Oper} {n:Nat} {t0:List V} {oQ:List Nat} {t:List V} {ob:List af} {df:List (Fn × List V × List V)} {k:Prop}: ∀ {done:List Nat},recheck S all (dx all []) n t0 oQ done t ob df k->
 k/\ ∀m∈done,dn (dx all []) n m=false->(bz all m=true->Af S all oQ m t ob df/\ ∀o d,all[m]? =some o->o.dst=some d->t[d]? =t0[d]?)/\(bz all m=false->E2 S all m t ob)
 | [],h=>⟨h,by simp⟩
 | m::r,h=>by
   unfold recheck at h
   split at h
   · rename_i ha
     obtain ⟨h1,h2⟩:=iB (done:=r) h
     refine ⟨h1,fun j hj hn=> ?_⟩
     cases hj with
     | head=>rw [ha] at hn;cases hn
     | tail _ hj=>exact h2 j hj hn
   · split at h
     case h_2=>exact h.elim
     rename_i o ho
     have key:k/\(∀m∈r,dn (dx all []) n m=false->(bz all m=true->Af S all oQ m t ob df/\ ∀o d,all[m]? =some o->o.dst=some d->t[d]? =t0[d]?)/\(bz all m=false->E2 S all m t ob))/\(bz all m=true->Af S all oQ m t ob df/\ ∀o d,all[m]? =some o->o.dst=some d->t[d]? =t0[d]?)/\(bz all m=false->E2 S all m t ob):=by
      split at h
      · rename_i se
        have JK:bz all m=true:=by unfold bz;rw [ho];exact se
        split at h
        case h_2=>exact h.elim
        rename_i T d w_ rv
        obtain ⟨p,hp,h⟩:=aX h
        obtain ⟨q,hq,h⟩:=aX h
        split at h
        case h_2=>exact h.elim
        rename_i j j0
        obtain ⟨x,hx,h⟩:=aX h
        obtain ⟨i,cz,hi,hz,h9⟩:=fW h
        clear h
        split at h9
        case h_2=>exact h9.elim
        rename_i ka
        rw [Bool.and_eq_true] at ka
        obtain ⟨Rr,ka⟩:=ka
        have Rr:=Nat.eq_of_beq_eq_true Rr
        subst Rr
        obtain ⟨rfl,h8⟩:=h9
        obtain ⟨h3,h4⟩:=iB (done:=r) h8
        refine ⟨h3,h4,fun _=>⟨⟨o,T,d,_,i,cz,ho,w_,rv,hp,hi,hz,hx,ka⟩,fun o' d' e1 e2=> ?_⟩,(fun hf=>by rw [JK] at hf;cases hf)⟩
        rw [ho] at e1;cases e1
        rw [rv] at e2;cases e2
        rw [hp,hq]
      · rename_i se
        have JK:bz all m=false:=by unfold bz;rw [ho];exact se
        rcases pv h with ⟨hg,h⟩ | ⟨hg,h⟩
        · obtain ⟨v,hv,h2⟩:=ny S o t ob _ h
          obtain ⟨h0,h1⟩:=uM hv
          obtain ⟨h3,h4⟩:=iB (done:=r) h1
          exact ⟨h3,h4,(fun hf=>by rw [JK] at hf;cases hf),fun _=>⟨o,v,ho,h0,.inl ⟨hg,h2 _ rfl⟩⟩⟩
        · obtain ⟨h0,h1⟩:=uM h
          obtain ⟨h3,h4⟩:=iB (done:=r) h1
          exact ⟨h3,h4,(fun hf=>by rw [JK] at hf;cases hf),fun _=>⟨o,.aQ [],ho,h0,.inr ⟨hg,rfl⟩⟩⟩
     refine ⟨key.1,fun j hj hn=> ?_⟩
     cases hj with
     | head=>exact key.2.2
     | tail _ hj=>exact key.2.1 j hj hn
def bf (all:List Oper) (U:List Nat) (d:Nat):Bool:=U.any fun i=>decide ((all[i]?).bind (·.dst)=some d)
theorem dr {all:List Oper} {U:List Nat} {d:Nat}:bf all U d=true↔ ∃i∈U, ∃o,all[i]? =some o/\o.dst=some d:=by
 simp [bf,List.any_eq_true,Option.bind_eq_some_iff]
end VL
