/- Part Kd of the proof: B8 B9 B10 B11 B12 B13 D2 B14 D3 B15 B16 B17 B18 B19 B20 B21 B22 BB1 BB2 BB3 BB4 BB5 BB6 BB7 BB8 BB9 BB10 BB11 BB12 BB13 BB14 BB15 C1 C2 C3 C5 C6 C7 C8 C9 C10 C11. -/
import Derived.Test.YtdjbfmfkeokfaaaGreatKc
import Derived.Shelf.Strings.Search3
import Derived.Lib.IndexMore
set_option linter.unusedVariables false
set_option linter.unusedSimpArgs false
set_option maxRecDepth 100000
namespace B8
open Go Go.Proofs VL B1 D1 B2 B3 B4 B5 B6 B7
theorem vg {s:ByteArray} {i:Nat} (h:i<s.size):(sB s)[i]? =some ((s[i]!).toNat:Int):=by
 obtain ⟨c,h1,h2⟩:=DJ h
 rw [h2]
 have:s[i]! =c:=by rw [getElem!_pos s i h];rw [getElem?_pos s i h] at h1;exact Option.some.inj h1
 rw [this]
theorem LL {c:Int}: ∀ {l:List Int} {i:Nat},l[i]? =some c->(∀j,j<i->l[j]? ≠some c)->l.takeWhile (· !=c)=l.take i/\l.dropWhile (· !=c)=l.drop i/\l.contains c=true
 | [],i,h,_=>by simp at h
 | x::r,0,h,_=>by simp at h;subst h;simp
 | x::r,i+1,h,h2=>by
   have hx:x≠c:=by have:=h2 0 (by omega);simpa using this
   obtain ⟨a,b,d⟩:=LL (l:=r) (i:=i) (by simpa using h) fun j hj=>by have:=h2 (j+1) (by omega);simpa using this
   have p5: ¬c=x:=fun e=>hx e.symm
   refine ⟨?_,?_,?_⟩
   · simp [hx,a]
   · simp [hx,b]
   · rw [List.contains_cons,d];simp
theorem LM {c:Int}: ∀ {l:List Int},(∀x∈l,x≠c)->l.takeWhile (· !=c)=l/\l.dropWhile (· !=c)=[]/\l.contains c=false
 | [],_=>by simp
 | x::r,h=>by
   obtain ⟨a,b,d⟩:=LM (l:=r) fun y hy=>h y (by simp [hy])
   have hx:=h x (by simp)
   have p5: ¬c=x:=fun e=>hx e.symm
   refine ⟨by simp [hx,a],by simp [hx,b],?_⟩
   rw [List.contains_cons,d];simp [p5]
theorem Fa {s:ByteArray} {c:UInt8} {i:Nat} (h:(List.range s.size).find? (fun i=>s[i]! ==c)=some i):i<s.size/\(sB s)[i]? =some (c.toNat:Int)/\ ∀j,j<i->(sB s)[j]? ≠some (c.toNat:Int):=by
 rw [List.find?_range_eq_some] at h
 obtain ⟨h1,h2,h3⟩:=h
 have hi:i<s.size:=by simpa using h2
 refine ⟨hi,?_,fun j hj=> ?_⟩
 · rw [vg hi];simp at h1;rw [h1]
 · rw [vg (by omega)]
   have:=h3 j hj
   simp at this ⊢
   intro e
   exact this (UInt8.toNat.inj (by omega))
theorem Fb {s:ByteArray} {c:UInt8} (h:(List.range s.size).find? (fun i=>s[i]! ==c)=none): ∀x∈sB s,x≠(c.toNat:Int):=by
 rw [List.find?_eq_none] at h
 intro x hx e
 obtain ⟨i,hi⟩:=List.mem_iff_getElem?.1 hx
 have hl:i<s.size:=by rw [←bh];exact (List.getElem?_eq_some_iff.1 hi).1
 have:=h i (by simpa using hl)
 rw [vg hl] at hi
 simp at this hi
 exact this (UInt8.toNat.inj (by omega))
theorem Hs (s:ByteArray) (K) (h:K (.ret (.int .i64 (yz s 46))) []):ah Tryz.prog 121 [.str s,.str ⟨#[46]⟩] [] K:=by
 refine ag [] 0 Tryz.func121 (by rfl) (by rfl) ?_;(conv=>whnf);(repeat (refine aa [] ?_;conv=>whnf))
 (repeat first | (refine aa [] ?_;conv=>whnf) | (refine no (by rfl) ?_;conv=>whnf) | (refine yes (by rfl) ?_;conv=>whnf))
 refine two (fun g=> ?_) (fun g=> ?_)
 · (conv=>whnf);(repeat (refine aa [] ?_;conv=>whnf))
   rw [kB] at g
   have e:s=⟨#[46]⟩:=(Hj (beq_iff_eq.1 g)).symm
   subst e
   exact h
 (conv=>whnf);(repeat (refine aa [] ?_;conv=>whnf))
 (repeat first | (refine aa [] ?_;conv=>whnf) | (refine no (by rfl) ?_;conv=>whnf) | (refine yes (by rfl) ?_;conv=>whnf))
 refine aU (x:=46) (by omega) (by decide+kernel) fun c hc=> ?_
 rw [hc];(conv=>whnf);(repeat (refine aa [] ?_;conv=>whnf))
 have h':ah Tryz.prog 131 [.str s,.int .u8 46] [] fun o ob=>o= .ret (.int .i64 (yz s 46))/\ob=[]:=by
  refine ag [] 0 Tryz.func131 (by rfl) (by rfl) ?_;(conv=>whnf);(repeat (refine aa [] ?_;conv=>whnf))
  refine Ax (fn:=Tryz.f146) (by rfl) (by rfl) (by rfl) (by rfl) (by rfl) ?_;(conv=>whnf);(repeat (refine aa [] ?_;conv=>whnf))
  exact ⟨rfl,rfl⟩
 refine ah.mono ?_ h'
 rintro _ _ ⟨rfl,rfl⟩
 (conv=>whnf);(repeat (refine aa [] ?_;conv=>whnf))
 exact h
theorem LN (s:ByteArray) (hs:s.size<9223372036854775807) (K) (h:K (.ret (.aQ [.str (az ((sB s).takeWhile (· !=46))),.str (az (((sB s).dropWhile (· !=46)).drop 1)),.bool ((sB s).contains 46)])) []):ah Tryz.prog 139 [.str s,.str ⟨#[46]⟩] [] K:=by
 refine ag [] 0 Tryz.func139 (by rfl) (by rfl) ?_;(conv=>whnf);(repeat (refine aa [] ?_;conv=>whnf))
 have h':ah Tryz.prog 150 [.str s,.str ⟨#[46]⟩] [] fun o ob=>o= .ret (.aQ [.str (az ((sB s).takeWhile (· !=46))),.str (az (((sB s).dropWhile (· !=46)).drop 1)),.bool ((sB s).contains 46)])/\ob=[]:=by
  refine ag [] 0 Tryz.func150 (by rfl) (by rfl) ?_;(conv=>whnf);(repeat (refine aa [] ?_;conv=>whnf))
  refine Hs s _ ?_;(conv=>whnf);(repeat (refine aa [] ?_;conv=>whnf))
  cases hf:(List.range s.size).find? (fun i=>s[i]! ==46) with
  | none=>
    obtain ⟨e1,e2,e3⟩:=LM (Fb hf)
    rw [show ((46:UInt8).toNat:Int)=46 from rfl] at e1 e2 e3
    rw [show yz s 46= -1 by unfold yz;rw [hf]]
    (conv=>whnf);(repeat (refine aa [] ?_;conv=>whnf))
    rw [e1,e2,e3]
    exact ⟨by rw [gk];rfl,rfl⟩
  | some i=>
    obtain ⟨hi,h1,h2⟩:=Fa hf
    obtain ⟨e1,e2,e3⟩:=LL h1 h2
    rw [show ((46:UInt8).toNat:Int)=46 from rfl] at e1 e2 e3
    rw [show yz s 46=(i:Int) by unfold yz;rw [hf]]
    (conv=>whnf);(repeat (refine aa [] ?_;conv=>whnf))
    (refine ⟨by decide+kernel,?_⟩;conv=>whnf)
    have w:IntKind.i64.wrap ((i:Int)+1)=((i+1:Nat):Int):=by rw [wrap64 (by omega) (by omega)];omega
    have w':IntKind.i64.wrap ((i:Int)+((ByteArray.mk #[46]).size:Int))=((i+1:Nat):Int):=w
    (repeat first | (refine aa [] ?_;conv=>whnf) | (refine And.intro rfl ?_;conv=>whnf) | (refine And.intro (by omega) ?_;conv=>whnf))
    rw [w']
    (repeat first | (refine aa [] ?_;conv=>whnf) | (refine And.intro rfl ?_;conv=>whnf) | (refine And.intro (by omega) ?_;conv=>whnf))
    refine ⟨?_,rfl⟩
    rw [mj s (l:=(sB s).takeWhile (· !=46)) (by rw [e1];simp),mj s (l:=((sB s).dropWhile (· !=46)).drop 1) (by rw [e2,List.take_of_length_le (by rw [bh];omega)];simp),e3]
 refine ah.mono ?_ h'
 rintro _ _ ⟨rfl,rfl⟩
 (conv=>whnf);(repeat (refine aa [] ?_;conv=>whnf))
 exact h
def dD (l:List Int):List Int:=(l.reverse.dropWhile (· ==48)).reverse
theorem jW (l:List Int) (x:Int):dD (l++[x])=if x=48 then dD l else l++[x]:=by
 unfold dD
 rw [List.reverse_append,List.reverse_singleton,List.singleton_append,List.dropWhile_cons]
 by_cases h:x=48<;>simp [h]
end B8
namespace B9
open Go Go.Proofs VL B1 D1 B2 B3 B4 B5 B6 B7 B8
theorem Ht (k:Nat) (hk:k<=60) (K) (h:K (.ret (.str (az (List.replicate k 48)))) []):ah Tryz.prog 142 [.str ⟨#[48]⟩,.int .i64 (k:Int)] [] K:=by
 refine ag [] 0 Tryz.func142 (by rfl) (by rfl) ?_;(conv=>whnf);(repeat (refine aa [] ?_;conv=>whnf))
 refine two (fun g=> ?_) (fun g=> ?_)
 · have g:k=0:=by have:=beq_iff_eq.1 g;omega
   subst g
   (conv=>whnf);(repeat (refine aa [] ?_;conv=>whnf))
   exact h
 · have g:k≠0:=by simpa using g
   (conv=>whnf);(repeat (refine aa [] ?_;conv=>whnf))
   refine two (fun g2=> ?_) (fun g2=> ?_)
   · have g2:k=1:=by have:=beq_iff_eq.1 g2;omega
     subst g2
     (conv=>whnf);(repeat (refine aa [] ?_;conv=>whnf))
     exact h
   · have g2:k≠1:=by intro e;subst e;simp at g2
     (conv=>whnf);(repeat (refine aa [] ?_;conv=>whnf))
     rw [show IntKind.u64.wrap ((ByteArray.mk #[48]).size:Int)=((1:Nat):Int) from gp (by decide) (by decide),gp (x:=(k:Int)) (by omega) (by omega)]
     refine Pl 1 k (by omega) (by omega) _ ?_;(conv=>whnf);(repeat (refine aa [] ?_;conv=>whnf))
     rw [Nat.one_mul,Nat.div_eq_of_lt (by omega),Nat.mod_eq_of_lt (by omega)]
     (repeat first | (refine aa [] ?_;conv=>whnf) | (refine no (by rfl) ?_;conv=>whnf) | (refine yes (by rfl) ?_;conv=>whnf))
     refine no (decide_eq_false (by omega)) ?_;(conv=>whnf);(repeat (refine aa [] ?_;conv=>whnf))
     (repeat first | (refine aa [] ?_;conv=>whnf) | (refine no (by rfl) ?_;conv=>whnf) | (refine yes (by rfl) ?_;conv=>whnf))
     rw [wrap64 (x:=(k:Int)) (by omega) (by omega)]
     (repeat first | (refine aa [] ?_;conv=>whnf) | (refine no (by rfl) ?_;conv=>whnf) | (refine yes (by rfl) ?_;conv=>whnf))
     refine aU (x:=48) (by omega) (by decide+kernel) fun c hc=> ?_
     rw [hc];(conv=>whnf);(repeat (refine aa [] ?_;conv=>whnf))
     (repeat first | (refine aa [] ?_;conv=>whnf) | (refine no (by rfl) ?_;conv=>whnf) | (refine yes (by rfl) ?_;conv=>whnf))
     refine yes (decide_eq_true (by omega)) ?_;(conv=>whnf);(repeat (refine aa [] ?_;conv=>whnf))
     refine Cs _ _ _ ?_;(conv=>whnf);(repeat (refine aa [] ?_;conv=>whnf))
     refine yes (decide_eq_true (by omega)) ?_;(conv=>whnf);(repeat (refine aa [] ?_;conv=>whnf))
     refine Cs _ _ _ ?_;(conv=>whnf);(repeat (refine aa [] ?_;conv=>whnf))
     refine yes (decide_eq_true (by omega)) ?_;(conv=>whnf);(repeat (refine aa [] ?_;conv=>whnf))
     refine Cs _ _ _ ?_;(conv=>whnf);(repeat (refine aa [] ?_;conv=>whnf))
     refine ⟨by omega,by omega,Int.le_trans (b:=64) (by omega) (by decide+kernel),?_⟩;(conv=>whnf);(repeat (refine aa [] ?_;conv=>whnf))
     rw [mj _ (l:=List.replicate k 48)]
     · exact h
     · rw [Int.toNat_natCast,show Int.toNat 0=0 from rfl,List.drop_zero]
       have e: ∀(l:List Int),l=List.replicate 64 48->l.take k=List.replicate k 48:=fun l e=>by rw [e,List.take_replicate,Nat.min_eq_left (by omega)]
       exact e _ (by decide+kernel)
end B9
namespace eG
open Go Go.Proofs VL B1 D1 B2 B3 B4 B5 B6 B7 B8 B9
def qq (v:Int):List Int:=if v<0 then [45] else []
def eP (v:Int):List Int:=qq v++dg (v.natAbs/100)++[46]++fL 2 (v.natAbs %100)
def ed (r:Nat):List Int:=if r=0 then [] else 46::dD (fL 7 r)
def ct (v:Int):List Int:=qq v++dg (v.natAbs/10000000)++ed (v.natAbs %10000000)++[37]
def bM (v:Int):Prop:= -9223372036854775808<=v/\v<9223372036854775808
theorem AG (v:Int): ∀x∈qq v,0<=x/\x<256:=by unfold qq;split<;>simp
theorem yD {s:ByteArray} {l:List Int} (h:sB s=l):s=az l:=by rw [←h,gk]
theorem aI (l:List Int):(az l).size=l.length:=bO l
theorem ml: ∀(w n:Nat),0<w->n<10^w->List.replicate (w - (dg n).length) 48++dg n=fL w n
 | w+1,n,_,h=>by
   by_cases h0:10^w<=n
   · have h1:=xk w n h0
     rw [show w+1 - (dg n).length=0 by omega,ve w n h0 h];rfl
   · by_cases hw:w=0
     · subst hw;rw [show n=0 by simp at h0;omega];simp [fI,fL]
     · have ih:=ml w n (by omega) (by omega)
       have hl:=ov (w - 1) n (by rw [Nat.sub_add_cancel (by omega)];omega)
       have:fL (w+1) n=48::fL w n:=by
        rw [Nat.add_comm,rK,Nat.div_eq_of_lt (by omega)];rfl
       rw [this, ←ih,show w+1 - (dg n).length=(w - (dg n).length)+1 by omega,List.replicate_succ];rfl
def DL (n v:Nat):List Int:=List.replicate (n - (dg v).length) 48++dg v
theorem eQ {a b:Nat} (h:a+b<1000000):(((a+b:Nat):Int)<=IntKind.i64.max):=Int.le_trans (b:=1000000) (by omega) (by decide)
theorem xl (l:List Int):(dD l).length<=l.length:=by
 unfold dD
 rw [List.length_reverse]
 have:=(List.dropWhile_sublist (fun x:Int=>x==48) (l:=l.reverse)).length_le
 simpa using this
end eG
namespace zh
open Go Go.Proofs VL B1 D1 B2 B3 B4 B5 B6 B7 B8 B9 eG
theorem bG (b:Bool) (e:Int) (K) (h0:b=true->K (.ret (.aQ [])) []) (h1:b=false->K (.dw (.jl 166 (.agg [.int .i64 e]))) []):ah Tryz.prog 137 [.bool b,.int .i64 e] [] K:=by
 refine ag [] 0 Tryz.func137 (by rfl) (by rfl) ?_;(conv=>whnf);(repeat (refine aa [] ?_;conv=>whnf))
 refine two (fun g=> ?_) (fun g=> ?_)
 · (conv=>whnf);(repeat (refine aa [] ?_;conv=>whnf))
   exact h1 (by simpa using g)
 · (conv=>whnf);(repeat (refine aa [] ?_;conv=>whnf))
   exact h0 (by simpa using g)
theorem Ct (v:Int) (K) (h:K (.ret (.bool (decide (-1000000000000000<=v/\v<=1000000000000000)))) []):ah Tryz.prog 143 [.int .i64 v] [] K:=by
 refine ag [] 0 Tryz.func143 (by rfl) (by rfl) ?_;(conv=>whnf);(repeat (refine aa [] ?_;conv=>whnf))
 refine two (fun g=> ?_) (fun g=> ?_)
 · have g: -1000000000000000<=v:=by simpa using g
   (conv=>whnf);(repeat (refine aa [] ?_;conv=>whnf))
   rw [show decide (-1000000000000000<=v/\v<=1000000000000000)=decide (v<=1000000000000000) by simp [g]] at h
   exact h
 · have g: ¬ -1000000000000000<=v:=by simpa using g
   (conv=>whnf);(repeat (refine aa [] ?_;conv=>whnf))
   rw [show decide (-1000000000000000<=v/\v<=1000000000000000)=false by simp [g]] at h
   exact h
theorem gY (x y:Int) (K) (h:K false [.cells true 2 [.int .i64 x],.cells true 29 [.int .i64 y]]):iP Tryz.prog 135 [.ptr 0 0,.ptr 1 0] [.cells true 2 [.int .i64 x],.cells true 29 [.int .i64 y]] none K:=by
 refine eM [] 2 Tryz.func135 (by rfl) (by rfl) ?_
 conv=>whnf
 refine ⟨rfl,?_⟩
 (conv=>whnf);(repeat (refine aa [] ?_;conv=>whnf))
 exact h
theorem bC (x y e:Int) (K) (h:K true [.cells true 2 [.int .i64 0],.cells true 29 [.int .i64 e]]):iP Tryz.prog 135 [.ptr 0 0,.ptr 1 0] [.cells true 2 [.int .i64 x],.cells true 29 [.int .i64 y]] (some (.jl 166 (.agg [.int .i64 e]))) K:=by
 refine eM [] 2 Tryz.func135 (by rfl) (by rfl) ?_
 conv=>whnf
 refine ⟨rfl,?_⟩
 (conv=>whnf);(repeat (refine aa [] ?_;conv=>whnf))
 (refine ⟨by decide+kernel,?_⟩;conv=>whnf)
 (repeat (refine And.intro rfl ?_;conv=>whnf))
 exact h
def AH (l:List Int) (n:Nat):Prop:=1<=l.length/\l.length<=n/\ ∀x∈l,cw x
instance (l n):Decidable (AH l n):=inferInstanceAs (Decidable (_/\_/\_))
def sat (v:Nat):Nat:=min v 100000000000000000
theorem Hu (v d:Nat) (hd:d<=9):min (10*min (sat v) 10000000000000000+d) 100000000000000000=sat (10*v+d):=by unfold sat;omega
theorem J5 {l:List Int} {i:Nat} (hi:i<l.length):vl (l.take (i+1))=10*vl (l.take i)+(l[i] - 48).toNat:=by
 rw [List.take_succ_eq_append_getElem hi,cX]
theorem mm {x:Int} (h:0<=x) (h2:x<256):IntKind.u8.wrap x=x:=by rw [MR];omega
theorem gq (l:List Int) (hb: ∀x∈l,0<=x/\x<256) (hl:l.length<1000000) (n:Nat) (hn:n<1000) (K) (h0:AH l n->K (.ret (.int .i64 (sat (vl l):Nat))) [])
 (h1: ¬AH l n->K (.dw (.jl 166 (.agg [.int .i64 4]))) []):ah Tryz.prog 141 [.str (az l),.int .i64 (n:Int)] [] K:=by
 have Bl:=yB l
 refine ag [] 0 Tryz.func141 (by rfl) (by rfl) ?_;(conv=>whnf);(repeat (refine aa [] ?_;conv=>whnf))
 refine two (fun g=> ?_) (fun g=> ?_)
 all_goals have g':=g
 all_goals simp [aI] at g
 · (conv=>whnf);(repeat (refine aa [] ?_;conv=>whnf))
   refine bG _ _ _ (fun g2=> ?_) (fun g2=> ?_)
   case refine_2=>
    have g2:n<l.length:=by simp [aI] at g2;omega
    (conv=>whnf);(repeat (refine aa [] ?_;conv=>whnf))
    exact h1 fun h=>by have:=h.2.1;omega
   have g2:l.length<=n:=by simp [aI] at g2;omega
   (conv=>whnf);(repeat (refine aa [] ?_;conv=>whnf))
   rw [←u0 hb]
   let S:Nat->St:=fun i=>⟨(.str (az l):: .int .i64 (n:Int):: .undef:: .undef:: .undef:: .int .i64 (sat (vl (l.take i)):Nat):: .undef:: .undef:: .undef:: .undef:: .undef:: .undef:: .undef:: .undef:: .undef:: .undef:: .undef:: .undef:: .undef:: .sl (bL l) .no:: .int .i64 l.length:: .int .i64 i:: .undef:: .undef:: .undef:: .undef:: .undef:: .undef:: .undef:: .undef:: .undef:: .undef:: .undef:: .undef:: .undef:: .undef:: .undef:: .undef:: .undef:: .undef:: .undef:: .undef::[]),[],0,[]⟩
   refine aA.enter (s':=S 0) (ae ?_ .nil rfl rfl rfl) (aA.dC S (fun i=>l.length - i) (fun i=>i<=l.length/\ ∀j,(h:j<i)->(h':j<l.length)->cw l[j]) ?_ 0 ⟨by omega,fun j h=>by omega⟩)
   · repeat' first
      | exact aq.nil
      | refine aq.cons VW.undef ?_
      | refine aq.cons (VW.eq rfl) ?_
      | refine aq.cons (VW.eq (by rw [Bl])) ?_
   rintro i ⟨hi,hd⟩ ih
   refine ai [] ?_;(conv=>whnf);(repeat (refine aa [] ?_;conv=>whnf))
   refine two (fun g3=> ?_) (fun g3=> ?_)
   · have cV:i<l.length:=by simp at g3;omega
     have aD:(bL l)[(i:Int).toNat]? =some (.int .u8 (l[i])):=by rw [Int.toNat_natCast,yC,List.getElem?_eq_getElem cV];rfl
     have wu:=hb l[i] (List.getElem_mem cV)
     (conv=>whnf);(repeat (refine aa [] ?_;conv=>whnf))
     refine ⟨by omega,_,aD,rfl,?_⟩;(conv=>whnf);(repeat (refine aa [] ?_;conv=>whnf))
     have Fc: ¬cw l[i]->K (Out.dw (.jl 166 (.agg [.int .i64 4]))) []:=fun h=>h1 fun hk=>h (hk.2.2 _ (List.getElem_mem cV))
     refine two (fun g4=> ?_) (fun g4=> ?_)
     · have g4:48<=l[i]:=by simpa using g4
       (conv=>whnf);(repeat (refine aa [] ?_;conv=>whnf))
       refine bG _ _ _ (fun g5=> ?_) (fun g5=> ?_)
       case refine_2=>
        have g5:57<l[i]:=by simpa using g5
        (conv=>whnf);(repeat (refine aa [] ?_;conv=>whnf))
        exact Fc fun h=>by unfold cw at h;omega
       have g5:l[i]<=57:=by simpa using g5
       (conv=>whnf);(repeat (refine aa [] ?_;conv=>whnf))
       refine ⟨rfl,?_⟩;(conv=>whnf);(repeat (refine aa [] ?_;conv=>whnf))
       refine ⟨rfl,?_⟩;(conv=>whnf);(repeat (refine aa [] ?_;conv=>whnf))
       refine ⟨S (i+1),ae ?_ .nil rfl rfl rfl,ih (i+1) ⟨by omega,fun j hj Gw=> ?_⟩ (by omega)⟩
       · have e:(if (100000000000000000:Int)<IntKind.i64.wrap (IntKind.i64.wrap (10*(if (10000000000000000:Int)<((sat (vl (l.take i)):Nat):Int) then (10000000000000000:Int) else ((sat (vl (l.take i)):Nat):Int)))+IntKind.i64.wrap (IntKind.u8.wrap (l[i] - 48))) then (100000000000000000:Int) else IntKind.i64.wrap (IntKind.i64.wrap (10*(if (10000000000000000:Int)<((sat (vl (l.take i)):Nat):Int) then (10000000000000000:Int) else ((sat (vl (l.take i)):Nat):Int)))+IntKind.i64.wrap (IntKind.u8.wrap (l[i] - 48))))=((sat (vl (l.take (i+1))):Nat):Int):=by
          rw [J5 cV, ←Hu _ _ (by omega)]
          have hs:sat (vl (l.take i))<=100000000000000000:=by unfold sat;omega
          generalize sat (vl (l.take i))=q at hs
          rw [mm (by omega) (by omega),wrap64 (x:=l[i] - 48) (by omega) (by omega)]
          have e1:(if (10000000000000000:Int)<((q:Nat):Int) then (10000000000000000:Int) else ((q:Nat):Int))=((min q 10000000000000000:Nat):Int):=by split<;>omega
          rw [e1,wrap64 (x:=10*((min q 10000000000000000:Nat):Int)) (by omega) (by omega),wrap64 (by omega) (by omega)]
          split<;>omega
         repeat' first
          | exact aq.nil
          | refine aq.cons VW.undef ?_
          | refine aq.cons (VW.eq rfl) ?_
          | refine aq.cons (VW.eq (congrArg (V.int .i64) (by rw [wrap64 (by omega) (by omega)];omega))) ?_
          | refine aq.cons (VW.eq (congrArg (V.int .i64) e)) ?_
       · by_cases v_:j<i
         · exact hd j v_ Gw
         · have:j=i:=by omega
           subst this
           exact ⟨g4,g5⟩
     · have g4:l[i]<48:=by simpa using g4
       (conv=>whnf);(repeat (refine aa [] ?_;conv=>whnf))
       refine bG _ _ _ (fun g5=>by cases g5) (fun g5=> ?_)
       (conv=>whnf);(repeat (refine aa [] ?_;conv=>whnf))
       exact Fc fun h=>by unfold cw at h;omega
   · have cV:i=l.length:=by simp at g3;omega
     subst cV
     (conv=>whnf);(repeat (refine aa [] ?_;conv=>whnf))
     refine ⟨_,aB.refl,?_⟩;(conv=>whnf);(repeat (refine aa [] ?_;conv=>whnf))
     rw [List.take_length]
     refine h0 ⟨by omega,g2,fun x hx=> ?_⟩
     obtain ⟨j,hj,rfl⟩:=List.mem_iff_getElem.1 hx
     exact hd j hj hj
 · (conv=>whnf);(repeat (refine aa [] ?_;conv=>whnf))
   refine bG _ _ _ (fun g5=>by cases g5) (fun g5=> ?_)
   (conv=>whnf);(repeat (refine aa [] ?_;conv=>whnf))
   exact h1 fun hk=>by have:=hk.1;omega
end zh
namespace kb
open Go Go.Proofs VL B1 D1 B2 B3 B4 B5 B6 B7 B8 B9 eG zh
def mn (l:List Int):Prop:=AH l 20/\(l.length=1\/l.head?≠some 48)
instance (l):Decidable (mn l):=inferInstanceAs (Decidable (_/\_))
theorem tw (l:List Int) (hb: ∀x∈l,0<=x/\x<256) (hl:l.length<1000000) (K) (h0:mn l->K (.ret (.int .i64 (sat (vl l):Nat))) [])
 (h1: ¬mn l->K (.dw (.jl 166 (.agg [.int .i64 4]))) []):ah Tryz.prog 140 [.str (az l)] [] K:=by
 refine ag [] 0 Tryz.func140 (by rfl) (by rfl) ?_;(conv=>whnf);(repeat (refine aa [] ?_;conv=>whnf))
 refine gq l hb hl 20 (by omega) _ (fun g=> ?_) (fun g=> ?_)
 case refine_2=>(conv=>whnf);(repeat (refine aa [] ?_;conv=>whnf));exact h1 fun h=>g h.1
 (conv=>whnf);(repeat (refine aa [] ?_;conv=>whnf))
 refine two (fun g2=> ?_) (fun g2=> ?_)
 · have g2:l.length=1:=by have:=beq_iff_eq.1 g2;rw [aI] at this;omega
   (conv=>whnf);(repeat (refine aa [] ?_;conv=>whnf))
   refine bG _ _ _ (fun g5=> ?_) (fun g5=>by cases g5)
   (conv=>whnf);(repeat (refine aa [] ?_;conv=>whnf))
   exact h0 ⟨g,.inl g2⟩
 · have g2:l.length≠1:=by intro e;rw [aI,e] at g2;simp at g2
   have Dq:=g.1
   obtain ⟨x,r,rfl⟩: ∃x r,l=x::r:=by cases l with | nil=>simp at Dq | cons x r=>exact ⟨x,r,rfl⟩
   (conv=>whnf);(repeat (refine aa [] ?_;conv=>whnf))
   refine aU (x:=x) (by omega) (by rw [aT hb];rfl) fun c hc=> ?_
   rw [hc];(conv=>whnf);(repeat (refine aa [] ?_;conv=>whnf))
   refine bG _ _ _ (fun g5=> ?_) (fun g5=> ?_)
   · have g5:x≠48:=by simpa using g5
     (conv=>whnf);(repeat (refine aa [] ?_;conv=>whnf))
     exact h0 ⟨g,.inr (by simpa using g5)⟩
   · have g5:x=48:=by simpa using g5
     (conv=>whnf);(repeat (refine aa [] ?_;conv=>whnf))
     exact h1 fun h=>by
      rcases h.2 with h | h
      · exact g2 h
      · simp [g5] at h
def bN (t:List Int):List Int:=t.takeWhile (· !=46)
def behind (t:List Int):List Int:=(t.dropWhile (· !=46)).drop 1
def bq (l:List Int):List Int:=if dJ l [45] then l.drop 1 else l
def mo (t:List Int):Prop:=t.contains 46=true/\(behind t).length=2/\mn (bN t)/\AH (behind t) 2
instance (l):Decidable (mo l):=inferInstanceAs (Decidable (_/\_/\_/\_))
def dU (t:List Int):Nat:=vl (bN t)*100+vl (behind t)
def bT (l:List Int):Int × Int:=
 if ¬mo (bq l) then (0,4) else
 if dJ l [45]=true/\dU (bq l)=0 then (0,4) else
 if 1000000000000000<dU (bq l) then (0,3) else
 (if dJ l [45]=true then -(dU (bq l):Int) else (dU (bq l):Int),0)
theorem rM {l:List Int} (h: ∀x∈l,0<=x/\x<256): ∀x∈bq l,0<=x/\x<256:=by
 unfold bq;split
 · exact fun x hx=>h x (List.mem_of_mem_drop hx)
 · exact h
theorem vj (l:List Int):(bq l).length<=l.length:=by unfold bq;split<;>simp
theorem xm (t:List Int): ∀x∈bN t,x∈t:=fun x hx=>(List.takeWhile_sublist _).subset hx
theorem vn (t:List Int): ∀x∈behind t,x∈t:=fun x hx=>(List.dropWhile_sublist _).subset (List.mem_of_mem_drop hx)
theorem xn (t:List Int):(bN t).length<=t.length:=(List.takeWhile_sublist _).length_le
theorem vo (t:List Int):(behind t).length<=t.length:=by
 unfold behind;rw [List.length_drop]
 have:=(List.dropWhile_sublist (fun x:Int=>x !=46) (l:=t)).length_le
 omega
theorem MU {l:List Int} (h:l.length=2) (hd: ∀x∈l,cw x):vl l<100:=by have:=mY l hd;rw [h] at this;omega
set_option maxHeartbeats 4000000 in
theorem DM (s:ByteArray) (hs:s.size<1000000) (K) (h:K (.ret (.aQ [.int .i64 (bT (sB s)).1,.int .i64 (bT (sB s)).2])) []):ah Tryz.prog 126 [.str s] [] K:=by
 have hb:=kA s
 have hl:=bh s
 have DN:=rM hb
 have Qq:=vj (sB s)
 have N_: ∀x∈bN (bq (sB s)),0<=x/\x<256:=fun x hx=>DN x (xm _ x hx)
 have MV: ∀x∈behind (bq (sB s)),0<=x/\x<256:=fun x hx=>DN x (vn _ x hx)
 have se:=xn (bq (sB s))
 have Bl:=vo (bq (sB s))
 have dV: ¬mo (bq (sB s))->K (.ret (.aQ [.int .i64 0,.int .i64 4])) []:=fun hn=>by
  have:bT (sB s)=(0,4):=by unfold bT;rw [if_pos hn]
  rw [this] at h;exact h
 refine ah.dv (ag [] 0 Tryz.func126 (by rfl) (by rfl) ?_)
 (conv=>whnf);(repeat (refine aa [] ?_;conv=>whnf))
 refine Hr s _ _ ?_;(conv=>whnf);(repeat (refine aa [] ?_;conv=>whnf))
 rw [show sB (ByteArray.mk #[45])=[45] from rfl]
 rw [show (if dJ (sB s) [45]=true then List.drop [(45:Int)].length (sB s) else sB s)=bq (sB s) from rfl]
 refine LN _ (by rw [aI];omega) _ ?_;(conv=>whnf);(repeat (refine aa [] ?_;conv=>whnf))
 rw [aT DN]
 rw [show List.takeWhile (fun x=>x !=46) (bq (sB s))=bN (bq (sB s)) from rfl,show List.drop 1 (List.dropWhile (fun x=>x !=46) (bq (sB s)))=behind (bq (sB s)) from rfl]
 refine two (fun g=> ?_) (fun g=> ?_)
 case refine_2=>
  (conv=>whnf);(repeat (refine aa [] ?_;conv=>whnf))
  refine bG _ _ _ (fun g5=>by cases g5) (fun g5=> ?_)
  (conv=>whnf);(repeat first | (refine aa [] ?_;conv=>whnf) | (refine bC _ _ _ _ ?_;conv=>whnf))
  exact ⟨_,_,aB.refl,dV fun hk=>by rw [hk.1] at g;cases g⟩
 (conv=>whnf);(repeat (refine aa [] ?_;conv=>whnf))
 refine bG _ _ _ (fun g2=> ?_) (fun g2=> ?_)
 case refine_2=>
  (conv=>whnf);(repeat first | (refine aa [] ?_;conv=>whnf) | (refine bC _ _ _ _ ?_;conv=>whnf))
  exact ⟨_,_,aB.refl,dV fun hk=>by rw [aI,hk.2.1] at g2;cases g2⟩
 have g2:(behind (bq (sB s))).length=2:=by have:=beq_iff_eq.1 g2;rw [aI] at this;omega
 (conv=>whnf);(repeat (refine aa [] ?_;conv=>whnf))
 refine tw _ N_ (by omega) _ (fun g3=> ?_) (fun g3=> ?_)
 case refine_2=>
  (conv=>whnf);(repeat first | (refine aa [] ?_;conv=>whnf) | (refine bC _ _ _ _ ?_;conv=>whnf))
  exact ⟨_,_,aB.refl,dV fun hk=>g3 hk.2.2.1⟩
 (conv=>whnf);(repeat (refine aa [] ?_;conv=>whnf))
 refine gq _ MV (by omega) 2 (by omega) _ (fun g4=> ?_) (fun g4=> ?_)
 case refine_2=>
  (conv=>whnf);(repeat first | (refine aa [] ?_;conv=>whnf) | (refine bC _ _ _ _ ?_;conv=>whnf))
  exact ⟨_,_,aB.refl,dV fun hk=>g4 hk.2.2.2⟩
 have c_:mo (bq (sB s)):=⟨g,g2,g3,g4⟩
 have Qh:=MU g2 g4.2.2
 have F6:sat (vl (behind (bq (sB s))))=vl (behind (bq (sB s))):=by unfold sat;omega
 have wO:sat (vl (bN (bq (sB s))))<=100000000000000000:=by unfold sat;omega
 have hN:dU (bq (sB s))=vl (bN (bq (sB s)))*100+vl (behind (bq (sB s))):=rfl
 rw [F6]
 have hzero:dJ (sB s) [45]=true->dU (bq (sB s))=0->K (.ret (.aQ [.int .i64 0,.int .i64 4])) []:=fun h1 h2=>by
  have:bT (sB s)=(0,4):=by unfold bT;rw [if_neg (by simpa using c_),if_pos ⟨h1,h2⟩]
  rw [this] at h;exact h
 have iN:(dJ (sB s) [45]=true->dU (bq (sB s))≠0)->1000000000000000<dU (bq (sB s))->K (.ret (.aQ [.int .i64 0,.int .i64 3])) []:=fun h1 h2=>by
  have:bT (sB s)=(0,3):=by unfold bT;rw [if_neg (by simpa using c_),if_neg (fun h=>h1 h.1 h.2),if_pos h2]
  rw [this] at h;exact h
 have sq:(dJ (sB s) [45]=true->dU (bq (sB s))≠0)->dU (bq (sB s))<=1000000000000000->K (.ret (.aQ [.int .i64 (if dJ (sB s) [45]=true then -(dU (bq (sB s)):Int) else (dU (bq (sB s)):Int)),.int .i64 0])) []:=fun h1 h2=>by
  have:bT (sB s)=(if dJ (sB s) [45]=true then -(dU (bq (sB s)):Int) else (dU (bq (sB s)):Int),0):=by unfold bT;rw [if_neg (by simpa using c_),if_neg (fun h=>h1 h.1 h.2),if_neg (by omega)]
  rw [this] at h;exact h
 have rest:(dJ (sB s) [45]=true->dU (bq (sB s))≠0)->True:=fun _=>trivial
 clear h c_ dV
 generalize dU (bq (sB s))=N at*
 generalize hA:vl (bN (bq (sB s)))=A at*
 generalize hB:vl (behind (bq (sB s)))=B at*
 generalize dJ (sB s) [45]=p at*
 cases p with
 | false=>
   (conv=>whnf);(repeat (refine aa [] ?_;conv=>whnf))
   refine bG _ _ _ (fun g6=> ?_) (fun g6=>by cases g6)
   (conv=>whnf);(repeat (refine aa [] ?_;conv=>whnf))
   have ki:((false:Bool)=true->N≠0):=fun h=>by cases h
   refine bG _ _ _ (fun g7=> ?_) (fun g7=> ?_)
   case refine_2=>
    have g7:10000000000000<sat A:=by have:=of_decide_eq_false g7;omega
    (conv=>whnf);(repeat first | (refine aa [] ?_;conv=>whnf) | (refine bC _ _ _ _ ?_;conv=>whnf))
    exact ⟨_,_,aB.refl,iN ki (by unfold sat at g7;omega)⟩
   have g7:sat A<=10000000000000:=by have:=of_decide_eq_true g7;omega
   have Pm:sat A=A:=by unfold sat at g7 ⊢;omega
   rw [Pm];(conv=>whnf);(repeat (refine aa [] ?_;conv=>whnf))
   rw [show IntKind.i64.wrap (IntKind.i64.wrap ((A:Int)*100)+(B:Int))=(N:Int) by rw [wrap64 (x:=(A:Int)*100) (by omega) (by omega),wrap64 (by omega) (by omega)];omega]
   refine Ct _ _ ?_;(conv=>whnf);(repeat (refine aa [] ?_;conv=>whnf))
   refine bG _ _ _ (fun g8=> ?_) (fun g8=> ?_)
   case refine_2=>
    have g8:=of_decide_eq_false g8
    (conv=>whnf);(repeat first | (refine aa [] ?_;conv=>whnf) | (refine bC _ _ _ _ ?_;conv=>whnf))
    exact ⟨_,_,aB.refl,iN ki (by omega)⟩
   have g8:=of_decide_eq_true g8
   (conv=>whnf);(repeat first | (refine aa [] ?_;conv=>whnf) | (refine gY _ _ _ ?_;conv=>whnf))
   exact ⟨_,_,aB.refl,sq ki (by omega)⟩
 | true=>
   (conv=>whnf);(repeat (refine aa [] ?_;conv=>whnf))
   refine two (fun g5=> ?_) (fun g5=> ?_)
   · have g5:0<sat A:=by have:=of_decide_eq_true g5;omega
     (conv=>whnf);(repeat (refine aa [] ?_;conv=>whnf))
     refine bG _ _ _ (fun g6=> ?_) (fun g6=>by cases g6)
     (conv=>whnf);(repeat (refine aa [] ?_;conv=>whnf))
     have ki:((true:Bool)=true->N≠0):=fun _=>by unfold sat at g5;omega
     refine bG _ _ _ (fun g7=> ?_) (fun g7=> ?_)
     case refine_2=>
      have g7:10000000000000<sat A:=by have:=of_decide_eq_false g7;omega
      (conv=>whnf);(repeat first | (refine aa [] ?_;conv=>whnf) | (refine bC _ _ _ _ ?_;conv=>whnf))
      exact ⟨_,_,aB.refl,iN ki (by unfold sat at g7;omega)⟩
     have g7:sat A<=10000000000000:=by have:=of_decide_eq_true g7;omega
     have Pm:sat A=A:=by unfold sat at g7 ⊢;omega
     rw [Pm];(conv=>whnf);(repeat (refine aa [] ?_;conv=>whnf))
     rw [show IntKind.i64.wrap (IntKind.i64.wrap ((A:Int)*100)+(B:Int))=(N:Int) by rw [wrap64 (x:=(A:Int)*100) (by omega) (by omega),wrap64 (by omega) (by omega)];omega]
     refine Ct _ _ ?_;(conv=>whnf);(repeat (refine aa [] ?_;conv=>whnf))
     refine bG _ _ _ (fun g8=> ?_) (fun g8=> ?_)
     case refine_2=>
      have g8:=of_decide_eq_false g8
      (conv=>whnf);(repeat first | (refine aa [] ?_;conv=>whnf) | (refine bC _ _ _ _ ?_;conv=>whnf))
      exact ⟨_,_,aB.refl,iN ki (by omega)⟩
     have g8:=of_decide_eq_true g8
     (conv=>whnf);(repeat first | (refine aa [] ?_;conv=>whnf) | (refine gY _ _ _ ?_;conv=>whnf))
     rw [show IntKind.i64.wrap (0 - (N:Int))= -(N:Int) by rw [wrap64 (by omega) (by omega)];omega]
     exact ⟨_,_,aB.refl,sq ki (by omega)⟩
   · have g5:sat A=0:=by have:=of_decide_eq_false g5;omega
     (conv=>whnf);(repeat (refine aa [] ?_;conv=>whnf))
     refine bG _ _ _ (fun g6=> ?_) (fun g6=> ?_)
     case refine_2=>
      have g6:B=0:=by have:=of_decide_eq_false g6;omega
      (conv=>whnf);(repeat first | (refine aa [] ?_;conv=>whnf) | (refine bC _ _ _ _ ?_;conv=>whnf))
      exact ⟨_,_,aB.refl,hzero rfl (by unfold sat at g5;omega)⟩
     have g6:0<B:=by have:=of_decide_eq_true g6;omega
     (conv=>whnf);(repeat (refine aa [] ?_;conv=>whnf))
     have ki:((true:Bool)=true->N≠0):=fun _=>by omega
     refine bG _ _ _ (fun g7=> ?_) (fun g7=> ?_)
     case refine_2=>
      have g7:10000000000000<sat A:=by have:=of_decide_eq_false g7;omega
      (conv=>whnf);(repeat first | (refine aa [] ?_;conv=>whnf) | (refine bC _ _ _ _ ?_;conv=>whnf))
      exact ⟨_,_,aB.refl,iN ki (by unfold sat at g7;omega)⟩
     have g7:sat A<=10000000000000:=by have:=of_decide_eq_true g7;omega
     have Pm:sat A=A:=by unfold sat at g7 ⊢;omega
     rw [Pm];(conv=>whnf);(repeat (refine aa [] ?_;conv=>whnf))
     rw [show IntKind.i64.wrap (IntKind.i64.wrap ((A:Int)*100)+(B:Int))=(N:Int) by rw [wrap64 (x:=(A:Int)*100) (by omega) (by omega),wrap64 (by omega) (by omega)];omega]
     refine Ct _ _ ?_;(conv=>whnf);(repeat (refine aa [] ?_;conv=>whnf))
     refine bG _ _ _ (fun g8=> ?_) (fun g8=> ?_)
     case refine_2=>
      have g8:=of_decide_eq_false g8
      (conv=>whnf);(repeat first | (refine aa [] ?_;conv=>whnf) | (refine bC _ _ _ _ ?_;conv=>whnf))
      exact ⟨_,_,aB.refl,iN ki (by omega)⟩
     have g8:=of_decide_eq_true g8
     (conv=>whnf);(repeat first | (refine aa [] ?_;conv=>whnf) | (refine gY _ _ _ ?_;conv=>whnf))
     rw [show IntKind.i64.wrap (0 - (N:Int))= -(N:Int) by rw [wrap64 (by omega) (by omega)];omega]
     exact ⟨_,_,aB.refl,sq ki (by omega)⟩
end kb
namespace kj
open Go Go.Proofs VL B1 D1 B2 B3 B4 B5 B6 B7 B8 B9 eG zh kb
def cR (l:List Int):List Int:=l.take (l.length - 1)
def rN (b:List Int):Prop:=1<=b.length/\b.length<=7/\b.getLast?≠some 48/\ ∀x∈b,cw x
instance (b):Decidable (rN b):=inferInstanceAs (Decidable (_/\_/\_/\_))
def gK (b:List Int):Nat:=vl (b++List.replicate (7 - b.length) 48)
def kS (t:List Int):Prop:=mn (bN t)/\vl (bN t)<=1000/\(t.contains 46=true->rN (behind t))
instance (l):Decidable (kS l):=inferInstanceAs (Decidable (_/\_/\(_->_)))
def dO (t:List Int):Nat:=vl (bN t)*10000000+(if t.contains 46=true then gK (behind t) else 0)
def bH (l:List Int):Int × Int:=
 if nK l [37]=true/\kS (bq (cR l))/\dO (bq (cR l))<=10000000000/\(dJ (cR l) [45]=true->0<dO (bq (cR l))) then
  (if dJ (cR l) [45]=true then -(dO (bq (cR l)):Int) else (dO (bq (cR l)):Int),0)
 else (0,4)
theorem Fe {l:List Int} (h: ∀x∈l,0<=x/\x<256): ∀x∈cR l,0<=x/\x<256:=fun x hx=>h x (List.mem_of_mem_take hx)
theorem Hv (l:List Int):(cR l).length<=l.length:=by unfold cR;simp
theorem Hw {b:List Int} {n:Nat} (h:b.length=n+1): ∃x,b[n]? =some x/\b.getLast?=some x:=by
 refine ⟨b[n],List.getElem?_eq_getElem (by omega),?_⟩
 rw [List.getLast?_eq_getElem?,show b.length - 1=n by omega,List.getElem?_eq_getElem (by omega)]
set_option maxHeartbeats 4000000 in
theorem yE (s:ByteArray) (hs:s.size<1000000) (K) (h:K (.ret (.aQ [.int .i64 (bH (sB s)).1,.int .i64 (bH (sB s)).2])) []):ah Tryz.prog 125 [.str s] [] K:=by
 have hb:=kA s
 have hl:=bh s
 have Tn:=Fe hb
 have oJ:=Hv (sB s)
 have DN:=rM Tn
 have Qq:=vj (cR (sB s))
 have dV: ¬(nK (sB s) [37]=true/\kS (bq (cR (sB s)))/\dO (bq (cR (sB s)))<=10000000000/\(dJ (cR (sB s)) [45]=true->0<dO (bq (cR (sB s)))))->K (.ret (.aQ [.int .i64 0,.int .i64 4])) []:=fun hn=>by
  have:bH (sB s)=(0,4):=by unfold bH;rw [if_neg hn]
  rw [this] at h;exact h
 have sq:(nK (sB s) [37]=true/\kS (bq (cR (sB s)))/\dO (bq (cR (sB s)))<=10000000000/\(dJ (cR (sB s)) [45]=true->0<dO (bq (cR (sB s)))))->K (.ret (.aQ [.int .i64 (if dJ (cR (sB s)) [45]=true then -(dO (bq (cR (sB s))):Int) else (dO (bq (cR (sB s))):Int)),.int .i64 0])) []:=fun hn=>by
  have:bH (sB s)=(if dJ (cR (sB s)) [45]=true then -(dO (bq (cR (sB s))):Int) else (dO (bq (cR (sB s))):Int),0):=by unfold bH;rw [if_pos hn]
  rw [this] at h;exact h
 clear h
 refine ah.dv (ag [] 0 Tryz.func125 (by rfl) (by rfl) ?_)
 (conv=>whnf);(repeat (refine aa [] ?_;conv=>whnf))
 refine MT s _ _ (by omega) ?_;(conv=>whnf);(repeat (refine aa [] ?_;conv=>whnf))
 rw [show sB (ByteArray.mk #[37])=[37] from rfl]
 refine bG _ _ _ (fun g=> ?_) (fun g=> ?_)
 case refine_2=>
  (conv=>whnf);(repeat first | (refine aa [] ?_;conv=>whnf) | (refine bC _ _ _ _ ?_;conv=>whnf))
  exact ⟨_,_,aB.refl,dV fun hk=>by rw [hk.1] at g;cases g⟩
 rw [g]
 rw [show (if true=true then List.take (s.size - (ByteArray.mk #[37]).size) (sB s) else sB s)=cR (sB s) by rw [if_pos rfl];unfold cR;rw [hl];rfl]
 (conv=>whnf);(repeat (refine aa [] ?_;conv=>whnf))
 refine Hr _ _ _ ?_;(conv=>whnf);(repeat (refine aa [] ?_;conv=>whnf))
 rw [aT Tn,show sB (ByteArray.mk #[45])=[45] from rfl]
 rw [show (if dJ (cR (sB s)) [45]=true then List.drop [(45:Int)].length (cR (sB s)) else cR (sB s))=bq (cR (sB s)) from rfl]
 generalize bq (cR (sB s))=t at*
 generalize dJ (cR (sB s)) [45]=neg at*
 have N_: ∀x∈bN t,0<=x/\x<256:=fun x hx=>DN x (xm _ x hx)
 have MV: ∀x∈behind t,0<=x/\x<256:=fun x hx=>DN x (vn _ x hx)
 have se:=xn t
 have Bl:=vo t
 refine LN _ (by rw [aI];omega) _ ?_;(conv=>whnf);(repeat (refine aa [] ?_;conv=>whnf))
 rw [aT DN]
 rw [show List.takeWhile (fun x=>x !=46) t=bN t from rfl,show List.drop 1 (List.dropWhile (fun x=>x !=46) t)=behind t from rfl]
 refine tw _ N_ (by omega) _ (fun g3=> ?_) (fun g3=> ?_)
 case refine_2=>
  (conv=>whnf);(repeat first | (refine aa [] ?_;conv=>whnf) | (refine bC _ _ _ _ ?_;conv=>whnf))
  exact ⟨_,_,aB.refl,dV fun hk=>g3 hk.2.1.1⟩
 (conv=>whnf);(repeat (refine aa [] ?_;conv=>whnf))
 refine bG _ _ _ (fun g4=> ?_) (fun g4=> ?_)
 case refine_2=>
  have g4:=of_decide_eq_false g4
  (conv=>whnf);(repeat first | (refine aa [] ?_;conv=>whnf) | (refine bC _ _ _ _ ?_;conv=>whnf))
  exact ⟨_,_,aB.refl,dV fun hk=>by have:=hk.2.1.2.1;unfold sat at g4;omega⟩
 have g4:vl (bN t)<=1000:=by have:=of_decide_eq_true g4;unfold sat at this;omega
 have RQ:sat (vl (bN t))=vl (bN t):=by unfold sat;omega
 rw [RQ];(conv=>whnf);(repeat (refine aa [] ?_;conv=>whnf))
 rw [show IntKind.i64.wrap (((vl (bN t):Nat):Int)*10000000)=((vl (bN t)*10000000:Nat):Int) by rw [wrap64 (by omega) (by omega)];omega]
 obtain ⟨W,hW⟩: ∃W,vl (bN t)*10000000=W:=⟨_,rfl⟩
 have WA:W<=10000000000:=by omega
 obtain ⟨w,hw⟩: ∃w,((W:Nat):Int)=w:=⟨_,rfl⟩
 rw [hW,hw]
 refine two (fun hp=> ?_) (fun hp=> ?_)
 · (conv=>whnf);(repeat (refine aa [] ?_;conv=>whnf))
   have Qr: ¬rN (behind t)->K (.ret (.aQ [.int .i64 0,.int .i64 4])) []:=fun hn=>dV fun hk=>hn (hk.2.1.2.2 hp)
   refine two (fun g5=> ?_) (fun g5=> ?_)
   case refine_2=>
    have g5:(behind t).length=0:=by have:=of_decide_eq_false g5;rw [aI] at this;omega
    (conv=>whnf);(repeat (refine aa [] ?_;conv=>whnf))
    refine bG _ _ _ (fun g7=>by cases g7) (fun g7=> ?_)
    (conv=>whnf);(repeat first | (refine aa [] ?_;conv=>whnf) | (refine bC _ _ _ _ ?_;conv=>whnf))
    exact ⟨_,_,aB.refl,Qr fun hk=>by have:=hk.1;omega⟩
   have g5:1<=(behind t).length:=by have:=of_decide_eq_true g5;rw [aI] at this;omega
   (conv=>whnf);(repeat (refine aa [] ?_;conv=>whnf))
   refine two (fun g6=> ?_) (fun g6=> ?_)
   case refine_2=>
    have g6:7<(behind t).length:=by have:=of_decide_eq_false g6;rw [aI] at this;omega
    (conv=>whnf);(repeat (refine aa [] ?_;conv=>whnf))
    refine bG _ _ _ (fun g7=>by cases g7) (fun g7=> ?_)
    (conv=>whnf);(repeat first | (refine aa [] ?_;conv=>whnf) | (refine bC _ _ _ _ ?_;conv=>whnf))
    exact ⟨_,_,aB.refl,Qr fun hk=>by have:=hk.2.1;omega⟩
   have g6:(behind t).length<=7:=by have:=of_decide_eq_true g6;rw [aI] at this;omega
   obtain ⟨n,hn⟩: ∃n,(behind t).length=n+1:=⟨(behind t).length - 1,by omega⟩
   obtain ⟨x,Dm,Cu⟩:=Hw hn
   (conv=>whnf);(repeat (refine aa [] ?_;conv=>whnf))
   rw [aI,show IntKind.i64.wrap (((behind t).length:Int) - 1)=(n:Int) by rw [wrap64 (by omega) (by omega)];omega]
   refine aU (x:=x) (by omega) (by rw [aT MV,Int.toNat_natCast];exact Dm) fun c hc=> ?_
   rw [hc];(conv=>whnf);(repeat (refine aa [] ?_;conv=>whnf))
   refine bG _ _ _ (fun g7=> ?_) (fun g7=> ?_)
   case refine_2=>
    have g7:x=48:=by simpa using g7
    (conv=>whnf);(repeat first | (refine aa [] ?_;conv=>whnf) | (refine bC _ _ _ _ ?_;conv=>whnf))
    exact ⟨_,_,aB.refl,Qr fun hk=>hk.2.2.1 (by rw [Cu,g7])⟩
   have g7:x≠48:=by simpa using g7
   (conv=>whnf);(repeat (refine aa [] ?_;conv=>whnf))
   (refine ⟨by decide+kernel,?_⟩;conv=>whnf)
   rw [aI,show IntKind.i64.wrap (7 - ((behind t).length:Int))=((7 - (behind t).length:Nat):Int) by rw [wrap64 (by omega) (by omega)];omega]
   refine Ht _ (by omega) _ ?_;conv=>whnf
   (repeat (refine And.intro rfl ?_;conv=>whnf))
   refine ⟨by rw [aI,aI];refine eQ ?_;simp;omega,?_⟩
   rw [c9];conv=>whnf
   have UQ: ∀x∈behind t++List.replicate (7 - (behind t).length) 48,0<=x/\x<256:=fun x hx=>by
    rcases List.mem_append.1 hx with hx | hx
    · exact MV x hx
    · rw [(List.mem_replicate.1 hx).2];omega
   have BJ:(behind t++List.replicate (7 - (behind t).length) 48).length=7:=by simp;omega
   refine gq _ UQ (by omega) 7 (by omega) _ (fun g8=> ?_) (fun g8=> ?_)
   case refine_2=>
    (conv=>whnf);(repeat first | (refine aa [] ?_;conv=>whnf) | (refine bC _ _ _ _ ?_;conv=>whnf))
    exact ⟨_,_,aB.refl,Qr fun hk=>g8 ⟨by omega,by omega,fun y hy=>by
     rcases List.mem_append.1 hy with hy | hy
     · exact hk.2.2.2 y hy
     · rw [(List.mem_replicate.1 hy).2];unfold cw;omega⟩⟩
   have Mk:rN (behind t):=⟨g5,g6,fun h=>by rw [Cu] at h;exact g7 (Option.some.inj h),fun y hy=>g8.2.2 y (List.mem_append_left _ hy)⟩
   have UR:=mY _ g8.2.2
   rw [BJ] at UR
   have US:sat (vl (behind t++List.replicate (7 - (behind t).length) 48))=gK (behind t):=by unfold sat gK;omega
   have UT:gK (behind t)<10000000:=by unfold gK;omega
   rw [US];conv=>whnf
   (repeat (refine And.intro rfl ?_;conv=>whnf))
   have hN:dO t=W+gK (behind t):=by unfold dO;rw [if_pos hp,hW]
   have c_:kS t:=⟨g3,g4,fun _=>Mk⟩
   obtain ⟨N,RR⟩: ∃N,W+gK (behind t)=N:=⟨_,rfl⟩
   rw [RR] at hN
   rw [show IntKind.i64.wrap (w+((gK (behind t):Nat):Int))=((N:Nat):Int) by rw [wrap64 (by omega) (by omega)];omega]
   obtain ⟨w,hw⟩: ∃w,((N:Nat):Int)=w:=⟨_,rfl⟩
   rw [hw]
   (repeat (refine aa [] ?_;conv=>whnf))
   refine two (fun g6=> ?_) (fun g6=> ?_)
   case refine_2=>
    have g6:10000000000<N:=by have:=of_decide_eq_false g6;omega
    (conv=>whnf);(repeat (refine aa [] ?_;conv=>whnf))
    refine bG _ _ _ (fun g7=>by cases g7) (fun g7=> ?_)
    (conv=>whnf);(repeat first | (refine aa [] ?_;conv=>whnf) | (refine bC _ _ _ _ ?_;conv=>whnf))
    exact ⟨_,_,aB.refl,dV fun hk=>by have:=hk.2.2.1;omega⟩
   have g6:N<=10000000000:=by have:=of_decide_eq_true g6;omega
   cases neg with
   | false=>
     (conv=>whnf);(repeat (refine aa [] ?_;conv=>whnf))
     refine bG _ _ _ (fun g7=> ?_) (fun g7=>by cases g7)
     (conv=>whnf);(repeat first | (refine aa [] ?_;conv=>whnf) | (refine gY _ _ _ ?_;conv=>whnf))
     have:=sq ⟨g,c_,by omega,fun h=>by cases h⟩
     rw [hN,hw] at this
     exact ⟨_,_,aB.refl,this⟩
   | true=>
     (conv=>whnf);(repeat (refine aa [] ?_;conv=>whnf))
     refine bG _ _ _ (fun g7=> ?_) (fun g7=> ?_)
     case refine_2=>
      have g7:N=0:=by have:=of_decide_eq_false g7;omega
      (conv=>whnf);(repeat first | (refine aa [] ?_;conv=>whnf) | (refine bC _ _ _ _ ?_;conv=>whnf))
      exact ⟨_,_,aB.refl,dV fun hk=>by have:=hk.2.2.2 rfl;omega⟩
     have g7:0<N:=by have:=of_decide_eq_true g7;omega
     (conv=>whnf);(repeat first | (refine aa [] ?_;conv=>whnf) | (refine gY _ _ _ ?_;conv=>whnf))
     rw [show IntKind.i64.wrap (0 - w)= -w by rw [wrap64 (by omega) (by omega)];omega]
     have:=sq ⟨g,c_,by omega,fun _=>by omega⟩
     rw [hN,hw] at this
     exact ⟨_,_,aB.refl,this⟩
 · have hN:dO t=W:=by unfold dO;rw [if_neg (by rw [hp];decide),hW];rfl
   have c_:kS t:=⟨g3,g4,fun h=>by rw [hp] at h;cases h⟩
   obtain ⟨N,RR⟩: ∃N,W=N:=⟨_,rfl⟩
   rw [RR] at hN hw
   (conv=>whnf);(repeat (refine aa [] ?_;conv=>whnf))
   refine two (fun g6=> ?_) (fun g6=> ?_)
   case refine_2=>
    have g6:10000000000<N:=by have:=of_decide_eq_false g6;omega
    (conv=>whnf);(repeat (refine aa [] ?_;conv=>whnf))
    refine bG _ _ _ (fun g7=>by cases g7) (fun g7=> ?_)
    (conv=>whnf);(repeat first | (refine aa [] ?_;conv=>whnf) | (refine bC _ _ _ _ ?_;conv=>whnf))
    exact ⟨_,_,aB.refl,dV fun hk=>by have:=hk.2.2.1;omega⟩
   have g6:N<=10000000000:=by have:=of_decide_eq_true g6;omega
   cases neg with
   | false=>
     (conv=>whnf);(repeat (refine aa [] ?_;conv=>whnf))
     refine bG _ _ _ (fun g7=> ?_) (fun g7=>by cases g7)
     (conv=>whnf);(repeat first | (refine aa [] ?_;conv=>whnf) | (refine gY _ _ _ ?_;conv=>whnf))
     have:=sq ⟨g,c_,by omega,fun h=>by cases h⟩
     rw [hN,hw] at this
     exact ⟨_,_,aB.refl,this⟩
   | true=>
     (conv=>whnf);(repeat (refine aa [] ?_;conv=>whnf))
     refine bG _ _ _ (fun g7=> ?_) (fun g7=> ?_)
     case refine_2=>
      have g7:N=0:=by have:=of_decide_eq_false g7;omega
      (conv=>whnf);(repeat first | (refine aa [] ?_;conv=>whnf) | (refine bC _ _ _ _ ?_;conv=>whnf))
      exact ⟨_,_,aB.refl,dV fun hk=>by have:=hk.2.2.2 rfl;omega⟩
     have g7:0<N:=by have:=of_decide_eq_true g7;omega
     (conv=>whnf);(repeat first | (refine aa [] ?_;conv=>whnf) | (refine gY _ _ _ ?_;conv=>whnf))
     rw [show IntKind.i64.wrap (0 - w)= -w by rw [wrap64 (by omega) (by omega)];omega]
     have:=sq ⟨g,c_,by omega,fun _=>by omega⟩
     rw [hN,hw] at this
     exact ⟨_,_,aB.refl,this⟩
end kj
namespace D2
open Go Go.Proofs VL D1 B7 B8 eG zh kb kj
theorem Hx {l:List Int} (h: ∀x∈l,cw x): ∀x∈l,x≠46:=fun x hx e=>by have:=h x hx;unfold cw at this;omega
theorem DO {a b:List Int} (h: ∀x∈a,x≠46):bN (a++46::b)=a/\behind (a++46::b)=b/\(a++46::b).contains 46=true:=by
 unfold bN behind
 induction a with
 | nil=>simp
 | cons x r ih=>
   have hx:=h x (by simp)
   obtain ⟨h1,h2,h3⟩:=ih fun y hy=>h y (by simp [hy])
   refine ⟨?_,?_,?_⟩
   · rw [List.cons_append,List.takeWhile_cons,if_pos (by simpa using hx),h1]
   · rw [List.cons_append,List.dropWhile_cons,if_pos (by simpa using hx),h2]
   · rw [List.cons_append,List.contains_cons,h3];simp
theorem Hy {t:List Int} (h:t.contains 46=true):t=bN t++46::behind t:=by
 unfold bN behind
 induction t with
 | nil=>simp at h
 | cons x r ih=>
   by_cases hx:x=46
   · subst hx;simp
   · rw [List.contains_cons] at h
     have h:r.contains 46=true:=by
      rcases Bool.or_eq_true _ _▸h with h | h
      · exact absurd (beq_iff_eq.1 h).symm hx
      · exact h
     rw [List.takeWhile_cons,if_pos (by simpa using hx),List.dropWhile_cons,if_pos (by simpa using hx),List.cons_append, ←ih h]
theorem Pn {t:List Int} (h:t.contains 46=false):bN t=t/\behind t=[]:=by
 unfold bN behind
 induction t with
 | nil=>simp
 | cons x r ih=>
   rw [List.contains_cons,Bool.or_eq_false_iff] at h
   have hx:x≠46:=fun e=>by subst e;simp at h
   obtain ⟨h1,h2⟩:=ih h.2
   refine ⟨by rw [List.takeWhile_cons,if_pos (by simpa using hx),h1],by rw [List.dropWhile_cons,if_pos (by simpa using hx),h2]⟩
theorem Po {t:List Int} (h: ∀x∈t,x≠46):t.contains 46=false:=by
 induction t with
 | nil=>rfl
 | cons x r ih=>
   rw [List.contains_cons,ih fun y hy=>h y (by simp [hy])]
   have:=h x (by simp)
   simpa using fun e=>this e.symm
theorem Cv {n:Nat} (h:n<18446744073709551616):mn (dg n):=by
 refine ⟨⟨mi n,B5.lz h,gn n⟩,?_⟩
 rcases Nat.eq_zero_or_pos n with rfl | h0
 · left;rw [fI (by omega)];rfl
 · right
   obtain ⟨x,r,e,hx⟩:=J2 h0
   rw [e];simpa using hx
theorem f_ (x:Int) (l:List Int):dJ (x::l) [45]=decide (x=45):=by
 unfold dJ
 simp
 exact Bool.eq_iff_iff.2 (by simp)
theorem DP (n:Nat): ∃x r,dg n=x::r/\cw x:=by
 cases h:dg n with
 | nil=>exact absurd h (LK n)
 | cons x r=>exact ⟨x,r,rfl,gn n x (by rw [h];simp)⟩
theorem J6 (v:Int) (n:Nat) (r:List Int):bq (qq v++(dg n++r))=dg n++r/\dJ (qq v++(dg n++r)) [45]=decide (v<0):=by
 unfold qq
 by_cases h:v<0
 · rw [if_pos h]
   refine ⟨?_,?_⟩
   · unfold bq;rw [List.singleton_append,f_];simp
   · rw [List.singleton_append,f_];simp [h]
 · rw [if_neg h,List.nil_append]
   obtain ⟨x,q,e,hd⟩:=DP n
   have hx: ¬x=45:=fun h=>by unfold cw at hd;omega
   rw [e]
   refine ⟨?_,?_⟩
   · unfold bq;rw [List.cons_append,f_];simp [hx]
   · rw [List.cons_append,f_];simp [hx,h]
theorem lA {v:Int} (h:bM v):v.natAbs<=9223372036854775808:=by have:=h.1;have:=h.2;omega
theorem xo (v:Int):eP v=qq v++(dg (v.natAbs/100)++46::fL 2 (v.natAbs %100)):=by unfold eP;simp
theorem Hz {l:List Int} (h:mn l):dg (vl l)=l:=Pj h.1.2.2 (by intro e;have:=h.1.1;rw [e] at this;simp at this) h.2
theorem Cw (l:List Int):l=(if dJ l [45]=true then [45] else [])++bq l:=by
 unfold bq
 by_cases h:dJ l [45]=true
 · rw [if_pos h,if_pos h]
   unfold dJ at h
   have:=beq_iff_eq.1 h
   have e:l.take 1=[45]:=this
   exact ((List.take_append_drop 1 l).symm.trans (by rw [e]))
 · rw [if_neg h,if_neg h];rfl
theorem Ff (l:List Int) (x:Int):cR (l++[x])=l:=by unfold cR;simp
theorem Fg (l:List Int) (x:Int):nK (l++[x]) [37]=decide (x=37):=by
 unfold nK
 simp
 exact Bool.eq_iff_iff.2 (by simp)
theorem Cx {l:List Int} (h:nK l [37]=true):l=cR l++[37]:=by
 unfold nK at h
 simp only [Bool.and_eq_true,decide_eq_true_eq,beq_iff_eq] at h
 unfold cR
 conv=>lhs;rw [←List.take_append_drop (l.length - 1) l]
 have:=h.2
 simp only [List.length_singleton] at this
 rw [this]
theorem Cy {l:List Int} (h:l.getLast?≠some 48) (k:Nat):dD (l++List.replicate k 48)=l:=by
 induction k with
 | zero=>
   rcases List.eq_nil_or_concat l with rfl | ⟨m,x,rfl⟩
   · rfl
   · rw [List.replicate_zero,List.append_nil,List.concat_eq_append,jW,if_neg (by simpa using h)]
 | succ k ih=>rw [List.replicate_succ', ←List.append_assoc,jW,if_pos rfl,ih]
theorem vp (l:List Int): ∃k,l=dD l++List.replicate k 48/\(dD l).getLast?≠some 48:=by
 induction h:l.length generalizing l with
 | zero=>rw [List.length_eq_zero_iff.1 h];exact ⟨0,rfl,by simp [dD]⟩
 | succ n ih=>
   rcases List.eq_nil_or_concat l with rfl | ⟨m,x,rfl⟩
   · simp at h
   rw [List.concat_eq_append] at h ⊢
   rw [jW]
   by_cases hx:x=48
   · subst hx
     obtain ⟨k,h1,h2⟩:=ih m (by simpa using h)
     rw [if_pos rfl]
     refine ⟨k+1,?_,h2⟩
     conv=>lhs;rw [h1]
     rw [List.append_assoc,List.replicate_succ']
   · rw [if_neg hx]
     exact ⟨0,by simp,by simpa using hx⟩
theorem HA (k:Nat):vl (List.replicate k 48)=0:=by
 induction k with
 | zero=>rfl
 | succ k ih=>rw [List.replicate_succ',cX,ih];rfl
theorem AI {l:List Int} {x:Int} (h:cw x) (hx:x≠48) (k:Nat):0<vl ((l++[x])++List.replicate k 48):=by
 unfold cw at h
 induction k with
 | zero=>rw [List.replicate_zero,List.append_nil,cX];omega
 | succ k ih=>rw [List.replicate_succ', ←List.append_assoc,cX];omega
theorem pF {r:Nat} (h0:r≠0) (h:r<10000000):rN (dD (fL 7 r))/\gK (dD (fL 7 r))=r:=by
 obtain ⟨k,h1,h2⟩:=vp (fL 7 r)
 have hl:=congrArg List.length h1
 rw [cF,List.length_append,List.length_replicate] at hl
 have hv:vl (fL 7 r)=r:=by rw [Hl];omega
 have hk:7 - (dD (fL 7 r)).length=k:=by omega
 refine ⟨⟨?_,by omega,h2,fun x hx=>gm 7 r x (by rw [h1];exact List.mem_append_left _ hx)⟩,?_⟩
 · rcases Nat.eq_zero_or_pos (dD (fL 7 r)).length with e | e
   · rw [List.length_eq_zero_iff.1 e,List.nil_append] at h1
     rw [h1,HA] at hv
     exact absurd hv.symm h0
   · exact e
 · unfold gK;rw [hk, ←h1,hv]
theorem Fh {b:List Int} (h:rN b):gK b<10000000/\gK b≠0/\dD (fL 7 (gK b))=b:=by
 obtain ⟨h1,h2,h3,h4⟩:=h
 have hd: ∀x∈b++List.replicate (7 - b.length) 48,cw x:=fun x hx=>by
  rcases List.mem_append.1 hx with hx | hx
  · exact h4 x hx
  · rw [(List.mem_replicate.1 hx).2];unfold cw;omega
 have hl:(b++List.replicate (7 - b.length) 48).length=7:=by simp;omega
 have aJ:=mY _ hd
 have hw:=Hn _ hd
 rw [hl] at aJ hw
 refine ⟨aJ,?_,?_⟩
 · rcases List.eq_nil_or_concat b with rfl | ⟨m,x,rfl⟩
   · simp at h1
   · rw [List.concat_eq_append] at h3 h4 ⊢
     have:=AI (l:=m) (h4 x (by simp)) (by simpa using h3) (7 - (m++[x]).length)
     unfold gK;omega
 · unfold gK;rw [hw];exact Cy h3 _
theorem vq (v:Int):ct v=qq v++(dg (v.natAbs/10000000)++ed (v.natAbs %10000000))++[37]:=by unfold ct;simp
theorem Fi {v:Int} (h:bM v):bH (ct v)=if -10000000000<=v/\v<=10000000000 then (v,0) else (0,4):=by
 have hn:=lA h
 rw [vq]
 obtain ⟨e1,e2⟩:=J6 v (v.natAbs/10000000) (ed (v.natAbs %10000000))
 have hw:=Cv (n:=v.natAbs/10000000) (by omega)
 have key:dO (dg (v.natAbs/10000000)++ed (v.natAbs %10000000))=v.natAbs/\(v.natAbs/10000000<=1000->kS (dg (v.natAbs/10000000)++ed (v.natAbs %10000000)))/\(kS (dg (v.natAbs/10000000)++ed (v.natAbs %10000000))->v.natAbs/10000000<=1000):=by
  unfold ed
  by_cases h0:v.natAbs %10000000=0
  · rw [if_pos h0,List.append_nil]
    have hc:=Po (Hx (gn (v.natAbs/10000000)))
    obtain ⟨n1,n2⟩:=Pn hc
    unfold dO kS
    rw [n1,Hm,hc]
    refine ⟨by simp;omega,fun hh=>⟨hw,hh,fun e=>by cases e⟩,fun hh=>hh.2.1⟩
  · rw [if_neg h0]
    obtain ⟨s1,s2,s3⟩:=DO (a:=dg (v.natAbs/10000000)) (b:=dD (fL 7 (v.natAbs %10000000))) (Hx (gn _))
    obtain ⟨f1,f2⟩:=pF h0 (by omega)
    unfold dO kS
    rw [s1,s2,s3,Hm,f2]
    refine ⟨by simp;omega,fun hh=>⟨hw,hh,fun _=>f1⟩,fun hh=>hh.2.1⟩
 obtain ⟨k1,k2,k3⟩:=key
 unfold bH
 rw [Ff,e1,e2,Fg,k1]
 by_cases hb:v.natAbs<=10000000000
 · rw [if_pos ⟨by simp,k2 (by omega),hb,fun hs=>by have:=of_decide_eq_true hs;omega⟩,if_pos (c:= -10000000000<=v/\v<=10000000000) (by omega)]
   by_cases hv:v<0
   · rw [decide_eq_true hv,if_pos rfl];congr 1;omega
   · rw [decide_eq_false hv,if_neg (by decide)];congr 1;omega
 · rw [if_neg (fun hh=>hb hh.2.2.1),if_neg (by omega)]
theorem Fj {l:List Int} {c:Int} (h:bH l=(c,0)):ct c=l/\ -10000000000<=c/\c<=10000000000:=by
 unfold bH at h
 split at h
 case isFalse=>simp at h
 rename_i c_
 obtain ⟨o1,⟨o2,o3,o4⟩,o5,o6⟩:=c_
 simp only [Prod.mk.injEq,and_true] at h
 have hc:c.natAbs=dO (bq (cR l)):=by rw [←h];split<;>omega
 refine ⟨?_,by split at h<;>omega,by split at h<;>omega⟩
 have hq:dO (bq (cR l))/10000000=vl (bN (bq (cR l)))/\bN (bq (cR l))++ed (dO (bq (cR l)) %10000000)=bq (cR l):=by
  cases hp:(bq (cR l)).contains 46 with
  | true=>
    obtain ⟨f1,f2,f3⟩:=Fh (o4 hp)
    have hr:dO (bq (cR l))=vl (bN (bq (cR l)))*10000000+gK (behind (bq (cR l))):=by unfold dO;rw [if_pos hp]
    refine ⟨by omega,?_⟩
    rw [show dO (bq (cR l)) %10000000=gK (behind (bq (cR l))) by omega]
    unfold ed
    rw [if_neg f2,f3]
    exact (Hy hp).symm
  | false=>
    have hr:dO (bq (cR l))=vl (bN (bq (cR l)))*10000000:=by unfold dO;rw [hp];simp
    refine ⟨by omega,?_⟩
    rw [show dO (bq (cR l)) %10000000=0 by omega]
    unfold ed
    rw [if_pos rfl,List.append_nil]
    exact (Pn hp).1
 rw [vq,hc,hq.1,Hz o2,hq.2]
 conv=>rhs;rw [Cx o1,Cw (cR l)]
 congr 2
 unfold qq
 split at h
 · rename_i hp
   have:=o6 hp
   rw [if_pos (by omega),if_pos hp]
 · rename_i hp
   rw [if_neg (by omega),if_neg hp]
end D2
namespace pG
open Go Go.Proofs VL D1 B5 B7 B8 eG zh kb kj D2
theorem tx (v:Int):(qq v).length<=1:=by unfold qq;split<;>simp
theorem vr {v:Int} (h:bM v):(eP v).length<=30:=by
 have:=lA h
 have:=lz (n:=v.natAbs/100) (by omega)
 have:=tx v
 rw [xo];simp [cF];omega
theorem Fk (l:List Int): ∀x∈dD l,x∈l:=fun x hx=>by
 obtain ⟨k,h1,_⟩:=vp l
 rw [h1];exact List.mem_append_left _ hx
theorem Cz (r:Nat): ∀x∈ed r,0<=x/\x<256:=by
 unfold ed
 split
 · simp
 · intro x hx
   rcases List.mem_cons.1 hx with rfl | hx
   · omega
   · exact AD _ _ x (Fk _ x hx)
theorem Fl (r:Nat):(ed r).length<=8:=by
 unfold ed
 split
 · simp
 · have:=xl (fL 7 r);rw [cF] at this;simp;omega
theorem mq (v:Int): ∀x∈ct v,0<=x/\x<256:=by
 intro x hx
 unfold ct at hx
 simp only [List.mem_append] at hx
 rcases hx with ((hx | hx) | hx) | hx
 · exact AG v x hx
 · exact J3 _ x hx
 · exact Cz _ x hx
 · simp at hx;omega
theorem lB {v:Int} (h:bM v):(ct v).length<=40:=by
 have:=lA h
 have:=lz (n:=v.natAbs/10000000) (by omega)
 have:=tx v
 have:=Fl (v.natAbs %10000000)
 unfold ct;simp;omega
end pG
namespace D3
open Go Go.Proofs VL D1 eG D2 pG
end D3
namespace J7
open Go Go.Proofs VL D1 B5 B7 B8 eG zh kb kj D2 pG D3
theorem wE (x:Int):0<=IntKind.u64.wrap x/\IntKind.u64.wrap x<18446744073709551616:=by
 have:IntKind.u64.wrap x=x %18446744073709551616:=by unfold IntKind.wrap;simp [IntKind.bits,IntKind.signed]
 omega
end J7
namespace Qs
open Go Go.Proofs VL D1 B5 B7 B8 eG zh kb kj D2 pG D3 J7
end Qs
namespace UU
open Go Go.Proofs VL D1 B5 B7 B8 eG zh kb kj D2 pG D3 J7 Qs
end UU
namespace Qt
open Go Go.Proofs VL D1 B5 B7 B8 eG zh kb kj D2 pG D3 J7 Qs
theorem J8 {x:Int} {l:List Int} (h:x≠45):bq (x::l)=x::l:=by
 unfold bq;rw [f_,decide_eq_false h];rfl
theorem J9 (l:List Int):bq (45::l)=l:=by
 unfold bq;rw [f_];rfl
def sL (l:List (List Int)):List V:=l.map fun x=> .str (az x)
end Qt
namespace UW
open Go Go.Proofs VL D1 B5 B7 B8 eG zh kb kj D2 pG D3 J7 Qs Qt
end UW
namespace wg
open Go Go.Proofs VL D1 B2 B4 B5 B7 B8 eG zh kb kj D2 pG D3
theorem qt (n i:Nat):(48+((n/10^i %10:Nat):Int))::fL i n=fL (i+1) n:=by
 rw [Nat.add_comm,rK];rfl
theorem LO {n i:Nat} (h:n<18446744073709551616) (h2:0<n/10^i):i<20:=by
 rcases Nat.lt_or_ge i 20 with h1 | h1
 · exact h1
 · have:(10:Nat)^20<=10^i:=Nat.pow_le_pow_right (by omega) h1
   rw [Nat.div_eq_of_lt (Nat.lt_of_lt_of_le h (Nat.le_trans (by decide) this))] at h2
   omega
set_option maxHeartbeats 2000000 in
theorem qu (n least:Nat) (hn:n<18446744073709551616) (hl:1<=least) (sI:least<=50) (K) (h:K (.ret (.str (az (DL least n)))) []):
 ah Tryz.prog 70 [.int .u64 (n:Int),.int .i64 (least:Int)] [] K:=by
 refine ag [] 0 Tryz.func70 (by rfl) (by rfl) ?_;(conv=>whnf);(repeat (refine aa [] ?_;conv=>whnf))
 let S:Nat->St:=fun i=>⟨(.int .u64 ((n/10^i:Nat):Int):: .int .i64 (least:Int):: .undef:: .undef:: .str ⟨#[]⟩:: .str (az (fL i n)):: .undef:: .undef:: .undef:: .undef:: .undef:: .undef:: .undef:: .undef:: .undef:: .undef:: .undef:: .undef:: .undef:: .undef:: .undef:: .undef:: .undef:: .undef:: .undef::[]),[],0,[]⟩
 refine aA.enter (s':=S 0) (ae ?_ .nil rfl rfl rfl) (aA.dC S (fun i=>60 - i) (fun i=>i<=50/\(i<=least\/0<n/10^(i - 1))) ?_ 0 ⟨by omega,by omega⟩)
 · repeat' first
    | exact aq.nil
    | refine aq.cons VW.undef ?_
    | refine aq.cons (VW.eq rfl) ?_
    | refine aq.cons (VW.eq (congrArg (V.int .u64) (by simp))) ?_
 rintro i ⟨hi,hd⟩ ih
 have go:(0<n/10^i\/i<least)-> ∃q,n/10^i=q/\q<18446744073709551616:=fun _=>⟨_,rfl,Nat.lt_of_le_of_lt (Nat.div_le_self _ _) hn⟩
 have fin: ¬(0<n/10^i)-> ¬i<least->az (fL i n)=az (DL least n):=fun h1 h2=>by
  congr 1
  have h0:n/10^i=0:=Nat.eq_zero_of_not_pos h1
  have aJ:n<10^i:=by
   rcases Nat.lt_or_ge n (10^i) with h | h
   · exact h
   · have:=Nat.div_pos h (Nat.pow_pos (by omega));omega
  by_cases e:i=least
  · subst e;exact (ml i n (by omega) aJ).symm
  · have hp:0<n/10^(i - 1):=hd.resolve_left (by omega)
    have zg:10^(i - 1)<=n:=by
     rcases Nat.lt_or_ge n (10^(i - 1)) with h | h
     · rw [Nat.div_eq_of_lt h] at hp;omega
     · exact h
    have:=ve (i - 1) n zg (by rw [Nat.sub_add_cancel (by omega)];exact aJ)
    rw [Nat.sub_add_cancel (by omega)] at this
    unfold DL
    rw [this,cF,show least - i=0 by omega];rfl
 have LP:(0<n/10^i\/i<least)->True:=fun _=>trivial
 refine ai [] ?_;(conv=>whnf);(repeat (refine aa [] ?_;conv=>whnf))
 refine two (fun g=> ?_) (fun g=> ?_)
 · have g:0<n/10^i:=by have:=of_decide_eq_true g;omega
   have RT:=LO hn g
   have hq:n/10^i<18446744073709551616:=Nat.lt_of_le_of_lt (Nat.div_le_self _ _) hn
   (conv=>whnf);(repeat (refine aa [] ?_;conv=>whnf))
   have tm:Int.tmod ((n/10^i:Nat):Int) 10=((n/10^i %10:Nat):Int):=rfl
   have td:Int.tdiv ((n/10^i:Nat):Int) 10=((n/10^i/10:Nat):Int):=rfl
   refine ⟨by decide,?_⟩;rw [tm];(conv=>whnf);(repeat (refine aa [] ?_;conv=>whnf))
   have e:IntKind.u8.wrap (IntKind.u64.wrap (48+((n/10^i %10:Nat):Int)))=48+((n/10^i %10:Nat):Int):=by rw [gp (by omega) (by omega),mm (by omega) (by omega)]
   rw [e]
   refine ⟨az [48+((n/10^i %10:Nat):Int)],?_,?_⟩
   · rw [←u0 (fun x hx=>by simp at hx;omega)];rfl
   (conv=>whnf);(repeat (refine aa [] ?_;conv=>whnf))
   refine ⟨by rw [aI,aI,cF];refine eQ ?_;simp;omega,?_⟩
   rw [c9];(conv=>whnf);(repeat (refine aa [] ?_;conv=>whnf))
   refine ⟨by decide,?_⟩;rw [td];(conv=>whnf);(repeat (refine aa [] ?_;conv=>whnf))
   refine ⟨S (i+1),ae ?_ .nil rfl rfl rfl,ih (i+1) ⟨by omega,by rw [Nat.add_sub_cancel];omega⟩ (by omega)⟩
   repeat' first
    | exact aq.nil
    | refine aq.cons VW.undef ?_
    | refine aq.cons (VW.eq rfl) ?_
    | refine aq.cons (VW.eq (congrArg (fun x=>V.str (az x)) (qt n i))) ?_
    | refine aq.cons (VW.eq (congrArg (V.int .u64) (by rw [Cr (by omega),Nat.div_div_eq_div_mul,Nat.pow_succ]))) ?_
 · have g: ¬0<n/10^i:=by have:=of_decide_eq_false g;omega
   (conv=>whnf);(repeat (refine aa [] ?_;conv=>whnf))
   refine two (fun g2=> ?_) (fun g2=> ?_)
   · have g2:i<least:=by have:=of_decide_eq_true g2;rw [aI,cF] at this;omega
     have hq:n/10^i<18446744073709551616:=Nat.lt_of_le_of_lt (Nat.div_le_self _ _) hn
     (conv=>whnf);(repeat (refine aa [] ?_;conv=>whnf))
     have tm:Int.tmod ((n/10^i:Nat):Int) 10=((n/10^i %10:Nat):Int):=rfl
     have td:Int.tdiv ((n/10^i:Nat):Int) 10=((n/10^i/10:Nat):Int):=rfl
     refine ⟨by decide,?_⟩;rw [tm];(conv=>whnf);(repeat (refine aa [] ?_;conv=>whnf))
     have e:IntKind.u8.wrap (IntKind.u64.wrap (48+((n/10^i %10:Nat):Int)))=48+((n/10^i %10:Nat):Int):=by rw [gp (by omega) (by omega),mm (by omega) (by omega)]
     rw [e]
     refine ⟨az [48+((n/10^i %10:Nat):Int)],?_,?_⟩
     · rw [←u0 (fun x hx=>by simp at hx;omega)];rfl
     (conv=>whnf);(repeat (refine aa [] ?_;conv=>whnf))
     refine ⟨by rw [aI,aI,cF];refine eQ ?_;simp;omega,?_⟩
     rw [c9];(conv=>whnf);(repeat (refine aa [] ?_;conv=>whnf))
     refine ⟨by decide,?_⟩;rw [td];(conv=>whnf);(repeat (refine aa [] ?_;conv=>whnf))
     refine ⟨S (i+1),ae ?_ .nil rfl rfl rfl,ih (i+1) ⟨by omega,by rw [Nat.add_sub_cancel];omega⟩ (by omega)⟩
     repeat' first
      | exact aq.nil
      | refine aq.cons VW.undef ?_
      | refine aq.cons (VW.eq rfl) ?_
      | refine aq.cons (VW.eq (congrArg (fun x=>V.str (az x)) (qt n i))) ?_
      | refine aq.cons (VW.eq (congrArg (V.int .u64) (by rw [Cr (by omega),Nat.div_div_eq_div_mul,Nat.pow_succ]))) ?_
   · have g2: ¬i<least:=by have:=of_decide_eq_false g2;rw [aI,cF] at this;omega
     (conv=>whnf);(repeat (refine aa [] ?_;conv=>whnf))
     refine ⟨_,aB.refl,?_⟩;(conv=>whnf);(repeat (refine aa [] ?_;conv=>whnf))
     rw [fin g g2]
     exact h
theorem HB (v:Int) (hv:bM v) (K) (h:K (.ret (.aQ [.int .u64 (v.natAbs:Int),.str (az (qq v))])) []):ah Tryz.prog 69 [.int .i64 v] [] K:=by
 obtain ⟨v1,v2⟩:=hv
 refine ag [] 0 Tryz.func69 (by rfl) (by rfl) ?_;(conv=>whnf);(repeat (refine aa [] ?_;conv=>whnf))
 refine two (fun g=> ?_) (fun g=> ?_)
 · have g:v<0:=of_decide_eq_true g
   (conv=>whnf);(repeat (refine aa [] ?_;conv=>whnf))
   have e:IntKind.u64.wrap (IntKind.u64.wrap (IntKind.i64.wrap (0 - IntKind.i64.wrap (v+1)))+1)=(v.natAbs:Int):=by
    rw [wrap64 (x:=v+1) (by omega) (by omega),wrap64 (by omega) (by omega),gp (x:=0 - (v+1)) (by omega) (by omega),gp (by omega) (by omega)];omega
   rw [e]
   rw [show qq v=[45] by unfold qq;rw [if_pos g]] at h
   exact h
 · have g:=of_decide_eq_false g
   (conv=>whnf);(repeat (refine aa [] ?_;conv=>whnf))
   have e:IntKind.u64.wrap v=(v.natAbs:Int):=by rw [gp (by omega) (by omega)];omega
   rw [e]
   rw [show qq v=[] by unfold qq;rw [if_neg (by omega)]] at h
   exact h
theorem Pp (n:Nat):DL 1 n=dg n:=by
 unfold DL
 have:=mi n
 rw [show 1 - (dg n).length=0 by omega];rfl
theorem lC (v:Int) (hv:bM v) (K) (h:K (.ret (.str (az (eP v)))) []):ah Tryz.prog 36 [.int .i64 v] [] K:=by
 have hn:=lA hv
 have hl:=lz (n:=v.natAbs/100) (by omega)
 have hs:=tx v
 have e2:DL 2 (v.natAbs %100)=fL 2 (v.natAbs %100):=ml 2 _ (by omega) (by omega)
 have td:Int.tdiv (v.natAbs:Int) 100=((v.natAbs/100:Nat):Int):=rfl
 have tm:Int.tmod (v.natAbs:Int) 100=((v.natAbs %100:Nat):Int):=rfl
 refine ag [] 0 Tryz.func36 (by rfl) (by rfl) ?_;(conv=>whnf);(repeat (refine aa [] ?_;conv=>whnf))
 refine HB v hv _ ?_;(conv=>whnf);(repeat (refine aa [] ?_;conv=>whnf))
 refine ⟨by decide,?_⟩;rw [td,Cr (a:=v.natAbs/100) (by omega)];(conv=>whnf);(repeat (refine aa [] ?_;conv=>whnf))
 refine qu _ 1 (by omega) (by omega) (by omega) _ ?_;(conv=>whnf);(repeat (refine aa [] ?_;conv=>whnf))
 rw [Pp]
 refine ⟨by rw [aI,aI];exact eQ (by omega),?_⟩
 rw [c9];(conv=>whnf);(repeat (refine aa [] ?_;conv=>whnf))
 refine ⟨by rw [aI];refine eQ ?_;simp;show _+1<_;omega,?_⟩
 rw [show (ByteArray.mk #[46])=az [46] from rfl,c9];(conv=>whnf);(repeat (refine aa [] ?_;conv=>whnf))
 refine ⟨by decide,?_⟩;rw [tm];(conv=>whnf);(repeat (refine aa [] ?_;conv=>whnf))
 refine qu _ 2 (by omega) (by omega) (by omega) _ ?_;(conv=>whnf);(repeat (refine aa [] ?_;conv=>whnf))
 rw [e2]
 refine ⟨by rw [aI,aI,cF];refine eQ ?_;simp;omega,?_⟩
 rw [c9];(conv=>whnf);(repeat (refine aa [] ?_;conv=>whnf))
 exact h
theorem vu {r:Nat} (h:r<10000000):dD (fL 7 r)=[]↔r=0:=by
 constructor
 · intro e
   rcases Nat.eq_zero_or_pos r with h0 | h0
   · exact h0
   · have:=(pF (Nat.ne_of_gt h0) h).1.1
     rw [e] at this;simp at this
 · rintro rfl;decide+kernel
set_option maxHeartbeats 2000000 in
theorem jc (v:Int) (hv:bM v) (K) (h:K (.ret (.str (az (ct v)))) []):ah Tryz.prog 35 [.int .i64 v] [] K:=by
 have hn:=lA hv
 have hl:=lz (n:=v.natAbs/10000000) (by omega)
 have hs:=tx v
 have e2:DL 7 (v.natAbs %10000000)=fL 7 (v.natAbs %10000000):=ml 7 _ (by omega) (by omega)
 have td:Int.tdiv (v.natAbs:Int) 10000000=((v.natAbs/10000000:Nat):Int):=rfl
 have tm:Int.tmod (v.natAbs:Int) 10000000=((v.natAbs %10000000:Nat):Int):=rfl
 refine ag [] 0 Tryz.func35 (by rfl) (by rfl) ?_;(conv=>whnf);(repeat (refine aa [] ?_;conv=>whnf))
 refine HB v hv _ ?_;(conv=>whnf);(repeat (refine aa [] ?_;conv=>whnf))
 refine ⟨by decide,?_⟩;rw [td,Cr (a:=v.natAbs/10000000) (by omega)];(conv=>whnf);(repeat (refine aa [] ?_;conv=>whnf))
 refine qu _ 1 (by omega) (by omega) (by omega) _ ?_;(conv=>whnf);(repeat (refine aa [] ?_;conv=>whnf))
 rw [Pp]
 refine ⟨by rw [aI,aI];exact eQ (by omega),?_⟩
 rw [c9];(conv=>whnf);(repeat (refine aa [] ?_;conv=>whnf))
 refine ⟨by decide,?_⟩;rw [tm];(conv=>whnf);(repeat (refine aa [] ?_;conv=>whnf))
 refine qu _ 7 (by omega) (by omega) (by omega) _ ?_;(conv=>whnf);(repeat (refine aa [] ?_;conv=>whnf))
 rw [e2]
 have hr:v.natAbs %10000000<10000000:=Nat.mod_lt _ (by omega)
 have hR:ct v=qq v++dg (v.natAbs/10000000)++ed (v.natAbs %10000000)++[37]:=rfl
 have hA:(qq v++dg (v.natAbs/10000000)).length<=30:=by simp;omega
 obtain ⟨A,eA⟩: ∃A,qq v++dg (v.natAbs/10000000)=A:=⟨_,rfl⟩
 obtain ⟨r,er⟩: ∃r,v.natAbs %10000000=r:=⟨_,rfl⟩
 rw [eA,er] at hR
 rw [er] at hr
 rw [eA] at hA
 rw [eA,er]
 have UX:=AD 7 r
 let S:ByteArray->St:=fun x=>⟨(.undef:: .undef:: .str ⟨#[]⟩:: .undef:: .undef:: .str (az A):: .str x:: .undef:: .undef:: .undef:: .undef:: .undef:: .undef:: .undef:: .undef:: .undef:: .undef:: .undef:: .undef:: .undef:: .undef:: .undef:: .undef:: .undef:: .undef:: .undef:: .undef:: .undef:: .undef:: .undef:: .undef:: .undef:: .undef:: .undef:: .undef:: .undef:: .undef:: .undef:: .undef:: .undef:: .undef:: .undef:: .undef:: .undef::[]),[],0,[]⟩
 refine aA.enter (s':=S (az (fL 7 r))) (ae ?_ .nil rfl rfl rfl) (aA.dC S (fun x=>x.size) (fun x=>dD (sB x)=dD (fL 7 r)/\x.size<=7) ?_ (az (fL 7 r)) ⟨by rw [aT UX],by rw [aI,cF];omega⟩)
 · (repeat' first | exact aq.nil | refine aq.cons VW.undef ?_ | refine aq.cons (VW.eq rfl) ?_)
 rintro x ⟨hx,hl⟩ ih
 have done:sB x=dD (fL 7 r)-> ∀R:Prop,(x=az (dD (fL 7 r))->R)->R:=fun e R k=>k (by rw [←e,gk])
 refine ai [] ?_;(conv=>whnf);(repeat (refine aa [] ?_;conv=>whnf))
 refine two (fun g=> ?_) (fun g=> ?_)
 · have g:0<x.size:=by have:=of_decide_eq_true g;omega
   obtain ⟨m,c,hm⟩: ∃m c,sB x=m++[c]:=⟨(sB x).dropLast,(sB x).getLast (by rw [←List.length_pos_iff,bh];exact g),(List.dropLast_concat_getLast _).symm⟩
   have oK:m.length+1=x.size:=by rw [←bh,hm];simp
   conv=>whnf
   rw [show IntKind.i64.wrap ((x.size:Int) - 1)=(m.length:Int) by rw [wrap64 (by omega) (by omega)];omega]
   refine aU (x:=c) (by omega) (by rw [hm,Int.toNat_natCast];simp) fun b hb=> ?_
   rw [hb];(conv=>whnf);(repeat (refine aa [] ?_;conv=>whnf))
   refine two (fun g2=> ?_) (fun g2=> ?_)
   · have g2:c=48:=by simpa using g2
     (conv=>whnf);(repeat (refine aa [] ?_;conv=>whnf))
     rw [show IntKind.i64.wrap ((x.size:Int) - 1)=(m.length:Int) by rw [wrap64 (by omega) (by omega)];omega]
     (repeat first | (refine aa [] ?_;conv=>whnf) | (refine And.intro rfl ?_;conv=>whnf) | (refine And.intro (by omega) ?_;conv=>whnf))
     have he:x.extract 0 m.length=az m:=mj x (by rw [hm];simp)
     have RU:sB (az m)=m:=by rw [←he,nI,hm];simp
     refine ⟨S (az m),ae ?_ .nil rfl rfl rfl,ih (az m) ⟨?_,?_⟩ ?_⟩
     · repeat' first
        | exact aq.nil
        | refine aq.cons VW.undef ?_
        | refine aq.cons (VW.eq (congrArg V.str he)) ?_
        | refine aq.cons (VW.eq rfl) ?_
     · rw [RU, ←hx,hm,jW,if_pos g2]
     · rw [←bh,RU];omega
     · rw [←bh,RU];omega
   · have g2:c≠48:=by simpa using g2
     (conv=>whnf);(repeat (refine aa [] ?_;conv=>whnf))
     refine ⟨_,aB.refl,?_⟩;(conv=>whnf);(repeat (refine aa [] ?_;conv=>whnf))
     have e:sB x=dD (fL 7 r):=by rw [←hx,hm,jW,if_neg g2]
     have EC:r≠0:=fun h0=>by rw [(vu hr).2 h0] at e;rw [←bh,e] at g;simp at g
     refine yes ?_ ?_
     · rw [kB,e]
       have:(dD (fL 7 r)==sB (ByteArray.mk #[]))=false:=by
        rw [beq_eq_false_iff_ne];exact fun h=>EC ((vu hr).1 h)
       rw [this];rfl
     have ex:=yD e
     have hz:(dD (fL 7 r)).length<=7:=by have:=xl (fL 7 r);rwa [cF] at this
     subst ex
     (conv=>whnf);(repeat (refine aa [] ?_;conv=>whnf))
     refine ⟨by rw [aI];refine eQ ?_;show _+1<_;omega,?_⟩
     rw [show (ByteArray.mk #[46])=az [46] from rfl,c9];(conv=>whnf);(repeat (refine aa [] ?_;conv=>whnf))
     refine ⟨by rw [aI,aI];refine eQ ?_;simp;omega,?_⟩
     rw [c9];(conv=>whnf);(repeat (refine aa [] ?_;conv=>whnf))
     refine ⟨by rw [aI];refine eQ ?_;simp;show _+1<_;omega,?_⟩
     rw [show (ByteArray.mk #[37])=az [37] from rfl,c9];(conv=>whnf);(repeat (refine aa [] ?_;conv=>whnf))
     rw [hR,show ed r=[46]++dD (fL 7 r) by unfold ed;rw [if_neg EC];rfl] at h
     rw [List.append_assoc A]
     exact h
 · have g:x.size=0:=by have:=of_decide_eq_false g;omega
   have e0:sB x=[]:=List.length_eq_zero_iff.1 (by rw [bh];exact g)
   have ex:x=az []:=yD e0
   have EC:r=0:=(vu hr).1 (by rw [←hx,e0];rfl)
   subst ex
   (conv=>whnf);(repeat (refine aa [] ?_;conv=>whnf))
   refine ⟨_,aB.refl,?_⟩;(conv=>whnf);(repeat (refine aa [] ?_;conv=>whnf))
   refine no (by rw [kB];rfl) ?_;(conv=>whnf);(repeat (refine aa [] ?_;conv=>whnf))
   refine ⟨by rw [aI];refine eQ ?_;show _+1<_;omega,?_⟩
   rw [show (ByteArray.mk #[37])=az [37] from rfl,c9];(conv=>whnf);(repeat (refine aa [] ?_;conv=>whnf))
   rw [hR,show ed r=[] by unfold ed;rw [if_pos EC],List.append_nil] at h
   exact h
theorem mr (c:Int) (K) (h:K (.ret (.bool (decide (cw c)))) []):ah Tryz.prog 129 [.int .u8 c] [] K:=by
 refine ag [] 0 Tryz.func129 (by rfl) (by rfl) ?_;(conv=>whnf);(repeat (refine aa [] ?_;conv=>whnf))
 refine two (fun g=> ?_) (fun g=> ?_)
 · have g:48<=c:=of_decide_eq_true g
   (conv=>whnf);(repeat (refine aa [] ?_;conv=>whnf))
   rw [show decide (cw c)=decide (c<=57) by rw [decide_eq_decide];unfold cw;omega] at h
   exact h
 · have g: ¬48<=c:=of_decide_eq_false g
   (conv=>whnf);(repeat (refine aa [] ?_;conv=>whnf))
   rw [show decide (cw c)=false from decide_eq_false (by unfold cw;omega)] at h
   exact h
end wg
namespace LQ
open Go Go.Proofs VL D1 B2 B4 B5 B7 B8 eG zh kb kj D2 pG D3 Qt wg
theorem Fm {l:List Int}:dJ l [45]=true↔l.head?=some 45:=by
 cases l with
 | nil=>simp [dJ]
 | cons x r=>rw [f_];simp
theorem fJ {t:List Int} (h:mo t): ∃n,t.length=n+3/\1<=n/\n<=20/\t[n]? =some 46/\(n=1\/t.head?≠some 48)/\ ∀i x,i≠n->t[i]? =some x->cw x:=by
 obtain ⟨h1,h2,h3,h4⟩:=h
 have hj:=Hy h1
 have hl:t.length=(bN t).length+3:=by
  have:=congrArg List.length hj
  rw [List.length_append,List.length_cons,h2] at this;omega
 refine ⟨(bN t).length,hl,h3.1.1,h3.1.2.1,?_,?_,fun i x hi hx=> ?_⟩
 · rw [hj,List.getElem?_append_right (by rw [←hj];omega)]
   rw [←hj];simp
 · rcases h3.2 with h | h
   · exact .inl h
   · refine .inr fun e=>h ?_
     have h0:=h3.1.1
     cases ha:bN t with
     | nil=>rw [ha] at h0;simp at h0
     | cons a r=>
       rw [hj,ha] at e
       simpa using e
 · rw [hj] at hx
   rcases Nat.lt_or_ge i (bN t).length with h | h
   · rw [List.getElem?_append_left h] at hx
     exact h3.1.2.2 x (List.mem_of_getElem? hx)
   · rw [List.getElem?_append_right h] at hx
     obtain ⟨k,hk⟩: ∃k,i - (bN t).length=k+1:=⟨i - (bN t).length - 1,by omega⟩
     rw [hk,List.getElem?_cons_succ] at hx
     exact h4.2.2 x (List.mem_of_getElem? hx)
theorem CA {t:List Int} {n:Nat} (hl:t.length=n+3) (h1:1<=n) (RT:n<=20) (hp:t[n]? =some 46) (h0:n=1\/t.head?≠some 48) (hd: ∀(i:Nat) x,i≠n->t[i]? =some x->cw x):
 mo t/\dU t=vl (t.take n++t.drop (n+1)):=by
 have hn:n<t.length:=by omega
 have ht:t=t.take n++46::t.drop (n+1):=by
  have hx:t[n]=46:=by rw [List.getElem?_eq_getElem hn] at hp;exact Option.some.inj hp
  rw [←hx, ←List.drop_eq_getElem_cons hn,List.take_append_drop]
 have Pq: ∀x∈t.take n,cw x:=fun x hx=>by
  obtain ⟨i,hi⟩:=List.mem_iff_getElem?.1 hx
  rw [List.getElem?_take] at hi
  split at hi
  · exact hd i x (by omega) hi
  · cases hi
 have Pr: ∀x∈t.drop (n+1),cw x:=fun x hx=>by
  obtain ⟨i,hi⟩:=List.mem_iff_getElem?.1 hx
  rw [List.getElem?_drop] at hi
  exact hd (n+1+i) x (by omega) hi
 obtain ⟨s1,s2,s3⟩:=DO (a:=t.take n) (b:=t.drop (n+1)) (Hx Pq)
 rw [←ht] at s1 s2 s3
 have hlen:(t.take n).length=n:=by simp;omega
 have LR:(t.drop (n+1)).length=2:=by simp;omega
 refine ⟨⟨s3,by rw [s2,LR],⟨⟨by rw [s1];omega,by rw [s1];omega,by rw [s1];exact Pq⟩,?_⟩,by rw [s2];exact ⟨by omega,by omega,Pr⟩⟩,?_⟩
 · rw [s1]
   rcases h0 with h | h
   · exact .inl (by omega)
   · refine .inr fun e=>h ?_
     cases t with
     | nil=>simp at hl
     | cons x r=>
       cases n with
       | zero=>omega
       | succ n=>simpa using e
 · unfold dU
   rw [s1,s2]
   obtain ⟨a,b,N_⟩: ∃a b,t.drop (n+1)=[a,b]:=by
    match h:t.drop (n+1),LR with
    | [a,b],_=>exact ⟨a,b,rfl⟩
   rw [N_]
   have e1:vl [a,b]=10*(a - 48).toNat+(b - 48).toNat:=by show 10*(10*0+(a - 48).toNat)+(b - 48).toNat=_;omega
   have e2:vl (t.take n++[a,b])=10*(10*vl (t.take n)+(a - 48).toNat)+(b - 48).toNat:=by
    rw [show t.take n++[a,b]=(t.take n++[a])++[b] by simp,cX,cX]
   rw [e1,e2];omega
def Bo (t:List Int) (n i:Nat):List Int:=if i<=n then t.take i else t.take n++(t.drop (n+1)).take (i - n - 1)
theorem HC {t:List Int} {n i:Nat} {x:Int} (hi:i≠n) (hx:t[i]? =some x):Bo t n (i+1)=Bo t n i++[x]:=by
 unfold Bo
 rcases Nat.lt_or_ge i n with h | h
 · rw [if_pos (by omega),if_pos (by omega),List.take_add_one,hx];rfl
 · rw [if_neg (by omega),if_neg (by omega),List.append_assoc,show i+1 - n - 1=(i - n - 1)+1 by omega,List.take_add_one,List.getElem?_drop,show n+1+(i - n - 1)=i by omega,hx];rfl
theorem HD (t:List Int) (n:Nat):Bo t n (n+1)=Bo t n n:=by
 unfold Bo;rw [if_neg (by omega),if_pos (by omega)];simp
theorem J_ {t:List Int} {n:Nat} (h:t.length=n+3):Bo t n t.length=t.take n++t.drop (n+1):=by
 unfold Bo;rw [if_neg (by omega),List.take_of_length_le (l:=t.drop (n+1)) (by simp;omega)]
set_option maxHeartbeats 4000000 in
theorem AJ (s:ByteArray) (hs:s.size<1000000) (K) (h:K (.ret (.aQ [.int .i64 (bT (sB s)).1,.int .i64 (bT (sB s)).2])) []):ah Tryz.prog 118 [.str s] [] K:=by
 have hb:=kA s
 have hl:=bh s
 have DN:=rM hb
 have Qq:=vj (sB s)
 have dV: ¬mo (bq (sB s))->K (.ret (.aQ [.int .i64 0,.int .i64 4])) []:=fun hn=>by
  have:bT (sB s)=(0,4):=by unfold bT;rw [if_pos hn]
  rw [this] at h;exact h
 refine ag [] 0 Tryz.func118 (by rfl) (by rfl) ?_;(conv=>whnf);(repeat (refine aa [] ?_;conv=>whnf))
 have key: ∀(R G:Prop),((Unit->R)->G)->R->G:=fun R G h1 h2=>h1 fun _=>h2
 let Sm:St:=⟨(.str s:: .undef:: .int .i64 0:: .int .i64 0:: .str (az (bq (sB s))):: .undef:: .undef:: .undef:: .undef:: .undef:: .undef:: .undef:: .undef:: .undef:: .undef:: .undef:: .undef:: .undef:: .undef:: .undef:: .undef:: .undef:: .undef:: .undef:: .undef:: .undef:: .undef:: .undef:: .undef:: .undef:: .undef:: .undef:: .undef:: .undef:: .undef:: .undef:: .undef:: .undef:: .undef:: .undef:: .undef:: .undef:: .undef:: .undef:: .undef:: .undef:: .undef:: .undef:: .undef:: .undef:: .undef:: .undef:: .undef:: .undef:: .undef:: .undef:: .undef:: .undef:: .undef:: .undef:: .undef:: .undef:: .undef:: .undef:: .undef:: .undef:: .undef:: .undef:: .undef:: .undef:: .undef:: .undef:: .undef:: .undef:: .undef:: .undef:: .undef:: .undef:: .undef:: .undef:: .undef:: .undef:: .undef:: .undef:: .undef:: .undef:: .undef:: .undef:: .undef:: .undef:: .undef::[]),[],0,[]⟩
 refine key ?R _ ?h ?r
 case h=>
  intro rest
  refine two (fun g=> ?_) (fun g=> ?_)
  · have g:0<s.size:=by have:=of_decide_eq_true g;omega
    obtain ⟨x,r,hx⟩: ∃x r,sB s=x::r:=by
     cases hc:sB s with
     | nil=>rw [hc] at hl;simp at hl;omega
     | cons x r=>exact ⟨x,r,rfl⟩
    conv=>whnf
    refine aU (x:=x) (by omega) (by rw [hx];rfl) fun c hc=> ?_
    rw [hc];(conv=>whnf);(repeat (refine aa [] ?_;conv=>whnf))
    refine two (fun g2=> ?_) (fun g2=> ?_)
    · have g2:x=45:=by simpa using g2
      conv=>whnf
      refine ⟨by omega,by omega,?_⟩;conv=>whnf
      rw [mj s (l:=bq (sB s)) (by rw [List.take_of_length_le (by omega),hx,g2,J9];rfl)]
      refine eU.dv (s':=Sm) (ae ?_ .nil rfl rfl rfl) ?_
      · (repeat' first | exact aq.nil | refine aq.cons VW.undef ?_ | refine aq.cons (VW.eq rfl) ?_)
      exact rest ()
    · have g2:x≠45:=by simpa using g2
      conv=>whnf
      have e:s=az (bq (sB s)):=by rw [hx,J8 g2, ←hx,gk]
      refine eU.dv (s':=Sm) (ae ?_ .nil rfl rfl rfl) ?_
      · repeat' first
         | exact aq.nil
         | refine aq.cons VW.undef ?_
         | refine aq.cons (VW.eq (congrArg V.str e)) ?_
         | refine aq.cons (VW.eq rfl) ?_
      exact rest ()
  · have g:s.size=0:=by have:=of_decide_eq_false g;omega
    have e0:sB s=[]:=List.length_eq_zero_iff.1 (by rw [bh];exact g)
    have e:s=az (bq (sB s)):=by rw [e0];exact yD e0
    conv=>whnf
    refine aa [] ?_;conv=>whnf
    refine eU.dv (s':=Sm) (ae ?_ .nil rfl rfl rfl) ?_
    · repeat' first
       | exact aq.nil
       | refine aq.cons VW.undef ?_
       | refine aq.cons (VW.eq (congrArg V.str e)) ?_
       | refine aq.cons (VW.eq rfl) ?_
    exact rest ()
 case r=>
 (conv=>whnf);(repeat (refine aa [] ?_;conv=>whnf))
 have UY: ∃t,bq (sB s)=t:=⟨_,rfl⟩
 obtain ⟨t,ht⟩:=UY
 rw [ht] at DN Qq dV
 rw [ht]
 have UZ:IntKind.i64.wrap (((az t).size:Int) - 3)=(t.length:Int) - 3:=by rw [aI,wrap64 (by omega) (by omega)]
 rw [UZ]
 refine two (fun g=> ?_) (fun g=> ?_)
 · have g:=of_decide_eq_true g
   (conv=>whnf);(repeat (refine aa [] ?_;conv=>whnf))
   exact dV fun hk=>by obtain ⟨n,f1,f2,_⟩:=fJ hk;omega
 have g:=of_decide_eq_false g
 obtain ⟨n,hn⟩: ∃n,t.length=n+3:=⟨t.length - 3,by omega⟩
 rw [show (t.length:Int) - 3=(n:Int) by omega]
 (conv=>whnf);(repeat (refine aa [] ?_;conv=>whnf))
 refine two (fun g2=> ?_) (fun g2=> ?_)
 · have g2:=of_decide_eq_true g2
   (conv=>whnf);(repeat (refine aa [] ?_;conv=>whnf))
   exact dV fun hk=>by obtain ⟨n,f1,f2,f3,_⟩:=fJ hk;omega
 have g2:=of_decide_eq_false g2
 (conv=>whnf);(repeat (refine aa [] ?_;conv=>whnf))
 obtain ⟨p,hp⟩: ∃p,t[n]? =some p:=⟨_,List.getElem?_eq_getElem (by omega)⟩
 refine aU (x:=p) (by omega) (by rw [aT DN,Int.toNat_natCast];exact hp) fun c hc=> ?_
 rw [hc];(conv=>whnf);(repeat (refine aa [] ?_;conv=>whnf))
 refine two (fun g3=> ?_) (fun g3=> ?_)
 · have g3:p≠46:=by simpa using g3
   (conv=>whnf);(repeat (refine aa [] ?_;conv=>whnf))
   exact dV fun hk=>by
    obtain ⟨m,f1,f2,f3,f4,_⟩:=fJ hk
    rw [show m=n by omega,hp] at f4
    exact g3 (Option.some.inj f4)
 have g3:p=46:=by simpa using g3
 subst g3
 (conv=>whnf);(repeat (refine aa [] ?_;conv=>whnf))
 have key: ∀(R G:Prop),((Unit->R)->G)->R->G:=fun R G h1 h2=>h1 fun _=>h2
 let Sm:St:=⟨(.str s:: .undef:: .int .i64 0:: .int .i64 0:: .str (az t):: .int .i64 n:: .undef:: .undef:: .undef:: .undef:: .undef:: .undef:: .undef:: .undef:: .undef:: .undef:: .undef:: .undef:: .undef:: .undef:: .undef:: .undef:: .undef:: .undef:: .undef:: .undef:: .undef:: .undef:: .undef:: .undef:: .undef:: .undef:: .undef:: .undef:: .undef:: .undef:: .undef:: .undef:: .undef:: .undef:: .undef:: .undef:: .undef:: .undef:: .undef:: .undef:: .undef:: .undef:: .undef:: .undef:: .undef:: .undef:: .undef:: .undef:: .undef:: .undef:: .undef:: .undef:: .undef:: .undef:: .undef:: .undef:: .undef:: .undef:: .undef:: .undef:: .undef:: .undef:: .undef:: .undef:: .undef:: .undef:: .undef:: .undef:: .undef:: .undef:: .undef:: .undef:: .undef:: .undef:: .undef:: .undef:: .undef:: .undef:: .undef:: .undef:: .undef:: .undef:: .undef:: .undef:: .undef::[]),[],0,[]⟩
 refine key (n=1\/t.head?≠some 48-> ?R2) _ ?h2 ?r2
 case h2=>
  intro rest
  refine two (fun g4=> ?_) (fun g4=> ?_)
  · have g4:=of_decide_eq_true g4
    obtain ⟨x,r,hx⟩: ∃x r,t=x::r:=by
     cases hc:t with
     | nil=>rw [hc] at hn;simp at hn
     | cons x r=>exact ⟨x,r,rfl⟩
    conv=>whnf
    refine aU (x:=x) (by omega) (by rw [aT DN,hx];rfl) fun c hc=> ?_
    rw [hc];(conv=>whnf);(repeat (refine aa [] ?_;conv=>whnf))
    refine two (fun g5=> ?_) (fun g5=> ?_)
    · have g5:x=48:=by simpa using g5
      (conv=>whnf);(repeat (refine aa [] ?_;conv=>whnf))
      exact dV fun hk=>by
       obtain ⟨m,f1,f2,f3,f4,f5,_⟩:=fJ hk
       rcases f5 with f5 | f5
       · omega
       · rw [hx,g5] at f5;simp at f5
    · have g5:x≠48:=by simpa using g5
      conv=>whnf
      refine eU.dv (s':=Sm) (ae ?_ .nil rfl rfl rfl) ?_
      · (repeat' first | exact aq.nil | refine aq.cons VW.undef ?_ | refine aq.cons (VW.eq rfl) ?_)
      exact rest () (.inr (by rw [hx];simpa using g5))
  · have g4:=of_decide_eq_false g4
    conv=>whnf
    refine aa [] ?_;conv=>whnf
    refine eU.dv (s':=Sm) (ae ?_ .nil rfl rfl rfl) ?_
    · (repeat' first | exact aq.nil | refine aq.cons VW.undef ?_ | refine aq.cons (VW.eq rfl) ?_)
    exact rest () (.inl (by omega))
 case r2=>
 intro h0
 (conv=>whnf);(repeat (refine aa [] ?_;conv=>whnf))
 let S:Nat × Int × Bool->St:=fun ⟨i,w,o⟩=>⟨(.str s:: .undef:: .int .i64 0:: .int .i64 0:: .str (az t):: .int .i64 n:: .int .i64 w:: .bool o:: .int .i64 i:: .undef:: .undef:: .undef:: .undef:: .undef:: .undef:: .undef:: .undef:: .undef:: .undef:: .undef:: .undef:: .undef:: .undef:: .undef:: .undef:: .undef:: .undef:: .undef:: .undef:: .undef:: .undef:: .undef:: .undef:: .undef:: .undef:: .undef:: .undef:: .undef:: .undef:: .undef:: .undef:: .undef:: .undef:: .undef:: .undef:: .undef:: .undef:: .undef:: .undef:: .undef:: .undef:: .undef:: .undef:: .undef:: .undef:: .undef:: .undef:: .undef:: .undef:: .undef:: .undef:: .undef:: .undef:: .undef:: .undef:: .undef:: .undef:: .undef:: .undef:: .undef:: .undef:: .undef:: .undef:: .undef:: .undef:: .undef:: .undef:: .undef:: .undef:: .undef:: .undef:: .undef:: .undef:: .undef:: .undef:: .undef:: .undef:: .undef:: .undef:: .undef:: .undef::[]),[],0,[]⟩
 refine aA.enter (s':=S (0,0,false)) (ae ?_ .nil rfl rfl rfl)
  (aA.dC S (fun x=>n+3 - x.1) (fun x=>x.1<=n+3/\(∀(j:Nat) y,j<x.1->j≠n->t[j]? =some y->cw y)/\((x.2.2=false/\x.2.1=(vl (Bo t n x.1):Int)/\x.2.1<=10000000000000009)\/(x.2.2=true/\1000000000000000<vl (Bo t n x.1)))) ?_ (0,0,false) ⟨by simp,fun j y hj=>absurd hj (by simp),.inl ⟨rfl,by simp [Bo,rJ],by simp⟩⟩)
 · (repeat' first | exact aq.nil | refine aq.cons VW.undef ?_ | refine aq.cons (VW.eq rfl) ?_)
 rintro ⟨i,w,o⟩ ⟨hi,hd,hw⟩ ih
 simp only at hi hd hw
 refine ai [] ?_;(conv=>whnf);(repeat (refine aa [] ?_;conv=>whnf))
 refine two (fun g=> ?_) (fun g=> ?_)
 · have g:i<n+3:=by have:=of_decide_eq_true g;rw [aI] at this;omega
   (conv=>whnf);(repeat (refine aa [] ?_;conv=>whnf))
   refine two (fun g4=> ?_) (fun g4=> ?_)
   · have g4:i=n:=by have:=beq_iff_eq.1 g4;omega
     (conv=>whnf);(repeat (refine aa [] ?_;conv=>whnf))
     refine ⟨S (i+1,w,o),ae ?_ .nil rfl rfl rfl,ih (i+1,w,o) ⟨by simp only;omega,fun j y hj Mv hy=>hd j y (by simp only at hj;omega) Mv hy,?_⟩ (by simp only;omega)⟩
     · repeat' first
        | exact aq.nil
        | refine aq.cons VW.undef ?_
        | refine aq.cons (VW.eq rfl) ?_
        | refine aq.cons (VW.eq (congrArg (V.int .i64) (by rw [wrap64 (by omega) (by omega)];omega))) ?_
     · have e:Bo t n (i+1)=Bo t n i:=by rw [g4,HD]
       simp only;rw [e];exact hw
   · have g4:i≠n:=by intro e;rw [e] at g4;simp at g4
     obtain ⟨x,hx⟩: ∃x,t[i]? =some x:=⟨_,List.getElem?_eq_getElem (by omega)⟩
     have U0:=DN x (List.mem_of_getElem? hx)
     have iI:=HC g4 hx
     (conv=>whnf);(repeat (refine aa [] ?_;conv=>whnf))
     refine aU (x:=x) (by omega) (by rw [aT DN,Int.toNat_natCast];exact hx) fun c hc=> ?_
     rw [hc];(conv=>whnf);(repeat (refine aa [] ?_;conv=>whnf))
     refine mr x _ ?_;(conv=>whnf);(repeat (refine aa [] ?_;conv=>whnf))
     refine two (fun g5=> ?_) (fun g5=> ?_)
     · have g5: ¬cw x:=by simpa using g5
       (conv=>whnf);(repeat (refine aa [] ?_;conv=>whnf))
       refine ⟨_,aB.refl,?_⟩;(conv=>whnf);(repeat (refine aa [] ?_;conv=>whnf))
       exact dV fun hk=>by
        obtain ⟨m,f1,f2,f3,f4,f5,f6⟩:=fJ hk
        exact g5 (f6 i x (by omega) hx)
     have g5:cw x:=by simpa using g5
     have RV: ∀(j:Nat) y,j<i+1->j≠n->t[j]? =some y->cw y:=fun j y hj Mv hy=>by
      by_cases e:j=i
      · subst e;rw [hx] at hy;cases hy;exact g5
      · exact hd j y (by omega) Mv hy
     have To:vl (Bo t n (i+1))=10*vl (Bo t n i)+(x - 48).toNat:=by rw [iI,cX]
     unfold cw at g5
     (conv=>whnf);(repeat (refine aa [] ?_;conv=>whnf))
     cases o with
     | true=>
       (conv=>whnf);(repeat (refine aa [] ?_;conv=>whnf))
       refine ⟨S (i+1,w,true),ae ?_ .nil rfl rfl rfl,ih (i+1,w,true) ⟨by simp only;omega,RV,.inr ⟨rfl,?_⟩⟩ (by simp only;omega)⟩
       · repeat' first
          | exact aq.nil
          | refine aq.cons VW.undef ?_
          | refine aq.cons (VW.eq rfl) ?_
          | refine aq.cons (VW.eq (congrArg (V.int .i64) (by rw [wrap64 (by omega) (by omega)];omega))) ?_
       · simp only
         rcases hw with ⟨h1,_⟩ | ⟨_,h2⟩
         · cases h1
         · omega
     | false=>
       obtain ⟨ze,p7⟩:w=(vl (Bo t n i):Int)/\w<=10000000000000009:=by
        rcases hw with ⟨_,h2⟩ | ⟨h1,_⟩
        · exact h2
        · cases h1
       (conv=>whnf);(repeat (refine aa [] ?_;conv=>whnf))
       refine two (fun g6=> ?_) (fun g6=> ?_)
       · have g6: ¬w>1000000000000000:=by simpa using g6
         (conv=>whnf);(repeat (refine aa [] ?_;conv=>whnf))
         refine aU (x:=x) (by omega) (by rw [aT DN,Int.toNat_natCast];exact hx) fun c hc=> ?_
         rw [hc];(conv=>whnf);(repeat (refine aa [] ?_;conv=>whnf))
         have e:IntKind.i64.wrap (IntKind.i64.wrap (10*w)+IntKind.i64.wrap (IntKind.u8.wrap (x - 48)))=10*w+(x - 48):=by
          rw [mm (by omega) (by omega),wrap64 (x:=10*w) (by omega) (by omega),wrap64 (x:=x - 48) (by omega) (by omega),wrap64 (by omega) (by omega)]
         have e2:(decide (w>1000000000000000))=false:=decide_eq_false g6
         rw [e2]
         refine ⟨S (i+1,10*w+(x - 48),false),ae ?_ .nil rfl rfl rfl,ih (i+1,10*w+(x - 48),false) ⟨by simp only;omega,RV,.inl ⟨rfl,?_⟩⟩ (by simp only;omega)⟩
         · repeat' first
            | exact aq.nil
            | refine aq.cons VW.undef ?_
            | refine aq.cons (VW.eq rfl) ?_
            | refine aq.cons (VW.eq (congrArg (V.int .i64) (by rw [wrap64 (by omega) (by omega)];omega))) ?_
            | refine aq.cons (VW.eq (congrArg (V.int .i64) e)) ?_
         · simp only;rw [To];omega
       · have g6:w>1000000000000000:=by simpa using g6
         (conv=>whnf);(repeat (refine aa [] ?_;conv=>whnf))
         have e2:(decide (w>1000000000000000))=true:=decide_eq_true g6
         rw [e2]
         refine ⟨S (i+1,w,true),ae ?_ .nil rfl rfl rfl,ih (i+1,w,true) ⟨by simp only;omega,RV,.inr ⟨rfl,?_⟩⟩ (by simp only;omega)⟩
         · repeat' first
            | exact aq.nil
            | refine aq.cons VW.undef ?_
            | refine aq.cons (VW.eq rfl) ?_
            | refine aq.cons (VW.eq (congrArg (V.int .i64) (by rw [wrap64 (by omega) (by omega)];omega))) ?_
            | refine aq.cons (VW.eq (congrArg (V.int .i64) e)) ?_
         · simp only;rw [To];omega
 · have g:i=n+3:=by have:=of_decide_eq_false g;rw [aI] at this;omega
   clear ih
   subst g
   rw [←hn] at hd hw
   obtain ⟨c_,hN⟩:=CA hn (by omega) (by omega) hp h0 fun i x hi hx=>hd i x (List.getElem?_eq_some_iff.1 hx).1 hi hx
   rw [J_ hn, ←hN] at hw
   have BM:dJ (sB s) [45]=true↔(sB s).head?=some 45:=Fm
   obtain ⟨x,r,hx⟩: ∃x r,sB s=x::r:=by
    cases hc:sB s with
    | nil=>rw [hc,List.length_nil] at Qq;omega
    | cons x r=>exact ⟨x,r,rfl⟩
   have LS:dJ (sB s) [45]=decide (x=45):=by rw [hx,f_]
   have iN:1000000000000000<dU t->K (.ret (.aQ [.int .i64 0,.int .i64 3])) []:=fun h2=>by
    have:bT (sB s)=(0,3):=by unfold bT;rw [ht,if_neg (by simpa using c_),if_neg (fun h=>by omega),if_pos h2]
    rw [this] at h;exact h
   (conv=>whnf);(repeat (refine aa [] ?_;conv=>whnf))
   refine ⟨_,aB.refl,?_⟩;(conv=>whnf);(repeat (refine aa [] ?_;conv=>whnf))
   cases o with
   | true=>
     (conv=>whnf);(repeat (refine aa [] ?_;conv=>whnf))
     exact iN (by rcases hw with ⟨h1,_⟩ | ⟨_,h2⟩<;>first | cases h1 | exact h2)
   | false=>
     obtain ⟨ze,p7⟩:w=(dU t:Int)/\w<=10000000000000009:=by
      rcases hw with ⟨_,h2⟩ | ⟨h1,_⟩
      · exact h2
      · cases h1
     (conv=>whnf);(repeat (refine aa [] ?_;conv=>whnf))
     refine two (fun g6=> ?_) (fun g6=> ?_)
     · have g6:=of_decide_eq_true g6
       (conv=>whnf);(repeat (refine aa [] ?_;conv=>whnf))
       exact iN (by omega)
     have g6:=of_decide_eq_false g6
     (conv=>whnf);(repeat (refine aa [] ?_;conv=>whnf))
     refine aU (x:=x) (by omega) (by rw [hx];rfl) fun c hc=> ?_
     rw [hc];(conv=>whnf);(repeat (refine aa [] ?_;conv=>whnf))
     refine two (fun g7=> ?_) (fun g7=> ?_)
     · have g7:x=45:=by simpa using g7
       have HE:dJ (sB s) [45]=true:=by rw [LS,g7];rfl
       (conv=>whnf);(repeat (refine aa [] ?_;conv=>whnf))
       refine two (fun g8=> ?_) (fun g8=> ?_)
       · have g8:w=0:=by simpa using g8
         (conv=>whnf);(repeat (refine aa [] ?_;conv=>whnf))
         have:bT (sB s)=(0,4):=by unfold bT;rw [ht,if_neg (by simpa using c_),if_pos ⟨HE,by omega⟩]
         rw [this] at h;exact h
       · have g8:w≠0:=by simpa using g8
         (conv=>whnf);(repeat (refine aa [] ?_;conv=>whnf))
         refine aU (x:=x) (by omega) (by rw [hx];rfl) fun c hc=> ?_
         rw [hc];(conv=>whnf);(repeat (refine aa [] ?_;conv=>whnf))
         refine yes (by simpa using g7) ?_;(conv=>whnf);(repeat (refine aa [] ?_;conv=>whnf))
         rw [show IntKind.i64.wrap (0 - w)= -w by rw [wrap64 (by omega) (by omega)];omega]
         have:bT (sB s)=(-w,0):=by unfold bT;rw [ht,if_neg (by simpa using c_),if_neg (fun h=>by omega),if_neg (by omega),if_pos HE,ze]
         rw [this] at h;exact h
     · have g7:x≠45:=by simpa using g7
       have HE: ¬dJ (sB s) [45]=true:=by rw [LS];simpa using g7
       (conv=>whnf);(repeat (refine aa [] ?_;conv=>whnf))
       refine aU (x:=x) (by omega) (by rw [hx];rfl) fun c hc=> ?_
       rw [hc];(conv=>whnf);(repeat (refine aa [] ?_;conv=>whnf))
       refine no (by simpa using g7) ?_;(conv=>whnf);(repeat (refine aa [] ?_;conv=>whnf))
       have:bT (sB s)=(w,0):=by unfold bT;rw [ht,if_neg (by simpa using c_),if_neg (fun h=>HE h.1),if_neg (by omega),if_neg HE,ze]
       rw [this] at h;exact h
end LQ
namespace MW
open Go Go.Proofs VL D1 B2 B4 B5 B7 B8 eG zh kb kj D2 pG D3 Qt wg LQ
def scan (n:Nat):Nat->List Int->Int × Nat × Int->Option (Int × Nat × Int)
 | _,[],st=>some st
 | i,x::r,(v,d,p)=>
   if x=45/\i=0 then scan n (i+1) r (v,d,p)
   else if x=37/\i+1=n then scan n (i+1) r (v,d,p)
   else if x=46/\p<0 then scan n (i+1) r (v,d,(d:Int))
   else if cw x/\d<12 then scan n (i+1) r (10*v+(x - 48),d+1,p)
   else none
def qv:Nat->Int->Int
 | 0,v=>v
 | k+1,v=>qv k (IntKind.i64.wrap (10*v))
theorem AK: ∀(k:Nat) (v:Nat),v*10^k<9223372036854775808->qv k (v:Int)=((v*10^k:Nat):Int)
 | 0,v,h=>by simp [qv]
 | k+1,v,h=>by
   have e:v*10^(k+1)=v*10*10^k:=by rw [Nat.pow_succ,Nat.mul_comm (10^k),Nat.mul_assoc]
   have hp:1<=10^k:=Nat.one_le_pow _ _ (by omega)
   have h1:v*10<=v*10*10^k:=Nat.le_mul_of_pos_right _ hp
   rw [qv,show (10:Int)*(v:Int)=((v*10:Nat):Int) by omega,wrap64 (by omega) (by omega),AK k (v*10) (by rw [←e];exact h),e]
theorem xp: ∀(k:Nat) (v:Int),bM v->bM (qv k v)
 | 0,v,h=>h
 | k+1,v,h=>xp k _ (by
   have:IntKind.i64.wrap (10*v)=(10*v+9223372036854775808) %18446744073709551616 - 9223372036854775808:=IntKind.wrap_i64 _
   unfold bM;omega)
theorem rP (n:Nat): ∀(l:List Int) (i:Nat) (r:List Int) (v d:Nat) (p:Int),(∀x∈l,cw x)->d+l.length<=12->scan n i (l++r) ((v:Int),d,p)=scan n (i+l.length) r (((l.foldl (fun v c=>10*v+(c - 48).toNat) v:Nat):Int),d+l.length,p)
 | [],i,r,v,d,p,_,_=>by simp
 | x::l,i,r,v,d,p,h,hl=>by
   have hx:=h x (by simp)
   have p5:=hx
   unfold cw at p5
   simp only [List.length_cons] at hl
   rw [List.cons_append,scan,if_neg (fun e=>by omega),if_neg (fun e=>by omega),if_neg (fun e=>by omega),if_pos ⟨hx,by omega⟩]
   rw [show (10*(v:Int)+(x - 48))=((10*v+(x - 48).toNat:Nat):Int) by omega,rP n l (i+1) r _ (d+1) p (fun y hy=>h y (by simp [hy])) (by omega)]
   rw [List.foldl_cons,List.length_cons]
   congr 1
   · omega
   · congr 2;omega
theorem DQ (l:List Int) (v:Nat):l.foldl (fun v c=>10*v+(c - 48).toNat) v=v*10^l.length+vl l:=by
 induction h:l.length generalizing l with
 | zero=>rw [List.length_eq_zero_iff.1 h];simp [rJ]
 | succ k ih=>
   rcases List.eq_nil_or_concat l with rfl | ⟨m,x,rfl⟩
   · simp at h
   rw [List.concat_eq_append] at h ⊢
   rw [List.foldl_append,ih m (by simpa using h),cX,Nat.pow_succ]
   simp only [List.foldl_cons,List.foldl_nil]
   rw [←Nat.mul_assoc,Nat.mul_add]
   have:10*(v*10^k)=v*10^k*10:=Nat.mul_comm _ _
   omega
theorem yF (l:List Int) (k:Nat):vl (l++List.replicate k 48)=vl l*10^k:=by
 induction k with
 | zero=>simp
 | succ k ih=>rw [List.replicate_succ', ←List.append_assoc,cX,ih,Nat.pow_succ, ←Nat.mul_assoc (vl l)];omega
theorem AL {n i:Nat} {v:Int} {d:Nat} {p:Int} (h:i+1=n) (h0:0<i):scan n i [37] (v,d,p)=some (v,d,p):=by
 rw [scan,if_neg (fun e=>by omega),if_pos ⟨rfl,h⟩,scan]
theorem xq {c:Int} (h: -10000000000<=c/\c<=10000000000): ∃(v d:Nat) (p:Int) (e:Nat),scan (ct c).length 0 (ct c) (0,0, -1)=some ((v:Int),d,p)/\
 (d:Int) - (if p<0 then (d:Int) else p)=e/\e<=7/\v*10^(7 - e)=c.natAbs/\p<=d/\ -1<=p:=by
 have hq:c.natAbs/10000000<=1000:=by omega
 have Q0:(dg (c.natAbs/10000000)).length<=4:=ov 3 _ (by omega)
 have dh:=mi (c.natAbs/10000000)
 have hs: ∃i0,i0+(dg (c.natAbs/10000000)++(ed (c.natAbs %10000000)++[37])).length=(ct c).length/\scan (ct c).length 0 (ct c) (0,0, -1)=scan (ct c).length i0 (dg (c.natAbs/10000000)++(ed (c.natAbs %10000000)++[37])) (0,0, -1):=by
  have hR:ct c=qq c++(dg (c.natAbs/10000000)++(ed (c.natAbs %10000000)++[37])):=by unfold ct;simp
  by_cases hc:c<0
  · have:qq c=[45]:=by unfold qq;rw [if_pos hc]
    refine ⟨1,by rw [hR,this];simp;omega,?_⟩
    conv=>lhs;rw [hR,this]
    rw [List.singleton_append,scan,if_pos ⟨rfl,rfl⟩,hR,this];rfl
  · have:qq c=[]:=by unfold qq;rw [if_neg hc]
    refine ⟨0,by rw [hR,this];simp,?_⟩
    conv=>lhs;rw [hR,this]
    rw [hR,this];rfl
 obtain ⟨i0,hi,DR⟩:=hs
 rw [DR]
 have h1:=rP (ct c).length (dg (c.natAbs/10000000)) i0 (ed (c.natAbs %10000000)++[37]) 0 0 (-1) (gn _) (by omega)
 rw [show ((0:Nat):Int)=0 from rfl] at h1
 rw [h1,DQ,Hm,Nat.zero_mul,Nat.zero_add,Nat.zero_add]
 obtain ⟨q,eq⟩: ∃q,c.natAbs/10000000=q:=⟨_,rfl⟩
 obtain ⟨r,er⟩: ∃r,c.natAbs %10000000=r:=⟨_,rfl⟩
 rw [eq] at Q0 dh
 rw [eq,er] at hi
 rw [eq,er]
 unfold ed at hi ⊢
 by_cases h0:r=0
 · rw [if_pos h0] at hi ⊢
   rw [List.nil_append] at hi ⊢
   rw [AL (by simp at hi;omega) (by omega)]
   refine ⟨q,(dg q).length, -1,0,rfl,by simp,by omega,by simp;omega,by omega,by omega⟩
 · rw [if_neg h0] at hi ⊢
   obtain ⟨f1,f2⟩:=pF h0 (by omega)
   obtain ⟨T,eT⟩: ∃T,dD (fL 7 r)=T:=⟨_,rfl⟩
   rw [eT] at f1 f2 hi
   rw [eT,List.cons_append,scan,if_neg (fun e=>by omega),if_neg (fun e=>by omega),if_pos ⟨rfl,by omega⟩]
   have h2:=rP (ct c).length T (i0+(dg q).length+1) [37] q (dg q).length ((dg q).length:Int) f1.2.2.2 (by have:=f1.2.1;omega)
   rw [h2,DQ,AL (by simp at hi;omega) (by omega)]
   refine ⟨_,_,_,T.length,rfl,?_,f1.2.1,?_,by omega,by omega⟩
   · rw [if_neg (by omega)];omega
   · have hT:=f1.2.1
     unfold gK at f2
     rw [yF] at f2
     rw [Nat.add_mul,f2,Nat.mul_assoc, ←Nat.pow_add,show T.length+(7 - T.length)=7 by omega]
     omega
theorem xr (l:List Int):(∃c,bH l=(c,0))\/bH l=(0,4):=by
 unfold bH
 split
 · exact .inl ⟨_,rfl⟩
 · exact .inr rfl
theorem AM {d:Nat} (h:d<=12):(10:Int)^d<=1000000000000:=by
 have h1:(10:Nat)^d<=1000000000000:=Nat.le_trans (Nat.pow_le_pow_right (by omega) h) (by decide)
 rw [show (10:Int)^d=((10^d:Nat):Int) from (Int.natCast_pow 10 d).symm]
 omega
set_option maxHeartbeats 4000000 in
theorem AN (s:ByteArray) (hs:s.size<1000000) (K) (h:K (.ret (.aQ [.int .i64 (bH (sB s)).1,.int .i64 (bH (sB s)).2])) []):ah Tryz.prog 117 [.str s] [] K:=by
 have Qn:=kA s
 have hl:=bh s
 have mZ: ∀c,bH (sB s)=(c,0)->ct c=sB s/\ -10000000000<=c/\c<=10000000000:=fun c hc=>Fj hc
 have dV:scan (sB s).length 0 (sB s) (0,0, -1)=none->K (.ret (.aQ [.int .i64 0,.int .i64 4])) []:=fun hn=>by
  rcases xr (sB s) with ⟨c,hc⟩ | hc
  · obtain ⟨h1,h2⟩:=mZ c hc
    obtain ⟨v,d,p,e,h3,_⟩:=xq h2
    rw [h1,hn] at h3;cases h3
  · rw [hc] at h;exact h
 refine ag [] 0 Tryz.func117 (by rfl) (by rfl) ?_;(conv=>whnf);(repeat (refine aa [] ?_;conv=>whnf))
 let S:Nat × Int × Nat × Int->St:=fun ⟨i,v,d,p⟩=>⟨(.str s:: .undef:: .int .i64 0:: .int .i64 0:: .int .i64 v:: .int .i64 d:: .int .i64 p:: .int .i64 i:: .undef:: .undef:: .undef:: .undef:: .undef:: .undef:: .undef:: .undef:: .undef:: .undef:: .undef:: .undef:: .undef:: .undef:: .undef:: .undef:: .undef:: .undef:: .undef:: .undef:: .undef:: .undef:: .undef:: .undef:: .undef:: .undef:: .undef:: .undef:: .undef:: .undef:: .undef:: .undef:: .undef:: .undef:: .undef:: .undef:: .undef:: .undef:: .undef:: .undef:: .undef:: .undef:: .undef:: .undef:: .undef:: .undef:: .undef:: .undef:: .undef:: .undef:: .undef:: .undef:: .undef:: .undef:: .undef:: .undef:: .undef:: .undef:: .undef:: .undef:: .undef:: .undef:: .undef:: .undef:: .undef:: .undef:: .undef:: .undef:: .undef:: .undef:: .undef:: .undef:: .undef:: .undef:: .undef:: .undef:: .undef:: .undef:: .undef:: .undef:: .undef:: .undef:: .undef:: .undef:: .undef:: .undef:: .undef:: .undef:: .undef:: .undef:: .undef:: .undef:: .undef:: .undef:: .undef:: .undef:: .undef:: .undef::[]),[],0,[]⟩
 refine aA.enter (s':=S (0,0,0, -1)) (ae ?_ .nil rfl rfl rfl)
  (aA.dC S (fun x=>s.size - x.1) (fun x=>x.1<=s.size/\scan (sB s).length x.1 ((sB s).drop x.1) (x.2.1,x.2.2.1,x.2.2.2)=scan (sB s).length 0 (sB s) (0,0, -1)/\(0<=x.2.1/\x.2.1<10^x.2.2.1/\x.2.2.1<=12/\x.2.2.2<=x.2.2.1/\ -1<=x.2.2.2)) ?_ (0,0,0, -1) ⟨by simp,by simp,by simp⟩)
 · (repeat' first | exact aq.nil | refine aq.cons VW.undef ?_ | refine aq.cons (VW.eq rfl) ?_)
 rintro ⟨i,v,d,p⟩ ⟨hi,DR,hb⟩ ih
 simp only at hi DR hb
 have U1:=AM hb.2.2.1
 refine ai [] ?_;(conv=>whnf);(repeat (refine aa [] ?_;conv=>whnf))
 refine two (fun g=> ?_) (fun g=> ?_)
 · have g:i<s.size:=by have:=of_decide_eq_true g;omega
   obtain ⟨x,hx⟩: ∃x,(sB s)[i]? =some x:=⟨_,List.getElem?_eq_getElem (by omega)⟩
   have U0:=Qn x (List.mem_of_getElem? hx)
   have dW:(sB s).drop i=x::(sB s).drop (i+1):=by
    rw [List.drop_eq_getElem_cons (by omega)]
    congr 1
    rw [List.getElem?_eq_getElem (by omega)] at hx;exact Option.some.inj hx
   (conv=>whnf);(repeat (refine aa [] ?_;conv=>whnf))
   refine aU (x:=x) (by omega) (by rw [Int.toNat_natCast];exact hx) fun c hc=> ?_
   rw [hc];(conv=>whnf);(repeat (refine aa [] ?_;conv=>whnf))
   refine two (fun g1=> ?_) (fun g1=> ?_)
   · have g1:x=45:=by simpa using g1
     subst g1
     (conv=>whnf);(repeat (refine aa [] ?_;conv=>whnf))
     refine two (fun g2=> ?_) (fun g2=> ?_)
     · have g2:i=0:=by have:=beq_iff_eq.1 g2;omega
       (conv=>whnf);(repeat (refine aa [] ?_;conv=>whnf))
       refine ⟨S (i+1,v,d,p),ae ?_ .nil rfl rfl rfl,ih (i+1,v,d,p) ⟨by simp only;omega,?_,⟨hb.1,hb.2.1,hb.2.2.1,hb.2.2.2.1,hb.2.2.2.2⟩⟩ (by simp only;omega)⟩
       · repeat' first
          | exact aq.nil
          | refine aq.cons VW.undef ?_
          | refine aq.cons (VW.eq rfl) ?_
          | refine aq.cons (VW.eq (congrArg (V.int .i64) (by rw [wrap64 (by omega) (by omega)];omega))) ?_
          | refine aq.cons (VW.eq (congrArg (V.int .i64) e)) ?_
       · simp only;rw [←DR,dW,scan,if_pos ⟨rfl,g2⟩]
     · have g2:i≠0:=by intro e;rw [e] at g2;simp at g2
       (conv=>whnf);(repeat (refine aa [] ?_;conv=>whnf))
       refine aU (x:=45) (by omega) (by rw [Int.toNat_natCast];exact hx) fun c hc=> ?_
       rw [hc];(conv=>whnf);(repeat (refine aa [] ?_;conv=>whnf))
       refine aU (x:=45) (by omega) (by rw [Int.toNat_natCast];exact hx) fun c hc=> ?_
       rw [hc];(conv=>whnf);(repeat (refine aa [] ?_;conv=>whnf))
       refine aU (x:=45) (by omega) (by rw [Int.toNat_natCast];exact hx) fun c hc=> ?_
       rw [hc];(conv=>whnf);(repeat (refine aa [] ?_;conv=>whnf))
       refine mr 45 _ ?_;(conv=>whnf);(repeat (refine aa [] ?_;conv=>whnf))
       refine ⟨_,aB.refl,?_⟩;(conv=>whnf);(repeat (refine aa [] ?_;conv=>whnf))
       exact dV (by rw [←DR,dW,scan,if_neg (fun e=>g2 e.2),if_neg (fun e=>by omega),if_neg (fun e=>by omega),if_neg (fun e=>by have:=e.1;unfold cw at this;omega)])
   · have g1:x≠45:=by simpa using g1
     (conv=>whnf);(repeat (refine aa [] ?_;conv=>whnf))
     refine aU (x:=x) (by omega) (by rw [Int.toNat_natCast];exact hx) fun c hc=> ?_
     rw [hc];(conv=>whnf);(repeat (refine aa [] ?_;conv=>whnf))
     refine two (fun g2=> ?_) (fun g2=> ?_)
     · have g2:x=37:=by simpa using g2
       subst g2
       (conv=>whnf);(repeat (refine aa [] ?_;conv=>whnf))
       have hw:IntKind.i64.wrap ((s.size:Int) - 1)=(s.size:Int) - 1:=wrap64 (by omega) (by omega)
       rw [hw]
       refine two (fun g3=> ?_) (fun g3=> ?_)
       · have g3:i+1=(sB s).length:=by have:=beq_iff_eq.1 g3;omega
         (conv=>whnf);(repeat (refine aa [] ?_;conv=>whnf))
         refine ⟨S (i+1,v,d,p),ae ?_ .nil rfl rfl rfl,ih (i+1,v,d,p) ⟨by simp only;omega,?_,⟨hb.1,hb.2.1,hb.2.2.1,hb.2.2.2.1,hb.2.2.2.2⟩⟩ (by simp only;omega)⟩
         · repeat' first
            | exact aq.nil
            | refine aq.cons VW.undef ?_
            | refine aq.cons (VW.eq rfl) ?_
            | refine aq.cons (VW.eq (congrArg (V.int .i64) (by rw [wrap64 (by omega) (by omega)];omega))) ?_
            | refine aq.cons (VW.eq (congrArg (V.int .i64) e)) ?_
         · simp only;rw [←DR,dW,scan,if_neg (fun e=>by omega),if_pos ⟨rfl,g3⟩]
       · have g3: ¬i+1=(sB s).length:=by intro e;rw [show (i:Int)=(s.size:Int) - 1 by omega] at g3;simp at g3
         (conv=>whnf);(repeat (refine aa [] ?_;conv=>whnf))
         refine aU (x:=37) (by omega) (by rw [Int.toNat_natCast];exact hx) fun c hc=> ?_
         rw [hc];(conv=>whnf);(repeat (refine aa [] ?_;conv=>whnf))
         refine aU (x:=37) (by omega) (by rw [Int.toNat_natCast];exact hx) fun c hc=> ?_
         rw [hc];(conv=>whnf);(repeat (refine aa [] ?_;conv=>whnf))
         refine mr 37 _ ?_;(conv=>whnf);(repeat (refine aa [] ?_;conv=>whnf))
         refine ⟨_,aB.refl,?_⟩;(conv=>whnf);(repeat (refine aa [] ?_;conv=>whnf))
         exact dV (by rw [←DR,dW,scan,if_neg (fun e=>by omega),if_neg (fun e=>g3 e.2),if_neg (fun e=>by omega),if_neg (fun e=>by have:=e.1;unfold cw at this;omega)])
     · have g2:x≠37:=by simpa using g2
       (conv=>whnf);(repeat (refine aa [] ?_;conv=>whnf))
       refine aU (x:=x) (by omega) (by rw [Int.toNat_natCast];exact hx) fun c hc=> ?_
       rw [hc];(conv=>whnf);(repeat (refine aa [] ?_;conv=>whnf))
       refine two (fun g3=> ?_) (fun g3=> ?_)
       · have g3:x=46:=by simpa using g3
         subst g3
         (conv=>whnf);(repeat (refine aa [] ?_;conv=>whnf))
         refine two (fun g4=> ?_) (fun g4=> ?_)
         · have g4:=of_decide_eq_true g4
           (conv=>whnf);(repeat (refine aa [] ?_;conv=>whnf))
           refine ⟨S (i+1,v,d,(d:Int)),ae ?_ .nil rfl rfl rfl,ih (i+1,v,d,(d:Int)) ⟨by simp only;omega,?_,⟨hb.1,hb.2.1,hb.2.2.1,by simp only;omega,by simp only;omega⟩⟩ (by simp only;omega)⟩
           · repeat' first
              | exact aq.nil
              | refine aq.cons VW.undef ?_
              | refine aq.cons (VW.eq rfl) ?_
              | refine aq.cons (VW.eq (congrArg (V.int .i64) (by rw [wrap64 (by omega) (by omega)];omega))) ?_
              | refine aq.cons (VW.eq (congrArg (V.int .i64) e)) ?_
           · simp only;rw [←DR,dW,scan,if_neg (fun e=>by omega),if_neg (fun e=>by omega),if_pos ⟨rfl,g4⟩]
         · have g4:=of_decide_eq_false g4
           (conv=>whnf);(repeat (refine aa [] ?_;conv=>whnf))
           refine aU (x:=46) (by omega) (by rw [Int.toNat_natCast];exact hx) fun c hc=> ?_
           rw [hc];(conv=>whnf);(repeat (refine aa [] ?_;conv=>whnf))
           refine mr 46 _ ?_;(conv=>whnf);(repeat (refine aa [] ?_;conv=>whnf))
           refine ⟨_,aB.refl,?_⟩;(conv=>whnf);(repeat (refine aa [] ?_;conv=>whnf))
           exact dV (by rw [←DR,dW,scan,if_neg (fun e=>by omega),if_neg (fun e=>by omega),if_neg (fun e=>g4 e.2),if_neg (fun e=>by have:=e.1;unfold cw at this;omega)])
       · have g3:x≠46:=by simpa using g3
         (conv=>whnf);(repeat (refine aa [] ?_;conv=>whnf))
         refine aU (x:=x) (by omega) (by rw [Int.toNat_natCast];exact hx) fun c hc=> ?_
         rw [hc];(conv=>whnf);(repeat (refine aa [] ?_;conv=>whnf))
         refine mr x _ ?_;(conv=>whnf);(repeat (refine aa [] ?_;conv=>whnf))
         refine two (fun g4=> ?_) (fun g4=> ?_)
         · have g4:=of_decide_eq_true g4
           (conv=>whnf);(repeat (refine aa [] ?_;conv=>whnf))
           refine two (fun g5=> ?_) (fun g5=> ?_)
           · have g5:=of_decide_eq_true g5
             (conv=>whnf);(repeat (refine aa [] ?_;conv=>whnf))
             refine aU (x:=x) (by omega) (by rw [Int.toNat_natCast];exact hx) fun c hc=> ?_
             rw [hc];(conv=>whnf);(repeat (refine aa [] ?_;conv=>whnf))
             have U2:=g4
             unfold cw at U2
             have U3:=AM (d:=d+1) (by omega)
             have WB:(10:Int)^(d+1)=10^d*10:=Int.pow_succ ..
             have e:IntKind.i64.wrap (IntKind.i64.wrap (10*v)+IntKind.i64.wrap (IntKind.u8.wrap (x - 48)))=10*v+(x - 48):=by
              rw [mm (by omega) (by omega),wrap64 (x:=10*v) (by omega) (by omega),wrap64 (x:=x - 48) (by omega) (by omega),wrap64 (by omega) (by omega)]
             refine ⟨S (i+1,10*v+(x - 48),d+1,p),ae ?_ .nil rfl rfl rfl,ih (i+1,10*v+(x - 48),d+1,p) ⟨by simp only;omega,?_,⟨by simp only;omega,by simp only;omega,by simp only;omega,by simp only;omega,hb.2.2.2.2⟩⟩ (by simp only;omega)⟩
             · repeat' first
                | exact aq.nil
                | refine aq.cons VW.undef ?_
                | refine aq.cons (VW.eq rfl) ?_
                | refine aq.cons (VW.eq (congrArg (V.int .i64) (by rw [wrap64 (by omega) (by omega)];omega))) ?_
                | refine aq.cons (VW.eq (congrArg (V.int .i64) e)) ?_
             · simp only;rw [←DR,dW,scan,if_neg (fun e=>g1 e.1),if_neg (fun e=>g2 e.1),if_neg (fun e=>g3 e.1),if_pos ⟨g4,by omega⟩]
           · have g5:=of_decide_eq_false g5
             (conv=>whnf);(repeat (refine aa [] ?_;conv=>whnf))
             refine ⟨_,aB.refl,?_⟩;(conv=>whnf);(repeat (refine aa [] ?_;conv=>whnf))
             exact dV (by rw [←DR,dW,scan,if_neg (fun e=>g1 e.1),if_neg (fun e=>g2 e.1),if_neg (fun e=>g3 e.1),if_neg (fun e=>by omega)])
         · have g4:=of_decide_eq_false g4
           (conv=>whnf);(repeat (refine aa [] ?_;conv=>whnf))
           refine ⟨_,aB.refl,?_⟩;(conv=>whnf);(repeat (refine aa [] ?_;conv=>whnf))
           exact dV (by rw [←DR,dW,scan,if_neg (fun e=>g1 e.1),if_neg (fun e=>g2 e.1),if_neg (fun e=>g3 e.1),if_neg (fun e=>g4 e.1)])
 · have g:i=s.size:=by have:=of_decide_eq_false g;omega
   clear ih
   subst g
   rw [List.drop_of_length_le (by omega),scan] at DR
   have key: ∀(R G:Prop),((Unit->R)->G)->R->G:=fun R G h1 h2=>h1 fun _=>h2
   (conv=>whnf);(repeat (refine aa [] ?_;conv=>whnf))
   refine ⟨_,aB.refl,?_⟩;(conv=>whnf);(repeat (refine aa [] ?_;conv=>whnf))
   obtain ⟨q,hq⟩: ∃q,(if p<0 then (d:Int) else p)=q:=⟨_,rfl⟩
   have qR:0<=q/\q<=d:=by
    rw [←hq];split<;>omega
   obtain ⟨e0,JC⟩: ∃e0:Nat,(d:Int) - q=e0:=⟨((d:Int) - q).toNat,by omega⟩
   let Sm:St:=⟨(.str s:: .undef:: .int .i64 0:: .int .i64 0:: .int .i64 v:: .int .i64 d:: .int .i64 q:: .undef:: .undef:: .undef:: .undef:: .undef:: .undef:: .undef:: .undef:: .undef:: .undef:: .undef:: .undef:: .undef:: .undef:: .undef:: .undef:: .undef:: .undef:: .undef:: .undef:: .undef:: .undef:: .undef:: .undef:: .undef:: .undef:: .undef:: .undef:: .undef:: .undef:: .undef:: .undef:: .undef:: .undef:: .undef:: .undef:: .undef:: .undef:: .undef:: .undef:: .undef:: .undef:: .undef:: .undef:: .undef:: .undef:: .undef:: .undef:: .undef:: .undef:: .undef:: .undef:: .undef:: .undef:: .undef:: .undef:: .undef:: .undef:: .undef:: .undef:: .undef:: .undef:: .undef:: .undef:: .undef:: .undef:: .undef:: .undef:: .undef:: .undef:: .undef:: .undef:: .undef:: .undef:: .undef:: .undef:: .undef:: .undef:: .undef:: .undef:: .undef:: .undef:: .undef:: .undef:: .undef:: .undef:: .undef:: .undef:: .undef:: .undef:: .undef:: .undef:: .undef:: .undef:: .undef:: .undef:: .undef:: .undef:: .undef::[]),[],0,[]⟩
   refine key ?WC _ ?U4 ?U5
   case U4=>
    intro rest
    refine two (fun g=> ?_) (fun g=> ?_)
    · have g:=of_decide_eq_true g
      conv=>whnf
      have e:(d:Int)=q:=by rw [←hq,if_pos g]
      refine eU.dv (s':=Sm) (ae ?_ .nil rfl rfl rfl) ?_
      · repeat' first
         | exact aq.nil
         | refine aq.cons VW.undef ?_
         | refine aq.cons (VW.eq rfl) ?_
         | refine aq.cons (VW.eq (congrArg (V.int .i64) e)) ?_
      exact rest ()
    · have g:=of_decide_eq_false g
      conv=>whnf
      have e:p=q:=by rw [←hq,if_neg g]
      refine eU.dv (s':=Sm) (ae ?_ .nil rfl rfl rfl) ?_
      · repeat' first
         | exact aq.nil
         | refine aq.cons VW.undef ?_
         | refine aq.cons (VW.eq rfl) ?_
         | refine aq.cons (VW.eq (congrArg (V.int .i64) e)) ?_
      exact rest ()
   case U5=>
   (conv=>whnf);(repeat (refine aa [] ?_;conv=>whnf))
   rw [show IntKind.i64.wrap ((d:Int) - q)=(e0:Int) by rw [wrap64 (by omega) (by omega)];exact JC]
   have U6:bM v:=⟨by omega,by omega⟩
   let S2:Nat × Int->St:=fun ⟨j,w⟩=>⟨(.str s:: .undef:: .int .i64 0:: .int .i64 0:: .int .i64 w:: .int .i64 d:: .int .i64 q:: .undef:: .int .i64 j:: .undef:: .undef:: .undef:: .undef:: .undef:: .undef:: .undef:: .undef:: .undef:: .undef:: .undef:: .undef:: .undef:: .undef:: .undef:: .undef:: .undef:: .undef:: .undef:: .undef:: .undef:: .undef:: .undef:: .undef:: .undef:: .undef:: .undef:: .undef:: .undef:: .undef:: .undef:: .undef:: .undef:: .undef:: .undef:: .undef:: .undef:: .undef:: .undef:: .undef:: .undef:: .undef:: .undef:: .undef:: .undef:: .undef:: .undef:: .undef:: .undef:: .undef:: .undef:: .undef:: .undef:: .undef:: .undef:: .undef:: .undef:: .undef:: .undef:: .undef:: .undef:: .undef:: .undef:: .undef:: .undef:: .undef:: .undef:: .undef:: .undef:: .undef:: .undef:: .undef:: .undef:: .undef:: .undef:: .undef:: .undef:: .undef:: .undef:: .undef:: .undef:: .undef:: .undef:: .undef:: .undef:: .undef:: .undef:: .undef:: .undef:: .undef:: .undef:: .undef:: .undef:: .undef:: .undef:: .undef:: .undef::[]),[],0,[]⟩
   refine aA.enter (s':=S2 (e0,v)) (ae ?_ .nil rfl rfl rfl)
    (aA.dC S2 (fun x=>20 - x.1) (fun x=>x.1<=12/\qv (7 - x.1) x.2=qv (7 - e0) v/\(x.1<=7\/x.1=e0)) ?_ (e0,v) ⟨by simp only;omega,rfl,.inr rfl⟩)
   · (repeat' first | exact aq.nil | refine aq.cons VW.undef ?_ | refine aq.cons (VW.eq rfl) ?_)
   rintro ⟨j,w⟩ ⟨hj,hm,U7⟩ ih
   simp only at hj hm U7
   refine ai [] ?_;(conv=>whnf);(repeat (refine aa [] ?_;conv=>whnf))
   refine two (fun g=> ?_) (fun g=> ?_)
   · have g:j<7:=by have:=of_decide_eq_true g;omega
     (conv=>whnf);(repeat (refine aa [] ?_;conv=>whnf))
     refine ⟨S2 (j+1,IntKind.i64.wrap (10*w)),ae ?_ .nil rfl rfl rfl,ih (j+1,IntKind.i64.wrap (10*w)) ⟨by simp only;omega,?_,.inl (by simp only;omega)⟩ (by simp only;omega)⟩
     · repeat' first
        | exact aq.nil
        | refine aq.cons VW.undef ?_
        | refine aq.cons (VW.eq rfl) ?_
        | refine aq.cons (VW.eq (congrArg (V.int .i64) (by rw [wrap64 (x:=(j:Int)+1) (by omega) (by omega)];omega))) ?_
     · simp only
       rw [←hm,show 7 - j=(7 - (j+1))+1 by omega,qv]
   have g:7<=j:=by have:=of_decide_eq_false g;omega
   clear ih
   rw [show 7 - j=0 by omega,qv] at hm
   have U8:bM w:=by rw [hm];exact xp _ _ U6
   have RW: ∀c,bH (sB s)=(c,0)->e0<=7/\w=c.natAbs/\((sB s).head?=some 45↔c<0):=fun c hc=>by
    obtain ⟨h1,h2⟩:=mZ c hc
    obtain ⟨v',d',p',e',q1,q2,q3,q4,q5,q6⟩:=xq h2
    rw [h1, ←DR] at q1
    simp only [Option.some.injEq,Prod.mk.injEq] at q1
    obtain ⟨r1,r2,r3⟩:=q1
    subst r2;subst r3
    rw [hq] at q2
    have RX:e'=e0:=by omega
    subst RX
    refine ⟨q3,?_,?_⟩
    · rw [hm,r1,AK _ _ (by rw [q4];omega),q4]
    · rw [←h1]
      unfold ct
      by_cases Fo:c<0
      · unfold qq;rw [if_pos Fo];simp [Fo]
      · unfold qq
        rw [if_neg Fo]
        obtain ⟨y,r,hy,U9⟩:=DP (c.natAbs/10000000)
        rw [hy]
        unfold cw at U9
        simp [Fo];omega
   (conv=>whnf);(repeat (refine aa [] ?_;conv=>whnf))
   refine ⟨_,aB.refl,?_⟩;(conv=>whnf);(repeat (refine aa [] ?_;conv=>whnf))
   have DS:(∀c,bH (sB s)=(c,0)->False)->K (.ret (.aQ [.int .i64 0,.int .i64 4])) []:=fun hn=>by
    rcases xr (sB s) with ⟨c,hc⟩ | hc
    · exact (hn c hc).elim
    · rw [hc] at h;exact h
   obtain ⟨V,hV⟩: ∃V,(if (sB s).head?=some 45 then IntKind.i64.wrap (0 - w) else w)=V:=⟨_,rfl⟩
   have Ls: ∀y:Int,bM (IntKind.i64.wrap y):=fun y=>by
    have:IntKind.i64.wrap y=(y+9223372036854775808) %18446744073709551616 - 9223372036854775808:=IntKind.wrap_i64 _
    unfold bM;omega
   have Tp:bM V:=by
    rw [←hV];split
    · exact Ls _
    · exact U8
   have DT: ∀c,bH (sB s)=(c,0)->e0<=7/\V=c/\ct c=sB s/\ -10000000000<=c/\c<=10000000000:=fun c hc=>by
    obtain ⟨h1,h2,h3⟩:=RW c hc
    obtain ⟨h4,h5⟩:=mZ c hc
    refine ⟨h1,?_,h4,h5⟩
    rw [←hV]
    by_cases Fo:c<0
    · rw [if_pos (h3.2 Fo),wrap64 (by omega) (by omega)];omega
    · rw [if_neg (fun e=>Fo (h3.1 e))];omega
   let Sn:St:=⟨(.str s:: .undef:: .int .i64 0:: .int .i64 0:: .int .i64 V:: .int .i64 d:: .int .i64 q:: .undef:: .undef:: .undef:: .undef:: .undef:: .undef:: .undef:: .undef:: .undef:: .undef:: .undef:: .undef:: .undef:: .undef:: .undef:: .undef:: .undef:: .undef:: .undef:: .undef:: .undef:: .undef:: .undef:: .undef:: .undef:: .undef:: .undef:: .undef:: .undef:: .undef:: .undef:: .undef:: .undef:: .undef:: .undef:: .undef:: .undef:: .undef:: .undef:: .undef:: .undef:: .undef:: .undef:: .undef:: .undef:: .undef:: .undef:: .undef:: .undef:: .undef:: .undef:: .undef:: .undef:: .undef:: .undef:: .undef:: .undef:: .undef:: .undef:: .undef:: .undef:: .undef:: .undef:: .undef:: .undef:: .undef:: .undef:: .undef:: .undef:: .undef:: .undef:: .undef:: .undef:: .undef:: .undef:: .undef:: .undef:: .undef:: .undef:: .undef:: .undef:: .undef:: .undef:: .undef:: .undef:: .undef:: .undef:: .undef:: .undef:: .undef:: .undef:: .undef:: .undef:: .undef:: .undef:: .undef:: .undef:: .undef:: .undef::[]),[],0,[]⟩
   refine key ?U_ _ ?RY ?RZ
   case RY=>
    intro rest
    refine two (fun g=> ?_) (fun g=> ?_)
    · have g:0<s.size:=by have:=of_decide_eq_true g;omega
      obtain ⟨x,r,hx⟩: ∃x r,sB s=x::r:=by
       cases hc:sB s with
       | nil=>rw [hc] at hl;simp at hl;omega
       | cons x r=>exact ⟨x,r,rfl⟩
      conv=>whnf
      refine aU (x:=x) (by omega) (by rw [hx];rfl) fun c hc=> ?_
      rw [hc];(conv=>whnf);(repeat (refine aa [] ?_;conv=>whnf))
      refine two (fun g2=> ?_) (fun g2=> ?_)
      · have g2:x=45:=by simpa using g2
        conv=>whnf
        have e:IntKind.i64.wrap (0 - w)=V:=by rw [←hV,if_pos (by rw [hx,g2];rfl)]
        rw [e]
        refine eU.dv (s':=Sn) (ae ?_ .nil rfl rfl rfl) ?_
        · (repeat' first | exact aq.nil | refine aq.cons VW.undef ?_ | refine aq.cons (VW.eq rfl) ?_)
        exact rest ()
      · have g2:x≠45:=by simpa using g2
        conv=>whnf
        have e:w=V:=by rw [←hV,if_neg (by rw [hx];simpa using g2)]
        rw [e]
        refine eU.dv (s':=Sn) (ae ?_ .nil rfl rfl rfl) ?_
        · (repeat' first | exact aq.nil | refine aq.cons VW.undef ?_ | refine aq.cons (VW.eq rfl) ?_)
        exact rest ()
    · have g:s.size=0:=by have:=of_decide_eq_false g;omega
      conv=>whnf
      refine aa [] ?_;conv=>whnf
      have e:w=V:=by rw [←hV,if_neg (by rw [List.length_eq_zero_iff.1 (show (sB s).length=0 by omega)];simp)]
      rw [e]
      refine eU.dv (s':=Sn) (ae ?_ .nil rfl rfl rfl) ?_
      · (repeat' first | exact aq.nil | refine aq.cons VW.undef ?_ | refine aq.cons (VW.eq rfl) ?_)
      exact rest ()
   case RZ=>
   (conv=>whnf);(repeat (refine aa [] ?_;conv=>whnf))
   rw [show IntKind.i64.wrap ((d:Int) - q)=(e0:Int) by rw [wrap64 (by omega) (by omega)];exact JC]
   refine two (fun g1=> ?_) (fun g1=> ?_)
   · have g1:=of_decide_eq_true g1
     (conv=>whnf);(repeat (refine aa [] ?_;conv=>whnf))
     exact DS fun c hc=>by have:=(DT c hc).1;omega
   have g1:=of_decide_eq_false g1
   (conv=>whnf);(repeat (refine aa [] ?_;conv=>whnf))
   refine two (fun g2=> ?_) (fun g2=> ?_)
   · have g2:=of_decide_eq_true g2
     (conv=>whnf);(repeat (refine aa [] ?_;conv=>whnf))
     exact DS fun c hc=>by have:=DT c hc;omega
   have g2:=of_decide_eq_false g2
   (conv=>whnf);(repeat (refine aa [] ?_;conv=>whnf))
   refine two (fun g3=> ?_) (fun g3=> ?_)
   · have g3:=of_decide_eq_true g3
     (conv=>whnf);(repeat (refine aa [] ?_;conv=>whnf))
     exact DS fun c hc=>by have:=DT c hc;omega
   have g3:=of_decide_eq_false g3
   (conv=>whnf);(repeat (refine aa [] ?_;conv=>whnf))
   refine jc V Tp _ ?_;(conv=>whnf);(repeat (refine aa [] ?_;conv=>whnf))
   rw [kB,aT (pG.mq V)]
   refine two (fun g4=> ?_) (fun g4=> ?_)
   · have g4:ct V≠sB s:=by simpa using g4
     (conv=>whnf);(repeat (refine aa [] ?_;conv=>whnf))
     exact DS fun c hc=>by
      obtain ⟨_,h2,h3,_⟩:=DT c hc
      rw [h2] at g4;exact g4 h3
   · have g4:ct V=sB s:=by simpa using g4
     (conv=>whnf);(repeat (refine aa [] ?_;conv=>whnf))
     have ht:=Fi Tp
     rw [g4,if_pos (by omega)] at ht
     rw [ht] at h
     exact h
end MW
namespace Ps
open Go Go.Proofs VL
end Ps
namespace Qu
open Go Go.Proofs VL Ps
end Qu
namespace R0
open Go Go.Proofs VL Ps Qu
end R0
namespace pP
open Go Go.Proofs VL
def wF (y:Nat):Bool:=y %4==0 &&(y %100 !=0 || y %400==0)
def jX (y m:Nat):Nat:=if m=4\/m=6\/m=9\/m=11 then 30 else if m=2 then (if wF y then 29 else 28) else 31
theorem tm (y k:Nat):Int.tmod (y:Int) (k:Int)=((y %k:Nat):Int):=by
 rw [Int.tmod_eq_emod_of_nonneg (by omega)];exact (Int.natCast_emod y k).symm
theorem be (n:Nat):((n:Int)==0)=(n==0):=by rw [Bool.eq_iff_iff];simp
theorem bn (n:Nat):((n:Int) !=0)=(n !=0):=by simp only [bne,be]
theorem m4 (y:Nat):Int.tmod (y:Int) 4=((y %4:Nat):Int):=tm y 4
theorem Pt (y:Nat):Int.tmod (y:Int) 100=((y %100:Nat):Int):=tm y 100
theorem Pu (y:Nat):Int.tmod (y:Int) 400=((y %400:Nat):Int):=tm y 400
theorem J' (y:Nat) (K) (h:K (.ret (.bool (wF y))) []):ah Tryz.prog 165 [.int .i64 (y:Int)] [] K:=by
 refine ag [] 0 Tryz.func165 (by rfl) (by rfl) ?_;(conv=>whnf);(repeat (refine aa [] ?_;conv=>whnf))
 refine ⟨(by decide:(4:Int)≠0),?_⟩;(conv=>whnf);(repeat (refine aa [] ?_;conv=>whnf))
 refine two (fun g=> ?_) (fun g=> ?_)<;>rw [m4,be] at g
 · (conv=>whnf);(repeat (refine aa [] ?_;conv=>whnf))
   refine ⟨(by decide:(100:Int)≠0),?_⟩;(conv=>whnf);(repeat (refine aa [] ?_;conv=>whnf))
   refine two (fun g2=> ?_) (fun g2=> ?_)<;>rw [Pt,bn] at g2
   · (conv=>whnf);(repeat (refine aa [] ?_;conv=>whnf))
     have e:wF y=true:=by simp [wF,g,g2]
     exact e▸h
   · (conv=>whnf);(repeat (refine aa [] ?_;conv=>whnf))
     refine ⟨(by decide:(400:Int)≠0),?_⟩;(conv=>whnf);(repeat (refine aa [] ?_;conv=>whnf))
     have e:wF y=(Int.tmod (y:Int) 400==0):=by rw [Pu,be];simp [wF,g,g2]
     rw [e] at h;exact h
 · (conv=>whnf);(repeat (refine aa [] ?_;conv=>whnf))
   have e:wF y=false:=by simp [wF,g]
   exact e▸h
theorem DU (y:Nat) (K) (h:K (.ret (.bool (wF y))) []):ah Tryz.prog 120 [.int .i64 (y:Int)] [] K:=by
 refine ag [] 0 Tryz.func120 (by rfl) (by rfl) ?_;(conv=>whnf);(repeat (refine aa [] ?_;conv=>whnf))
 refine ⟨(by decide:(400:Int)≠0),?_⟩;(conv=>whnf);(repeat (refine aa [] ?_;conv=>whnf))
 refine two (fun g=> ?_) (fun g=> ?_)<;>rw [Pu,be] at g
 · (conv=>whnf);(repeat (refine aa [] ?_;conv=>whnf))
   have g':y %400=0:=by simpa using g
   have e:wF y=true:=by simp [wF,g'];omega
   exact e▸h
 · (conv=>whnf);(repeat (refine aa [] ?_;conv=>whnf))
   refine ⟨(by decide:(4:Int)≠0),?_⟩;(conv=>whnf);(repeat (refine aa [] ?_;conv=>whnf))
   refine two (fun g2=> ?_) (fun g2=> ?_)<;>rw [m4,be] at g2
   · (conv=>whnf);(repeat (refine aa [] ?_;conv=>whnf))
     refine ⟨(by decide:(100:Int)≠0),?_⟩;(conv=>whnf);(repeat (refine aa [] ?_;conv=>whnf))
     have e:wF y=(Int.tmod (y:Int) 100 !=0):=by rw [Pt,bn];simp [wF,g,g2]
     rw [e] at h;exact h
   · (conv=>whnf);(repeat (refine aa [] ?_;conv=>whnf))
     have e:wF y=false:=by simp [wF,g2]
     exact e▸h
def opens (y:Nat):Int:=365*((y:Int) - 1)+(((y - 1)/4:Nat):Int) - (((y - 1)/100:Nat):Int)+(((y - 1)/400:Nat):Int) - 719162
theorem td (p k:Nat):Int.tdiv (p:Int) (k:Int)=((p/k:Nat):Int):=by
 rw [Int.tdiv_eq_ediv_of_nonneg (by omega)];exact (Int.natCast_ediv p k).symm
theorem d4 (p:Nat) (h:p<=3000):IntKind.i64.wrap (Int.tdiv (p:Int) 4)=((p/4:Nat):Int):=by rw [show Int.tdiv (p:Int) 4=((p/4:Nat):Int) from td p 4,wrap64 (by omega) (by omega)]
theorem d100 (p:Nat) (h:p<=3000):IntKind.i64.wrap (Int.tdiv (p:Int) 100)=((p/100:Nat):Int):=by rw [show Int.tdiv (p:Int) 100=((p/100:Nat):Int) from td p 100,wrap64 (by omega) (by omega)]
theorem R1 (p:Nat) (h:p<=3000):IntKind.i64.wrap (Int.tdiv (p:Int) 400)=((p/400:Nat):Int):=by rw [show Int.tdiv (p:Int) 400=((p/400:Nat):Int) from td p 400,wrap64 (by omega) (by omega)]
theorem Ka (y:Nat) (h0:1<=y) (h1:y<=3000) (K) (h:K (.ret (.int .i64 (opens y))) []):ah Tryz.prog 158 [.int .i64 (y:Int)] [] K:=by
 refine ag [] 0 Tryz.func158 (by rfl) (by rfl) ?_;(conv=>whnf);(repeat (refine aa [] ?_;conv=>whnf))
 have e1:IntKind.i64.wrap ((y:Int) - 1)=((y - 1:Nat):Int):=by rw [wrap64 (by omega) (by omega)];omega
 rw [e1]
 obtain ⟨p,hp⟩: ∃p,y - 1=p:=⟨_,rfl⟩
 rw [hp]
 have HE:p<=3000:=by omega
 refine ⟨(by decide:(4:Int)≠0),?_⟩;(conv=>whnf);(repeat (refine aa [] ?_;conv=>whnf))
 refine ⟨(by decide:(100:Int)≠0),?_⟩;(conv=>whnf);(repeat (refine aa [] ?_;conv=>whnf))
 refine ⟨(by decide:(400:Int)≠0),?_⟩;(conv=>whnf);(repeat (refine aa [] ?_;conv=>whnf))
 have b4:p/4<=3000:=by omega
 have U':p/100<=3000:=by omega
 have Va:p/400<=3000:=by omega
 have hy:(y:Int) - 1=(p:Int):=by omega
 rw [opens,hp,hy] at h
 rw [d4 p HE,d100 p HE,R1 p HE]
 generalize p/4=q4 at*
 generalize p/100=Pv at*
 generalize p/400=R3 at*
 rw [wrap64 (x:=365*(p:Int)) (by omega) (by omega),wrap64 (x:=365*(p:Int)+(q4:Int)) (by omega) (by omega),wrap64 (x:=365*(p:Int)+(q4:Int) - (Pv:Int)) (by omega) (by omega),
  wrap64 (x:=365*(p:Int)+(q4:Int) - (Pv:Int)+(R3:Int)) (by omega) (by omega),wrap64 (by omega) (by omega)]
 exact h
theorem DV (y m:Nat) (h1:1<=m) (h2:m<=12) (K) (h:K (.ret (.int .i64 (jX y m:Nat))) []):ah Tryz.prog 157 [.int .i64 (y:Int),.int .i64 (m:Int)] [] K:=by
 obtain rfl | hm:m=2\/m≠2:=by omega
 · refine ag [] 0 Tryz.func157 (by rfl) (by rfl) ?_;(conv=>whnf);(repeat (refine aa [] ?_;conv=>whnf))
   refine J' y _ ?_;(conv=>whnf);(repeat (refine aa [] ?_;conv=>whnf))
   refine two (fun g=> ?_) (fun g=> ?_)
   · (conv=>whnf);(repeat (refine aa [] ?_;conv=>whnf))
     rw [show jX y 2=29 by simp [jX,g]] at h
     exact h
   · (conv=>whnf);(repeat (refine aa [] ?_;conv=>whnf))
     rw [show jX y 2=28 by simp [jX,g]] at h
     exact h
 · have hm:m=1\/m=3\/m=4\/m=5\/m=6\/m=7\/m=8\/m=9\/m=10\/m=11\/m=12:=by omega
   rcases hm with rfl | rfl | rfl | rfl | rfl | rfl | rfl | rfl | rfl | rfl | rfl
   all_goals
    refine ag [] 0 Tryz.func157 (by rfl) (by rfl) ?_;(conv=>whnf);(repeat (refine aa [] ?_;conv=>whnf))
    exact h
theorem qw (y m:Nat) (h1:1<=m) (h2:m<=12) (K) (h:K (.ret (.int .i64 (jX y m:Nat))) []):ah Tryz.prog 96 [.int .i64 (y:Int),.int .i64 (m:Int)] [] K:=by
 obtain rfl | hm:m=2\/m≠2:=by omega
 · refine ag [] 0 Tryz.func96 (by rfl) (by rfl) ?_;(conv=>whnf);(repeat (refine aa [] ?_;conv=>whnf))
   (repeat (refine aa [] ?_;conv=>whnf))
   refine ⟨by decide,by decide,?_⟩;(conv=>whnf);(repeat (refine aa [] ?_;conv=>whnf))
   refine DU y _ ?_;(conv=>whnf);(repeat (refine aa [] ?_;conv=>whnf))
   refine two (fun g=> ?_) (fun g=> ?_)
   · (conv=>whnf);(repeat (refine aa [] ?_;conv=>whnf))
     rw [show jX y 2=29 by simp [jX,g]] at h
     exact h
   · (conv=>whnf);(repeat (refine aa [] ?_;conv=>whnf))
     rw [show jX y 2=28 by simp [jX,g]] at h
     exact h
 · have hm:m=1\/m=3\/m=4\/m=5\/m=6\/m=7\/m=8\/m=9\/m=10\/m=11\/m=12:=by omega
   rcases hm with rfl | rfl | rfl | rfl | rfl | rfl | rfl | rfl | rfl | rfl | rfl
   all_goals
    refine ag [] 0 Tryz.func96 (by rfl) (by rfl) ?_;(conv=>whnf);(repeat (refine aa [] ?_;conv=>whnf))
    (repeat (refine aa [] ?_;conv=>whnf))
    refine ⟨by decide,by decide,?_⟩;(conv=>whnf);(repeat (refine aa [] ?_;conv=>whnf))
    exact h
def lc (y:Nat):Int:=(((y - 1)/4:Nat):Int) - (((y - 1)/100:Nat):Int)+(((y - 1)/400:Nat):Int)
theorem Kb {y:Nat} (h0:1<=y) (h:y %4=0):lc (y+4)=lc y+(if wF y then 1 else 0):=by
 unfold lc wF
 by_cases h1:y %100=0<;>by_cases h2:y %400=0<;>simp [h,h1,h2]<;>omega
theorem MX {y z:Nat} (h0:1<=y) (h:z %4=0) (h1:y<=z) (h2:z<y+4):lc z=lc y:=by
 unfold lc;omega
theorem vw (y:Nat) (h0:1900<=y) (h1:y<=2300) (K) (h:K (.ret (.int .i64 (opens y+25567))) []):ah Tryz.prog 95 [.int .i64 (y:Int)] [] K:=by
 refine ag [] 0 Tryz.func95 (by rfl) (by rfl) ?_;(conv=>whnf);(repeat (refine aa [] ?_;conv=>whnf))
 let S:Nat->St:=fun z=>⟨(.int .i64 (y:Int):: .undef:: .undef:: .int .i64 (365*((y:Int) - 1900)+(lc z - 460)):: .int .i64 (z:Int):: .undef:: .undef:: .undef:: .undef:: .undef:: .undef:: .undef:: .undef:: .undef:: .undef:: .undef:: .undef:: .undef::[]),[],0,[]⟩
 refine aA.enter (s':=S 1900) (ae ?_ .nil rfl rfl rfl) (aA.dC S (fun z=>y+4 - z) (fun z=>1900<=z/\z %4=0/\z<y+4) ?_ 1900 ⟨by omega,by omega,by omega⟩)
 · repeat' first
    | exact aq.nil
    | refine aq.cons VW.undef ?_
    | refine aq.cons (VW.eq rfl) ?_
    | refine aq.cons (VW.eq (congrArg (V.int .i64) (by rw [wrap64 (x:=(y:Int) - 1900) (by omega) (by omega),wrap64 (by omega) (by omega)];show _=_+(lc 1900 - 460);rw [show lc 1900=460 by decide];omega))) ?_
 rintro z ⟨hz,Jl,Vb⟩ ih
 have N1:lc z<=10000/\0<=lc z:=by unfold lc;omega
 refine ai [] ?_;(conv=>whnf);(repeat (refine aa [] ?_;conv=>whnf))
 refine two (fun g=> ?_) (fun g=> ?_)
 · have g':z<y:=by have:=of_decide_eq_true g;omega
   (conv=>whnf);(repeat (refine aa [] ?_;conv=>whnf))
   refine DU z _ ?_;(conv=>whnf);(repeat (refine aa [] ?_;conv=>whnf))
   have iI:=Kb (y:=z) (by omega) Jl
   refine two (fun g2=> ?_) (fun g2=> ?_)
   · (conv=>whnf);(repeat (refine aa [] ?_;conv=>whnf))
     rw [g2,if_pos rfl] at iI
     refine ⟨S (z+4),ae ?_ .nil rfl rfl rfl,ih (z+4) ⟨by omega,by omega,by omega⟩ (by omega)⟩
     repeat' first
      | exact aq.nil
      | refine aq.cons VW.undef ?_
      | refine aq.cons (VW.eq rfl) ?_
      | refine aq.cons (VW.eq (congrArg (V.int .i64) (by rw [wrap64 (by omega) (by omega)];first | omega | (rw [iI];omega)))) ?_
   · (conv=>whnf);(repeat (refine aa [] ?_;conv=>whnf))
     rw [g2] at iI
     simp at iI
     refine ⟨S (z+4),ae ?_ .nil rfl rfl rfl,ih (z+4) ⟨by omega,by omega,by omega⟩ (by omega)⟩
     repeat' first
      | exact aq.nil
      | refine aq.cons VW.undef ?_
      | refine aq.cons (VW.eq rfl) ?_
      | refine aq.cons (VW.eq (congrArg (V.int .i64) (by first | (rw [wrap64 (by omega) (by omega)];omega) | (rw [iI])))) ?_
 · have g':y<=z:=by have:=of_decide_eq_false g;omega
   refine ⟨_,aB.refl,?_⟩;(conv=>whnf);(repeat (refine aa [] ?_;conv=>whnf))
   have e:opens y+25567=365*((y:Int) - 1900)+(lc z - 460):=by
    rw [MX (y:=y) (by omega) Jl g' Vb]
    unfold opens lc;omega
   rw [e] at h
   exact h
end pP
namespace xt
open Go Go.Proofs VL pP
def kC (y:Nat):Nat->Nat
 | 0=>0
 | 1=>0
 | m+2=>kC y (m+1)+jX y (m+1)
theorem iF {y m:Nat} (h:1<=m):kC y (m+1)=kC y m+jX y m:=by
 obtain ⟨k,rfl⟩: ∃k,m=k+1:=⟨m - 1,by omega⟩
 rfl
theorem jY {y a b:Nat} (h1:1<=a) (h:a<=b):kC y a<=kC y b:=by
 obtain ⟨k,rfl⟩: ∃k,b=a+k:=⟨b - a,by omega⟩
 clear h
 induction k with
 | zero=>exact Nat.le_refl _
 | succ k ih=>rw [←Nat.add_assoc,iF (by omega)];omega
theorem CB (y:Nat):jX y 12=31:=by simp [jX]
theorem mw (y m:Nat):jX y m<=31:=by
 unfold jX;split
 · omega
 · split
   · split<;>omega
   · omega
theorem AO (y:Nat):kC y 12=334+(if wF y then 1 else 0):=by
 simp only [kC,jX]
 cases wF y<;>simp
theorem vy {y:Nat} (h:1<=y):opens (y+1)=opens y+kC y 12+31:=by
 rw [AO]
 unfold opens wF
 by_cases h0:y %4=0<;>by_cases h1:y %100=0<;>by_cases h2:y %400=0<;>simp [h0,h1,h2]<;>omega
theorem vz {y z:Nat} (h0:1<=y) (h:y<=z):opens y<=opens z:=by
 unfold opens;omega
structure gZ (n:Int) (y m d:Nat):Prop where
 y0:1900<=y
 y1:y<=2200
 m0:1<=m
 m1:m<=12
 lo:opens y+kC y m<=n
 hi:n<opens y+kC y m+jX y m
 d:(d:Int)=n - opens y - kC y m+1
theorem gZ.year {n:Int} {y m d:Nat} (h:gZ n y m d):opens y<=n/\n<opens (y+1):=by
 have:=h.lo;have:=h.hi;have:=h.y0
 have:=vy (y:=y) (by omega)
 have:=jY (y:=y) (a:=m+1) (b:=13) (by omega) (by have:=h.m1;omega)
 rw [iF h.m0] at this
 have e:kC y 13=kC y 12+jX y 12:=rfl
 rw [CB] at e
 omega
theorem gZ.uniq {n:Int} {y m d y' m' d':Nat} (h:gZ n y m d) (h':gZ n y' m' d'):y=y'/\m=m'/\d=d':=by
 have e1:y=y':=by
  obtain ⟨a1,a2⟩:=h.year
  obtain ⟨b1,b2⟩:=h'.year
  have:=h.y0;have:=h'.y0
  rcases Nat.lt_trichotomy y y' with g | g | g
  · have:=vz (y:=y+1) (z:=y') (by omega) g;omega
  · exact g
  · have:=vz (y:=y'+1) (z:=y) (by omega) g;omega
 subst e1
 have e2:m=m':=by
  have a1:=h.lo;have a2:=h.hi;have b1:=h'.lo;have b2:=h'.hi
  rcases Nat.lt_trichotomy m m' with g | g | g
  · have:=jY (y:=y) (a:=m+1) (b:=m') (by omega) g
    rw [iF h.m0] at this;omega
  · exact g
  · have:=jY (y:=y) (a:=m'+1) (b:=m) (by omega) g
    rw [iF h'.m0] at this;omega
 subst e2
 have:=h.d;have:=h'.d
 exact ⟨rfl,rfl,by omega⟩
theorem gZ.Vc {n:Int} {y m d:Nat} (h:gZ n y m d):1<=d/\d<=31:=by
 have:=h.lo;have:=h.hi;have:=h.d;have:=mw y m
 omega
end xt
namespace jt
open Go Go.Proofs VL pP xt
def Jm (n:Int):Bool:=decide (-25567<=n) &&decide (n<=84370)
theorem Pw (n:Int) (K) (h:K (.ret (.bool (Jm n))) []):ah Tryz.prog 94 [.int .i64 n] [] K:=by
 refine ag [] 0 Tryz.func94 (by rfl) (by rfl) ?_;(conv=>whnf);(repeat (refine aa [] ?_;conv=>whnf))
 refine two (fun g=> ?_) (fun g=> ?_)
 · (conv=>whnf);(repeat (refine aa [] ?_;conv=>whnf))
   have g:=of_decide_eq_true g
   have e:Jm n=decide (n<=84370):=by simp [Jm];omega
   rw [e] at h;exact h
 · (conv=>whnf);(repeat (refine aa [] ?_;conv=>whnf))
   have g:=of_decide_eq_false g
   have e:Jm n=false:=by simp [Jm];omega
   rw [e] at h;exact h
theorem yG (n:Int) (h0: -25567<=n) (h1:n<=84370) (K) (h: ∀y m d,gZ n y m d->K (.ret (.aQ [.agg [.int .i64 (y:Nat),.int .i64 (m:Nat),.int .i64 (d:Nat)],.int .i64 0])) []):
 ah Tryz.prog 71 [.int .i64 n] [] K:=by
 refine ah.dv (ag [] 0 Tryz.func71 (by rfl) (by rfl) ?_)
 (conv=>whnf);(repeat (refine aa [] ?_;conv=>whnf))
 have hd:Jm n=true:=by simp [Jm];omega
 refine Pw n _ ?_;(conv=>whnf);(repeat (refine aa [] ?_;conv=>whnf))
 rw [hd];(conv=>whnf);(repeat (refine aa [] ?_;conv=>whnf))
 obtain ⟨a,ha⟩: ∃a:Nat,n+25567=(a:Int):=⟨(n+25567).toNat,by omega⟩
 have w1:IntKind.i64.wrap (n - -25567)=(a:Int):=by rw [wrap64 (by omega) (by omega)];omega
 rw [w1]
 (conv=>whnf);(repeat (refine aa [] ?_;conv=>whnf))
 refine ⟨(by decide:(366:Int)≠0),?_⟩;(conv=>whnf);(repeat (refine aa [] ?_;conv=>whnf))
 have w2:IntKind.i64.wrap (Int.tdiv (a:Int) 366)=((a/366:Nat):Int):=by rw [show Int.tdiv (a:Int) 366=((a/366:Nat):Int) from td a 366,wrap64 (by omega) (by omega)]
 rw [w2]
 obtain ⟨k,hk⟩: ∃k,a/366=k:=⟨_,rfl⟩
 rw [hk]
 have iM:366*k<=a/\k<=300:=by omega
 have w_:opens (1900+k)<=n:=by unfold opens;omega
 have wk:IntKind.i64.wrap (1900+(k:Int))=((1900+k:Nat):Int):=by rw [wrap64 (by omega) (by omega)];omega
 rw [wk]
 (conv=>whnf);(repeat (refine aa [] ?_;conv=>whnf))
 let O:Nat->Nat->List af:=fun y m=>[.cells true 112 [.int .i64 0,.int .i64 0,.int .i64 0],.cells true 112 [.int .i64 (y:Nat),.int .i64 (m:Nat),.int .i64 0]]
 let S:Nat->St:=fun z=>⟨(.undef:: .undef:: .ptr 0 0:: .int .i64 0:: .int .i64 (a:Nat):: .ptr 1 0:: .undef:: .undef:: .undef:: .undef:: .undef:: .undef:: .undef:: .undef:: .undef:: .undef:: .undef:: .undef:: .undef:: .undef:: .undef:: .undef:: .undef:: .undef:: .undef:: .undef:: .undef:: .undef:: .undef:: .undef:: .undef:: .undef:: .undef:: .undef:: .undef:: .undef:: .undef:: .undef:: .undef:: .undef:: .undef:: .undef:: .undef:: .undef:: .undef:: .undef:: .undef:: .undef:: .undef:: .undef:: .undef:: .undef:: .undef::[]),O z 1,0,[]⟩
 refine aA.enter (s':=S (1900+k)) (ae ?_ (.cons (.eq rfl) (.cons (.eq rfl) .nil)) rfl rfl rfl) (aA.dC S (fun z=>2201 - z) (fun z=>1900<=z/\z<=2200/\opens z<=n) ?_ (1900+k) ⟨by omega,by omega,w_⟩)
 · (repeat' first | exact aq.nil | refine aq.cons VW.undef ?_ | refine aq.cons (VW.eq rfl) ?_)
 rintro y ⟨WD,WE,WG⟩ ih
 have rl: -30000<=opens y/\opens y<=90000:=by unfold opens;omega
 have wy:IntKind.i64.wrap ((y:Int)+1)=((y+1:Nat):Int):=by rw [wrap64 (by omega) (by omega)];omega
 refine ai [] ?_;(conv=>whnf);(repeat (refine aa [] ?_;conv=>whnf))
 rw [wy]
 refine vw (y+1) (by omega) (by omega) _ ?_;(conv=>whnf);(repeat (refine aa [] ?_;conv=>whnf))
 refine two (fun g4=> ?_) (fun g4=> ?_)
 · have g4:=of_decide_eq_true g4
   have WH:y+1<=2200:=by
    rcases Nat.lt_or_ge y 2200 with q | q
    · omega
    · have:y=2200:=by omega
      subst this
      have g4:opens 2201+25567<=(a:Int):=g4
      rw [show opens 2201=84371 by decide] at g4
      omega
   (conv=>whnf);(repeat (refine aa [] ?_;conv=>whnf))
   refine ⟨S (y+1),ae ?_ (.cons (.eq rfl) (.cons (.eq ?_) .nil)) rfl rfl rfl,ih (y+1) ⟨by omega,by omega,by omega⟩ (by omega)⟩
   · (repeat' first | exact aq.nil | refine aq.cons VW.undef ?_ | refine aq.cons (VW.eq rfl) ?_)
   · rw [wy]
 · have g4:=of_decide_eq_false g4
   have hx:n<opens (y+1):=by omega
   refine ⟨_,aB.refl,?_⟩;(conv=>whnf);(repeat (refine aa [] ?_;conv=>whnf))
   refine vw y (by omega) (by omega) _ ?_;(conv=>whnf);(repeat (refine aa [] ?_;conv=>whnf))
   have wb:IntKind.i64.wrap ((a:Int) - (opens y+25567))=n - opens y - ((kC y 1:Nat):Int):=by rw [wrap64 (by omega) (by omega)];show _=n - opens y - ((0:Nat):Int);omega
   rw [wb];(conv=>whnf);(repeat (refine aa [] ?_;conv=>whnf))
   let S2:Nat->St:=fun m=>⟨(.undef:: .undef:: .ptr 0 0:: .int .i64 0:: .int .i64 (n - opens y - (kC y m:Nat)):: .ptr 1 0:: .undef:: .undef:: .undef:: .undef:: .undef:: .undef:: .undef:: .undef:: .undef:: .undef:: .undef:: .undef:: .undef:: .undef:: .undef:: .undef:: .undef:: .undef:: .undef:: .undef:: .undef:: .undef:: .undef:: .undef:: .undef:: .undef:: .undef:: .undef:: .undef:: .undef:: .undef:: .undef:: .undef:: .undef:: .undef:: .undef:: .undef:: .undef:: .undef:: .undef:: .undef:: .undef:: .undef:: .undef:: .undef:: .undef:: .undef::[]),O y m,0,[]⟩
   refine aA.enter (s':=S2 1) (ae ?_ (.cons (.eq rfl) (.cons (.eq rfl) .nil)) rfl rfl rfl) (aA.dC S2 (fun m=>13 - m) (fun m=>1<=m/\m<=12/\opens y+(kC y m:Nat)<=n) ?_ 1 ⟨by omega,by omega,by show opens y+((0:Nat):Int)<=n;omega⟩)
   · (repeat' first | exact aq.nil | refine aq.cons VW.undef ?_ | refine aq.cons (VW.eq rfl) ?_)
   rintro m ⟨Je,BO,WI⟩ Px
   have hc:=iF (y:=y) Je
   have oK:=mw y m
   have F9:kC y m<=366:=by
    have:=jY (y:=y) (a:=m) (b:=12) Je BO
    have:=AO y
    cases hl:wF y<;>simp [hl] at this<;>omega
   refine ai [] ?_;(conv=>whnf);(repeat (refine aa [] ?_;conv=>whnf))
   refine qw y m Je BO _ ?_;(conv=>whnf);(repeat (refine aa [] ?_;conv=>whnf))
   refine two (fun g5=> ?_) (fun g5=> ?_)
   · have g5:=of_decide_eq_true g5
     (conv=>whnf);(repeat (refine aa [] ?_;conv=>whnf))
     refine qw y m Je BO _ ?_;(conv=>whnf);(repeat (refine aa [] ?_;conv=>whnf))
     have Vd:m+1<=12:=by
      rcases Nat.lt_or_ge m 12 with q | q
      · omega
      · have:m=12:=by omega
        subst this
        have:=vy (y:=y) (by omega)
        have:=CB y
        omega
     have wm:IntKind.i64.wrap ((m:Int)+1)=((m+1:Nat):Int):=by rw [wrap64 (by omega) (by omega)];omega
     refine ⟨S2 (m+1),ae ?_ (.cons (.eq rfl) (.cons (.eq ?_) .nil)) rfl rfl rfl,Px (m+1) ⟨by omega,by omega,by omega⟩ (by omega)⟩
     · repeat' first
        | exact aq.nil
        | refine aq.cons VW.undef ?_
        | refine aq.cons (VW.eq rfl) ?_
        | refine aq.cons (VW.eq (congrArg (V.int .i64) (by rw [wrap64 (by omega) (by omega)];omega))) ?_
     · rw [wm]
   · have g5:=of_decide_eq_false g5
     refine ⟨_,aB.refl,?_⟩;(conv=>whnf);(repeat (refine aa [] ?_;conv=>whnf))
     obtain ⟨d,hd⟩: ∃d:Nat,(d:Int)=n - opens y - (kC y m:Nat)+1:=⟨(n - opens y - (kC y m:Nat)+1).toNat,by omega⟩
     have wd:IntKind.i64.wrap (n - opens y - (kC y m:Nat)+1)=(d:Int):=by rw [wrap64 (by omega) (by omega)];omega
     rw [wd];(conv=>whnf);(repeat (refine aa [] ?_;conv=>whnf))
     refine ⟨_,_,ae (.cons (.eq rfl) .nil) .nil rfl rfl rfl,h y m d ⟨by omega,by omega,by omega,by omega,by omega,by omega,by omega⟩⟩
end jt
namespace HF
open Go Go.Proofs VL D1 B2 B4 B5 B7 B8 eG zh kb kj D2 pG D3 wg pP xt jt
set_option maxHeartbeats 2000000 in
theorem ow (n least:Nat) (hn:n<1000000) (hl:1<=least) (sI:least<=50) (K) (h:K (.ret (.str (az (DL least n)))) []):
 ah Tryz.prog 15 [.int .i64 (n:Int),.int .i64 (least:Int)] [] K:=by
 refine ag [] 0 Tryz.func15 (by rfl) (by rfl) ?_;(conv=>whnf);(repeat (refine aa [] ?_;conv=>whnf))
 let S:Nat->St:=fun i=>⟨(.int .i64 ((n/10^i:Nat):Int):: .int .i64 (least:Int):: .undef:: .undef:: .str ⟨#[]⟩:: .str (az (fL i n)):: .undef:: .undef:: .undef:: .undef:: .undef:: .undef:: .undef:: .undef:: .undef:: .undef:: .undef:: .undef:: .undef:: .undef:: .undef:: .undef:: .undef:: .undef:: .undef::[]),[],0,[]⟩
 refine aA.enter (s':=S 0) (ae ?_ .nil rfl rfl rfl) (aA.dC S (fun i=>60 - i) (fun i=>i<=50/\(i<=least\/0<n/10^(i - 1))) ?_ 0 ⟨by omega,by omega⟩)
 · repeat' first
    | exact aq.nil
    | refine aq.cons VW.undef ?_
    | refine aq.cons (VW.eq rfl) ?_
    | refine aq.cons (VW.eq (congrArg (V.int .i64) (by simp))) ?_
 rintro i ⟨hi,hd⟩ ih
 have go:(0<n/10^i\/i<least)-> ∃q,n/10^i=q/\q<1000000:=fun _=>⟨_,rfl,Nat.lt_of_le_of_lt (Nat.div_le_self _ _) hn⟩
 have fin: ¬(0<n/10^i)-> ¬i<least->az (fL i n)=az (DL least n):=fun h1 h2=>by
  congr 1
  have h0:n/10^i=0:=Nat.eq_zero_of_not_pos h1
  have aJ:n<10^i:=by
   rcases Nat.lt_or_ge n (10^i) with h | h
   · exact h
   · have:=Nat.div_pos h (Nat.pow_pos (by omega));omega
  by_cases e:i=least
  · subst e;exact (ml i n (by omega) aJ).symm
  · have hp:0<n/10^(i - 1):=hd.resolve_left (by omega)
    have zg:10^(i - 1)<=n:=by
     rcases Nat.lt_or_ge n (10^(i - 1)) with h | h
     · rw [Nat.div_eq_of_lt h] at hp;omega
     · exact h
    have:=ve (i - 1) n zg (by rw [Nat.sub_add_cancel (by omega)];exact aJ)
    rw [Nat.sub_add_cancel (by omega)] at this
    unfold DL
    rw [this,cF,show least - i=0 by omega];rfl
 have LP:(0<n/10^i\/i<least)->True:=fun _=>trivial
 refine ai [] ?_;(conv=>whnf);(repeat (refine aa [] ?_;conv=>whnf))
 refine two (fun g=> ?_) (fun g=> ?_)
 · have g:0<n/10^i:=by have:=of_decide_eq_true g;omega
   have RT:=LO (Nat.lt_trans hn (by decide)) g
   have hq:n/10^i<1000000:=Nat.lt_of_le_of_lt (Nat.div_le_self _ _) hn
   (conv=>whnf);(repeat (refine aa [] ?_;conv=>whnf))
   have tm:Int.tmod ((n/10^i:Nat):Int) 10=((n/10^i %10:Nat):Int):=rfl
   have td:Int.tdiv ((n/10^i:Nat):Int) 10=((n/10^i/10:Nat):Int):=rfl
   refine ⟨by decide,?_⟩;rw [tm];(conv=>whnf);(repeat (refine aa [] ?_;conv=>whnf))
   have e:IntKind.u8.wrap (IntKind.i64.wrap (48+((n/10^i %10:Nat):Int)))=48+((n/10^i %10:Nat):Int):=by rw [wrap64 (by omega) (by omega),mm (by omega) (by omega)]
   rw [e]
   refine ⟨az [48+((n/10^i %10:Nat):Int)],?_,?_⟩
   · rw [←u0 (fun x hx=>by simp at hx;omega)];rfl
   (conv=>whnf);(repeat (refine aa [] ?_;conv=>whnf))
   refine ⟨by rw [aI,aI,cF];refine eQ ?_;simp;omega,?_⟩
   rw [c9];(conv=>whnf);(repeat (refine aa [] ?_;conv=>whnf))
   refine ⟨by decide,?_⟩;rw [td];(conv=>whnf);(repeat (refine aa [] ?_;conv=>whnf))
   refine ⟨S (i+1),ae ?_ .nil rfl rfl rfl,ih (i+1) ⟨by omega,by rw [Nat.add_sub_cancel];omega⟩ (by omega)⟩
   repeat' first
    | exact aq.nil
    | refine aq.cons VW.undef ?_
    | refine aq.cons (VW.eq rfl) ?_
    | refine aq.cons (VW.eq (congrArg (fun x=>V.str (az x)) (qt n i))) ?_
    | refine aq.cons (VW.eq (congrArg (V.int .i64) (by rw [wrap64 (by omega) (by omega),Nat.div_div_eq_div_mul,Nat.pow_succ]))) ?_
 · have g: ¬0<n/10^i:=by have:=of_decide_eq_false g;omega
   (conv=>whnf);(repeat (refine aa [] ?_;conv=>whnf))
   refine two (fun g2=> ?_) (fun g2=> ?_)
   · have g2:i<least:=by have:=of_decide_eq_true g2;rw [aI,cF] at this;omega
     have hq:n/10^i<1000000:=Nat.lt_of_le_of_lt (Nat.div_le_self _ _) hn
     (conv=>whnf);(repeat (refine aa [] ?_;conv=>whnf))
     have tm:Int.tmod ((n/10^i:Nat):Int) 10=((n/10^i %10:Nat):Int):=rfl
     have td:Int.tdiv ((n/10^i:Nat):Int) 10=((n/10^i/10:Nat):Int):=rfl
     refine ⟨by decide,?_⟩;rw [tm];(conv=>whnf);(repeat (refine aa [] ?_;conv=>whnf))
     have e:IntKind.u8.wrap (IntKind.i64.wrap (48+((n/10^i %10:Nat):Int)))=48+((n/10^i %10:Nat):Int):=by rw [wrap64 (by omega) (by omega),mm (by omega) (by omega)]
     rw [e]
     refine ⟨az [48+((n/10^i %10:Nat):Int)],?_,?_⟩
     · rw [←u0 (fun x hx=>by simp at hx;omega)];rfl
     (conv=>whnf);(repeat (refine aa [] ?_;conv=>whnf))
     refine ⟨by rw [aI,aI,cF];refine eQ ?_;simp;omega,?_⟩
     rw [c9];(conv=>whnf);(repeat (refine aa [] ?_;conv=>whnf))
     refine ⟨by decide,?_⟩;rw [td];(conv=>whnf);(repeat (refine aa [] ?_;conv=>whnf))
     clear go LP
     have hw:IntKind.i64.wrap ((n/10^i/10:Nat):Int)=((n/10^i/10:Nat):Int):=by
      have R4:n/10^i/10<1000000:=Nat.lt_of_le_of_lt (Nat.div_le_self _ _) hq
      clear td tm
      generalize n/10^i/10=q at R4
      exact wrap64 (by omega) (by omega)
     refine ⟨S (i+1),ae ?_ .nil rfl rfl rfl,ih (i+1) ⟨by omega,by rw [Nat.add_sub_cancel];omega⟩ (by omega)⟩
     repeat' first
      | exact aq.nil
      | refine aq.cons VW.undef ?_
      | refine aq.cons (VW.eq rfl) ?_
      | refine aq.cons (VW.eq (congrArg (fun x=>V.str (az x)) (qt n i))) ?_
      | refine aq.cons (VW.eq (congrArg (V.int .i64) (by rw [hw,Nat.div_div_eq_div_mul,Nat.pow_succ]))) ?_
   · have g2: ¬i<least:=by have:=of_decide_eq_false g2;rw [aI,cF] at this;omega
     (conv=>whnf);(repeat (refine aa [] ?_;conv=>whnf))
     refine ⟨_,aB.refl,?_⟩;(conv=>whnf);(repeat (refine aa [] ?_;conv=>whnf))
     rw [fin g g2]
     exact h
end HF
namespace Jn
open Go Go.Proofs VL D1 B2 B4 B5 B7 B8 eG zh kb kj D2 pG D3 wg pP xt jt HF
def F' (y m d:Nat):List Int:=fL 4 y++[45]++fL 2 m++[45]++fL 2 d
theorem MY (y m d:Nat):(F' y m d).length=10:=by simp [F',cF]
theorem oz (n:Int) (h0: -25567<=n) (h1:n<=84370) (K) (h: ∀y m d,gZ n y m d->K (.ret (.aQ [.str (az (F' y m d)),.int .i64 0])) []):ah Tryz.prog 37 [.int .i64 n] [] K:=by
 refine ah.dv (ag [] 0 Tryz.func37 (by rfl) (by rfl) ?_)
 (conv=>whnf);(repeat (refine aa [] ?_;conv=>whnf))
 refine yG n h0 h1 _ fun y m d hD=> ?_;(conv=>whnf);(repeat (refine aa [] ?_;conv=>whnf))
 have:=hD.y0
 have:=hD.y1
 have:=hD.m1
 have:=hD.Vc
 have:=h y m d hD
 have p4:DL 4 y=fL 4 y:=ml 4 y (by omega) (by omega)
 have p2: ∀k,k<100->DL 2 k=fL 2 k:=fun k hk=>ml 2 k (by omega) (by omega)
 (refine ⟨by decide+kernel,?_⟩;conv=>whnf)
 (repeat (refine And.intro rfl ?_;conv=>whnf))
 refine ow y 4 (by omega) (by omega) (by omega) _ ?_;(conv=>whnf);(repeat (refine aa [] ?_;conv=>whnf))
 (repeat (refine And.intro rfl ?_;conv=>whnf))
 rw [p4]
 refine ⟨by rw [aI];refine eQ ?_;rw [cF];decide,?_⟩
 rw [show (ByteArray.mk #[45])=az [45] from rfl,c9];(conv=>whnf);(repeat (refine aa [] ?_;conv=>whnf))
 refine ow m 2 (by omega) (by omega) (by omega) _ ?_;rw [p2 m (by omega)];(conv=>whnf);(repeat (refine aa [] ?_;conv=>whnf))
 repeat first
  | (refine And.intro rfl ?_;conv=>whnf)
  | (refine And.intro (by (first | rw [aI,aI] | rw [aI]);refine eQ ?_;simp [cF,aI]) ?_;(try rw [c9]);(conv=>whnf);(repeat (refine aa [] ?_;conv=>whnf)))
 refine ow d 2 (by omega) (by omega) (by omega) _ ?_;rw [p2 d (by omega)];(conv=>whnf);(repeat (refine aa [] ?_;conv=>whnf))
 repeat first
  | (refine And.intro rfl ?_;conv=>whnf)
  | (refine And.intro (by (first | rw [aI,aI] | rw [aI]);refine eQ ?_;simp [cF,aI]) ?_;(try rw [c9]);(conv=>whnf);(repeat (refine aa [] ?_;conv=>whnf)))
 exact ⟨_,_,ae (.cons (.eq rfl) .nil) .nil rfl rfl rfl,this⟩
end Jn
namespace Ga
open Go Go.Proofs VL D1 B2 B4 B5 B7 B8 eG zh kb kj D2 pG D3 wg pP xt jt HF Jn
open Classical in
noncomputable def vA (n:Int):List Int:=if h: ∃t, ∃y m d,gZ n y m d/\t=F' y m d then h.choose else [110,111,110,101]
theorem AP {n:Int} {y m d:Nat} (h:gZ n y m d):vA n=F' y m d:=by
 have hx: ∃t, ∃y m d,gZ n y m d/\t=F' y m d:=⟨_,y,m,d,h,rfl⟩
 unfold vA
 rw [dif_pos hx]
 obtain ⟨y',m',d',h1,h2⟩:=hx.choose_spec
 obtain ⟨rfl,rfl,rfl⟩:=h.uniq h1
 exact h2
end Ga
namespace c5
open Go Go.Proofs VL D1 B2 B4 B5 B7 B8 eG zh kb kj D2 pG D3 wg Ps Qu R0 Ga
structure Jo where
 n:Int
 day:Int
 int:Int
 pri:Int
structure Tq where
 day:Int
 Ve:Bool
 cls:Bool
 pri:Int
 acc:Int
 int:Int
 due:Int
 kY:Int
 km:Int
 Py:Int
 CD:List Jo
 next:Int
 Pz:Int
def Jo.ok (d:Jo):Prop:=bM d.n/\bM d.day/\bM d.int/\bM d.pri
structure Tq.ok (s:Tq):Prop where
 day:bM s.day
 pri:bM s.pri
 acc:bM s.acc
 int:bM s.int
 due:bM s.due
 kY:bM s.kY
 km:bM s.km
 Py:bM s.Py
 next:bM s.next
 Pz:bM s.Pz
 CD: ∀d∈s.CD,d.ok
 len:s.CD.length<=60
end c5
namespace Kd
open Go Go.Proofs VL D1 B2 B4 B5 B7 B8 eG zh kb kj D2 pG D3 wg Ps Qu R0 Ga c5
end Kd
namespace Ke
open Go Go.Proofs VL c5 Kd
theorem R5 (a b:Jo):a=b↔a.n=b.n/\a.day=b.day/\a.int=b.int/\a.pri=b.pri:=by
 constructor
 · rintro rfl;simp
 · cases a;cases b;simp
instance:DecidableEq Jo:=fun a b=>decidable_of_iff _ (R5 a b).symm
end Ke
namespace MZ
open Go Go.Proofs VL eG c5 Ke
structure Mon where
 pri:Int
 acc:Int
 CD:List Jo
 kY:Int
 km:Int
 Py:Int
 PA:Int
 Tr:Int
 fin:Int
 Ts:Int
def PB (v:Int):Bool:=decide (0<=v) &&decide (v<=1000000000000000)
def M0 (p:Option Jo) (d:Jo):Prop:= ¬(PB d.int=true)\/ ¬(PB d.pri=true)\/d.int+d.pri=0\/d.n<1\/ ∃q,p=some q/\(d.n<=q.n\/d.day<=q.day)
noncomputable instance (p:Option Jo) (d:Jo):Decidable (M0 p d):=Classical.propDecidable _
structure Mon.ok (m:Mon):Prop where
 pri:bM m.pri
 acc:bM m.acc
 kY:bM m.kY
 km:bM m.km
 Py:bM m.Py
 PA:bM m.PA
 Tr:bM m.Tr
 fin:bM m.fin
 Ts:bM m.Ts
 CD: ∀d∈m.CD,d.ok
 len:m.CD.length<1000000
def fu (m:Mon) (x y k:Int):Int:=if k=1 then m.km else if k=2 then m.kY else if k=3 then x else if k=4 then y else 0
end MZ
namespace dj
open Go Go.Proofs VL eG c5 Kd Ke MZ
structure WJ where
 day:Int
 Ve:Bool
 start:Int
 Vf:List Int
 next:Int
 bW:Int
 WK:Mon
 Vg:Int
 res:Int
 Vh:Int
def iL (l:List Int):List V:=l.map (V.int .i64)
end dj
namespace kF
open Go Go.Proofs VL eG c5 Kd Ke MZ dj
theorem M1 {r:List Ty} {vs:List V} (h:fo (.str::r) vs): ∃s b,vs= .str s::b/\s.size<=140737488351232/\fo r b:=by
 simp only [fo,v7] at h
 obtain ⟨a,b,rfl,⟨n,rfl,hn⟩,hb⟩:=h
 exact ⟨n,b,rfl,hn,hb⟩
theorem HG {e:Ty} {z v8:Nat} {agg:Bool} {r:List Ty} {vs:List V} (h:fo (.sl e z v8 agg::r) vs): ∃l b,vs= .sl l .no::b/\l.length*v8<=140737488351232/\(∀x∈l,(if agg then ∃cs,x= .agg cs/\v7 e cs else v7 e [x]))/\fo r b:=by
 simp only [fo,v7] at h
 obtain ⟨a,b,rfl,⟨n,rfl,hn,hm⟩,hb⟩:=h
 exact ⟨n,b,rfl,hn,hm,hb⟩
theorem CE {vs:List V} (h:fo [] vs):vs=[]:=by simpa [fo] using h
theorem yH {α:Type} {enc:α->V} {ok:α->Prop}: ∀ {l:List V},(∀x∈l, ∃a,x=enc a/\ok a)-> ∃HH:List α,l=HH.map enc/\ ∀a∈HH,ok a
 | [],_=>⟨[],rfl,by simp⟩
 | x::r,h=>by
   obtain ⟨a,rfl,ha⟩:=h x (by simp)
   obtain ⟨q,rfl,hq⟩:=yH (l:=r) fun y hy=>h y (by simp [hy])
   exact ⟨a::q,rfl,by simpa [ha] using hq⟩
theorem ef {n:Int} (h:(Lit.int .i64 n).wf=true):bM n:=by
 simp only [Lit.wf,Bool.and_eq_true,decide_eq_true_eq] at h
 have h1:IntKind.min .i64= -9223372036854775808:=by decide
 have h2:IntKind.max .i64=9223372036854775807:=by decide
 unfold bM
 omega
end kF
namespace VL
theorem gr {α:Type} (enc:α->V) (acc:List α) (t:α) (sp:List V):List.take (0+acc.length) (acc.map enc++sp)++[enc t]++List.drop (0+acc.length+1) (acc.map enc++sp)=(acc++[t]).map enc++sp.drop 1:=by
 have h:(acc.map enc).length=acc.length:=by simp
 have h1:List.take (0+acc.length) (acc.map enc++sp)=acc.map enc:=by rw [Nat.zero_add, ←h,List.take_left]
 have h2:List.drop (0+acc.length+1) (acc.map enc++sp)=sp.drop 1:=by rw [Nat.zero_add, ←List.drop_drop, ←h,List.drop_left]
 rw [h1,h2];simp
theorem gu {α:Type} (enc:α->V) (acc:List α) (t:α) (sp Kf:List V):List.take acc.length (List.drop 0 (acc.map enc++sp))++[enc t]++Kf=(acc++[t]).map enc++Kf:=by
 have h:(acc.map enc).length=acc.length:=by simp
 rw [List.drop_zero]
 have h1:List.take acc.length (acc.map enc++sp)=acc.map enc:=by rw [←h,List.take_left]
 rw [h1];simp
end VL
namespace C1
open VL
def wT (ws:List (List Int)):List Int:=32::ws.flatMap (· ++[32])
theorem Kg (w:List Int) (r:List (List Int)):wT (w::r)=32::(w++wT r):=by simp [wT]
def Nb (l:List Int):Prop:= ∀x∈l,x≠32
theorem DW: ∀ {s w b c:List Int},Nb s->Nb w->s++32::b=w++32::c->s=w/\b=c
 | [],[],b,c,_,_,h=>⟨rfl,by simpa using h⟩
 | [],y::w,b,c,_,hw,h=>by simp at h;exact absurd h.1.symm (hw y (by simp))
 | x::s,[],b,c,hs,_,h=>by simp at h;exact absurd h.1 (hs x (by simp))
 | x::s,y::w,b,c,hs,hw,h=>by
   simp only [List.cons_append,List.cons.injEq] at h
   obtain ⟨h1,h2⟩:=DW (fun z hz=>hs z (by simp [hz])) (fun z hz=>hw z (by simp [hz])) h.2
   exact ⟨by rw [h.1,h1],h2⟩
theorem HI: ∀ {w a t u:List Int},Nb w->a++32::u=w++t-> ∃a',a=w++a'/\a'++32::u=t
 | [],a,t,u,_,h=>⟨a,rfl,h⟩
 | y::w,[],t,u,hw,h=>by simp at h;exact absurd h.1.symm (hw y (by simp))
 | y::w,x::a,t,u,hw,h=>by
   simp only [List.cons_append,List.cons.injEq] at h
   obtain ⟨a',h1,h2⟩:=HI (fun z hz=>hw z (by simp [hz])) h.2
   exact ⟨a',by rw [h.1,h1];rfl,h2⟩
theorem DX: ∀ {ws:List (List Int)} {s:List Int},(∀w∈ws,Nb w)->Nb s->((∃a b,wT ws=a++(32::s++[32])++b)↔s∈ws)
 | [],s,_,_=>by
   simp only [List.not_mem_nil,iff_false]
   rintro ⟨a,b,h⟩
   have:=congrArg List.length h
   simp [wT] at this;omega
 | w::r,s,hw,hs=>by
   rw [List.mem_cons,Kg]
   have ih:=DX (ws:=r) (s:=s) (fun x hx=>hw x (by simp [hx])) hs
   have Tt:=hw w (by simp)
   constructor
   · rintro ⟨a,b,h⟩
     rcases a with _ | ⟨x,a⟩
     · left
       have h':s++32::b=w++32::(r.flatMap (· ++[32])):=by simpa [wT] using h.symm
       exact (DW hs Tt h').1
     · right
       have h':a++32::(s++32::b)=w++wT r:=by
        have:=h.symm
        simp only [List.cons_append,List.cons.injEq] at this
        simpa using this.2
       obtain ⟨a',h1,h2⟩:=HI Tt h'
       exact ih.1 ⟨a',b,by rw [←h2];simp⟩
   · rintro (rfl | h)
     · exact ⟨[],r.flatMap (· ++[32]),by simp [wT]⟩
     · obtain ⟨a,b,h2⟩:=ih.2 h
       exact ⟨32::(w++a),b,by rw [h2];simp⟩
end C1
namespace C2
open Go Go.Proofs VL D1 eG jt c5 dj C1
structure Rs where
 lT:Int
 bW:Int
structure Ti where
 days:Int
 km:Int
structure Prod where
 name:ByteArray
 count:Int
 m3:Int
 kind:Int
 every:Int
 times:Int
 b_:Int
 bW:Int
 au:List Rs
 kY:Int
 o1:Int
 o2:Int
 o3:Int
 o4:Int
 over:Int
 late:List Ti
 cap:Int
 roll:Int
 cT:List Int
def m_ (r:Rs):V:= .agg [.int .i64 r.lT,.int .i64 r.bW]
def rL (l:List Rs):List V:=l.map m_
def na (r:Ti):V:= .agg [.int .i64 r.days,.int .i64 r.km]
def tL (l:List Ti):List V:=l.map na
def ff (p:Prod):List V:=[.str p.name,.int .i64 p.count,.int .i64 p.m3,.int .i64 p.kind,.int .i64 p.every,.int .i64 p.times,.int .i64 p.b_,.int .i64 p.bW,.sl (rL p.au) .no,.int .i64 p.kY,.int .i64 p.o1,.int .i64 p.o2,.int .i64 p.o3,.int .i64 p.o4,.int .i64 p.over,.sl (tL p.late) .no,.int .i64 p.cap,.int .i64 p.roll,.sl (iL p.cT) .no]
def dE (p:Prod):V:= .agg (ff p)
structure Prod.ok (p:Prod):Prop where
 name:p.name.size<1000000
 count:bM p.count
 m3:bM p.m3
 kind:bM p.kind
 every:bM p.every
 times:bM p.times
 b_:bM p.b_
 bW:bM p.bW
 kY:bM p.kY
 o1:bM p.o1
 o2:bM p.o2
 o3:bM p.o3
 o4:bM p.o4
 over:bM p.over
 cap:bM p.cap
 roll:bM p.roll
 au: ∀x∈p.au,bM x.lT/\bM x.bW
 late: ∀x∈p.late,bM x.days/\bM x.km
 cT: ∀x∈p.cT,bM x
 lr:p.au.length<1000000
 ll:p.late.length<1000000
 lh:p.cT.length<1000000
structure Prod.Kh (p:Prod):Prop where
 name:p.name.size<200000000000000
 count:bM p.count
 m3:bM p.m3
 kind:bM p.kind
 every:bM p.every
 times:bM p.times
 b_:bM p.b_
 bW:bM p.bW
 kY:bM p.kY
 o1:bM p.o1
 o2:bM p.o2
 o3:bM p.o3
 o4:bM p.o4
 over:bM p.over
 cap:bM p.cap
 roll:bM p.roll
 au: ∀x∈p.au,bM x.lT/\bM x.bW
 late: ∀x∈p.late,bM x.days/\bM x.km
 cT: ∀x∈p.cT,bM x
 lr:p.au.length<200000000000000
 ll:p.late.length<200000000000000
 lh:p.cT.length<200000000000000
theorem Prod.ok.w {p:Prod} (h:p.ok):p.Kh:= {h with name:=Nat.lt_trans h.name (by decide),lr:=Nat.lt_trans h.lr (by decide),ll:=Nat.lt_trans h.ll (by decide),lh:=Nat.lt_trans h.lh (by decide)}
def rQ:List (List Int):=[
 [112,114,111,100,117,99,116],
 [99,111,117,110,116],
 [116,104,105,114,116,121],
 [102,105,120,101,100],
 [97,99,116,117,97,108],
 [114,111,117,110,100],
 [104,97,108,102,45,117,112],
 [100,111,119,110],
 [107,105,110,100],
 [97,110,110,117,105,116,121],
 [101,113,117,97,108],
 [98,117,108,108,101,116],
 [101,118,101,114,121],
 [116,105,109,101,115],
 [103,114,97,99,101],
 [114,97,116,101],
 [112,101,110,97,108,116,121],
 [114,101,115,101,116],
 [108,97,116,101],
 [99,97,112],
 [104,111,108,105,100,97,121],
 [111,114,100,101,114],
 [102,101,101,115],
 [105,110,116,101,114,101,115,116],
 [112,114,105,110,99,105,112,97,108],
 [111,118,101,114],
 [104,111,108,100],
 [112,114,101,112,97,121],
 [114,101,102,117,110,100],
 [114,111,108,108],
 [115,116,97,121],
 [110,101,120,116],
 [119,105,116,104,105,110],
 [112,114,101,118,105,111,117,115]]
def Small (x:Int):Prop:=97<=x/\x<=122
def lD (x:Int):Prop:=Small x\/cw x\/x=45
instance (x:Int):Decidable (Small x):=inferInstanceAs (Decidable (_/\_))
instance (x:Int):Decidable (lD x):=inferInstanceAs (Decidable (_\/_))
def dX (l:List Int):Prop:=(1<=l.length/\l.length<=20/\(∀x,l.head?=some x->Small x)/\ ∀x∈l,lD x)/\l ∉ rQ
def eV (times:Int):Option Rs->List Rs->Prop
 | _,[]=>True
 | p,r::l=>(1<=r.lT/\r.lT<=times - 1)/\(0<=r.bW/\r.bW<=1000000000)/\(∀q,p=some q->q.lT<r.lT)/\eV times (some r) l
def g_:Option Ti->List Ti->Prop
 | _,[]=>True
 | p,r::l=>(1<=r.days/\r.days<=365)/\(0<=r.km/\r.km<=10000000000000)/\(∀q,p=some q->q.days<r.days/\q.km<=r.km)/\g_ (some r) l
def qx:Option Int->List Int->Prop
 | _,[]=>True
 | p,r::l=>(-25567<=r/\r<=84370)/\(∀q,p=some q->q<r)/\qx (some r) l
def nL (a b c d:Int):Prop:=(1<=a/\a<=4)/\(1<=b/\b<=4)/\(1<=c/\c<=4)/\(1<=d/\d<=4)/\a≠b/\a≠c/\a≠d/\b≠c/\b≠d/\c≠d
def CF (p:Prod):Prop:=dX (sB p.name)/\(1<=p.count/\p.count<=3)/\(p.m3=1\/p.m3=3)/\(1<=p.kind/\p.kind<=3)
def kT (p:Prod):Prop:=p.every=1\/p.every=2\/p.every=3\/p.every=4\/p.every=6\/p.every=12
def jZ (p:Prod):Prop:=(1<=p.times/\p.times<=600)/\(0<=p.b_/\p.b_<=p.times - 1)/\(p.kind≠3\/p.b_=0)
def rR (p:Prod):Prop:=(0<=p.bW/\p.bW<=1000000000)/\(0<=p.kY/\p.kY<=1000000000)/\p.au.length<=20/\eV p.times none p.au
def AQ (p:Prod):Prop:=nL p.o1 p.o2 p.o3 p.o4/\(1<=p.over/\p.over<=3)
def xu (p:Prod):Prop:=p.late.length<=8/\(0<=p.cap/\p.cap<=10000000000000)/\(p.late≠[]\/p.cap=0)/\g_ none p.late
def HJ (p:Prod):Prop:=(p.cT.length<=200/\qx none p.cT)/\(1<=p.roll/\p.roll<=4)/\(p.roll≠1\/p.cT=[])
def bA (p:Prod):Prop:=(CF p/\kT p/\jZ p)/\rR p/\AQ p/\xu p/\HJ p
noncomputable instance (p:Prod):Decidable (bA p):=Classical.propDecidable _
noncomputable def cS (p:Prod):Int:=if bA p then 0 else 9
theorem HK: ∀w∈rQ,Nb w:=by unfold Nb;decide+kernel
end C2
namespace C3
open Go Go.Proofs VL D1 eG C2
structure Tok where
 kind:Int
 at_:Nat
 text:List Int
def my (t:Tok):V:= .agg [.int .i64 t.kind,.int .i64 t.at_,.str (az t.text)]
def kL (l:List Tok):List V:=l.map my
def Let (c:Int):Prop:=(97<=c/\c<=122)\/(65<=c/\c<=90)
instance (c:Int):Decidable (Let c):=inferInstanceAs (Decidable (_\/_))
def sW (c:Int):Bool:=decide (Let c)
def qy (c:Int):Bool:=decide (cw c)
def nM (c:Int):Bool:=decide (Let c\/cw c\/c=45)
def vB (c:Int):Bool:=decide (cw c\/c=46\/c=45\/c=47\/c=37)
def bI (k:Int) (c:Int):Bool:=if k=1 then nM c else if k=2 then vB c else false
def aP:Bool->List Int->Nat
 | _,[]=>0
 | rem,c::r=>if c=10 then 1+aP false r else if c=35 then 1+aP true r else if rem=false/\c≠32/\c≠9 then 0 else 1+aP rem r
def fu (c:Int) (r:List Int):Option Int:=
 if Let c then some 1 else if cw c\/(c=45/\ ∃d,r.head?=some d/\cw d) then some 2 else if c=123\/c=125\/c=59 then some 3 else none
instance (r:List Int):Decidable (∃d,r.head?=some d/\cw d):=match r with
 | []=>isFalse (by simp)
 | d::_=>if h:cw d then isTrue ⟨d,rfl,h⟩ else isFalse (by simpa using h)
inductive Lx where
 | ok (l:List Tok)
 | bad (p:Nat)
def Lx.cons (t:Tok):Lx->Lx
 | .ok l=> .ok (t::l)
 | .bad p=> .bad p
def cU:Nat->List Int->Nat->Lx
 | 0,_,i=> .bad i
 | f+1,l,i=>match l.drop (aP false l) with
   | []=> .ok [⟨0,i+aP false l,[]⟩]
   | c::r=>match fu c r with
     | none=> .bad (i+aP false l)
     | some k=>(cU f (r.dropWhile (bI k)) (i+aP false l+1+(r.takeWhile (bI k)).length)).cons ⟨k,i+aP false l,c::r.takeWhile (bI k)⟩
def fp (l:List Int):Except (Nat × Int) (List Tok):=if 20000<l.length then .error (0,3) else match cU (l.length+1) l 0 with
 | .ok t=> .ok t
 | .bad p=> .error (p,6)
theorem lE: ∀(b:Bool) (l:List Int),aP b l<=l.length
 | b,[]=>by simp [aP]
 | b,c::r=>by
   have h1:=lE false r
   have h2:=lE true r
   have h3:=lE b r
   unfold aP
   repeat' split
   all_goals simp
   all_goals omega
theorem HL (p:Int->Bool) (l:List Int):(l.takeWhile p).length<=l.length:=by
 have:=List.takeWhile_append_dropWhile (p:=p) (l:=l)
 have h2:=congrArg List.length this
 rw [List.length_append] at h2;omega
theorem qz (p:Int->Bool): ∀(l:List Int),l.dropWhile p=l.drop (l.takeWhile p).length
 | []=>rfl
 | x::r=>by
   cases h:p x
   · simp [List.takeWhile_cons,List.dropWhile_cons,h]
   · simp [List.takeWhile_cons,List.dropWhile_cons,h,qz p r]
theorem dY (c:Int):sW c=true↔(97<=c/\c<=122)\/(65<=c/\c<=90):=by unfold sW;rw [decide_eq_true_iff];rfl
theorem dt (c:Int):qy c=true↔48<=c/\c<=57:=by unfold qy;rw [decide_eq_true_iff];rfl
theorem tz (c:Int):qy c=false↔ ¬(48<=c/\c<=57):=by rw [←dt];simp
theorem tA (c:Int):sW c=false↔ ¬((97<=c/\c<=122)\/(65<=c/\c<=90)):=by rw [←dY];simp
theorem DY {c:Int} (r:List Int) (h:(97<=c/\c<=122)\/(65<=c/\c<=90)):fu c r=some 1:=by unfold fu;rw [if_pos (show Let c from h)]
theorem xv {c:Int} (r:List Int) (h: ¬((97<=c/\c<=122)\/(65<=c/\c<=90))) (h2:(48<=c/\c<=57)\/(c=45/\ ∃d,r.head?=some d/\cw d)):fu c r=some 2:=by
 unfold fu;rw [if_neg (show ¬Let c from h)];split
 · rfl
 · rename_i hn;exact absurd h2 hn
theorem AR {c:Int} (r:List Int) (h:c=123\/c=125\/c=59):fu c r=some 3:=by
 unfold fu
 rw [if_neg (by unfold Let;omega),if_neg (by unfold cw;omega),if_pos h]
theorem DZ {c:Int} (r:List Int) (h: ¬((97<=c/\c<=122)\/(65<=c/\c<=90))) (h2: ¬((48<=c/\c<=57)\/(c=45/\ ∃d,r.head?=some d/\cw d))) (h3: ¬(c=123\/c=125\/c=59)):fu c r=none:=by
 unfold fu;rw [if_neg (show ¬Let c from h)];split
 · rename_i hn;exact absurd hn h2
 · first | rfl | exact if_neg h3
theorem oA (c:Int):nM c=true↔sW c=true\/qy c=true\/c=45:=by unfold nM sW qy;simp
theorem qA (c:Int):vB c=true↔qy c=true\/c=46\/c=45\/c=47\/c=37:=by unfold vB qy;simp
end C3
namespace C5
open Go Go.Proofs VL D1 eG C2 C3
theorem vC (c:Int) (K) (h:K (.ret (.bool (sW c))) []):ah Tryz.prog 73 [.int .u8 c] [] K:=by
 have eY: ∀b,sW c=b->K (.ret (.bool b)) []:=fun b e=>by rw [e] at h;exact h
 clear h
 refine ag [] 0 Tryz.func73 (by rfl) (by rfl) ?_
 conv=>whnf
 (repeat' first | (refine aa [] ?_;conv=>whnf) | (refine two ?_ ?_<;>intro g<;>(try simp only[an]at g)<;>(conv=>whnf)) | (refine And.intro rfl ?_;conv=>whnf) | fail)
 all_goals (refine eY _ ?_;rw [Bool.eq_iff_iff,dY];simp;omega)
theorem qB (c:Int) (K) (h:K (.ret (.bool (qy c))) []):ah Tryz.prog 76 [.int .u8 c] [] K:=by
 have eY: ∀b,qy c=b->K (.ret (.bool b)) []:=fun b e=>by rw [e] at h;exact h
 clear h
 refine ag [] 0 Tryz.func76 (by rfl) (by rfl) ?_
 conv=>whnf
 (repeat' first | (refine aa [] ?_;conv=>whnf) | (refine two ?_ ?_<;>intro g<;>(try simp only[an]at g)<;>(conv=>whnf)) | (refine And.intro rfl ?_;conv=>whnf) | fail)
 all_goals (refine eY _ ?_;rw [Bool.eq_iff_iff,dt];simp;omega)
theorem AS (c:Int) (K) (h:K (.ret (.bool (nM c))) []):ah Tryz.prog 75 [.int .u8 c] [] K:=by
 have eY: ∀b,nM c=b->K (.ret (.bool b)) []:=fun b e=>by rw [e] at h;exact h
 clear h
 refine ag [] 0 Tryz.func75 (by rfl) (by rfl) ?_
 conv=>whnf
 (repeat' first | (refine aa [] ?_;conv=>whnf) | (refine two ?_ ?_<;>intro g<;>(try simp only[an]at g)<;>(conv=>whnf)) | (refine And.intro rfl ?_;conv=>whnf) | (refine vC _ _ ?_;conv=>whnf) | (refine qB _ _ ?_;conv=>whnf) | fail)
 all_goals (refine eY _ ?_;rw [Bool.eq_iff_iff,oA];simp_all)
theorem vD (c:Int) (K) (h:K (.ret (.bool (vB c))) []):ah Tryz.prog 77 [.int .u8 c] [] K:=by
 have eY: ∀b,vB c=b->K (.ret (.bool b)) []:=fun b e=>by rw [e] at h;exact h
 clear h
 refine ag [] 0 Tryz.func77 (by rfl) (by rfl) ?_
 conv=>whnf
 (repeat' first | (refine aa [] ?_;conv=>whnf) | (refine two ?_ ?_<;>intro g<;>(try simp only[an]at g)<;>(conv=>whnf)) | (refine And.intro rfl ?_;conv=>whnf) | (refine qB _ _ ?_;conv=>whnf) | fail)
 all_goals (refine eY _ ?_;rw [Bool.eq_iff_iff,qA];simp_all)
theorem D0 (c:Int) (K) (h:K (.ret (.bool false)) []):ah Tryz.prog 78 [.int .u8 c] [] K:=by
 refine ag [] 0 Tryz.func78 (by rfl) (by rfl) ?_
 conv=>whnf
 (repeat' first | (refine aa [] ?_;conv=>whnf) | (refine two ?_ ?_<;>intro g<;>(try simp only[an]at g)<;>(conv=>whnf)) | (refine And.intro rfl ?_;conv=>whnf) | fail)
 exact h
def lO (s:ByteArray) (i:Nat):List af:=[.cells true 83 [.str s,.int .i64 i]]
theorem kD {s:ByteArray} {i:Nat} (h:i<s.size): ∃c,(sB s)[i]? =some c/\(sB s).drop i=c::(sB s).drop (i+1):=by
 have hl:i<(sB s).length:=by rw [bh];exact h
 exact ⟨_,List.getElem?_eq_getElem hl,List.drop_eq_getElem_cons hl⟩
set_option maxHeartbeats 1000000 in
theorem M3 (s:ByteArray) (hs:s.size<1000000) (i:Nat) (hi:i<=s.size) (K) (h:K (.ret (.aQ [])) (lO s (i+aP false ((sB s).drop i)))):ah Tryz.prog 72 [.ptr 0 0] (lO s i) K:=by
 have nC:=bh s
 unfold lO
 refine ag [] 1 Tryz.func72 (by rfl) (by rfl) ?_
 (conv=>whnf);(repeat (refine aa [] ?_;conv=>whnf))
 let S:Nat × Bool->St:=fun x=>⟨(.ptr 0 0:: .undef:: .bool x.2:: .undef:: .undef:: .undef:: .undef:: .undef:: .undef:: .undef:: .undef:: .undef:: .undef:: .undef:: .undef:: .undef:: .undef:: .undef:: .undef:: .undef:: .undef:: .undef:: .undef:: .undef:: .undef:: .undef:: .undef:: .undef:: .undef:: .undef:: .undef:: .undef:: .undef:: .undef:: .undef:: .undef:: .undef:: .undef:: .undef:: .undef:: .undef:: .undef:: .undef:: .undef:: .undef:: .undef:: .undef::[]),lO s x.1,0,[]⟩
 refine aA.enter (s':=S (i,false)) (ae ?_ (.cons (.eq rfl) .nil) rfl rfl rfl)
  (aA.dC S (fun x=>s.size - x.1) (fun x=>x.1<=s.size/\x.1+aP x.2 ((sB s).drop x.1)=i+aP false ((sB s).drop i)) ?_ (i,false) ⟨hi,rfl⟩)
 · (repeat' first | exact aq.nil | refine aq.cons VW.undef ?_ | refine aq.cons (VW.eq rfl) ?_)
 rintro ⟨j,rem⟩ ⟨hj,hinv⟩ ih
 simp only at hj hinv
 refine ai [] ?_
 conv=>whnf
 (repeat' first | (refine aa [] ?_;conv=>whnf) | (refine two ?_ ?_<;>intro g<;>(try simp only[an]at g)<;>(conv=>whnf)) | (refine And.intro rfl ?_;conv=>whnf) | (refine ak (by decide+kernel) ?_;conv=>whnf) | fail)
 · have eO:j<s.size:=by omega
   obtain ⟨c,hc,hd⟩:=kD eO
   rw [hd] at hinv
   refine aU (x:=c) (by omega) (by simpa using hc) fun b hb=> ?_
   conv=>whnf
   (repeat (refine aa [] ?_;conv=>whnf))
   rw [hb]
   have wj:IntKind.i64.wrap ((j:Int)+1)=((j+1:Nat):Int):=by rw [wrap64 (by omega) (by omega)];omega
   (repeat' first | (refine aa [] ?_;conv=>whnf) | (refine two ?_ ?_<;>intro g<;>(try simp only[an]at g)<;>(conv=>whnf)) | (refine And.intro rfl ?_;conv=>whnf) | fail)
   all_goals first
    | (refine ⟨_,aB.refl,?_⟩;(conv=>whnf);(repeat (refine aa [] ?_;conv=>whnf))
       refine Eq.mp (congrArg (fun n:Nat=>K (.ret (.aQ [])) (lO s n)) ?_) h
       rw [←hinv];simp_all [aP];done)
    | (refine ⟨S (j+1,false),ae ?_ (.cons (.eq (by simp only;rw [wj])) .nil) rfl rfl rfl,ih (j+1,false) ⟨by simp only;omega,?_⟩ (by simp only;omega)⟩
       · (repeat' first | exact aq.nil | refine aq.cons VW.undef ?_ | refine aq.cons (VW.eq rfl) ?_)
       · rw [←hinv];simp only;simp_all [aP];omega)
    | (refine ⟨S (j+1,true),ae ?_ (.cons (.eq (by simp only;rw [wj])) .nil) rfl rfl rfl,ih (j+1,true) ⟨by simp only;omega,?_⟩ (by simp only;omega)⟩
       · (repeat' first | exact aq.nil | refine aq.cons VW.undef ?_ | refine aq.cons (VW.eq rfl) ?_)
       · rw [←hinv];simp only;simp_all [aP];omega)
    | (refine ⟨S (j+1,rem),ae ?_ (.cons (.eq (by simp only;rw [wj])) .nil) rfl rfl rfl,ih (j+1,rem) ⟨by simp only;omega,?_⟩ (by simp only;omega)⟩
       · (repeat' first | exact aq.nil | refine aq.cons VW.undef ?_ | refine aq.cons (VW.eq rfl) ?_)
       · rw [←hinv];simp only;simp_all [aP];omega)
 · have eO:j=s.size:=by omega
   subst eO
   rw [List.drop_eq_nil_of_le (by omega)] at hinv
   refine ⟨_,aB.refl,?_⟩;(conv=>whnf);(repeat (refine aa [] ?_;conv=>whnf))
   refine Eq.mp (congrArg (fun n:Nat=>K (.ret (.aQ [])) (lO s n)) ?_) h
   rw [←hinv];simp [aP]
set_option maxHeartbeats 1000000 in
theorem xw (s:ByteArray) (hs:s.size<1000000) (i:Nat) (hi:i<s.size) (k:Int) (f:FuncId) (go:Int->Bool) (hf: ∀(c:Int) (K:Out->List af->Prop),K (.ret (.bool (go c))) []->ah Tryz.prog f [.int .u8 c] [] K) (K)
 (h:K (.ret (.agg [.int .i64 k,.int .i64 i,.str (az (((sB s).drop i).take (1+(((sB s).drop (i+1)).takeWhile go).length)))])) (lO s (i+1+(((sB s).drop (i+1)).takeWhile go).length))):
 ah Tryz.prog 74 [.ptr 0 0,.int .i64 k,.fn (.func f) [] []] (lO s i) K:=by
 have nC:=bh s
 unfold lO
 refine ag [] 1 Tryz.func74 (by rfl) (by rfl) ?_
 (conv=>whnf);(repeat (refine aa [] ?_;conv=>whnf))
 have wi:IntKind.i64.wrap ((i:Int)+1)=((i+1:Nat):Int):=by rw [wrap64 (by omega) (by omega)];omega
 let S:Nat->St:=fun x=>⟨(.ptr 0 0:: .int .i64 k:: .fn (.func f) [] []:: .undef:: .undef:: .undef:: .ptr 1 0:: .int .i64 i:: .undef:: .undef:: .undef:: .undef:: .undef:: .undef:: .undef:: .undef:: .undef:: .undef:: .undef:: .undef:: .undef:: .undef:: .undef:: .undef:: .undef:: .undef:: .undef:: .undef:: .undef:: .undef:: .undef:: .undef:: .undef:: .undef:: .undef:: .undef:: .undef:: .undef:: .undef:: .undef:: .undef:: .undef:: .undef:: .undef:: .undef:: .undef:: .undef:: .undef:: .undef:: .undef:: .undef:: .undef:: .undef:: .undef:: .undef:: .undef:: .undef:: .undef:: .undef:: .undef:: .undef:: .undef::[]),lO s x++[.cells true 57 [.int .i64 0,.int .i64 0,.str ⟨#[]⟩]],0,[]⟩
 refine aA.enter (s':=S (i+1)) (ae ?_ (.cons (.eq (by rw [wi])) (.cons (.eq rfl) .nil)) rfl rfl rfl)
  (aA.dC S (fun x=>s.size - x) (fun x=>i+1<=x/\x<=s.size/\x+(((sB s).drop x).takeWhile go).length=i+1+(((sB s).drop (i+1)).takeWhile go).length) ?_ (i+1) ⟨by omega,by omega,rfl⟩)
 · (repeat' first | exact aq.nil | refine aq.cons VW.undef ?_ | refine aq.cons (VW.eq rfl) ?_)
 rintro j ⟨pe,hj,hinv⟩ ih
 refine ai [] ?_
 conv=>whnf
 have fin:((sB s).drop j).takeWhile go=[]->K (.ret (.agg [.int .i64 k,.int .i64 i,.str (s.extract i j)])) (lO s j):=fun h0=>by
  rw [h0] at hinv
  simp only [List.length_nil,Nat.add_zero] at hinv
  rw [←hinv] at h
  refine Eq.mp (congrArg (fun x=>K (.ret (.agg [.int .i64 k,.int .i64 i,.str x])) (lO s j)) ?_) h
  rw [←gk (s.extract i j),nI,List.drop_take]
  congr 2;omega
 (repeat' first | (refine aa [] ?_;conv=>whnf) | (refine two ?_ ?_<;>intro g<;>(try simp only[an]at g)<;>(conv=>whnf)) | (refine And.intro rfl ?_;conv=>whnf) | (refine ak (by decide+kernel) ?_;conv=>whnf) | fail)
 · have eO:j<s.size:=by omega
   obtain ⟨c,hc,hd⟩:=kD eO
   refine aU (x:=c) (by omega) (by simpa using hc) fun b hb=> ?_
   conv=>whnf
   (repeat (refine aa [] ?_;conv=>whnf))
   rw [hb]
   refine hf c _ ?_
   conv=>whnf
   (repeat' first | (refine aa [] ?_;conv=>whnf) | (refine two ?_ ?_<;>intro g<;>(try simp only[an]at g)<;>(conv=>whnf)) | (refine And.intro rfl ?_;conv=>whnf) | fail)
   · refine ⟨S (j+1),ae ?_ (.cons (.eq (by rw [show IntKind.i64.wrap ((j:Int)+1)=((j+1:Nat):Int) by rw [wrap64 (by omega) (by omega)];omega])) (.cons (.eq rfl) .nil)) rfl rfl rfl,ih (j+1) ⟨by omega,by omega,?_⟩ (by omega)⟩
     · (repeat' first | exact aq.nil | refine aq.cons VW.undef ?_ | refine aq.cons (VW.eq rfl) ?_)
     · rw [←hinv,hd,List.takeWhile_cons_of_pos g];simp;omega
   · have h0:((sB s).drop j).takeWhile go=[]:=by rw [hd,List.takeWhile_cons_of_neg (by simp [g])]
     refine ⟨_,aB.refl,?_⟩
     conv=>whnf
     (repeat' first | (refine aa [] ?_;conv=>whnf) | (refine two ?_ ?_<;>intro g<;>(try simp only[an]at g)<;>(conv=>whnf)) | (refine And.intro rfl ?_;conv=>whnf) | (refine ak (by decide+kernel) ?_;conv=>whnf) | fail)
     refine ⟨by omega,by omega,by omega,?_⟩
     conv=>whnf
     (repeat' first | (refine aa [] ?_;conv=>whnf) | (refine two ?_ ?_<;>intro g<;>(try simp only[an]at g)<;>(conv=>whnf)) | (refine And.intro rfl ?_;conv=>whnf) | (refine ak (by decide+kernel) ?_;conv=>whnf) | fail)
     exact fin h0
 · have h0:((sB s).drop j).takeWhile go=[]:=by rw [List.drop_eq_nil_of_le (by omega)];rfl
   refine ⟨_,aB.refl,?_⟩
   conv=>whnf
   (repeat' first | (refine aa [] ?_;conv=>whnf) | (refine two ?_ ?_<;>intro g<;>(try simp only[an]at g)<;>(conv=>whnf)) | (refine And.intro rfl ?_;conv=>whnf) | (refine ak (by decide+kernel) ?_;conv=>whnf) | fail)
   refine ⟨by omega,by omega,by omega,?_⟩
   conv=>whnf
   (repeat' first | (refine aa [] ?_;conv=>whnf) | (refine two ?_ ?_<;>intro g<;>(try simp only[an]at g)<;>(conv=>whnf)) | (refine And.intro rfl ?_;conv=>whnf) | (refine ak (by decide+kernel) ?_;conv=>whnf) | fail)
   exact fin h0
end C5
namespace C6
open Go Go.Proofs VL D1 eG jt c5 dj C1 C2
def HM {α:Type} (L:List α) (i:Nat):Option α:=if i=0 then none else L[i - 1]?
theorem lF {α:Type} {L:List α} {i:Nat} (hi:i<L.length):HM L (i+1)=some L[i]:=by
 unfold HM;rw [if_neg (by omega),Nat.add_sub_cancel,List.getElem?_eq_getElem hi]
theorem oB {α:Type} (enc:α->V) (L:List α) (i:Nat) (hi:i<L.length) (hl:L.length<200000000000000):
 ∃q,(0<i->(L.map enc)[(IntKind.i64.wrap ((i:Int) - 1)).toNat]? =some (enc q))/\ ∀x,HM L i=some x↔0<i/\x=q:=by
 by_cases h0:0<i
 · refine ⟨L[i - 1],fun _=> ?_,fun x=> ?_⟩
   · rw [wrap64 (by omega) (by omega),show ((i:Int) - 1).toNat=i - 1 by omega,List.getElem?_map,List.getElem?_eq_getElem (by omega)];rfl
   · unfold HM;rw [if_neg (by omega),List.getElem?_eq_getElem (by omega)]
     constructor
     · intro h;exact ⟨h0,(Option.some.inj h).symm⟩
     · rintro ⟨_,rfl⟩;rfl
 · refine ⟨L[i],fun h=>absurd h h0,fun x=> ?_⟩
   unfold HM;rw [if_pos (by omega)];simp;omega
theorem bG (b:Bool) (K:Out->List af->Prop) (h: @Bool.rec (fun _=>Prop) (K (.dw (.jl 88 (.agg []))) []) (K (.ret (.aQ [])) []) b):ah Tryz.prog 82 [.bool b] [] K:=by
 refine ag [] 0 Tryz.func82 (by rfl) (by rfl) ?_
 conv=>whnf
 cases b
 · (repeat' first | (refine aa [] ?_;conv=>whnf) | (refine two ?_ ?_<;>intro g<;>(try simp only[an]at g)<;>(conv=>whnf)) | (refine And.intro rfl ?_;conv=>whnf) | fail)
   exact h
 · (repeat' first | (refine aa [] ?_;conv=>whnf) | (refine two ?_ ?_<;>intro g<;>(try simp only[an]at g)<;>(conv=>whnf)) | (refine And.intro rfl ?_;conv=>whnf) | fail)
   exact h
theorem lG (v a b:Int) (K) (h:K (.ret (.bool (decide (a<=v/\v<=b)))) []):ah Tryz.prog 83 [.int .i64 v,.int .i64 a,.int .i64 b] [] K:=by
 have eY: ∀x,decide (a<=v/\v<=b)=x->K (.ret (.bool x)) []:=fun x e=>by rw [e] at h;exact h
 clear h
 refine ag [] 0 Tryz.func83 (by rfl) (by rfl) ?_
 conv=>whnf
 (repeat' first | (refine aa [] ?_;conv=>whnf) | (refine two ?_ ?_<;>intro g<;>(try simp only[an]at g)<;>(conv=>whnf)) | (refine And.intro rfl ?_;conv=>whnf) | fail)
 all_goals (refine eY _ ?_;simp;omega)
theorem mz (v a b:Int) (K) (h:K (.ret (.bool (decide (a<=v/\v<=b)))) []):ah Tryz.prog 84 [.int .i64 v,.int .i64 a,.int .i64 b] [] K:=by
 have eY: ∀x,decide (a<=v/\v<=b)=x->K (.ret (.bool x)) []:=fun x e=>by rw [e] at h;exact h
 clear h
 refine ag [] 0 Tryz.func84 (by rfl) (by rfl) ?_
 conv=>whnf
 (repeat' first | (refine aa [] ?_;conv=>whnf) | (refine two ?_ ?_<;>intro g<;>(try simp only[an]at g)<;>(conv=>whnf)) | (refine And.intro rfl ?_;conv=>whnf) | fail)
 all_goals (refine eY _ ?_;simp;omega)
theorem Ki (v:Int) (K) (h:K (.ret (.bool (decide (-25567<=v/\v<=84370)))) []):ah Tryz.prog 113 [.int .i64 v] [] K:=by
 have eY: ∀x,decide (-25567<=v/\v<=84370)=x->K (.ret (.bool x)) []:=fun x e=>by rw [e] at h;exact h
 clear h
 refine ag [] 0 Tryz.func113 (by rfl) (by rfl) ?_
 conv=>whnf
 (repeat' first | (refine aa [] ?_;conv=>whnf) | (refine two ?_ ?_<;>intro g<;>(try simp only[an]at g)<;>(conv=>whnf)) | (refine And.intro rfl ?_;conv=>whnf) | fail)
 all_goals (refine eY _ ?_;simp;omega)
noncomputable def qC (l:List Int):Bool:=open Classical in decide (dX l)
theorem hJ (l:List Int):qC l=true↔dX l:=by unfold qC;simp
theorem vE (l:List Int):qC l=false↔ ¬dX l:=by unfold qC;simp
set_option maxHeartbeats 2000000 in
theorem Kj (p:Prod) (hp:p.ok) (sk: ∀K:Out->List af->Prop,K (.ret (.bool (qC (sB p.name)))) []->ah Tryz.prog 42 [.str p.name] [] K) (K:Out->List af->Prop) (h0:CF p/\kT p/\jZ p->K (.ret (.aQ [])) [])
 (h1: ¬(CF p/\kT p/\jZ p)->K (.dw (.jl 88 (.agg []))) []):ah Tryz.prog 46 [dE p] [] K:=by
 have ht:=hp.times
 unfold bM at ht
 unfold dE ff
 refine ag [] 0 Tryz.func46 (by rfl) (by rfl) ?_
 conv=>whnf
 (repeat' first | (refine aa [] ?_;conv=>whnf) | (refine two ?_ ?_<;>intro g<;>(try simp only[an,hJ,vE]at g)<;>(conv=>whnf)) | (refine And.intro rfl ?_;conv=>whnf) | (refine sk _ ?_;conv=>whnf) | (refine lG _ _ _ _ ?_;conv=>whnf) | (refine bG _ _ ?_;conv=>whnf) | fail)
 all_goals first
  | (refine h0 ⟨⟨by assumption,by omega,by omega,by omega⟩,?_,by omega,?_,by omega⟩
     · unfold kT;omega
     · rw [wrap64 (x:=p.times - 1) (by omega) (by omega)] at*;omega)
  | (refine h1 fun hh=> ?_
     obtain ⟨⟨a1,a2,a3,a4⟩,a5,a6,a7,a8⟩:=hh
     unfold kT at a5
     first
      | contradiction
      | omega
      | (rw [wrap64 (x:=p.times - 1) (by omega) (by omega)] at*;omega))
set_option maxHeartbeats 2000000 in
theorem HN (p:Prod) (hp:p.ok) (hs:1<=p.times/\p.times<=600) (K:Out->List af->Prop) (h0:rR p->K (.ret (.aQ [])) []) (h1: ¬rR p->K (.dw (.jl 88 (.agg []))) []):ah Tryz.prog 47 [dE p] [] K:=by
 have ht:=hp.times
 have hlen:=hp.lr
 unfold bM at ht
 unfold dE ff
 obtain ⟨T,hT⟩: ∃T,tL p.late=T:=⟨_,rfl⟩
 obtain ⟨H,hH⟩: ∃H,iL p.cT=H:=⟨_,rfl⟩
 have nb:(rL p.au).length=p.au.length:=by simp [rL]
 rw [hT,hH]
 refine ag [] 0 Tryz.func47 (by rfl) (by rfl) ?_
 conv=>whnf
 (repeat' first | (refine aa [] ?_;conv=>whnf) | (refine two ?_ ?_<;>intro g<;>(try simp only[an,nb]at g)<;>(conv=>whnf)) | (refine And.intro rfl ?_;conv=>whnf) | (refine mz _ _ _ _ ?_;conv=>whnf) | (refine bG _ _ ?_;conv=>whnf) | fail)
 rotate_left
 · exact h1 fun hh=>by unfold rR at hh;omega
 · exact h1 fun hh=>by unfold rR at hh;omega
 · exact h1 fun hh=>by unfold rR at hh;omega
 have eY:(eV p.times none p.au->K (.ret (.aQ [])) [])/\(¬eV p.times none p.au->K (.dw (.jl 88 (.agg []))) []):=
  ⟨fun hh=>h0 ⟨by omega,by omega,by omega,hh⟩,fun hh=>h1 fun h=>hh h.2.2.2⟩
 clear h0 h1
 obtain ⟨h0,h1⟩:=eY
 let CC:List V:=[.str p.name,.int .i64 p.count,.int .i64 p.m3,.int .i64 p.kind,.int .i64 p.every,.int .i64 p.times,.int .i64 p.b_,.int .i64 p.bW,.sl (rL p.au) .no,.int .i64 p.kY,.int .i64 p.o1,.int .i64 p.o2,.int .i64 p.o3,.int .i64 p.o4,.int .i64 p.over,.sl T .no,.int .i64 p.cap,.int .i64 p.roll,.sl H .no]
 let S:Nat->St:=fun i=>⟨(.undef:: .ptr 0 0:: .ptr 1 0:: .undef:: .undef:: .undef:: .undef:: .undef:: .undef:: .undef:: .undef:: .undef:: .undef:: .undef:: .undef:: .undef:: .undef:: .undef:: .undef:: .undef:: .undef:: .undef:: .undef:: .sl (rL p.au) .no:: .int .i64 (p.au.length:Nat):: .int .i64 (i:Nat):: .undef:: .undef:: .undef:: .undef:: .undef:: .undef:: .undef:: .undef:: .undef:: .undef:: .undef:: .undef:: .undef:: .undef:: .undef:: .undef:: .undef:: .undef:: .undef:: .undef:: .undef:: .undef:: .undef:: .undef:: .undef:: .undef:: .undef:: .undef:: .undef:: .undef:: .undef:: .undef:: .undef::[]),[.cells true 90 CC,.cells true 28 CC],0,[]⟩
 refine aA.enter (s':=S 0) (ae ?_ (.cons (.eq rfl) (.cons (.eq rfl) .nil)) rfl rfl rfl)
  (aA.dC S (fun i=>p.au.length - i) (fun i=>i<=p.au.length/\(eV p.times none p.au↔eV p.times (HM p.au i) (p.au.drop i))) ?_ 0 ⟨by omega,Iff.rfl⟩)
 · repeat' first
    | exact aq.nil
    | refine aq.cons VW.undef ?_
    | refine aq.cons (VW.eq rfl) ?_
    | refine aq.cons (VW.eq (by rw [nb])) ?_
 rintro i ⟨hi,hinv⟩ ih
 refine ai [] ?_;conv=>whnf
 (repeat' first | (refine aa [] ?_;conv=>whnf) | (refine two ?_ ?_<;>intro g<;>(try simp only[an]at g)<;>(conv=>whnf)) | (refine And.intro rfl ?_;conv=>whnf) | fail)
 · have cV:i<p.au.length:=by omega
   have aD:(rL p.au)[((i:Nat):Int).toNat]? =some (m_ p.au[i]):=by rw [Int.toNat_natCast];simp [rL,List.getElem?_eq_getElem cV]
   have dW:p.au.drop i=p.au[i]::p.au.drop (i+1):=List.drop_eq_getElem_cons cV
   obtain ⟨q,Bp,qR⟩:=oB m_ p.au i cV (by omega)
   have AT:=lF cV
   obtain ⟨d,hd⟩: ∃d,p.au[i]=d:=⟨_,rfl⟩
   rw [hd] at aD dW AT
   have hI:=hp.au d (by rw [←hd];exact List.getElem_mem _)
   unfold bM at hI
   rw [dW] at hinv
   conv at hinv=>rhs;unfold eV
   rw [←AT] at hinv
   refine ⟨by omega,_,aD,rfl,?_⟩
   have wt:IntKind.i64.wrap (p.times - 1)=p.times - 1:=wrap64 (by omega) (by omega)
   have wi:IntKind.i64.wrap ((i:Int)+1)=((i+1:Nat):Int):=by rw [wrap64 (by omega) (by omega)];omega
   have M4: ¬((1<=d.lT/\d.lT<=p.times - 1)/\(0<=d.bW/\d.bW<=1000000000)/\(0<i->q.lT<d.lT))->K (.dw (.jl 88 (.agg []))) []:=fun hh=>h1 fun h=>hh (by
    obtain ⟨a,b,c,_⟩:=hinv.1 h
    exact ⟨a,b,fun h0=>c q ((qR q).2 ⟨h0,rfl⟩)⟩)
   have jM:(1<=d.lT/\d.lT<=p.times - 1)/\(0<=d.bW/\d.bW<=1000000000)/\(0<i->q.lT<d.lT)->aA _ _ _ (S (i+1)) _:=fun hh=>ih (i+1) ⟨by omega,hinv.trans ⟨fun h=>h.2.2.2,fun h=>⟨hh.1,hh.2.1,fun x hx=>by obtain ⟨h0,rfl⟩:=(qR x).1 hx;exact hh.2.2 h0,h⟩⟩⟩ (by omega)
   conv=>whnf
   (repeat' first | (refine aa [] ?_;conv=>whnf) | (refine two ?_ ?_<;>intro g<;>(try simp only[an,wt]at g)<;>(conv=>whnf)) | (refine And.intro rfl ?_;conv=>whnf) | (refine ak (by decide+kernel) ?_;conv=>whnf) | (refine lG _ _ _ _ ?_;conv=>whnf) | (refine mz _ _ _ _ ?_;conv=>whnf) | (refine bG _ _ ?_;conv=>whnf) | (refine ⟨by rw [wrap64 (by omega) (by omega)];omega,_,Bp (by omega),rfl,?_⟩;conv=>whnf) | fail)
   all_goals first
    | (refine M4 fun hh=> ?_;omega)
    | (refine fH (src:=[0,1]) ?_;conv=>whnf
       refine aA.enter (s':=S (i+1)) (ae (by rw [wi];(repeat' first | exact aq.nil | refine aq.cons VW.undef ?_ | refine aq.cons (VW.eq rfl) ?_)) (.cons (.eq rfl) (.cons (.eq rfl) .nil)) rfl rfl rfl) (jM (by omega)))
 · have cV:i=p.au.length:=by omega
   subst cV
   rw [List.drop_length] at hinv
   refine ⟨_,aB.refl,?_⟩
   conv=>whnf
   (repeat' first | (refine aa [] ?_;conv=>whnf) | (refine two ?_ ?_<;>intro g<;>(try simp only[an]at g)<;>(conv=>whnf)) | (refine And.intro rfl ?_;conv=>whnf) | fail)
   exact h0 (hinv.2 trivial)
end C6
namespace C7
open Go Go.Proofs VL D1 eG C2 C3 C5
def HO (p e:Int):V:= .jl 80 (.agg [.int .i64 p,.int .i64 e])
theorem LU:bI 1=nM:=by funext c;simp [bI]
theorem HP:bI 2=vB:=by funext c;simp [bI]
theorem HQ:bI 3=fun _=>false:=by funext c;simp [bI]
theorem D4 {l:List Int} {j:Nat} {c:Int} {r:List Int} (h:l.drop j=c::r) (g:Int->Bool):(l.drop j).take (1+((l.drop (j+1)).takeWhile g).length)=c::r.takeWhile g:=by
 have h1:l.drop (j+1)=r:=by rw [←List.drop_drop,h];rfl
 rw [h,h1,Nat.add_comm,List.take_succ_cons]
 congr 1
 have: ∀(l:List Int),l.take (l.takeWhile g).length=l.takeWhile g:=fun l=>by
  induction l with
  | nil=>rfl
  | cons x l ih=>
    cases hx:g x
    · rw [List.takeWhile_cons_of_neg (by simp [hx])];rfl
    · rw [List.takeWhile_cons_of_pos hx,List.length_cons,List.take_succ_cons,ih]
 exact this r
set_option maxHeartbeats 2000000 in
theorem Kk (s:ByteArray) (hs:s.size<1000000) (i:Nat) (hi:i<=s.size) (K)
 (h0:(sB s).drop (i+aP false ((sB s).drop i))=[]->K (.ret (my ⟨0,i+aP false ((sB s).drop i),[]⟩)) (lO s (i+aP false ((sB s).drop i))))
 (h1: ∀c r k,(sB s).drop (i+aP false ((sB s).drop i))=c::r->fu c r=some k->K (.ret (my ⟨k,i+aP false ((sB s).drop i),c::r.takeWhile (bI k)⟩)) (lO s (i+aP false ((sB s).drop i)+1+(r.takeWhile (bI k)).length)))
 (h2: ∀c r,(sB s).drop (i+aP false ((sB s).drop i))=c::r->fu c r=none->K (.dw (HO (i+aP false ((sB s).drop i):Nat) 6)) (lO s (i+aP false ((sB s).drop i)))):
 ah Tryz.prog 40 [.ptr 0 0] (lO s i) K:=by
 have nC:=bh s
 have Kl:=lE false ((sB s).drop i)
 rw [List.length_drop] at Kl
 refine ag [] 1 Tryz.func40 (by rfl) (by rfl) ?_
 (conv=>whnf);(repeat (refine aa [] ?_;conv=>whnf))
 refine M3 s hs i hi _ ?_
 obtain ⟨j,hj⟩: ∃j,i+aP false ((sB s).drop i)=j:=⟨_,rfl⟩
 rw [hj] at h0 h1 h2 ⊢
 conv=>whnf
 (repeat' first | (refine aa [] ?_;conv=>whnf) | (refine two ?_ ?_<;>intro g<;>(try simp only[an]at g)<;>(conv=>whnf)) | (refine And.intro rfl ?_;conv=>whnf) | (refine ak (by decide+kernel) ?_;conv=>whnf) | fail)
 · have e:j=s.size:=by omega
   exact h0 (List.drop_eq_nil_of_le (by omega))
 · have eO:j<s.size:=by omega
   obtain ⟨c,hc,hd⟩:=kD eO
   obtain ⟨r,hr⟩: ∃r,(sB s).drop (j+1)=r:=⟨_,rfl⟩
   rw [hr] at hd
   have wj:IntKind.i64.wrap ((j:Int)+1)=((j+1:Nat):Int):=by rw [wrap64 (by omega) (by omega)];omega
   refine aU (x:=c) (by omega) (by simpa using hc) fun b hb=> ?_
   conv=>whnf
   (repeat (refine aa [] ?_;conv=>whnf))
   rw [hb]
   clear hb b
   have oN: ∀k g,fu c r=some k->bI k=g->K (.ret (.agg [.int .i64 k,.int .i64 j,.str (az (((sB s).drop j).take (1+(((sB s).drop (j+1)).takeWhile g).length)))])) (lO s (j+1+(((sB s).drop (j+1)).takeWhile g).length)):=fun k g hk hg=>by
    have:=h1 c r k hd hk
    rw [hg] at this
    rw [D4 hd,hr];exact this
   (repeat' first | (refine aa [] ?_;conv=>whnf) | (refine two ?_ ?_<;>intro g<;>(try simp only[an,dY,dt,tA,tz,wj]at g)<;>(conv=>whnf)) | (refine And.intro rfl ?_;conv=>whnf) | (refine ak (by decide+kernel) ?_;conv=>whnf) | (refine vC _ _ ?_;conv=>whnf) | (refine qB _ _ ?_;conv=>whnf) | (refine xw s hs j eO 1 _ nM AS _ ?_;conv=>whnf) | (refine xw s hs j eO 2 _ vB vD _ ?_;conv=>whnf) | (refine xw s hs j eO 3 _ (fun _=>false) D0 _ ?_;conv=>whnf) | fail)
   all_goals first
    | exact oN 1 _ (DY r g) LU
    | (exfalso;omega)
    | exact oN 2 _ (xv r (by omega) (.inl (by omega))) HP
    | exact oN 3 _ (AR r (by omega)) HQ
    | (refine h2 c r hd (DZ r (by omega) ?_ (by omega))
       rintro (h | ⟨h,d,jq,fP⟩)
       · omega
       · first
          | omega
          | (rw [←hr,List.drop_eq_nil_of_le (by omega)] at jq;cases jq))
    | skip
   obtain ⟨d,jq,fP⟩:=kD (s:=s) (i:=j+1) (by rw [wj] at*;omega)
   rw [hr] at fP
   have hh:r.head?=some d:=by rw [fP];rfl
   refine aU (x:=d) (by rw [wj];omega) (by rw [wj,Int.toNat_natCast];exact jq) fun b hb=> ?_
   conv=>whnf
   (repeat (refine aa [] ?_;conv=>whnf))
   rw [hb]
   clear hb b
   (repeat' first | (refine aa [] ?_;conv=>whnf) | (refine two ?_ ?_<;>intro g<;>(try simp only[an,dY,dt,tA,tz,wj]at g)<;>(conv=>whnf)) | (refine And.intro rfl ?_;conv=>whnf) | (refine ak (by decide+kernel) ?_;conv=>whnf) | (refine vC _ _ ?_;conv=>whnf) | (refine qB _ _ ?_;conv=>whnf) | (refine xw s hs j eO 1 _ nM AS _ ?_;conv=>whnf) | (refine xw s hs j eO 2 _ vB vD _ ?_;conv=>whnf) | (refine xw s hs j eO 3 _ (fun _=>false) D0 _ ?_;conv=>whnf) | fail)
   all_goals first
    | (exfalso;omega)
    | exact oN 2 _ (xv r (by omega) (.inr ⟨by omega,d,hh,by unfold cw;omega⟩)) HP
    | exact oN 3 _ (AR r (by omega)) HQ
    | (refine h2 c r hd (DZ r (by omega) ?_ (by omega))
       rintro (h | ⟨h,d',jq,fP⟩)
       · omega
       · rw [hh] at jq;cases jq;unfold cw at fP;omega)
end C7
namespace C8
open Go Go.Proofs VL D1 eG C2 C3 C5 C7
def aO (a:V) (b c:Int):List af:=[.cells true 48 [a],.cells true 3 [.int .i64 b],.cells true 29 [.int .i64 c]]
theorem HS (n k:Nat) (b c:Int) (mv:Bool) (L:List V) (K) (h:K false (aO (.bX 3 3 0 n k) b c++[.buf mv 3 L])):
 iP Tryz.prog 39 [.ptr 0 0,.ptr 1 0,.ptr 2 0] (aO (.bX 3 3 0 n k) b c++[.buf mv 3 L]) none K:=by
 unfold aO at h ⊢
 refine eM [] 4 Tryz.func39 (by rfl) (by rfl) ?_
 conv=>whnf
 refine ⟨rfl,?_⟩
 conv=>whnf
 (repeat' first | (refine aa [] ?_;conv=>whnf) | (refine two ?_ ?_<;>intro g<;>(try simp only[an]at g)<;>(conv=>whnf)) | (refine And.intro rfl ?_;conv=>whnf) | (refine ak (by decide+kernel) ?_;conv=>whnf) | fail)
 exact h
theorem M5 (n k:Nat) (b c:Int) (mv:Bool) (L:List V) (p e:Int) (K) (h:K true (aO (.sl [] .ex) p e++[.buf mv 3 L])):
 iP Tryz.prog 39 [.ptr 0 0,.ptr 1 0,.ptr 2 0] (aO (.bX 3 3 0 n k) b c++[.buf mv 3 L]) (some (HO p e)) K:=by
 unfold HO
 unfold aO at h ⊢
 refine eM [] 4 Tryz.func39 (by rfl) (by rfl) ?_
 conv=>whnf
 refine ⟨rfl,?_⟩
 conv=>whnf
 (repeat' first | (refine aa [] ?_;conv=>whnf) | (refine two ?_ ?_<;>intro g<;>(try simp only[an]at g)<;>(conv=>whnf)) | (refine And.intro rfl ?_;conv=>whnf) | (refine ak (by decide+kernel) ?_;conv=>whnf) | fail)
 exact h
theorem M6 (b c:Int) (p e:Int) (K) (h:K true (aO (.sl [] .ex) p e)):
 iP Tryz.prog 39 [.ptr 0 0,.ptr 1 0,.ptr 2 0] (aO (.sl [] .ex) b c) (some (HO p e)) K:=by
 unfold HO
 unfold aO at h ⊢
 refine eM [] 3 Tryz.func39 (by rfl) (by rfl) ?_
 conv=>whnf
 refine ⟨rfl,?_⟩
 conv=>whnf
 (repeat' first | (refine aa [] ?_;conv=>whnf) | (refine two ?_ ?_<;>intro g<;>(try simp only[an]at g)<;>(conv=>whnf)) | (refine And.intro rfl ?_;conv=>whnf) | (refine ak (by decide+kernel) ?_;conv=>whnf) | fail)
 exact h
theorem CG (l:List Tok):(kL l).length=l.length:=by simp [kL]
theorem ee {o z lo n n' c c':Nat} (h1:n=n') (h2:c=c'):V.bX o z lo n c=V.bX o z lo n' c':=by subst h1;subst h2;rfl
theorem D5 {c:Int} {r:List Int} {k:Int} (h:fu c r=some k):k=1\/k=2\/k=3:=by
 unfold fu at h
 repeat' split at h
 all_goals simp at h
 all_goals omega
def Lx.pre (a:List Tok):Lx->Lx
 | .ok l=> .ok (a++l)
 | .bad p=> .bad p
theorem AU (a:List Tok) (t:Tok) (x:Lx):Lx.pre a (x.cons t)=Lx.pre (a++[t]) x:=by cases x<;>simp [Lx.pre,Lx.cons]
theorem hO {f:Nat} {l:List Int} {i:Nat}:cU (f+1) l i=match l.drop (aP false l) with
 | []=> .ok [⟨0,i+aP false l,[]⟩]
 | c::r=>match fu c r with
   | none=> .bad (i+aP false l)
   | some k=>(cU f (r.dropWhile (bI k)) (i+aP false l+1+(r.takeWhile (bI k)).length)).cons ⟨k,i+aP false l,c::r.takeWhile (bI k)⟩:=rfl
theorem D6 {L:List V} {l:List C3.Tok} {sp:List V} {n c:Nat} {a b:Int} {K:Out->List af->Prop} (hL:L=kL l++sp) (hc:c=l.length+sp.length) (hn:n=l.length) (h:K (.ret (.aQ [.sl (kL l) .no,.int .i64 a,.int .i64 b])) []):
 ∃v' iZ,aB 0 ⟨[.aQ [.bX 0 3 0 n c,.int .i64 a,.int .i64 b]],[.buf false 3 L],0,[]⟩ ⟨[v'],iZ,0,[]⟩/\K (.ret v') iZ:=by
 subst hL hc hn
 obtain ⟨s',hw,hk⟩:=Av (m:=0) 0 false (s:=⟨[.aQ [.bX 0 3 0 l.length (l.length+sp.length),.int .i64 a,.int .i64 b]],[.buf false 3 (kL l++sp)],0,[]⟩)
  (K:=fun s'=>aB 0 s' ⟨[.aQ [.sl (kL l) .no,.int .i64 a,.int .i64 b]],[],0,[]⟩) (by
    conv=>whnf
    refine ⟨by simp [kL],?_⟩
    conv=>whnf
    refine ae (.cons (.eq ?_) .nil) .nil rfl rfl rfl
    rw [List.drop_zero, ←CG,List.take_left])
 exact ⟨_,_,hw.trans hk,h⟩
set_option maxHeartbeats 2000000 in
theorem PC (s:ByteArray) (hs:s.size<1000000) (K)
 (h0: ∀l,fp (sB s)= .ok l->K (.ret (.aQ [.sl (kL l) .no,.int .i64 0,.int .i64 0])) [])
 (h1: ∀p e,fp (sB s)= .error (p,e)->K (.ret (.aQ [.sl [] .no,.int .i64 p,.int .i64 e])) []):ah Tryz.prog 18 [.str s] [] K:=by
 have nC:=bh s
 refine ah.dv (ag [] 0 Tryz.func18 (by rfl) (by rfl) ?_)
 conv=>whnf
 (repeat' first | (refine aa [] ?_;conv=>whnf) | (refine two ?_ ?_<;>intro g<;>(try simp only[an]at g)<;>(conv=>whnf)) | (refine And.intro rfl ?_;conv=>whnf) | (refine ak (by decide+kernel) ?_;conv=>whnf) | fail)
 · have hb:fp (sB s)= .error (0,3):=by unfold fp;rw [if_pos (by omega)]
   refine M6 0 0 0 3 _ ?_
   conv=>whnf
   (repeat' first | (refine aa [] ?_;conv=>whnf) | (refine two ?_ ?_<;>intro g<;>(try simp only[an]at g)<;>(conv=>whnf)) | (refine And.intro rfl ?_;conv=>whnf) | (refine ak (by decide+kernel) ?_;conv=>whnf) | fail)
   exact ⟨_,_,ae (.cons (.aQ (.cons .no (.cons (.eq rfl) (.cons (.eq rfl) .nil)))) .nil) .nil rfl rfl rfl,h1 0 3 hb⟩
 have cg:s.size<=20000:=by omega
 have c_: ∀l,cU ((sB s).length+1) (sB s) 0= .ok l->fp (sB s)= .ok l:=fun l e=>by unfold fp;rw [if_neg (by omega),e]
 have Fc: ∀p,cU ((sB s).length+1) (sB s) 0= .bad p->fp (sB s)= .error (p,6):=fun l e=>by unfold fp;rw [if_neg (by omega),e]
 let OB:Nat->List Tok->List V->List af:=fun i acc sp=>[.cells true 48 [.bX 4 3 0 acc.length (acc.length+sp.length)],.cells true 3 [.int .i64 0],.cells true 29 [.int .i64 0],.cells true 83 [.str s,.int .i64 i],.buf false 3 (kL acc++sp)]
 let S:Nat × Nat × List Tok × List V->St:=fun x=>⟨(.str s:: .undef:: .ptr 0 0:: .ptr 1 0:: .ptr 2 0:: .ptr 3 0:: .undef:: .undef:: .undef:: .undef:: .undef:: .undef:: .undef:: .undef:: .undef:: .undef:: .undef:: .undef:: .undef:: .undef:: .undef:: .undef:: .undef:: .undef:: .undef:: .undef::[]),OB x.2.1 x.2.2.1 x.2.2.2,0,[(.func 39,[],[.ptr 0 0,.ptr 1 0,.ptr 2 0])]⟩
 refine aA.enter (s':=S ((sB s).length+1,0,[],[])) (aB.trans (iE 0 0 3 none rfl rfl (Nat.zero_le _)) (ae ?_ (.cons (.eq rfl) (.cons (.eq rfl) (.cons (.eq rfl) (.cons (.eq rfl) (.cons (.eq rfl) .nil))))) rfl rfl rfl))
  (aA.dC S (fun x=>x.1) (fun x=>x.2.1<=s.size/\s.size+1<=x.1+x.2.1/\x.2.2.1.length<=x.2.1/\cU ((sB s).length+1) (sB s) 0=Lx.pre x.2.2.1 (cU x.1 ((sB s).drop x.2.1) x.2.1)) ?_ ((sB s).length+1,0,[],[]) ⟨by simp,by simp;omega,by simp,?_⟩)
 · (repeat' first | exact aq.nil | refine aq.cons VW.undef ?_ | refine aq.cons (VW.eq rfl) ?_)
 rotate_left
 · simp only [List.drop_zero];cases cU ((sB s).length+1) (sB s) 0<;>rfl
 rintro ⟨f,i,acc,sp⟩ ⟨hi,hf,CH,hinv⟩ ih
 simp only at hi hf CH hinv
 obtain ⟨f,rfl⟩: ∃f',f=f'+1:=⟨f - 1,by omega⟩
 conv at hinv=>rhs;rw [hO]
 rw [List.drop_drop] at hinv
 have zf:=CG acc
 refine ai [] ?_;conv=>whnf
 (repeat (refine aa [] ?_;conv=>whnf))
 refine Kk s hs i hi _ (fun e=> ?_) (fun c r k e hk=> ?_) (fun c r e hk=> ?_)
 · rw [e] at hinv
   obtain ⟨tk,kW⟩: ∃tk:C3.Tok,tk=⟨0,i+aP false ((sB s).drop i),[]⟩:=⟨_,rfl⟩
   have hinv:cU ((sB s).length+1) (sB s) 0= .ok (acc++[tk]):=by rw [hinv,kW];rfl
   rw [←kW]
   conv=>whnf
   (repeat' first | (refine aa [] ?_;conv=>whnf) | (refine two ?_ ?_<;>intro g<;>(try simp only[an]at g)<;>(conv=>whnf)) | (refine And.intro rfl ?_;conv=>whnf) | (refine ak (by decide+kernel) ?_;conv=>whnf) | fail)
   refine ⟨by simp;omega,by simp [V.cells],?_⟩
   conv=>whnf
   (repeat' first | (refine aa [] ?_;conv=>whnf) | (refine two ?_ ?_<;>intro g<;>(try simp only[an]at g)<;>(conv=>whnf)) | (refine And.intro rfl ?_;conv=>whnf) | (refine ak (by decide+kernel) ?_;conv=>whnf) | fail)
   · have xZ:1<=sp.length:=by have:=Nat.le_of_ble_eq_true g;simp at this;omega
     refine ⟨by rw [List.length_append,zf];simp,?_⟩
     conv=>whnf
     (repeat' first | (refine aa [] ?_;conv=>whnf) | (refine two ?_ ?_<;>intro g<;>(try simp only[an]at g)<;>(conv=>whnf)) | (refine And.intro rfl ?_;conv=>whnf) | (refine ak (by decide+kernel) ?_;conv=>whnf) | fail)
     rotate_left
     · exfalso;rw [kW] at g;simp at g
     refine ⟨_,aB.refl,?_⟩
     conv=>whnf
     (repeat' first | (refine aa [] ?_;conv=>whnf) | (refine two ?_ ?_<;>intro g<;>(try simp only[an]at g)<;>(conv=>whnf)) | (refine And.intro rfl ?_;conv=>whnf) | (refine ak (by decide+kernel) ?_;conv=>whnf) | fail)
     refine HS _ _ _ _ _ _ _ ?_
     conv=>whnf
     (repeat' first | (refine aa [] ?_;conv=>whnf) | (refine two ?_ ?_<;>intro g<;>(try simp only[an]at g)<;>(conv=>whnf)) | (refine And.intro rfl ?_;conv=>whnf) | (refine ak (by decide+kernel) ?_;conv=>whnf) | fail)
     refine D6 (sp:=sp.drop 1) (gr my acc tk sp) (by simp;omega) (by simp) ?_
     exact h0 _ (c_ _ hinv)
   · refine ⟨by rw [List.length_append,zf];simp,fun Kf sT=> ?_⟩
     conv=>whnf
     (repeat' first | (refine aa [] ?_;conv=>whnf) | (refine two ?_ ?_<;>intro g<;>(try simp only[an]at g)<;>(conv=>whnf)) | (refine And.intro rfl ?_;conv=>whnf) | (refine ak (by decide+kernel) ?_;conv=>whnf) | fail)
     rotate_left
     · exfalso;rw [kW] at g;simp at g
     refine ⟨_,aB.refl,?_⟩
     conv=>whnf
     (repeat' first | (refine aa [] ?_;conv=>whnf) | (refine two ?_ ?_<;>intro g<;>(try simp only[an]at g)<;>(conv=>whnf)) | (refine And.intro rfl ?_;conv=>whnf) | (refine ak (by decide+kernel) ?_;conv=>whnf) | fail)
     refine HS _ _ _ _ _ _ _ ?_
     conv=>whnf
     (repeat' first | (refine aa [] ?_;conv=>whnf) | (refine two ?_ ?_<;>intro g<;>(try simp only[an]at g)<;>(conv=>whnf)) | (refine And.intro rfl ?_;conv=>whnf) | (refine ak (by decide+kernel) ?_;conv=>whnf) | fail)
     refine D6 (sp:=Kf) (gu my acc tk sp Kf) (by simp) (by simp) ?_
     exact h0 _ (c_ _ hinv)
 · rw [e] at hinv
   simp only [hk] at hinv
   obtain ⟨tk,kW⟩: ∃tk:C3.Tok,tk=⟨k,i+aP false ((sB s).drop i),c::r.takeWhile (bI k)⟩:=⟨_,rfl⟩
   obtain ⟨i',mT⟩: ∃i',i'=i+aP false ((sB s).drop i)+1+(r.takeWhile (bI k)).length:=⟨_,rfl⟩
   have hr:r=(sB s).drop (i+aP false ((sB s).drop i)+1):=by rw [←List.drop_drop,e];rfl
   have nb:r.length+(i+aP false ((sB s).drop i)+1)=s.size:=by
    have:=congrArg List.length e
    rw [List.length_drop,List.length_cons] at this;omega
   have Qv:=HL (bI k) r
   have Lm:r.dropWhile (bI k)=(sB s).drop i':=by rw [qz,mT,hr,List.drop_drop]
   rw [Lm, ←mT, ←kW,AU] at hinv
   have sK:k=1\/k=2\/k=3:=D5 hk
   rw [←kW, ←mT]
   conv=>whnf
   (repeat' first | (refine aa [] ?_;conv=>whnf) | (refine two ?_ ?_<;>intro g<;>(try simp only[an]at g)<;>(conv=>whnf)) | (refine And.intro rfl ?_;conv=>whnf) | (refine ak (by decide+kernel) ?_;conv=>whnf) | fail)
   refine ⟨by simp;omega,by simp [V.cells],?_⟩
   conv=>whnf
   (repeat' first | (refine aa [] ?_;conv=>whnf) | (refine two ?_ ?_<;>intro g<;>(try simp only[an]at g)<;>(conv=>whnf)) | (refine And.intro rfl ?_;conv=>whnf) | (refine ak (by decide+kernel) ?_;conv=>whnf) | fail)
   · have xZ:1<=sp.length:=by have:=Nat.le_of_ble_eq_true g;simp at this;omega
     refine ⟨by rw [List.length_append,zf];simp,?_⟩
     conv=>whnf
     (repeat' first | (refine aa [] ?_;conv=>whnf) | (refine two ?_ ?_<;>intro g<;>(try simp only[an]at g)<;>(conv=>whnf)) | (refine And.intro rfl ?_;conv=>whnf) | (refine ak (by decide+kernel) ?_;conv=>whnf) | fail)
     · exfalso;rw [kW] at g;simp only at g;omega
     refine fH (src:=[0,1,2,3,4]) ?_;conv=>whnf
     refine aA.enter (s':=S (f,i',acc++[tk],(sp.drop 1))) (ae ?_ (.cons (.eq ?_) (.cons (.eq rfl) (.cons (.eq rfl) (.cons (.eq rfl) (.cons (.eq ?_) .nil))))) rfl rfl rfl) (ih (f,i',acc++[tk],(sp.drop 1)) ⟨by simp only;omega,by simp only;omega,by simp only [List.length_append,List.length_singleton];omega,hinv⟩ (by simp only;omega))
     · (repeat' first | exact aq.nil | refine aq.cons VW.undef ?_ | refine aq.cons (VW.eq rfl) ?_)
     · exact congrArg (fun x=>af.cells true 48 [x]) (ee (by simp) (by simp;omega))
     · exact congrArg (fun x=>af.buf false 3 x none) (gr my acc tk sp)
   · refine ⟨by rw [List.length_append,zf];simp,fun Kf sT=> ?_⟩
     conv=>whnf
     (repeat' first | (refine aa [] ?_;conv=>whnf) | (refine two ?_ ?_<;>intro g<;>(try simp only[an]at g)<;>(conv=>whnf)) | (refine And.intro rfl ?_;conv=>whnf) | (refine ak (by decide+kernel) ?_;conv=>whnf) | fail)
     · exfalso;rw [kW] at g;simp only at g;omega
     refine fH (src:=[0,1,2,3,6]) ?_;conv=>whnf
     refine aA.enter (s':=S (f,i',acc++[tk],Kf)) (ae ?_ (.cons (.eq ?_) (.cons (.eq rfl) (.cons (.eq rfl) (.cons (.eq rfl) (.cons (.eq ?_) .nil))))) rfl rfl rfl) (ih (f,i',acc++[tk],Kf) ⟨by simp only;omega,by simp only;omega,by simp only [List.length_append,List.length_singleton];omega,hinv⟩ (by simp only;omega))
     · (repeat' first | exact aq.nil | refine aq.cons VW.undef ?_ | refine aq.cons (VW.eq rfl) ?_)
     · exact congrArg (fun x=>af.cells true 48 [x]) (ee (by simp) (by simp))
     · exact congrArg (fun x=>af.buf false 3 x none) (gu my acc tk sp Kf)
 · rw [e] at hinv
   simp only [hk] at hinv
   conv=>whnf
   (repeat' first | (refine aa [] ?_;conv=>whnf) | (refine two ?_ ?_<;>intro g<;>(try simp only[an]at g)<;>(conv=>whnf)) | (refine And.intro rfl ?_;conv=>whnf) | (refine ak (by decide+kernel) ?_;conv=>whnf) | fail)
   refine M5 acc.length (acc.length+sp.length) 0 0 false (kL acc++sp) (i+aP false ((sB s).drop i):Nat) 6 _ ?_
   conv=>whnf
   (repeat' first | (refine aa [] ?_;conv=>whnf) | (refine two ?_ ?_<;>intro g<;>(try simp only[an]at g)<;>(conv=>whnf)) | (refine And.intro rfl ?_;conv=>whnf) | (refine ak (by decide+kernel) ?_;conv=>whnf) | fail)
   exact ⟨_,_,ae (.cons (.aQ (.cons .no (.cons (.eq rfl) (.cons (.eq rfl) .nil)))) .nil) .nil rfl rfl rfl,h1 _ 6 (Fc _ hinv)⟩
end C8
namespace C9
open Go Go.Proofs VL D1 eG C2 C3 C5 C7 C8
theorem yI (c:Int) (K) (h:K (.ret (.bool (sW c))) []):ah Tryz.prog 86 [.int .u8 c] [] K:=by
 have eY: ∀b,sW c=b->K (.ret (.bool b)) []:=fun b e=>by rw [e] at h;exact h
 clear h
 refine ag [] 0 Tryz.func86 (by rfl) (by rfl) ?_
 conv=>whnf
 (repeat' first | (refine aa [] ?_;conv=>whnf) | (refine two ?_ ?_<;>intro g<;>(try simp only[an]at g)<;>(conv=>whnf)) | (refine And.intro rfl ?_;conv=>whnf) | fail)
 all_goals (refine eY _ ?_;rw [Bool.eq_iff_iff,dY];simp;omega)
theorem yJ (c:Int) (K) (h:K (.ret (.bool (qy c))) []):ah Tryz.prog 87 [.int .u8 c] [] K:=by
 have eY: ∀b,qy c=b->K (.ret (.bool b)) []:=fun b e=>by rw [e] at h;exact h
 clear h
 refine ag [] 0 Tryz.func87 (by rfl) (by rfl) ?_
 conv=>whnf
 (repeat' first | (refine aa [] ?_;conv=>whnf) | (refine two ?_ ?_<;>intro g<;>(try simp only[an]at g)<;>(conv=>whnf)) | (refine And.intro rfl ?_;conv=>whnf) | fail)
 all_goals (refine eY _ ?_;rw [Bool.eq_iff_iff,dt];simp;omega)
theorem M7 (k c:Int) (hk:k=1\/k=2) (K) (h:K (.ret (.bool (bI k c))) []):ah Tryz.prog 52 [.int .i64 k,.int .u8 c] [] K:=by
 have eY: ∀b,bI k c=b->K (.ret (.bool b)) []:=fun b e=>by rw [e] at h;exact h
 clear h
 rcases hk with rfl | rfl
 · refine ag [] 0 Tryz.func52 (by rfl) (by rfl) ?_
   conv=>whnf
   (repeat' first | (refine aa [] ?_;conv=>whnf) | (refine two ?_ ?_<;>intro g<;>(try simp only[an]at g)<;>(conv=>whnf)) | (refine And.intro rfl ?_;conv=>whnf) | (refine yI _ _ ?_;conv=>whnf) | (refine yJ _ _ ?_;conv=>whnf) | fail)
   all_goals (refine eY _ ?_;rw [LU,Bool.eq_iff_iff,oA];simp_all)
 · refine ag [] 0 Tryz.func52 (by rfl) (by rfl) ?_
   conv=>whnf
   (repeat' first | (refine aa [] ?_;conv=>whnf) | (refine two ?_ ?_<;>intro g<;>(try simp only[an]at g)<;>(conv=>whnf)) | (refine And.intro rfl ?_;conv=>whnf) | (refine yI _ _ ?_;conv=>whnf) | (refine yJ _ _ ?_;conv=>whnf) | fail)
   all_goals (refine eY _ ?_;rw [HP,Bool.eq_iff_iff,qA];simp_all)
theorem Km (s:ByteArray) (hs:s.size<1000000) (j:Nat) (c:Int) (r:List Int) (hd:(sB s).drop j=c::r) (K) (h:K (.ret (.int .i64 ((fu c r).getD (-1)))) []):ah Tryz.prog 51 [.str s,.int .i64 j] [] K:=by
 have nC:=bh s
 have eO:j<s.size:=by
  have:=congrArg List.length hd
  rw [List.length_drop,List.length_cons] at this;omega
 have hc:(sB s)[j]? =some c:=by
  have:=congrArg (fun l=>l[0]?) hd
  simpa using this
 have hr:(sB s).drop (j+1)=r:=by rw [←List.drop_drop,hd];rfl
 have oN: ∀k,fu c r=k->K (.ret (.int .i64 (k.getD (-1)))) []:=fun k e=>by rw [e] at h;exact h
 have wj:IntKind.i64.wrap ((j:Int)+1)=((j+1:Nat):Int):=by rw [wrap64 (by omega) (by omega)];omega
 refine ag [] 0 Tryz.func51 (by rfl) (by rfl) ?_
 conv=>whnf
 (repeat' first | (refine aa [] ?_;conv=>whnf) | (refine two ?_ ?_<;>intro g<;>(try simp only[an]at g)<;>(conv=>whnf)) | (refine And.intro rfl ?_;conv=>whnf) | fail)
 refine aU (x:=c) (by omega) (by simpa using hc) fun b hb=> ?_
 conv=>whnf
 (repeat (refine aa [] ?_;conv=>whnf))
 rw [hb]
 clear hb b
 (repeat' first | (refine aa [] ?_;conv=>whnf) | (refine two ?_ ?_<;>intro g<;>(try simp only[an,dY,dt,tA,tz,wj]at g)<;>(conv=>whnf)) | (refine And.intro rfl ?_;conv=>whnf) | (refine ak (by decide+kernel) ?_;conv=>whnf) | (refine yI _ _ ?_;conv=>whnf) | (refine yJ _ _ ?_;conv=>whnf) | (refine ⟨_,aB.refl,?_⟩;conv=>whnf) | fail)
 all_goals first
  | exact oN (some 1) (DY r g)
  | (exfalso;omega)
  | exact oN (some 2) (xv r (by omega) (.inl (by omega)))
  | exact oN (some 3) (AR r (by omega))
  | (refine oN none (DZ r (by omega) ?_ (by omega))
     rintro (h | ⟨h,d,jq,fP⟩)
     · omega
     · first
        | omega
        | (rw [←hr,List.drop_eq_nil_of_le (by omega)] at jq;cases jq))
  | skip
 obtain ⟨d,jq,fP⟩:=kD (s:=s) (i:=j+1) (by rw [wj] at*;omega)
 rw [hr] at fP
 have hh:r.head?=some d:=by rw [fP];rfl
 refine aU (x:=d) (by rw [wj];omega) (by rw [wj,Int.toNat_natCast];exact jq) fun b hb=> ?_
 conv=>whnf
 (repeat (refine aa [] ?_;conv=>whnf))
 rw [hb]
 clear hb b
 (repeat' first | (refine aa [] ?_;conv=>whnf) | (refine two ?_ ?_<;>intro g<;>(try simp only[an,dY,dt,tA,tz,wj]at g)<;>(conv=>whnf)) | (refine And.intro rfl ?_;conv=>whnf) | (refine ak (by decide+kernel) ?_;conv=>whnf) | (refine yI _ _ ?_;conv=>whnf) | (refine yJ _ _ ?_;conv=>whnf) | (refine ⟨_,aB.refl,?_⟩;conv=>whnf) | fail)
 all_goals first
  | (exfalso;omega)
  | exact oN (some 2) (xv r (by omega) (.inr ⟨by omega,d,hh,by unfold cw;omega⟩))
  | exact oN (some 3) (AR r (by omega))
  | (refine oN none (DZ r (by omega) ?_ (by omega))
     rintro (h | ⟨h,d',jq,fP⟩)
     · omega
     · rw [hh] at jq;cases jq;unfold cw at fP;omega)
theorem AV: ∀(r:List Int),aP true r=(r.takeWhile (· !=10)).length+aP false (r.dropWhile (· !=10))
 | []=>rfl
 | c::r=>by
   by_cases h:c=10
   · subst h
     rw [List.takeWhile_cons_of_neg (by simp),List.dropWhile_cons_of_neg (by simp)]
     simp [aP]
   · rw [List.takeWhile_cons_of_pos (by simpa using h),List.dropWhile_cons_of_pos (by simpa using h),List.length_cons]
     have ih:=AV r
     conv=>lhs;unfold aP
     rw [if_neg h]
     split
     · rw [ih];omega
     · rw [if_neg (by simp),ih];omega
theorem xx {f:Nat} {l l':List Int} {i n:Nat} (hl:l'=l.drop n) (hs:aP false l=n+aP false l'):cU (f+1) l i=cU (f+1) l' (i+n):=by
 rw [hO,hO,hl,List.drop_drop, ←hl, ←hs,show i+aP false l=i+n+aP false l' by omega]
theorem CI {c:Int} {r:List Int} (h:c=32\/c=9\/c=10):aP false (c::r)=1+aP false r:=by
 conv=>lhs;unfold aP
 rcases h with rfl | rfl | rfl<;>simp
theorem Fp (r:List Int):aP false (35::r)=1+aP true r:=by
 conv=>lhs;unfold aP
 rw [if_neg (by decide),if_pos rfl]
theorem Kn {c:Int} {r:List Int} (h:c≠32/\c≠9/\c≠10/\c≠35):aP false (c::r)=0:=by
 unfold aP;rw [if_neg h.2.2.1,if_neg h.2.2.2,if_pos ⟨rfl,h.1,h.2.1⟩]
set_option maxHeartbeats 16000000 in
theorem M8 (s:ByteArray) (hs:s.size<1000000) (K)
 (h0: ∀l,fp (sB s)= .ok l->K (.ret (.aQ [.sl (kL l) .no,.int .i64 0,.int .i64 0])) [])
 (h1: ∀p e,fp (sB s)= .error (p,e)->K (.ret (.aQ [.sl [] .no,.int .i64 p,.int .i64 e])) []):ah Tryz.prog 22 [.str s] [] K:=by
 have nC:=bh s
 refine ah.dv (ag [] 0 Tryz.func22 (by rfl) (by rfl) ?_)
 conv=>whnf
 (repeat' first | (refine aa [] ?_;conv=>whnf) | (refine two ?_ ?_<;>intro g<;>(try simp only[an]at g)<;>(conv=>whnf)) | (refine And.intro rfl ?_;conv=>whnf) | fail)
 · have hb:fp (sB s)= .error (0,3):=by unfold fp;rw [if_pos (by omega)]
   exact ⟨_,_,ae (.cons (.aQ (.cons .no (.cons (.eq rfl) (.cons (.eq rfl) .nil)))) .nil) .nil rfl rfl rfl,h1 0 3 hb⟩
 have cg:s.size<=20000:=by omega
 have c_: ∀l,cU ((sB s).length+1) (sB s) 0= .ok l->fp (sB s)= .ok l:=fun l e=>by unfold fp;rw [if_neg (by omega),e]
 have Fc: ∀p,cU ((sB s).length+1) (sB s) 0= .bad p->fp (sB s)= .error (p,6):=fun l e=>by unfold fp;rw [if_neg (by omega),e]
 let S:Nat × Nat × List C3.Tok->St:=fun x=>⟨(.str s:: .undef:: .sl [] .ex:: .int .i64 0:: .int .i64 0:: .sl (kL x.2.2) (.tok 0 3):: .int .i64 (x.2.1:Nat):: .undef:: .undef:: .undef:: .undef:: .undef:: .undef:: .undef:: .undef:: .undef:: .undef:: .undef:: .undef:: .undef:: .undef:: .undef:: .undef:: .undef:: .undef:: .undef:: .undef:: .undef:: .undef:: .undef:: .undef:: .undef:: .undef:: .undef:: .undef:: .undef:: .undef:: .undef:: .undef:: .undef:: .undef:: .undef:: .undef:: .undef:: .undef:: .undef:: .undef:: .undef:: .undef:: .undef:: .undef:: .undef:: .undef:: .undef:: .undef:: .undef:: .undef:: .undef:: .undef:: .undef:: .undef:: .undef:: .undef:: .undef:: .undef:: .undef:: .undef:: .undef:: .undef:: .undef:: .undef:: .undef:: .undef:: .undef:: .undef:: .undef:: .undef:: .undef:: .undef:: .undef:: .undef:: .undef:: .undef:: .undef:: .undef:: .undef:: .undef:: .undef::[]),[],1,[]⟩
 refine aA.enter (s':=S ((sB s).length+1,0,[])) (aB.trans (E_ (i:=5) (sz:=3) rfl (by decide) (by simp)) (ae ?_ .nil rfl rfl rfl))
  (aA.dC S (fun x=>s.size - x.2.1) (fun x=>x.2.1<=s.size/\s.size+1<=x.1+x.2.1/\x.2.2.length<=x.2.1/\cU ((sB s).length+1) (sB s) 0=Lx.pre x.2.2 (cU x.1 ((sB s).drop x.2.1) x.2.1)) ?_ ((sB s).length+1,0,[]) ⟨by simp,by simp;omega,by simp,?_⟩)
 · (repeat' first | exact aq.nil | refine aq.cons VW.undef ?_ | refine aq.cons (VW.eq rfl) ?_)
 rotate_left
 · simp only [List.drop_zero];cases cU ((sB s).length+1) (sB s) 0<;>rfl
 rintro ⟨f,i,acc⟩ ⟨hi,hf,CH,hinv⟩ ih
 simp only at hi hf CH hinv
 obtain ⟨f,rfl⟩: ∃f',f=f'+1:=⟨f - 1,by omega⟩
 have zf:=CG acc
 refine ai [] ?_;conv=>whnf
 (repeat' first | (refine aa [] ?_;conv=>whnf) | (refine two ?_ ?_<;>intro g<;>(try simp only[an]at g)<;>(conv=>whnf)) | (refine And.intro rfl ?_;conv=>whnf) | fail)
 · have cV:i<s.size:=by omega
   obtain ⟨c,hc,hd⟩:=kD cV
   obtain ⟨r,hr⟩: ∃r,(sB s).drop (i+1)=r:=⟨_,rfl⟩
   rw [hr] at hd
   rw [hd] at hinv
   have wi:IntKind.i64.wrap ((i:Int)+1)=((i+1:Nat):Int):=by rw [wrap64 (by omega) (by omega)];omega
   have CJ:c=32\/c=9\/c=10->aA _ _ _ (S (f+1,i+1,acc)) _:=fun hb=>ih (f+1,i+1,acc) ⟨by simp only;omega,by simp only;omega,by simp only;omega,by
    rw [hinv];simp only;rw [hr];exact congrArg (Lx.pre acc) (xx (n:=1) rfl (CI hb))⟩ (by simp only;omega)
   refine aU (x:=c) (by omega) (by simpa using hc) fun b hb=> ?_
   conv=>whnf
   (repeat (refine aa [] ?_;conv=>whnf))
   rw [hb]
   clear hb b
   (repeat' first | (refine aa [] ?_;conv=>whnf) | (refine two ?_ ?_<;>intro g<;>(try simp only[an]at g)<;>(conv=>whnf)) | (refine And.intro rfl ?_;conv=>whnf) | fail)
   · exact ⟨S (f+1,i+1,acc),ae (by rw [wi];(repeat' first | exact aq.nil | refine aq.cons VW.undef ?_ | refine aq.cons (VW.eq rfl) ?_)) .nil rfl rfl rfl,CJ (by omega)⟩
   · exact ⟨S (f+1,i+1,acc),ae (by rw [wi];(repeat' first | exact aq.nil | refine aq.cons VW.undef ?_ | refine aq.cons (VW.eq rfl) ?_)) .nil rfl rfl rfl,CJ (by omega)⟩
   · exact ⟨S (f+1,i+1,acc),ae (by rw [wi];(repeat' first | exact aq.nil | refine aq.cons VW.undef ?_ | refine aq.cons (VW.eq rfl) ?_)) .nil rfl rfl rfl,CJ (by omega)⟩
   · let S2:Nat->St:=fun j=>⟨(.str s:: .undef:: .sl [] .ex:: .int .i64 0:: .int .i64 0:: .sl (kL acc) (.tok 0 3):: .int .i64 (j:Nat):: .undef:: .undef:: .undef:: .undef:: .undef:: .undef:: .undef:: .undef:: .undef:: .undef:: .undef:: .undef:: .undef:: .undef:: .undef:: .undef:: .undef:: .undef:: .undef:: .undef:: .undef:: .undef:: .undef:: .undef:: .undef:: .undef:: .undef:: .undef:: .undef:: .undef:: .undef:: .undef:: .undef:: .undef:: .undef:: .undef:: .undef:: .undef:: .undef:: .undef:: .undef:: .undef:: .undef:: .undef:: .undef:: .undef:: .undef:: .undef:: .undef:: .undef:: .undef:: .undef:: .undef:: .undef:: .undef:: .undef:: .undef:: .undef:: .undef:: .undef:: .undef:: .undef:: .undef:: .undef:: .undef:: .undef:: .undef:: .undef:: .undef:: .undef:: .undef:: .undef:: .undef:: .undef:: .undef:: .undef:: .undef:: .undef:: .undef:: .undef:: .undef::[]),[],1,[]⟩
     have R6:c≠10:=by omega
     refine aA.enter (s':=S2 i) (ae ?_ .nil rfl rfl rfl)
      (aA.dC S2 (fun j=>s.size - j) (fun j=>i<=j/\j<=s.size/\j+(((sB s).drop j).takeWhile (· !=10)).length=i+(((sB s).drop i).takeWhile (· !=10)).length) ?_ i ⟨by omega,by omega,rfl⟩)
     · (repeat' first | exact aq.nil | refine aq.cons VW.undef ?_ | refine aq.cons (VW.eq rfl) ?_)
     rintro j ⟨pe,hj,Ko⟩ Px
     have fin:((sB s).drop j).takeWhile (· !=10)=[]->j≠i/\aA _ _ _ (S (f+1,j,acc)) _:=fun h0=>by
      rw [h0] at Ko
      simp only [List.length_nil,Nat.add_zero] at Ko
      rw [hd,List.takeWhile_cons_of_pos (by simpa using R6),List.length_cons] at Ko
      refine ⟨by omega,ih (f+1,j,acc) ⟨by simp only;omega,by simp only;omega,by simp only;omega,?_⟩ (by simp only;omega)⟩
      have Vi:c=35:=by omega
      subst Vi
      rw [hinv];simp only
      have hn:j=i+(1+(r.takeWhile (· !=10)).length):=by omega
      have Tu:(sB s).drop j=(35::r).drop (1+(r.takeWhile (· !=10)).length):=by rw [hn, ←List.drop_drop,hd]
      have Vj:r.dropWhile (· !=10)=(sB s).drop j:=by rw [Tu,qz,Nat.add_comm,List.drop_succ_cons]
      rw [xx (n:=1+(r.takeWhile (· !=10)).length) Tu (by rw [Fp,AV,Vj];omega), ←hn]
     refine ai [] ?_;conv=>whnf
     (repeat' first | (refine aa [] ?_;conv=>whnf) | (refine two ?_ ?_<;>intro g<;>(try simp only[an]at g)<;>(conv=>whnf)) | (refine And.intro rfl ?_;conv=>whnf) | fail)
     · have eO:j<s.size:=by omega
       obtain ⟨d,th,fP⟩:=kD eO
       refine aU (x:=d) (by omega) (by simpa using th) fun b hb=> ?_
       conv=>whnf
       (repeat (refine aa [] ?_;conv=>whnf))
       rw [hb]
       clear hb b
       (repeat' first | (refine aa [] ?_;conv=>whnf) | (refine two ?_ ?_<;>intro g<;>(try simp only[an]at g)<;>(conv=>whnf)) | (refine And.intro rfl ?_;conv=>whnf) | fail)
       · refine ⟨S2 (j+1),ae (by rw [show IntKind.i64.wrap ((j:Int)+1)=((j+1:Nat):Int) by rw [wrap64 (by omega) (by omega)];omega];(repeat' first | exact aq.nil | refine aq.cons VW.undef ?_ | refine aq.cons (VW.eq rfl) ?_)) .nil rfl rfl rfl,Px (j+1) ⟨by omega,by omega,?_⟩ (by omega)⟩
         rw [←Ko,fP,List.takeWhile_cons_of_pos (by simpa using g),List.length_cons];omega
       · obtain ⟨_,hl⟩:=fin (by rw [fP,List.takeWhile_cons_of_neg (by simpa using g)])
         refine ⟨_,aB.refl,?_⟩
         conv=>whnf
         (repeat' first | (refine aa [] ?_;conv=>whnf) | (refine two ?_ ?_<;>intro g<;>(try simp only[an]at g)<;>(conv=>whnf)) | (refine And.intro rfl ?_;conv=>whnf) | fail)
         exact ⟨S (f+1,j,acc),ae (by (repeat' first | exact aq.nil | refine aq.cons VW.undef ?_ | refine aq.cons (VW.eq rfl) ?_)) .nil rfl rfl rfl,hl⟩
     · obtain ⟨_,hl⟩:=fin (by rw [List.drop_eq_nil_of_le (by omega)];rfl)
       refine ⟨_,aB.refl,?_⟩
       conv=>whnf
       (repeat' first | (refine aa [] ?_;conv=>whnf) | (refine two ?_ ?_<;>intro g<;>(try simp only[an]at g)<;>(conv=>whnf)) | (refine And.intro rfl ?_;conv=>whnf) | fail)
       exact ⟨S (f+1,j,acc),ae (by (repeat' first | exact aq.nil | refine aq.cons VW.undef ?_ | refine aq.cons (VW.eq rfl) ?_)) .nil rfl rfl rfl,hl⟩
   · have Kl:aP false (c::r)=0:=Kn (by omega)
     conv at hinv=>rhs;rw [hO,Kl,List.drop_zero]
     simp only at hinv
     refine Km s hs i c r hd _ ?_
     cases hk:fu c r with
     | none=>
       rw [hk] at hinv
       conv=>whnf
       (repeat' first | (refine aa [] ?_;conv=>whnf) | (refine two ?_ ?_<;>intro g<;>(try simp only[an]at g)<;>(conv=>whnf)) | (refine And.intro rfl ?_;conv=>whnf) | fail)
       refine ⟨_,aB.refl,?_⟩
       conv=>whnf
       exact ⟨_,_,ae (.cons (.aQ (.cons .no (.cons (.eq rfl) (.cons (.eq rfl) .nil)))) .nil) .nil rfl rfl rfl,h1 _ 6 (Fc _ hinv)⟩
     | some k=>
       have sK:k=1\/k=2\/k=3:=D5 hk
       rw [hk] at hinv
       simp only at hinv
       conv=>whnf
       (repeat' first | (refine aa [] ?_;conv=>whnf) | (refine two ?_ ?_<;>intro g<;>(try simp only[an]at g)<;>(conv=>whnf)) | (refine And.intro rfl ?_;conv=>whnf) | fail)
       · exfalso;simp only [Option.getD_some] at g;omega
       let S3:Nat->St:=fun j=>⟨(.str s:: .undef:: .sl [] .ex:: .int .i64 0:: .int .i64 0:: .sl (kL acc) (.tok 0 3):: .int .i64 (j:Nat):: .undef:: .int .i64 k:: .int .i64 (i:Nat):: .undef:: .undef:: .undef:: .undef:: .undef:: .undef:: .undef:: .undef:: .undef:: .undef:: .undef:: .undef:: .undef:: .undef:: .undef:: .undef:: .undef:: .undef:: .undef:: .undef:: .undef:: .undef:: .undef:: .undef:: .undef:: .undef:: .undef:: .undef:: .undef:: .undef:: .undef:: .undef:: .undef:: .undef:: .undef:: .undef:: .undef:: .undef:: .undef:: .undef:: .undef:: .undef:: .undef:: .undef:: .undef:: .undef:: .undef:: .undef:: .undef:: .undef:: .undef:: .undef:: .undef:: .undef:: .undef:: .undef:: .undef:: .undef:: .undef:: .undef:: .undef:: .undef:: .undef:: .undef:: .undef:: .undef:: .undef:: .undef:: .undef:: .undef:: .undef:: .undef:: .undef:: .undef:: .undef:: .undef:: .undef:: .undef::[]),[],1,[]⟩
       refine aA.enter (s':=S3 (i+1)) (ae (by rw [wi];(repeat' first | exact aq.nil | refine aq.cons VW.undef ?_ | refine aq.cons (VW.eq rfl) ?_)) .nil rfl rfl rfl)
        (aA.dC S3 (fun j=>s.size - j) (fun j=>i+1<=j/\j<=s.size/\j+(((sB s).drop j).takeWhile (bI k)).length=i+1+(r.takeWhile (bI k)).length) ?_ (i+1) ⟨by omega,by omega,by rw [hr]⟩)
       rintro j ⟨pe,hj,Ko⟩ Px
       obtain ⟨tk,kW⟩: ∃tk:C3.Tok,tk=⟨k,i,c::r.takeWhile (bI k)⟩:=⟨_,rfl⟩
       have fin:((sB s).drop j).takeWhile (bI k)=[]->(kL acc++[V.agg [.int .i64 k,.int .i64 i,.str (s.extract i j)]]=kL (acc++[tk]))/\aA _ _ _ (S (f,j,acc++[tk])) _:=fun h0=>by
        rw [h0] at Ko
        simp only [List.length_nil,Nat.add_zero] at Ko
        have Kp:az (c::r.takeWhile (bI k))=s.extract i j:=by
         rw [←D4 hd (bI k),hr, ←gk (s.extract i j),nI,List.drop_take]
         congr 2;omega
        refine ⟨?_,ih (f,j,acc++[tk]) ⟨by simp only;omega,by simp only;omega,by simp only [List.length_append,List.length_singleton];omega,?_⟩ (by simp only;omega)⟩
        · rw [kW];simp only [kL,List.map_append,List.map_cons,List.map_nil,my,Kp]
        · rw [hinv];simp only
          rw [Nat.add_zero,AU,kW]
          congr 2
          · rw [qz,Ko, ←hr,List.drop_drop]
          · omega
       refine ai [] ?_;conv=>whnf
       refine two ?_ ?_<;>intro g<;>(try simp only[an] at g)<;>(conv=>whnf)
       · (repeat' first | (refine aa [] ?_;conv=>whnf) | (refine two ?_ ?_<;>intro g<;>(try simp only[an]at g)<;>(conv=>whnf)) | (refine And.intro rfl ?_;conv=>whnf) | fail)
         · have eO:j<s.size:=by omega
           obtain ⟨d,th,fP⟩:=kD eO
           refine aU (x:=d) (by omega) (by simpa using th) fun b hb=> ?_
           conv=>whnf
           (repeat (refine aa [] ?_;conv=>whnf))
           rw [hb]
           clear hb b
           refine M7 k d (by omega) _ ?_
           conv=>whnf
           (repeat' first | (refine aa [] ?_;conv=>whnf) | (refine two ?_ ?_<;>intro g<;>(try simp only[an]at g)<;>(conv=>whnf)) | (refine And.intro rfl ?_;conv=>whnf) | fail)
           · refine ⟨S3 (j+1),ae (by rw [show IntKind.i64.wrap ((j:Int)+1)=((j+1:Nat):Int) by rw [wrap64 (by omega) (by omega)];omega];(repeat' first | exact aq.nil | refine aq.cons VW.undef ?_ | refine aq.cons (VW.eq rfl) ?_)) .nil rfl rfl rfl,Px (j+1) ⟨by omega,by omega,?_⟩ (by omega)⟩
             rw [←Ko,fP,List.takeWhile_cons_of_pos (by simpa using g),List.length_cons];omega
           · obtain ⟨oL,hl⟩:=fin (by rw [fP,List.takeWhile_cons_of_neg (by simpa using g)])
             refine ⟨_,aB.refl,?_⟩
             conv=>whnf
             (repeat' first | (refine aa [] ?_;conv=>whnf) | (refine two ?_ ?_<;>intro g<;>(try simp only[an]at g)<;>(conv=>whnf)) | (refine And.intro rfl ?_;conv=>whnf) | (refine ak (by decide+kernel) ?_;conv=>whnf) | fail)
             refine ⟨by omega,by omega,by omega,?_⟩
             conv=>whnf
             (repeat' first | (refine aa [] ?_;conv=>whnf) | (refine two ?_ ?_<;>intro g<;>(try simp only[an]at g)<;>(conv=>whnf)) | (refine And.intro rfl ?_;conv=>whnf) | (refine ak (by decide+kernel) ?_;conv=>whnf) | fail)
             refine ⟨by simp [kL];omega,by simp [V.cells],?_⟩
             conv=>whnf
             (repeat' first | (refine aa [] ?_;conv=>whnf) | (refine two ?_ ?_<;>intro g<;>(try simp only[an]at g)<;>(conv=>whnf)) | (refine And.intro rfl ?_;conv=>whnf) | (refine ak (by decide+kernel) ?_;conv=>whnf) | fail)
             exact ⟨S (f,j,acc++[tk]),ae (by
              repeat' first
               | exact aq.nil
               | refine aq.cons VW.undef ?_
               | refine aq.cons (VW.eq rfl) ?_
               | refine aq.cons (VW.eq (congrArg (fun x=>V.sl x (.tok 0 3)) oL)) ?_) .nil rfl rfl rfl,hl⟩
         · obtain ⟨oL,hl⟩:=fin (by rw [List.drop_eq_nil_of_le (by omega)];rfl)
           refine ⟨_,aB.refl,?_⟩
           conv=>whnf
           (repeat' first | (refine aa [] ?_;conv=>whnf) | (refine two ?_ ?_<;>intro g<;>(try simp only[an]at g)<;>(conv=>whnf)) | (refine And.intro rfl ?_;conv=>whnf) | (refine ak (by decide+kernel) ?_;conv=>whnf) | fail)
           refine ⟨by omega,by omega,by omega,?_⟩
           conv=>whnf
           (repeat' first | (refine aa [] ?_;conv=>whnf) | (refine two ?_ ?_<;>intro g<;>(try simp only[an]at g)<;>(conv=>whnf)) | (refine And.intro rfl ?_;conv=>whnf) | (refine ak (by decide+kernel) ?_;conv=>whnf) | fail)
           refine ⟨by simp [kL];omega,by simp [V.cells],?_⟩
           conv=>whnf
           (repeat' first | (refine aa [] ?_;conv=>whnf) | (refine two ?_ ?_<;>intro g<;>(try simp only[an]at g)<;>(conv=>whnf)) | (refine And.intro rfl ?_;conv=>whnf) | (refine ak (by decide+kernel) ?_;conv=>whnf) | fail)
           exact ⟨S (f,j,acc++[tk]),ae (by
            repeat' first
             | exact aq.nil
             | refine aq.cons VW.undef ?_
             | refine aq.cons (VW.eq rfl) ?_
             | refine aq.cons (VW.eq (congrArg (fun x=>V.sl x (.tok 0 3)) oL)) ?_) .nil rfl rfl rfl,hl⟩
       · obtain ⟨oL,hl⟩:=fin (by
          have e3:k=3:=by simpa using g
          rw [e3,HQ]
          cases (sB s).drop j<;>simp)
         (repeat' first | (refine aa [] ?_;conv=>whnf) | (refine two ?_ ?_<;>intro g<;>(try simp only[an]at g)<;>(conv=>whnf)) | (refine And.intro rfl ?_;conv=>whnf) | fail)
         refine ⟨_,aB.refl,?_⟩
         conv=>whnf
         (repeat' first | (refine aa [] ?_;conv=>whnf) | (refine two ?_ ?_<;>intro g<;>(try simp only[an]at g)<;>(conv=>whnf)) | (refine And.intro rfl ?_;conv=>whnf) | (refine ak (by decide+kernel) ?_;conv=>whnf) | fail)
         refine ⟨by omega,by omega,by omega,?_⟩
         conv=>whnf
         (repeat' first | (refine aa [] ?_;conv=>whnf) | (refine two ?_ ?_<;>intro g<;>(try simp only[an]at g)<;>(conv=>whnf)) | (refine And.intro rfl ?_;conv=>whnf) | (refine ak (by decide+kernel) ?_;conv=>whnf) | fail)
         refine ⟨by simp [kL];omega,by simp [V.cells],?_⟩
         conv=>whnf
         (repeat' first | (refine aa [] ?_;conv=>whnf) | (refine two ?_ ?_<;>intro g<;>(try simp only[an]at g)<;>(conv=>whnf)) | (refine And.intro rfl ?_;conv=>whnf) | (refine ak (by decide+kernel) ?_;conv=>whnf) | fail)
         exact ⟨S (f,j,acc++[tk]),ae (by
          repeat' first
           | exact aq.nil
           | refine aq.cons VW.undef ?_
           | refine aq.cons (VW.eq rfl) ?_
           | refine aq.cons (VW.eq (congrArg (fun x=>V.sl x (.tok 0 3)) oL)) ?_) .nil rfl rfl rfl,hl⟩
 · have cV:i=s.size:=by omega
   subst cV
   rw [List.drop_eq_nil_of_le (by omega)] at hinv
   have hinv:cU ((sB s).length+1) (sB s) 0= .ok (acc++[⟨0,s.size,[]⟩]):=by rw [hinv];rfl
   refine ⟨_,aB.refl,?_⟩
   conv=>whnf
   (repeat' first | (refine aa [] ?_;conv=>whnf) | (refine two ?_ ?_<;>intro g<;>(try simp only[an]at g)<;>(conv=>whnf)) | (refine And.intro rfl ?_;conv=>whnf) | (refine ak (by decide+kernel) ?_;conv=>whnf) | fail)
   refine ⟨by simp [kL];omega,by simp [V.cells],?_⟩
   conv=>whnf
   (repeat' first | (refine aa [] ?_;conv=>whnf) | (refine two ?_ ?_<;>intro g<;>(try simp only[an]at g)<;>(conv=>whnf)) | (refine And.intro rfl ?_;conv=>whnf) | (refine ak (by decide+kernel) ?_;conv=>whnf) | fail)
   have oL:kL acc++[V.agg [.int .i64 0,.int .i64 s.size,.str ⟨#[]⟩]]=kL (acc++[⟨0,s.size,[]⟩]):=by simp [kL,my];rfl
   exact ⟨_,_,ae (.cons (.aQ (.cons .no (.cons (.eq rfl) (.cons (.eq rfl) .nil)))) .nil) .nil rfl rfl rfl,by
    refine Eq.mp (congrArg (fun x=>K (.ret (.aQ [.sl x .no,.int .i64 0,.int .i64 0])) []) oL.symm) (h0 _ (c_ _ hinv))⟩
end C9
namespace Jp
open Go Go.Proofs VL Go.Shelf
def gM:Ren:=⟨fun | 143=>97 | 144=>80 | 217=>131 | 219=>121 | 224=>133 | 225=>132 | 266=>146 | 267=>134 | 314=>147 | n=>n,
 fun | 3=>3 | 4=>4 | 5=>5 | 9=>9 | 46=>36 | 51=>162 | 146=>163 | n=>n,fun | 1=>0 | n=>n⟩
theorem R7:Lays.n144 Tryz.prog gM:= {
 mixed:=by kernel_rfl
 f143:=by kernel_rfl
 f144:=by kernel_rfl
 f217:=by kernel_rfl
 f219:=by kernel_rfl
 f224:=by kernel_rfl
 f225:=by kernel_rfl
 f266:=by kernel_rfl
 f267:=by kernel_rfl
 f314:=by kernel_rfl
 t3:=Tryz.underlying3
 a3:=Tryz.isAgg3
 z3:=Tryz.sizeOf3
 v3:=Tryz.zeroValue3
 t4:=Tryz.underlying4
 a4:=Tryz.isAgg4
 z4:=Tryz.sizeOf4
 v4:=Tryz.zeroValue4
 t5:=Tryz.underlying5
 a5:=Tryz.isAgg5
 z5:=Tryz.sizeOf5
 v5:=Tryz.zeroValue5
 t9:=Tryz.underlying9
 a9:=Tryz.isAgg9
 z9:=Tryz.sizeOf9
 v9:=Tryz.zeroValue9
 t46:=Tryz.underlying36
 a46:=Tryz.isAgg36
 z46:=Tryz.sizeOf36
 v46:=Tryz.zeroValue36
 t51:=Tryz.underlying162
 a51:=Tryz.isAgg162
 z51:=Tryz.sizeOf162
 v51:=Tryz.zeroValue162
 t146:=Tryz.underlying163
 a146:=Tryz.isAgg163
 z146:=Tryz.sizeOf163
 v146:=Tryz.zeroValue163
 g1:=by kernel_rfl}
theorem M9 (s t:ByteArray) (hs:s.size<4294967281) (K:Out->List af->Prop) (h:K (.ret (.bool (Lib.contains s.data.toList t.data.toList))) []):ah Tryz.prog 80 [.str s,.str t] [] K:=by
 refine Hk (P:=Tryz.prog) (x:= .bool (Lib.contains s.data.toList t.data.toList)) Tryz.func80 (by rfl) (by rfl) (fun _ _ _ _=> .bool) rfl (fun w hw=> ?_) h
 obtain ⟨m,hm⟩:=hw 0 rfl
 exact Any.strings_Contains R7 s t m w hs hm
end Jp
namespace D7
open Go Go.Proofs VL D1 eG jt c5 dj C1 C2 C6 Jp
theorem Fq (s sub:List UInt8):0<=Lib.index s sub↔ ∃a b,s=a++sub++b:=by
 rcases Lib.index_spec s sub with ⟨h,hn⟩ | ⟨i,h,hi,HT,_⟩
 · constructor
   · intro h2;omega
   · rintro ⟨a,b,rfl⟩
     have HT:Lib.occAt (a++sub++b) sub a.length=true:=by
      unfold Lib.occAt
      rw [List.append_assoc,List.drop_left]
      exact List.isPrefixOf_iff_prefix.2 (List.prefix_append _ _)
     rw [hn a.length (by simp)] at HT
     cases HT
 · constructor
   · intro _
     unfold Lib.occAt at HT
     obtain ⟨b,hb⟩:=List.isPrefixOf_iff_prefix.1 HT
     exact ⟨s.take i,b,by rw [List.append_assoc,hb,List.take_append_drop]⟩
   · intro _;omega
theorem HU (s t:ByteArray):Lib.contains s.data.toList t.data.toList=true↔ ∃a b,sB s=a++sB t++b:=by
 unfold Lib.contains
 rw [decide_eq_true_iff,Fq]
 constructor
 · rintro ⟨a,b,h⟩
   exact ⟨a.map fun x=>(x.toNat:Int),b.map fun x=>(x.toNat:Int),by unfold sB;rw [h];simp⟩
 · rintro ⟨a,b,h⟩
   have inj: ∀ {l m:List UInt8},(l.map fun x=>(x.toNat:Int))=m.map (fun x=>(x.toNat:Int))->l=m:=fun {l m} h=>by
    refine (List.map_inj_right (fun x y WL=> ?_)).1 h
    exact UInt8.toNat_inj.1 (by omega)
   have h2:(s.data.toList).map (fun x=>(x.toNat:Int))=a++(t.data.toList).map (fun x=>(x.toNat:Int))++b:=h
   obtain ⟨u,v,hu,hv,hw⟩:=List.map_eq_append_iff.1 h2
   obtain ⟨u1,u2,BB,Qg,Vk⟩:=List.map_eq_append_iff.1 hv
   refine ⟨u1,v,?_⟩
   rw [hu,BB,inj Vk]
theorem M_:sB ⟨#[32,112,114,111,100,117,99,116,32,99,111,117,110,116,32,116,104,105,114,116,121,32,102,105,120,101,100,32,97,99,116,117,97,108,32,114,111,117,110,100,32,104,97,108,102,45,117,112,32,100,111,119,110,32,107,105,110,100,32,97,110,110,117,105,116,121,32,101,113,117,97,108,32,98,117,108,108,101,116,32,101,118,101,114,121,32,116,105,109,101,115,32,103,114,97,99,101,32,114,97,116,101,32,112,101,110,97,108,116,121,32,114,101,115,101,116,32,108,97,116,101,32,99,97,112,32,104,111,108,105,100,97,121,32,111,114,100,101,114,32,102,101,101,115,32,105,110,116,101,114,101,115,116,32,112,114,105,110,99,105,112,97,108,32,111,118,101,114,32,104,111,108,100,32,112,114,101,112,97,121,32,114,101,102,117,110,100,32,114,111,108,108,32,115,116,97,121,32,110,101,120,116,32,119,105,116,104,105,110,32,112,114,101,118,105,111,117,115,32]⟩=wT rQ:=by rfl
set_option maxHeartbeats 2000000 in
theorem HV (s:ByteArray) (hs:s.size<1000000) (K:Out->List af->Prop) (h:K (.ret (.bool (qC (sB s)))) []):ah Tryz.prog 42 [.str s] [] K:=by
 have nC:=bh s
 have cg:(s.size:Int)=(sB s).length:=by rw [nC]
 have eZ:dX (sB s)->K (.ret (.bool true)) []:=fun e=>by rw [(hJ _).2 e] at h;exact h
 have dN: ¬dX (sB s)->K (.ret (.bool false)) []:=fun e=>by rw [(vE _).2 e] at h;exact h
 have eY: ∀b:Bool,(b=true↔dX (sB s))->K (.ret (.bool b)) []:=fun b e=>by
  cases b
  · exact dN fun hh=>by have:=e.2 hh;cases this
  · exact eZ (e.1 rfl)
 clear h
 refine ag [] 0 Tryz.func42 (by rfl) (by rfl) ?_
 conv=>whnf
 (repeat' first | (refine aa [] ?_;conv=>whnf) | (refine two ?_ ?_<;>intro g<;>(try simp only[an]at g)<;>(conv=>whnf)) | (refine And.intro rfl ?_;conv=>whnf) | fail)
 · exact dN fun hh=>by have:=hh.1.1;omega
 · exact dN fun hh=>by have:=hh.1.2.1;omega
 obtain ⟨c,r,Dl⟩: ∃c r,sB s=c::r:=by
  cases hh:sB s with
  | nil=>rw [hh] at nC;simp only [List.length_nil] at nC;omega
  | cons c r=>exact ⟨c,r,rfl⟩
 have Fo:dX (sB s)->97<=c/\c<=122:=fun hh=>by have:=hh.1.2.2.1 c (by rw [Dl];rfl);exact this
 refine aU (x:=c) (by decide) (by rw [Dl];rfl) fun b hb=> ?_
 conv=>whnf
 (repeat (refine aa [] ?_;conv=>whnf))
 rw [hb]
 clear hb b
 (repeat' first | (refine aa [] ?_;conv=>whnf) | (refine two ?_ ?_<;>intro g<;>(try simp only[an]at g)<;>(conv=>whnf)) | (refine And.intro rfl ?_;conv=>whnf) | fail)
 · exact dN fun hh=>by have:=Fo hh;omega
 refine aU (x:=c) (by decide) (by rw [Dl];rfl) fun b hb=> ?_
 conv=>whnf
 (repeat (refine aa [] ?_;conv=>whnf))
 rw [hb]
 clear hb b
 (repeat' first | (refine aa [] ?_;conv=>whnf) | (refine two ?_ ?_<;>intro g<;>(try simp only[an]at g)<;>(conv=>whnf)) | (refine And.intro rfl ?_;conv=>whnf) | fail)
 · exact dN fun hh=>by have:=Fo hh;omega
 rw [ou]
 let S:Nat->St:=fun i=>⟨(.str s:: .undef:: .bool false:: .undef:: .undef:: .undef:: .undef:: .undef:: .undef:: .undef:: .undef:: .undef:: .undef:: .undef:: .undef:: .undef:: .undef:: .undef:: .undef:: .undef:: .undef:: .undef:: .undef:: .undef:: .sl (bL (sB s)) .no:: .int .i64 ((sB s).length:Nat):: .int .i64 (i:Nat):: .undef:: .undef:: .undef:: .undef:: .undef:: .undef:: .undef:: .undef:: .undef:: .undef:: .undef:: .undef:: .undef:: .undef:: .undef:: .undef:: .undef:: .undef:: .undef:: .undef:: .undef:: .undef:: .undef:: .undef:: .undef:: .undef:: .undef::[]),[],0,[]⟩
 refine aA.enter (s':=S 0) (ae ?_ .nil rfl rfl rfl)
  (aA.dC S (fun i=>s.size - i) (fun i=>i<=s.size/\ ∀x∈(sB s).take i,lD x) ?_ 0 ⟨by omega,by simp⟩)
 · repeat' first
    | exact aq.nil
    | refine aq.cons VW.undef ?_
    | refine aq.cons (VW.eq rfl) ?_
    | refine aq.cons VW.no ?_
    | refine aq.cons (VW.eq (by rw [yB])) ?_
 rintro i ⟨hi,hinv⟩ ih
 refine ai [] ?_;conv=>whnf
 (repeat' first | (refine aa [] ?_;conv=>whnf) | (refine two ?_ ?_<;>intro g<;>(try simp only[an]at g)<;>(conv=>whnf)) | (refine And.intro rfl ?_;conv=>whnf) | fail)
 · have cV:i<(sB s).length:=by omega
   have hx:(sB s)[i]? =some (sB s)[i]:=List.getElem?_eq_getElem cV
   have dB:(sB s)[i]∈sB s:=List.getElem_mem _
   obtain ⟨x,HW⟩: ∃x,(sB s)[i]=x:=⟨_,rfl⟩
   have kW:(sB s).take (i+1)=(sB s).take i++[x]:=by rw [List.take_succ_eq_append_getElem cV,HW]
   rw [HW] at hx dB
   have aD:(bL (sB s))[((i:Nat):Int).toNat]? =some (.int .u8 x):=by rw [Int.toNat_natCast,yC,hx];rfl
   have wi:IntKind.i64.wrap ((i:Int)+1)=((i+1:Nat):Int):=by rw [wrap64 (by omega) (by omega)];omega
   have Bn:lD x->aA _ _ _ (S (i+1)) _:=fun hx=>ih (i+1) ⟨by omega,fun y hy=>by
    rw [kW] at hy
    rcases List.mem_append.1 hy with hy | hy
    · exact hinv y hy
    · rw [List.mem_singleton.1 hy];exact hx⟩ (by omega)
   have iI: ¬lD x->K (.ret (.bool false)) []:=fun hx=>dN fun hh=>hx (hh.1.2.2.2 x dB)
   unfold lD Small cw at Bn iI
   refine ⟨by omega,_,aD,rfl,?_⟩
   conv=>whnf
   (repeat' first | (refine aa [] ?_;conv=>whnf) | (refine two ?_ ?_<;>intro g<;>(try simp only[an]at g)<;>(conv=>whnf)) | (refine And.intro rfl ?_;conv=>whnf) | fail)
   all_goals first
    | (refine ⟨_,aB.refl,?_⟩;conv=>whnf
       (repeat' first | (refine aa [] ?_;conv=>whnf) | (refine two ?_ ?_<;>intro g<;>(try simp only[an]at g)<;>(conv=>whnf)) | (refine And.intro rfl ?_;conv=>whnf) | fail)
       exact iI (by omega))
    | exact ⟨S (i+1),ae (by rw [wi];(repeat' first | exact aq.nil | refine aq.cons VW.undef ?_ | refine aq.cons (VW.eq rfl) ?_)) .nil rfl rfl rfl,Bn (by omega)⟩
 · have cV:i=(sB s).length:=by omega
   subst cV
   rw [List.take_length] at hinv
   refine ⟨_,aB.refl,?_⟩
   conv=>whnf
   (repeat' first | (refine aa [] ?_;conv=>whnf) | (refine two ?_ ?_<;>intro g<;>(try simp only[an]at g)<;>(conv=>whnf)) | (refine And.intro rfl ?_;conv=>whnf) | fail)
   refine ⟨eQ (by show 1+s.size<_;omega),?_⟩
   conv=>whnf
   (repeat' first | (refine aa [] ?_;conv=>whnf) | (refine two ?_ ?_<;>intro g<;>(try simp only[an]at g)<;>(conv=>whnf)) | (refine And.intro rfl ?_;conv=>whnf) | fail)
   refine ⟨eQ (by rw [ByteArray.size_append];show 1+s.size+1<_;omega),?_⟩
   conv=>whnf
   (repeat' first | (refine aa [] ?_;conv=>whnf) | (refine two ?_ ?_<;>intro g<;>(try simp only[an]at g)<;>(conv=>whnf)) | (refine And.intro rfl ?_;conv=>whnf) | fail)
   refine M9 _ _ (by decide) _ ?_
   conv=>whnf
   (repeat' first | (refine aa [] ?_;conv=>whnf) | (refine two ?_ ?_<;>intro g<;>(try simp only[an]at g)<;>(conv=>whnf)) | (refine And.intro rfl ?_;conv=>whnf) | fail)
   refine eY _ ?_
   have e1:sB (⟨#[32]⟩++s++⟨#[32]⟩)=32::sB s++[32]:=by rw [bS,bS];rfl
   have S5:Nb (sB s):=fun x hx=>by have:=hinv x hx;unfold lD Small cw at this;omega
   have hw:=DX HK S5
   rw [←e1, ←M_, ←HU] at hw
   rw [Bool.not_eq_true', ←Bool.not_eq_true]
   refine Iff.trans (not_congr hw) ?_
   constructor
   · intro hh
     refine ⟨⟨by omega,by omega,fun x hx=> ?_,hinv⟩,hh⟩
     rw [Dl] at hx
     cases hx
     exact ⟨by assumption,by assumption⟩
   · exact fun hh=>hh.2
end D7
