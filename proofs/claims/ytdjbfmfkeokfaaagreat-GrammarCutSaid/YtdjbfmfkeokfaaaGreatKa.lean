/- Part Ka of the proof: VLGlob VLDefs VLOps VLRel VLSem VLSem2 VLSem3 VLOp1 VLOp2 VLBin VLOp3 VLOp4 VLOp5 VLOp6 VLOp7. -/
import Derived.Recover
import Derived.Tactics
import Derived.Deep.MidRow
import Derived.Laws.CopyRow
import Derived.ChangeKeysEq
import Derived.Laws.StructEq
import Derived.WideLaws
import Derived.Laws.Pointers
import Derived.Laws.Slices
import Derived.Laws.IdiomStrings
import Derived.Laws.BytesArg
import Derived.Laws.Tables
import Derived.Laws.NewFold
import Derived.Laws.AppendOwn
import Derived.Lib.AppendStr
set_option linter.unusedVariables false
set_option linter.unusedSimpArgs false
set_option maxRecDepth 100000
namespace VL
open Go
def tJ:Nat->Option (List Value)
 | _=>none
def zk:Nat->Bool
 | 0=>true
 | _=>false
end VL
namespace VL
open Go
inductive Room where
 | no | ex | tok (i sz:Nat)
inductive V where
 | undef
 | int (k:IntKind) (n:Int)
 | bool (b:Bool)
 | str (s:ByteArray)
 | ptr (o off:Nat)
 | gH
 | dp (c:List V)
 | sl (l:List V) (r:Room)
 | pM (l:List V)
 | spare (l sp:List V)
 | fn (f:Fn) (first cap:List V)
 | ig
 | jl (t:TypeId) (v:V)
 | gL
 | agg (cs:List V)
 | mp (o:Nat)
 | ij
 | aQ (vs:List V)
 | bX (o z lo n c:Nat)
 | bp (o z i off:Nat)
 deriving Inhabited
inductive af where
 | none
 | cells (w:Bool) (T:TypeId) (cs:List V)
 | map (es:List (V × V))
 | buf (mv:Bool) (z:Nat) (l:List V) (ty:Option TypeId:=Option.none)
def af.real:af->Bool
 | .none=>false
 | .buf _ _ l _=> !l.isEmpty
 | _=>true
def af.loose:af->Bool
 | .map _=>true
 | .buf _ _ l _=> !l.isEmpty
 | _=>false
def af.mv:af->Bool
 | .buf m _ _ _=>m
 | _=>false
@[simp] theorem L8 {w T cs}:(af.cells w T cs).real=true:=rfl
@[simp] theorem Ol {es}:(af.map es).real=true:=rfl
@[simp] theorem NX:af.none.real=false:=rfl
@[simp] theorem Om {w T cs}:(af.cells w T cs).mv=false:=rfl
@[simp] theorem QQ {es}:(af.map es).mv=false:=rfl
@[simp] theorem Qe:af.none.mv=false:=rfl
@[simp] theorem Li {w T cs}:(af.cells w T cs).loose=false:=rfl
@[simp] theorem NY {es}:(af.map es).loose=true:=rfl
@[simp] theorem L9:af.none.loose=false:=rfl
theorem lU {x:af} (h:x.loose=true):x.real=true:=by cases x<;>simp_all [af.loose,af.real]
structure St where
 t:List V
 eg:List af
 nt:Nat
 defers:List (Fn × List V × List V)
def V.cells:V->List V
 | .agg cs=>cs
 | v=>[v]
noncomputable abbrev L_ (b:Bool) (x y:Prop):Prop:= @Bool.rec (fun _=>Prop) y x b
theorem two {b:Bool} {x y:Prop} (h:b=true->x) (k:b=false->y): @Bool.rec (fun _=>Prop) y x b:=by
 cases b
 · exact k rfl
 · exact h rfl
def cA {α:Type}:List α->Nat->(α->Prop)->Prop
 | [],_,_=>False
 | x::_,0,K=>K x
 | _::r,n+1,K=>cA r n K
def fw {α:Type}:List α->Nat->α->(List α->Prop)->Prop
 | [],_,_,_=>False
 | _::r,0,v,K=>K (v::r)
 | x::r,n+1,v,K=>fw r n v fun r'=>K (x::r')
def V.c7:V->(V->Prop)->Prop
 | .undef,K=>K .undef
 | .int k n,K=>K (.int k n)
 | .bool b,K=>K (.bool b)
 | .str s,K=>K (.str s)
 | .ptr o f,K=>K (.ptr o f)
 | .gH,K=>K .gH
 | .dp c,K=>K (.dp c)
 | .sl l r,K=>K (.sl l r)
 | .pM l,K=>K (.pM l)
 | .spare l r,K=>K (.spare l r)
 | .fn f a b,K=>K (.fn f a b)
 | .ig,K=>K .ig
 | .jl t v,K=>K (.jl t v)
 | .gL,K=>K .gL
 | .agg cs,K=>K (.agg cs)
 | .mp o,K=>K (.mp o)
 | .ij,K=>K .ij
 | .aQ vs,K=>K (.aQ vs)
 | .bX o z lo n c,K=>K (.bX o z lo n c)
 | .bp o z i off,K=>K (.bp o z i off)
def ofConst:Value->V
 | .int k n=> .int k n
 | .bool b=> .bool b
 | .string s=> .str s
 | .pointer none=> .gH
 | .slice none 0 0=> .sl [] .ex
 | .nilIface=> .gL
 | .nilFunc=> .ig
 | .map none=> .ij
 | _=> .undef
def ax:Value->V
 | .agg cs=> .agg (cs.toList.map ofConst)
 | v=>ofConst v
def ev (t:List V) (x:Operand) (K:V->Prop):Prop:=
 match x with
 | .tmp i=>cA t i K
 | .const c=>(ax c).c7 K
 | .func f=>K (.fn (.func f) [] [])
 | .global b=>match tJ b with
   | some l=>K (.dp (l.map ofConst))
   | none=>False
def sy (t:List V):List Operand->(List V->Prop)->Prop
 | [],K=>K []
 | x::r,K=>ev t x fun v=>sy t r fun vs=>K (v::vs)
def St.put:St->Option Tmp->V->(St->Prop)->Prop
 | ⟨t,ob,nt,df⟩,some i,v,K=>v.c7 fun v=>fw t i v fun t=>K ⟨t,ob,nt,df⟩
 | s,none,_,K=>K s
def V.strip (i:Nat):V->V
 | .sl l (.tok j sz)=>match Nat.beq j i with | true=> .sl l .no | false=> .sl l (.tok j sz)
 | v=>v
def V.bj:V->V
 | .sl l (.tok _ _)=> .sl l .no
 | v=>v
def V.cB:V->Bool
 | .sl _ (.tok _ _)=>false
 | _=>true
def V.jy:V->Bool
 | .agg l=>l.all V.cB
 | _=>true
def V.aE:V->Bool
 | .undef | .agg _ | .aQ _=>false
 | _=>true
mutual
def V.low (n:Nat):V->Bool
 | .ptr o _=>Nat.blt o n
 | .pM l=>V.il n l
 | .dp l=>V.il n l
 | .fn _ a b=>V.il n a &&V.il n b
 | .jl _ v=>V.low n v
 | .agg l=>V.il n l
 | .aQ l=>V.il n l
 | .mp o=>Nat.blt o n
 | .bX o _ _ _ _=>Nat.blt o n
 | .bp o _ _ _=>Nat.blt o n
 | _=>true
def V.il (n:Nat):List V->Bool
 | []=>true
 | v::r=>V.low n v &&V.il n r
end
def dk (P:Program) (t:TypeId):Nat:=((P.info? t).map (·.size)).getD 0
def xH (P:Program) (t:TypeId):Nat:=((P.info? t).map (·.bytes)).getD 0
def QR (P:Program) (t:TypeId):Bool:=
 match P.underlying t with
 | some (.struct _) | some (.array _ _)=>true
 | _=>false
def jz (P:Program) (t:TypeId):TypeId:=
 match P.underlying t with
 | some (.slice e) | some (.array _ e)=>e
 | _=>0
def jA:List V->Bool
 | []=>false
 | [.int _ _]=>true
 | .int _ _::r=>jA r
 | _=>false
theorem lV: ∀ {l:List V},jA l=true->l≠[]/\ ∀x∈l, ∃k n,x= .int k n
 | [.int k n],_=>⟨by simp,fun x hx=>⟨k,n,by simpa using hx⟩⟩
 | .int k n::y::r,h=>⟨by simp,fun x hx=>by
   rcases List.mem_cons.1 hx with rfl | hx
   · exact ⟨k,n,rfl⟩
   · exact (lV (l:=y::r) (by simpa [jA] using h)).2 x hx⟩
theorem kH: ∀ {l:List V},(∀x∈l, ∃k n,x= .int k n)->l.flatMap V.cells=l
 | [],_=>rfl
 | x::r,h=>by
   obtain ⟨k,n,rfl⟩:=h x (.head _)
   rw [List.flatMap_cons,kH fun y hy=>h y (.tail _ hy)];rfl
end VL
namespace VL
open Go
noncomputable section
inductive Out where
 | ret (v:V)
 | dw (v:V)
def iT {α:Type}:List α->Nat->(List α->Prop)->Prop
 | l,0,K=>K l
 | [],_+1,_=>False
 | _::r,n+1,K=>iT r n K
def tK {α:Type}:List α->Nat->(List α->Prop)->Prop
 | _,0,K=>K []
 | [],_+1,_=>False
 | x::r,n+1,K=>tK r n fun l=>K (x::l)
def eR {α:Type}:List α->Nat->List α->(List α->Prop)->Prop
 | l,0,[],K=>K l
 | [],0,_::_,_=>False
 | _::r,0,v::vs,K=>eR r 0 vs fun l=>K (v::l)
 | [],_+1,_,_=>False
 | x::r,n+1,vs,K=>eR r n vs fun l=>K (x::l)
def cd {α β:Type} (f:α->(β->Prop)->Prop):List α->(List β->Prop)->Prop
 | [],K=>K []
 | x::r,K=>f x fun y=>cd f r fun ys=>K (y::ys)
def V.aH (v:V) (K:V->Prop):Prop:=v.c7 fun v=>v.bj.c7 K
def im (P:Program) (T:TypeId) (cs:List V) (K:V->Prop):Prop:=
 match P.underlying T with
 | some (.struct _) | some (.array _ _)=>tK cs (dk P T) fun l=>cd V.aH l fun l=>K (.agg l)
 | some _=>(match cs with
   | c::_=>c.c7 K
   | []=>False)
 | none=>False
def jm (P:Program) (T:TypeId) (K:Nat->Prop):Prop:=
 match dk P T with
 | 0=>False
 | n+1=>K (n+1)
def e6 {α:Type}:List α->α->(Nat->List α->Prop)->Prop
 | [],v,K=>K 0 [v]
 | x::r,v,K=>e6 r v fun n l=>K (n+1) (x::l)
def nf (op:BinOp) (k:IntKind) (x y:Int):Int:=
 let a:=BitVec.ofInt k.bits x
 let b:=BitVec.ofInt k.bits y
 match op with
 | .and=>k.wrap (a &&&b).toNat
 | .or=>k.wrap (a ||| b).toNat
 | .xor=>k.wrap (a^^^b).toNat
 | _=>k.wrap (a &&& ~~~b).toNat
def o_ (op:BinOp) (k:IntKind) (x y:Int):Int:=
 let n:=min y.toNat k.bits
 match op with
 | .shl=>k.wrap (x*2^n)
 | _=>x.fdiv (2^n)
def eh:List V->List V->Option Bool
 | [],[]=>some true
 | .int k a::x,.int k' b::y=>if k=k' then (eh x y).map ((a==b) && ·) else none
 | .bool a::x,.bool b::y=>(eh x y).map ((a==b) && ·)
 | .str a::x,.str b::y=>(eh x y).map ((a.toList==b.toList) && ·)
 | _,_=>none
def kindOk (P:Program) (t:TypeId) (v:V):Bool:=
 match P.underlying t,v with
 | some (.int _),.int _ _=>true
 | some .bool,.bool _=>true
 | some .string,.str _=>true
 | _,_=>false
def wG (P:Program):Nat->List Field->List V->Bool
 | _,[],[]=>true
 | i,f::fs,v::vs=>kindOk P f.type v &&f.name != "_" &&f.offset==i &&wG P (i+1) fs vs
 | _,_,_=>false
def wH (P:Program) (t:TypeId) (l:List V):Bool:=
 match P.underlying t with
 | some (.struct fs)=>wG P 0 fs.toList l && !P.stoodInHeld t && !P.eqGuardType P.depth t
 | some (.array n e)=>l.all (kindOk P e) &&l.length==n &&dk P e==1 &&(P.info? e).isSome && !P.eqGuardType P.depth t
 | _=>false
def qS (P:Program) (op:BinOp) (T:TypeId) (x y:V) (K:V->Prop):Prop:=
 match op,x,y with
 | .shl,.int k a,.int _ b=>0<=b/\K (.int k (o_ .shl k a b))
 | .shr,.int k a,.int _ b=>0<=b/\K (.int k (o_ .shr k a b))
 | op,.int k a,.int k' b=>
   if k=k' then
    match op with
    | .add=>K (.int k (k.wrap (a+b)))
    | .sub=>K (.int k (k.wrap (a - b)))
    | .mul=>K (.int k (k.wrap (a*b)))
    | .quo=>b≠0/\K (.int k (k.wrap (a.tdiv b)))
    | .rem=>b≠0/\K (.int k (a.tmod b))
    | .and=>K (.int k (nf .and k a b))
    | .or=>K (.int k (nf .or k a b))
    | .xor=>K (.int k (nf .xor k a b))
    | .andNot=>K (.int k (nf .andNot k a b))
    | .eql=>K (.bool (a==b))
    | .neq=>K (.bool (a !=b))
    | .lss=>K (.bool (decide (a<b)))
    | .leq=>K (.bool (decide (a<=b)))
    | .gtr=>K (.bool (decide (a>b)))
    | .geq=>K (.bool (decide (a ≥ b)))
    | _=>False
   else False
 | .add,.str a,.str b=>(((a.size+b.size:Nat):Int)<=IntKind.i64.max)/\K (.str (a++b))
 | .eql,.str a,.str b=>K (.bool (a.toList==b.toList))
 | .neq,.str a,.str b=>K (.bool !(a.toList==b.toList))
 | .lss,.str a,.str b=>K (.bool (Op.bytesLess a.toList b.toList))
 | .leq,.str a,.str b=>K (.bool (Op.bytesLess a.toList b.toList || a.toList==b.toList))
 | .gtr,.str a,.str b=>K (.bool !(Op.bytesLess a.toList b.toList || a.toList==b.toList))
 | .geq,.str a,.str b=>K (.bool !(Op.bytesLess a.toList b.toList))
 | .eql,.bool a,.bool b=>match P.underlying T with | some .bool=>K (.bool (a==b)) | _=>False
 | .neq,.bool a,.bool b=>match P.underlying T with | some .bool=>K (.bool !(a==b)) | _=>False
 | .eql,.agg a,.agg b=>match wH P T a,eh a b with | true,some r=>K (.bool r) | _,_=>False
 | .neq,.agg a,.agg b=>match wH P T a,eh a b with | true,some r=>K (.bool !r) | _,_=>False
 | .eql,.ptr _ _,.gH=>match P.underlying T with | some (.pointer _)=>K (.bool false) | _=>False
 | .neq,.ptr _ _,.gH=>match P.underlying T with | some (.pointer _)=>K (.bool true) | _=>False
 | .eql,.gH,.gH=>match P.underlying T with | some (.pointer _)=>K (.bool true) | _=>False
 | .neq,.gH,.gH=>match P.underlying T with | some (.pointer _)=>K (.bool false) | _=>False
 | .eql,.ptr a i,.ptr b j=>match P.underlying T,Nat.beq a b &&Nat.beq i j with | some (.pointer e),true=>jm P e fun _=>K (.bool true) | _,_=>False
 | .neq,.ptr a i,.ptr b j=>match P.underlying T,Nat.beq a b &&Nat.beq i j with | some (.pointer e),true=>jm P e fun _=>K (.bool false) | _,_=>False
 | .eql,.mp _,.ij=>match P.underlying T with | some (.map _ _)=>K (.bool false) | _=>False
 | .neq,.mp _,.ij=>match P.underlying T with | some (.map _ _)=>K (.bool true) | _=>False
 | .eql,.ij,.ij=>match P.underlying T with | some (.map _ _)=>K (.bool true) | _=>False
 | .neq,.ij,.ij=>match P.underlying T with | some (.map _ _)=>K (.bool false) | _=>False
 | .eql,.fn _ _ _,.ig=>match P.underlying T with | some (.func _ _ _)=>K (.bool false) | _=>False
 | .neq,.fn _ _ _,.ig=>match P.underlying T with | some (.func _ _ _)=>K (.bool true) | _=>False
 | .eql,.ig,.ig=>match P.underlying T with | some (.func _ _ _)=>K (.bool true) | _=>False
 | .neq,.ig,.ig=>match P.underlying T with | some (.func _ _ _)=>K (.bool false) | _=>False
 | .eql,.gL,.gL=>match P.underlying T with | some (.interface ms)=>(match ms.isEmpty with | true=>K (.bool true) | false=>False) | _=>False
 | .neq,.gL,.gL=>match P.underlying T with | some (.interface ms)=>(match ms.isEmpty with | true=>K (.bool false) | false=>False) | _=>False
 | .eql,.jl _ _,.gL=>match P.underlying T with | some (.interface _)=>K (.bool false) | _=>False
 | .neq,.jl _ _,.gL=>match P.underlying T with | some (.interface _)=>K (.bool true) | _=>False
 | _,_,_=>False
def bK (s:ByteArray):List V:=s.data.toList.map fun b=> .int .u8 b.toNat
def sE (t:List V) (lo:Option Operand) (K:Int->Prop):Prop:=
 match lo with
 | none=>K 0
 | some y=>ev t y fun y=>match y with
   | .int _ n=>K n
   | _=>False
def wI (P:Program) (src dst:TypeId) (x:V) (K:V->Prop):Prop:=
 match P.underlying src,P.underlying dst,x with
 | some _,some (.int k),.int _ n=>K (.int k (k.wrap n))
 | some _,some .string,.str s=>K (.str s)
 | some .string,some (.slice e),.str s=>match P.underlying e with
   | some (.int .u8)=>K (.sl (bK s) .no)
   | _=>False
 | some (.slice e),some .string,.sl l _=>match P.underlying e with
   | some (.int .u8)=> ∃bs:ByteArray,l=bK bs/\K (.str bs)
   | _=>False
 | _,_,_=>False
def fieldsOf (P:Program) (T:TypeId):List Field:=
 match P.underlying T with
 | some (.struct fs)=>fs.toList
 | _=>[]
def zeroV (P:Program) (T:TypeId) (K:V->Prop):Prop:=
 match (P.info? T).bind (·.zero) with
 | some z=>(ax z).c7 K
 | none=>False
def nW (P:Program) (T:TypeId) (ok:Bool) (x:V) (K:V->Prop):Prop:=
 match x with
 | .jl T' v=>(match Nat.beq T' T with
   | true=>v.aH fun v=>(match ok with | true=>K (.aQ [v,.bool true]) | false=>K v)
   | false=>(match ok with | true=>zeroV P T fun z=>K (.aQ [z,.bool false]) | false=>False))
 | .gL=>(match ok with | true=>zeroV P T fun z=>K (.aQ [z,.bool false]) | false=>False)
 | _=>False
def rY (place:Nat->Option (Nat × Nat)):List V->List (Nat × V)->(List V->Prop)->Prop
 | cs,[],K=>K cs
 | cs,(i,v)::r,K=>
   match place i with
   | some (off,size)=>v.c7 fun v=>(match v.cells.length==size &&v.cells.all V.aE with
     | true=>eR cs off v.cells fun cs=>rY place cs r K
     | false=>False)
   | none=>False
def gg (t:List V):List (Nat × Operand)->(List (Nat × V)->Prop)->Prop
 | [],K=>K []
 | (i,x)::r,K=>ev t x fun v=>v.aH fun v=>gg t r fun ps=>K ((i,v)::ps)
def qT (P:Program) (T:TypeId) (ps:List (Nat × V)) (K:V->Prop):Prop:=
 zeroV P T fun z=>
 match P.underlying T with
 | some (.struct fs)=>(match fs.toList.all (fun f=>(P.info? f.type).isSome) with
   | true=>rY (fun i=>(fs.toList[i]?).map fun f=>(f.offset,dk P f.type)) z.cells ps fun cs=>K (.agg cs)
   | false=>False)
 | some (.array _ e)=>(match (P.info? e).isSome with
   | true=>rY (fun i=>some (i*dk P e,dk P e)) z.cells ps fun cs=>K (.agg cs)
   | false=>False)
 | _=>False
def ia:Nat->List (Nat × V)->Option (List V)
 | _,[]=>some []
 | i,(j,v)::r=>if i=j then (ia (i+1) r).map (v:: ·) else none
def nX (n:Nat):List V->Bool
 | []=>true
 | v::r=>v.cells.length==n &&v.cells.all V.aE &&v.jy &&nX n r
def pa:V->V->Bool
 | .int _ a,.int _ b=>a==b
 | .str a,.str b=>a==b
 | .bool a,.bool b=>a==b
 | _,_=>false
def plainKey (P:Program) (t:TypeId) (v:V):Bool:=
 match P.underlying t,v with
 | some (.int k),.int k' _=>decide (k'=k)
 | some .bool,.bool _=>true
 | some .string,.str _=>true
 | _,_=>false
def pR (k v:V):List (V × V)->List (V × V)
 | []=>[(k,v)]
 | e::r=>if pa k e.1 then (k,v)::r else e::pR k v r
def V.kI:V->List V->V
 | .agg _,cs=> .agg cs
 | _,c::_=>c
 | v,[]=>v
def m5 (t:List V):Option Operand->(Option Int->Prop)->Prop
 | none,K=>K none
 | some y,K=>ev t y fun y=>match y with
   | .int _ n=>K (some n)
   | _=>False
def sG (P:Program) (e:TypeId) (ts:Array TypeId) (ob:List af) (v:V) (K:List V->Prop):Prop:=
 match v with
 | .sl m _=>K m
 | .spare m _=>K m
 | .str x=>(match dk P e with | 1=>K (bK x) | _=>False)
 | .bX o z lo n _=>cA ob o fun o1=>match o1 with
   | .buf _ z' l _=>(match Nat.beq z z' with | true=>lo+n<=l.length/\K ((l.drop lo).take n) | false=>False)
   | _=>False
 | _=>False
inductive Ex where
 | normal
 | exit (i:Nat)
 | ret
 | dw (v:V)
structure Sys where
 P:Program
 call:FuncId->List V->List af->(Out->List af->Prop)->Prop
 loop:Code->St->(Ex->St->Prop)->Prop
 step:Code->St->(Ex->St->Prop)->Prop
 Gf:FuncId->List V->List af->Option V->(Bool->List af->Prop)->Prop
 mu:List Tmp
variable (S:Sys)
def kJ (i:Nat):St->(St->Prop)->Prop
 | ⟨t,ob,nt,df⟩,K=>
 cd (fun v K=>(V.strip i v).c7 K) t fun t=>
 cd (fun o K=>match o with
  | af.cells w T cs=>cd (fun v K=>(V.strip i v).c7 K) cs fun cs=>K (af.cells w T cs)
  | o=>K o) ob fun ob=>K ⟨t,ob,nt,df⟩
mutual
def aW:V->List Nat
 | .ptr o _=>[o]
 | .pM l=>b7 l
 | .dp l=>b7 l
 | .fn _ a b=>b7 a++b7 b
 | .jl _ v=>aW v
 | .agg l=>b7 l
 | .aQ l=>b7 l
 | .mp o=>[o]
 | .bX o _ _ _ _=>[o]
 | .bp o _ _ _=>[o]
 | _=>[]
def b7:List V->List Nat
 | []=>[]
 | v::r=>aW v++b7 r
end
def fU:af->List Nat
 | .cells _ _ cs=>b7 cs
 | _=>[]
def kZ (i:Nat):List Nat->Bool
 | []=>false
 | j::r=>match Nat.beq i j with | true=>true | false=>kZ i r
def reach (ob:List af):Nat->List Nat->List Nat->List Nat
 | 0,_,acc=>acc
 | _,[],acc=>acc
 | n+1,i::r,acc=>match kZ i acc with
   | true=>reach ob n r acc
   | false=>reach ob n (r++((ob[i]?).map fU).getD []) (acc++[i])
def dR (i:Nat):List Nat->Nat->Nat
 | [],k=>k
 | j::r,k=>match Nat.beq i j with | true=>k | false=>dR i r (k+1)
mutual
def gM (f:Nat->Nat):V->V
 | .ptr o k=> .ptr (f o) k
 | .pM l=> .pM (gO f l)
 | .dp l=> .dp (gO f l)
 | .fn g a b=> .fn g (gO f a) (gO f b)
 | .jl t v=> .jl t (gM f v)
 | .agg l=> .agg (gO f l)
 | .aQ l=> .aQ (gO f l)
 | .mp o=> .mp (f o)
 | .bX o z lo n c=> .bX (f o) z lo n c
 | .bp o z i off=> .bp (f o) z i off
 | v=>v
def gO (f:Nat->Nat):List V->List V
 | []=>[]
 | v::r=>gM f v::gO f r
end
def wh (n:Nat) (K:Nat->Prop):Prop:=
 match n with
 | 0=>K 0
 | m+1=>K (m+1)
def ng:List Nat->(List Nat->Prop)->Prop
 | [],K=>K []
 | i::r,K=>wh i fun i=>ng r fun r=>K (i::r)
def m6 (f:Nat->Nat) (v:V) (K:V->Prop):Prop:=
 match v with
 | .ptr o k=>wh (f o) fun o=>K (.ptr o k)
 | .mp o=>wh (f o) fun o=>K (.mp o)
 | .bX o z lo n c=>wh (f o) fun o=>K (.bX o z lo n c)
 | .bp o z i off=>wh (f o) fun o=>K (.bp o z i off)
 | v=>match aW v with
   | []=>K v
   | _::_=>K (gM f v)
def eN (f:Nat->Nat):af->af
 | .cells w T cs=> .cells w T (gO f cs)
 | o=>o
def iU (f:Nat->Nat) (o:af) (K:af->Prop):Prop:=
 match o with
 | .cells w T cs=>(match b7 cs with
   | []=>K (.cells w T cs)
   | _::_=>cd (m6 f) cs fun cs=>K (.cells w T cs))
 | o=>K o
def af.aH:af->(af->Prop)->Prop
 | .cells w T cs,K=>cd V.aH cs fun cs=>K (.cells w T cs)
 | .map es,K=>K (.map es)
 | .buf m z l ty,K=>K (.buf m z l ty)
 | .none,K=>K .none
def af.Qf:af->(af->Prop)->Prop
 | .buf _ z l ty,K=>K (.buf false z l ty)
 | o,K=>K o
def af.pb (m:Bool):af->af
 | .buf true z l ty=> .buf true z l ty
 | .buf false z l ty=> .buf m z l ty
 | o=>o
def af.rZ (m:Bool) (o:af) (K:af->Prop):Prop:=
 match o,m with
 | .buf true z l ty,_=>K (.buf true z l ty)
 | .buf false z l ty,m=>K (.buf m z l ty)
 | o,false=>K o
 | _,true=>False
def af.Ja (o:af) (K:Bool->Prop):Prop:=
 match o with
 | .buf true _ _ _=>K true
 | _=>K false
def nh:List Nat->Bool
 | []=>true
 | i::r=> !kZ i r &&nh r
def pS (idx:List Nat):List Nat->Bool
 | []=>true
 | i::r=>kZ i idx &&pS idx r
def pT (ob:List af) (idx:List Nat):List Nat->Bool
 | []=>true
 | i::r=>pS idx (((ob[i]?).map fU).getD []) &&pT ob idx r
def mR (f:Nat->Nat):List Nat->List af->List af->(List af->Prop)->Prop
 | i::r,o::os,ob,K=>iU f o fun o=>cA ob i fun o0=>o0.Ja fun m=>o.rZ m fun o=>fw ob i o fun ob=>mR f r os ob K
 | [],os,ob,K=>cd (iU f) os fun os=>K (ob++os)
 | _::_,[],_,_=>False
def pU (ob:List af) (f:Nat->Nat):List Nat->(List af->Prop)->Prop
 | [],K=>K []
 | i::r,K=>cA ob i fun o=>o.aH fun o=>pU ob f r fun os=>iU f o fun o=>K (o::os)
def Ew:List af->(List af->Prop)->Prop
 | [],K=>K []
 | o::r,K=>o.Qf fun o=>Ew r fun r=>K (o::r)
def kK:List Nat->List af->(List Nat->Prop)->Prop
 | i::r,o::os,K=>o.Ja fun m=>match m with
   | true=>kK r os fun l=>K (i::l)
   | false=>kK r os K
 | _,_,K=>K []
def ni (ms:List Nat):List Nat->Bool
 | []=>false
 | i::r=>match kZ i ms with | true=>true | false=>ni ms r
def V.forget (ms:List Nat) (v:V):V:=
 match ni ms (aW v) with
 | true=> .undef
 | false=>v
def af.fg (ms:List Nat):af->(af->Prop)->Prop
 | .cells w T cs,K=>cd (fun v K=>(V.forget ms v).c7 K) cs fun cs=>K (.cells w T cs)
 | o,K=>K o
def gP (ms:List Nat):List (Fn × List V × List V)->Bool
 | []=>true
 | (_,a,b)::r=> !ni ms (b7 a) && !ni ms (b7 b) &&gP ms r
def fg (ms:List Nat) (t:List V) (ob:List af) (df:List (Fn × List V × List V)) (K:List V->List af->Prop):Prop:=
 match ms with
 | []=>K t ob
 | m::r=>match gP (m::r) df with
   | false=>False
   | true=>cd (fun v K=>(V.forget (m::r) v).c7 K) t fun t=>cd (af.fg (m::r)) ob fun ob=>K t ob
def Dh:V->List V->St->(V->St->Prop)->(V->St->Prop)->Prop
 | .fn (.func g) first cap,args,⟨t,ob,nt,df⟩,K,KP=>
   cd V.aH (first++args++cap) fun args=>
   ng (reach ob 64 (b7 args) []) fun idx=>
   match nh idx &&pS idx (b7 args) &&pT ob idx idx with
   | false=>False
   | true=>
   pU ob (fun i=>dR i idx 0) idx fun sub=>
   Ew sub fun sub=>
   cd (m6 fun i=>dR i idx 0) args fun args=>
   S.call g args sub fun out iZ=>
   let back:Nat->Nat:=fun j=>(idx[j]?).getD (ob.length+(j - idx.length))
   kK idx iZ fun ms=>fg ms t ob df fun t ob=>
   mR back idx iZ ob fun ob=>match out with
    | .ret v=>m6 back v fun v=>K v ⟨t,ob,nt,df⟩
    | .dw v=>m6 back v fun v=>KP v ⟨t,ob,nt,df⟩
 | _,_,_,_,_=>False
def mS (P:Program) (ts:Array TypeId):Bool:=
 match ts[1]? with
 | none=>true
 | some u=>match P.underlying u with
   | some (.int _)=>false
   | some _=>true
   | none=>false
def Ey (P:Program) (ts:Array TypeId):Option TypeDesc:=(ts[0]?).bind P.underlying
def i7 (P:Program) (e:TypeId) (l:List V) (r:Room) (m:List V):St->(V->St->Prop)->Prop
 | ⟨t,ob,nt,df⟩,K=>
 jm P e fun z=>match (P.info? e).bind (·.zero),xH P e with
  | some zv,v8+1=>(match zv.cells.size==z with
    | true=>(l.length+m.length)*(v8+1)<=140737488355328/\(∀x∈m,x.cells.length=z)/\
      (match r with
      | .no=>False
      | .ex=>(∀x∈l,x.cells.length=z)/\K (.sl (l++m) (.tok nt z)) ⟨t,ob,nt+1,df⟩
      | .tok i sz=>(match Nat.beq sz z with
        | true=>kJ i ⟨t,ob,nt,df⟩ fun s=>K (.sl (l++m) (.tok i sz)) s
        | false=>False))
    | false=>False)
  | _,_=>False
def k0 (b:Builtin) (ts:Array TypeId) (args:List V) (K:V->Prop):Prop:=
 match b,Ey S.P ts,args with
 | .len,some .string,[.str x]=>K (.int .i64 x.size)
 | .len,some (.slice _),[.sl l _]=>K (.int .i64 l.length)
 | .len,some (.slice _),[.pM l]=>K (.int .i64 l.length)
 | .len,some (.slice _),[.spare l _]=>K (.int .i64 l.length)
 | .len,some (.slice _),[.bX _ _ _ n _]=>K (.int .i64 n)
 | .cap,some (.slice _),[.bX _ _ _ _ c]=>K (.int .i64 c)
 | .len,some (.array n _),[_]=>K (.int .i64 n)
 | .unsafeSliceData,some (.slice _),[.bX o z lo n c]=>0<c/\K (.bp o z lo 0)
 | .cap,some (.slice _),[.spare l m]=>K (.int .i64 ((l.length+m.length:Nat):Int))
 | .min,_,[.int k a,.int k' b]=>k=k'/\K (.int k (if b<a then b else a))
 | .max,_,[.int k a,.int k' b]=>k=k'/\K (.int k (if b>a then b else a))
 | _,_,_=>False
def zl:Option TypeId->TypeId->Option TypeId
 | some T,e=>(match Nat.beq T e with | true=>some T | false=>none)
 | none,_=>none
def eo (P:Program) (e:TypeId) (m:List V):St->(V->St->Prop)->Prop
 | ⟨t,ob,nt,df⟩,K=>
 jm P e fun z=>match (P.info? e).bind (·.zero),xH P e with
  | some zv,v8+1=>(match zv.cells.size==z &&V.il 0 (ax zv).cells &&(ax zv).cells.all V.aE with
    | true=>m.length*(v8+1)<=140737488355328/\(∀x∈m,x.cells.length=z)/\
      ∀sp:List V,(m=[]->sp=[])->(∀x∈sp,x.cells.length=z)->e6 ob (.buf false z (m++sp)) fun i ob=>K (.bX i z 0 m.length (m.length+sp.length)) ⟨t,ob,nt,df⟩
    | false=>False)
  | _,_=>False
def dm (P:Program) (e:TypeId) (o z lo n c:Nat) (m:List V):St->(V->St->Prop)->Prop
 | ⟨t,ob,nt,df⟩,K=>
 jm P e fun z'=>match (P.info? e).bind (·.zero),xH P e,Nat.beq z z' with
  | some zv,v8+1,true=>(match zv.cells.size==z &&V.il 0 (ax zv).cells &&(ax zv).cells.all V.aE with
    | true=>(n+m.length)*(v8+1)<=140737488355328/\(∀x∈m,x.cells.length=z)/\
      cA ob o fun o1=>match o1 with
      | .buf mv z' l ty=>(match Nat.beq z z' with
        | true=>L_ (Nat.ble (n+m.length) c)
          (lo+c<=l.length/\fw ob o (.buf mv z (l.take (lo+n)++m++l.drop (lo+n+m.length)) ty) fun ob=>K (.bX o z lo (n+m.length) c) ⟨t,ob,nt,df⟩)
          (lo+n<=l.length/\ ∀sp:List V,(∀x∈sp,x.cells.length=z)->
            e6 ob (.buf false z ((l.drop lo).take n++m++sp) (zl ty e)) fun i ob=>K (.bX i z 0 (n+m.length) (n+m.length+sp.length)) ⟨t,ob,nt,df⟩)
        | false=>False)
      | _=>False
    | false=>False)
  | _,_,_=>False
def pV (mu:Bool) (ts:Array TypeId) (args:List V) (s:St) (K:V->St->Prop):Prop:=
 match Ey S.P ts,args with
 | some (.slice e),[b,v]=>(match mS S.P ts with
   | true=>sG S.P e ts s.eg v fun m=>(match b with
     | .sl l r=>(match mu,l,r with
       | true,[],.ex=>eo S.P e m s K
       | _,l,r=>i7 S.P e l r m s K)
     | .bX o z lo n c=>dm S.P e o z lo n c m s K
     | _=>False)
   | false=>(match b,v,(ts[1]?).bind S.P.underlying with
     | .bX o z lo n c,.int _ k,some (.int _)=>(match (S.P.info? e).bind (·.zero) with
       | some zv=>0<=k/\k<281474976710656/\dm S.P e o z lo n c (List.replicate k.toNat (ax zv)) s K
       | none=>False)
     | _,_,_=>False))
 | _,_=>False
def tM (ts:Array TypeId) (args:List V):St->(V->St->Prop)->Prop
 | ⟨t,ob,nt,df⟩,K=>match Ey S.P ts,args with
 | some (.slice e),[.bX o z lo n c,v]=>sG S.P e ts ob v fun m=>jm S.P e fun z'=>
   (match Nat.beq z z' with
   | true=>(∀x∈m,x.cells.length=z)/\cA ob o fun o1=>match o1 with
     | .buf mv z' l ty=>(match Nat.beq z z' with
       | true=>lo+n<=l.length/\fw ob o (.buf mv z (l.take lo++m.take n++l.drop (lo+min m.length n)) ty) fun ob=>K (.int .i64 ((min m.length n:Nat):Int)) ⟨t,ob,nt,df⟩
       | false=>False)
     | _=>False
   | false=>False)
 | _,_=>False
def fM (T:TypeId) (len cap:V):St->(V->St->Prop)->Prop
 | ⟨t,ob,nt,df⟩,K=>match len,cap,S.P.underlying T with
 | .int _ n,.int _ c,some (.slice e)=>jm S.P e fun z=>(match (S.P.info? e).bind (·.zero) with
   | some zv=>(match zv.cells.size==z &&V.il 0 (ax zv).cells &&(ax zv).cells.all V.aE with
     | true=>0<=n/\n<=c/\c*xH S.P e<=140737488355328/\c<=140737488355328/\
       e6 ob (.buf false z (List.replicate c.toNat (ax zv))) fun i ob=>K (.bX i z 0 n.toNat c.toNat) ⟨t,ob,nt,df⟩
     | false=>False)
   | none=>False)
 | _,_,_=>False
def lW (P:Program) (T:TypeId) (ob:List af) (x k:V) (ok:Bool) (K:V->Prop):Prop:=
 match P.underlying T with
 | some (.map kt et)=>(match plainKey P kt k with
   | true=>
     let res:V->Bool->Prop:=fun v b=>v.aH fun v=>(match ok with | true=>K (.aQ [v,.bool b]) | false=>K v)
     (match x with
     | .ij=>zeroV P et fun z=>res z false
     | .mp o=>cA ob o fun o1=>(match o1 with
       | .map es=>(∀e∈es,plainKey P kt e.1=true)/\ ∃r,es.find? (fun e=>pa k e.1)=r/\(match r with
         | some e=>res e.2 true
         | none=>zeroV P et fun z=>res z false)
       | _=>False)
     | _=>False)
   | false=>False)
 | _=>False
def fN (T:TypeId) (x k v:V):St->(V->St->Prop)->Prop
 | ⟨t,ob,nt,df⟩,K=>match S.P.underlying T,x with
 | some (.map kt _),.mp o=>v.aH fun v=>(match plainKey S.P kt k &&V.low 0 v with
   | true=>cA ob o fun o1=>(match o1 with
     | .map es=>(∀e∈es,plainKey S.P kt e.1=true)/\fw ob o (.map (pR k v es)) fun ob=>K (.aQ []) ⟨t,ob,nt,df⟩
     | _=>False)
   | false=>False)
 | _,_=>False
def dH (ts:Array TypeId) (args:List V):St->(V->St->Prop)->Prop
 | ⟨t,ob,nt,df⟩,K=>match Ey S.P ts,args with
 | some (.pointer e),[.bp o z 0 0,.int .i64 n]=>cA ob o fun o1=>(match o1 with
   | .buf _ z' l (some T)=>(match Nat.beq z 1 &&Nat.beq z z' &&Nat.beq T e &&Nat.beq (S.P.cellsOf e) 1 with
     | true=>0<=n/\n<=140737488355328/\n.toNat<=l.length/\ ∃bs:ByteArray,l.take n.toNat=bK bs/\
       L_ (Nat.beq n.toNat 0) (K (.str bs) ⟨t,ob,nt,df⟩) (fw ob o (.buf true 1 []) fun ob=>K (.str bs) ⟨t,ob,nt,df⟩)
     | false=>False)
   | _=>False)
 | _,_=>False
def sZ:Operand->Bool
 | .const (.slice none _ _)=>true
 | _=>false
def jB (P:Program) (op:BinOp) (T:TypeId) (x:V) (K:V->Prop):Prop:=
 match P.underlying T,op with
 | some (.slice _),.eql=>Bs x fun b=>K (.bool b)
 | some (.slice _),.neq=>Bs x fun b=>K (.bool !b)
 | _,_=>False
where
 Bs:V->(Bool->Prop)->Prop
  | .sl l _,K=> ∀b:Bool,(b=true->l=[])->K b
  | .bX _ _ _ _ c,K=> ∀b:Bool,(b=true->c=0)->K b
  | .pM l,K=> ∀b:Bool,(b=true->l=[])->K b
  | .spare l m,K=> ∀b:Bool,(b=true->l=[]/\m=[])->K b
  | _,_=>False
def pW (P:Program) (a b:TypeId) (o:af) (off:Nat):Bool:=
 match o,P.underlying a,P.underlying b with
 | .cells _ _ cs,some (.pointer t),some .unsafePointer=>Nat.blt 0 (dk P t) &&Nat.blt off cs.length
 | .cells _ T cs,some .unsafePointer,some (.pointer u)=>Nat.blt 0 (dk P u) &&liesAt P P.depth T (cs.length/P.cellsOf T) off u 1
 | _,_,_=>false
def pX (P:Program) (a b:TypeId) (o:af) (off:Nat) (K:Bool->Prop):Prop:=K (pW P a b o off)
def ga (o:Oper) (t:List V) (ob:List af) (K:V->Prop):Prop:=
 match o.op with
 | .move x | .assign x=>ev t x fun v=>K v
 | .pick c a b=>ev t c fun c=>match c with
   | .bool c=>L_ c (ev t a fun v=>K v) (ev t b fun v=>K v)
   | _=>False
 | .build T parts=>gg t parts.toList fun ps=>qT S.P T ps fun v=>K v
 | .buildSlice T n parts=>gg t parts.toList fun ps=>match ia 0 ps with
   | some l=>match l.length==n &&nX (dk S.P (jz S.P T)) l with
     | true=>jm S.P (jz S.P T) fun z=>match Nat.blt 16777216 (n*z),(S.P.info? (jz S.P T)).bind (·.zero) with
       | false,some zv=>(match zv.cells.size==z with
         | true=>(match S.P.underlying T,S.P.underlying (jz S.P T) with
           | some (.slice _),some (.func ..)=>K (.pM l)
           | some (.slice _),some (.pointer _)=>K (.pM l)
           | some (.slice _),_=>(match V.il 0 l with | true=>K (.sl l .ex) | false=>False)
           | _,_=>False)
         | false=>False)
       | _,_=>False
     | false=>False
   | none=>False
 | .load T x=>ev t x fun p=>match p with
   | .ptr i off=>cA ob i fun o1=>match o1 with
     | .cells _ _ cs=>iT cs off fun cs=>im S.P T cs fun v=>K v
     | _=>False
   | .dp cs=>im S.P T cs fun v=>v.aH fun v=>K v
   | .bp o z i off=>cA ob o fun o1=>match o1 with
     | .buf _ z' l _=>(match Nat.beq z z' with
       | true=> ∃x,l[i]? =some x/\iT x.cells off fun cs=>im S.P T cs fun v=>v.aH fun v=>K v
       | false=>False)
     | _=>False
   | _=>False
 | .nilCheck x=>ev t x fun v=>match v with
   | .bp o z i off=>K (.bp o z i off)
   | .ptr i off=>K (.ptr i off)
   | .dp c=>K (.dp c)
   | .fn (.func f) a b=>K (.fn (.func f) a b)
   | _=>False
 | .binOp op T x y _=>ev t x fun x=>ev t y fun y=>qS S.P op T x y fun v=>K v
 | .unOp op _ x=>ev t x fun x=>match op,x with
   | .not,.bool b=>K (.bool !b)
   | .neg,.int k n=>K (.int k (k.wrap (0 - n)))
   | _,_=>False
 | .lookup T x k ok=>ev t x fun x=>ev t k fun k=>lW S.P T ob x k ok fun v=>K v
 | .convert a b x=>ev t x fun x=>(match x with
   | .bX _ _ _ _ _=>(match S.P.underlying a,S.P.underlying b with
     | some (.slice e),some .string=>(match S.P.underlying e with
       | some (.int .u8)=>sG S.P e #[] ob x fun m=> ∃bs:ByteArray,m=bK bs/\K (.str bs)
       | _=>False)
     | _,_=>False)
   | .ptr o off=>cA ob o fun o1=>pX S.P a b o1 off fun b=>(match b with | true=>K (.ptr o off) | false=>False)
   | x=>wI S.P a b x fun v=>K v)
 | .makeInterface T x=>ev t x fun x=>x.aH fun x=>match S.P.underlying T with
   | some (.interface _)=>False
   | some _=>K (.jl T x)
   | none=>False
 | .makeFunc f a b=>sy t a.toList fun a=>sy t b.toList fun b=>cd V.aH a fun a=>cd V.aH b fun b=>K (.fn f a b)
 | .fieldAddr T x f=>ev t x fun p=>match (fieldsOf S.P T)[f]? with
   | some fd=>match dk S.P fd.type with
     | 0=>False
     | _+1=>(match p with
       | .ptr i off=>K (.ptr i (off+fd.offset))
       | .dp c=>iT c fd.offset fun c=>K (.dp c)
       | .bp o z i off=>K (.bp o z i (off+fd.offset))
       | _=>False)
   | none=>False
 | .field T x f=>ev t x fun x=>match (fieldsOf S.P T)[f]?,x with
   | some fd,.agg cs=>iT cs fd.offset fun cs=>im S.P fd.type cs fun v=>v.aH fun v=>K v
   | _,_=>False
 | .indexAddr T x ix=>ev t x fun p=>ev t ix fun i=>match i with
   | .int _ n=>(match S.P.underlying T,p with
     | some (.array len e),.ptr j off=>jm S.P e fun z=>0<=n/\n<len/\cA ob j fun o1=>(match o1 with
       | .buf _ z' _ _=>(match Nat.beq z z',off with | true,0=>K (.bp j z n.toNat 0) | _,_=>False)
       | _=>K (.ptr j (off+n.toNat*z)))
     | some (.slice e),.bX o z lo m _=>jm S.P e fun z'=>(match Nat.beq z z' with | true=>0<=n/\n.toNat<m/\K (.bp o z (lo+n.toNat) 0) | false=>False)
     | some (.array len e),.dp c=>jm S.P e fun z=>0<=n/\n<len/\iT c (n.toNat*z) fun c=>K (.dp c)
     | some (.slice e),.sl l _=>jm S.P e fun z=>0<=n/\ ∃x,l[n.toNat]? =some x/\x.cells.length=z/\K (.dp x.cells)
     | some (.slice e),.spare l _=>jm S.P e fun z=>0<=n/\ ∃x,l[n.toNat]? =some x/\x.cells.length=z/\K (.dp x.cells)
     | some (.slice e),.pM l=>jm S.P e fun z=>0<=n/\ ∃x,l[n.toNat]? =some x/\x.cells.length=z/\K (.dp x.cells)
     | _,_=>False)
   | _=>False
 | .index T x ix=>ev t x fun x=>ev t ix fun i=>match i with
   | .int _ n=>(match S.P.underlying T,x with
     | some .string,.str b=>0<=n/\ ∃c,b[n.toNat]? =some c/\K (.int .u8 c.toNat)
     | some (.array len e),.agg cs=>jm S.P e fun z=>0<=n/\n<len/\iT cs (n.toNat*z) fun cs=>im S.P e cs fun v=>v.aH fun v=>K v
     | _,_=>False)
   | _=>False
 | .typeAssert x _ T ok=>ev t x fun x=>match S.P.underlying T with
   | some (.interface _)=>False
   | some _=>nW S.P T ok x fun v=>K v
   | none=>False
 | .extract x i=>ev t x fun x=>match x with
   | .aQ vs=>cA vs i fun v=>v.aH fun v=>K v
   | _=>False
 | .slice T x lo hi none=>ev t x fun x=>sE t lo fun l=>match x with
   | .str b=>match S.P.underlying T with
     | some .string=>(match hi with
       | none=>0<=l/\l<=b.size/\K (.str (b.extract l.toNat b.size))
       | some y=>ev t y fun y=>match y with
         | .int _ h=>0<=l/\l<=h/\h<=b.size/\K (.str (b.extract l.toNat h.toNat))
         | _=>False)
     | _=>False
   | .sl xs r=>match S.P.underlying T with
     | some (.slice e)=>jm S.P e fun z=>(match hi with
       | none=>0<=l/\l<=xs.length/\(∀x∈xs,x.cells.length=z)/\K (.sl (xs.drop l.toNat) r)
       | some y=>ev t y fun y=>match y with
         | .int _ h=>0<=l/\l<=h/\h<=xs.length/\(∀x∈xs,x.cells.length=z)/\K (.sl ((xs.take h.toNat).drop l.toNat) .no)
         | _=>False)
     | _=>False
   | .spare xs sp=>match S.P.underlying T with
     | some (.slice e)=>jm S.P e fun z=>(match hi with
       | none=>False
       | some y=>ev t y fun y=>match y with
         | .int _ h=>0<=l/\l<=h/\h<=xs.length+sp.length/\(∀x∈xs++sp,x.cells.length=z)/\K (.sl (((xs++sp).take h.toNat).drop l.toNat) .no)
         | _=>False)
     | _=>False
   | .bX o z a n c=>match S.P.underlying T with
     | some (.slice e)=>jm S.P e fun z'=>(match Nat.beq z z',hi with
       | true,none=>0<=l/\l<=n/\K (.bX o z (a+l.toNat) (n - l.toNat) (c - l.toNat))
       | true,some y=>ev t y fun y=>match y with
         | .int _ h=>0<=l/\l<=h/\h<=c/\K (.bX o z (a+l.toNat) (h.toNat - l.toNat) (c - l.toNat))
         | _=>False
       | _,_=>False)
     | _=>False
   | _=>False
 | .slice T x lo (some hi) (some mx)=>ev t x fun x=>sE t lo fun l=>ev t hi fun h=>ev t mx fun m=>match x,h,m,S.P.underlying T with
   | .sl xs _,.int _ h,.int _ m,some (.slice e)=>jm S.P e fun z=>0<=l/\l<=h/\h=m/\h<=xs.length/\(∀x∈xs,x.cells.length=z)/\K (.sl ((xs.take h.toNat).drop l.toNat) .ex)
   | .bX o z a n c,.int _ h,.int _ m,some (.slice e)=>jm S.P e fun z'=>(match Nat.beq z z' with
     | true=>0<=l/\l<=h/\h<=m/\m<=c/\K (.bX o z (a+l.toNat) (h.toNat - l.toNat) (m.toNat - l.toNat))
     | false=>False)
   | _,_,_,_=>False
 | .call c=>match c.callee with
   | .builtin b=>sy t c.args.toList fun args=>k0 S b c.argTypes args K
   | _=>False
 | _=>False
def pc (o:Option Tmp) (l:List Nat):Bool:=
 match o with
 | some d=>kZ d l
 | none=>false
def jC (T:TypeId) (n:Nat) (parts:Array (Nat × Operand)) (t:List V) (ob:List af) (K:V->List af->Prop):Prop:=
 gg t parts.toList fun ps=>match ia 0 ps with
  | some l=>match l.length==n &&nX (dk S.P (jz S.P T)) l with
    | true=>jm S.P (jz S.P T) fun z=>match Nat.blt 16777216 (n*z),(S.P.info? (jz S.P T)).bind (·.zero) with
      | false,some zv=>(match zv.cells.size==z with
        | true=>(match S.P.underlying T,V.il 0 l with
          | some (.slice _),true=>e6 ob (.buf false z l) fun i ob=>K (.bX i z 0 n n) ob
          | _,_=>False)
        | false=>False)
      | _,_=>False
    | false=>False
  | none=>False
def lX (A B:TypeId) (x:V) (ob:List af) (K:V->List af->Prop):Prop:=
 match S.P.underlying A,S.P.underlying B,x with
 | some .string,some (.slice e),.str s=>(match S.P.underlying e with
   | some (.int .u8)=> ∀sp:List V,(∀v∈sp,v= .int .u8 0)->e6 ob (.buf false 1 (bK s++sp) (some e)) fun i ob=>K (.bX i 1 0 s.size (s.size+sp.length)) ob
   | _=>False)
 | _,_,_=>False
def zm (o:Oper):St->(V->St->Prop)->(V->St->Prop)->Prop
 | ⟨t,ob,nt,df⟩,K,KP=>
 match o.op with
 | .alloc T=>zeroV S.P T fun z=>match z.cells.all V.aE &&z.jy with
   | true=>(match pc o.dst S.mu &&jA z.cells with
     | true=>e6 ob (.buf false 1 z.cells) fun n ob=>K (.ptr n 0) ⟨t,ob,nt,df⟩
     | false=>e6 ob (.cells true T z.cells) fun n ob=>K (.ptr n 0) ⟨t,ob,nt,df⟩)
   | false=>False
 | .box T x=>ev t x fun v=>v.aH fun v=>match v.cells.all V.aE &&v.jy with
   | true=>e6 ob (.cells true T v.cells) fun n ob=>K (.ptr n 0) ⟨t,ob,nt,df⟩
   | false=>False
 | .store T x y=>ev t x fun p=>ev t y fun v=>v.c7 fun v=>match p with
   | .ptr i off=>cA ob i fun o1=>match o1 with
     | .cells true U cs=>match (S.P.info? T).any (fun i=>v.cells.length==i.size) &&v.cells.all V.aE &&v.jy with
       | true=>eR cs off v.cells fun cs=>fw ob i (.cells true U cs) fun eg=>K (.aQ []) ⟨t,eg,nt,df⟩
       | false=>False
     | _=>False
   | .bp o z i off=>v.aH fun v=>cA ob o fun o1=>match o1 with
     | .buf mv z' l ty=>(match (S.P.info? T).any (fun i=>v.cells.length==i.size) &&v.cells.all V.aE &&V.il 0 v.cells &&Nat.beq z z' with
       | true=> ∃x,l[i]? =some x/\eR x.cells off v.cells fun cs=>fw ob o (.buf mv z (l.set i (x.kI cs)) ty) fun ob=>K (.aQ []) ⟨t,ob,nt,df⟩
       | false=>False)
     | _=>False
   | _=>False
 | .makeSlice T len cap=>ev t len fun len=>ev t cap fun cap=>fM S T len cap ⟨t,ob,nt,df⟩ K
 | .makeMap T none=>(match S.P.underlying T with
   | some (.map _ _)=>e6 ob (.map []) fun n ob=>K (.mp n) ⟨t,ob,nt,df⟩
   | _=>False)
 | .mapUpdate T x k v=>ev t x fun x=>ev t k fun k=>ev t v fun v=>fN S T x k v ⟨t,ob,nt,df⟩ K
 | .binOp op T x y _=>(match sZ y with
   | true=>ev t x fun x=>jB S.P op T x fun v=>K v ⟨t,ob,nt,df⟩
   | false=>ga S o t ob fun v=>K v ⟨t,ob,nt,df⟩)
 | .buildSlice T n parts=>(match pc o.dst S.mu with
   | true=>jC S T n parts t ob fun v ob=>K v ⟨t,ob,nt,df⟩
   | false=>ga S o t ob fun v=>K v ⟨t,ob,nt,df⟩)
 | .convert a b x=>(match pc o.dst S.mu with
   | true=>ev t x fun x=>lX S a b x ob fun v ob=>K v ⟨t,ob,nt,df⟩
   | false=>ga S o t ob fun v=>K v ⟨t,ob,nt,df⟩)
 | .slice T x lo hi mx=>ev t x fun p=>match p with
   | .ptr i 0=>match S.P.underlying T,hi,lo,mx with
     | some (.array n e),hi,lo,none=>cA ob i fun o1=>match o1 with
       | .buf _ z l _=>jm S.P e fun z'=>m5 t lo fun l1=>m5 t hi fun h1=>(match Nat.beq z z',l1,h1 with
         | true,none,none=>K (.bX i z 0 n n) ⟨t,ob,nt,df⟩
         | true,some a,none=>0<=a/\a<=n/\K (.bX i z a.toNat (n - a.toNat) (n - a.toNat)) ⟨t,ob,nt,df⟩
         | true,none,some b=>0<=b/\b<=n/\K (.bX i z 0 b.toNat n) ⟨t,ob,nt,df⟩
         | true,some a,some b=>0<=a/\a<=b/\b<=n/\K (.bX i z a.toNat (b.toNat - a.toNat) (n - a.toNat)) ⟨t,ob,nt,df⟩
         | _,_,_=>False)
       | .cells _ U cs=>match lo.isNone &&hi.isNone &&cs.length==n &&dk S.P e==1 &&cs.all (fun c=>match c with | .int _ _=>true | _=>false) with
         | true=>fw ob i (.cells false U cs) fun eg=>K (.sl cs .ex) ⟨t,eg,nt,df⟩
         | false=>False
       | _=>False
     | _,_,_,_=>False
   | .ptr i (off+1)=>match S.P.underlying T,hi,lo,mx with
     | some (.array n e),some hi,none,none=>cA ob i fun o1=>match o1 with
       | .cells _ _ _=>jm S.P e fun z=>m5 t (some hi) fun h1=>(match Nat.beq z 1,h1 with
         | true,some b=>0<=b/\b<=n/\K (.bX i 1 (off+1) b.toNat n) ⟨t,ob,nt,df⟩
         | _,_=>False)
       | _=>False
     | _,_,_,_=>False
   | _=>ga S o t ob fun v=>K v ⟨t,ob,nt,df⟩
 | .call c=>match c.callee with
   | .value f=>ev t f fun f=>sy t c.args.toList fun args=>Dh S f args ⟨t,ob,nt,df⟩ K KP
   | .builtin .append=>sy t c.args.toList fun args=>pV S (pc o.dst S.mu) c.argTypes args ⟨t,ob,nt,df⟩ K
   | .builtin .copy=>sy t c.args.toList fun args=>tM S c.argTypes args ⟨t,ob,nt,df⟩ K
   | .builtin .unsafeString=>sy t c.args.toList fun args=>dH S c.argTypes args ⟨t,ob,nt,df⟩ K
   | .builtin _=>ga S o t ob fun v=>K v ⟨t,ob,nt,df⟩
   | .invoke _ _=>False
 | .defer c=>match c.callee with
   | .value f=>ev t f fun f=>sy t c.args.toList fun args=>match f with
     | .fn (.func g) first cap=>cd V.aH (first++args) fun a=>cd V.aH cap fun cap=>K (.aQ []) ⟨t,ob,nt,(.func g,a,cap)::df⟩
     | _=>False
   | _=>False
 | .panic x=>ev t x fun x=>match x with
   | .jl T v=>KP (.jl T v) ⟨t,ob,nt,df⟩
   | _=>False
 | _=>ga S o t ob fun v=>K v ⟨t,ob,nt,df⟩
def qU (all:List Oper):List Oper->St->(St->Prop)->(V->St->Prop)->Prop
 | [],s,K,_=>K s
 | o::r,⟨t,ob,nt,df⟩,K,KP=>
   match o.guard with
   | none=>zm S o ⟨t,ob,nt,df⟩ (fun v s=>s.put o.dst v fun s=>qU all r s K KP) KP
   | some (j,want)=>match (all[j]?).bind (·.dst) with
     | some d=>cA t d fun g=>match g with
       | .bool b=>
         L_ b
          (fw t d (.bool true) fun t=>match want with
            | true=>zm S o ⟨t,ob,nt,df⟩ (fun v s=>s.put o.dst v fun s=>qU all r s K KP) KP
            | false=>St.put ⟨t,ob,nt,df⟩ o.dst (.aQ []) fun s=>qU all r s K KP)
          (fw t d (.bool false) fun t=>match want with
            | false=>zm S o ⟨t,ob,nt,df⟩ (fun v s=>s.put o.dst v fun s=>qU all r s K KP) KP
            | true=>St.put ⟨t,ob,nt,df⟩ o.dst (.aQ []) fun s=>qU all r s K KP)
       | .undef=>False
       | _=>St.put ⟨t,ob,nt,df⟩ o.dst (.aQ []) fun s=>qU all r s K KP
     | none=>False
def looks (all:List Oper) (o:Oper):List Nat:=
 (o.op.operands.toList.filterMap fun | .tmp t=>some t | _=>none)++
 (match o.guard with
  | some (g,_)=>((all[g]?).bind (·.dst)).toList
  | none=>[])
def jD (o:Oper):List Nat:=(o.after.toList.filter (Region.binds .any ·)).map (·.on)
def kM (A:List Nat):List Nat->Nat->Nat
 | [],m=>m
 | d::r,m=>kM A r (m ||| (1<<<d) ||| (A[d]?).getD 0)
def dx:List Oper->List Nat->List Nat
 | [],A=>A
 | o::r,A=>dx r (A++[kM A (jD o) 0])
def dn (A:List Nat) (i j:Nat):Bool:=((A[i]?).getD 0).testBit j
def On:Op->Bool
 | .move _ | .pick .. | .build .. | .buildSlice .. | .load .. | .nilCheck _ | .binOp .. | .unOp .. | .convert .. | .makeInterface .. | .makeFunc .. | .fieldAddr .. | .field .. | .indexAddr .. | .index ..
 | .typeAssert .. | .extract .. | .slice .. | .lookup .. =>true
 | .call c=>match c.callee with
   | .builtin .len | .builtin .cap | .builtin .min | .builtin .max=>true
   | _=>false
 | _=>false
def pY (o:Oper):Bool:=
 match o.op,o.guard,jD o,o.dst with
 | .alloc _,none,[],some _=>true
 | _,_,_,_=>false
def Gg (mu:List Tmp) (o:Oper):Bool:=
 pY o || (On o.op &&(match o.op with
  | .buildSlice .. => !pc o.dst mu
  | .convert .. => !pc o.dst mu
  | .binOp _ _ _ y _=> !sZ y
  | _=>true))
def Gh (A:List Nat):List Nat->List Nat->List (Nat × Bool)
 | [],fl=>fl.map fun i=>(i,true)
 | e::es,fl=>(fl.filter fun i=> !dn A i e).map (fun i=>(i,true))++(e,false)::Gh A es (fl.filter fun i=>dn A i e)
def lY (mu:List Tmp) (all:List Oper):List (Nat × Bool):=
 Gh (dx all []) ((all.zipIdx.filter fun o=> !Gg mu o.1).map (·.2)) ((all.zipIdx.filter fun o=>Gg mu o.1).map (·.2))
def jE (o:Option Tmp) (l:List Nat):Bool:=
 match o with
 | some d=>kZ d l
 | none=>false
def i9:Option Tmp->Option Tmp->Bool
 | some d,some e=>Nat.beq d e
 | _,_=>false
def pd (all:List Oper) (A:List Nat):List (Nat × Bool)->List Nat->Bool
 | [],_=>true
 | (n,fl)::r,done=>(match all[n]? with
  | some o=>(done.all fun i=>match all[i]? with
     | some p=> !i9 o.dst p.dst &&(!fl || !jE o.dst (looks all p)) &&(!jE p.dst (looks all o) || dn A n i)
     | none=>false) &&
    (!fl || !jE o.dst (looks all o)) &&(fl || r.all fun j=>dn A j.1 n)
  | none=>false) &&pd all A r (if fl then n::done else done)
def qV:List Oper->Nat->Bool
 | [],_=>true
 | o::r,i=>(jD o).all (Nat.blt · i) &&qV r (i+1)
def Bt (P:Program) (all:List Oper) (π:List (Nat × Bool)):Bool:=
 P.follows .mixedOrders &&qV all 0 &&nh (π.map (·.1)) &&pS (π.map (·.1)) (List.range all.length) &&pd all (dx all []) π []
def tN (all:List Oper) (o:Oper) (t:List V) (KT KF:List V->Prop):Prop:=
 match o.guard with
 | none=>KT t
 | some (j,want)=>match (all[j]?).bind (·.dst) with
   | some d=>cA t d fun g=>match g with
     | .bool b=>
       L_ b
        (fw t d (.bool true) fun t=>match want with | true=>KT t | false=>KF t)
        (fw t d (.bool false) fun t=>match want with | false=>KT t | true=>KF t)
     | .undef=>False
     | _=>KF t
   | none=>False
def Bu:Option Tmp->List V->V->Prop->Prop
 | some d,t,v,k=>cA t d fun u=>v=u/\k
 | none,_,_,k=>k
def fO (k:Nat) (ok:Nat->Bool):Nat->List V->Bool
 | _,[]=>true
 | d,v::r=>(match kZ k (aW v) with | true=>ok d | false=>true) &&fO k ok (d+1) r
def gQ (k:Nat):Nat->List af->Bool
 | _,[]=>true
 | j,x::r=>(match kZ k (fU x) with | true=>Nat.beq j k | false=>true) &&gQ k (j+1) r
def ko (all:List Oper) (A:List Nat) (done:List Nat) (a d:Nat):Bool:=
 match done with
 | []=>false
 | i::r=>((match (all[i]?).bind (·.dst) with | some d'=>Nat.beq d' d | none=>false) &&(Nat.beq i a || dn A i a)) || ko all A r a d
def gh (all:List Oper) (A:List Nat) (done:List Nat) (a k:Nat) (t:List V) (ob:List af) (df:List (Fn × List V × List V)):Bool:=
 fO k (ko all A done a) 0 t &&gQ k 0 ob &&gP [k] df
def zn (all:List Oper) (A:List Nat) (n:Nat) (t:List V) (v:V):List Nat->Prop->Prop
 | [],k=>k
 | a::r,k=>match all[a]? with
   | some o=>(match pY o && !dn A n a with
     | false=>zn all A n t v r k
     | true=>match o.dst with
       | some d=>cA t d fun p=>(match p with
         | .ptr j 0=>(match kZ j (aW v) with | true=>False | false=>zn all A n t v r k)
         | _=>False)
       | none=>False)
   | none=>False
def recheck (all:List Oper) (A:List Nat) (n:Nat) (t0:List V) (oQ:List Nat):List Nat->List V->List af->List (Fn × List V × List V)->Prop->Prop
 | [],_,_,_,k=>k
 | m::r,t,ob,df,k=>match dn A n m with
   | true=>recheck all A n t0 oQ r t ob df k
   | false=>match all[m]? with
     | some o=>(match pY o with
       | true=>(match o.op,o.dst with
         | .alloc T,some d=>cA t d fun p=>cA t0 d fun q=>(match p,q with
           | .ptr j 0,.ptr i 0=>cA ob j fun x=>zeroV S.P T fun z=>(match Nat.beq j i &&gh all A oQ m j t ob df with
             | true=>x= .cells true T z.cells/\recheck all A n t0 oQ r t ob df k
             | false=>False)
           | _,_=>False)
         | _,_=>False)
       | false=>tN all o t (fun t=>ga S o t ob fun v=>Bu o.dst t v (recheck all A n t0 oQ r t ob df k)) fun t=>Bu o.dst t (.aQ []) (recheck all A n t0 oQ r t ob df k))
     | none=>False
def St.re (all:List Oper) (A:List Nat) (n:Nat) (t0:List V) (done:List Nat):St->(St->Prop)->Prop
 | ⟨t,ob,nt,df⟩,K=>recheck S all A n t0 done done t ob df (K ⟨t,ob,nt,df⟩)
def Gi (all:List Oper):List Nat->Bool
 | []=>true
 | i::r=>(match all[i]? with
   | some o=> !pY o
   | none=>true) &&Gi all r
def tO (all:List Oper):List Nat->List V->(List V->Prop)->Prop
 | [],t,K=>K t
 | i::r,t,K=>match (all[i]?).bind (·.dst) with
   | some d=>fw t d .undef fun t=>tO all r t K
   | none=>tO all r t K
def Di (all:List Oper) (done:List Nat):St->(St->Prop)->Prop
 | ⟨t,ob,nt,df⟩,K=>match Gi all done with
   | true=>tO all done t fun t=>K ⟨t,ob,nt,df⟩
   | false=>False
def kp (all:List Oper) (A:List Nat):List (Nat × Bool)->List Nat->St->(St->Prop)->(V->St->Prop)->Prop
 | [],_,s,K,_=>K s
 | (n,true)::r,done,⟨t,ob,nt,df⟩,K,KP=>(match all[n]? with
  | some o=>(match pY o with
    | true=>(match o.op,o.dst with
      | .alloc T,some d=>zeroV S.P T fun z=>(match z.cells.all V.aE &&z.jy &&(match b7 z.cells with | []=>true | _::_=>false) with
        | true=>e6 ob (.cells true T z.cells) fun k ob=>(match gh all A done n k t ob df with
          | true=>fw t d (.ptr k 0) fun t=>kp all A r (n::done) ⟨t,ob,nt,df⟩ K KP
          | false=>False)
        | false=>False)
      | _,_=>False)
    | false=>tN all o t (fun t=>ga S o t ob fun v=>zn all A n t v done (St.put ⟨t,ob,nt,df⟩ o.dst v fun s=>kp all A r (n::done) s K KP))
      fun t=>St.put ⟨t,ob,nt,df⟩ o.dst (.aQ []) fun s=>kp all A r (n::done) s K KP)
  | none=>False)
 | (n,false)::r,done,⟨t,ob,nt,df⟩,K,KP=>(match all[n]? with
  | some o=>tN all o t (fun t=>zm S o ⟨t,ob,nt,df⟩ (fun v s=>s.put o.dst v fun s=>s.re S all A n t done fun s=>kp all A r done s K KP) fun v s=>Di all done s (KP v))
     fun t=>St.put ⟨t,ob,nt,df⟩ o.dst (.aQ []) fun s=>s.re S all A n t done fun s=>kp all A r done s K KP
  | none=>False)
def Jv:Code->St->(Ex->St->Prop)->Prop
 | .skip,s,K=>K .normal s
 | .region _ ops false,s,K=>qU S ops.toList ops.toList s (K .normal) (fun v s=>K (.dw v) s)
 | .region _ ops true,s,K=>Bt S.P ops.toList (lY S.mu ops.toList)=true/\kp S ops.toList (dx ops.toList []) (lY S.mu ops.toList) [] s (K .normal) (fun v s=>K (.dw v) s)
 | .seq a b,s,K=>Jv a s fun e s=>match e with
   | .normal=>S.step b s K
   | .exit i=>K (.exit i) s
   | .ret=>K .ret s
   | .dw v=>K (.dw v) s
 | .cond c a b,⟨t,ob,nt,df⟩,K=>ev t c fun v=>match v with
   | .bool x=>L_ x (Jv a ⟨t,ob,nt,df⟩ K) (Jv b ⟨t,ob,nt,df⟩ K)
   | _=>False
 | .block i c,s,K=>Jv c s fun e s=>match e with
   | .normal=>K .normal s
   | .exit j=>(match Nat.beq j i with | true=>K .normal s | false=>K (.exit j) s)
   | .ret=>K .ret s
   | .dw v=>K (.dw v) s
 | .exit i,s,K=>K (.exit i) s
 | .ret,s,K=>K .ret s
 | .loop c,s,K=>S.loop c s K
 | _,_,_=>False
end
end VL
namespace VL
open Go
def Plain (a:Option Addr):Prop:=a=none\/ ∃b k,a=some ⟨b,k,none⟩
inductive aw (bs:Nat->Nat) (I:Nat->Nat->Prop) (w:World):Nat->V->Value->Prop
 | undef {n c}:aw bs I w n .undef c
 | int {n k x}:aw bs I w n (.int k x) (.int k x)
 | bool {n b}:aw bs I w n (.bool b) (.bool b)
 | str {n s}:aw bs I w n (.str s) (.string s)
 | ptr {n o off} (h:o<n):aw bs I w n (.ptr o off) (.pointer (some ⟨bs o,off,none⟩))
 | gH {n}:aw bs I w n .gH (.pointer none)
 | dp {n cs b off} (u:Nat->Value) (hc: ∀k v,cs[k]? =some v->w.cell? ⟨b,off+k,none⟩=some (u k)/\I b (off+k))
    (hu: ∀k v,cs[k]? =some v->aw bs I w n v (u k)):aw bs I w n (.dp cs) (.pointer (some ⟨b,off,none⟩))
 | slnil {n r}:aw bs I w n (.sl [] r) (.slice none 0 0)
 | sl {n l r b off len cap sz} (u:Nat->Value) (hl:len=l.length) (cu:len<=cap) (hr:r= .ex->cap=len) (hz: ∀x∈l,x.cells.length=sz/\x.cells.all V.aE=true)
    (hc: ∀k v,(l.flatMap V.cells)[k]? =some v->w.cell? ⟨b,off+k,none⟩=some (u k)/\I b (off+k))
    (hu: ∀k v,(l.flatMap V.cells)[k]? =some v->aw bs I w 0 v (u k)):aw bs I w n (.sl l r) (.slice (some ⟨b,off,none⟩) len cap)
 | pM {n l b off len cap sz} (u:Nat->Value) (hl:len=l.length) (cu:len<=cap) (hz: ∀x∈l,x.cells.length=sz/\x.cells.all V.aE=true)
    (hc: ∀k v,(l.flatMap V.cells)[k]? =some v->w.cell? ⟨b,off+k,none⟩=some (u k)/\I b (off+k))
    (hu: ∀k v,(l.flatMap V.cells)[k]? =some v->aw bs I w n v (u k)):aw bs I w n (.pM l) (.slice (some ⟨b,off,none⟩) len cap)
 | spare {n l m b off len cap sz} (u:Nat->Value) (hl:len=l.length) (cu:cap=l.length+m.length) (hz: ∀x∈l++m,x.cells.length=sz/\x.cells.all V.aE=true)
    (hc: ∀k v,((l++m).flatMap V.cells)[k]? =some v->w.cell? ⟨b,off+k,none⟩=some (u k)/\I b (off+k))
    (hu: ∀k v,((l++m).flatMap V.cells)[k]? =some v->aw bs I w 0 v (u k)):aw bs I w n (.spare l m) (.slice (some ⟨b,off,none⟩) len cap)
 | fn {n f a b ca cb} (ha:a.length=ca.size) (hb:b.length=cb.size) (h1: ∀(k:Nat) v c,a[k]? =some v->ca[k]? =some c->aw bs I w n v c)
    (h2: ∀(k:Nat) v c,b[k]? =some v->cb[k]? =some c->aw bs I w n v c):aw bs I w n (.fn f a b) (.func f ca cb)
 | ig {n}:aw bs I w n .ig .nilFunc
 | jl {n t v c} (h:aw bs I w n v c):aw bs I w n (.jl t v) (.iface t c)
 | gL {n}:aw bs I w n .gL .nilIface
 | agg {n l ca} (hl:l.length=ca.size) (h: ∀(k:Nat) v c,l[k]? =some v->ca[k]? =some c->aw bs I w n v c):aw bs I w n (.agg l) (.agg ca)
 | mp {n o} (h:o<n):aw bs I w n (.mp o) (.map (some (bs o)))
 | ij {n}:aw bs I w n .ij (.map none)
 | aQ {n l ca} (hl:l.length=ca.size) (h: ∀(k:Nat) v c,l[k]? =some v->ca[k]? =some c->aw bs I w n v c):aw bs I w n (.aQ l) (.tuple ca)
 | bX {n o z lo len cap a} (h:o<n) (hl:len<=cap) (ha:cap=0\/a=some ⟨bs o,lo*z,none⟩) (hf:Plain a):aw bs I w n (.bX o z lo len cap) (.slice a len cap)
 | bp {n o z i off} (h:o<n):aw bs I w n (.bp o z i off) (.pointer (some ⟨bs o,i*z+off,none⟩))
theorem aw.mono {bs xI:Nat->Nat} {I I':Nat->Nat->Prop} {w w':World} {n n':Nat} {v:V} {c:Value} (h:aw bs I w n v c)
 (ke: ∀o,o<n->o<n'/\xI o=bs o) (hI: ∀b k,I b k->I' b k/\w'.cell? ⟨b,k,none⟩=w.cell? ⟨b,k,none⟩):aw xI I' w' n' v c:=by
 induction h generalizing n' with
 | undef=>exact .undef
 | int=>exact .int
 | bool=>exact .bool
 | str=>exact .str
 | ptr h=>obtain ⟨h1,h2⟩:=ke _ h;rw [←h2];exact .ptr h1
 | gH=>exact .gH
 | dp u hc hu ih=>exact .dp u (fun k v hk=>⟨by rw [(hI _ _ (hc k v hk).2).2];exact (hc k v hk).1,(hI _ _ (hc k v hk).2).1⟩) fun k v hk=>ih k v hk ke
 | slnil=>exact .slnil
 | sl u hl cu hr hz hc hu ih=>exact .sl u hl cu hr hz (fun k v hk=>⟨by rw [(hI _ _ (hc k v hk).2).2];exact (hc k v hk).1,(hI _ _ (hc k v hk).2).1⟩) fun k v hk=>ih k v hk (fun o ho=>absurd ho (by omega))
 | pM u hl cu hz hc hu ih=>exact .pM u hl cu hz (fun k v hk=>⟨by rw [(hI _ _ (hc k v hk).2).2];exact (hc k v hk).1,(hI _ _ (hc k v hk).2).1⟩) fun k v hk=>ih k v hk ke
 | spare u hl cu hz hc hu ih=>exact .spare u hl cu hz (fun k v hk=>⟨by rw [(hI _ _ (hc k v hk).2).2];exact (hc k v hk).1,(hI _ _ (hc k v hk).2).1⟩) fun k v hk=>ih k v hk (fun o ho=>absurd ho (by omega))
 | fn ha hb _ _ i1 i2=>exact .fn ha hb (fun k v c h1 h2=>i1 k v c h1 h2 ke) (fun k v c h1 h2=>i2 k v c h1 h2 ke)
 | ig=>exact .ig
 | jl _ ih=>exact .jl (ih ke)
 | gL=>exact .gL
 | agg hl _ ih=>exact .agg hl fun k v c h1 h2=>ih k v c h1 h2 ke
 | mp h=>obtain ⟨h1,h2⟩:=ke _ h;rw [←h2];exact .mp h1
 | ij=>exact .ij
 | aQ hl _ ih=>exact .aQ hl fun k v c h1 h2=>ih k v c h1 h2 ke
 | bX h hl ha hf=>obtain ⟨h1,h2⟩:=ke _ h;exact .bX h1 hl (by rw [h2];exact ha) hf
 | bp h=>obtain ⟨h1,h2⟩:=ke _ h;rw [←h2];exact .bp h1
theorem dS {m:Nat}: ∀ {l:List V},V.il m l=true-> ∀ {k:Nat} {v:V},l[k]? =some v->V.low m v=true
 | [],_,k,v,h=>by simp at h
 | x::r,h,k,v,hk=>by
   simp only [V.il,Bool.and_eq_true] at h
   cases k with
   | zero=>simp at hk;exact hk▸h.1
   | succ k=>exact dS h.2 (by simpa using hk)
theorem xJ {m:Nat}: ∀ {l:List V},V.il m l=true-> ∀ {v:V},v∈l->V.low m v=true
 | x::r,h,v,hv=>by
   simp only [V.il,Bool.and_eq_true] at h
   cases hv with
   | head=>exact h.1
   | tail _ hv=>exact xJ h.2 hv
theorem Ez {m:Nat} {x v:V} (h:V.low m x=true) (hv:v∈x.cells):V.low m v=true:=by
 cases x<;>simp only [V.cells,List.mem_singleton] at hv<;>first | (subst hv;exact h) | exact xJ (by simpa [V.low] using h) hv
theorem tP {m:Nat} {l:List V} (h:V.il m l=true) {k:Nat} {v:V} (hv:(l.flatMap V.cells)[k]? =some v):V.low m v=true:=by
 obtain ⟨x,hx,hv⟩:=List.mem_flatMap.1 (List.mem_of_getElem? hv)
 exact Ez (xJ h hx) hv
theorem aw.low {bs:Nat->Nat} {I:Nat->Nat->Prop} {w:World} {n m:Nat} {v:V} {c:Value} (h:aw bs I w n v c) (hm:V.low m v=true):aw bs I w m v c:=by
 induction h generalizing m with
 | undef=>exact .undef
 | int=>exact .int
 | bool=>exact .bool
 | str=>exact .str
 | ptr h=>exact .ptr (by simpa [V.low,Nat.blt_eq] using hm)
 | gH=>exact .gH
 | dp u hc hu ih=>exact .dp u hc fun k v hk=>ih k v hk (dS (by simpa [V.low] using hm) hk)
 | slnil=>exact .slnil
 | sl u hl cu hr hz hc hu ih=>exact .sl u hl cu hr hz hc hu
 | pM u hl cu hz hc hu ih=>exact .pM u hl cu hz hc fun k v hk=>ih k v hk (tP (by simpa [V.low] using hm) hk)
 | spare u hl cu hz hc hu ih=>exact .spare u hl cu hz hc hu
 | fn ha hb _ _ i1 i2=>
   simp only [V.low,Bool.and_eq_true] at hm
   exact .fn ha hb (fun k v c h1 h2=>i1 k v c h1 h2 (dS hm.1 h1)) (fun k v c h1 h2=>i2 k v c h1 h2 (dS hm.2 h1))
 | ig=>exact .ig
 | jl _ ih=>exact .jl (ih (by simpa [V.low] using hm))
 | gL=>exact .gL
 | agg hl _ ih=>exact .agg hl fun k v c h1 h2=>ih k v c h1 h2 (dS (by simpa [V.low] using hm) h1)
 | mp h=>exact .mp (by simpa [V.low,Nat.blt_eq] using hm)
 | ij=>exact .ij
 | aQ hl _ ih=>exact .aQ hl fun k v c h1 h2=>ih k v c h1 h2 (dS (by simpa [V.low] using hm) h1)
 | bX h hl ha hf=>exact .bX (by simpa [V.low,Nat.blt_eq] using hm) hl ha hf
 | bp h=>exact .bp (by simpa [V.low,Nat.blt_eq] using hm)
theorem bU (f:Nat->Nat): ∀l:List V,(gO f l).length=l.length
 | []=>rfl
 | _::r=>by simp [gO,bU f r]
theorem c8 (f:Nat->Nat): ∀(l:List V) (k:Nat),(gO f l)[k]? =(l[k]?).map (gM f)
 | [],_=>by simp [gO]
 | _::_,0=>by simp [gO]
 | _::r,k+1=>by simp [gO,c8 f r k]
theorem xK (f:Nat->Nat) (l:List V):gO f l=l.map (gM f):=by
 apply List.ext_getElem?;intro k;rw [c8];simp
theorem wJ (f:Nat->Nat) (x:V):(gM f x).cells=x.cells.map (gM f):=by
 cases x<;>simp [gM,V.cells,xK]
theorem L' (f:Nat->Nat) {l:List V} (h:l.all V.aE=true):(l.map (gM f)).all V.aE=true:=by
 simp only [List.all_eq_true,List.mem_map,forall_exists_index,and_imp,forall_apply_eq_imp_iff₂] at h ⊢
 intro v hv
 have:=h v hv
 cases v<;>simp_all [gM,V.aE]
theorem bY {o:Nat}: ∀ {l:List V} {k:Nat} {v:V},l[k]? =some v->o∈aW v->o∈b7 l
 | x::r,0,v,h,ho=>by simp at h;subst h;simp [b7,ho]
 | x::r,k+1,v,h,ho=>by simp [b7];exact .inr (bY (by simpa using h) ho)
theorem Bv {o:Nat} {x v:V} (h:v∈x.cells) (ho:o∈aW v):o∈aW x:=by
 cases x<;>simp only [V.cells,List.mem_singleton] at h<;>first | (subst h;exact ho) | (obtain ⟨k,hk⟩:=List.mem_iff_getElem?.1 h;simpa [aW] using bY hk ho)
theorem EA {o:Nat} {l:List V} {k:Nat} {v:V} (hv:(l.flatMap V.cells)[k]? =some v) (ho:o∈aW v):o∈b7 l:=by
 obtain ⟨x,hx,hv⟩:=List.mem_flatMap.1 (List.mem_of_getElem? hv)
 obtain ⟨j,hj⟩:=List.mem_iff_getElem?.1 hx
 exact bY hj (Bv hv ho)
theorem zo (f:Nat->Nat) (l:List V):(gO f l).flatMap V.cells=(l.flatMap V.cells).map (gM f):=by
 rw [xK]
 induction l with
 | nil=>rfl
 | cons x r ih=>simp [wJ,ih]
theorem aw.gM {bs xI:Nat->Nat} {I:Nat->Nat->Prop} {w:World} {n n':Nat} {f:Nat->Nat} {v:V} {c:Value} (h:aw bs I w n v c)
 (hf: ∀o∈aW v,o<n->f o<n'/\xI (f o)=bs o):aw xI I w n' (VL.gM f v) c:=by
 induction h with
 | undef=>exact .undef
 | int=>exact .int
 | bool=>exact .bool
 | str=>exact .str
 | ptr h=>obtain ⟨h1,h2⟩:=hf _ (by simp [aW]) h;rw [←h2];exact .ptr h1
 | gH=>exact .gH
 | @dp n cs b off u hc hu ih=>
   refine .dp u (fun k v hk=> ?_) fun k v hk=> ?_
   · rw [c8] at hk
     obtain ⟨v',iV,rfl⟩:=Option.map_eq_some_iff.1 hk
     exact hc k v' iV
   · rw [c8] at hk
     obtain ⟨v',iV,rfl⟩:=Option.map_eq_some_iff.1 hk
     exact ih k v' iV fun o ho=>hf o (by simpa [aW] using bY iV ho)
 | slnil=>exact .slnil
 | sl u hl cu hr hz hc hu ih=>exact .sl u hl cu hr hz hc fun k v hk=>(hu k v hk).mono (fun o ho=>absurd ho (by omega)) fun b k h=>⟨h,rfl⟩
 | @pM n l b off len cap sz u hl cu hz hc hu ih=>
   refine .pM (sz:=sz) u (by rw [hl,bU]) cu ?_ (fun k v hk=> ?_) fun k v hk=> ?_
   · rw [xK]
     intro x hx
     obtain ⟨y,hy,rfl⟩:=List.mem_map.1 hx
     rw [wJ,List.length_map];exact ⟨(hz y hy).1,L' f (hz y hy).2⟩
   · rw [zo,List.getElem?_map] at hk
     obtain ⟨v',iV,rfl⟩:=Option.map_eq_some_iff.1 hk
     exact hc k v' iV
   · rw [zo,List.getElem?_map] at hk
     obtain ⟨v',iV,rfl⟩:=Option.map_eq_some_iff.1 hk
     exact ih k v' iV fun o ho=>hf o (by simpa [aW] using EA iV ho)
 | spare u hl cu hz hc hu ih=>exact .spare u hl cu hz hc fun k v hk=>(hu k v hk).mono (fun o ho=>absurd ho (by omega)) fun b k h=>⟨h,rfl⟩
 | @fn n g a b ca cb ha hb h1 h2 i1 i2=>
   refine .fn (by rw [bU];exact ha) (by rw [bU];exact hb) (fun k v c hk hc=> ?_) (fun k v c hk hc=> ?_)
   · rw [c8] at hk
     obtain ⟨v',iV,rfl⟩:=Option.map_eq_some_iff.1 hk
     exact i1 k v' c iV hc fun o ho=>hf o (by simp only [aW,List.mem_append];exact .inl (bY iV ho))
   · rw [c8] at hk
     obtain ⟨v',iV,rfl⟩:=Option.map_eq_some_iff.1 hk
     exact i2 k v' c iV hc fun o ho=>hf o (by simp only [aW,List.mem_append];exact .inr (bY iV ho))
 | ig=>exact .ig
 | jl _ ih=>exact .jl (ih fun o ho=>hf o (by simpa [aW] using ho))
 | gL=>exact .gL
 | agg hl _ ih=>
   refine .agg (by rw [bU];exact hl) fun k v c hk hc=> ?_
   rw [c8] at hk
   obtain ⟨v',iV,rfl⟩:=Option.map_eq_some_iff.1 hk
   exact ih k v' c iV hc fun o ho=>hf o (by simpa [aW] using bY iV ho)
 | mp h=>obtain ⟨h1,h2⟩:=hf _ (by simp [aW]) h;rw [←h2];exact .mp h1
 | ij=>exact .ij
 | aQ hl _ ih=>
   refine .aQ (by rw [bU];exact hl) fun k v c hk hc=> ?_
   rw [c8] at hk
   obtain ⟨v',iV,rfl⟩:=Option.map_eq_some_iff.1 hk
   exact ih k v' c iV hc fun o ho=>hf o (by simpa [aW] using bY iV ho)
 | bX h hl ha hp=>obtain ⟨h1,h2⟩:=hf _ (by simp [aW]) h;exact .bX h1 hl (by rw [h2];exact ha) hp
 | bp h=>obtain ⟨h1,h2⟩:=hf _ (by simp [aW]) h;rw [←h2];exact .bp h1
theorem aw.s0 {bs:Nat->Nat} {I:Nat->Nat->Prop} {w:World} {n:Nat} {v:V} {c:Value} (h:aw bs I w n v c) (hv:v.aE=true):c.oneCell'=true:=by
 cases h<;>first | rfl | (simp [V.aE] at hv)
end VL
namespace VL
open Go
structure Bw where
 jF:Nat
 st:Nat
 n:Nat
structure G where
 bs:Nat->Nat
 I:Nat->Nat->Prop
 db:Nat->Bw
structure Ctx where
 w0:World
 n0:Nat
 b0:Nat->Nat
 I0:Nat->Nat->Prop
 own:Nat->Prop
def Tok (db:Nat->Bw) (nt:Nat):V->Value->Prop
 | .sl l (.tok i sz),c=>i<nt/\0<sz/\(∀x∈l,x.cells.length=sz)/\ ∃a len cap,c= .slice a len cap/\
    (cap=len\/ ∃off,a=some ⟨(db i).jF,off,none⟩/\off+len*sz=(db i).st/\(cap - len)*sz<=(db i).n)
 | _,_=>True
structure VT (g:G) (w:World) (n nt:Nat) (v:V) (c:Value):Prop where
 rel:aw g.bs g.I w n v c
 tok:Tok g.db nt v c
def Hp (w:World) (b:Nat) (arr:Array Value) (T:TypeId) (ty:Option TypeId):Prop:= ∃fz:Nat × Nat,w.heap[b]? =some (.cells arr T fz)/\(fz=(0,0)\/(ty.isSome=true/\arr.size<=fz.1))
theorem Hp.of {w:World} {b:Nat} {arr:Array Value} {T:TypeId} {ty:Option TypeId} (h:w.heap[b]? =some (.cells arr T (0,0))):Hp w b arr T ty:=⟨_,h,.inl rfl⟩
theorem Hp.plain {w:World} {b:Nat} {arr:Array Value} {T:TypeId} (h:Hp w b arr T none):w.heap[b]? =some (.cells arr T (0,0)):=by
 obtain ⟨fz,h,h2⟩:=h
 rcases h2 with rfl | ⟨h2,_⟩
 · exact h
 · cases h2
theorem Hp.any {w:World} {b:Nat} {arr:Array Value} {T:TypeId} {ty:Option TypeId} (h:Hp w b arr T ty):Hp w b arr T (some 0):=by
 obtain ⟨fz,h,h2⟩:=h
 exact ⟨fz,h,h2.imp id fun h=>⟨rfl,h.2⟩⟩
theorem Hp.cell {w:World} {b:Nat} {arr:Array Value} {T:TypeId} {ty:Option TypeId} (h:Hp w b arr T ty) {k:Nat}:w.cell? ⟨b,k,none⟩=arr[k]? :=by
 obtain ⟨fz,h,_⟩:=h
 simp [World.cell?,h]
theorem Hp.to {w w':World} {b:Nat} {arr:Array Value} {T:TypeId} {ty:Option TypeId} (h:Hp w b arr T ty) (hb:w'.heap[b]? =w.heap[b]?):Hp w' b arr T ty:=by
 obtain ⟨fz,h1,h2⟩:=h
 exact ⟨fz,hb.trans h1,h2⟩
theorem Hp.uniq {w:World} {b:Nat} {a a':Array Value} {T T':TypeId} {ty NZ:Option TypeId} (h:Hp w b a T ty) (h':Hp w b a' T' NZ):a=a'/\T=T':=by
 obtain ⟨fz,h,_⟩:=h
 obtain ⟨Wo,h',_⟩:=h'
 rw [h] at h';cases h';exact ⟨rfl,rfl⟩
def fx (g:G) (w:World) (n nt b:Nat):af->Prop
 | .none=>True
 | .cells _ T cs=> ∃arr:Array Value,w.heap[b]? =some (.cells arr T (0,0))/\cs.length=arr.size/\
    ∀(k:Nat) v c,cs[k]? =some v->arr[k]? =some c->VT g w n nt v c/\c.oneCell'=true
 | .map es=> ∃(arr:Array MapEntry) (zb:Nat),w.heap[b]? =some (.map arr zb)/\es.length=arr.size/\
    ∀(k:Nat) e (c:MapEntry),es[k]? =some e->arr[k]? =some c->aw g.bs g.I w 0 e.1 c.key/\aw g.bs g.I w 0 e.2 c.val
 | .buf _ z l ty=>l=[]\/ ∃(arr:Array Value) (T:TypeId),Hp w b arr T ty/\(∀t,ty=some t->t=T)/\arr.size=l.length*z/\(∀x∈l,x.cells.length=z/\x.cells.all V.aE=true)/\
    ∀(k:Nat) v c,(l.flatMap V.cells)[k]? =some v->arr[k]? =some c->aw g.bs g.I w 0 v c/\c.oneCell'=true
structure a_ (c:Ctx) (g:G) (w:World) (ob:List af) (nt:Nat):Prop where
 os:w.os=c.w0.os
 tape:w.tape=c.w0.tape
 output:w.output=c.w0.output
 size:c.w0.heap.size<=w.heap.size
 jG: ∀b,b<c.w0.heap.size-> ¬c.own b->w.heap[b]? =c.w0.heap[b]?
 len:c.n0<=ob.length
 obj: ∀(o:Nat) x,ob[o]? =some x->fx g w ob.length nt (g.bs o) x
 lt: ∀(o:Nat) x,ob[o]? =some x->x.real=true->g.bs o<w.heap.size
 inj: ∀(o o':Nat) x x',ob[o]? =some x->ob[o']? =some x'->x.real=true->x'.real=true->g.bs o=g.bs o'->o=o'
 sH: ∀(o:Nat) x,o<c.n0->ob[o]? =some x->x.mv=false->g.bs o=c.b0 o
 new: ∀(o:Nat) x,ob[o]? =some x->x.real=true->c.w0.heap.size<=g.bs o\/c.own (g.bs o)
 i1: ∀b k,c.I0 b k->g.I b k
 i2: ∀b k,b<c.w0.heap.size-> ¬c.own b->g.I b k->c.I0 b k
 i3: ∀b k,g.I b k->b<w.heap.size
 i4: ∀(o:Nat) T cs k,ob[o]? =some (.cells true T cs)-> ¬g.I (g.bs o) k
 i5: ∀(o:Nat) x k,ob[o]? =some x->x.loose=true-> ¬g.I (g.bs o) k
 f1: ∀i,i<nt->0<(g.db i).n->(c.w0.heap.size<=(g.db i).jF\/c.own (g.db i).jF)/\(∃(arr:Array Value) (T:TypeId),w.heap[(g.db i).jF]? =some (.cells arr T (0,0))/\(g.db i).st+(g.db i).n<=arr.size)/\
  (∀k,(g.db i).st<=k-> ¬g.I (g.db i).jF k)/\(∀(o:Nat) x,ob[o]? =some x->x.real=true->g.bs o≠(g.db i).jF)
 f2: ∀i j,i<nt->j<nt->i≠j->0<(g.db i).n->0<(g.db j).n->(g.db i).jF≠(g.db j).jF
 i6: ∀b k,c.I0 b k->w.cell? ⟨b,k,none⟩=c.w0.cell? ⟨b,k,none⟩
def zp (g:G) (w:World):Prop:=(∀b l,tJ b=some l-> ∀(k:Nat) v,l[k]? =some v->w.cell? ⟨b,k,none⟩=some v/\g.I b k)/\
 ∀b,zk b=true-> ∃m,w.cell? ⟨b,0,none⟩=some (.int .i64 m)/\g.I b 0
structure fy (g:G) (w:World) (n nt:Nat) (tmps:Array Value) (t:List V):Prop where
 size:t.length=tmps.size
 rel: ∀(k:Nat) v c,t[k]? =some v->tmps[k]? =some c->VT g w n nt v c
 gl:zp g w
def Oo (g:G) (w:World) (n:Nat) (d:Deferred) (x:Fn × List V × List V):Prop:=
 ∃cap,d.target= .fn x.1 cap/\x.2.1.length=d.args.size/\x.2.2.length=cap.size/\
  (∀(k:Nat) v c,x.2.1[k]? =some v->d.args[k]? =some c->aw g.bs g.I w n v c)/\ ∀(k:Nat) v c,x.2.2[k]? =some v->cap[k]? =some c->aw g.bs g.I w n v c
inductive gI (g:G) (w:World) (n:Nat):List Deferred->List (Fn × List V × List V)->Prop
 | nil:gI g w n [] []
 | cons {d x ds xs}:Oo g w n d x->gI g w n ds xs->gI g w n (d::ds) (x::xs)
theorem zp.out {g g' G':G} {w w':World} {n nt:Nat} {bs:Nat->Nat} {own:Nat->Prop} {os:List af} (h:zp g w) (hw:a_ ⟨w,n,bs,g.I,own⟩ g' w' os nt) (hG:G'.I=g'.I):zp G' w':=⟨fun b l hb k v hk=>by
 obtain ⟨h1,h2⟩:=h.1 b l hb k v hk
 exact ⟨by rw [hw.i6 b k h2];exact h1,by rw [hG];exact hw.i1 b k h2⟩,fun b hb=>by
 obtain ⟨m,h1,h2⟩:=h.2 b hb
 exact ⟨m,by rw [hw.i6 b 0 h2];exact h1,by rw [hG];exact hw.i1 b 0 h2⟩⟩
structure cf (c:Ctx) (g:G) (w:World) (a:Act) (s:St):Prop where
 wi:a_ c g w s.eg s.nt
 ti:fy g w s.eg.length s.nt a.tmps s.t
 di:gI g w s.eg.length a.defers s.defers
structure Ext (g:G) (w:World) (n nt:Nat) (g':G) (w':World) (n' k8:Nat):Prop where
 hn:n<=n'
 Bx:nt<=k8
 ke: ∀o,o<n->g'.bs o=g.bs o
 hI: ∀b k,g.I b k->g'.I b k/\w'.cell? ⟨b,k,none⟩=w.cell? ⟨b,k,none⟩
 QS: ∀i,i<nt->g'.db i=g.db i
theorem Ext.qW {g g':G} {w w':World} {n nt n' k8:Nat} (e:Ext g w n nt g' w' n' k8) {v:V} {c:Value} (h:aw g.bs g.I w 0 v c):aw g'.bs g'.I w' 0 v c:=
 h.mono (fun o ho=>absurd ho (by omega)) e.hI
theorem Ext.EB {g g':G} {w w':World} {n nt n' k8:Nat} (e:Ext g w n nt g' w' n' k8) {v:V} {c:Value} (h:aw g.bs g.I w n v c):aw g'.bs g'.I w' n' v c:=
 h.mono (fun o ho=>⟨by have:=e.hn;omega,e.ke o ho⟩) e.hI
theorem Tok.ext {db Gj:Nat->Bw} {nt k8:Nat} (hn:nt<=k8) (hf: ∀i,i<nt->Gj i=db i) {v:V} {c:Value} (h:Tok db nt v c):Tok Gj k8 v c:=by
 unfold Tok at h ⊢
 split
 · simp only at h
   obtain ⟨h1,h2,h3,a,len,cap,hc,h4⟩:=h
   exact ⟨by omega,h2,h3,a,len,cap,hc,by rw [hf _ h1];exact h4⟩
 · trivial
theorem Ext.vt {g g':G} {w w':World} {n nt n' k8:Nat} (e:Ext g w n nt g' w' n' k8) {v:V} {c:Value} (h:VT g w n nt v c):VT g' w' n' k8 v c:=
 ⟨e.EB h.rel,h.tok.ext e.Bx e.QS⟩
theorem Ext.tJ {g g':G} {w w':World} {n nt n' k8:Nat} (e:Ext g w n nt g' w' n' k8) (h:zp g w):zp g' w':=⟨fun b l hb k v hk=>by
 obtain ⟨h1,h2⟩:=h.1 b l hb k v hk
 obtain ⟨h3,h4⟩:=e.hI b k h2
 exact ⟨by rw [h4];exact h1,h3⟩,fun b hb=>by
 obtain ⟨m,h1,h2⟩:=h.2 b hb
 obtain ⟨h3,h4⟩:=e.hI b 0 h2
 exact ⟨m,by rw [h4];exact h1,h3⟩⟩
theorem Ext.kf {g g':G} {w w':World} {n nt n' k8:Nat} (e:Ext g w n nt g' w' n' k8) {a:Array Value} {t:List V} (h:fy g w n nt a t):fy g' w' n' k8 a t:=
 ⟨h.size,fun k v c hv hc=>e.vt (h.rel k v c hv hc),e.tJ h.gl⟩
theorem Ext.kg {g g':G} {w w':World} {n nt n' k8:Nat} (e:Ext g w n nt g' w' n' k8) {ds:List Deferred} {xs:List (Fn × List V × List V)} (h:gI g w n ds xs):gI g' w' n' ds xs:=by
 induction h with
 | nil=>exact .nil
 | cons h _ ih=>
   obtain ⟨cap,h1,h2,h3,h4,h5⟩:=h
   exact .cons ⟨cap,h1,h2,h3,fun k v c hv hc=>e.EB (h4 k v c hv hc),fun k v c hv hc=>e.EB (h5 k v c hv hc)⟩ ih
theorem Ext.By {g g':G} {w w':World} {n nt n' k8 b:Nat} (e:Ext g w n nt g' w' n' k8) {x:af} (h:fx g w n nt b x) (hb:w'.heap[b]? =w.heap[b]?):fx g' w' n' k8 b x:=by
 cases x with
 | none=>trivial
 | cells wr T cs=>
   obtain ⟨arr,h1,h2,h3⟩:=h
   exact ⟨arr,by rw [hb];exact h1,h2,fun k v c hv hc=>⟨e.vt (h3 k v c hv hc).1,(h3 k v c hv hc).2⟩⟩
 | map es=>
   obtain ⟨arr,zb,h1,h2,h3⟩:=h
   exact ⟨arr,zb,by rw [hb];exact h1,h2,fun k v c hv hc=>⟨e.qW (h3 k v c hv hc).1,e.qW (h3 k v c hv hc).2⟩⟩
 | buf m z l=>
   rcases h with h | ⟨arr,T,h1,pZ,h2,h3,h4⟩
   · exact .inl h
   · exact .inr ⟨arr,T,h1.to hb,pZ,h2,h3,fun k v c hv hc=>⟨e.qW (h4 k v c hv hc).1,(h4 k v c hv hc).2⟩⟩
theorem Ext.tQ {g g':G} {w w':World} {n nt n' k8 b:Nat} (e:Ext g w n nt g' w' n' k8) {x:af} (h:fx g w n nt b x) (hb:x.real=true->w'.heap[b]? =w.heap[b]?):fx g' w' n' k8 b x:=by
 cases x with
 | none=>trivial
 | cells wr T cs=>exact e.By h (hb rfl)
 | map es=>exact e.By h (hb rfl)
 | buf m z l=>
   by_cases hl:l=[]
   · exact .inl hl
   · exact e.By h (hb (by simp [af.real,hl]))
theorem bc (w:World) (o:Obj) {k:Nat} (h:k<w.heap.size):(w.alloc o).heap[k]? =w.heap[k]? :=by
 show (w.heap.push o)[k]? =_
 rw [Array.getElem?_push,if_neg (by omega)]
theorem heap_alloc_new (w:World) (o:Obj):(w.alloc o).heap[w.heap.size]? =some o:=by
 show (w.heap.push o)[w.heap.size]? =_
 simp
theorem lZ {w w':World} {b k:Nat} (h:w'.heap[b]? =w.heap[b]?):w'.cell? ⟨b,k,none⟩=w.cell? ⟨b,k,none⟩:=by simp [World.cell?,h]
theorem Tok.fA {db:Nat->Bw} {nt:Nat} {v:V} {c:Value} (h:v.cB=true):Tok db nt v c:=by
 unfold Tok;split
 · simp [V.cB] at h
 · trivial
theorem a_.gN {c:Ctx} {g:G} {w:World} {ob:List af} {nt:Nat} (h:a_ c g w ob nt) (b k:Nat) (hb:w.heap.size<=b): ¬g.I b k:=fun hi=>by
 have:=h.i3 b k hi;omega
theorem Ext.drew (g:G) (w:World) (n nt:Nat):Ext g w n nt g w.drew n nt:=⟨Nat.le_refl _,Nat.le_refl _,fun _ _=>rfl,fun _ _ h=>⟨h,rfl⟩,fun _ _=>rfl⟩
theorem a_.drew {c:Ctx} {g:G} {w:World} {ob:List af} {nt:Nat} (h:a_ c g w ob nt):a_ c g w.drew ob nt:=
 ⟨h.os,h.tape,h.output,h.size,h.jG,h.len,fun o x hx=>(Ext.drew g w ob.length nt).By (h.obj o x hx) rfl,
  h.lt,h.inj,h.sH,h.new,h.i1,h.i2,h.i3,h.i4,h.i5,h.f1,h.f2,h.i6⟩
theorem Ext.alloc {c:Ctx} {g:G} {w:World} {ob:List af} {nt:Nat} (h:a_ c g w ob nt) (o:Obj):
 Ext g w ob.length nt {g with bs:=fun i=>if i=ob.length then w.heap.size else g.bs i} (w.alloc o) (ob.length+1) nt:=
 ⟨by omega,Nat.le_refl _,fun i hi=>by simp;intro e;omega,fun b k hi=>⟨hi,lZ (bc w o (h.i3 b k hi))⟩,fun _ _=>rfl⟩
theorem eH {α:Type} {ob:List α} {x y:α} {i:Nat} (hy:(ob++[x])[i]? =some y):(i<ob.length/\ob[i]? =some y)\/(i=ob.length/\y=x):=by
 rw [List.getElem?_append] at hy
 split at hy
 · exact .inl ⟨by assumption,hy⟩
 · have:i - ob.length=0:=by
    rcases Nat.eq_zero_or_pos (i - ob.length) with h | h
    · exact h
    · rw [List.getElem?_eq_none (by simp;omega)] at hy;cases hy
   rw [this] at hy;simp at hy;exact .inr ⟨by omega,hy.symm⟩
theorem a_.alloc {c:Ctx} {g:G} {w:World} {ob:List af} {nt:Nat} (h:a_ c g w ob nt) (o:Obj) (x:af)
 (hx:fx {g with bs:=fun i=>if i=ob.length then w.heap.size else g.bs i} (w.alloc o) (ob.length+1) nt w.heap.size x):
 a_ c {g with bs:=fun i=>if i=ob.length then w.heap.size else g.bs i} (w.alloc o) (ob++[x]) nt:=by
 have he:=Ext.alloc h o
 have aD:=fun (i:Nat) (y:af)=>eH (ob:=ob) (x:=x) (y:=y) (i:=i)
 have hlen:=h.len
 refine ⟨h.os,h.tape,h.output,?_,?_,?_,?_,?_,?_,?_,?_,h.i1,h.i2,?_,?_,?_,?_,h.f2,fun b k hI=>by rw [(he.hI b k (h.i1 b k hI)).2];exact h.i6 b k hI⟩
 · have:=h.size;simp;omega
 · intro b hb hw;rw [bc _ _ (by have:=h.size;omega)];exact h.jG b hb hw
 · simp;omega
 · intro i y hy
   rw [List.length_append,List.length_singleton]
   rcases aD i y hy with ⟨hi,hy⟩ | ⟨rfl,rfl⟩
   · have h1:(if i=ob.length then w.heap.size else g.bs i)=g.bs i:=by rw [if_neg (by omega)]
     show fx _ _ _ _ (if i=ob.length then w.heap.size else g.bs i) y
     rw [h1]
     exact he.tQ (h.obj i _ hy) fun hr=>bc _ _ (h.lt i _ hy hr)
   · show fx _ _ _ _ (if ob.length=ob.length then w.heap.size else g.bs ob.length) y
     rw [if_pos rfl];exact hx
 · intro i y hy bZ
   show (if i=ob.length then w.heap.size else g.bs i)<_
   rcases aD i y hy with ⟨hi,hy⟩ | ⟨rfl,rfl⟩
   · rw [if_neg (by omega)];have:=h.lt i y hy bZ;simp;omega
   · rw [if_pos rfl];simp
 · intro i j y z hy hz wK Jb
   show (if i=ob.length then w.heap.size else g.bs i)=(if j=ob.length then w.heap.size else g.bs j)->i=j
   rcases aD i y hy with ⟨hi,Dj⟩ | ⟨hi,Dj⟩<;>rcases aD j z hz with ⟨hj,F3⟩ | ⟨hj,F3⟩
   · rw [if_neg (by omega),if_neg (by omega)];exact h.inj i j y z Dj F3 wK Jb
   · rw [if_neg (by omega),if_pos hj];have:=h.lt i y Dj wK;intro;omega
   · rw [if_neg (c:=j=ob.length) (by omega),if_pos hi];have:=h.lt j z F3 Jb;intro;omega
   · intro;omega
 · intro i y hi hy hm
   show (if i=ob.length then w.heap.size else g.bs i)=_
   rcases aD i y hy with ⟨_,Dj⟩ | ⟨mT,_⟩
   · rw [if_neg (by omega)];exact h.sH i y hi Dj hm
   · omega
 · intro i y hy bZ
   show _<=(if i=ob.length then w.heap.size else g.bs i)\/c.own (if i=ob.length then w.heap.size else g.bs i)
   rcases aD i y hy with ⟨mT,hy⟩ | ⟨rfl,rfl⟩
   · rw [if_neg (by omega)];exact h.new i y hy bZ
   · rw [if_pos rfl];exact .inl h.size
 · intro b k hi;have:=h.i3 b k hi;simp;omega
 · intro i T cs k hy
   show ¬g.I (if i=ob.length then w.heap.size else g.bs i) k
   rcases aD i _ hy with ⟨hi,hy⟩ | ⟨rfl,rfl⟩
   · rw [if_neg (by omega)];exact h.i4 i T cs k hy
   · rw [if_pos rfl];exact h.gN _ _ (Nat.le_refl _)
 · intro i y k hy hl
   show ¬g.I (if i=ob.length then w.heap.size else g.bs i) k
   rcases aD i _ hy with ⟨hi,hy⟩ | ⟨rfl,rfl⟩
   · rw [if_neg (by omega)];exact h.i5 i y k hy hl
   · rw [if_pos rfl];exact h.gN _ _ (Nat.le_refl _)
 · intro i hi hn
   obtain ⟨h1,⟨arr,T,h2,zc⟩,h3,h4⟩:=h.f1 i hi hn
   have aJ:(g.db i).jF<w.heap.size:=by
    rcases Nat.lt_or_ge (g.db i).jF w.heap.size with h | h
    · exact h
    · rw [Array.getElem?_eq_none h] at h2;cases h2
   refine ⟨h1,⟨arr,T,by rw [bc _ _ aJ];exact h2,zc⟩,h3,fun j y hy bZ=> ?_⟩
   show (if j=ob.length then w.heap.size else g.bs j)≠_
   rcases aD j y hy with ⟨hj,hy⟩ | ⟨rfl,rfl⟩
   · rw [if_neg (by omega)];exact h4 j y hy bZ
   · rw [if_pos rfl]
     have tR:(g.db i).jF<w.heap.size:=aJ
     intro e
     have e':w.heap.size=(g.db i).jF:=e
     omega
def G.data (g:G) (b m:Nat):G:= {g with I:=fun x k=>g.I x k\/(x=b/\k<m)}
theorem Ext.data {c:Ctx} {g:G} {w:World} {ob:List af} {nt:Nat} (h:a_ c g w ob nt) (o:Obj) (m:Nat):
 Ext g w ob.length nt (g.data w.heap.size m) (w.alloc o) ob.length nt:=
 ⟨Nat.le_refl _,Nat.le_refl _,fun _ _=>rfl,fun b k hi=>⟨.inl hi,lZ (bc w o (h.i3 b k hi))⟩,fun _ _=>rfl⟩
theorem a_.data {c:Ctx} {g:G} {w:World} {ob:List af} {nt:Nat} (h:a_ c g w ob nt) (o:Obj) (m:Nat):
 a_ c (g.data w.heap.size m) (w.alloc o) ob nt:=by
 have he:=Ext.data h o m
 refine ⟨h.os,h.tape,h.output,?_,?_,h.len,?_,?_,h.inj,h.sH,h.new,fun b k hi=> .inl (h.i1 b k hi),?_,?_,?_,?_,?_,h.f2,fun b k hI=>by rw [(he.hI b k (h.i1 b k hI)).2];exact h.i6 b k hI⟩
 · have:=h.size;simp;omega
 · intro b hb hw;rw [bc _ _ (by have:=h.size;omega)];exact h.jG b hb hw
 · intro i y hy
   exact he.tQ (h.obj i _ hy) fun hr=>bc _ _ (h.lt i _ hy hr)
 · intro i y hy bZ;have:=h.lt i y hy bZ;simp [G.data];omega
 · rintro b k hb hw (hi | ⟨rfl,_⟩)
   · exact h.i2 b k hb hw hi
   · have:=h.size;omega
 · rintro b k (hi | ⟨rfl,_⟩)
   · have:=h.i3 b k hi;simp;omega
   · simp
 · rintro i T cs k hy (hi | ⟨e,_⟩)
   · exact h.i4 i T cs k hy hi
   · have:=h.lt i _ hy rfl;simp [G.data] at e;omega
 · rintro i y k hy hl (hi | ⟨e,_⟩)
   · exact h.i5 i y k hy hl hi
   · have:=h.lt i _ hy (lU hl);simp [G.data] at e;omega
 · intro i hi hn
   obtain ⟨h1,⟨arr,T,h2,zc⟩,h3,h4⟩:=h.f1 i hi hn
   have aJ:(g.db i).jF<w.heap.size:=by
    rcases Nat.lt_or_ge (g.db i).jF w.heap.size with h | h
    · exact h
    · rw [Array.getElem?_eq_none h] at h2;cases h2
   refine ⟨h1,⟨arr,T,by show (w.alloc o).heap[(g.db i).jF]? =_;rw [bc _ _ aJ];exact h2,zc⟩,?_,h4⟩
   rintro k hk (hI | ⟨e,_⟩)
   · exact h3 k hk hI
   · have:(g.db i).jF=w.heap.size:=e
     omega
end VL
namespace VL
open Go
theorem aY {α:Type} {l:List α} {i j:Nat} {x y:α} (h:(l.set i x)[j]? =some y):(i=j/\y=x)\/(i≠j/\l[j]? =some y):=by
 rw [List.getElem?_set] at h
 split at h
 · split at h
   · simp at h;exact .inl ⟨by assumption,h.symm⟩
   · cases h
 · exact .inr ⟨by assumption,h⟩
structure Gk (w w':World) (b:Nat):Prop where
 os:w'.os=w.os
 tape:w'.tape=w.tape
 output:w'.output=w.output
 size:w'.heap.size=w.heap.size
 other: ∀k,k≠b->w'.heap[k]? =w.heap[k]?
theorem Ext.only {g:G} {w w':World} {n nt b:Nat} (h:Gk w w' b) (hI: ∀k, ¬g.I b k):Ext g w n nt g w' n nt:=
 ⟨Nat.le_refl _,Nat.le_refl _,fun _ _=>rfl,fun x k hx=>⟨hx,lZ (h.other x fun e=>hI k (e▸hx))⟩,fun _ _=>rfl⟩
theorem a_.put {c:Ctx} {g:G} {w w':World} {ob:List af} {nt:Nat} (h:a_ c g w ob nt) {i:Nat} {x x':af} (hi:ob[i]? =some x) (bZ:x.real=true) (hI: ∀k, ¬g.I (g.bs i) k) (ho:Gk w w' (g.bs i))
 (hx:fx g w' ob.length nt (g.bs i) x') (hm:x'.mv=false->x.mv=false):a_ c g w' (ob.set i x') nt:=by
 have he:Ext g w ob.length nt g w' ob.length nt:=Ext.only ho hI
 have aJ:=h.lt i x hi bZ
 refine ⟨ho.os.trans h.os,ho.tape.trans h.tape,ho.output.trans h.output,by rw [ho.size];exact h.size,?_,?_,?_,?_,?_,?_,?_,h.i1,h.i2,?_,?_,?_,?_,h.f2,fun b k hI=>by rw [(he.hI b k (h.i1 b k hI)).2];exact h.i6 b k hI⟩
 · intro b hb hw
   rw [ho.other b fun e=> ?_]
   · exact h.jG b hb hw
   · rcases h.new i x hi bZ with h1 | h1
     · omega
     · exact hw (e▸h1)
 · simp [h.len]
 · intro j y hy
   rw [List.length_set]
   rcases aY hy with ⟨rfl,rfl⟩ | ⟨pe,hy⟩
   · exact hx
   · exact he.tQ (h.obj j _ hy) fun hr=>ho.other _ fun e=>pe (h.inj i j _ _ hi hy bZ hr e.symm)
 · intro j y hy hn
   rw [ho.size]
   rcases aY hy with ⟨rfl,rfl⟩ | ⟨pe,hy⟩
   · exact aJ
   · exact h.lt _ _ hy hn
 · intro j k y z hy hz wK Jb e
   rcases aY hy with ⟨rfl,rfl⟩ | ⟨pe,hy⟩<;>rcases aY hz with ⟨xL,F4⟩ | ⟨kq,hz⟩
   · exact xL
   · exact h.inj _ _ _ _ hi hz bZ Jb e
   · subst xL;exact h.inj _ _ _ _ hy hi wK bZ e
   · exact h.inj _ _ _ _ hy hz wK Jb e
 · intro j y hj hy Jc
   rcases aY hy with ⟨rfl,rfl⟩ | ⟨pe,hy⟩
   · exact h.sH _ _ hj hi (hm Jc)
   · exact h.sH _ _ hj hy Jc
 · intro j y hy hn
   rcases aY hy with ⟨rfl,rfl⟩ | ⟨pe,hy⟩
   · exact h.new _ _ hi bZ
   · exact h.new _ _ hy hn
 · intro b k hI;rw [ho.size];exact h.i3 b k hI
 · intro j U ds k hy
   rcases aY hy with ⟨rfl,hy⟩ | ⟨pe,hy⟩
   · exact hI k
   · exact h.i4 _ _ _ k hy
 · intro j y k hy hl
   rcases aY hy with ⟨rfl,Dj⟩ | ⟨pe,hy⟩
   · exact hI k
   · exact h.i5 _ _ k hy hl
 · intro j hj hn
   obtain ⟨h1,⟨Gl,U,h2,zc⟩,h3,h4⟩:=h.f1 j hj hn
   refine ⟨h1,⟨Gl,U,by rw [ho.other];exact h2;exact fun e=>h4 i _ hi bZ e.symm,zc⟩,h3,fun k y hy wK=> ?_⟩
   rcases aY hy with ⟨rfl,hy⟩ | ⟨pe,hy⟩
   · exact h4 _ _ hi bZ
   · exact h4 _ _ hy wK
theorem p0 (w:World) (b:Nat) (arr:Array Value):Gk w (w.setRow b arr) b:=⟨rfl,rfl,rfl,by simp,fun k hk=>setRow_other _ _ _ _ hk⟩
theorem Ext.store {c:Ctx} {g:G} {w:World} {ob:List af} {nt:Nat} (h:a_ c g w ob nt) {i:Nat} {T:TypeId} {cs:List V} (hi:ob[i]? =some (.cells true T cs)) (dP:Array Value):
 Ext g w ob.length nt g (w.setRow (g.bs i) dP) ob.length nt:=Ext.only (p0 w _ dP) fun k=>h.i4 i T cs k hi
theorem a_.store {c:Ctx} {g:G} {w:World} {ob:List af} {nt:Nat} (h:a_ c g w ob nt) {i:Nat} {T:TypeId} {cs tS:List V} (hi:ob[i]? =some (.cells true T cs)) (arr dP:Array Value)
 (hh:w.heap[g.bs i]? =some (.cells arr T (0,0))) (hl:tS.length=dP.size)
 (hr: ∀(k:Nat) v c,tS[k]? =some v->dP[k]? =some c->VT g w ob.length nt v c/\c.oneCell'=true):
 a_ c g (w.setRow (g.bs i) dP) (ob.set i (.cells true T tS)) nt:=by
 have he:=Ext.store h hi dP
 exact h.put hi rfl (fun k=>h.i4 i T cs k hi) (p0 w _ dP) ⟨dP,setRow_heap _ _ _ _ _ _ hh,hl,fun k v c hv hc=>⟨he.vt (hr k v c hv hc).1,(hr k v c hv hc).2⟩⟩ fun _=>rfl
theorem Ext.freeze {c:Ctx} {g:G} {w:World} {ob:List af} {nt:Nat} (_h:a_ c g w ob nt) (b m:Nat):
 Ext g w ob.length nt (g.data b m) w ob.length nt:=
 ⟨Nat.le_refl _,Nat.le_refl _,fun _ _=>rfl,fun _ _ hI=>⟨.inl hI,rfl⟩,fun _ _=>rfl⟩
theorem a_.freeze {c:Ctx} {g:G} {w:World} {ob:List af} {nt:Nat} (h:a_ c g w ob nt) {i:Nat} {x x':af} (hi:ob[i]? =some x) (bZ:x.real=true) (m:Nat)
 (hx:fx (g.data (g.bs i) m) w ob.length nt (g.bs i) x') (hm:x'.mv=false->x.mv=false) (h4: ∀T cs,x'≠ .cells true T cs) (h5:x'.loose=false):
 a_ c (g.data (g.bs i) m) w (ob.set i x') nt:=by
 have he:=Ext.freeze h (g.bs i) m
 refine ⟨h.os,h.tape,h.output,h.size,h.jG,?_,?_,?_,?_,?_,?_,fun b k hI=> .inl (h.i1 b k hI),?_,?_,?_,?_,?_,h.f2,fun b k hI=>by rw [(he.hI b k (h.i1 b k hI)).2];exact h.i6 b k hI⟩
 · simp [h.len]
 · intro j y hy
   rw [List.length_set]
   rcases aY hy with ⟨rfl,rfl⟩ | ⟨pe,hy⟩
   · exact hx
   · exact he.By (h.obj j _ hy) rfl
 · intro j y hy hn
   rcases aY hy with ⟨rfl,rfl⟩ | ⟨pe,hy⟩
   · exact h.lt _ _ hi bZ
   · exact h.lt _ _ hy hn
 · intro j k y z hy hz wK Jb e
   rcases aY hy with ⟨rfl,rfl⟩ | ⟨pe,hy⟩<;>rcases aY hz with ⟨xL,F4⟩ | ⟨kq,hz⟩
   · exact xL
   · exact h.inj _ _ _ _ hi hz bZ Jb e
   · subst xL;exact h.inj _ _ _ _ hy hi wK bZ e
   · exact h.inj _ _ _ _ hy hz wK Jb e
 · intro j y hj hy Jc
   rcases aY hy with ⟨rfl,rfl⟩ | ⟨pe,hy⟩
   · exact h.sH _ _ hj hi (hm Jc)
   · exact h.sH _ _ hj hy Jc
 · intro j y hy hn
   rcases aY hy with ⟨rfl,rfl⟩ | ⟨pe,hy⟩
   · exact h.new _ _ hi bZ
   · exact h.new _ _ hy hn
 · rintro b k hb hw (hI | ⟨rfl,_⟩)
   · exact h.i2 b k hb hw hI
   · rcases h.new i _ hi bZ with h1 | h1
     · omega
     · exact absurd h1 hw
 · rintro b k (hI | ⟨rfl,_⟩)
   · exact h.i3 b k hI
   · exact h.lt i _ hi bZ
 · rintro j U ds k hy hI
   rcases aY hy with ⟨rfl,Dj⟩ | ⟨pe,hy⟩
   · exact h4 _ _ Dj.symm
   · rcases hI with hI | ⟨e,_⟩
     · exact h.i4 _ _ _ k hy hI
     · exact pe (h.inj i j _ _ hi hy bZ rfl e.symm)
 · rintro j y k hy hl hI
   rcases aY hy with ⟨rfl,rfl⟩ | ⟨pe,hy⟩
   · rw [h5] at hl;cases hl
   · rcases hI with hI | ⟨e,_⟩
     · exact h.i5 _ _ k hy hl hI
     · exact pe (h.inj i j _ _ hi hy bZ (lU hl) e.symm)
 · intro j hj hn
   obtain ⟨h1,h2,h3,h4⟩:=h.f1 j hj hn
   refine ⟨h1,h2,?_,fun k y hy wK=> ?_⟩
   · rintro k hk (hI | ⟨e,_⟩)
     · exact h3 k hk hI
     · exact h4 i _ hi bZ e.symm
   · rcases aY hy with ⟨rfl,hy⟩ | ⟨pe,hy⟩
     · exact h4 _ _ hi bZ
     · exact h4 _ _ hy wK
def V.free (i:Nat) (v:V):Prop:= ∀l sz,v≠ .sl l (.tok i sz)
theorem tT (i:Nat) (v:V):V.free i (V.strip i v):=by
 intro l sz e
 cases v with
 | sl l' r=>
   cases r with
   | tok j s=>
     simp only [V.strip] at e
     cases hb:Nat.beq j i<;>rw [hb] at e
     · simp at e
       obtain ⟨_,rfl,_⟩:=e
       simp at hb
     · simp at e
   | no=>simp [V.strip] at e
   | ex=>simp [V.strip] at e
 | _=>simp [V.strip] at e
theorem aw.room {bs:Nat->Nat} {I:Nat->Nat->Prop} {w:World} {n:Nat} {l:List V} {r:Room} {c:Value} (h:aw bs I w n (.sl l r) c) (r':Room) (hr:r'= .ex->r= .ex):aw bs I w n (.sl l r') c:=by
 cases h with
 | slnil=>exact .slnil
 | sl u hl cu EC hz hc hu=>exact .sl u hl cu (fun e=>EC (hr e)) hz hc hu
theorem aw.strip {bs:Nat->Nat} {I:Nat->Nat->Prop} {w:World} {n:Nat} {v:V} {c:Value} (i:Nat) (h:aw bs I w n v c):aw bs I w n (V.strip i v) c:=by
 unfold V.strip
 split
 · split
   · exact h.room _ (by simp)
   · exact h
 · exact h
theorem aw.bj {bs:Nat->Nat} {I:Nat->Nat->Prop} {w:World} {n:Nat} {v:V} {c:Value} (h:aw bs I w n v c):aw bs I w n (V.bj v) c:=by
 unfold V.bj
 split
 · exact h.room _ (by simp)
 · exact h
theorem bB (v:V):(V.bj v).cB=true:=by
 unfold V.bj;split
 · rfl
 · rename_i h
   cases v with
   | sl l r=>cases r with
     | tok i s=>exact absurd rfl (h l i s)
     | _=>rfl
   | _=>rfl
theorem Tok.db {db Gj:Nat->Bw} {nt i:Nat} {v:V} {c:Value} (h:Tok db nt v c) (hv:V.free i v) (hf: ∀j,j≠i->Gj j=db j):Tok Gj nt v c:=by
 unfold Tok at h ⊢
 split
 · rename_i l j sz
   simp only at h
   obtain ⟨h1,h2,h3,a,len,cap,hc,h4⟩:=h
   exact ⟨h1,h2,h3,a,len,cap,hc,by rw [hf j fun e=>hv l sz (by rw [e])];exact h4⟩
 · trivial
theorem Tok.strip {db:Nat->Bw} {nt i:Nat} {v:V} {c:Value} (h:Tok db nt v c):Tok db nt (V.strip i v) c:=by
 cases v with
 | sl l r=>
   cases r with
   | tok j s=>
     simp only [V.strip]
     split
     · trivial
     · exact h
   | _=>trivial
 | _=>trivial
theorem VT.strip {g:G} {w:World} {n nt:Nat} {v:V} {c:Value} (i:Nat) (h:VT g w n nt v c):VT g w n nt (V.strip i v) c:=⟨h.rel.strip i,h.tok.strip⟩
theorem VT.bj {g:G} {w:World} {n nt:Nat} {v:V} {c:Value} (h:VT g w n nt v c):VT g w n nt (V.bj v) c:=⟨h.rel.bj,.fA (bB v)⟩
def dI (i:Nat):af->af
 | .cells w T cs=> .cells w T (cs.map (V.strip i))
 | o=>o
theorem iq {i:Nat} {x:af} (h:(dI i x).real=true):x.real=true:=by
 cases x<;>exact h
theorem ED {i:Nat} {x:af} (h:(dI i x).mv=false):x.mv=false:=by
 cases x<;>exact h
theorem xM {i:Nat} {x:af} (h:(dI i x).loose=true):x.loose=true:=by
 cases x<;>exact h
theorem a_.kJ {c:Ctx} {g:G} {w:World} {ob:List af} {nt:Nat} (h:a_ c g w ob nt) (i:Nat):a_ c g w (ob.map (dI i)) nt:=by
 have aD: ∀(j:Nat) y,(ob.map (dI i))[j]? =some y-> ∃x,ob[j]? =some x/\dI i x=y:=fun j y hy=>by
  rw [List.getElem?_map] at hy
  obtain ⟨x,hx,e⟩:=Option.map_eq_some_iff.1 hy
  exact ⟨x,hx,e⟩
 refine ⟨h.os,h.tape,h.output,h.size,h.jG,by simp [h.len],?_,?_,?_,?_,?_,h.i1,h.i2,h.i3,?_,?_,?_,h.f2,h.i6⟩
 · intro j y hy
   obtain ⟨x,hx,rfl⟩:=aD j y hy
   rw [List.length_map]
   have:=h.obj j x hx
   cases x with
   | none=>trivial
   | cells wr T cs=>
     obtain ⟨arr,h1,h2,h3⟩:=this
     refine ⟨arr,h1,by simp [h2],fun k v c hv hc=> ?_⟩
     rw [List.getElem?_map] at hv
     obtain ⟨u,hu,rfl⟩:=Option.map_eq_some_iff.1 hv
     exact ⟨(h3 k u c hu hc).1.strip i,(h3 k u c hu hc).2⟩
   | map es=>exact this
   | buf m z l=>exact this
 · intro j y hy hn
   obtain ⟨x,hx,rfl⟩:=aD j y hy
   exact h.lt j x hx (iq hn)
 · intro j k y z hy hz wK Jb
   obtain ⟨x,hx,rfl⟩:=aD j y hy
   obtain ⟨x',p5,rfl⟩:=aD k z hz
   exact h.inj j k x x' hx p5 (iq wK) (iq Jb)
 · intro j y hj hy hm
   obtain ⟨x,hx,rfl⟩:=aD j y hy
   exact h.sH j x hj hx (ED hm)
 · intro j y hy hn
   obtain ⟨x,hx,rfl⟩:=aD j y hy
   exact h.new j x hx (iq hn)
 · intro j T cs k hy
   obtain ⟨x,hx,e⟩:=aD j _ hy
   cases x with
   | cells wr U ds=>simp [dI] at e;obtain ⟨rfl,_,_⟩:=e;exact h.i4 j _ _ k hx
   | _=>simp [dI] at e
 · intro j y k hy hl
   obtain ⟨x,hx,rfl⟩:=aD j _ hy
   exact h.i5 j _ k hx (xM hl)
 · intro j hj hn
   obtain ⟨h1,h2,h3,h4⟩:=h.f1 j hj hn
   refine ⟨h1,h2,h3,fun k y hy wK=> ?_⟩
   obtain ⟨x,hx,rfl⟩:=aD k y hy
   exact h4 k x hx (iq wK)
def Dk (i:Nat) (ob:List af):Prop:= ∀(o:Nat) wr T cs,ob[o]? =some (.cells wr T cs)-> ∀v∈cs,V.free i v
theorem zq (i:Nat) (ob:List af):Dk i (ob.map (dI i)):=by
 intro o wr T cs h v hv
 rw [List.getElem?_map] at h
 obtain ⟨x,hx,e⟩:=Option.map_eq_some_iff.1 h
 cases x with
 | cells _ _ ds=>
   simp [dI] at e
   obtain ⟨_,_,rfl⟩:=e
   obtain ⟨u,_,rfl⟩:=List.mem_map.1 hv
   exact tT i u
 | _=>simp [dI] at e
def G.bV (g:G) (i:Nat) (f:Bw):G:= {g with db:=fun j=>if j=i then f else g.db j}
theorem VT.bV {g:G} {w:World} {n nt:Nat} {v:V} {c:Value} {i:Nat} (h:VT g w n nt v c) (hv:V.free i v) (f:Bw):VT (g.bV i f) w n nt v c:=
 ⟨h.rel,h.tok.db hv fun j hj=>by simp [G.bV,hj]⟩
theorem a_.bV {c:Ctx} {g:G} {w:World} {ob:List af} {nt:Nat} (h:a_ c g w ob nt) {i:Nat} (hf:Dk i ob) (f:Bw)
 (h1:0<f.n->(c.w0.heap.size<=f.jF\/c.own f.jF)/\(∃(arr:Array Value) (T:TypeId),w.heap[f.jF]? =some (.cells arr T (0,0))/\f.st+f.n<=arr.size)/\
   (∀k,f.st<=k-> ¬g.I f.jF k)/\(∀(o:Nat) x,ob[o]? =some x->x.real=true->g.bs o≠f.jF)/\ ∀j,j<nt->j≠i->0<(g.db j).n->(g.db j).jF≠f.jF):
 a_ c (g.bV i f) w ob nt:=by
 refine ⟨h.os,h.tape,h.output,h.size,h.jG,h.len,?_,h.lt,h.inj,h.sH,h.new,h.i1,h.i2,h.i3,h.i4,h.i5,?_,?_,h.i6⟩
 · intro j y hy
   have:=h.obj j y hy
   cases y with
   | none=>trivial
   | cells wr T cs=>
     obtain ⟨arr,g1,g2,g3⟩:=this
     exact ⟨arr,g1,g2,fun k v c hv hc=>⟨(g3 k v c hv hc).1.bV (hf j _ _ _ hy v (List.mem_of_getElem? hv)) f,(g3 k v c hv hc).2⟩⟩
   | map es=>exact this
   | buf m z l=>exact this
 · intro j hj hn
   by_cases e:j=i
   · subst e
     simp only [G.bV,if_true] at hn ⊢
     obtain ⟨a,b,d,e',_⟩:=h1 hn
     exact ⟨a,b,d,e'⟩
   · simp only [G.bV,if_neg e] at hn ⊢
     exact h.f1 j hj hn
 · intro j k hj hk bZ xN EE
   by_cases ej:j=i
   · subst ej
     have ek:k≠j:=fun e=>bZ e.symm
     simp only [G.bV,if_true,if_neg ek] at xN EE ⊢
     exact fun e=>(h1 xN).2.2.2.2 k hk ek EE e.symm
   · by_cases ek:k=i
     · subst ek
       simp only [G.bV,if_true,if_neg ej] at xN EE ⊢
       exact (h1 EE).2.2.2.2 j hj ej xN
     · simp only [G.bV,if_neg ej,if_neg ek] at xN EE ⊢
       exact h.f2 j k hj hk bZ xN EE
theorem Tok.nt {db:Nat->Bw} {nt:Nat} {v:V} {c:Value} (h:Tok db nt v c):V.free nt v:=by
 intro l sz e
 subst e
 have:=h.1
 omega
theorem a_.more {c:Ctx} {g:G} {w:World} {ob:List af} {nt:Nat} (h:a_ c g w ob nt) (f:Bw)
 (h1:0<f.n->(c.w0.heap.size<=f.jF\/c.own f.jF)/\(∃(arr:Array Value) (T:TypeId),w.heap[f.jF]? =some (.cells arr T (0,0))/\f.st+f.n<=arr.size)/\
   (∀k,f.st<=k-> ¬g.I f.jF k)/\(∀(o:Nat) x,ob[o]? =some x->x.real=true->g.bs o≠f.jF)/\ ∀j,j<nt->0<(g.db j).n->(g.db j).jF≠f.jF):
 a_ c (g.bV nt f) w ob (nt+1):=by
 have zd: ∀ {v:V} {x:Value},VT g w ob.length nt v x->VT (g.bV nt f) w ob.length (nt+1) v x:=fun {v x} hv=>
  ⟨hv.rel,(hv.tok.db hv.tok.nt fun j hj=>by simp [G.bV,hj]).ext (by omega) fun _ _=>rfl⟩
 refine ⟨h.os,h.tape,h.output,h.size,h.jG,h.len,?_,h.lt,h.inj,h.sH,h.new,h.i1,h.i2,h.i3,h.i4,h.i5,?_,?_,h.i6⟩
 · intro j y hy
   have:=h.obj j y hy
   cases y with
   | none=>trivial
   | cells wr T cs=>
     obtain ⟨arr,g1,g2,g3⟩:=this
     exact ⟨arr,g1,g2,fun k v c hv hc=>⟨zd (g3 k v c hv hc).1,(g3 k v c hv hc).2⟩⟩
   | map es=>exact this
   | buf m z l=>exact this
 · intro j hj hn
   by_cases e:j=nt
   · subst e
     simp only [G.bV,if_true] at hn ⊢
     obtain ⟨a,b,d,e',_⟩:=h1 hn
     exact ⟨a,b,d,e'⟩
   · simp only [G.bV,if_neg e] at hn ⊢
     exact h.f1 j (by omega) hn
 · intro j k hj hk bZ xN EE
   by_cases ej:j=nt
   · have ek:k≠nt:=fun e=>bZ (by omega)
     simp only [G.bV,if_pos ej,if_neg ek] at xN EE ⊢
     exact fun e=>(h1 xN).2.2.2.2 k (by omega) EE e.symm
   · by_cases ek:k=nt
     · simp only [G.bV,if_pos ek,if_neg ej] at xN EE ⊢
       exact (h1 EE).2.2.2.2 j (by omega) xN
     · simp only [G.bV,if_neg ej,if_neg ek] at xN EE ⊢
       exact h.f2 j k (by omega) (by omega) bZ xN EE
end VL
namespace VL
open Go
def G.part (g:G) (b st e:Nat):G:= {g with I:=fun x k=>g.I x k\/(x=b/\st<=k/\k<e)}
theorem Ext.fill {c:Ctx} {g:G} {w:World} {ob:List af} {nt:Nat} (h:a_ c g w ob nt) {b st e:Nat} (arr dP:Array Value) (T:TypeId)
 (hh:w.heap[b]? =some (.cells arr T (0,0))) (hI: ∀k,st<=k-> ¬g.I b k) (he: ∀k,k<st->dP[k]? =arr[k]?):
 Ext g w ob.length nt (g.part b st e) (w.setRow b dP) ob.length nt:=
 ⟨Nat.le_refl _,Nat.le_refl _,fun _ _=>rfl,fun x k hx=>⟨.inl hx,by
  by_cases hb:x=b
  · subst hb
    have hk:k<st:=by
     rcases Nat.lt_or_ge k st with h | h
     · exact h
     · exact absurd hx (hI k h)
    rw [cell_setRow_same _ _ _ _ _ _ _ hh,he k hk]
    simp [World.cell?,hh]
  · exact cell_setRow_other _ _ _ _ hb⟩,fun _ _=>rfl⟩
theorem a_.fill {c:Ctx} {g:G} {w:World} {ob:List af} {nt:Nat} (h:a_ c g w ob nt) {b st e:Nat} (arr dP:Array Value) (T:TypeId)
 (hh:w.heap[b]? =some (.cells arr T (0,0))) (hI: ∀k,st<=k-> ¬g.I b k) (he: ∀k,k<st->dP[k]? =arr[k]?)
 (hb:c.w0.heap.size<=b\/c.own b) (ho: ∀(o:Nat) x,ob[o]? =some x->x.real=true->g.bs o≠b) (hf: ∀i,i<nt->0<(g.db i).n->(g.db i).jF≠b):
 a_ c (g.part b st e) (w.setRow b dP) ob nt:=by
 have hx:=Ext.fill (e:=e) h arr dP T hh hI he
 have aJ:b<w.heap.size:=by
  rcases Nat.lt_or_ge b w.heap.size with h | h
  · exact h
  · rw [Array.getElem?_eq_none h] at hh;cases hh
 refine ⟨h.os,h.tape,h.output,?_,?_,h.len,?_,?_,h.inj,h.sH,h.new,fun x k hi=> .inl (h.i1 x k hi),?_,?_,?_,?_,?_,h.f2,fun b k hI=>by rw [(hx.hI b k (h.i1 b k hI)).2];exact h.i6 b k hI⟩
 · have:=h.size;simp;omega
 · intro x hx hw;rw [setRow_other _ _ _ _ (fun e=>by subst e;rcases hb with hb | hb;(· omega);exact hw hb)];exact h.jG x hx hw
 · intro i y hy
   exact hx.tQ (h.obj i _ hy) fun hr=>setRow_other _ _ _ _ (ho i _ hy hr)
 · intro i y hy hn;rw [setRow_size];exact h.lt i y hy hn
 · rintro x k hx hw (hi | ⟨rfl,_⟩)
   · exact h.i2 x k hx hw hi
   · rcases hb with hb | hb
     · omega
     · exact absurd hb hw
 · rintro x k (hi | ⟨rfl,_⟩)
   · rw [setRow_size];exact h.i3 x k hi
   · rw [setRow_size];exact aJ
 · rintro i U cs k hy (hi | ⟨e,_⟩)
   · exact h.i4 i U cs k hy hi
   · exact ho i _ hy rfl e
 · rintro i y k hy hl (hi | ⟨e,_⟩)
   · exact h.i5 i y k hy hl hi
   · exact ho i _ hy (lU hl) e
 · intro i hi hn
   obtain ⟨h1,⟨Gl,U,h2,zc⟩,h3,h4⟩:=h.f1 i hi hn
   refine ⟨h1,⟨Gl,U,by show (w.setRow b dP).heap[(g.db i).jF]? =_;rw [setRow_other _ _ _ _ (hf i hi hn)];exact h2,zc⟩,?_,h4⟩
   rintro k hk (hI | ⟨e,_⟩)
   · exact h3 k hk hI
   · exact hf i hi hn e
end VL
namespace VL
open Go
theorem bk (v:V) (K:V->Prop):v.c7 K=K v:=by cases v<;>rfl
theorem aX {α:Type} {K:α->Prop}: ∀ {l:List α} {i:Nat},cA l i K-> ∃x,l[i]? =some x/\K x
 | [],_,h=>h.elim
 | x::_,0,h=>⟨x,by simp,h⟩
 | _::r,n+1,h=>by
   obtain ⟨x,h1,h2⟩:=aX (l:=r) (i:=n) h
   exact ⟨x,by simpa using h1,h2⟩
theorem cj {α:Type}: ∀ {l:List α} {i:Nat} {v:α} {K:List α->Prop},fw l i v K->i<l.length/\K (l.set i v)
 | [],_,_,_,h=>h.elim
 | _::r,0,v,K,h=>⟨by simp,h⟩
 | x::r,n+1,v,K,h=>by
   obtain ⟨h1,h2⟩:=cj (l:=r) (i:=n) h
   exact ⟨by simp;omega,h2⟩
theorem fV {α:Type} {K:List α->Prop}: ∀ {l:List α} {n:Nat},iT l n K->n<=l.length/\K (l.drop n)
 | l,0,h=>⟨by simp,by cases l<;>exact h⟩
 | [],_+1,h=>h.elim
 | _::r,n+1,h=>by
   obtain ⟨h1,h2⟩:=fV (l:=r) (n:=n) h
   exact ⟨by simp;omega,h2⟩
theorem qX {α:Type}: ∀ {l:List α} {n:Nat} {K:List α->Prop},tK l n K->n<=l.length/\K (l.take n)
 | l,0,_,h=>⟨by simp,by cases l<;>exact h⟩
 | [],_+1,_,h=>h.elim
 | _::r,n+1,_,h=>by
   obtain ⟨h1,h2⟩:=qX (l:=r) (n:=n) h
   exact ⟨by simp;omega,h2⟩
theorem iu {α:Type}: ∀ {l:List α} {n:Nat} {vs:List α} {K:List α->Prop},eR l n vs K->n+vs.length<=l.length/\K (l.take n++vs++l.drop (n+vs.length))
 | l,0,[],K,h=>⟨by simp,by cases l<;>simpa [eR] using h⟩
 | [],0,_::_,K,h=>h.elim
 | _::r,0,v::vs,K,h=>by
   obtain ⟨h1,h2⟩:=iu (l:=r) (n:=0) (vs:=vs) h
   refine ⟨by simp at h1 ⊢;omega,?_⟩
   simp only [Nat.zero_add,List.take_zero,List.nil_append,List.length_cons] at h2 ⊢
   rw [List.drop_succ_cons];exact h2
 | [],_+1,vs,K,h=>by cases vs<;>exact h.elim
 | x::r,n+1,vs,K,h=>by
   have h':eR r n vs fun l=>K (x::l):=by cases vs<;>exact h
   obtain ⟨h1,h2⟩:=iu h'
   refine ⟨by simp;omega,?_⟩
   have e:n+1+vs.length=(n+vs.length)+1:=by omega
   rw [e,List.take_succ_cons,List.drop_succ_cons];exact h2
theorem dq {K:List V->Prop}: ∀ {l:List V},cd V.aH l K->K (l.map V.bj)
 | [],h=>h
 | x::r,h=>by
   simp only [cd,V.aH,bk] at h
   exact dq (l:=r) h
theorem dd {α:Type}: ∀ {l:List α} {v:α} {K:Nat->List α->Prop},e6 l v K->K l.length (l++[v])
 | [],v,K,h=>h
 | x::r,v,K,h=>by
   have:=dd (l:=r) h
   simpa using this
theorem kr {bs:Nat->Nat} {I:Nat->Nat->Prop} {w:World} {n:Nat} (c:Value):aw bs I w n (ofConst c) c:=by
 unfold ofConst;split<;>first | exact .int | exact .bool | exact .str | exact .gH | exact .slnil | exact .gL | exact .ig | exact .ij | exact .undef
theorem bP {bs:Nat->Nat} {I:Nat->Nat->Prop} {w:World} {n:Nat} (c:Value):aw bs I w n (ax c) c:=by
 unfold ax;split
 · refine .agg (by simp) fun k v c h1 h2=> ?_
   rw [List.getElem?_map] at h1
   obtain ⟨x,hx,rfl⟩:=Option.map_eq_some_iff.1 h1
   rw [Array.getElem?_toList] at hx
   rw [hx] at h2;cases h2
   exact kr _
 · exact kr _
theorem wo (c:Value):(ofConst c).cB=true:=by unfold ofConst;split<;>rfl
theorem fh (c:Value):(ax c).cB=true:=by
 unfold ax;split
 · rfl
 · exact wo _
theorem aG {g:G} {w:World} {n nt:Nat} {a:Act} {t:List V} (h:fy g w n nt a.tmps t) {x:Operand} {K:V->Prop} (hk:ev t x K):
 ∃v,VT g w n nt v (a.eval x)/\K v:=by
 cases x with
 | tmp i=>
   obtain ⟨v,h1,h2⟩:=aX hk
   have aJ:i<a.tmps.size:=by rw [←h.size];exact (List.getElem?_eq_some_iff.1 h1).1
   refine ⟨v,h.rel i v _ h1 ?_,h2⟩
   simp [Act.eval,Array.getD,aJ]
 | const c=>
   simp only [ev,bk] at hk
   exact ⟨_,⟨bP _,.fA (fh _)⟩,hk⟩
 | global b=>
   simp only [ev] at hk
   split at hk
   · rename_i l hl
     have hg: ∀(k:Nat) v,(l.map ofConst)[k]? =some v-> ∃x,l[k]? =some x/\ofConst x=v:=fun k v hv=>by
      rw [List.getElem?_map] at hv
      cases e:l[k]? with
      | none=>rw [e] at hv;cases hv
      | some x=>rw [e] at hv;exact ⟨x,rfl,Option.some.inj hv⟩
     refine ⟨_,⟨aw.dp (off:=0) (fun k=>(l[k]?).getD undef) (fun k v hv=> ?_) (fun k v hv=> ?_),.fA rfl⟩,hk⟩
     · obtain ⟨x,hx,_⟩:=hg k v hv
       rw [Nat.zero_add,hx]
       exact h.gl.1 b l hl k x hx
     · obtain ⟨x,hx,rfl⟩:=hg k v hv
       rw [hx]
       exact kr x
   · exact hk.elim
 | func f=>exact ⟨_,⟨.fn rfl rfl (by simp) (by simp),trivial⟩,hk⟩
theorem fi {g:G} {w:World} {n nt:Nat} {a:Act} {t:List V} (h:fy g w n nt a.tmps t): ∀ {xs:List Operand} {K:List V->Prop},sy t xs K->
 ∃vs,vs.length=xs.length/\(∀(k:Nat) v x,vs[k]? =some v->xs[k]? =some x->VT g w n nt v (a.eval x))/\K vs
 | [],K,hk=>⟨[],rfl,by simp,hk⟩
 | x::r,K,hk=>by
   obtain ⟨v,h1,h2⟩:=aG h hk
   obtain ⟨vs,h3,h4,h5⟩:=fi h h2
   refine ⟨v::vs,by simp [h3],fun k u y hu hy=> ?_,h5⟩
   cases k with
   | zero=>simp at hu hy;subst hu;subst hy;exact h1
   | succ k=>exact h4 k u y (by simpa using hu) (by simpa using hy)
structure bu (c:Ctx) (a:Act) (dst:Option Tmp) (K KP:V->St->Prop) (next:Act->World->Prop) (Q:Exit->Act->World->Prop):Prop where
 val: ∀v x s g w (b:Act),K v s->cf c g w b s->b.tmps=a.tmps->VT g w s.eg.length s.nt v x->next (b.put dst x) w
 dw: ∀v x s g w (b:Act),KP v s->cf c g w b s->aw g.bs g.I w s.eg.length v x->Q (.panic [{v:=x,recovered:=false}]) b w
theorem bu.same {c:Ctx} {a:Act} {o:Oper} {K KP:V->St->Prop} {next:Act->World->Prop} {Q:Exit->Act->World->Prop} {P:Program} (h:bu c a o.dst K KP next Q)
 {g:G} {w:World} {s:St} (hs:cf c g w a s) {v:V} {x:Value} (hr:(execOp a.eval o).run P w= .ok (.value x) w) (hv:VT g w s.eg.length s.nt v x) (hk:K v s):o.wp P a w next Q:=by
 unfold Oper.wp
 rw [hr]
 exact h.val v x s g w a hk hs rfl hv
end VL
namespace VL
open Go
section
variable {S:Sys} {c:Ctx} {g:G} {w:World} {a:Act} {o:Oper} {K KP:V->St->Prop} {next:Act->World->Prop} {Q:Exit->Act->World->Prop}
 {t:List V} {ob:List af} {nt:Nat} {df:List (Fn × List V × List V)}
theorem VT.of {g:G} {w:World} {n nt:Nat} {v:V} {x:Value} (h:aw g.bs g.I w n v x) (hv:v.cB=true):VT g w n nt v x:=⟨h,.fA hv⟩
theorem tU {x:Operand} (ho:o.op= .move x\/o.op= .assign x) (H:bu c a o.dst K KP next Q) (hs:cf c g w a ⟨t,ob,nt,df⟩)
 (h:ev t x fun v=>K v ⟨t,ob,nt,df⟩):o.wp S.P a w next Q:=by
 obtain ⟨v,hv,hk⟩:=aG hs.ti h
 refine H.same hs (x:=a.eval x) ?_ hv hk
 rcases ho with ho | ho<;>simp [execOp,ho]
theorem k9 {b:Bool} {x y:Prop} (h: @Bool.rec (fun _=>Prop) y x b):(b=true/\x)\/(b=false/\y):=by
 cases b
 · exact .inr ⟨rfl,h⟩
 · exact .inl ⟨rfl,h⟩
theorem Bz {x y z:Operand} (ho:o.op= .pick x y z) (H:bu c a o.dst K KP next Q) (hs:cf c g w a ⟨t,ob,nt,df⟩)
 (h:ev t x fun c=>match c with
   | .bool c=>L_ c (ev t y fun v=>K v ⟨t,ob,nt,df⟩) (ev t z fun v=>K v ⟨t,ob,nt,df⟩)
   | _=>False):o.wp S.P a w next Q:=by
 obtain ⟨v,hv,hk⟩:=aG hs.ti h
 cases v<;>try exact hk.elim
 rename_i b
 have hx:a.eval x= .bool b:=by
  have:=hv.rel
  generalize a.eval x=e at this
  cases this;rfl
 rcases k9 hk with ⟨rfl,hk⟩ | ⟨rfl,hk⟩
 · obtain ⟨v,hv,hk⟩:=aG hs.ti hk
   exact H.same hs (x:=a.eval y) (by simp [execOp,ho,hx,asBool]) hv hk
 · obtain ⟨v,hv,hk⟩:=aG hs.ti hk
   exact H.same hs (x:=a.eval z) (by simp [execOp,ho,hx,asBool]) hv hk
theorem BA {op:UnOp} {T:TypeId} {x:Operand} (ho:o.op= .unOp op T x) (H:bu c a o.dst K KP next Q) (hs:cf c g w a ⟨t,ob,nt,df⟩)
 (h:ev t x fun x=>match (generalizing:=false) op,x with
   | .not,.bool b=>K (.bool !b) ⟨t,ob,nt,df⟩
   | .neg,.int k n=>K (.int k (k.wrap (0 - n))) ⟨t,ob,nt,df⟩
   | _,_=>False):o.wp S.P a w next Q:=by
 obtain ⟨v,hv,hk⟩:=aG hs.ti h
 have hr:=hv.rel
 cases op<;>cases v<;>try exact hk.elim
 · rename_i k n
   have hx:a.eval x= .int k n:=by generalize a.eval x=e at hr;cases hr;rfl
   exact H.same hs (x:= .int k (k.wrap (0 - n))) (by simp [execOp,ho,hx,Op.unary,Op.intArith]) (.of .int rfl) hk
 · rename_i b
   have hx:a.eval x= .bool b:=by generalize a.eval x=e at hr;cases hr;rfl
   exact H.same hs (x:= .bool !b) (by simp [execOp,ho,hx,Op.unary]) (.of .bool rfl) hk
theorem wq {x:Operand} {i:Nat} (ho:o.op= .extract x i) (H:bu c a o.dst K KP next Q) (hs:cf c g w a ⟨t,ob,nt,df⟩)
 (h:ev t x fun x=>match x with
   | .aQ vs=>cA vs i fun v=>v.aH fun v=>K v ⟨t,ob,nt,df⟩
   | _=>False):o.wp S.P a w next Q:=by
 obtain ⟨v,hv,hk⟩:=aG hs.ti h
 cases v<;>try exact hk.elim
 rename_i vs
 obtain ⟨v,h1,h2⟩:=aX hk
 have hr:=hv.rel
 generalize hx:a.eval x=e at hr
 cases hr
 rename_i ca hl hh
 have aJ:i<ca.size:=by rw [←hl];exact (List.getElem?_eq_some_iff.1 h1).1
 simp only [V.aH,bk] at h2
 exact H.same hs (x:=ca[i]) (by simp [execOp,ho,hx,Instr.extract,aJ]) (.of (hh i v _ h1 (by simp [aJ])).bj (bB _)) h2
theorem tV {x:Operand} (ho:o.op= .nilCheck x) (H:bu c a o.dst K KP next Q) (hs:cf c g w a ⟨t,ob,nt,df⟩)
 (h:ev t x fun v=>match v with
   | .bp o z i off=>K (.bp o z i off) ⟨t,ob,nt,df⟩
   | .ptr i off=>K (.ptr i off) ⟨t,ob,nt,df⟩
   | .dp c=>K (.dp c) ⟨t,ob,nt,df⟩
   | .fn (.func f) a b=>K (.fn (.func f) a b) ⟨t,ob,nt,df⟩
   | _=>False):o.wp S.P a w next Q:=by
 obtain ⟨v,hv,hk⟩:=aG hs.ti h
 have hr:=hv.rel
 cases v<;>try exact hk.elim
 case ptr=>
  refine H.same hs (x:=a.eval x) ?_ hv hk
  generalize hx:a.eval x=e at hr;cases hr
  simp [execOp,ho,hx]
 case dp=>
  refine H.same hs (x:=a.eval x) ?_ hv hk
  generalize hx:a.eval x=e at hr;cases hr
  simp [execOp,ho,hx]
 case bp=>
  refine H.same hs (x:=a.eval x) ?_ hv hk
  generalize hx:a.eval x=e at hr;cases hr
  simp [execOp,ho,hx]
 case fn f fa fb=>
  cases f<;>try exact hk.elim
  refine H.same hs (x:=a.eval x) ?_ hv hk
  generalize hx:a.eval x=e at hr;cases hr
  simp [execOp,ho,hx]
theorem oH {T:TypeId} {x:Operand} (ho:o.op= .makeInterface T x) (H:bu c a o.dst K KP next Q) (hs:cf c g w a ⟨t,ob,nt,df⟩)
 (h:ev t x fun x=>x.aH fun x=>match S.P.underlying T with
   | some (.interface _)=>False
   | some _=>K (.jl T x) ⟨t,ob,nt,df⟩
   | none=>False):o.wp S.P a w next Q:=by
 obtain ⟨v,hv,hk⟩:=aG hs.ti h
 simp only [V.aH,bk] at hk
 cases hu:S.P.underlying T with
 | none=>rw [hu] at hk;exact hk.elim
 | some d=>
   rw [hu] at hk
   refine H.same hs (v:= .jl T v.bj) (x:= .iface T (a.eval x)) ?_ (.of (.jl hv.rel.bj) rfl) ?_
   · simp only [execOp,ho,Instr.makeInterface,Sem.run_bind,run_underlying hu,Result.andThen_ok]
     cases d<;>first | exact hk.elim | simp
   · cases d<;>first | exact hk.elim | exact hk
theorem tW {f:Fn} {x y:Array Operand} (ho:o.op= .makeFunc f x y) (H:bu c a o.dst K KP next Q) (hs:cf c g w a ⟨t,ob,nt,df⟩)
 (h:sy t x.toList fun u=>sy t y.toList fun v=>cd V.aH u fun u=>cd V.aH v fun v=>K (.fn f u v) ⟨t,ob,nt,df⟩):o.wp S.P a w next Q:=by
 obtain ⟨us,BB,Qg,hk⟩:=fi hs.ti h
 obtain ⟨vs,TS,Qh,hk⟩:=fi hs.ti hk
 have hk:=dq (dq hk)
 refine H.same hs (v:= .fn f (us.map V.bj) (vs.map V.bj)) (x:= .func f (x.map a.eval) (y.map a.eval)) (by simp [execOp,ho,Instr.makeFunc]) (.of ?_ rfl) hk
 refine .fn (by simp [BB]) (by simp [TS]) (fun k v c h1 h2=> ?_) fun k v c h1 h2=> ?_
 · rw [List.getElem?_map] at h1
   obtain ⟨u,hu,rfl⟩:=Option.map_eq_some_iff.1 h1
   rw [Array.getElem?_map] at h2
   obtain ⟨z,hz,rfl⟩:=Option.map_eq_some_iff.1 h2
   exact (Qg k u z hu (by simpa using hz)).rel.bj
 · rw [List.getElem?_map] at h1
   obtain ⟨u,hu,rfl⟩:=Option.map_eq_some_iff.1 h1
   rw [Array.getElem?_map] at h2
   obtain ⟨z,hz,rfl⟩:=Option.map_eq_some_iff.1 h2
   exact (Qh k u z hu (by simpa using hz)).rel.bj
end
end VL
namespace VL
open Go
section
variable {P:Program} {w:World}
theorem BC (t:TypeId):P.cellsOf t=dk P t:=by
 unfold Program.cellsOf dk
 cases P.info? t<;>rfl
theorem BD {t:TypeId} {v:V} (h:kindOk P t v=true):(isAgg t).run P w= .ok false w:=by
 unfold kindOk at h
 cases hu:P.underlying t with
 | none=>rw [hu] at h;simp at h
 | some d=>
   rw [hu] at h
   unfold isAgg
   rw [Sem.run_bind,run_underlying hu w]
   cases d<;>simp_all
theorem nY {t:TypeId} {x:V} (h:kindOk P t x=true) {cs:Array Value} {off:Nat} {v:Value} (hv:cs[off]? =some v):(part t cs off).run P w= .ok v w:=by
 simp [part,BD h,hv]
def Jd:V->V->Option Bool
 | .int k a,.int k' b=>if k=k' then some (a==b) else none
 | .bool a,.bool b=>some (a==b)
 | .str a,.str b=>some (a.toList==b.toList)
 | _,_=>none
theorem p6 {x y:V} {xs ys:List V} {r:Bool} (h:eh (x::xs) (y::ys)=some r): ∃r1 r2,Jd x y=some r1/\eh xs ys=some r2/\r=(r1 &&r2):=by
 cases x<;>cases y<;>simp only [eh,reduceCtorEq] at h
 · split at h
   · obtain ⟨r2,h2,rfl⟩:=Option.map_eq_some_iff.1 h
     exact ⟨_,r2,by simp [Jd, *],h2,rfl⟩
   · cases h
 · obtain ⟨r2,h2,rfl⟩:=Option.map_eq_some_iff.1 h
   exact ⟨_,r2,by simp [Jd],h2,rfl⟩
 · obtain ⟨r2,h2,rfl⟩:=Option.map_eq_some_iff.1 h
   exact ⟨_,r2,by simp [Jd],h2,rfl⟩
theorem r6 {x:List V} {r:Bool} (h:eh [] x=some r):x=[]/\r=true:=by
 cases x<;>simp [eh] at h
 exact ⟨rfl,h⟩
theorem Gm {bs:Nat->Nat} {I:Nat->Nat->Prop} {n d:Nat} {t:TypeId} {x y:V} (ht:kindOk P t x=true) {a b:Value} {r:Bool} (hx:aw bs I w n x a) (hy:aw bs I w n y b) (h:Jd x y=some r):
 (Op.equalIn (d+1) t a b).run P w= .ok r w:=by
 unfold kindOk at ht
 cases hu:P.underlying t with
 | none=>rw [hu] at ht;simp at ht
 | some u=>
   rw [hu] at ht
   cases x<;>cases y<;>simp only [Jd,reduceCtorEq] at h
   · split at h
     · cases h
       rename_i hk
       subst hk
       cases hx;cases hy
       cases u<;>simp at ht<;>simp [Op.equalIn,run_underlying hu]
     · cases h
   · cases h;cases hx;cases hy
     cases u<;>simp at ht<;>simp [Op.equalIn,run_underlying hu]
   · cases h;cases hx;cases hy
     cases u<;>simp at ht<;>simp [Op.equalIn,run_underlying hu,beq_toListBytes]
theorem zr {t:TypeId} {x y:V} {r:Bool} (h:Jd x y=some r) (hx:kindOk P t x=true):kindOk P t y=true:=by
 unfold kindOk at hx ⊢
 cases hu:P.underlying t with
 | none=>rw [hu] at hx;simp at hx
 | some u=>rw [hu] at hx;cases x<;>cases y<;>simp only [Jd,reduceCtorEq] at h<;>cases u<;>simp_all
theorem SS {bs:Nat->Nat} {I:Nat->Nat->Prop} {n d:Nat} {xs ys:Array Value}: ∀(fs:List Field) (i:Nat) (l m:List V) (r:Bool),wG P i fs l=true->eh l m=some r->
 (∀(k:Nat) v,l[k]? =some v-> ∃c,xs[i+k]? =some c/\aw bs I w n v c)->(∀(k:Nat) v,m[k]? =some v-> ∃c,ys[i+k]? =some c/\aw bs I w n v c)->
 (Op.eqFields (d+1) xs ys fs).run P w= .ok r w
 | [],i,l,m,r,hf,he,hx,hy=>by
   cases l with
   | cons _ _=>simp [wG] at hf
   | nil=>
     obtain ⟨rfl,rfl⟩:=r6 he
     simp [Op.eqFields]
 | f::fs,i,l,m,r,hf,he,hx,hy=>by
   cases l with
   | nil=>simp [wG] at hf
   | cons v l=>
     cases m with
     | nil=>cases v<;>simp [eh] at he
     | cons u m=>
       simp only [wG,Bool.and_eq_true,bne_iff_ne,ne_eq,beq_iff_eq] at hf
       obtain ⟨⟨⟨h1,h2⟩,h3⟩,h4⟩:=hf
       obtain ⟨r1,r2,e1,e2,rfl⟩:=p6 he
       obtain ⟨a,ha,QT⟩:=hx 0 v (by simp)
       obtain ⟨b,hb,QU⟩:=hy 0 u (by simp)
       simp only [Nat.add_zero] at ha hb
       have ih:=SS (d:=d) fs (i+1) l m r2 h4 e2 (fun k v hk=>by have:=hx (k+1) v (by simpa using hk);rwa [show i+1+k=i+(k+1) by omega])
        (fun k v hk=>by have:=hy (k+1) v (by simpa using hk);rwa [show i+1+k=i+(k+1) by omega])
       rw [←h3] at ha hb
       simp only [Op.eqFields,if_pos h2,Sem.run_bind,nY h1 ha,nY (zr e1 h1) hb,Gm h1 QT QU e1,Result.andThen_ok]
       cases r1
       · simp
       · simpa using ih
theorem SU {bs:Nat->Nat} {I:Nat->Nat->Prop} {n d:Nat} {e:TypeId} {xs ys:Array Value}: ∀(i:Nat) (l m:List V) (r:Bool),l.all (kindOk P e)=true->eh l m=some r->
 (∀(k:Nat) v,l[k]? =some v-> ∃c,xs[i+k]? =some c/\aw bs I w n v c)->(∀(k:Nat) v,m[k]? =some v-> ∃c,ys[i+k]? =some c/\aw bs I w n v c)->
 (Op.eqItems (d+1) e 1 xs ys (List.range' i l.length)).run P w= .ok r w
 | i,[],m,r,hf,he,hx,hy=>by
   obtain ⟨rfl,rfl⟩:=r6 he
   simp [Op.eqItems]
 | i,v::l,m,r,hf,he,hx,hy=>by
   cases m with
   | nil=>cases v<;>simp [eh] at he
   | cons u m=>
     simp only [List.all_cons,Bool.and_eq_true] at hf
     obtain ⟨r1,r2,e1,e2,rfl⟩:=p6 he
     obtain ⟨a,ha,QT⟩:=hx 0 v (by simp)
     obtain ⟨b,hb,QU⟩:=hy 0 u (by simp)
     simp only [Nat.add_zero] at ha hb
     have ih:=SU (d:=d) (i+1) l m r2 hf.2 e2 (fun k v hk=>by have:=hx (k+1) v (by simpa using hk);rwa [show i+1+k=i+(k+1) by omega])
      (fun k v hk=>by have:=hy (k+1) v (by simpa using hk);rwa [show i+1+k=i+(k+1) by omega])
     rw [List.length_cons,List.range'_succ]
     simp only [Op.eqItems,Sem.run_bind,Nat.mul_one,nY hf.1 ha,nY (zr e1 hf.1) hb,Gm hf.1 QT QU e1,Result.andThen_ok]
     cases r1
     · simp
     · simpa using ih
theorem tX {bs:Nat->Nat} {I:Nat->Nat->Prop} {n:Nat} {T:TypeId} {l m:List V} {xs ys:Array Value} {r:Bool} (hT:wH P T l=true) (he:eh l m=some r)
 (hx:aw bs I w n (.agg l) (.agg xs)) (hy:aw bs I w n (.agg m) (.agg ys)):(Op.equalIn 10000 T (.agg xs) (.agg ys)).run P w= .ok r w/\P.eqGuardType P.depth T=false:=by
 have gx: ∀(k:Nat) v,l[k]? =some v-> ∃c,xs[0+k]? =some c/\aw bs I w n v c:=fun k v hk=>by
  cases hx with
  | agg hl h=>
    have aJ:k<xs.size:=by rw [←hl];exact (List.getElem?_eq_some_iff.1 hk).1
    exact ⟨xs[k],by simp [aJ],h k v _ hk (by simp [aJ])⟩
 have gy: ∀(k:Nat) v,m[k]? =some v-> ∃c,ys[0+k]? =some c/\aw bs I w n v c:=fun k v hk=>by
  cases hy with
  | agg hl h=>
    have aJ:k<ys.size:=by rw [←hl];exact (List.getElem?_eq_some_iff.1 hk).1
    exact ⟨ys[k],by simp [aJ],h k v _ hk (by simp [aJ])⟩
 unfold wH at hT
 split at hT
 · rename_i fs hu
   simp only [Bool.and_eq_true,Bool.not_eq_true'] at hT
   obtain ⟨⟨h1,h2⟩,h3⟩:=hT
   have hf:P.fieldsOf T=fs:=by simp [Program.fieldsOf,hu]
   refine ⟨?_,h3⟩
   rw [run_equalIn_struct (P:=P) w 9999 T xs ys (by rw [hf];exact hu) h2,hf]
   exact SS fs.toList 0 l m r h1 he gx gy
 · rename_i len e hu
   simp only [Bool.and_eq_true,Bool.not_eq_true',beq_iff_eq] at hT
   obtain ⟨⟨⟨⟨h1,h2⟩,h3⟩,h4⟩,h5⟩:=hT
   obtain ⟨i,hi⟩:=Option.isSome_iff_exists.1 h4
   refine ⟨?_,h5⟩
   rw [run_equalIn_array (P:=P) w 9999 xs ys hu hi,BC,h3, ←h2,List.range_eq_range']
   exact SU 0 l m r h1 he gx gy
 · cases hT
theorem zt (d:Nat) {T:TypeId} {ms:Array (String × TypeId)} (hu:P.underlying T=some (.interface ms)) (hm:ms.isEmpty=true):
 (Op.eqGuardIn (d+1) T .nilIface .nilIface).run P w= .ok false w:=by
 simp [Op.eqGuardIn,run_underlying hu,hm]
theorem EF {T:TypeId} {ms:Array (String × TypeId)} {ox oy:Operand} {op:BinOp} (hu:P.underlying T=some (.interface ms)) (hm:ms.isEmpty=true):
 (eqGuard op T ox oy .nilIface .nilIface).run P w= .ok () w:=by
 have hg:(Op.eqGuardIn Op.maxDepth T .nilIface .nilIface).run P w= .ok false w:=zt 9999 hu hm
 cases op<;>cases ox<;>cases oy<;>simp [eqGuard,hg]
theorem xP (d:Nat) {T e:TypeId} (a:Addr) (hu:P.underlying T=some (.pointer e)):(Op.equalIn (d+1) T (.pointer (some a)) (.pointer none)).run P w= .ok false w:=by simp [Op.equalIn,run_underlying hu]
theorem xQ (d:Nat) {T e:TypeId} (hu:P.underlying T=some (.pointer e)):(Op.equalIn (d+1) T (.pointer none) (.pointer none)).run P w= .ok true w:=by simp [Op.equalIn,run_underlying hu]
theorem zu (d:Nat) {T:TypeId} {a b:Array TypeId} {v:Bool} (f:Fn) (x y:Array Value) (hu:P.underlying T=some (.func a b v)):(Op.equalIn (d+1) T (.func f x y) .nilFunc).run P w= .ok false w:=by simp [Op.equalIn,run_underlying hu]
theorem BE (d:Nat) {T:TypeId} {a b:Array TypeId} {v:Bool} (hu:P.underlying T=some (.func a b v)):(Op.equalIn (d+1) T .nilFunc .nilFunc).run P w= .ok true w:=by simp [Op.equalIn,run_underlying hu]
theorem EG (d:Nat) {T:TypeId} (a b:Bool) (hu:P.underlying T=some .bool):(Op.equalIn (d+1) T (.bool a) (.bool b)).run P w= .ok (a==b) w:=by simp [Op.equalIn,run_underlying hu]
theorem zw (d:Nat) {T k e:TypeId} {m:Option Nat} (hu:P.underlying T=some (.map k e)):(Op.equalIn (d+1) T (.map m) (.map none)).run P w= .ok m.isNone w:=by
 cases m<;>simp [Op.equalIn,run_underlying hu]
theorem EH (d:Nat) {T e:TypeId} {a:Addr} {i:TypeInfo} (hu:P.underlying T=some (.pointer e)) (hi:P.info? e=some i) (hs:i.size≠0):(Op.equalIn (d+1) T (.pointer (some a)) (.pointer (some a))).run P w= .ok true w:=by
 have cg:(Go.sizeOf e).run P w= .ok i.size w:=by simp [Go.sizeOf,typeInfo,hi]
 simp [Op.equalIn,run_underlying hu,cg,hs,sameAddr]
theorem not_neg {b:Int} (h:0<=b): ¬b<0:=by omega
theorem zx {bs:Nat->Nat} {I:Nat->Nat->Prop} {n:Nat} {op:BinOp} {T:TypeId} {x y:V} {cx cy:Value} {ox oy:Operand} {K:V->Prop}
 (hx:aw bs I w n x cx) (hy:aw bs I w n y cy) (h:qS P op T x y K):
 ∃v c,K v/\aw bs I w n v c/\v.cB=true/\(do eqGuard op T ox oy cx cy;binOp op T cx cy).run P w= .ok c w:=by
 unfold qS at h
 split at h
 · -- shl
   cases hx;cases hy
   obtain ⟨h1,h2⟩:=h
   exact ⟨_,_,h2,.int,rfl,by simp [eqGuard,binOp,Op.shift,not_neg h1,o_]⟩
 · cases hx;cases hy
   obtain ⟨h1,h2⟩:=h
   exact ⟨_,_,h2,.int,rfl,by simp [eqGuard,binOp,Op.shift,not_neg h1,o_]⟩
 · -- integers
   rename_i op k a k' b h1 h2
   cases hx;cases hy
   split at h
   · rename_i hk
     subst hk
     split at h
     all_goals first
      | exact h.elim
      | (obtain ⟨hb,h⟩:=h;exact ⟨_,_,h,.int,rfl,by simp [eqGuard,binOp,Op.intDiv,hb]⟩)
      | exact ⟨_,_,h,.int,rfl,by simp [eqGuard,binOp,Op.intArith,Op.intBits,nf]⟩
      | exact ⟨_,_,h,.bool,rfl,by simp [eqGuard,binOp,Op.intCmp]⟩
   · exact h.elim
 · rename_i a b
   cases hx;cases hy
   obtain ⟨h1,h2⟩:=h
   refine ⟨_,_,h2,.str,rfl,?_⟩
   simp only [eqGuard,binOp,Op.stringOp,Sem.run_bind]
   rw [if_neg (show ¬(((a.size+b.size:Nat):Int)>IntKind.i64.max) from Int.not_lt.2 h1)]
   simp
 iterate 6
  · cases hx;cases hy
    exact ⟨_,_,h,.bool,rfl,by simp [eqGuard,binOp,Op.stringOp]⟩
 iterate 2
  · rename_i a b
    cases hx;cases hy
    split at h
    · rename_i hu
      have he:(Op.equal T (.bool a) (.bool b)).run P w= .ok (a==b) w:=EG 9999 a b hu
      refine ⟨_,_,h,.bool,rfl,?_⟩
      simp only [eqGuard,binOp,Sem.run_bind]
      simp [he]
    · exact h.elim
 · -- flat ==
   rename_i l m
   split at h
   · rename_i hT he
     cases hx with | agg hl hh=>
     cases hy with | agg Jw QV=>
     obtain ⟨e1,e2⟩:=tX (w:=w) hT he (.agg hl hh) (.agg Jw QV)
     refine ⟨_,_,h,.bool,rfl,?_⟩
     simp only [Sem.run_bind,run_eqGuard_agg _ _ _ _ _ _ _ e2,Result.andThen_ok,run_eql_struct,e1]
   · exact h.elim
 · rename_i l m
   split at h
   · rename_i hT he
     cases hx with | agg hl hh=>
     cases hy with | agg Jw QV=>
     obtain ⟨e1,e2⟩:=tX (w:=w) hT he (.agg hl hh) (.agg Jw QV)
     refine ⟨_,_,h,.bool,rfl,?_⟩
     simp only [Sem.run_bind,run_eqGuard_agg _ _ _ _ _ _ _ e2,Result.andThen_ok,run_neq_struct,e1]
   · exact h.elim
 iterate 2
  · rename_i i k
    cases hx with | ptr aJ=>
    cases hy
    split at h
    · rename_i e hu
      have he:(Op.equal T (.pointer (some ⟨bs i,k,none⟩)) (.pointer none)).run P w= .ok false w:=xP 9999 _ hu
      refine ⟨_,_,h,.bool,rfl,?_⟩
      simp only [eqGuard,binOp,Sem.run_bind]
      simp [he]
    · exact h.elim
 iterate 2
  · cases hx;cases hy
    split at h
    · rename_i e hu
      have he:(Op.equal T (.pointer none) (.pointer none)).run P w= .ok true w:=xQ 9999 hu
      refine ⟨_,_,h,.bool,rfl,?_⟩
      simp only [eqGuard,binOp,Sem.run_bind]
      simp [he]
    · exact h.elim
 iterate 2
  · rename_i a i b j
    split at h
    · rename_i e hu hb
      simp only [Bool.and_eq_true] at hb
      have e1:=Nat.eq_of_beq_eq_true hb.1
      have e2:=Nat.eq_of_beq_eq_true hb.2
      subst e1;subst e2
      cases hx;cases hy
      unfold jm at h
      split at h
      · exact h.elim
      · rename_i n hz
        obtain ⟨inf,hi,hs⟩: ∃inf,P.info? e=some inf/\inf.size=n+1:=by
         unfold dk at hz
         cases hi:P.info? e with
         | none=>simp [hi] at hz
         | some inf=>exact ⟨inf,rfl,by simpa [hi] using hz⟩
        have he:(Op.equal T (.pointer (some ⟨bs a,i,none⟩)) (.pointer (some ⟨bs a,i,none⟩))).run P w= .ok true w:=EH 9999 hu hi (by omega)
        refine ⟨_,_,h,.bool,rfl,?_⟩
        simp only [eqGuard,binOp,Sem.run_bind]
        simp [he]
    · exact h.elim
 iterate 2
  · cases hx;cases hy
    split at h
    · rename_i hu
      refine ⟨_,_,h,.bool,rfl,?_⟩
      have he: ∀m,(Op.equal T (.map (some m)) (.map none)).run P w= .ok false w:=fun m=>zw 9999 hu
      simp only [eqGuard,binOp,Sem.run_bind]
      simp [he]
    · exact h.elim
 iterate 2
  · cases hx;cases hy
    split at h
    · rename_i hu
      refine ⟨_,_,h,.bool,rfl,?_⟩
      have he:(Op.equal T (.map none) (.map none)).run P w= .ok true w:=zw 9999 hu
      simp only [eqGuard,binOp,Sem.run_bind]
      simp [he]
    · exact h.elim
 iterate 2
  · cases hx with | fn ha hb h1 h2=>
    cases hy
    split at h
    · rename_i hu
      refine ⟨_,_,h,.bool,rfl,?_⟩
      have he: ∀f x y,(Op.equal T (.func f x y) .nilFunc).run P w= .ok false w:=fun f x y=>zu 9999 f x y hu
      simp only [eqGuard,binOp,Sem.run_bind]
      simp [he]
    · exact h.elim
 iterate 2
  · cases hx;cases hy
    split at h
    · rename_i hu
      have he:(Op.equal T .nilFunc .nilFunc).run P w= .ok true w:=BE 9999 hu
      refine ⟨_,_,h,.bool,rfl,?_⟩
      simp only [eqGuard,binOp,Sem.run_bind]
      simp [he]
    · exact h.elim
 iterate 2
  · cases hx;cases hy
    split at h
    · rename_i ms hu
      split at h
      · rename_i hm
        refine ⟨_,_,h,.bool,rfl,?_⟩
        have hf:P.underlying T=some (.interface (P.methodsAt T)):=by simp [Program.methodsAt,hu]
        simp only [Sem.run_bind,EF hu hm,Result.andThen_ok]
        first | exact run_eql_nil_nil w T hf | exact run_neq_nil_nil w T hf
      · exact h.elim
    · exact h.elim
 iterate 2
  · cases hx;cases hy
    split at h
    · rename_i hu
      have hf:P.underlying T=some (.interface (P.methodsAt T)):=by simp [Program.methodsAt,hu]
      refine ⟨_,_,h,.bool,rfl,?_⟩
      simp only [eqGuard,Sem.run_bind]
      first | exact run_eql_held_nil w T _ _ hf | exact run_neq_held_nil w T _ _ hf
    · exact h.elim
 · exact h.elim
end
end VL
namespace VL
open Go
section
variable {P:Program}
theorem info_of_underlying {t:TypeId} {d:TypeDesc} (h:P.underlying t=some d): ∃i,P.info? t=some i:=by
 cases hi:P.info? t with
 | none=>simp [Program.underlying,hi] at h
 | some i=>exact ⟨i,rfl⟩
theorem fj {t:TypeId} {i:TypeInfo} (h:P.info? t=some i):dk P t=i.size:=by simp [dk,h]
theorem qY {t:TypeId} {d:TypeDesc} (hu:P.underlying t=some d) (w:World):(isAgg t).run P w= .ok d.isRow w:=by
 unfold isAgg
 rw [Sem.run_bind,run_underlying hu w]
 cases d<;>rfl
theorem l6 {bs:Nat->Nat} {I:Nat->Nat->Prop} {w:World} {n:Nat} {T:TypeId} {cs:List V} {K:V->Prop} (h:im P T cs K) {b off:Nat}
 (hc: ∀(k:Nat) v,cs[k]? =some v-> ∃c,w.cell? ⟨b,off+k,none⟩=some c/\aw bs I w n v c):
 ∃v c,K v/\aw bs I w n v c/\(v.cB=true\/(cs[0]? =some v/\w.cell? ⟨b,off,none⟩=some c))/\(Instr.loadAt T (.pointer (some ⟨b,off,none⟩))).run P w= .ok c w:=by
 have row: ∀ {d:TypeDesc},P.underlying T=some d->d.isRow=true->(tK cs (dk P T) fun l=>cd V.aH l fun l=>K (.agg l))->
  ∃v c,K v/\aw bs I w n v c/\(v.cB=true\/(cs[0]? =some v/\w.cell? ⟨b,off,none⟩=some c))/\(Instr.loadAt T (.pointer (some ⟨b,off,none⟩))).run P w= .ok c w:=fun {d} hu hd h=>by
  obtain ⟨i,hi⟩:=info_of_underlying hu
  obtain ⟨h1,h2⟩:=qX h
  have h2:=dq h2
  have hex: ∃xs:List Value,xs.length=dk P T/\(∀(k:Nat) c,xs[k]? =some c->w.cell? ⟨b,off+k,none⟩=some c)/\ ∀(k:Nat) v c,(cs.take (dk P T))[k]? =some v->xs[k]? =some c->aw bs I w n v c:=by
   refine ⟨(List.range (dk P T)).map fun k=>(w.cell? ⟨b,off+k,none⟩).getD undef,by simp,fun k c hk=> ?_,fun k v c hv hk=> ?_⟩
   · rw [List.getElem?_map] at hk
     obtain ⟨j,hj,rfl⟩:=Option.map_eq_some_iff.1 hk
     have aJ:k<dk P T:=by have:=(List.getElem?_eq_some_iff.1 hj).1;rwa [List.length_range] at this
     have:j=k:=by rw [List.getElem?_range aJ] at hj;exact (Option.some.inj hj).symm
     subst this
     obtain ⟨v,hv⟩: ∃v,cs[j]? =some v:=⟨cs[j]'(by omega),List.getElem?_eq_getElem (by omega)⟩
     obtain ⟨c,hc,_⟩:=hc j v hv
     rw [hc];rfl
   · rw [List.getElem?_map] at hk
     obtain ⟨j,hj,rfl⟩:=Option.map_eq_some_iff.1 hk
     have aJ:k<dk P T:=by have:=(List.getElem?_eq_some_iff.1 hj).1;rwa [List.length_range] at this
     have:j=k:=by rw [List.getElem?_range aJ] at hj;exact (Option.some.inj hj).symm
     subst this
     have Qh:cs[j]? =some v:=by
      rw [List.getElem?_take,if_pos aJ] at hv
      exact hv
     obtain ⟨c,hc,zd⟩:=hc j v Qh
     rw [hc];exact zd
  obtain ⟨xs,hl,hx,hr⟩:=hex
  refine ⟨_,.agg xs.toArray,h2,.agg (by simp [hl];omega) fun k v c hv hk=> ?_,.inl rfl,?_⟩
  · rw [List.getElem?_map] at hv
    obtain ⟨u,hu,rfl⟩:=Option.map_eq_some_iff.1 hv
    exact (hr k u c hu (by simpa using hk)).bj
  · exact run_loadAt_mid w b off T xs d (fun j v hj=>hx j v hj) hu hd (by simp [hi,hl,fj hi])
 have one: ∀ {d:TypeDesc},P.underlying T=some d->d.isRow=false->(∃v,cs[0]? =some v/\K v)->
  ∃v c,K v/\aw bs I w n v c/\(v.cB=true\/(cs[0]? =some v/\w.cell? ⟨b,off,none⟩=some c))/\(Instr.loadAt T (.pointer (some ⟨b,off,none⟩))).run P w= .ok c w:=fun {d} hu hd h=>by
  obtain ⟨v,hv,hK⟩:=h
  obtain ⟨c,h1,h2⟩:=hc 0 v hv
  simp only [Nat.add_zero] at h1
  refine ⟨v,c,hK,h2,.inr ⟨hv,h1⟩,?_⟩
  simp [Instr.loadAt,Instr.sureAddr,loadVar,qY hu,hd,h1]
 unfold im at h
 split at h
 · rename_i hu;exact row hu rfl h
 · rename_i hu;exact row hu rfl h
 · rename_i d h1 h2 hu
   refine one hu ?_ ?_
   · cases d<;>first | rfl | exact absurd rfl (h1 _) | exact absurd rfl (h2 _ _)
   · cases cs with
     | nil=>exact absurd h (by simp)
     | cons v cs=>exact ⟨v,by simp,by simpa [bk] using h⟩
 · exact h.elim
end
section
variable {S:Sys} {c:Ctx} {g:G} {w:World} {a:Act} {o:Oper} {K KP:V->St->Prop} {next:Act->World->Prop} {Q:Exit->Act->World->Prop}
 {t:List V} {ob:List af} {nt:Nat} {df:List (Fn × List V × List V)}
theorem nZ {i:Nat} {wr:Bool} {T:TypeId} {cs:List V} (hw:a_ c g w ob nt) (hi:ob[i]? =some (.cells wr T cs)):
 ∃arr:Array Value,w.heap[g.bs i]? =some (.cells arr T (0,0))/\cs.length=arr.size/\ ∀(k:Nat) v c,cs[k]? =some v->arr[k]? =some c->VT g w ob.length nt v c/\c.oneCell'=true:=hw.obj i _ hi
theorem tY {i off k:Nat} {wr:Bool} {T:TypeId} {cs:List V} (hw:a_ c g w ob nt) (hi:ob[i]? =some (.cells wr T cs)) {v:V} (hv:(cs.drop off)[k]? =some v):
 ∃x,w.cell? ⟨g.bs i,off+k,none⟩=some x/\VT g w ob.length nt v x:=by
 obtain ⟨arr,h1,h2,h3⟩:=nZ hw hi
 rw [List.getElem?_drop] at hv
 have aJ:off+k<arr.size:=by rw [←h2];exact (List.getElem?_eq_some_iff.1 hv).1
 refine ⟨arr[off+k],by simp [World.cell?,h1,aJ],(h3 (off+k) v _ hv (by simp [aJ])).1⟩
theorem Jx {n:Nat} {cs:List V} {x:Value} (h:aw g.bs g.I w n (.dp cs) x):
 ∃b off,x= .pointer (some ⟨b,off,none⟩)/\ ∀(k:Nat) v,cs[k]? =some v-> ∃c,w.cell? ⟨b,off+k,none⟩=some c/\g.I b (off+k)/\aw g.bs g.I w n v c:=by
 cases h with
 | dp u hc hu=>exact ⟨_,_,rfl,fun k v hk=>⟨u k,(hc k v hk).1,(hc k v hk).2,hu k v hk⟩⟩
theorem s_ {l:List V} {z:Nat} (hz: ∀x∈l,x.cells.length=z): ∀ {i:Nat} {x:V},l[i]? =some x-> ∀k,k<z->(l.flatMap V.cells)[i*z+k]? =x.cells[k]? :=by
 induction l with
 | nil=>intro i x h;simp at h
 | cons y r ih=>
   intro i x h k hk
   have hy:=hz y (by simp)
   rw [List.flatMap_cons,List.getElem?_append,hy]
   cases i with
   | zero=>
     simp at h;subst h
     rw [if_pos (by omega)];simp
   | succ i=>
     rw [if_neg (by rw [Nat.succ_mul];omega)]
     rw [←ih (fun x hx=>hz x (by simp [hx])) (by simpa using h) k hk]
     congr 1;rw [Nat.succ_mul];omega
theorem cP {l:List V} {z:Nat} (hz: ∀x∈l,x.cells.length=z):(l.flatMap V.cells).length=l.length*z:=by
 induction l with
 | nil=>simp
 | cons y r ih=>rw [List.flatMap_cons,List.length_append,hz y (by simp),ih fun x hx=>hz x (by simp [hx]),List.length_cons,Nat.succ_mul];omega
theorem zy {mv:Bool} {o z:Nat} {l:List V} {ty:Option TypeId} (hw:a_ c g w ob nt) (ho:ob[o]? =some (.buf mv z l ty)) {i:Nat} {x:V} (hx:l[i]? =some x):
 ∃(arr:Array Value) (T:TypeId),Hp w (g.bs o) arr T ty/\arr.size=l.length*z/\(∀x∈l,x.cells.length=z/\x.cells.all V.aE=true)/\
  (∀(k:Nat) v c,(l.flatMap V.cells)[k]? =some v->arr[k]? =some c->aw g.bs g.I w 0 v c/\c.oneCell'=true):=by
 rcases hw.obj o _ ho with h | h
 · rw [h] at hx;simp at hx
 · obtain ⟨arr,T,h1,_,h2⟩:=h
   exact ⟨arr,T,h1,h2⟩
theorem Ma {mv:Bool} {o z:Nat} {l:List V} {ty:Option TypeId} (hw:a_ c g w ob nt) (ho:ob[o]? =some (.buf mv z l ty)) (bZ:l≠[]) {arr:Array Value} {T:TypeId} (hh:Hp w (g.bs o) arr T ty):
 ∀t,ty=some t->t=T:=fun t ht=>by
 rcases hw.obj o _ ho with h | ⟨dP,T',h1,h2,_⟩
 · exact absurd h bZ
 · obtain ⟨rfl,rfl⟩:=hh.uniq h1;exact h2 t ht
theorem Gn {mv:Bool} {o z:Nat} {l:List V} {ty:Option TypeId} (hw:a_ c g w ob nt) (ho:ob[o]? =some (.buf mv z l ty)) {i:Nat} {x:V} (hx:l[i]? =some x) {off k:Nat} {v:V} (hv:(x.cells.drop off)[k]? =some v):
 ∃u,w.cell? ⟨g.bs o,i*z+off+k,none⟩=some u/\aw g.bs g.I w 0 v u:=by
 obtain ⟨arr,T,h1,h2,h3,h4⟩:=zy hw ho hx
 rw [List.getElem?_drop] at hv
 have hz: ∀x∈l,x.cells.length=z:=fun x hx=>(h3 x hx).1
 have aJ:off+k<z:=by rw [←hz x (List.mem_of_getElem? hx)];exact (List.getElem?_eq_some_iff.1 hv).1
 have hf:=s_ hz hx (off+k) aJ
 rw [hv] at hf
 have hk:i*z+(off+k)<arr.size:=by rw [h2, ←cP hz];exact (List.getElem?_eq_some_iff.1 hf).1
 refine ⟨arr[i*z+(off+k)],?_,(h4 _ v _ hf (by simp [hk])).1⟩
 rw [h1.cell,show i*z+off+k=i*z+(off+k) by omega];simp [hk]
theorem BF {T:TypeId} {x:Operand} (ho:o.op= .load T x) (H:bu c a o.dst K KP next Q) (hs:cf c g w a ⟨t,ob,nt,df⟩)
 (h:ev t x fun p=>match p with
 | .ptr i off=>cA ob i fun o1=>match o1 with
   | .cells _ _ cs=>iT cs off fun cs=>im S.P T cs fun v=>K v ⟨t,ob,nt,df⟩
   | _=>False
 | .dp cs=>im S.P T cs fun v=>v.aH fun v=>K v ⟨t,ob,nt,df⟩
 | .bp o z i off=>cA ob o fun o1=>match o1 with
   | .buf _ z' l _=>(match Nat.beq z z' with
     | true=> ∃x,l[i]? =some x/\iT x.cells off fun cs=>im S.P T cs fun v=>v.aH fun v=>K v ⟨t,ob,nt,df⟩
     | false=>False)
   | _=>False
 | _=>False):o.wp S.P a w next Q:=by
 obtain ⟨v,hv,hk⟩:=aG hs.ti h
 have hr:=hv.rel
 cases v<;>try exact hk.elim
 case ptr i off=>
  obtain ⟨x1,h1,h2⟩:=aX hk
  cases x1<;>try exact h2.elim
  obtain ⟨h3,h4⟩:=fV h2
  obtain ⟨v,y,hK,zd,hv,aS⟩:=l6 (b:=g.bs i) (off:=off) h4 (fun k v hv=>by obtain ⟨c,h1,h2⟩:=tY hs.wi h1 hv;exact ⟨c,h1,h2.rel⟩)
  generalize hx:a.eval x=e at hr
  cases hr
  refine H.same hs (x:=y) (by simp [execOp,ho,hx,aS]) ⟨zd,?_⟩ hK
  rcases hv with hv | ⟨hv,hy⟩
  · exact .fA hv
  · obtain ⟨c,h5,h6⟩:=tY hs.wi h1 hv
    rw [Nat.add_zero] at h5
    rw [hy] at h5;cases h5;exact h6.tok
 case dp cs=>
  obtain ⟨b,off,hx,hc⟩:=Jx hr
  obtain ⟨v,y,hK,zd,_,aS⟩:=l6 (b:=b) (off:=off) hk (fun k v hv=>by obtain ⟨c,h1,_,h2⟩:=hc k v hv;exact ⟨c,h1,h2⟩)
  simp only [V.aH,bk] at hK
  exact H.same hs (x:=y) (by simp [execOp,ho,hx,aS]) (.of zd.bj (bB _)) hK
 case bp o1 z i off=>
  obtain ⟨x1,h1,hk⟩:=aX hk
  cases x1<;>try exact hk.elim
  rename_i mv z' l
  simp only at hk
  split at hk
  case h_2=>exact hk.elim
  rename_i hz
  have hz:=Nat.eq_of_beq_eq_true hz
  subst hz
  obtain ⟨e,he,hk⟩:=hk
  obtain ⟨h3,hk⟩:=fV hk
  obtain ⟨v,y,hK,zd,_,aS⟩:=l6 (bs:=g.bs) (I:=g.I) (n:=ob.length) (b:=g.bs o1) (off:=i*z+off) hk (fun k v hv=>by
   obtain ⟨c,h1,h2⟩:=Gn hs.wi h1 he hv
   exact ⟨c,h1,h2.mono (fun o ho=>absurd ho (by omega)) fun b k h=>⟨h,rfl⟩⟩)
  simp only [V.aH,bk] at hK
  generalize hx:a.eval x=ex at hr
  cases hr
  exact H.same hs (x:=y) (by simp [execOp,ho,hx,aS]) (.of zd.bj (bB _)) hK
theorem Hp.set {w:World} {b:Nat} {arr dP:Array Value} {T:TypeId} {ty:Option TypeId} (h:Hp w b arr T ty) (hs:dP.size=arr.size):Hp (w.setRow b dP) b dP T ty:=by
 obtain ⟨fz,h1,h2⟩:=h
 exact ⟨fz,setRow_heap _ _ _ _ _ _ h1,by rw [hs];exact h2⟩
theorem eS {P:Program} {ty:Option TypeId} (g o:Nat) (t:TypeId): ∀(vs:List Value) (i:Nat) (cur:Array Value) (w:World),Hp w g cur t ty->o+i+vs.length<=cur.size->(∀y∈vs,y.oneCell'=true)->
 (storeCells ⟨g,o,none⟩ vs i).run P w= .ok () (w.setRow g (cur.toList.take (o+i)++vs++cur.toList.drop (o+i+vs.length)).toArray)
 | [],i,cur,w,hg,_,_=>by
   obtain ⟨fz,hg,_⟩:=hg
   simp only [storeCells,List.append_nil,List.length_nil,Nat.add_zero,List.take_append_drop,Array.toArray_toList]
   rw [setRow_self w g cur t fz hg]
   rfl
 | v::rest,i,cur,w,hg,hl,h1=>by
   have hi:o+i<cur.size:=by simp at hl;omega
   have QW:(⟨g,o,none⟩:Addr).add i=⟨g,o+i,none⟩:=by unfold Addr.add;split<;>simp_all
   have e7:w.cell? ⟨g,o+i,none⟩=some cur[o+i]:=by rw [hg.cell];simp [hi]
   have QX:w.frozen? ⟨g,o+i,none⟩=false:=by
    obtain ⟨⟨lo,hh⟩,hg,hz⟩:=hg
    simp only [World.frozen?,hg]
    rcases hz with hz | hz
    · injection hz with h1 h2;subst h1 h2;simp
    · have: ¬lo<=o+i:=by have:=hz.2;simp only at this;omega
      simp [this]
   have iI:(store ((⟨g,o,none⟩:Addr).add i) v).run P w= .ok () (w.setRow g (cur.setIfInBounds (o+i) v)):=by
    obtain ⟨fz,TT,_⟩:=hg
    rw [QW,run_store P w _ v _ (h1 v (by simp)),e7]
    simp [QX,setCell_eq_setRow w g (o+i) cur t fz v TT]
   have ih:=eS (P:=P) g o t rest (i+1) (cur.setIfInBounds (o+i) v) (w.setRow g (cur.setIfInBounds (o+i) v)) (hg.set (by simp)) (by simp at hl ⊢;omega) (fun y hy=>h1 y (by simp [hy]))
   simp only [storeCells,Sem.run_bind,iI,Result.andThen_ok,ih,setRow_setRow]
   congr 3
   have e:=list_seg_step cur.toList (o+i) v rest (by simp at hl ⊢;omega)
   simpa [Array.toList_setIfInBounds,Nat.add_assoc] using e
theorem mU {P:Program} {b off:Nat} {T U:TypeId} {i:TypeInfo} {arr:Array Value} {x:Value} (hi:P.info? T=some i) (hx:x.cells.size=i.size) {ty:Option TypeId} (hh:Hp w b arr U ty)
 (hl:off+x.cells.size<=arr.size) (h1: ∀y∈x.cells.toList,y.oneCell'=true):
 (Instr.storeAt T (.pointer (some ⟨b,off,none⟩)) x).run P w= .ok () (w.setRow b (arr.toList.take off++x.cells.toList++arr.toList.drop (off+x.cells.toList.length)).toArray):=by
 have:=eS (P:=P) b off U x.cells.toList 0 arr w hh (by simpa using hl) h1
 simp only [Nat.add_zero] at this
 have cg:(Go.sizeOf T).run P w= .ok i.size w:=by simp [Go.sizeOf,typeInfo,hi]
 simp only [Instr.storeAt,Instr.sureAddr,storeVar,Sem.run_bind,Sem.run_pure,Result.andThen_ok,cg]
 rw [if_neg (by simp [hx])]
 exact this
theorem jn {bs:Nat->Nat} {I:Nat->Nat->Prop} {n:Nat} {v:V} {x:Value} (h:aw bs I w n v x) (hv:v.cells.all V.aE=true):
 v.cells.length=x.cells.size/\ ∀(k:Nat) u y,v.cells[k]? =some u->x.cells[k]? =some y->aw bs I w n u y:=by
 cases h with
 | agg hl hh=>exact ⟨hl,hh⟩
 | undef=>simp [V.cells,V.aE] at hv
 | aQ hl hh=>simp [V.cells,V.aE] at hv
 | _=>refine ⟨rfl,fun k u y hu hy=> ?_⟩;(cases k<;>simp [V.cells,Value.cells] at hu hy);subst hu;subst hy;constructor<;>assumption
theorem k_ {bs:Nat->Nat} {I:Nat->Nat->Prop} {n:Nat} {v:V} {x:Value} (h:aw bs I w n v x) (hv:v.cells.all V.aE=true): ∀y∈x.cells.toList,y.oneCell'=true:=by
 intro y hy
 obtain ⟨hl,hr⟩:=jn h hv
 obtain ⟨k,hk⟩:=List.mem_iff_getElem?.1 hy
 have aJ:k<v.cells.length:=by rw [hl];simpa using (List.getElem?_eq_some_iff.1 hk).1
 have hu:=List.getElem?_eq_getElem aJ
 exact (hr k _ y hu (by simpa using hk)).s0 (List.all_eq_true.1 hv _ (List.mem_of_getElem? hu))
theorem n_ {db:Nat->Bw} {v:V} {x:Value} (h:aw g.bs g.I w ob.length v x) (ht:Tok db nt v x) (hv:v.cells.all V.aE=true) (hn:v.jy=true):
 ∀(k:Nat) u y,v.cells[k]? =some u->x.cells[k]? =some y->Tok db nt u y:=by
 intro k u y hu hy
 cases v with
 | agg l=>exact .fA (List.all_eq_true.1 hn _ (List.mem_of_getElem? hu))
 | _=>
   cases k with
   | succ k=>simp [V.cells] at hu
   | zero=>
     simp [V.cells] at hu
     subst hu
     cases h<;>first | trivial | (simp [Value.cells] at hy;subst hy;exact ht) | (simp [V.cells,V.aE] at hv)
theorem BG {α:Type} {A M B C:List α} {a b k:Nat} (hA:A.length=a) (hM:M.length=b) (hB:B.length=b):
 (A++M++C)[k]? =if a<=k/\k<a+b then M[k - a]? else (A++B++C)[k]? :=by
 by_cases h1:k<a
 · rw [if_neg (by omega),List.append_assoc,List.append_assoc,List.getElem?_append_left (by omega),List.getElem?_append_left (by omega)]
 · by_cases h2:k<a+b
   · rw [if_pos ⟨by omega,h2⟩,List.append_assoc,List.getElem?_append_right (by omega),List.getElem?_append_left (by omega),hA]
   · rw [if_neg (by omega),List.getElem?_append_right (by simp;omega),List.getElem?_append_right (by simp;omega)]
     congr 1;simp;omega
theorem r7 {l m:List V} {z i:Nat} (hz: ∀x∈l,x.cells.length=z) (hm: ∀x∈m,x.cells.length=z) (hl:i+m.length<=l.length) (k:Nat):
 ((l.take i++m++l.drop (i+m.length)).flatMap V.cells)[k]? =if i*z<=k/\k<i*z+m.length*z then (m.flatMap V.cells)[k - i*z]? else (l.flatMap V.cells)[k]? :=by
 have e0:l.flatMap V.cells=(l.take i).flatMap V.cells++((l.drop i).take m.length).flatMap V.cells++(l.drop (i+m.length)).flatMap V.cells:=by
  rw [←List.flatMap_append, ←List.flatMap_append,List.append_assoc]
  congr 1
  rw [←List.drop_drop,List.take_append_drop,List.take_append_drop]
 rw [List.flatMap_append,List.flatMap_append,e0]
 refine BG ?_ (cP hm) ?_
 · rw [cP fun x hx=>hz x (List.mem_of_mem_take hx)]
   have:(l.take i).length=i:=by simp;omega
   rw [this]
 · rw [cP fun x hx=>hz x (List.mem_of_mem_drop (List.mem_of_mem_take hx))]
   have:((l.drop i).take m.length).length=m.length:=by simp;omega
   rw [this]
theorem tZ {arr:Array Value} {off:Nat} {news:List Value} (h:off+news.length<=arr.size) (k:Nat):
 ((arr.toList.take off++news++arr.toList.drop (off+news.length)).toArray)[k]? =if off<=k/\k<off+news.length then news[k - off]? else arr[k]? :=by
 rw [List.getElem?_toArray,List.append_assoc]
 have l1:(arr.toList.take off).length=off:=by simp;omega
 by_cases h1:k<off
 · rw [if_neg (by omega),List.getElem?_append_left (by omega),List.getElem?_take,if_pos h1];simp
 · rw [List.getElem?_append_right (by omega),l1]
   by_cases h2:k<off+news.length
   · rw [if_pos ⟨by omega,h2⟩,List.getElem?_append_left (by omega)]
   · rw [if_neg (by omega),List.getElem?_append_right (by omega),List.getElem?_drop]
     rw [show off+news.length+(k - off - news.length)=k by omega];simp
theorem wL {mv:Bool} {o z:Nat} {l l':List V} {ty:Option TypeId} (hw:a_ c g w ob nt) (ho:ob[o]? =some (.buf mv z l ty)) {arr:Array Value} {T:TypeId} (hh:Hp w (g.bs o) arr T ty)
 (cg:arr.size=l.length*z) (Lj:l'.length=l.length) (bZ:l≠[]) (c_: ∀x∈l',x.cells.length=z/\x.cells.all V.aE=true) {dP:Array Value} (Mb:dP.size=arr.size)
 (hr: ∀(k:Nat) v c,(l'.flatMap V.cells)[k]? =some v->dP[k]? =some c->aw g.bs g.I w 0 v c/\c.oneCell'=true):
 a_ c g (w.setRow (g.bs o) dP) (ob.set o (.buf mv z l' ty)) nt/\Ext g w ob.length nt g (w.setRow (g.bs o) dP) ob.length nt:=by
 have Gp:(af.buf mv z l ty).real=true:=by simp [af.real,bZ]
 have hI: ∀k, ¬g.I (g.bs o) k:=fun k=>hw.i5 o _ k ho (by simp [af.loose,bZ])
 have he:Ext g w ob.length nt g (w.setRow (g.bs o) dP) ob.length nt:=Ext.only (p0 w _ dP) hI
 exact ⟨hw.put ho Gp hI (p0 w _ dP) (.inr ⟨dP,T,hh.set Mb,Ma hw ho bZ hh,by rw [Mb,cg,Lj],c_,fun k v c hv hc=>⟨he.qW (hr k v c hv hc).1,(hr k v c hv hc).2⟩⟩) fun h=>h,he⟩
theorem xR {x:V} {cs:List V} (hl:cs.length=x.cells.length) (c_:x.cells.all V.aE=true) (hc:cs.all V.aE=true):(x.kI cs).cells=cs:=by
 cases x with
 | agg l=>rfl
 | _=>
   match cs,hl with
   | [c],_=>
     have:c.aE=true:=by simpa using hc
     cases c<;>first | rfl | (simp [V.aE] at this)
theorem Gq {T:TypeId} {x y:Operand} (ho:o.op= .store T x y) (H:bu c a o.dst K KP next Q) (hs:cf c g w a ⟨t,ob,nt,df⟩) {o1 z i off:Nat} {v:V}
 (hp:VT g w ob.length nt (.bp o1 z i off) (a.eval x)) (hv:VT g w ob.length nt v (a.eval y))
 (hk:v.aH fun v=>cA ob o1 fun o2=>match o2 with
   | .buf mv z' l ty=>(match (S.P.info? T).any (fun i=>v.cells.length==i.size) &&v.cells.all V.aE &&V.il 0 v.cells &&Nat.beq z z' with
     | true=> ∃x,l[i]? =some x/\eR x.cells off v.cells fun cs=>fw ob o1 (.buf mv z (l.set i (x.kI cs)) ty) fun ob=>K (.aQ []) ⟨t,ob,nt,df⟩
     | false=>False)
   | _=>False):o.wp S.P a w next Q:=by
 simp only [V.aH,bk] at hk
 have BH:=hv.rel.bj
 generalize v.bj=v at hk BH
 obtain ⟨x1,h1,hk⟩:=aX hk
 cases x1<;>try exact hk.elim
 rename_i mv z' l ty
 simp only at hk
 split at hk
 case h_2=>exact hk.elim
 rename_i gb
 simp only [Bool.and_eq_true] at gb
 obtain ⟨⟨⟨cg,c_⟩,jH⟩,hz⟩:=gb
 have hz:=Nat.eq_of_beq_eq_true hz
 subst hz
 obtain ⟨inf,hi,cg⟩: ∃inf,S.P.info? T=some inf/\(v.cells.length==inf.size)=true:=by
  cases hi:S.P.info? T with
  | none=>rw [hi] at cg;simp at cg
  | some inf=>rw [hi] at cg;exact ⟨inf,rfl,cg⟩
 have cg:v.cells.length=inf.size:=by simpa using cg
 obtain ⟨e,he,hk⟩:=hk
 obtain ⟨dy,hk⟩:=iu hk
 obtain ⟨aJ,hk⟩:=cj hk
 obtain ⟨arr,U,g1,g2,g3,g4⟩:=zy hs.wi h1 he
 have SV: ∀x∈l,x.cells.length=z:=fun x hx=>(g3 x hx).1
 have Lk:=g3 e (List.mem_of_getElem? he)
 obtain ⟨ka,Dl⟩:=jn BH c_
 have oI:=k_ BH c_
 have cV:i<l.length:=(List.getElem?_eq_some_iff.1 he).1
 have Wp:i*z+z<=arr.size:=by
  rw [g2];have:=Nat.mul_le_mul_right z (show i+1<=l.length by omega);rw [Nat.succ_mul] at this;exact this
 generalize hx:a.eval x=ex at hp
 have TU:=hp.rel
 cases TU
 have Gr:i*z+off+(a.eval y).cells.size<=arr.size:=by rw [←ka];omega
 have aS:=mU (P:=S.P) (T:=T) (x:=a.eval y) (b:=g.bs o1) (off:=i*z+off) hi (by rw [←ka];exact cg) g1 Gr oI
 generalize iK:(arr.toList.take (i*z+off)++(a.eval y).cells.toList++arr.toList.drop (i*z+off+(a.eval y).cells.toList.length)).toArray=row at aS
 have Oq: ∀k:Nat,row[k]? =if i*z+off<=k/\k<i*z+off+v.cells.length then (a.eval y).cells[k - (i*z+off)]? else arr[k]? :=fun k=>by
  rw [←iK,tZ (by simpa using Gr)]
  simp [←ka]
 have Ll:(e.cells.take off++v.cells++e.cells.drop (off+v.cells.length)).all V.aE=true:=by
  simp only [List.all_append,Bool.and_eq_true]
  exact ⟨⟨List.all_eq_true.2 fun u hu=>List.all_eq_true.1 Lk.2 u (List.mem_of_mem_take hu),c_⟩,List.all_eq_true.2 fun u hu=>List.all_eq_true.1 Lk.2 u (List.mem_of_mem_drop hu)⟩
 have BI:(e.cells.take off++v.cells++e.cells.drop (off+v.cells.length)).length=e.cells.length:=by simp;omega
 have Ot:=xR BI Lk.2 Ll
 have QY: ∀x∈l.set i (e.kI (e.cells.take off++v.cells++e.cells.drop (off+v.cells.length))),x.cells.length=z/\x.cells.all V.aE=true:=fun x hx=>by
  rcases List.mem_or_eq_of_mem_set hx with h | rfl
  · exact g3 x h
  · rw [Ot,BI];exact ⟨Lk.1,Ll⟩
 obtain ⟨p7,l7⟩:=wL (l':=l.set i (e.kI (e.cells.take off++v.cells++e.cells.drop (off+v.cells.length)))) hs.wi h1 g1 g2 (by simp) (by intro e0;rw [e0] at cV;simp at cV) QY (dP:=row) (by
  rw [←iK];simp;rw [←ka] at Gr ⊢;omega) (fun k u y' hu hy=>by
  have EI:l.set i (e.kI (e.cells.take off++v.cells++e.cells.drop (off+v.cells.length)))=l.take i++[e.kI (e.cells.take off++v.cells++e.cells.drop (off+v.cells.length))]++l.drop (i+[e.kI (e.cells.take off++v.cells++e.cells.drop (off+v.cells.length))].length):=by
   rw [List.set_eq_take_append_cons_drop,if_pos cV];simp
  rw [EI,r7 SV (by intro x hx;rw [List.mem_singleton.1 hx,Ot,BI];exact Lk.1) (by simp;omega)] at hu
  simp only [List.length_singleton,Nat.one_mul,List.flatMap_cons,List.flatMap_nil,List.append_nil,Ot] at hu
  rw [Oq] at hy
  have TV:=Lk.1
  split at hu
  · rename_i Wq
    have F5:=s_ SV he (k - i*z) (by omega)
    rw [show i*z+(k - i*z)=k by omega] at F5
    rw [List.getElem?_append] at hu
    have EJ:(e.cells.take off++v.cells).length=off+v.cells.length:=by simp;omega
    rw [EJ] at hu
    split at hu
    · rw [List.getElem?_append] at hu
      have sI:(e.cells.take off).length=off:=by simp;omega
      rw [sI] at hu
      split at hu
      · rw [List.getElem?_take,if_pos (by assumption)] at hu
        rw [if_neg (by omega)] at hy
        exact g4 k u y' (by rw [F5];exact hu) hy
      · rw [if_pos (by omega)] at hy
        have kN:k - i*z - off=k - (i*z+off):=by omega
        rw [kN] at hu
        exact ⟨(Dl _ u y' hu hy).low (dS jH hu),oI y' (Array.mem_toList_iff.2 (Array.mem_of_getElem? hy))⟩
    · rw [List.getElem?_drop] at hu
      rw [if_neg (by omega)] at hy
      rw [show off+v.cells.length+(k - i*z - (off+v.cells.length))=k - i*z by omega] at hu
      exact g4 k u y' (by rw [F5];exact hu) hy
  · rw [if_neg (by omega)] at hy
    exact g4 k u y' hu hy)
 unfold Oper.wp
 have hex:(execOp a.eval o).run S.P w= .ok .skip (w.setRow (g.bs o1) row):=by
  simp only [execOp,ho,hx,Sem.run_bind,aS,Result.andThen_ok]
  rfl
 rw [hex]
 exact H.val (.aQ []) undef _ g _ a hk ⟨p7,by simpa using l7.kf hs.ti,by simpa using l7.kg hs.di⟩ rfl (.of (.aQ rfl (by simp)) rfl)
theorem zz {T:TypeId} {x y:Operand} (ho:o.op= .store T x y) (H:bu c a o.dst K KP next Q) (hs:cf c g w a ⟨t,ob,nt,df⟩)
 (h:ev t x fun p=>ev t y fun v=>v.c7 fun v=>match p with
 | .ptr i off=>cA ob i fun o1=>match o1 with
   | .cells true U cs=>match (S.P.info? T).any (fun i=>v.cells.length==i.size) &&v.cells.all V.aE &&v.jy with
     | true=>eR cs off v.cells fun cs=>fw ob i (.cells true U cs) fun eg=>K (.aQ []) ⟨t,eg,nt,df⟩
     | false=>False
   | _=>False
 | .bp o z i off=>v.aH fun v=>cA ob o fun o1=>match o1 with
   | .buf mv z' l ty=>(match (S.P.info? T).any (fun i=>v.cells.length==i.size) &&v.cells.all V.aE &&V.il 0 v.cells &&Nat.beq z z' with
     | true=> ∃x,l[i]? =some x/\eR x.cells off v.cells fun cs=>fw ob o (.buf mv z (l.set i (x.kI cs)) ty) fun ob=>K (.aQ []) ⟨t,ob,nt,df⟩
     | false=>False)
   | _=>False
 | _=>False):o.wp S.P a w next Q:=by
 obtain ⟨p,hp,hk⟩:=aG hs.ti h
 obtain ⟨v,hv,hk⟩:=aG hs.ti hk
 rw [bk] at hk
 have hr:=hp.rel
 by_cases N0: ∃o1 z i off,p= .bp o1 z i off
 · obtain ⟨o1,z,i,off,rfl⟩:=N0
   exact Gq ho H hs hp hv hk
 obtain ⟨i,off,rfl⟩: ∃i off,p= .ptr i off:=by
  cases p<;>first | exact ⟨_,_,rfl⟩ | exact absurd ⟨_,_,_,_,rfl⟩ N0 | exact hk.elim
 obtain ⟨x1,h1,hk⟩:=aX hk
 obtain ⟨U,cs,rfl⟩: ∃U cs,x1= .cells true U cs:=by
  cases x1 with
  | cells wr U cs=>cases wr<;>first | exact ⟨_,_,rfl⟩ | exact hk.elim
  | _=>exact hk.elim
 simp only at hk
 split at hk
 case h_2=>exact hk.elim
 rename_i gb
 simp only [Bool.and_eq_true] at gb
 obtain ⟨⟨cg,c_⟩,kW⟩:=gb
 obtain ⟨inf,hi,cg⟩: ∃inf,S.P.info? T=some inf/\(v.cells.length==inf.size)=true:=by
  cases hi:S.P.info? T with
  | none=>rw [hi] at cg;simp at cg
  | some inf=>rw [hi] at cg;exact ⟨inf,rfl,cg⟩
 have cg:v.cells.length=inf.size:=by simpa using cg
 obtain ⟨dy,hk⟩:=iu hk
 obtain ⟨aJ,hk⟩:=cj hk
 obtain ⟨arr,g1,g2,g3⟩:=nZ hs.wi h1
 obtain ⟨ka,Dl⟩:=jn hv.rel c_
 have oI:=k_ hv.rel c_
 have t_:=n_ hv.rel hv.tok c_ kW
 generalize hx:a.eval x=e at hr
 cases hr
 have aS:=mU (P:=S.P) (T:=T) (x:=a.eval y) (off:=off) (ty:=none) hi (by rw [←ka];exact cg) (.of g1) (by rw [←ka, ←g2];exact dy) oI
 unfold Oper.wp
 have he:(execOp a.eval o).run S.P w= .ok .skip (w.setRow (g.bs i) (arr.toList.take off++(a.eval y).cells.toList++arr.toList.drop (off+(a.eval y).cells.toList.length)).toArray):=by
  simp only [execOp,ho,hx,Sem.run_bind,aS,Result.andThen_ok]
  rfl
 rw [he]
 have hw:=a_.store hs.wi h1 arr (arr.toList.take off++(a.eval y).cells.toList++arr.toList.drop (off+(a.eval y).cells.toList.length)).toArray g1
  (tS:=cs.take off++v.cells++cs.drop (off+v.cells.length)) (by
    simp only [List.length_append,List.length_take,List.length_drop,List.size_toArray,ka,Array.length_toList]
    rw [g2]) (fun k u z hu hz=>by
    simp only [List.getElem?_toArray] at hz
    rw [List.getElem?_append] at hu hz
    have EJ:(cs.take off++v.cells).length=off+v.cells.length:=by simp;omega
    have sI:(arr.toList.take off++(a.eval y).cells.toList).length=off+v.cells.length:=by simp [←ka];omega
    rw [EJ] at hu
    rw [sI] at hz
    split at hu
    · rename_i iM
      rw [if_pos iM] at hz
      rw [List.getElem?_append] at hu hz
      have QZ:(cs.take off).length=off:=by simp;omega
      have Q0:(arr.toList.take off).length=off:=by simp;omega
      rw [QZ] at hu
      rw [Q0] at hz
      split at hu
      · rename_i zA
        rw [if_pos zA] at hz
        rw [List.getElem?_take,if_pos zA] at hu hz
        exact g3 k u z hu (by simpa using hz)
      · rename_i zA
        rw [if_neg zA] at hz
        have F3:(a.eval y).cells[k - off]? =some z:=by simpa using hz
        exact ⟨⟨Dl _ u z hu F3,t_ _ u z hu F3⟩,oI z (List.mem_of_getElem? hz)⟩
    · rename_i iM
      rw [if_neg iM] at hz
      rw [List.getElem?_drop] at hu hz
      have e1:off+v.cells.length+(k - (off+v.cells.length))=k:=by omega
      have e2:off+(a.eval y).cells.toList.length+(k - (off+v.cells.length))=k:=by
       rw [Array.length_toList, ←ka];omega
      rw [e1] at hu
      rw [e2] at hz
      exact g3 k u z hu (by simpa using hz))
 have he:=Ext.store hs.wi h1 (arr.toList.take off++(a.eval y).cells.toList++arr.toList.drop (off+(a.eval y).cells.toList.length)).toArray
 exact H.val (.aQ []) undef _ g _ a hk ⟨hw,by simpa using he.kf hs.ti,by simpa using he.kg hs.di⟩ rfl (.of (.aQ rfl (by simp)) rfl)
end
end VL
namespace VL
open Go
section
variable {S:Sys} {c:Ctx} {g:G} {w:World} {a:Act} {o:Oper} {K KP:V->St->Prop} {next:Act->World->Prop} {Q:Exit->Act->World->Prop}
 {t:List V} {ob:List af} {nt:Nat} {df:List (Fn × List V × List V)}
theorem ua {P:Program} (H:bu c a o.dst K KP next Q) (hs:cf c g w a ⟨t,ob,nt,df⟩) {v:V} {x:Value} {T:TypeId} (hv:aw g.bs g.I w ob.length v x) (ht:Tok g.db nt v x)
 (c_:v.cells.all V.aE=true) (kW:v.jy=true) (aS:(execOp a.eval o).run P w= .ok (.value (.pointer (some ⟨w.heap.size,0,none⟩))) (w.alloc (.cells x.cells T)))
 (hk:K (.ptr ob.length 0) ⟨t,ob++[.cells true T v.cells],nt,df⟩):o.wp P a w next Q:=by
 unfold Oper.wp
 rw [aS]
 have he:=Ext.alloc hs.wi (.cells x.cells T)
 obtain ⟨ka,Dl⟩:=jn hv c_
 have oI:=k_ hv c_
 have t_:=n_ hv ht c_ kW
 have hw:=a_.alloc hs.wi (.cells x.cells T) (.cells true T v.cells) ⟨x.cells,heap_alloc_new w _,ka,fun k u y hu hy=>
  ⟨he.vt ⟨Dl k u y hu hy,t_ k u y hu hy⟩,oI y (Array.mem_toList_iff.2 (Array.mem_of_getElem? hy))⟩⟩
 have hlen:(ob++[af.cells true T v.cells]).length=ob.length+1:=by simp
 refine H.val (.ptr ob.length 0) _ ⟨t,ob++[.cells true T v.cells],nt,df⟩ _ _ a hk ⟨hw,?_,?_⟩ rfl ?_
 · show fy _ _ (ob++[af.cells true T v.cells]).length _ _ _
   rw [hlen];exact he.kf hs.ti
 · show gI _ _ (ob++[af.cells true T v.cells]).length _ _
   rw [hlen];exact he.kg hs.di
 · refine .of ?_ rfl
   show aw _ _ _ (ob++[af.cells true T v.cells]).length _ _
   rw [hlen]
   have:(aw (fun i=>if i=ob.length then w.heap.size else g.bs i) g.I (w.alloc (.cells x.cells T)) (ob.length+1) (.ptr ob.length 0) (.pointer (some ⟨if ob.length=ob.length then w.heap.size else g.bs ob.length,0,none⟩))):= .ptr (by omega)
   rw [if_pos rfl] at this
   exact this
theorem Jy {P:Program} (H:bu c a o.dst K KP next Q) (hs:cf c g w a ⟨t,ob,nt,df⟩) {v:V} {x:Value} {T:TypeId} (hv:aw g.bs g.I w ob.length v x) (ht:Tok g.db nt v x)
 (c_:v.cells.all V.aE=true) (kW:v.jy=true) (hint:jA v.cells=true) (aS:(execOp a.eval o).run P w= .ok (.value (.pointer (some ⟨w.heap.size,0,none⟩))) (w.alloc (.cells x.cells T)))
 (hk:K (.ptr ob.length 0) ⟨t,ob++[.buf false 1 v.cells],nt,df⟩):o.wp P a w next Q:=by
 unfold Oper.wp
 rw [aS]
 have he:=Ext.alloc hs.wi (.cells x.cells T)
 obtain ⟨ka,Dl⟩:=jn hv c_
 have oI:=k_ hv c_
 have t_:=n_ hv ht c_ kW
 obtain ⟨Qi,hi⟩:=lV hint
 have hw:=a_.alloc hs.wi (.cells x.cells T) (.buf false 1 v.cells) (.inr ⟨x.cells,T,.of (heap_alloc_new w _),by simp,by rw [←ka];simp,fun y hy=>by
  obtain ⟨k,n,rfl⟩:=hi y hy
  exact ⟨rfl,rfl⟩,fun k u y hu hy=>by
  rw [kH hi] at hu
  have hl:V.low 0 u=true:=by
   obtain ⟨k,n,rfl⟩:=hi u (List.mem_of_getElem? hu)
   rfl
  exact ⟨(he.vt ⟨Dl k u y hu hy,t_ k u y hu hy⟩).rel.low hl,oI y (Array.mem_toList_iff.2 (Array.mem_of_getElem? hy))⟩⟩)
 have hlen:(ob++[af.buf false 1 v.cells]).length=ob.length+1:=by simp
 refine H.val (.ptr ob.length 0) _ ⟨t,ob++[.buf false 1 v.cells],nt,df⟩ _ _ a hk ⟨hw,?_,?_⟩ rfl ?_
 · show fy _ _ (ob++[af.buf false 1 v.cells]).length _ _ _
   rw [hlen];exact he.kf hs.ti
 · show gI _ _ (ob++[af.buf false 1 v.cells]).length _ _
   rw [hlen];exact he.kg hs.di
 · refine .of ?_ rfl
   show aw _ _ _ (ob++[af.buf false 1 v.cells]).length _ _
   rw [hlen]
   have:(aw (fun i=>if i=ob.length then w.heap.size else g.bs i) g.I (w.alloc (.cells x.cells T)) (ob.length+1) (.ptr ob.length 0) (.pointer (some ⟨if ob.length=ob.length then w.heap.size else g.bs ob.length,0,none⟩))):= .ptr (by omega)
   rw [if_pos rfl] at this
   exact this
theorem fW {P:Program} {T:TypeId} {K:V->Prop} (h:zeroV P T K): ∃i z,P.info? T=some i/\i.zero=some z/\K (ax z):=by
 unfold zeroV at h
 cases hi:P.info? T with
 | none=>simp [hi] at h
 | some i=>
   cases hz:i.zero with
   | none=>simp [hi,hz] at h
   | some z=>
     simp [hi,hz,bk] at h
     exact ⟨i,z,rfl,hz,h⟩
theorem zB {T:TypeId} (ho:o.op= .alloc T) (H:bu c a o.dst K KP next Q) (hs:cf c g w a ⟨t,ob,nt,df⟩)
 (h:zeroV S.P T fun z=>match z.cells.all V.aE &&z.jy with
 | true=>(match pc o.dst S.mu &&jA z.cells with
   | true=>e6 ob (.buf false 1 z.cells) fun n ob=>K (.ptr n 0) ⟨t,ob,nt,df⟩
   | false=>e6 ob (.cells true T z.cells) fun n ob=>K (.ptr n 0) ⟨t,ob,nt,df⟩)
 | false=>False):o.wp S.P a w next Q:=by
 obtain ⟨i,z,hi,hz,hk⟩:=fW h
 split at hk
 case h_2=>exact hk.elim
 rename_i gb
 simp only [Bool.and_eq_true] at gb
 split at hk
 · rename_i SW
   simp only [Bool.and_eq_true] at SW
   have hk:=dd hk
   refine Jy (T:=T) (x:=z) H hs (bP z) (.fA (fh z)) gb.1 gb.2 SW.2 ?_ hk
   simp [execOp,ho,Instr.alloc,zeroValue,typeInfo,hi,hz,newVar,newRow]
 have hk:=dd hk
 refine ua (x:=z) H hs (bP z) (.fA (fh z)) gb.1 gb.2 ?_ hk
 simp [execOp,ho,Instr.alloc,zeroValue,typeInfo,hi,hz,newVar,newRow]
theorem EK {T:TypeId} {x:Operand} (ho:o.op= .box T x) (H:bu c a o.dst K KP next Q) (hs:cf c g w a ⟨t,ob,nt,df⟩)
 (h:ev t x fun v=>v.aH fun v=>match v.cells.all V.aE &&v.jy with
 | true=>e6 ob (.cells true T v.cells) fun n ob=>K (.ptr n 0) ⟨t,ob,nt,df⟩
 | false=>False):o.wp S.P a w next Q:=by
 obtain ⟨v,hv,hk⟩:=aG hs.ti h
 simp only [V.aH,bk] at hk
 split at hk
 case h_2=>exact hk.elim
 rename_i gb
 simp only [Bool.and_eq_true] at gb
 have hk:=dd hk
 refine ua (x:=a.eval x) H hs hv.rel.bj (.fA (bB v)) gb.1 gb.2 ?_ hk
 simp [execOp,ho,Instr.box,newVar,newRow]
theorem p8 {P:Program} {T:TypeId} {i:Nat} {fd:Field} (h:(fieldsOf P T)[i]? =some fd): ∃fs,P.underlying T=some (.struct fs)/\fs[i]? =some fd:=by
 unfold fieldsOf at h
 split at h
 · rename_i fs hu;exact ⟨fs,hu,by simpa using h⟩
 · simp at h
theorem nj {P:Program} {T:TypeId} {n:Nat} (h:dk P T=n+1): ∃i,P.info? T=some i/\i.size=n+1:=by
 unfold dk at h
 cases hi:P.info? T with
 | none=>simp [hi] at h
 | some i=>exact ⟨i,rfl,by simpa [hi] using h⟩
theorem nk {P:Program} {T:TypeId} {i:Nat} {fd:Field} {fs:Array Field} {n:Nat} (hu:P.underlying T=some (.struct fs)) (hf:fs[i]? =some fd) (hz:dk P fd.type=n+1) (b off:Nat):
 (Instr.fieldAt T (.pointer (some ⟨b,off,none⟩)) i).run P w= .ok (.pointer (some ⟨b,off+fd.offset,none⟩)) w:=by
 obtain ⟨inf,hi,hs⟩:=nj hz
 have cg:(Go.sizeOf fd.type).run P w= .ok inf.size w:=by simp [Go.sizeOf,typeInfo,hi]
 simp [Instr.fieldAt,run_underlying hu,hf,Instr.sureAddr,fieldPlace,cg,hs,Addr.add_mid]
theorem sJ {T:TypeId} {x:Operand} {f:Nat} (ho:o.op= .fieldAddr T x f) (H:bu c a o.dst K KP next Q) (hs:cf c g w a ⟨t,ob,nt,df⟩)
 (h:ev t x fun p=>match (fieldsOf S.P T)[f]? with
 | some fd=>match dk S.P fd.type with
   | 0=>False
   | _+1=>(match p with
     | .ptr i off=>K (.ptr i (off+fd.offset)) ⟨t,ob,nt,df⟩
     | .dp c=>iT c fd.offset fun c=>K (.dp c) ⟨t,ob,nt,df⟩
     | .bp o z i off=>K (.bp o z i (off+fd.offset)) ⟨t,ob,nt,df⟩
     | _=>False)
 | none=>False):o.wp S.P a w next Q:=by
 obtain ⟨p,hp,hk⟩:=aG hs.ti h
 split at hk
 case h_2=>exact hk.elim
 rename_i fd hf
 obtain ⟨fs,hu,hf⟩:=p8 hf
 split at hk
 · exact hk.elim
 rename_i m hz
 have hr:=hp.rel
 split at hk
 · rename_i i off
   generalize hx:a.eval x=e at hr
   cases hr with | ptr aJ=>
   exact H.same hs (x:= .pointer (some ⟨g.bs i,off+fd.offset,none⟩)) (by simp [execOp,ho,hx,nk hu hf hz]) (.of (.ptr aJ) rfl) hk
 · rename_i cs
   obtain ⟨h1,hk⟩:=fV hk
   generalize hx:a.eval x=e at hr
   cases hr with | @dp _ _ b off u hc ub=>
   refine H.same hs (x:= .pointer (some ⟨b,off+fd.offset,none⟩)) (by simp [execOp,ho,hx,nk hu hf hz]) (.of (.dp (fun k=>u (fd.offset+k)) (fun k v hv=> ?_) (fun k v hv=> ?_)) rfl) hk
   · rw [List.getElem?_drop] at hv
     have:=hc _ v hv
     rwa [show off+(fd.offset+k)=off+fd.offset+k by omega] at this
   · rw [List.getElem?_drop] at hv
     exact ub _ v hv
 · rename_i o1 z i off
   generalize hx:a.eval x=e at hr
   cases hr with | bp aJ=>
   exact H.same hs (x:= .pointer (some ⟨g.bs o1,i*z+(off+fd.offset),none⟩)) (by simp [execOp,ho,hx,nk hu hf hz,Nat.add_assoc]) (.of (.bp aJ) rfl) hk
 · exact hk.elim
theorem uc {P:Program} {bs:Nat->Nat} {I:Nat->Nat->Prop} {n:Nat} {T:TypeId} {l:List V} {ca:Array Value} {off:Nat} {K:V->Prop} (hl:l.length=ca.size)
 (hr: ∀(k:Nat) v c,l[k]? =some v->ca[k]? =some c->aw bs I w n v c) (Ou:off<=l.length) (h:im P T (l.drop off) K):
 ∃v c,K v/\aw bs I w n v c/\(v.cB=true\/l[off]? =some v)/\(part T ca off).run P w= .ok c w:=by
 have row: ∀ {d:TypeDesc},P.underlying T=some d->d.isRow=true->(tK (l.drop off) (dk P T) fun l=>cd V.aH l fun l=>K (.agg l))->
  ∃v c,K v/\aw bs I w n v c/\(v.cB=true\/l[off]? =some v)/\(part T ca off).run P w= .ok c w:=fun {d} hu hd h=>by
  obtain ⟨i,hi⟩:=info_of_underlying hu
  obtain ⟨h1,h2⟩:=qX h
  have h2:=dq h2
  have cg:(Go.sizeOf T).run P w= .ok (dk P T) w:=by simp [Go.sizeOf,typeInfo,hi,dk]
  refine ⟨_,.agg (ca.extract off (off+dk P T)),h2,.agg (by simp at h1 ⊢;omega) fun k v c hv hk=> ?_,.inl rfl,by simp [part,qY hu,hd,cg]⟩
  rw [List.getElem?_map] at hv
  obtain ⟨u,hu,rfl⟩:=Option.map_eq_some_iff.1 hv
  rw [List.getElem?_take] at hu
  split at hu
  · rw [List.getElem?_drop] at hu
    rw [Array.getElem?_extract] at hk
    split at hk
    · exact (hr _ u c hu hk).bj
    · exact absurd hk (by simp)
  · exact absurd hu (by simp)
 unfold im at h
 split at h
 · rename_i hu;exact row hu rfl h
 · rename_i hu;exact row hu rfl h
 · rename_i d h1 h2 hu
   have hd:d.isRow=false:=by cases d<;>first | rfl | exact absurd rfl (h1 _) | exact absurd rfl (h2 _ _)
   have h0: ∃v,l[off]? =some v/\K v:=by
    cases Lm:l.drop off with
    | nil=>rw [Lm] at h;exact h.elim
    | cons v r=>
      rw [Lm] at h
      refine ⟨v,?_,by simpa [bk] using h⟩
      have:=congrArg (fun x=>x[0]?) Lm
      simpa [List.getElem?_drop] using this
   obtain ⟨v,hv,hK⟩:=h0
   have aJ:off<ca.size:=by rw [←hl];exact (List.getElem?_eq_some_iff.1 hv).1
   exact ⟨v,ca[off],hK,hr off v _ hv (by simp [aJ]),.inr hv,by simp [part,qY hu,hd,aJ]⟩
 · exact h.elim
theorem cD {P:Program} {T:TypeId} {K:Nat->Prop} (h:jm P T K): ∃i,P.info? T=some i/\0<i.size/\K i.size:=by
 unfold jm at h
 split at h
 · exact h.elim
 · rename_i n hz
   obtain ⟨i,hi,hs⟩:=nj hz
   exact ⟨i,hi,by omega,hs▸h⟩
theorem cH {P:Program} {T:TypeId} {i:TypeInfo} (h:P.info? T=some i):(Go.sizeOf T).run P w= .ok i.size w:=by simp [Go.sizeOf,typeInfo,h]
theorem zC {T:TypeId} {x:Operand} {f:Nat} (ho:o.op= .field T x f) (H:bu c a o.dst K KP next Q) (hs:cf c g w a ⟨t,ob,nt,df⟩)
 (h:ev t x fun x=>match (fieldsOf S.P T)[f]?,x with
 | some fd,.agg cs=>iT cs fd.offset fun cs=>im S.P fd.type cs fun v=>v.aH fun v=>K v ⟨t,ob,nt,df⟩
 | _,_=>False):o.wp S.P a w next Q:=by
 obtain ⟨p,hp,hk⟩:=aG hs.ti h
 split at hk
 case h_2=>exact hk.elim
 rename_i fd cs hf
 obtain ⟨fs,hu,hf⟩:=p8 hf
 obtain ⟨h1,hk⟩:=fV hk
 have hr:=hp.rel
 generalize hx:a.eval x=e at hr
 cases hr with | agg hl hh=>
 obtain ⟨v,y,hK,hv,_,aS⟩:=uc (w:=w) hl hh h1 hk
 simp only [V.aH,bk] at hK
 exact H.same hs (x:=y) (by simp [execOp,ho,hx,Instr.field,run_underlying hu,hf,asAgg,aS]) (.of hv.bj (bB _)) hK
theorem zD {T:TypeId} {x ix:Operand} (ho:o.op= .index T x ix) (H:bu c a o.dst K KP next Q) (hs:cf c g w a ⟨t,ob,nt,df⟩)
 (h:ev t x fun x=>ev t ix fun i=>match i with
 | .int _ n=>(match S.P.underlying T,x with
   | some .string,.str b=>0<=n/\ ∃c,b[n.toNat]? =some c/\K (.int .u8 c.toNat) ⟨t,ob,nt,df⟩
   | some (.array len e),.agg cs=>jm S.P e fun z=>0<=n/\n<len/\iT cs (n.toNat*z) fun cs=>im S.P e cs fun v=>v.aH fun v=>K v ⟨t,ob,nt,df⟩
   | _,_=>False)
 | _=>False):o.wp S.P a w next Q:=by
 obtain ⟨p,hp,sK⟩:=aG hs.ti h
 obtain ⟨i,hi,hk⟩:=aG hs.ti sK
 clear sK
 split at hk
 case h_2=>exact hk.elim
 rename_i k n
 have Ov:=hi.rel
 generalize Jz:a.eval ix=ei at Ov
 cases Ov
 have hr:=hp.rel
 split at hk
 · rename_i b hu
   obtain ⟨h1,y,h2,hk⟩:=hk
   generalize hx:a.eval x=e at hr
   cases hr
   exact H.same hs (x:= .int .u8 y.toNat) (by simp [execOp,ho,hx,Jz,Instr.index,asIntOf,run_underlying hu,h1,h2]) (.of .int rfl) hk
 · rename_i len e cs hu
   obtain ⟨inf,de,dh,h1,h2,hk⟩:=cD hk
   obtain ⟨h3,hk⟩:=fV hk
   generalize hx:a.eval x=e at hr
   cases hr with | agg hl hh=>
   obtain ⟨v,y,hK,hv,_,aS⟩:=uc (w:=w) hl hh h3 hk
   simp only [V.aH,bk] at hK
   exact H.same hs (x:=y) (by simp [execOp,ho,hx,Jz,Instr.index,asIntOf,run_underlying hu,h1,h2,cH de,aS]) (.of hv.bj (bB _)) hK
 · exact hk.elim
theorem la {l:List V} {sz:Nat} (hz: ∀x∈l,x.cells.length=sz/\x.cells.all V.aE=true) {i:Nat} {x:V} (hx:l[i]? =some x) {k:Nat} {v:V} (hv:x.cells[k]? =some v):
 (l.flatMap V.cells)[i*sz+k]? =some v:=by
 induction l generalizing i with
 | nil=>simp at hx
 | cons y r ih=>
   have hy:=(hz y (by simp)).1
   rw [List.flatMap_cons]
   cases i with
   | zero=>
     simp at hx
     subst hx
     rw [List.getElem?_append_left (by have:=(List.getElem?_eq_some_iff.1 hv).1;omega)]
     simpa using hv
   | succ i=>
     rw [List.getElem?_append_right (by rw [hy,Nat.succ_mul];omega),hy]
     have:=ih (fun x hx=>hz x (by simp [hx])) (i:=i) (by simpa using hx)
     rwa [show (i+1)*sz+k - sz=i*sz+k by rw [Nat.succ_mul];omega]
theorem ku {P:Program} {T e:TypeId} {inf:TypeInfo} {n:Int} {k:IntKind} (hu:P.underlying T=some (.slice e)) (hi:P.info? e=some inf) (b off len cap:Nat) (h1:0<=n) (h2:n<len):
 (Instr.indexAt T (.slice (some ⟨b,off,none⟩) len cap) (.int k n)).run P w= .ok (.pointer (some ⟨b,off+n.toNat*inf.size,none⟩)) w:=by
 simp [Instr.indexAt,asIntOf,run_underlying hu,h1,h2,cH hi,Addr.add_mid]
theorem sM {T:TypeId} {x ix:Operand} (ho:o.op= .indexAddr T x ix) (H:bu c a o.dst K KP next Q) (hs:cf c g w a ⟨t,ob,nt,df⟩)
 (h:ev t x fun p=>ev t ix fun i=>match i with
 | .int _ n=>(match S.P.underlying T,p with
   | some (.array len e),.ptr j off=>jm S.P e fun z=>0<=n/\n<len/\cA ob j fun o1=>(match o1 with
     | .buf _ z' _ _=>(match Nat.beq z z',off with | true,0=>K (.bp j z n.toNat 0) ⟨t,ob,nt,df⟩ | _,_=>False)
     | _=>K (.ptr j (off+n.toNat*z)) ⟨t,ob,nt,df⟩)
   | some (.slice e),.bX o z lo m _=>jm S.P e fun z'=>(match Nat.beq z z' with | true=>0<=n/\n.toNat<m/\K (.bp o z (lo+n.toNat) 0) ⟨t,ob,nt,df⟩ | false=>False)
   | some (.array len e),.dp c=>jm S.P e fun z=>0<=n/\n<len/\iT c (n.toNat*z) fun c=>K (.dp c) ⟨t,ob,nt,df⟩
   | some (.slice e),.sl l _=>jm S.P e fun z=>0<=n/\ ∃x,l[n.toNat]? =some x/\x.cells.length=z/\K (.dp x.cells) ⟨t,ob,nt,df⟩
   | some (.slice e),.spare l _=>jm S.P e fun z=>0<=n/\ ∃x,l[n.toNat]? =some x/\x.cells.length=z/\K (.dp x.cells) ⟨t,ob,nt,df⟩
   | some (.slice e),.pM l=>jm S.P e fun z=>0<=n/\ ∃x,l[n.toNat]? =some x/\x.cells.length=z/\K (.dp x.cells) ⟨t,ob,nt,df⟩
   | _,_=>False)
 | _=>False):o.wp S.P a w next Q:=by
 obtain ⟨p,hp,sK⟩:=aG hs.ti h
 obtain ⟨i,hi,hk⟩:=aG hs.ti sK
 clear sK
 split at hk
 case h_2=>exact hk.elim
 rename_i k n
 have Ov:=hi.rel
 generalize Jz:a.eval ix=ei at Ov
 cases Ov
 have hr:=hp.rel
 split at hk
 · rename_i len e j off hu
   obtain ⟨inf,de,dh,h1,h2,hk⟩:=cD hk
   generalize hx:a.eval x=e at hr
   cases hr with | ptr aJ=>
   have aS:(execOp a.eval o).run S.P w= .ok (.value (.pointer (some ⟨g.bs j,off+n.toNat*inf.size,none⟩))) w:=by simp [execOp,ho,hx,Jz,Instr.indexAt,asIntOf,run_underlying hu,Instr.sureAddr,h1,h2,cH de,Addr.add_mid]
   obtain ⟨x1,Dm,hk⟩:=aX hk
   split at hk
   · split at hk
     · refine H.same hs aS (.of ?_ rfl) hk
       have hb:aw g.bs g.I w ob.length (.bp j inf.size n.toNat 0) (.pointer (some ⟨g.bs j,n.toNat*inf.size+0,none⟩)):= .bp aJ
       simpa using hb
     · exact hk.elim
   · exact H.same hs aS (.of (.ptr aJ) rfl) hk
 · rename_i e o1 z lo m c1 hu
   obtain ⟨inf,de,dh,hk⟩:=cD hk
   split at hk
   case h_2=>exact hk.elim
   rename_i hz
   have hz:=Nat.eq_of_beq_eq_true hz
   obtain ⟨h1,h2,hk⟩:=hk
   generalize hx:a.eval x=e at hr
   cases hr with | @bX _ _ _ _ _ cap ad aJ N1 ha=>
   obtain rfl:=ha.resolve_left (by omega)
   refine H.same hs (x:= .pointer (some ⟨g.bs o1,lo*z+n.toNat*inf.size,none⟩)) (by simp [execOp,ho,hx,Jz,ku hu de (g.bs o1) (lo*z) m c1 h1 (show n<(m:Int) by omega)]) (.of ?_ rfl) hk
   have hb:aw g.bs g.I w ob.length (.bp o1 z (lo+n.toNat) 0) (.pointer (some ⟨g.bs o1,(lo+n.toNat)*z+0,none⟩)):= .bp aJ
   rw [hz,Nat.add_mul] at hb
   rw [hz];simpa using hb
 · rename_i len e cs hu
   obtain ⟨inf,de,dh,h1,h2,hk⟩:=cD hk
   obtain ⟨h3,hk⟩:=fV hk
   generalize hx:a.eval x=e at hr
   cases hr with | @dp _ _ b off u hc ub=>
   refine H.same hs (x:= .pointer (some ⟨b,off+n.toNat*inf.size,none⟩)) (by simp [execOp,ho,hx,Jz,Instr.indexAt,asIntOf,run_underlying hu,Instr.sureAddr,h1,h2,cH de,Addr.add_mid])
    (.of (.dp (fun k=>u (n.toNat*inf.size+k)) (fun k v hv=> ?_) (fun k v hv=> ?_)) rfl) hk
   · rw [List.getElem?_drop] at hv
     have:=hc _ v hv
     rwa [show off+(n.toNat*inf.size+k)=off+n.toNat*inf.size+k by omega] at this
   · rw [List.getElem?_drop] at hv
     exact ub _ v hv
 · rename_i e l r hu
   obtain ⟨inf,de,dh,h1,y,h2,h3,hk⟩:=cD hk
   have aJ:=(List.getElem?_eq_some_iff.1 h2).1
   generalize hx:a.eval x=e at hr
   cases hr with
   | slnil=>simp at aJ
   | @sl _ _ _ b off len cap sz u hl cu _ hz hc ub=>
     have cg:sz=inf.size:=by rw [←h3,(hz y (List.mem_of_getElem? h2)).1]
     refine H.same hs (x:= .pointer (some ⟨b,off+n.toNat*inf.size,none⟩)) (by simp [execOp,ho,hx,Jz,ku hu de b off len cap h1 (show n<(len:Int) by omega)])
      (.of (.dp (fun k=>u (n.toNat*inf.size+k)) (fun k v hv=> ?_) (fun k v hv=> ?_)) rfl) hk
     · have:=hc _ v (la hz h2 hv)
       rw [cg] at this
       rwa [show off+(n.toNat*inf.size+k)=off+n.toNat*inf.size+k by omega] at this
     · have:=ub _ v (la hz h2 hv)
       rw [cg] at this
       exact this.mono (fun o ho=>absurd ho (by omega)) fun b k h=>⟨h,rfl⟩
 · rename_i e l m hu
   obtain ⟨inf,de,dh,h1,y,h2,h3,hk⟩:=cD hk
   have aJ:=(List.getElem?_eq_some_iff.1 h2).1
   generalize hx:a.eval x=e at hr
   cases hr with
   | @spare _ _ _ b off len cap sz u hl cu hz hc ub=>
     have zc:(l++m)[n.toNat]? =some y:=by rw [List.getElem?_append_left aJ];exact h2
     have cg:sz=inf.size:=by rw [←h3,(hz y (List.mem_of_getElem? zc)).1]
     refine H.same hs (x:= .pointer (some ⟨b,off+n.toNat*inf.size,none⟩)) (by simp [execOp,ho,hx,Jz,ku hu de b off len cap h1 (show n<(len:Int) by omega)])
      (.of (.dp (fun k=>u (n.toNat*inf.size+k)) (fun k v hv=> ?_) (fun k v hv=> ?_)) rfl) hk
     · have:=hc _ v (la hz zc hv)
       rw [cg] at this
       rwa [show off+(n.toNat*inf.size+k)=off+n.toNat*inf.size+k by omega] at this
     · have:=ub _ v (la hz zc hv)
       rw [cg] at this
       exact this.mono (fun o ho=>absurd ho (by omega)) fun b k h=>⟨h,rfl⟩
 · rename_i e l hu
   obtain ⟨inf,de,dh,h1,y,h2,h3,hk⟩:=cD hk
   have aJ:=(List.getElem?_eq_some_iff.1 h2).1
   generalize hx:a.eval x=e at hr
   cases hr with
   | @pM _ _ b off len cap sz u hl cu hz hc ub=>
     have cg:sz=inf.size:=by rw [←h3,(hz y (List.mem_of_getElem? h2)).1]
     refine H.same hs (x:= .pointer (some ⟨b,off+n.toNat*inf.size,none⟩)) (by simp [execOp,ho,hx,Jz,ku hu de b off len cap h1 (show n<(len:Int) by omega)])
      (.of (.dp (fun k=>u (n.toNat*inf.size+k)) (fun k v hv=> ?_) (fun k v hv=> ?_)) rfl) hk
     · have:=hc _ v (la hz h2 hv)
       rw [cg] at this
       rwa [show off+(n.toNat*inf.size+k)=off+n.toNat*inf.size+k by omega] at this
     · have:=ub _ v (la hz h2 hv)
       rw [cg] at this
       exact this
 · exact hk.elim
end
end VL
namespace VL
open Go
section
variable {S:Sys} {c:Ctx} {g:G} {w:World} {a:Act} {o:Oper} {K KP:V->St->Prop} {next:Act->World->Prop} {Q:Exit->Act->World->Prop}
 {t:List V} {ob:List af} {nt:Nat} {df:List (Fn × List V × List V)}
def Dn (a:Act) (lo:Option Operand) (n:Int):Prop:=
 match lo with
 | none=>n=0
 | some y=> ∃k,a.eval y= .int k n
theorem ud {g:G} {n nt:Nat} (h:fy g w n nt a.tmps t) {lo:Option Operand} {K:Int->Prop} (hk:sE t lo K): ∃n,Dn a lo n/\K n:=by
 unfold sE at hk
 cases lo with
 | none=>exact ⟨0,rfl,hk⟩
 | some y=>
   obtain ⟨v,hv,hk⟩:=aG h hk
   cases v<;>try exact hk.elim
   rename_i k n
   have hr:=hv.rel
   generalize hx:a.eval y=e at hr
   cases hr
   exact ⟨n,⟨k,hx⟩,hk⟩
theorem jo {P:Program} {isSlice:Bool} {len cap:Nat} {lo:Option Operand} {n:Int} (h:Dn a lo n) (h0:0<=n) (h1:n<=len):
 (Instr.sliceBounds isSlice len cap (lo.map a.eval) none none).run P w= .ok (n.toNat,len,cap) w:=by
 cases lo with
 | none=>cases h;simp [Instr.sliceBounds]
 | some y=>
   obtain ⟨k,hk⟩:=h
   simp [Instr.sliceBounds,hk,run_sliceBound w k n len _ h0 h1]
theorem fX {P:Program} {isSlice:Bool} {len cap:Nat} {lo:Option Operand} {n m:Int} {k:IntKind} (h:Dn a lo n) (h0:0<=n) (h1:n<=m) (h2:m<=cap):
 (Instr.sliceBounds isSlice len cap (lo.map a.eval) (some (.int k m)) none).run P w= .ok (n.toNat,m.toNat,cap) w:=by
 have h3:(m.toNat:Int)=m:=Int.toNat_of_nonneg (by omega)
 cases lo with
 | none=>cases h;simp [Instr.sliceBounds,run_sliceBound w k m cap _ (by omega) h2]
 | some y=>
   obtain ⟨k',hk⟩:=h
   simp [Instr.sliceBounds,hk,run_sliceBound w k m cap _ (by omega) h2,run_sliceBound w k' n m.toNat _ h0 (by omega)]
theorem oR {P:Program} {T:TypeId} {s:ByteArray} {lo:Option Operand} {hi:Option Value} {n m p:Nat} (hu:P.underlying T=some .string)
 (h:(Instr.sliceBounds false s.size s.size (lo.map a.eval) hi none).run P w= .ok (n,m,p) w):
 (Instr.sliceAt T (.string s) (lo.map a.eval) hi none).run P w= .ok (.string (s.extract n m)) w:=by
 simp [Instr.sliceAt,Instr.slice,run_underlying hu,h]
theorem ep {P:Program} {T e:TypeId} {inf:TypeInfo} {ad:Option Addr} {len cap:Nat} {lo:Option Operand} {hi:Option Value} {n m p:Nat} (hu:P.underlying T=some (.slice e)) (mT:P.info? e=some inf)
 (h:(Instr.sliceBounds true len cap (lo.map a.eval) hi none).run P w= .ok (n,m,p) w):
 (Instr.sliceAt T (.slice ad len cap) (lo.map a.eval) hi none).run P w= .ok (.slice (if p=n then ad else ad.map (·.add (n*inf.size))) (m - n) (p - n)) w:=by
 simp [Instr.sliceAt,Instr.slice,run_underlying hu,h,cH mT]
theorem qZ {l:List V} {sz:Nat} (hz: ∀x∈l,x.cells.length=sz/\x.cells.all V.aE=true): ∀(n:Nat),(l.drop n).flatMap V.cells=(l.flatMap V.cells).drop (n*sz):=by
 induction l with
 | nil=>simp
 | cons x r ih=>
   intro n
   cases n with
   | zero=>simp
   | succ n=>
     rw [List.drop_succ_cons,ih (fun y hy=>hz y (by simp [hy])),List.flatMap_cons,List.drop_append,(hz x (by simp)).1,Nat.succ_mul]
     rw [show x.cells.drop (n*sz+sz)=[] from List.drop_eq_nil_of_le (by rw [(hz x (by simp)).1];omega),List.nil_append]
     congr 1;omega
theorem lb {l:List V} {sz:Nat} (hz: ∀x∈l,x.cells.length=sz/\x.cells.all V.aE=true): ∀(n:Nat),(l.take n).flatMap V.cells=(l.flatMap V.cells).take (n*sz):=by
 induction l with
 | nil=>simp
 | cons x r ih=>
   intro n
   cases n with
   | zero=>simp
   | succ n=>
     rw [List.take_succ_cons,List.flatMap_cons,ih (fun y hy=>hz y (by simp [hy])),List.flatMap_cons,List.take_append,(hz x (by simp)).1,Nat.succ_mul]
     rw [List.take_of_length_le (l:=x.cells) (by rw [(hz x (by simp)).1];omega)]
     congr 2;omega
theorem jI {l:List V} {sz:Nat} (hz: ∀x∈l,x.cells.length=sz):(l.flatMap V.cells).length=l.length*sz:=by
 induction l with
 | nil=>simp
 | cons x r ih=>
   rw [List.flatMap_cons,List.length_append,ih (fun y hy=>hz y (by simp [hy])),hz x (by simp),List.length_cons,Nat.succ_mul];omega
theorem aw.cut {bs:Nat->Nat} {I:Nat->Nat->Prop} {n:Nat} {l:List V} {r r':Room} {b off len cap z:Nat} (h:aw bs I w n (.sl l r) (.slice (some ⟨b,off,none⟩) len cap)) (hz: ∀x∈l,x.cells.length=z)
 {lo hi:Nat} (h1:lo<=hi) (h2:hi<=l.length) (hr:r'= .ex->cap=hi):
 aw bs I w n (.sl ((l.take hi).drop lo) r') (.slice (if cap=lo then some ⟨b,off,none⟩ else some ⟨b,off+lo*z,none⟩) (hi - lo) (cap - lo)):=by
 cases h with
 | @sl _ _ _ _ _ _ _ sz u hl cu EC c_ hc hu=>
   have hlen:hi - lo=((l.take hi).drop lo).length:=by simp;omega
   by_cases ka:cap=lo
   · rw [if_pos ka]
     have Q1:(l.take hi).drop lo=[]:=List.drop_eq_nil_of_le (by simp;omega)
     rw [Q1] at hlen ⊢
     exact .sl (sz:=sz) u hlen (by simp at hlen;omega) (fun e=>by have:=hr e;simp at hlen;omega) (by simp) (by simp) (by simp)
   · rw [if_neg ka]
     by_cases bZ:l=[]
     · subst bZ
       simp at h2
       refine .sl (sz:=sz) u hlen (by simp at hlen ⊢;omega) (fun e=>by have:=hr e;omega) (by simp) (by simp) (by simp)
     · have cg:sz=z:=by
        obtain ⟨x,hx⟩:=List.exists_mem_of_ne_nil l bZ
        rw [←(c_ x hx).1,hz x hx]
       subst cg
       have kv:((l.take hi).drop lo).flatMap V.cells=((l.flatMap V.cells).take (hi*sz)).drop (lo*sz):=by
        rw [qZ (fun x hx=>c_ x (List.mem_of_mem_take hx)),lb c_]
       refine .sl (sz:=sz) (fun k=>u (lo*sz+k)) hlen (by omega) (fun e=>by have:=hr e;omega) (fun x hx=>c_ x (List.mem_of_mem_take (List.mem_of_mem_drop hx))) (fun k v hk=> ?_) (fun k v hk=> ?_)
       · rw [kv,List.getElem?_drop,List.getElem?_take] at hk
         split at hk
         · have:=hc _ v hk
           rwa [show off+(lo*sz+k)=off+lo*sz+k by omega] at this
         · exact absurd hk (by simp)
       · rw [kv,List.getElem?_drop,List.getElem?_take] at hk
         split at hk
         · exact hu _ v hk
         · exact absurd hk (by simp)
theorem Tok.drop {db:Nat->Bw} {nt:Nat} {l:List V} {r:Room} {b off len cap z n:Nat} (h:Tok db nt (.sl l r) (.slice (some ⟨b,off,none⟩) len cap)) (hlen:len=l.length) (hn:n<=l.length) (cu:len<=cap)
 (hz: ∀x∈l,x.cells.length=z) (SX:0<z) (pN:l=[]->n=0):
 Tok db nt (.sl (l.drop n) r) (.slice (if cap=n then some ⟨b,off,none⟩ else some ⟨b,off+n*z,none⟩) (len - n) (cap - n)):=by
 cases r with
 | tok i sz=>
   obtain ⟨h1,h2,h3,a,Q2,Gs,he,h4⟩:=h
   cases he
   refine ⟨h1,h2,fun x hx=>h3 x (List.mem_of_mem_drop hx),_,_,_,rfl,?_⟩
   rcases h4 with h4 | ⟨TW,ho,h5,h6⟩
   · exact .inl (by omega)
   · by_cases Dp:cap=n
     · exact .inl (by omega)
     · right
       cases ho
       by_cases hl:l=[]
       · have:=pN hl
         subst this
         rw [if_neg Dp]
         exact ⟨off,by simp,by simpa using h5,by simpa using h6⟩
       · have cg:sz=z:=by
          obtain ⟨x,hx⟩:=List.exists_mem_of_ne_nil l hl
          rw [←h3 x hx,hz x hx]
         subst cg
         rw [if_neg Dp]
         refine ⟨off+n*sz,rfl,?_,?_⟩
         · rw [←h5,Nat.sub_mul]
           have:n*sz<=len*sz:=Nat.mul_le_mul_right _ (by omega)
           omega
         · rw [show cap - n - (len - n)=cap - len by omega];exact h6
 | _=>trivial
theorem aw.xS {bs:Nat->Nat} {I:Nat->Nat->Prop} {n:Nat} {o z lo len cap:Nat} {ad:Option Addr} (h:aw bs I w n (.bX o z lo len cap) (.slice ad len cap)) {l m p:Nat} (h1:l<=m) (h2:m<=p) (h3:p<=cap):
 aw bs I w n (.bX o z (lo+l) (m - l) (p - l)) (.slice (if p=l then ad else ad.map (·.add (l*z))) (m - l) (p - l)):=by
 cases h with | bX aJ hl ha hf=>
 have Q3:Plain (if p=l then ad else ad.map (·.add (l*z))):=by
  split
  · exact hf
  · rcases hf with rfl | ⟨b,k,rfl⟩
    · exact .inl rfl
    · exact .inr ⟨b,k+l*z,by rw [Option.map_some,Addr.add_mid]⟩
 by_cases hp:p=l
 · exact .bX aJ (by omega) (.inl (by omega)) Q3
 · rw [if_neg hp] at Q3 ⊢
   obtain rfl:=ha.resolve_left (by omega)
   refine .bX aJ (by omega) (.inr ?_) Q3
   rw [Option.map_some,Addr.add_mid,Nat.add_mul]
theorem pf {P:Program} {isSlice:Bool} {len cap:Nat} {lo:Option Operand} {n m p:Int} {k k':IntKind} (h:Dn a lo n) (h0:0<=n) (h1:n<=m) (h2:m<=p) (h3:p<=cap):
 (Instr.sliceBounds isSlice len cap (lo.map a.eval) (some (.int k m)) (some (.int k' p))).run P w= .ok (n.toNat,m.toNat,p.toNat) w:=by
 have e1:(p.toNat:Int)=p:=Int.toNat_of_nonneg (by omega)
 have e2:(m.toNat:Int)=m:=Int.toNat_of_nonneg (by omega)
 cases lo with
 | none=>cases h;simp [Instr.sliceBounds,run_sliceBound w k' p cap _ (by omega) h3,run_sliceBound w k m p.toNat _ (by omega) (by omega)]
 | some y=>
   obtain ⟨TX,hk⟩:=h
   simp [Instr.sliceBounds,hk,run_sliceBound w k' p cap _ (by omega) h3,run_sliceBound w k m p.toNat _ (by omega) (by omega),run_sliceBound w TX n m.toNat _ h0 (by omega)]
theorem kO {P:Program} {T e:TypeId} {inf:TypeInfo} {ad:Option Addr} {len cap:Nat} {lo:Option Operand} {hi mx:Option Value} {n m p:Nat} (hu:P.underlying T=some (.slice e)) (mT:P.info? e=some inf)
 (h:(Instr.sliceBounds true len cap (lo.map a.eval) hi mx).run P w= .ok (n,m,p) w):
 (Instr.sliceAt T (.slice ad len cap) (lo.map a.eval) hi mx).run P w= .ok (.slice (if p=n then ad else ad.map (·.add (n*inf.size))) (m - n) (p - n)) w:=by
 simp [Instr.sliceAt,Instr.slice,run_underlying hu,h,cH mT]
theorem xT {T:TypeId} {x:Operand} {lo:Option Operand} {hi mx:Operand} (ho:o.op= .slice T x lo (some hi) (some mx)) (H:bu c a o.dst K KP next Q) (hs:cf c g w a ⟨t,ob,nt,df⟩)
 (h0:ev t x fun x=>sE t lo fun l=>ev t hi fun h=>ev t mx fun m=>match x,h,m,S.P.underlying T with
 | .sl xs _,.int _ h,.int _ m,some (.slice e)=>jm S.P e fun z=>0<=l/\l<=h/\h=m/\h<=xs.length/\(∀x∈xs,x.cells.length=z)/\K (.sl ((xs.take h.toNat).drop l.toNat) .ex) ⟨t,ob,nt,df⟩
 | .bX o z a n c,.int _ h,.int _ m,some (.slice e)=>jm S.P e fun z'=>(match Nat.beq z z' with
   | true=>0<=l/\l<=h/\h<=m/\m<=c/\K (.bX o z (a+l.toNat) (h.toNat - l.toNat) (m.toNat - l.toNat)) ⟨t,ob,nt,df⟩
   | false=>False)
 | _,_,_,_=>False):o.wp S.P a w next Q:=by
 obtain ⟨p,hp,iM⟩:=aG hs.ti h0
 obtain ⟨l,jH,zA⟩:=ud hs.ti iM
 obtain ⟨vh,TY,N2⟩:=aG hs.ti zA
 obtain ⟨vm,TZ,hk⟩:=aG hs.ti N2
 clear iM zA N2 h0
 have hr:=hp.rel
 have Mc:=TY.rel
 have Gt:=TZ.rel
 split at hk
 · rename_i xs r k h k' m e hu
   obtain ⟨inf,de,dh,h1,h2,h3,h4,hz,eY⟩:=cD hk
   clear hk
   subst h3
   generalize hx:a.eval x=ex at hr
   generalize hy:a.eval hi=ey at Mc
   generalize hm:a.eval mx=em at Gt
   cases Mc;cases Gt
   cases hr with
   | slnil=>
     simp at h4
     have e1:h=0:=by omega
     have e2:l=0:=by omega
     subst e1;subst e2
     refine H.same hs (x:= .slice none 0 0) ?_ (.of (by simpa using (aw.slnil (n:=ob.length) (r:= .ex))) rfl) eY
     simp only [execOp,ho,hx,Sem.run_bind,Option.map_some,hy,hm,kO hu de (pf (len:=0) (cap:=0) jH h1 h2 (Int.le_refl _) (by simp)),Result.andThen_ok]
     rfl
   | @sl _ _ _ b off len cap sz u hl cu EC c_ hc ub=>
     have aS:=kO (ad:=some ⟨b,off,none⟩) hu de (pf (P:=S.P) (w:=w) (isSlice:=true) (len:=len) (cap:=cap) (k:=k) (k':=k') jH h1 h2 (Int.le_refl _) (by omega))
     have kW:aw g.bs g.I w ob.length (.sl (xs.take h.toNat) .ex) (.slice (some ⟨b,off,none⟩) h.toNat h.toNat):=by
      have BJ: ∀(k:Nat) v,((xs.take h.toNat).flatMap V.cells)[k]? =some v->(xs.flatMap V.cells)[k]? =some v:=fun k v hv=>by
       rw [lb c_,List.getElem?_take] at hv
       split at hv
       · exact hv
       · cases hv
      refine .sl u (by simp;omega) (Nat.le_refl _) (fun _=>rfl) (fun x hx=>c_ x (List.mem_of_mem_take hx)) (fun k v hv=>hc k v (BJ k v hv)) fun k v hv=>ub k v (BJ k v hv)
     have jJ:=kW.cut (r':= .ex) (lo:=l.toNat) (hi:=h.toNat) (fun x hx=>hz x (List.mem_of_mem_take hx)) (by omega) (by simp;omega) (fun _=>rfl)
     rw [List.take_take,Nat.min_self] at jJ
     refine H.same hs (x:= .slice (if h.toNat=l.toNat then some ⟨b,off,none⟩ else some ⟨b,off+l.toNat*inf.size,none⟩) (h.toNat - l.toNat) (h.toNat - l.toNat)) ?_ (.of jJ rfl) eY
     simp only [execOp,ho,hx,Sem.run_bind,Option.map_some,hy,hm,aS,Result.andThen_ok]
     simp only [Option.map_some,Addr.add_mid]
     rfl
 · rename_i o1 z a0 n c0 k h k' m e hu
   obtain ⟨inf,de,dh,hk⟩:=cD hk
   split at hk
   case h_2=>exact hk.elim
   rename_i hz
   have hz:=Nat.eq_of_beq_eq_true hz
   obtain ⟨h1,h2,h3,h4,hk⟩:=hk
   generalize hx:a.eval x=ex at hr
   generalize hy:a.eval hi=ey at Mc
   generalize hm:a.eval mx=em at Gt
   cases Mc;cases Gt
   have hex: ∃ad,ex= .slice ad n c0:=by cases hr;exact ⟨_,rfl⟩
   obtain ⟨ad,rfl⟩:=hex
   have aS:=kO (ad:=ad) hu de (pf (P:=S.P) (w:=w) (isSlice:=true) (len:=n) (cap:=c0) (k:=k) (k':=k') jH h1 h2 h3 h4)
   have jJ:=hr.xS (l:=l.toNat) (m:=h.toNat) (p:=m.toNat) (by omega) (by omega) (by omega)
   rw [hz] at jJ hk
   refine H.same hs ?_ (.of jJ rfl) hk
   simp only [execOp,ho,hx,Sem.run_bind,Option.map_some,hy,hm,aS,Result.andThen_ok]
   rfl
 · exact hk.elim
theorem xU {T:TypeId} {x:Operand} {lo hi:Option Operand} (ho:o.op= .slice T x lo hi none) (H:bu c a o.dst K KP next Q) (hs:cf c g w a ⟨t,ob,nt,df⟩)
 (h:ev t x fun x=>sE t lo fun l=>match x with
 | .str b=>match S.P.underlying T with
   | some .string=>(match (generalizing:=false) hi with
     | none=>0<=l/\l<=b.size/\K (.str (b.extract l.toNat b.size)) ⟨t,ob,nt,df⟩
     | some y=>ev t y fun y=>match y with
       | .int _ h=>0<=l/\l<=h/\h<=b.size/\K (.str (b.extract l.toNat h.toNat)) ⟨t,ob,nt,df⟩
       | _=>False)
   | _=>False
 | .sl xs r=>match S.P.underlying T with
   | some (.slice e)=>jm S.P e fun z=>(match (generalizing:=false) hi with
     | none=>0<=l/\l<=xs.length/\(∀x∈xs,x.cells.length=z)/\K (.sl (xs.drop l.toNat) r) ⟨t,ob,nt,df⟩
     | some y=>ev t y fun y=>match y with
       | .int _ h=>0<=l/\l<=h/\h<=xs.length/\(∀x∈xs,x.cells.length=z)/\K (.sl ((xs.take h.toNat).drop l.toNat) .no) ⟨t,ob,nt,df⟩
       | _=>False)
   | _=>False
 | .spare xs sp=>match S.P.underlying T with
   | some (.slice e)=>jm S.P e fun z=>(match (generalizing:=false) hi with
     | none=>False
     | some y=>ev t y fun y=>match y with
       | .int _ h=>0<=l/\l<=h/\h<=xs.length+sp.length/\(∀x∈xs++sp,x.cells.length=z)/\K (.sl (((xs++sp).take h.toNat).drop l.toNat) .no) ⟨t,ob,nt,df⟩
       | _=>False)
   | _=>False
 | .bX o z a n c=>match S.P.underlying T with
   | some (.slice e)=>jm S.P e fun z'=>(match (generalizing:=false) Nat.beq z z',hi with
     | true,none=>0<=l/\l<=n/\K (.bX o z (a+l.toNat) (n - l.toNat) (c - l.toNat)) ⟨t,ob,nt,df⟩
     | true,some y=>ev t y fun y=>match y with
       | .int _ h=>0<=l/\l<=h/\h<=c/\K (.bX o z (a+l.toNat) (h.toNat - l.toNat) (c - l.toNat)) ⟨t,ob,nt,df⟩
       | _=>False
     | _,_=>False)
   | _=>False
 | _=>False):o.wp S.P a w next Q:=by
 obtain ⟨p,hp,sK⟩:=aG hs.ti h
 obtain ⟨l,jH,hk⟩:=ud hs.ti sK
 clear sK h
 have hr:=hp.rel
 split at hk
 · -- a text
   rename_i b
   split at hk
   case h_2=>exact hk.elim
   rename_i hu
   generalize hx:a.eval x=e at hr
   cases hr
   cases hi with
   | none=>
     obtain ⟨h1,h2,hk⟩:=hk
     refine H.same hs (x:= .string (b.extract l.toNat b.size)) ?_ (.of .str rfl) hk
     simp only [execOp,ho,hx,Sem.run_bind,Option.map_none,oR hu (jo jH h1 h2),Result.andThen_ok]
     rfl
   | some y=>
     obtain ⟨v,hv,hk⟩:=aG hs.ti hk
     cases v<;>try exact hk.elim
     rename_i k m
     have Gu:=hv.rel
     generalize hy:a.eval y=ey at Gu
     cases Gu
     obtain ⟨h1,h2,h3,hk⟩:=hk
     refine H.same hs (x:= .string (b.extract l.toNat m.toNat)) ?_ (.of .str rfl) hk
     simp only [execOp,ho,hx,Sem.run_bind,Option.map_none,Option.map_some,hy,oR hu (fX jH h1 h2 h3),Result.andThen_ok]
     rfl
 · -- a slice
   rename_i xs r
   split at hk
   case h_2=>exact hk.elim
   rename_i e hu
   obtain ⟨inf,de,dh,hk⟩:=cD hk
   cases hi with
   | none=>
     obtain ⟨h1,h2,hz,hk⟩:=hk
     have t_:=hp.tok
     generalize hx:a.eval x=ex at hr t_
     cases hr with
     | slnil=>
       simp at h2
       have Dq:l=0:=by omega
       subst Dq
       refine H.same hs (x:= .slice none 0 0) ?_ ⟨by simpa using (aw.slnil (n:=ob.length) (r:=r)),?_⟩ hk
       · simp only [execOp,ho,hx,Sem.run_bind,Option.map_none,ep hu de (jo (len:=0) (cap:=0) jH h1 (by simp)),Result.andThen_ok]
         rfl
       · simpa using t_
     | @sl _ _ _ b off len cap sz u hl cu EC c_ hc ub=>
       have aS:=ep (ad:=some ⟨b,off,none⟩) hu de (jo (P:=S.P) (w:=w) (isSlice:=true) (len:=len) (cap:=cap) jH h1 (by omega))
       have jJ:=(aw.sl (n:=ob.length) u hl cu EC c_ hc ub).cut (r':=r) (lo:=l.toNat) (hi:=xs.length) hz (by omega) (Nat.le_refl _) (fun e=>by rw [EC e,hl])
       rw [List.take_length] at jJ
       rw [←hl] at jJ
       refine H.same hs (x:= .slice (if cap=l.toNat then some ⟨b,off,none⟩ else some ⟨b,off+l.toNat*inf.size,none⟩) (len - l.toNat) (cap - l.toNat)) ?_ ⟨jJ,t_.drop hl (by omega) cu hz dh (fun e=>by subst e;simp at h2;omega)⟩ hk
       simp only [execOp,ho,hx,Sem.run_bind,Option.map_none,aS,Result.andThen_ok]
       simp only [Option.map_some,Addr.add_mid]
       rfl
   | some y=>
     obtain ⟨v,hv,hk⟩:=aG hs.ti hk
     cases v<;>try exact hk.elim
     rename_i k m
     have Gu:=hv.rel
     generalize hy:a.eval y=ey at Gu
     cases Gu
     obtain ⟨h1,h2,h3,hz,hk⟩:=hk
     generalize hx:a.eval x=ex at hr
     cases hr with
     | slnil=>
       simp at h3
       have Dq:l=0:=by omega
       have Je:m=0:=by omega
       subst Dq;subst Je
       refine H.same hs (x:= .slice none 0 0) ?_ (.of (by simpa using (aw.slnil (n:=ob.length) (r:= .no))) rfl) hk
       simp only [execOp,ho,hx,Sem.run_bind,Option.map_none,Option.map_some,hy,ep hu de (fX (len:=0) (cap:=0) jH h1 h2 (by simp)),Result.andThen_ok]
       rfl
     | @sl _ _ _ b off len cap sz u hl cu EC c_ hc ub=>
       have aS:=ep (ad:=some ⟨b,off,none⟩) hu de (fX (P:=S.P) (w:=w) (isSlice:=true) (len:=len) (cap:=cap) (k:=k) jH h1 h2 (by omega))
       have jJ:=(aw.sl (n:=ob.length) u hl cu EC c_ hc ub).cut (r':= .no) (lo:=l.toNat) (hi:=m.toNat) hz (by omega) (by omega) (by simp)
       refine H.same hs (x:= .slice (if cap=l.toNat then some ⟨b,off,none⟩ else some ⟨b,off+l.toNat*inf.size,none⟩) (m.toNat - l.toNat) (cap - l.toNat)) ?_ (.of jJ rfl) hk
       simp only [execOp,ho,hx,Sem.run_bind,Option.map_none,Option.map_some,hy,aS,Result.andThen_ok]
       simp only [Option.map_some,Addr.add_mid]
       rfl
 · -- room that is known
   rename_i xs sp
   split at hk
   case h_2=>exact hk.elim
   rename_i e hu
   obtain ⟨inf,de,dh,hk⟩:=cD hk
   cases hi with
   | none=>exact hk.elim
   | some y=>
     obtain ⟨v,hv,hk⟩:=aG hs.ti hk
     cases v<;>try exact hk.elim
     rename_i k m
     have Gu:=hv.rel
     generalize hy:a.eval y=ey at Gu
     cases Gu
     obtain ⟨h1,h2,h3,hz,hk⟩:=hk
     generalize hx:a.eval x=ex at hr
     cases hr with
     | @spare _ _ _ b off len cap sz u hl cu c_ hc ub=>
       have aS:=ep (ad:=some ⟨b,off,none⟩) hu de (fX (P:=S.P) (w:=w) (isSlice:=true) (len:=len) (cap:=cap) (k:=k) jH h1 h2 (by omega))
       have Ow:aw g.bs g.I w ob.length (.sl (xs++sp) .no) (.slice (some ⟨b,off,none⟩) (xs.length+sp.length) cap):= .sl u (by simp) (by omega) (by simp) c_ hc ub
       have jJ:=Ow.cut (r':= .no) (lo:=l.toNat) (hi:=m.toNat) hz (by omega) (by simp;omega) (by simp)
       refine H.same hs (x:= .slice (if cap=l.toNat then some ⟨b,off,none⟩ else some ⟨b,off+l.toNat*inf.size,none⟩) (m.toNat - l.toNat) (cap - l.toNat)) ?_ (.of jJ rfl) hk
       simp only [execOp,ho,hx,Sem.run_bind,Option.map_none,Option.map_some,hy,aS,Result.andThen_ok]
       simp only [Option.map_some,Addr.add_mid]
       rfl
 · -- a row that is written
   rename_i o1 z a0 n c0
   split at hk
   case h_2=>exact hk.elim
   rename_i e hu
   obtain ⟨inf,de,dh,hk⟩:=cD hk
   generalize hx:a.eval x=ex at hr
   have hex: ∃ad,ex= .slice ad n c0:=by cases hr;exact ⟨_,rfl⟩
   obtain ⟨ad,rfl⟩:=hex
   have Dp:n<=c0:=by cases hr;assumption
   cases zE:Nat.beq z inf.size with
   | false=>rw [zE] at hk;cases hi<;>exact hk.elim
   | true=>
     rw [zE] at hk
     have hz:=Nat.eq_of_beq_eq_true zE
     cases hi with
     | none=>
       obtain ⟨h1,h2,hk⟩:=hk
       have aS:=ep (ad:=ad) hu de (jo (P:=S.P) (w:=w) (isSlice:=true) (len:=n) (cap:=c0) jH h1 h2)
       have jJ:=hr.xS (l:=l.toNat) (m:=n) (p:=c0) (by omega) Dp (Nat.le_refl _)
       rw [hz] at jJ hk
       refine H.same hs ?_ (.of jJ rfl) hk
       simp only [execOp,ho,hx,Sem.run_bind,Option.map_none,aS,Result.andThen_ok]
       rfl
     | some y=>
       obtain ⟨v,hv,hk⟩:=aG hs.ti hk
       cases v<;>try exact hk.elim
       rename_i k m
       have Gu:=hv.rel
       generalize hy:a.eval y=ey at Gu
       cases Gu
       obtain ⟨h1,h2,h3,hk⟩:=hk
       have aS:=ep (ad:=ad) hu de (fX (P:=S.P) (w:=w) (isSlice:=true) (len:=n) (cap:=c0) (k:=k) jH h1 h2 h3)
       have jJ:=hr.xS (l:=l.toNat) (m:=m.toNat) (p:=c0) (by omega) (by omega) (Nat.le_refl _)
       rw [hz] at jJ hk
       refine H.same hs ?_ (.of jJ rfl) hk
       simp only [execOp,ho,hx,Sem.run_bind,Option.map_none,Option.map_some,hy,aS,Result.andThen_ok]
       rfl
 · exact hk.elim
theorem xV {T:TypeId} {x:Operand} (ho:o.op= .slice T x none none none) (H:bu c a o.dst K KP next Q) (hs:cf c g w a ⟨t,ob,nt,df⟩) {i n:Nat} {e:TypeId}
 (hp:VT g w ob.length nt (.ptr i 0) (a.eval x)) (hu:S.P.underlying T=some (.array n e))
 (hk:cA ob i fun o1=>match o1 with
   | .cells _ U cs=>match cs.length==n &&dk S.P e==1 &&cs.all (fun c=>match c with | .int _ _=>true | _=>false) with
     | true=>fw ob i (.cells false U cs) fun eg=>K (.sl cs .ex) ⟨t,eg,nt,df⟩
     | false=>False
   | _=>False):o.wp S.P a w next Q:=by
 have hr:=hp.rel
 obtain ⟨x1,h1,hk⟩:=aX hk
 obtain ⟨wr,U,cs,rfl⟩: ∃wr U cs,x1= .cells wr U cs:=by
  cases x1 with
  | cells wr U cs=>exact ⟨_,_,_,rfl⟩
  | _=>exact hk.elim
 simp only at hk
 split at hk
 case h_2=>exact hk.elim
 rename_i gb
 simp only [Bool.and_eq_true,beq_iff_eq] at gb
 obtain ⟨⟨hn,cg⟩,hints⟩:=gb
 obtain ⟨aJ,hk⟩:=cj hk
 obtain ⟨inf,de,Mb⟩:=nj (n:=0) cg
 obtain ⟨arr,g1,g2,g3⟩:=nZ hs.wi h1
 generalize hx:a.eval x=ex at hr
 cases hr with | ptr tR=>
 unfold Oper.wp
 have aS:(execOp a.eval o).run S.P w= .ok (.value (.slice (some ⟨g.bs i,0,none⟩) n n)) w:=by
  simp only [execOp,ho,hx,Sem.run_bind,Instr.sliceAt,run_underlying hu,Result.andThen_ok,Instr.sureAddr,Option.map_none,Instr.sliceBounds,cH de]
  simp [Addr.add]
 rw [aS]
 have he:=Ext.freeze hs.wi (g.bs i) cs.length
 have hw:=a_.freeze (x':= .cells false U cs) hs.wi h1 rfl cs.length (he.By (x:= .cells false U cs) (b:=g.bs i) ⟨arr,g1,g2,g3⟩ rfl) (fun _=>rfl) (by simp) rfl
 have e7: ∀x∈cs,x.cells=[x]/\x.aE=true:=fun x hx=>by
  have:=List.all_eq_true.1 hints x hx
  cases x<;>simp_all [V.cells,V.aE]
 have kv: ∀l:List V,(∀x∈l,x.cells=[x]/\x.aE=true)->l.flatMap V.cells=l:=fun l=>by
  induction l with
  | nil=>simp
  | cons y r ih=>intro h;rw [List.flatMap_cons,ih fun x hx=>h x (by simp [hx]),(h y (by simp)).1];rfl
 refine H.val (.sl cs .ex) _ ⟨t,ob.set i (.cells false U cs),nt,df⟩ _ _ a hk ⟨hw,by simpa using he.kf hs.ti,by simpa using he.kg hs.di⟩ rfl (.of ?_ rfl)
 refine .sl (sz:=1) (fun k=>arr.getD k undef) hn.symm (Nat.le_refl _) (fun _=>rfl) (fun x hx=> ?_) (fun k v hk=> ?_) (fun k v hk=> ?_)
 · rw [(e7 x hx).1];simp [(e7 x hx).2]
 · rw [kv cs e7] at hk
   have aJ:k<arr.size:=by rw [←g2];exact (List.getElem?_eq_some_iff.1 hk).1
   refine ⟨?_,.inr ⟨rfl,by rw [g2];omega⟩⟩
   simp [World.cell?,g1,Array.getD,aJ]
 · rw [kv cs e7] at hk
   have aJ:k<arr.size:=by rw [←g2];exact (List.getElem?_eq_some_iff.1 hk).1
   have hv:=(he.vt (g3 k v arr[k] hk (by simp [aJ])).1).rel
   have hi:=List.all_eq_true.1 hints v (List.mem_of_getElem? hk)
   have:arr.getD k undef=arr[k]:=by simp [Array.getD,aJ]
   rw [this]
   exact hv.low (by cases v<;>simp_all [V.low])
theorem jK {s:ByteArray} {k:Nat} {v:V} (h:(bK s)[k]? =some v): ∃(hk:k<s.size),v= .int .u8 (s.data[k]'hk).toNat:=by
 unfold bK at h
 rw [List.getElem?_map] at h
 obtain ⟨x,hx,rfl⟩:=Option.map_eq_some_iff.1 h
 rw [Array.getElem?_toList] at hx
 obtain ⟨hk,hx⟩:=Array.getElem?_eq_some_iff.1 hx
 exact ⟨hk,by rw [hx]⟩
theorem fk (s:ByteArray):(bK s).flatMap V.cells=bK s:=by
 unfold bK
 generalize s.data.toList=l
 induction l with
 | nil=>rfl
 | cons x r ih=>rw [List.map_cons,List.flatMap_cons,ih];rfl
theorem ld (s:ByteArray): ∀x∈bK s,x.cells.length=1/\x.cells.all V.aE=true:=by
 intro x hx
 obtain ⟨y,_,rfl⟩:=List.mem_map.1 hx
 exact ⟨rfl,rfl⟩
theorem b8 (s:ByteArray):(bK s).length=s.size:=by unfold bK;rw [List.length_map];rfl
theorem Gv {bs:Nat->Nat} {I:Nat->Nat->Prop} {n:Nat} {s:ByteArray} {r:Room} {x:Value} (h:aw bs I w n (.sl (bK s) r) x):
 (x= .slice none 0 0/\s.size=0)\/ ∃b off cap,x= .slice (some ⟨b,off,none⟩) s.size cap/\ ∀j (hj:j<s.size),w.cell? ⟨b,off+j,none⟩=some (.int .u8 (s.data[j]'hj).toNat):=by
 generalize hl:bK s=l at h
 cases h with
 | slnil=>exact .inl ⟨rfl,by rw [←b8,hl];rfl⟩
 | @sl _ _ _ b off len cap sz u hlen cu hr hz hc hu=>
   subst hl
   rw [fk] at hc hu
   rw [b8] at hlen
   subst hlen
   refine .inr ⟨b,off,cap,rfl,fun j hj=> ?_⟩
   have Gw:j<(bK s).length:=by rw [b8];exact hj
   have hg:=List.getElem?_eq_getElem Gw
   obtain ⟨h1,_⟩:=hc j _ hg
   have h2:=hu j _ hg
   obtain ⟨_,e⟩:=jK hg
   rw [e] at h2
   rw [h1]
   generalize u j=y at h2
   cases h2;rfl
theorem ue {A B:TypeId} {x:Operand} (ho:o.op= .convert A B x) (H:bu c a o.dst K KP next Q) (hs:cf c g w a ⟨t,ob,nt,df⟩) {p:V} (hp:VT g w ob.length nt p (a.eval x))
 (hk:wI S.P A B p fun v=>K v ⟨t,ob,nt,df⟩):o.wp S.P a w next Q:=by
 have hr:=hp.rel
 unfold wI at hk
 split at hk
 · rename_i hA hB
   generalize hx:a.eval x=e at hr
   cases hr
   refine H.same hs (x:= .int _ (IntKind.wrap _ _)) ?_ (.of .int rfl) hk
   simp [execOp,ho,hx,convert,run_underlying hA,run_underlying hB,Conv.intToInt]
 · rename_i hA hB
   generalize hx:a.eval x=e at hr
   cases hr
   refine H.same hs (x:= .string _) ?_ (.of .str rfl) hk
   simp [execOp,ho,hx,convert,run_underlying hA,run_underlying hB]
 · rename_i e s hA hB
   split at hk
   case h_2=>exact hk.elim
   rename_i he
   generalize hx:a.eval x=ex at hr
   cases hr
   have aS:=run_bytes_of_string (P:=S.P) w A B e s hA hB he
   unfold Oper.wp
   have Ln:(execOp a.eval o).run S.P w= .ok (.value (.slice (some ⟨w.heap.size,0,none⟩) s.size (grownCap w s.size 0 e)))
    (w.drew.alloc (.cells (bytesRow s (grownCap w s.size 0 e)) e ((bytesRow s (grownCap w s.size 0 e)).size,(bytesRow s (grownCap w s.size 0 e)).size+1))):=by
    simp only [execOp,ho,hx,Sem.run_bind,aS,Result.andThen_ok]
    rfl
   rw [Ln]
   have ze:=hs.wi.drew
   have e1:=Ext.drew g w ob.length nt
   have p7:=a_.data ze (.cells (bytesRow s (grownCap w s.size 0 e)) e ((bytesRow s (grownCap w s.size 0 e)).size,(bytesRow s (grownCap w s.size 0 e)).size+1)) s.size
   have e2:=Ext.data ze (.cells (bytesRow s (grownCap w s.size 0 e)) e ((bytesRow s (grownCap w s.size 0 e)).size,(bytesRow s (grownCap w s.size 0 e)).size+1)) s.size
   refine H.val (.sl (bK s) .no) _ ⟨t,ob,nt,df⟩ _ _ a hk ⟨p7,e2.kf (e1.kf hs.ti),e2.kg (e1.kg hs.di)⟩ rfl (.of ?_ rfl)
   refine .sl (sz:=1) (fun k=>(bytesRow s (grownCap w s.size 0 e)).getD k undef) (b8 s).symm ?_ (by simp) (ld s) (fun k v hk=> ?_) (fun k v hk=> ?_)
   · have:s.size<=grownCap w s.size 0 e:=by unfold grownCap Question.cut;simp
     exact this
   · rw [fk] at hk
     obtain ⟨aJ,_⟩:=jK hk
     have cg:k<(bytesRow s (grownCap w s.size 0 e)).size:=by
      unfold bytesRow;rw [Array.size_append,Array.size_map]
      have:k<s.data.size:=aJ
      omega
     refine ⟨?_,.inr ⟨rfl,by omega⟩⟩
     rw [Nat.zero_add]
     rw [show w.heap.size=w.drew.heap.size from rfl,World.cell?_alloc_mark]
     simp [Array.getD,cg]
   · rw [fk] at hk
     obtain ⟨aJ,rfl⟩:=jK hk
     have tR:k<s.data.size:=aJ
     have:(bytesRow s (grownCap w s.size 0 e)).getD k undef= .int .u8 (s.data[k]).toNat:=by
      unfold bytesRow
      have h1:k<(s.data.map (fun b:UInt8=>Value.int .u8 b.toNat)++Array.replicate (grownCap w s.size 0 e - s.size) (Value.int .u8 0)).size:=by
       rw [Array.size_append,Array.size_map];omega
      rw [Array.getD,dif_pos h1,Array.getInternal_eq_getElem,Array.getElem_append_left (by rw [Array.size_map];exact tR),Array.getElem_map]
     rw [this]
     exact .int
 · rename_i e l r hA hB
   split at hk
   case h_2=>exact hk.elim
   rename_i he
   obtain ⟨s,rfl,hk⟩:=hk
   have aS:(convert A B (a.eval x)).run S.P w= .ok (.string s) w:=by
    rcases Gv hr with ⟨hx,h0⟩ | ⟨b,off,cap,hx,hc⟩
    · rw [hx,run_convert_bytes_nil w A e hA he 0 0 B hB]
      have:s=ByteArray.empty:=by
       obtain ⟨d⟩:=s
       have:d= #[]:=Array.eq_empty_of_size_eq_zero h0
       subst this;rfl
      rw [this]
    · rw [hx]
      have:=run_convert_bytes_back (P:=S.P) w A B e ⟨b,off,none⟩ cap s.data.toList hA he hB (fun j hj=>by
       rw [Addr.add_mid]
       rw [hc j (by rw [Array.length_toList] at hj;exact hj)]
       simp)
      rw [Array.length_toList] at this
      exact this
   refine H.same hs (x:= .string s) ?_ (.of .str rfl) hk
   simp only [execOp,ho,Sem.run_bind,aS,Result.andThen_ok]
   rfl
 · exact hk.elim
theorem q7 {T U:TypeId} {x:Operand} {ok:Bool} (ho:o.op= .typeAssert x U T ok) (H:bu c a o.dst K KP next Q) (hs:cf c g w a ⟨t,ob,nt,df⟩)
 (h:ev t x fun x=>match S.P.underlying T with
 | some (.interface _)=>False
 | some _=>nW S.P T ok x fun v=>K v ⟨t,ob,nt,df⟩
 | none=>False):o.wp S.P a w next Q:=by
 obtain ⟨p,hp,sK⟩:=aG hs.ti h
 clear h
 have hr:=hp.rel
 obtain ⟨d,hu,hd,hk⟩: ∃d,S.P.underlying T=some d/\(∀ms,d≠ .interface ms)/\nW S.P T ok p fun v=>K v ⟨t,ob,nt,df⟩:=by
  cases hu:S.P.underlying T with
  | none=>rw [hu] at sK;exact sK.elim
  | some d=>
    rw [hu] at sK
    cases d<;>first | exact sK.elim | exact ⟨_,rfl,by simp,sK⟩
 clear sK
 have hz: ∀ {i:TypeInfo} {z:Value},S.P.info? T=some i->i.zero=some z->(zeroValue T).run S.P w= .ok z w:=fun h1 h2=>by simp [zeroValue,typeInfo,h1,h2]
 have Md: ∀ {z:Value} {v:V} {b:Bool},aw g.bs g.I w ob.length v z->aw g.bs g.I w ob.length (.aQ [v,.bool b]) (.tuple #[z,.bool b]):=fun hv=> .aQ rfl fun k v c h1 h2=>by
  match k with
  | 0=>simp at h1 h2;subst h1;subst h2;exact hv
  | 1=>simp at h1 h2;subst h1;subst h2;exact .bool
  | k+2=>simp at h1
 unfold nW at hk
 split at hk
 · rename_i T' v
   generalize hx:a.eval x=e at hr
   cases hr with | @jl _ _ _ y hy=>
   split at hk
   · rename_i hT
     have hT:T'=T:=Nat.eq_of_beq_eq_true hT
     subst hT
     simp only [V.aH,bk] at hk
     cases ok with
     | true=>
       refine H.same hs (x:= .tuple #[y,.bool true]) ?_ (.of (Md hy.bj) rfl) hk
       simp only [execOp,ho,hx,Instr.typeAssert,Sem.run_bind,run_underlying hu,Result.andThen_ok]
       cases d<;>simp_all
     | false=>
       refine H.same hs (x:=y) ?_ (.of hy.bj (bB _)) hk
       simp only [execOp,ho,hx,Instr.typeAssert,Sem.run_bind,run_underlying hu,Result.andThen_ok]
       cases d<;>simp_all
   · rename_i hT
     have hT: ¬T'=T:=Nat.ne_of_beq_eq_false hT
     cases ok with
     | false=>exact hk.elim
     | true=>
       obtain ⟨i,z,h1,h2,hk⟩:=fW hk
       refine H.same hs (x:= .tuple #[z,.bool false]) ?_ (.of (Md (bP z)) rfl) hk
       simp only [execOp,ho,hx,Instr.typeAssert,Sem.run_bind,run_underlying hu,Result.andThen_ok]
       cases d<;>simp_all
 · generalize hx:a.eval x=e at hr
   cases hr
   cases ok with
   | false=>exact hk.elim
   | true=>
     obtain ⟨i,z,h1,h2,hk⟩:=fW hk
     refine H.same hs (x:= .tuple #[z,.bool false]) ?_ (.of (Md (bP z)) rfl) hk
     simp only [execOp,ho,hx,Instr.typeAssert,Sem.run_bind,run_underlying hu,Result.andThen_ok]
     cases d<;>simp_all
 · exact hk.elim
end
end VL
namespace VL
open Go
section
variable {S:Sys} {c:Ctx} {g:G} {w:World} {a:Act} {o:Oper} {K KP:V->St->Prop} {next:Act->World->Prop} {Q:Exit->Act->World->Prop}
 {t:List V} {ob:List af} {nt:Nat} {df:List (Fn × List V × List V)}
theorem i_ {g:G} {n nt:Nat} (h:fy g w n nt a.tmps t): ∀ {ps:List (Nat × Operand)} {K:List (Nat × V)->Prop},gg t ps K->
 ∃vs:List (Nat × V),vs.length=ps.length/\(∀(k:Nat) v x,vs[k]? =some v->ps[k]? =some x->v.1=x.1/\aw g.bs g.I w n v.2 (a.eval x.2)/\v.2.cB=true)/\K vs
 | [],K,hk=>⟨[],rfl,by simp,hk⟩
 | (i,x)::r,K,hk=>by
  obtain ⟨v,h1,h2⟩:=aG h hk
  simp only [V.aH,bk] at h2
  obtain ⟨vs,h3,h4,h5⟩:=i_ h h2
  refine ⟨(i,v.bj)::vs,by simp [h3],fun k u y hu hy=> ?_,h5⟩
  cases k with
  | zero=>simp at hu hy;subst hu;subst hy;exact ⟨rfl,h1.rel.bj,bB v⟩
  | succ k=>exact h4 k u y (by simpa using hu) (by simpa using hy)
theorem q8: ∀(vs:List Value) (j off:Nat) (cs:Array Value),((vs.zipIdx j).foldl (fun cs (x:Value × Nat)=>cs.setIfInBounds (off+x.2) x.1) cs).size=cs.size/\
 ∀k,((vs.zipIdx j).foldl (fun cs (x:Value × Nat)=>cs.setIfInBounds (off+x.2) x.1) cs)[k]? =if off+j<=k/\k<off+j+vs.length/\k<cs.size then vs[k - (off+j)]? else cs[k]?
 | [],j,off,cs=>⟨rfl,fun k=>by rw [if_neg (by simp only [List.length_nil];omega)];rfl⟩
 | v::vs,j,off,cs=>by
   obtain ⟨h1,h2⟩:=q8 vs (j+1) off (cs.setIfInBounds (off+j) v)
   rw [Array.size_setIfInBounds] at h1 h2
   refine ⟨by rw [List.zipIdx_cons,List.foldl_cons];exact h1,fun k=> ?_⟩
   rw [List.zipIdx_cons,List.foldl_cons,h2 k,List.length_cons]
   by_cases hk:k=off+j
   · subst hk
     rw [if_neg (by omega)]
     rw [Array.getElem?_setIfInBounds]
     by_cases hs:off+j<cs.size
     · rw [if_pos rfl,if_pos hs,if_pos (by omega)];simp
     · rw [if_pos rfl,if_neg hs,if_neg (by omega)]
       exact (Array.getElem?_eq_none (by omega)).symm
   · rw [Array.getElem?_setIfInBounds,if_neg (Ne.symm hk)]
     by_cases hc:off+(j+1)<=k/\k<off+(j+1)+vs.length/\k<cs.size
     · rw [if_pos hc,if_pos (by omega)]
       rw [show k - (off+j)=(k - (off+(j+1)))+1 by omega,List.getElem?_cons_succ]
     · rw [if_neg hc,if_neg (by omega)]
def Gx (bs:Nat->Nat) (I:Nat->Nat->Prop) (w:World) (n:Nat) (cs:List V) (ca:Array Value):Prop:=
 cs.length=ca.size/\ ∀(k:Nat) v c,cs[k]? =some v->ca[k]? =some c->aw bs I w n v c
theorem wM {bs:Nat->Nat} {I:Nat->Nat->Prop} {n:Nat} {v:V} {x:Value} (h:aw bs I w n v x) (hv:v≠ .undef):Gx bs I w n v.cells x.cells:=by
 cases h with
 | undef=>exact absurd rfl hv
 | agg hl hh=>exact ⟨hl,hh⟩
 | _=>refine ⟨rfl,fun k u y hu hy=> ?_⟩;(cases k<;>simp [V.cells,Value.cells] at hu hy);subst hu;subst hy;constructor<;>assumption
theorem uf {bs:Nat->Nat} {I:Nat->Nat->Prop} {n:Nat} {place:Nat->Option (Nat × Nat)}: ∀ {ps:List (Nat × V)} {qs:List (Nat × Value)} {cs:List V} {ca:Array Value} {K:List V->Prop},
 Gx bs I w n cs ca->ps.length=qs.length->(∀(k:Nat) v x,ps[k]? =some v->qs[k]? =some x->v.1=x.1/\aw bs I w n v.2 x.2)->rY place cs ps K->
 ∃tS JA,Instr.fill place ca qs=some JA/\Gx bs I w n tS JA/\K tS
 | [],[],cs,ca,K,hc,_,_,hk=>⟨cs,ca,rfl,hc,hk⟩
 | [],_::_,_,_,_,_,h,_,_=>by simp at h
 | _::_,[],_,_,_,_,h,_,_=>by simp at h
 | (i,v)::r,(j,x)::qs,cs,ca,K,hc,hl,hr,hk=>by
  obtain ⟨e,hv⟩:=hr 0 _ _ rfl rfl
  simp only at e hv
  subst e
  unfold rY at hk
  split at hk
  case h_2=>exact hk.elim
  rename_i off size hp
  rw [bk] at hk
  split at hk
  case h_2=>exact hk.elim
  rename_i cg
  simp only [Bool.and_eq_true,beq_iff_eq] at cg
  obtain ⟨cg,c_⟩:=cg
  obtain ⟨dy,hk⟩:=iu hk
  have Q4:v≠ .undef:=by rintro rfl;simp [V.cells,V.aE] at c_
  obtain ⟨Ox,BH⟩:=wM hv Q4
  have hx:x.cells.size=size:=by rw [←Ox,cg]
  have ka:=hc.1
  unfold Instr.fill
  rw [hp]
  simp only
  rw [if_neg (by simp only [Bool.or_eq_true,decide_eq_true_eq,not_or,ne_eq,Classical.not_not];omega)]
  have hf:=q8 x.cells.toList 0 off ca
  have Gy:x.cells.zipIdx.foldl (fun cs (c,j)=>cs.setIfInBounds (off+j) c) ca=(x.cells.toList.zipIdx 0).foldl (fun cs (x:Value × Nat)=>cs.setIfInBounds (off+x.2) x.1) ca:=by
   rw [←Array.foldl_toList,Array.toList_zipIdx]
  rw [Gy]
  refine uf (cs:=cs.take off++v.cells++cs.drop (off+v.cells.length)) ⟨?_,fun k u y hu hy=> ?_⟩ (by simpa using hl) (fun k v x h1 h2=>hr (k+1) v x (by simpa using h1) (by simpa using h2)) hk
  · rw [hf.1];simp;omega
  · rw [hf.2] at hy
    have EJ:(cs.take off++v.cells).length=off+v.cells.length:=by simp;omega
    have QZ:(cs.take off).length=off:=by simp;omega
    rw [List.getElem?_append,EJ] at hu
    rw [Array.length_toList,Nat.add_zero] at hy
    split at hu
    · rename_i iM
      rw [List.getElem?_append,QZ] at hu
      split at hu
      · rename_i zA
        rw [if_neg (by omega)] at hy
        rw [List.getElem?_take,if_pos zA] at hu
        exact hc.2 k u y hu hy
      · rename_i zA
        rw [if_pos (by omega)] at hy
        exact BH _ u y hu (by simpa using hy)
    · rename_i iM
      rw [if_neg (by omega)] at hy
      rw [List.getElem?_drop,show off+v.cells.length+(k - (off+v.cells.length))=k by omega] at hu
      exact hc.2 k u y hu hy
theorem q9 {n:Nat} {ps:List (Nat × Operand)} {vs:List (Nat × V)} (hl:vs.length=ps.length)
 (hr: ∀(k:Nat) v x,vs[k]? =some v->ps[k]? =some x->v.1=x.1/\aw g.bs g.I w n v.2 (a.eval x.2)/\v.2.cB=true):
 ∀(k:Nat) v x,vs[k]? =some v->(ps.map fun (i,x)=>(i,a.eval x))[k]? =some x->v.1=x.1/\aw g.bs g.I w n v.2 x.2:=by
 intro k v x h1 h2
 rw [List.getElem?_map] at h2
 obtain ⟨y,hy,rfl⟩:=Option.map_eq_some_iff.1 h2
 exact ⟨(hr k v y h1 hy).1,(hr k v y h1 hy).2.1⟩
theorem wN {bs:Nat->Nat} {I:Nat->Nat->Prop} {n:Nat} (z:Value):Gx bs I w n (ax z).cells z.cells:=by
 have h:aw bs I w n (ax z) z:=bP z
 have one:(∀cs,z≠ .agg cs)->Gx bs I w n (ax z).cells z.cells:=fun hv=>by
  have e0:ax z=ofConst z:=by cases z<;>first | rfl | exact absurd rfl (hv _)
  have e1:(ofConst z).cells=[ofConst z]:=by unfold ofConst;split<;>rfl
  have e2:z.cells= #[z]:=by cases z<;>first | rfl | exact absurd rfl (hv _)
  rw [e0,e1,e2]
  refine ⟨rfl,fun k u y hu hy=> ?_⟩
  cases k with
  | zero=>simp at hu hy;subst hu;subst hy;exact kr z
  | succ k=>simp at hu
 cases z with
 | agg cs=>cases h with | agg hl hh=>exact ⟨hl,hh⟩
 | _=>exact one (by simp)
theorem zF {T:TypeId} {parts:Array (Nat × Operand)} (ho:o.op= .build T parts) (H:bu c a o.dst K KP next Q) (hs:cf c g w a ⟨t,ob,nt,df⟩)
 (h:gg t parts.toList fun ps=>qT S.P T ps fun v=>K v ⟨t,ob,nt,df⟩):o.wp S.P a w next Q:=by
 obtain ⟨ps,hl,hr,hk⟩:=i_ hs.ti h
 unfold qT at hk
 obtain ⟨i,z,hi,hz,hk⟩:=fW hk
 have T1:=q9 hl hr
 have key: ∀ {place:Nat->Option (Nat × Nat)},rY place (ax z).cells ps (fun cs=>K (.agg cs) ⟨t,ob,nt,df⟩)->(∀ca,Instr.fill place z.cells (parts.toList.map fun (i,x)=>(i,a.eval x))=some ca->S.P.built T (parts.toList.map fun (i,x)=>(i,a.eval x))=some ca)->
  o.wp S.P a w next Q:=fun hk hb=>by
  obtain ⟨cs,ca,h1,h2,h3⟩:=uf (wN z) (by simp [hl]) T1 hk
  have aS:=run_build (P:=S.P) w T (parts.map fun (i,x)=>(i,a.eval x)) ca (by rw [Array.toList_map];exact hb ca h1)
  refine H.same hs (x:= .agg ca) ?_ (.of (.agg h2.1 h2.2) rfl) h3
  simp only [execOp,ho,Sem.run_bind,aS,Result.andThen_ok]
  rfl
 split at hk
 · rename_i fs hu
   split at hk
   case h_2=>exact hk.elim
   rename_i q_
   have hex: ∃places:List (Nat × Nat),fs.toList.mapM (fun f:Field=>(S.P.info? f.type).map fun i=>(f.offset,i.size))=some places/\ ∀i:Nat,places[i]? =(fs.toList[i]?).map fun f:Field=>(f.offset,dk S.P f.type):=by
    generalize fs.toList=l at q_
    clear hk hu
    induction l with
    | nil=>exact ⟨[],rfl,by simp⟩
    | cons f r ih=>
      simp only [List.all_cons,Bool.and_eq_true] at q_
      obtain ⟨inf,de⟩:=Option.isSome_iff_exists.1 q_.1
      obtain ⟨p,hp,hg⟩:=ih q_.2
      refine ⟨(f.offset,inf.size)::p,?_,fun i=> ?_⟩
      · rw [List.mapM_cons];simp [de,hp]
      · cases i with
        | zero=>simp [dk,de]
        | succ i=>simpa using hg i
   obtain ⟨places,hp,hg⟩:=hex
   refine key hk fun ca hf=> ?_
   unfold Program.built
   rw [hi,hu]
   simp only [hz,hp]
   rw [←hf]
   congr 1
   funext i
   rw [List.getElem?_toArray]
   exact hg i
 · rename_i n e hu
   split at hk
   case h_2=>exact hk.elim
   rename_i he
   obtain ⟨inf,de⟩:=Option.isSome_iff_exists.1 he
   refine key hk fun ca hf=> ?_
   unfold Program.built
   rw [hi,hu]
   simp only [hz,de]
   rw [←hf,fj de]
 · exact hk.elim
theorem nm: ∀ {ps:List (Nat × V)} {i:Nat} {l:List V},ia i ps=some l->ps.length=l.length
 | [],i,l,h=>by simp [ia] at h;subst h;rfl
 | (j,v)::r,i,l,h=>by
  simp only [ia] at h
  split at h
  · obtain ⟨l',Jw,rfl⟩:=Option.map_eq_some_iff.1 h
    simp [nm Jw]
  · cases h
theorem nn {n:Nat}: ∀ {l:List V},nX n l=true-> ∀x∈l,x.cells.length=n/\x.cells.all V.aE=true/\x.jy=true
 | [],_,x,hx=>by simp at hx
 | v::r,h,x,hx=>by
   simp only [nX,Bool.and_eq_true,beq_iff_eq] at h
   cases hx with
   | head=>exact ⟨h.1.1.1,h.1.1.2,h.1.2⟩
   | tail _ hx=>exact nn h.2 x hx
theorem ug {bs:Nat->Nat} {I:Nat->Nat->Prop} {n size:Nat}: ∀ {ps:List (Nat × V)} {qs:List (Nat × Value)} {i:Nat} {l:List V} {ca:Array Value},
 ia i ps=some l->ps.length=qs.length->(∀(k:Nat) v x,ps[k]? =some v->qs[k]? =some x->v.1=x.1/\aw bs I w n v.2 x.2)->
 (∀x∈l,x.cells.length=size/\x.cells.all V.aE=true/\x.jy=true)->(i+ps.length)*size<=ca.size->
 ∃JA,Instr.fill (fun i=>some (i*size,size)) ca qs=some JA/\JA.size=ca.size/\(∀k,k<i*size->JA[k]? =ca[k]?)/\l.length=ps.length/\
  ∀(k:Nat) v c,(l.flatMap V.cells)[k]? =some v->JA[i*size+k]? =some c->aw bs I w n v c
 | [],[],i,l,ca,hi,_,_,_,_=>by
   simp [ia] at hi;subst hi
   exact ⟨ca,rfl,rfl,fun _ _=>rfl,rfl,by simp⟩
 | [],_::_,_,_,_,_,h,_,_,_=>by simp at h
 | _::_,[],_,_,_,_,h,_,_,_=>by simp at h
 | (j,v)::r,(j',x)::qs,i,l,ca,hi,hl,hr,hz,dy=>by
  obtain ⟨e,hv⟩:=hr 0 _ _ rfl rfl
  simp only at e hv
  subst e
  simp only [ia] at hi
  split at hi
  case isFalse=>cases hi
  rename_i pe
  subst pe
  obtain ⟨l',Jw,rfl⟩:=Option.map_eq_some_iff.1 hi
  obtain ⟨cg,c_,_⟩:=hz v (by simp)
  have Q4:v≠ .undef:=by rintro rfl;simp [V.cells,V.aE] at c_
  obtain ⟨Ox,BH⟩:=wM hv Q4
  have hx:x.cells.size=size:=by rw [←Ox,cg]
  simp only [List.length_cons] at dy hl
  have hmul:(i+(r.length+1))*size=i*size+size+r.length*size:=by rw [Nat.add_mul,Nat.add_mul];omega
  have hf:=q8 x.cells.toList 0 (i*size) ca
  have Gy:x.cells.zipIdx.foldl (fun cs (c,j)=>cs.setIfInBounds (i*size+j) c) ca=(x.cells.toList.zipIdx 0).foldl (fun cs (x:Value × Nat)=>cs.setIfInBounds (i*size+x.2) x.1) ca:=by
   rw [←Array.foldl_toList,Array.toList_zipIdx]
  obtain ⟨JA,h1,h2,h3,h4,h5⟩:=ug (qs:=qs) (ca:=(x.cells.toList.zipIdx 0).foldl (fun cs (x:Value × Nat)=>cs.setIfInBounds (i*size+x.2) x.1) ca) Jw (by omega)
   (fun k v x g1 g2=>hr (k+1) v x (by simpa using g1) (by simpa using g2)) (fun x hx=>hz x (by simp [hx])) (by rw [hf.1,Nat.add_mul,Nat.succ_mul];omega)
  refine ⟨JA,?_,by rw [h2,hf.1],fun k hk=> ?_,by simp [h4],fun k u c hu hc=> ?_⟩
  · unfold Instr.fill
    simp only
    rw [if_neg (by simp only [Bool.or_eq_true,decide_eq_true_eq,not_or,ne_eq,Classical.not_not];omega),Gy]
    exact h1
  · rw [h3 k (by rw [Nat.succ_mul];omega),hf.2,if_neg (by omega)]
  · rw [List.flatMap_cons,List.getElem?_append,cg] at hu
    split at hu
    · rename_i T3
      rw [h3 _ (by rw [Nat.succ_mul];omega),hf.2,Array.length_toList,if_pos (by omega)] at hc
      rw [show i*size+k - (i*size+0)=k by omega] at hc
      exact BH k u c hu (by simpa using hc)
    · rename_i T3
      refine h5 (k - size) u c hu ?_
      rwa [Nat.succ_mul,show i*size+size+(k - size)=i*size+k by omega]
theorem rf {T:TypeId} {n:Nat} {parts:Array (Nat × Operand)} (ho:o.op= .buildSlice T n parts) (H:bu c a o.dst K KP next Q) (hs:cf c g w a ⟨t,ob,nt,df⟩)
 (h:gg t parts.toList fun ps=>match ia 0 ps with
 | some l=>match l.length==n &&nX (dk S.P (jz S.P T)) l with
   | true=>jm S.P (jz S.P T) fun z=>match Nat.blt 16777216 (n*z),(S.P.info? (jz S.P T)).bind (·.zero) with
     | false,some zv=>(match zv.cells.size==z with
       | true=>(match S.P.underlying T,S.P.underlying (jz S.P T) with
         | some (.slice _),some (.func ..)=>K (.pM l) ⟨t,ob,nt,df⟩
         | some (.slice _),some (.pointer _)=>K (.pM l) ⟨t,ob,nt,df⟩
         | some (.slice _),_=>(match V.il 0 l with | true=>K (.sl l .ex) ⟨t,ob,nt,df⟩ | false=>False)
         | _,_=>False)
       | false=>False)
     | _,_=>False
   | false=>False
 | none=>False):o.wp S.P a w next Q:=by
 obtain ⟨ps,hl,hr,hk⟩:=i_ hs.ti h
 clear h
 split at hk
 case h_2=>exact hk.elim
 rename_i l Oy
 split at hk
 case h_2=>exact hk.elim
 rename_i gb
 simp only [Bool.and_eq_true,beq_iff_eq] at gb
 obtain ⟨Bj,cg⟩:=gb
 obtain ⟨inf,de,dh,hk⟩:=cD hk
 split at hk
 case h_2=>exact hk.elim
 rename_i zv hb EL
 have hb: ¬16777216<n*inf.size:=by
  intro e
  have:Nat.blt 16777216 (n*inf.size)=true:=by rw [Nat.blt_eq];exact e
  rw [this] at hb;cases hb
 split at hk
 case h_2=>exact hk.elim
 rename_i kh
 have kh:zv.cells.size=inf.size:=by simpa using kh
 rw [fj de] at cg
 have pN:=nn cg
 have hzero:inf.zero=some zv:=by simpa [de] using EL
 have main: ∀ {e:TypeId},S.P.underlying T=some (.slice e)-> ∃cells:Array Value,(execOp a.eval o).run S.P w= .ok (.value (.slice (some ⟨w.heap.size,0,none⟩) n n)) (w.alloc (.cells cells e))/\cells.size=n*inf.size/\
  (∀(k:Nat) v c,(l.flatMap V.cells)[k]? =some v->cells[k]? =some c->aw g.bs g.I w ob.length v c)/\l.length=n:=fun {e} hu=>by
  have he:jz S.P T=e:=by simp [jz,hu]
  rw [he] at de
  have oJ:ps.length=l.length:=nm Oy
  have uh:((Array.range (n*inf.size)).map (zv.cells[· %zv.cells.size]!)).size=n*inf.size:=by simp
  obtain ⟨ca,h1,h2,h3,h4,h5⟩:=ug (w:=w) (bs:=g.bs) (I:=g.I) (n:=ob.length) (size:=inf.size) (ca:=(Array.range (n*inf.size)).map (zv.cells[· %zv.cells.size]!)) Oy
   (qs:=parts.toList.map fun (i,x)=>(i,a.eval x)) (by simp [hl]) (q9 hl hr) pN (by rw [uh,Nat.zero_add,oJ,Bj];exact Nat.le_refl _)
  refine ⟨ca,?_,by rw [h2,uh],fun k v c hv hc=>h5 k v c hv (by simpa using hc),Bj⟩
  simp only [execOp,ho,Instr.buildSlice,Sem.run_bind,run_underlying hu,Result.andThen_ok,cH de]
  rw [if_neg hb]
  by_cases h0:n*inf.size=0
  · have Me:ca= #[]:=Array.eq_empty_of_size_eq_zero (by rw [h2,uh,h0])
    rw [h0] at h1
    simp only [h0,if_true,Sem.run_pure,Result.andThen_ok]
    have ui:Instr.fill (fun i=>some (i*inf.size,inf.size)) ((Array.range 0).map fun x=>(#[]:Array Value)[x %(#[]:Array Value).size]!) (parts.map fun (i,x)=>(i,a.eval x)).toList=some ca:=by
     rw [Array.toList_map]
     have e0: ∀f:Nat->Value,(Array.range 0).map f= #[]:=fun f=>by simp [Array.range]
     rw [e0] at h1 ⊢
     exact h1
    simp only [ui,newRow,Sem.run_bind,run_newObj_alloc,Result.andThen_ok,Sem.run_pure]
  · have Q5:(zeroValue e).run S.P w= .ok zv w:=by simp [zeroValue,typeInfo,de,hzero]
    have ui:Instr.fill (fun i=>some (i*inf.size,inf.size)) ((Array.range (n*inf.size)).map fun x=>zv.cells[x %zv.cells.size]!) (parts.map fun (i,x)=>(i,a.eval x)).toList=some ca:=by
     rw [Array.toList_map];exact h1
    simp only [h0,if_false,Sem.run_bind,Q5,Sem.run_pure,Result.andThen_ok,ui,newRow,run_newObj_alloc]
 have fin: ∀ {e:TypeId} {v:V},S.P.underlying T=some (.slice e)->(∀(cells:Array Value),cells.size=n*inf.size->(∀(k:Nat) v c,(l.flatMap V.cells)[k]? =some v->cells[k]? =some c->aw g.bs g.I w ob.length v c)->l.length=n->
  aw g.bs (g.data w.heap.size (n*inf.size)).I (w.alloc (.cells cells e)) ob.length v (.slice (some ⟨w.heap.size,0,none⟩) n n))->v.cB=true->K v ⟨t,ob,nt,df⟩->o.wp S.P a w next Q:=fun {e v} hu hv Bx hk=>by
  obtain ⟨cells,aS,h1,h2,h3⟩:=main hu
  unfold Oper.wp
  rw [aS]
  have hw:=a_.data hs.wi (.cells cells e) (n*inf.size)
  have he:=Ext.data hs.wi (.cells cells e) (n*inf.size)
  exact H.val v _ _ _ _ a hk ⟨hw,he.kf hs.ti,he.kg hs.di⟩ rfl (.of (hv cells h1 h2 h3) Bx)
 have e7: ∀(cells:Array Value) (e:TypeId),cells.size=n*inf.size->l.length=n-> ∀(k:Nat) v,(l.flatMap V.cells)[k]? =some v->
  (w.alloc (.cells cells e)).cell? ⟨w.heap.size,0+k,none⟩=some (cells.getD k undef)/\(g.data w.heap.size (n*inf.size)).I w.heap.size (0+k):=fun cells e h1 h3 k v hk=>by
  have aJ:k<n*inf.size:=by
   have:=(List.getElem?_eq_some_iff.1 hk).1
   rwa [jI (fun x hx=>(pN x hx).1),h3] at this
  rw [Nat.zero_add]
  refine ⟨?_,.inr ⟨rfl,aJ⟩⟩
  rw [World.cell?_alloc_new]
  simp [Array.getD,h1,aJ]
 have Oz: ∀ {e:TypeId},S.P.underlying T=some (.slice e)->K (.pM l) ⟨t,ob,nt,df⟩->o.wp S.P a w next Q:=fun {e} hu hk=>by
  refine fin hu (fun cells h1 h2 h3=> ?_) rfl hk
  have he:=Ext.data hs.wi (.cells cells e) (n*inf.size)
  refine .pM (sz:=inf.size) (fun k=>cells.getD k undef) h3.symm (Nat.le_refl _) (fun x hx=>⟨(pN x hx).1,(pN x hx).2.1⟩) (e7 cells e h1 h3) (fun k v hk=> ?_)
  have aJ:k<cells.size:=by
   have:=(List.getElem?_eq_some_iff.1 hk).1
   rwa [jI (fun x hx=>(pN x hx).1),h3, ←h1] at this
  have:cells.getD k undef=cells[k]:=by simp [Array.getD,aJ]
  rw [this]
  exact he.EB (h2 k v _ hk (by simp [aJ]))
 split at hk
 · rename_i hu _;exact Oz hu hk
 · rename_i hu _;exact Oz hu hk
 · rename_i hu _ _
   split at hk
   case h_2=>exact hk.elim
   rename_i jH
   obtain ⟨e',ub⟩: ∃e',S.P.underlying T=some (.slice e'):=⟨_,hu⟩
   refine fin ub (fun cells h1 h2 h3=> ?_) rfl hk
   have he:=Ext.data hs.wi (.cells cells e') (n*inf.size)
   refine .sl (sz:=inf.size) (fun k=>cells.getD k undef) h3.symm (Nat.le_refl _) (fun _=>rfl) (fun x hx=>⟨(pN x hx).1,(pN x hx).2.1⟩) (e7 cells e' h1 h3) (fun k v hk=> ?_)
   have aJ:k<cells.size:=by
    have:=(List.getElem?_eq_some_iff.1 hk).1
    rwa [jI (fun x hx=>(pN x hx).1),h3, ←h1] at this
   have:cells.getD k undef=cells[k]:=by simp [Array.getD,aJ]
   rw [this]
   exact (he.EB (h2 k v _ hk (by simp [aJ]))).low (tP jH hk)
 · exact hk.elim
end
end VL
namespace VL
open Go
section
variable {P:Program} {w:World}
theorem zG {ts:Array TypeId} (h:mS P ts=true):ts[1]? =none\/ ∃u d,ts[1]? =some u/\P.underlying u=some d/\ ∀k,d≠ .int k:=by
 unfold mS at h
 split at h
 · exact .inl (by assumption)
 · rename_i u e
   split at h
   · cases h
   · rename_i d h1 h2
     exact .inr ⟨u,_,e,h2,fun k hk=>h1 k (by rw [hk])⟩
   · cases h
theorem l8 {ts:Array TypeId} {T ty:TypeId} {args:Array Value} (h0:ts[0]? =some T) (hs:mS P ts=true):
 (Builtin.append_ ts ty args).run P w=(Builtin.append_ #[T] ty args).run P w:=by
 rcases zG hs with h2 | ⟨u,d,h2,Qg,hd⟩
 · unfold Builtin.append_
   rw [h0,h2]
   rfl
 · have hm: ∀w',(Go.underlying u).run P w'= .ok d w':=fun w'=>run_underlying Qg w'
   unfold Builtin.append_
   rw [h0,h2]
   have e1:(#[T]:Array TypeId)[0]? =some T:=rfl
   have e2:(#[T]:Array TypeId)[1]? =none:=rfl
   rw [e1,e2]
   cases args[0]? with
   | none=>rfl
   | some s=>
     cases args[1]? with
     | none=>rfl
     | some x=>
       simp only [Sem.run_bind]
       congr 1
       funext el w1
       cases el<;>first | rfl | skip
       cases s<;>first | rfl | skip
       all_goals simp only [Sem.run_bind]
       all_goals congr 1
       all_goals funext sz w2
       all_goals simp only [Sem.run_bind,hm,Result.andThen_ok,Sem.run_pure]
       all_goals (cases d<;>first | rfl | exact absurd rfl (hd _))
theorem rh {ts:Array TypeId} {T e ty:TypeId} {inf:TypeInfo} (h0:ts[0]? =some T) (hs:mS P ts=true) (hu:P.underlying T=some (.slice e)) (hi:P.info? e=some inf) {b off len cap m:Nat} {x:Value}
 (hlen:(Builtin.lenOf x).run P w= .ok m w) {news:List Value} (hf:(Builtin.firstCells inf.size m x).run P w= .ok news.toArray w) (dy:len+m<=cap) {arr:Array Value} {U:TypeId} {tq:Option TypeId} (hh:Hp w b arr U tq)
 (hl:off+len*inf.size+news.length<=arr.size) (h1: ∀y∈news,y.oneCell'=true):
 (Builtin.append_ ts ty #[.slice (some ⟨b,off,none⟩) len cap,x]).run P w=
   .ok (.slice (some ⟨b,off,none⟩) (len+m) cap) (w.setRow b (arr.toList.take (off+len*inf.size)++news++arr.toList.drop (off+len*inf.size+news.length)).toArray):=by
 have iI:=eS (P:=P) b (off+len*inf.size) U news 0 arr w hh (by simpa using hl) h1
 simp only [Nat.add_zero] at iI
 have cg:(Go.sizeOf e).run P w= .ok inf.size w:=cH hi
 rw [l8 h0 hs]
 simp [Builtin.append_,run_underlying hu,cg,hlen,dy,hf,Addr.add_mid,iI]
theorem lf {ts:Array TypeId} {T e ty:TypeId} {inf:TypeInfo} {z:Value} (h0:ts[0]? =some T) (hs:mS P ts=true) (hu:P.underlying T=some (.slice e)) (hi:P.info? e=some inf) (hz:inf.zero=some z)
 {base:Option Addr} {len cap m:Nat} {x:Value} (hlen:(Builtin.lenOf x).run P w= .ok m w) {gi news:List Value} (ho:(Builtin.firstCells inf.size len (.slice base len cap)).run P w.drew= .ok gi.toArray w.drew)
 (hf:(Builtin.firstCells inf.size m x).run P w.drew= .ok news.toArray w.drew) (iW:cap<len+m) (Qj:((len+m:Nat):Int)<=9223372036854775807) (dy:(len+m)*inf.bytes<=140737488355328):
 (Builtin.append_ ts ty #[.slice base len cap,x]).run P w= .ok (.slice (some ⟨w.heap.size,0,none⟩) (len+m) (grownCap w (len+m) cap e))
   (w.drew.alloc (.cells (gi.toArray++news.toArray++Builtin.zeroCells z.cells (grownCap w (len+m) cap e - (len+m))) e)):=by
 have cg:(Go.sizeOf e).run P w= .ok inf.size w:=cH hi
 have hn: ¬(len+m<=cap):=by omega
 have Mf: ¬(9223372036854775807<((len:Int)+(m:Int))):=by omega
 have T4:=growslice_fits (bytes:=inf.bytes) iW dy
 have Mg: ¬(281474976710656<Builtin.nextslicecap (len+m) cap*inf.bytes):=by omega
 rw [l8 h0 hs]
 simp [Builtin.append_,run_underlying hu,cg,typeInfo,zeroValue,hi,hz,hlen,hn,Mf,Mg,Question.forced,hf,ho,newRow,grownCap]
 congr 2
 apply Array.ext'
 simp [List.append_assoc]
end
end VL
