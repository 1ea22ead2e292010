/- Part Ra of the proof: VLGlob VLDefs VLOps VLRel VLSem VLSem2 VLSem3 VLOp1 VLOp2 VLBin VLOp3 VLOp4 VLOp5 VLOp6 VLOp7 VLOp8. -/
import Derived.Recover
import Derived.Tactics
import Derived.Deep.MidRow
import Derived.Laws.CopyRow
import Derived.ChangeKeysEq
import Derived.Laws.StructEq
import Derived.WideLaws
import Derived.Laws.Pointers
import Derived.Laws.Slices
import Derived.Laws.IdiomStrings
import Derived.Laws.BytesArg
import Derived.Laws.Tables
import Derived.Laws.NewFold
import Derived.Laws.AppendOwn
import Derived.Lib.AppendStr
set_option linter.unusedVariables false
set_option linter.unusedSimpArgs false
set_option maxRecDepth 100000
namespace VL
open Go
def glob : Nat -> Option (List Value)
 | 0 => some [.int .u64 1, .int .u64 10, .int .u64 100, .int .u64 1000, .int .u64 10000, .int .u64 100000, .int .u64 1000000, .int .u64 10000000, .int .u64 100000000, .int .u64 1000000000, .int .u64 10000000000, .int .u64 100000000000, .int .u64 1000000000000, .int .u64 10000000000000, .int .u64 100000000000000, .int .u64 1000000000000000, .int .u64 10000000000000000, .int .u64 100000000000000000, .int .u64 1000000000000000000, .int .u64 10000000000000000000]
 | _ => none
def globI : Nat -> Bool
 | 1 => true
 | _ => false
end VL

namespace VL
open Go
inductive Room where
 | no | ex | tok (i sz : Nat)
inductive V where
 | undef
 | int (k : IntKind) (n : Int)
 | bool (b : Bool)
 | str (s : ByteArray)
 | ptr (o off : Nat)
 | nilp
 | dp (c : List V)
 | sl (l : List V) (r : Room)
 | slp (l : List V)
 | spare (l sp : List V)
 | fn (f : Fn) (first cap : List V)
 | niln
 | ifc (t : TypeId) (v : V)
 | nili
 | agg (cs : List V)
 | mp (o : Nat)
 | nilm
 | tup (vs : List V)
 | slo (o z lo n c : Nat)
 | bp (o z i off : Nat)
 deriving Inhabited
inductive VObj where
 | none
 | cells (w : Bool) (T : TypeId) (cs : List V)
 | map (es : List (V × V))
 | buf (mv : Bool) (z : Nat) (l : List V) (ty : Option TypeId := Option.none)
def VObj.real : VObj -> Bool
 | .none => false
 | .buf _ _ l _ => !l.isEmpty
 | _ => true
def VObj.loose : VObj -> Bool
 | .map _ => true
 | .buf _ _ l _ => !l.isEmpty
 | _ => false
def VObj.mv : VObj -> Bool
 | .buf m _ _ _ => m
 | _ => false
@[simp] theorem real_cells {w T cs} : (VObj.cells w T cs).real = true := rfl
@[simp] theorem real_map {es} : (VObj.map es).real = true := rfl
@[simp] theorem real_none : VObj.none.real = false := rfl
@[simp] theorem mv_cells {w T cs} : (VObj.cells w T cs).mv = false := rfl
@[simp] theorem mv_map {es} : (VObj.map es).mv = false := rfl
@[simp] theorem mv_none : VObj.none.mv = false := rfl
@[simp] theorem loose_cells {w T cs} : (VObj.cells w T cs).loose = false := rfl
@[simp] theorem loose_map {es} : (VObj.map es).loose = true := rfl
@[simp] theorem loose_none : VObj.none.loose = false := rfl
theorem loose_real {x : VObj} (h : x.loose = true) : x.real = true := by cases x <;> simp_all [VObj.loose, VObj.real]
structure St where
 t : List V
 objs : List VObj
 nt : Nat
 defers : List (Fn × List V × List V)
def V.cells : V -> List V
 | .agg cs => cs
 | v => [v]
noncomputable abbrev Bif (b : Bool) (x y : Prop) : Prop := @Bool.rec (fun _ => Prop) y x b
theorem two {b : Bool} {x y : Prop} (h : b = true -> x) (k : b = false -> y) : @Bool.rec (fun _ => Prop) y x b := by
 cases b
 · exact k rfl
 · exact h rfl
def getK {α : Type} : List α -> Nat -> (α -> Prop) -> Prop
 | [], _, _ => False
 | x :: _, 0, K => K x
 | _ :: r, n + 1, K => getK r n K
def setK {α : Type} : List α -> Nat -> α -> (List α -> Prop) -> Prop
 | [], _, _, _ => False
 | _ :: r, 0, v, K => K (v :: r)
 | x :: r, n + 1, v, K => setK r n v fun r' => K (x :: r')
def V.force : V -> (V -> Prop) -> Prop
 | .undef, K => K .undef
 | .int k n, K => K (.int k n)
 | .bool b, K => K (.bool b)
 | .str s, K => K (.str s)
 | .ptr o f, K => K (.ptr o f)
 | .nilp, K => K .nilp
 | .dp c, K => K (.dp c)
 | .sl l r, K => K (.sl l r)
 | .slp l, K => K (.slp l)
 | .spare l r, K => K (.spare l r)
 | .fn f a b, K => K (.fn f a b)
 | .niln, K => K .niln
 | .ifc t v, K => K (.ifc t v)
 | .nili, K => K .nili
 | .agg cs, K => K (.agg cs)
 | .mp o, K => K (.mp o)
 | .nilm, K => K .nilm
 | .tup vs, K => K (.tup vs)
 | .slo o z lo n c, K => K (.slo o z lo n c)
 | .bp o z i off, K => K (.bp o z i off)
def ofConst : Value -> V
 | .int k n => .int k n
 | .bool b => .bool b
 | .string s => .str s
 | .pointer none => .nilp
 | .slice none 0 0 => .sl [] .ex
 | .nilIface => .nili
 | .nilFunc => .niln
 | .map none => .nilm
 | _ => .undef
def ofConstAgg : Value -> V
 | .agg cs => .agg (cs.toList.map ofConst)
 | v => ofConst v
def ev (t : List V) (x : Operand) (K : V -> Prop) : Prop :=
 match x with
 | .tmp i => getK t i K
 | .const c => (ofConstAgg c).force K
 | .func f => K (.fn (.func f) [] [])
 | .global b => match glob b with
   | some l => K (.dp (l.map ofConst))
   | none => False
def evs (t : List V) : List Operand -> (List V -> Prop) -> Prop
 | [], K => K []
 | x :: r, K => ev t x fun v => evs t r fun vs => K (v :: vs)
def St.put : St -> Option Tmp -> V -> (St -> Prop) -> Prop
 | ⟨t, ob, nt, df⟩, some i, v, K => v.force fun v => setK t i v fun t => K ⟨t, ob, nt, df⟩
 | s, none, _, K => K s
def V.strip (i : Nat) : V -> V
 | .sl l (.tok j sz) => match Nat.beq j i with | true => .sl l .no | false => .sl l (.tok j sz)
 | v => v
def V.untok : V -> V
 | .sl l (.tok _ _) => .sl l .no
 | v => v
def V.noTok : V -> Bool
 | .sl _ (.tok _ _) => false
 | _ => true
def V.tokOk : V -> Bool
 | .agg l => l.all V.noTok
 | _ => true
def V.okCell : V -> Bool
 | .undef | .agg _ | .tup _ => false
 | _ => true
mutual
def V.low (n : Nat) : V -> Bool
 | .ptr o _ => Nat.blt o n
 | .slp l => V.lowL n l
 | .dp l => V.lowL n l
 | .fn _ a b => V.lowL n a && V.lowL n b
 | .ifc _ v => V.low n v
 | .agg l => V.lowL n l
 | .tup l => V.lowL n l
 | .mp o => Nat.blt o n
 | .slo o _ _ _ _ => Nat.blt o n
 | .bp o _ _ _ => Nat.blt o n
 | _ => true
def V.lowL (n : Nat) : List V -> Bool
 | [] => true
 | v :: r => V.low n v && V.lowL n r
end
def szOf (P : Program) (t : TypeId) : Nat := ((P.info? t).map (·.size)).getD 0
def byOf (P : Program) (t : TypeId) : Nat := ((P.info? t).map (·.bytes)).getD 0
def isAggB (P : Program) (t : TypeId) : Bool :=
 match P.underlying t with
 | some (.struct _) | some (.array _ _) => true
 | _ => false
def elemT (P : Program) (t : TypeId) : TypeId :=
 match P.underlying t with
 | some (.slice e) | some (.array _ e) => e
 | _ => 0
def intCells : List V -> Bool
 | [] => false
 | [.int _ _] => true
 | .int _ _ :: r => intCells r
 | _ => false
theorem intCells_mem : ∀ {l : List V}, intCells l = true -> l ≠ [] /\ ∀ x ∈ l, ∃ k n, x = .int k n
 | [.int k n], _ => ⟨by simp, fun x hx => ⟨k, n, by simpa using hx⟩⟩
 | .int k n :: y :: r, h => ⟨by simp, fun x hx => by
   rcases List.mem_cons.1 hx with rfl | hx
   · exact ⟨k, n, rfl⟩
   · exact (intCells_mem (l := y :: r) (by simpa [intCells] using h)).2 x hx⟩
theorem intCells_flat : ∀ {l : List V}, (∀ x ∈ l, ∃ k n, x = .int k n) -> l.flatMap V.cells = l
 | [], _ => rfl
 | x :: r, h => by
   obtain ⟨k, n, rfl⟩ := h x (.head _)
   rw [List.flatMap_cons, intCells_flat fun y hy => h y (.tail _ hy)]; rfl
end VL

namespace VL
open Go
noncomputable section
inductive Out where
 | ret (v : V)
 | pan (v : V)
def dropK {α : Type} : List α -> Nat -> (List α -> Prop) -> Prop
 | l, 0, K => K l
 | [], _ + 1, _ => False
 | _ :: r, n + 1, K => dropK r n K
def takeK {α : Type} : List α -> Nat -> (List α -> Prop) -> Prop
 | _, 0, K => K []
 | [], _ + 1, _ => False
 | x :: r, n + 1, K => takeK r n fun l => K (x :: l)
def spliceK {α : Type} : List α -> Nat -> List α -> (List α -> Prop) -> Prop
 | l, 0, [], K => K l
 | [], 0, _ :: _, _ => False
 | _ :: r, 0, v :: vs, K => spliceK r 0 vs fun l => K (v :: l)
 | [], _ + 1, _, _ => False
 | x :: r, n + 1, vs, K => spliceK r n vs fun l => K (x :: l)
def mapK {α β : Type} (f : α -> (β -> Prop) -> Prop) : List α -> (List β -> Prop) -> Prop
 | [], K => K []
 | x :: r, K => f x fun y => mapK f r fun ys => K (y :: ys)
def V.untokK (v : V) (K : V -> Prop) : Prop := v.force fun v => v.untok.force K
def loadK (P : Program) (T : TypeId) (cs : List V) (K : V -> Prop) : Prop :=
 match P.underlying T with
 | some (.struct _) | some (.array _ _) => takeK cs (szOf P T) fun l => mapK V.untokK l fun l => K (.agg l)
 | some _ => (match cs with
   | c :: _ => c.force K
   | [] => False)
 | none => False
def szK (P : Program) (T : TypeId) (K : Nat -> Prop) : Prop :=
 match szOf P T with
 | 0 => False
 | n + 1 => K (n + 1)
def snocK {α : Type} : List α -> α -> (Nat -> List α -> Prop) -> Prop
 | [], v, K => K 0 [v]
 | x :: r, v, K => snocK r v fun n l => K (n + 1) (x :: l)
def bitsV (op : BinOp) (k : IntKind) (x y : Int) : Int :=
 let a := BitVec.ofInt k.bits x
 let b := BitVec.ofInt k.bits y
 match op with
 | .and => k.wrap (a &&& b).toNat
 | .or => k.wrap (a ||| b).toNat
 | .xor => k.wrap (a ^^^ b).toNat
 | _ => k.wrap (a &&& ~~~b).toNat
def shiftV (op : BinOp) (k : IntKind) (x y : Int) : Int :=
 let n := min y.toNat k.bits
 match op with
 | .shl => k.wrap (x * 2 ^ n)
 | _ => x.fdiv (2 ^ n)
def eqCells : List V -> List V -> Option Bool
 | [], [] => some true
 | .int k a :: x, .int k' b :: y => if k = k' then (eqCells x y).map ((a == b) && ·) else none
 | .bool a :: x, .bool b :: y => (eqCells x y).map ((a == b) && ·)
 | .str a :: x, .str b :: y => (eqCells x y).map ((a.toList == b.toList) && ·)
 | _, _ => none
def kindOk (P : Program) (t : TypeId) (v : V) : Bool :=
 match P.underlying t, v with
 | some (.int _), .int _ _ => true
 | some .bool, .bool _ => true
 | some .string, .str _ => true
 | _, _ => false
def fitsF (P : Program) : Nat -> List Field -> List V -> Bool
 | _, [], [] => true
 | i, f :: fs, v :: vs => kindOk P f.type v && f.name != "_" && f.offset == i && fitsF P (i + 1) fs vs
 | _, _, _ => false
def flatT (P : Program) (t : TypeId) (l : List V) : Bool :=
 match P.underlying t with
 | some (.struct fs) => fitsF P 0 fs.toList l && !P.stoodInHeld t && !P.eqGuardType P.depth t
 | some (.array n e) => l.all (kindOk P e) && l.length == n && szOf P e == 1 && (P.info? e).isSome && !P.eqGuardType P.depth t
 | _ => false
def binopK (P : Program) (op : BinOp) (T : TypeId) (x y : V) (K : V -> Prop) : Prop :=
 match op, x, y with
 | .shl, .int k a, .int _ b => 0 <= b /\ K (.int k (shiftV .shl k a b))
 | .shr, .int k a, .int _ b => 0 <= b /\ K (.int k (shiftV .shr k a b))
 | op, .int k a, .int k' b =>
   if k = k' then
    match op with
    | .add => K (.int k (k.wrap (a + b)))
    | .sub => K (.int k (k.wrap (a - b)))
    | .mul => K (.int k (k.wrap (a * b)))
    | .quo => b ≠ 0 /\ K (.int k (k.wrap (a.tdiv b)))
    | .rem => b ≠ 0 /\ K (.int k (a.tmod b))
    | .and => K (.int k (bitsV .and k a b))
    | .or => K (.int k (bitsV .or k a b))
    | .xor => K (.int k (bitsV .xor k a b))
    | .andNot => K (.int k (bitsV .andNot k a b))
    | .eql => K (.bool (a == b))
    | .neq => K (.bool (a != b))
    | .lss => K (.bool (decide (a < b)))
    | .leq => K (.bool (decide (a <= b)))
    | .gtr => K (.bool (decide (a > b)))
    | .geq => K (.bool (decide (a ≥ b)))
    | _ => False
   else False
 | .add, .str a, .str b => (((a.size + b.size : Nat) : Int) <= IntKind.i64.max) /\ K (.str (a ++ b))
 | .eql, .str a, .str b => K (.bool (a.toList == b.toList))
 | .neq, .str a, .str b => K (.bool !(a.toList == b.toList))
 | .lss, .str a, .str b => K (.bool (Op.bytesLess a.toList b.toList))
 | .leq, .str a, .str b => K (.bool (Op.bytesLess a.toList b.toList || a.toList == b.toList))
 | .gtr, .str a, .str b => K (.bool !(Op.bytesLess a.toList b.toList || a.toList == b.toList))
 | .geq, .str a, .str b => K (.bool !(Op.bytesLess a.toList b.toList))
 | .eql, .bool a, .bool b => match P.underlying T with | some .bool => K (.bool (a == b)) | _ => False
 | .neq, .bool a, .bool b => match P.underlying T with | some .bool => K (.bool !(a == b)) | _ => False
 | .eql, .agg a, .agg b => match flatT P T a, eqCells a b with | true, some r => K (.bool r) | _, _ => False
 | .neq, .agg a, .agg b => match flatT P T a, eqCells a b with | true, some r => K (.bool !r) | _, _ => False
 | .eql, .ptr _ _, .nilp => match P.underlying T with | some (.pointer _) => K (.bool false) | _ => False
 | .neq, .ptr _ _, .nilp => match P.underlying T with | some (.pointer _) => K (.bool true) | _ => False
 | .eql, .nilp, .nilp => match P.underlying T with | some (.pointer _) => K (.bool true) | _ => False
 | .neq, .nilp, .nilp => match P.underlying T with | some (.pointer _) => K (.bool false) | _ => False
 | .eql, .ptr a i, .ptr b j => match P.underlying T, Nat.beq a b && Nat.beq i j with | some (.pointer e), true => szK P e fun _ => K (.bool true) | _, _ => False
 | .neq, .ptr a i, .ptr b j => match P.underlying T, Nat.beq a b && Nat.beq i j with | some (.pointer e), true => szK P e fun _ => K (.bool false) | _, _ => False
 | .eql, .mp _, .nilm => match P.underlying T with | some (.map _ _) => K (.bool false) | _ => False
 | .neq, .mp _, .nilm => match P.underlying T with | some (.map _ _) => K (.bool true) | _ => False
 | .eql, .nilm, .nilm => match P.underlying T with | some (.map _ _) => K (.bool true) | _ => False
 | .neq, .nilm, .nilm => match P.underlying T with | some (.map _ _) => K (.bool false) | _ => False
 | .eql, .fn _ _ _, .niln => match P.underlying T with | some (.func _ _ _) => K (.bool false) | _ => False
 | .neq, .fn _ _ _, .niln => match P.underlying T with | some (.func _ _ _) => K (.bool true) | _ => False
 | .eql, .niln, .niln => match P.underlying T with | some (.func _ _ _) => K (.bool true) | _ => False
 | .neq, .niln, .niln => match P.underlying T with | some (.func _ _ _) => K (.bool false) | _ => False
 | .eql, .nili, .nili => match P.underlying T with | some (.interface ms) => (match ms.isEmpty with | true => K (.bool true) | false => False) | _ => False
 | .neq, .nili, .nili => match P.underlying T with | some (.interface ms) => (match ms.isEmpty with | true => K (.bool false) | false => False) | _ => False
 | .eql, .ifc _ _, .nili => match P.underlying T with | some (.interface _) => K (.bool false) | _ => False
 | .neq, .ifc _ _, .nili => match P.underlying T with | some (.interface _) => K (.bool true) | _ => False
 | _, _, _ => False
def bytesV (s : ByteArray) : List V := s.data.toList.map fun b => .int .u8 b.toNat
def lowK (t : List V) (lo : Option Operand) (K : Int -> Prop) : Prop :=
 match lo with
 | none => K 0
 | some y => ev t y fun y => match y with
   | .int _ n => K n
   | _ => False
def convK (P : Program) (src dst : TypeId) (x : V) (K : V -> Prop) : Prop :=
 match P.underlying src, P.underlying dst, x with
 | some _, some (.int k), .int _ n => K (.int k (k.wrap n))
 | some _, some .string, .str s => K (.str s)
 | some .string, some (.slice e), .str s => match P.underlying e with
   | some (.int .u8) => K (.sl (bytesV s) .no)
   | _ => False
 | some (.slice e), some .string, .sl l _ => match P.underlying e with
   | some (.int .u8) => ∃ bs : ByteArray, l = bytesV bs /\ K (.str bs)
   | _ => False
 | _, _, _ => False
def fieldsOf (P : Program) (T : TypeId) : List Field :=
 match P.underlying T with
 | some (.struct fs) => fs.toList
 | _ => []
def zeroV (P : Program) (T : TypeId) (K : V -> Prop) : Prop :=
 match (P.info? T).bind (·.zero) with
 | some z => (ofConstAgg z).force K
 | none => False
def assertK (P : Program) (T : TypeId) (ok : Bool) (x : V) (K : V -> Prop) : Prop :=
 match x with
 | .ifc T' v => (match Nat.beq T' T with
   | true => v.untokK fun v => (match ok with | true => K (.tup [v, .bool true]) | false => K v)
   | false => (match ok with | true => zeroV P T fun z => K (.tup [z, .bool false]) | false => False))
 | .nili => (match ok with | true => zeroV P T fun z => K (.tup [z, .bool false]) | false => False)
 | _ => False
def fillK (place : Nat -> Option (Nat × Nat)) : List V -> List (Nat × V) -> (List V -> Prop) -> Prop
 | cs, [], K => K cs
 | cs, (i, v) :: r, K =>
   match place i with
   | some (off, size) => v.force fun v => (match v.cells.length == size && v.cells.all V.okCell with
     | true => spliceK cs off v.cells fun cs => fillK place cs r K
     | false => False)
   | none => False
def partsK (t : List V) : List (Nat × Operand) -> (List (Nat × V) -> Prop) -> Prop
 | [], K => K []
 | (i, x) :: r, K => ev t x fun v => v.untokK fun v => partsK t r fun ps => K ((i, v) :: ps)
def buildK (P : Program) (T : TypeId) (ps : List (Nat × V)) (K : V -> Prop) : Prop :=
 zeroV P T fun z =>
 match P.underlying T with
 | some (.struct fs) => (match fs.toList.all (fun f => (P.info? f.type).isSome) with
   | true => fillK (fun i => (fs.toList[i]?).map fun f => (f.offset, szOf P f.type)) z.cells ps fun cs => K (.agg cs)
   | false => False)
 | some (.array _ e) => (match (P.info? e).isSome with
   | true => fillK (fun i => some (i * szOf P e, szOf P e)) z.cells ps fun cs => K (.agg cs)
   | false => False)
 | _ => False
def inOrder : Nat -> List (Nat × V) -> Option (List V)
 | _, [] => some []
 | i, (j, v) :: r => if i = j then (inOrder (i + 1) r).map (v :: ·) else none
def sizesOk (n : Nat) : List V -> Bool
 | [] => true
 | v :: r => v.cells.length == n && v.cells.all V.okCell && v.tokOk && sizesOk n r
def keyB : V -> V -> Bool
 | .int _ a, .int _ b => a == b
 | .str a, .str b => a == b
 | .bool a, .bool b => a == b
 | _, _ => false
def plainKey (P : Program) (t : TypeId) (v : V) : Bool :=
 match P.underlying t, v with
 | some (.int k), .int k' _ => decide (k' = k)
 | some .bool, .bool _ => true
 | some .string, .str _ => true
 | _, _ => false
def updV (k v : V) : List (V × V) -> List (V × V)
 | [] => [(k, v)]
 | e :: r => if keyB k e.1 then (k, v) :: r else e :: updV k v r
def V.remake : V -> List V -> V
 | .agg _, cs => .agg cs
 | _, c :: _ => c
 | v, [] => v
def optK (t : List V) : Option Operand -> (Option Int -> Prop) -> Prop
 | none, K => K none
 | some y, K => ev t y fun y => match y with
   | .int _ n => K (some n)
   | _ => False
def srcK (P : Program) (e : TypeId) (ts : Array TypeId) (ob : List VObj) (v : V) (K : List V -> Prop) : Prop :=
 match v with
 | .sl m _ => K m
 | .spare m _ => K m
 | .str x => (match szOf P e with | 1 => K (bytesV x) | _ => False)
 | .slo o z lo n _ => getK ob o fun o1 => match o1 with
   | .buf _ z' l _ => (match Nat.beq z z' with | true => lo + n <= l.length /\ K ((l.drop lo).take n) | false => False)
   | _ => False
 | _ => False
inductive Ex where
 | normal
 | exit (i : Nat)
 | ret
 | pan (v : V)
structure Sys where
 P : Program
 call : FuncId -> List V -> List VObj -> (Out -> List VObj -> Prop) -> Prop
 loop : Code -> St -> (Ex -> St -> Prop) -> Prop
 step : Code -> St -> (Ex -> St -> Prop) -> Prop
 calld : FuncId -> List V -> List VObj -> Option V -> (Bool -> List VObj -> Prop) -> Prop
 mu : List Tmp
variable (S : Sys)
def strips (i : Nat) : St -> (St -> Prop) -> Prop
 | ⟨t, ob, nt, df⟩, K =>
 mapK (fun v K => (V.strip i v).force K) t fun t =>
 mapK (fun o K => match o with
  | VObj.cells w T cs => mapK (fun v K => (V.strip i v).force K) cs fun cs => K (VObj.cells w T cs)
  | o => K o) ob fun ob => K ⟨t, ob, nt, df⟩
mutual
def ptrs : V -> List Nat
 | .ptr o _ => [o]
 | .slp l => ptrsL l
 | .dp l => ptrsL l
 | .fn _ a b => ptrsL a ++ ptrsL b
 | .ifc _ v => ptrs v
 | .agg l => ptrsL l
 | .tup l => ptrsL l
 | .mp o => [o]
 | .slo o _ _ _ _ => [o]
 | .bp o _ _ _ => [o]
 | _ => []
def ptrsL : List V -> List Nat
 | [] => []
 | v :: r => ptrs v ++ ptrsL r
end
def ptrsO : VObj -> List Nat
 | .cells _ _ cs => ptrsL cs
 | _ => []
def memN (i : Nat) : List Nat -> Bool
 | [] => false
 | j :: r => match Nat.beq i j with | true => true | false => memN i r
def reach (ob : List VObj) : Nat -> List Nat -> List Nat -> List Nat
 | 0, _, acc => acc
 | _, [], acc => acc
 | n + 1, i :: r, acc => match memN i acc with
   | true => reach ob n r acc
   | false => reach ob n (r ++ ((ob[i]?).map ptrsO).getD []) (acc ++ [i])
def posN (i : Nat) : List Nat -> Nat -> Nat
 | [], k => k
 | j :: r, k => match Nat.beq i j with | true => k | false => posN i r (k + 1)
mutual
def ren (f : Nat -> Nat) : V -> V
 | .ptr o k => .ptr (f o) k
 | .slp l => .slp (renL f l)
 | .dp l => .dp (renL f l)
 | .fn g a b => .fn g (renL f a) (renL f b)
 | .ifc t v => .ifc t (ren f v)
 | .agg l => .agg (renL f l)
 | .tup l => .tup (renL f l)
 | .mp o => .mp (f o)
 | .slo o z lo n c => .slo (f o) z lo n c
 | .bp o z i off => .bp (f o) z i off
 | v => v
def renL (f : Nat -> Nat) : List V -> List V
 | [] => []
 | v :: r => ren f v :: renL f r
end
def natK (n : Nat) (K : Nat -> Prop) : Prop :=
 match n with
 | 0 => K 0
 | m + 1 => K (m + 1)
def listK : List Nat -> (List Nat -> Prop) -> Prop
 | [], K => K []
 | i :: r, K => natK i fun i => listK r fun r => K (i :: r)
def renP (f : Nat -> Nat) (v : V) (K : V -> Prop) : Prop :=
 match v with
 | .ptr o k => natK (f o) fun o => K (.ptr o k)
 | .mp o => natK (f o) fun o => K (.mp o)
 | .slo o z lo n c => natK (f o) fun o => K (.slo o z lo n c)
 | .bp o z i off => natK (f o) fun o => K (.bp o z i off)
 | v => match ptrs v with
   | [] => K v
   | _ :: _ => K (ren f v)
def renO (f : Nat -> Nat) : VObj -> VObj
 | .cells w T cs => .cells w T (renL f cs)
 | o => o
def renOP (f : Nat -> Nat) (o : VObj) (K : VObj -> Prop) : Prop :=
 match o with
 | .cells w T cs => (match ptrsL cs with
   | [] => K (.cells w T cs)
   | _ :: _ => mapK (renP f) cs fun cs => K (.cells w T cs))
 | o => K o
def VObj.untokK : VObj -> (VObj -> Prop) -> Prop
 | .cells w T cs, K => mapK V.untokK cs fun cs => K (.cells w T cs)
 | .map es, K => K (.map es)
 | .buf m z l ty, K => K (.buf m z l ty)
 | .none, K => K .none
def VObj.inK : VObj -> (VObj -> Prop) -> Prop
 | .buf _ z l ty, K => K (.buf false z l ty)
 | o, K => K o
def VObj.orMv (m : Bool) : VObj -> VObj
 | .buf true z l ty => .buf true z l ty
 | .buf false z l ty => .buf m z l ty
 | o => o
def VObj.orMvK (m : Bool) (o : VObj) (K : VObj -> Prop) : Prop :=
 match o, m with
 | .buf true z l ty, _ => K (.buf true z l ty)
 | .buf false z l ty, m => K (.buf m z l ty)
 | o, false => K o
 | _, true => False
def VObj.mvK (o : VObj) (K : Bool -> Prop) : Prop :=
 match o with
 | .buf true _ _ _ => K true
 | _ => K false
def nodupN : List Nat -> Bool
 | [] => true
 | i :: r => !memN i r && nodupN r
def allIn (idx : List Nat) : List Nat -> Bool
 | [] => true
 | i :: r => memN i idx && allIn idx r
def shutN (ob : List VObj) (idx : List Nat) : List Nat -> Bool
 | [] => true
 | i :: r => allIn idx (((ob[i]?).map ptrsO).getD []) && shutN ob idx r
def backK (f : Nat -> Nat) : List Nat -> List VObj -> List VObj -> (List VObj -> Prop) -> Prop
 | i :: r, o :: os, ob, K => renOP f o fun o => getK ob i fun o0 => o0.mvK fun m => o.orMvK m fun o => setK ob i o fun ob => backK f r os ob K
 | [], os, ob, K => mapK (renOP f) os fun os => K (ob ++ os)
 | _ :: _, [], _, _ => False
def getsK (ob : List VObj) (f : Nat -> Nat) : List Nat -> (List VObj -> Prop) -> Prop
 | [], K => K []
 | i :: r, K => getK ob i fun o => o.untokK fun o => getsK ob f r fun os => renOP f o fun o => K (o :: os)
def insK : List VObj -> (List VObj -> Prop) -> Prop
 | [], K => K []
 | o :: r, K => o.inK fun o => insK r fun r => K (o :: r)
def movedK : List Nat -> List VObj -> (List Nat -> Prop) -> Prop
 | i :: r, o :: os, K => o.mvK fun m => match m with
   | true => movedK r os fun l => K (i :: l)
   | false => movedK r os K
 | _, _, K => K []
def anyIn (ms : List Nat) : List Nat -> Bool
 | [] => false
 | i :: r => match memN i ms with | true => true | false => anyIn ms r
def V.forget (ms : List Nat) (v : V) : V :=
 match anyIn ms (ptrs v) with
 | true => .undef
 | false => v
def VObj.forgetK (ms : List Nat) : VObj -> (VObj -> Prop) -> Prop
 | .cells w T cs, K => mapK (fun v K => (V.forget ms v).force K) cs fun cs => K (.cells w T cs)
 | o, K => K o
def noneIn (ms : List Nat) : List (Fn × List V × List V) -> Bool
 | [] => true
 | (_, a, b) :: r => !anyIn ms (ptrsL a) && !anyIn ms (ptrsL b) && noneIn ms r
def forgetK (ms : List Nat) (t : List V) (ob : List VObj) (df : List (Fn × List V × List V)) (K : List V -> List VObj -> Prop) : Prop :=
 match ms with
 | [] => K t ob
 | m :: r => match noneIn (m :: r) df with
   | false => False
   | true => mapK (fun v K => (V.forget (m :: r) v).force K) t fun t => mapK (VObj.forgetK (m :: r)) ob fun ob => K t ob
def vcall : V -> List V -> St -> (V -> St -> Prop) -> (V -> St -> Prop) -> Prop
 | .fn (.func g) first cap, args, ⟨t, ob, nt, df⟩, K, KP =>
   mapK V.untokK (first ++ args ++ cap) fun args =>
   listK (reach ob 64 (ptrsL args) []) fun idx =>
   match nodupN idx && allIn idx (ptrsL args) && shutN ob idx idx with
   | false => False
   | true =>
   getsK ob (fun i => posN i idx 0) idx fun sub =>
   insK sub fun sub =>
   mapK (renP fun i => posN i idx 0) args fun args =>
   S.call g args sub fun out sub' =>
   let back : Nat -> Nat := fun j => (idx[j]?).getD (ob.length + (j - idx.length))
   movedK idx sub' fun ms => forgetK ms t ob df fun t ob =>
   backK back idx sub' ob fun ob => match out with
    | .ret v => renP back v fun v => K v ⟨t, ob, nt, df⟩
    | .pan v => renP back v fun v => KP v ⟨t, ob, nt, df⟩
 | _, _, _, _, _ => False
def srcOk (P : Program) (ts : Array TypeId) : Bool :=
 match ts[1]? with
 | none => true
 | some u => match P.underlying u with
   | some (.int _) => false
   | some _ => true
   | none => false
def argT (P : Program) (ts : Array TypeId) : Option TypeDesc := (ts[0]?).bind P.underlying
def appendK (P : Program) (e : TypeId) (l : List V) (r : Room) (m : List V) : St -> (V -> St -> Prop) -> Prop
 | ⟨t, ob, nt, df⟩, K =>
 szK P e fun z => match (P.info? e).bind (·.zero), byOf P e with
  | some zv, by_ + 1 => (match zv.cells.size == z with
    | true => (l.length + m.length) * (by_ + 1) <= 140737488355328 /\ (∀ x ∈ m, x.cells.length = z) /\
      (match r with
      | .no => False
      | .ex => (∀ x ∈ l, x.cells.length = z) /\ K (.sl (l ++ m) (.tok nt z)) ⟨t, ob, nt + 1, df⟩
      | .tok i sz => (match Nat.beq sz z with
        | true => strips i ⟨t, ob, nt, df⟩ fun s => K (.sl (l ++ m) (.tok i sz)) s
        | false => False))
    | false => False)
  | _, _ => False
def vbuiltinF (b : Builtin) (ts : Array TypeId) (args : List V) (K : V -> Prop) : Prop :=
 match b, argT S.P ts, args with
 | .len, some .string, [.str x] => K (.int .i64 x.size)
 | .len, some (.slice _), [.sl l _] => K (.int .i64 l.length)
 | .len, some (.slice _), [.slp l] => K (.int .i64 l.length)
 | .len, some (.slice _), [.spare l _] => K (.int .i64 l.length)
 | .len, some (.slice _), [.slo _ _ _ n _] => K (.int .i64 n)
 | .cap, some (.slice _), [.slo _ _ _ _ c] => K (.int .i64 c)
 | .len, some (.array n _), [_] => K (.int .i64 n)
 | .unsafeSliceData, some (.slice _), [.slo o z lo n c] => 0 < c /\ K (.bp o z lo 0)
 | .cap, some (.slice _), [.spare l m] => K (.int .i64 ((l.length + m.length : Nat) : Int))
 | .min, _, [.int k a, .int k' b] => k = k' /\ K (.int k (if b < a then b else a))
 | .max, _, [.int k a, .int k' b] => k = k' /\ K (.int k (if b > a then b else a))
 | _, _, _ => False
def growT : Option TypeId -> TypeId -> Option TypeId
 | some T, e => (match Nat.beq T e with | true => some T | false => none)
 | none, _ => none
def appendNewK (P : Program) (e : TypeId) (m : List V) : St -> (V -> St -> Prop) -> Prop
 | ⟨t, ob, nt, df⟩, K =>
 szK P e fun z => match (P.info? e).bind (·.zero), byOf P e with
  | some zv, by_ + 1 => (match zv.cells.size == z && V.lowL 0 (ofConstAgg zv).cells && (ofConstAgg zv).cells.all V.okCell with
    | true => m.length * (by_ + 1) <= 140737488355328 /\ (∀ x ∈ m, x.cells.length = z) /\
      ∀ sp : List V, (m = [] -> sp = []) -> (∀ x ∈ sp, x.cells.length = z) -> snocK ob (.buf false z (m ++ sp)) fun i ob => K (.slo i z 0 m.length (m.length + sp.length)) ⟨t, ob, nt, df⟩
    | false => False)
  | _, _ => False
def appendBufK (P : Program) (e : TypeId) (o z lo n c : Nat) (m : List V) : St -> (V -> St -> Prop) -> Prop
 | ⟨t, ob, nt, df⟩, K =>
 szK P e fun z' => match (P.info? e).bind (·.zero), byOf P e, Nat.beq z z' with
  | some zv, by_ + 1, true => (match zv.cells.size == z && V.lowL 0 (ofConstAgg zv).cells && (ofConstAgg zv).cells.all V.okCell with
    | true => (n + m.length) * (by_ + 1) <= 140737488355328 /\ (∀ x ∈ m, x.cells.length = z) /\
      getK ob o fun o1 => match o1 with
      | .buf mv z' l ty => (match Nat.beq z z' with
        | true => Bif (Nat.ble (n + m.length) c)
          (lo + c <= l.length /\ setK ob o (.buf mv z (l.take (lo + n) ++ m ++ l.drop (lo + n + m.length)) ty) fun ob => K (.slo o z lo (n + m.length) c) ⟨t, ob, nt, df⟩)
          (lo + n <= l.length /\ ∀ sp : List V, (∀ x ∈ sp, x.cells.length = z) ->
            snocK ob (.buf false z ((l.drop lo).take n ++ m ++ sp) (growT ty e)) fun i ob => K (.slo i z 0 (n + m.length) (n + m.length + sp.length)) ⟨t, ob, nt, df⟩)
        | false => False)
      | _ => False
    | false => False)
  | _, _, _ => False
def vappend (mu : Bool) (ts : Array TypeId) (args : List V) (s : St) (K : V -> St -> Prop) : Prop :=
 match argT S.P ts, args with
 | some (.slice e), [b, v] => (match srcOk S.P ts with
   | true => srcK S.P e ts s.objs v fun m => (match b with
     | .sl l r => (match mu, l, r with
       | true, [], .ex => appendNewK S.P e m s K
       | _, l, r => appendK S.P e l r m s K)
     | .slo o z lo n c => appendBufK S.P e o z lo n c m s K
     | _ => False)
   | false => (match b, v, (ts[1]?).bind S.P.underlying with
     | .slo o z lo n c, .int _ k, some (.int _) => (match (S.P.info? e).bind (·.zero) with
       | some zv => 0 <= k /\ k < 281474976710656 /\ appendBufK S.P e o z lo n c (List.replicate k.toNat (ofConstAgg zv)) s K
       | none => False)
     | _, _, _ => False))
 | _, _ => False
def vcopy (ts : Array TypeId) (args : List V) : St -> (V -> St -> Prop) -> Prop
 | ⟨t, ob, nt, df⟩, K => match argT S.P ts, args with
 | some (.slice e), [.slo o z lo n c, v] => srcK S.P e ts ob v fun m => szK S.P e fun z' =>
   (match Nat.beq z z' with
   | true => (∀ x ∈ m, x.cells.length = z) /\ getK ob o fun o1 => match o1 with
     | .buf mv z' l ty => (match Nat.beq z z' with
       | true => lo + n <= l.length /\ setK ob o (.buf mv z (l.take lo ++ m.take n ++ l.drop (lo + min m.length n)) ty) fun ob => K (.int .i64 ((min m.length n : Nat) : Int)) ⟨t, ob, nt, df⟩
       | false => False)
     | _ => False
   | false => False)
 | _, _ => False
def vmakeSlice (T : TypeId) (len cap : V) : St -> (V -> St -> Prop) -> Prop
 | ⟨t, ob, nt, df⟩, K => match len, cap, S.P.underlying T with
 | .int _ n, .int _ c, some (.slice e) => szK S.P e fun z => (match (S.P.info? e).bind (·.zero) with
   | some zv => (match zv.cells.size == z && V.lowL 0 (ofConstAgg zv).cells && (ofConstAgg zv).cells.all V.okCell with
     | true => 0 <= n /\ n <= c /\ c * byOf S.P e <= 140737488355328 /\ c <= 140737488355328 /\
       snocK ob (.buf false z (List.replicate c.toNat (ofConstAgg zv))) fun i ob => K (.slo i z 0 n.toNat c.toNat) ⟨t, ob, nt, df⟩
     | false => False)
   | none => False)
 | _, _, _ => False
def lookupK (P : Program) (T : TypeId) (ob : List VObj) (x k : V) (ok : Bool) (K : V -> Prop) : Prop :=
 match P.underlying T with
 | some (.map kt et) => (match plainKey P kt k with
   | true =>
     let res : V -> Bool -> Prop := fun v b => v.untokK fun v => (match ok with | true => K (.tup [v, .bool b]) | false => K v)
     (match x with
     | .nilm => zeroV P et fun z => res z false
     | .mp o => getK ob o fun o1 => (match o1 with
       | .map es => (∀ e ∈ es, plainKey P kt e.1 = true) /\ ∃ r, es.find? (fun e => keyB k e.1) = r /\ (match r with
         | some e => res e.2 true
         | none => zeroV P et fun z => res z false)
       | _ => False)
     | _ => False)
   | false => False)
 | _ => False
def vmapUpdate (T : TypeId) (x k v : V) : St -> (V -> St -> Prop) -> Prop
 | ⟨t, ob, nt, df⟩, K => match S.P.underlying T, x with
 | some (.map kt _), .mp o => v.untokK fun v => (match plainKey S.P kt k && V.low 0 v with
   | true => getK ob o fun o1 => (match o1 with
     | .map es => (∀ e ∈ es, plainKey S.P kt e.1 = true) /\ setK ob o (.map (updV k v es)) fun ob => K (.tup []) ⟨t, ob, nt, df⟩
     | _ => False)
   | false => False)
 | _, _ => False
def vunsafeString (ts : Array TypeId) (args : List V) : St -> (V -> St -> Prop) -> Prop
 | ⟨t, ob, nt, df⟩, K => match argT S.P ts, args with
 | some (.pointer e), [.bp o z 0 0, .int .i64 n] => getK ob o fun o1 => (match o1 with
   | .buf _ z' l (some T) => (match Nat.beq z 1 && Nat.beq z z' && Nat.beq T e && Nat.beq (S.P.cellsOf e) 1 with
     | true => 0 <= n /\ n <= 140737488355328 /\ n.toNat <= l.length /\ ∃ bs : ByteArray, l.take n.toNat = bytesV bs /\
       Bif (Nat.beq n.toNat 0) (K (.str bs) ⟨t, ob, nt, df⟩) (setK ob o (.buf true 1 []) fun ob => K (.str bs) ⟨t, ob, nt, df⟩)
     | false => False)
   | _ => False)
 | _, _ => False
def isNilSl : Operand -> Bool
 | .const (.slice none _ _) => true
 | _ => false
def nilSlK (P : Program) (op : BinOp) (T : TypeId) (x : V) (K : V -> Prop) : Prop :=
 match P.underlying T, op with
 | some (.slice _), .eql => nilB x fun b => K (.bool b)
 | some (.slice _), .neq => nilB x fun b => K (.bool !b)
 | _, _ => False
where
 nilB : V -> (Bool -> Prop) -> Prop
  | .sl l _, K => ∀ b : Bool, (b = true -> l = []) -> K b
  | .slo _ _ _ _ c, K => ∀ b : Bool, (b = true -> c = 0) -> K b
  | .slp l, K => ∀ b : Bool, (b = true -> l = []) -> K b
  | .spare l m, K => ∀ b : Bool, (b = true -> l = [] /\ m = []) -> K b
  | _, _ => False
def unsafeOk (P : Program) (a b : TypeId) (o : VObj) (off : Nat) : Bool :=
 match o, P.underlying a, P.underlying b with
 | .cells _ _ cs, some (.pointer t), some .unsafePointer => Nat.blt 0 (szOf P t) && Nat.blt off cs.length
 | .cells _ T cs, some .unsafePointer, some (.pointer u) => Nat.blt 0 (szOf P u) && liesAt P P.depth T (cs.length / P.cellsOf T) off u 1
 | _, _, _ => false
def unsafeK (P : Program) (a b : TypeId) (o : VObj) (off : Nat) (K : Bool -> Prop) : Prop := K (unsafeOk P a b o off)
def vflo (o : Oper) (t : List V) (ob : List VObj) (K : V -> Prop) : Prop :=
 match o.op with
 | .move x | .assign x => ev t x fun v => K v
 | .pick c a b => ev t c fun c => match c with
   | .bool c => Bif c (ev t a fun v => K v) (ev t b fun v => K v)
   | _ => False
 | .build T parts => partsK t parts.toList fun ps => buildK S.P T ps fun v => K v
 | .buildSlice T n parts => partsK t parts.toList fun ps => match inOrder 0 ps with
   | some l => match l.length == n && sizesOk (szOf S.P (elemT S.P T)) l with
     | true => szK S.P (elemT S.P T) fun z => match Nat.blt 16777216 (n * z), (S.P.info? (elemT S.P T)).bind (·.zero) with
       | false, some zv => (match zv.cells.size == z with
         | true => (match S.P.underlying T, S.P.underlying (elemT S.P T) with
           | some (.slice _), some (.func ..) => K (.slp l)
           | some (.slice _), some (.pointer _) => K (.slp l)
           | some (.slice _), _ => (match V.lowL 0 l with | true => K (.sl l .ex) | false => False)
           | _, _ => False)
         | false => False)
       | _, _ => False
     | false => False
   | none => False
 | .load T x => ev t x fun p => match p with
   | .ptr i off => getK ob i fun o1 => match o1 with
     | .cells _ _ cs => dropK cs off fun cs => loadK S.P T cs fun v => K v
     | _ => False
   | .dp cs => loadK S.P T cs fun v => v.untokK fun v => K v
   | .bp o z i off => getK ob o fun o1 => match o1 with
     | .buf _ z' l _ => (match Nat.beq z z' with
       | true => ∃ x, l[i]? = some x /\ dropK x.cells off fun cs => loadK S.P T cs fun v => v.untokK fun v => K v
       | false => False)
     | _ => False
   | _ => False
 | .nilCheck x => ev t x fun v => match v with
   | .bp o z i off => K (.bp o z i off)
   | .ptr i off => K (.ptr i off)
   | .dp c => K (.dp c)
   | .fn (.func f) a b => K (.fn (.func f) a b)
   | _ => False
 | .binOp op T x y _ => ev t x fun x => ev t y fun y => binopK S.P op T x y fun v => K v
 | .unOp op _ x => ev t x fun x => match op, x with
   | .not, .bool b => K (.bool !b)
   | .neg, .int k n => K (.int k (k.wrap (0 - n)))
   | _, _ => False
 | .lookup T x k ok => ev t x fun x => ev t k fun k => lookupK S.P T ob x k ok fun v => K v
 | .convert a b x => ev t x fun x => (match x with
   | .slo _ _ _ _ _ => (match S.P.underlying a, S.P.underlying b with
     | some (.slice e), some .string => (match S.P.underlying e with
       | some (.int .u8) => srcK S.P e #[] ob x fun m => ∃ bs : ByteArray, m = bytesV bs /\ K (.str bs)
       | _ => False)
     | _, _ => False)
   | .ptr o off => getK ob o fun o1 => unsafeK S.P a b o1 off fun b => (match b with | true => K (.ptr o off) | false => False)
   | x => convK S.P a b x fun v => K v)
 | .makeInterface T x => ev t x fun x => x.untokK fun x => match S.P.underlying T with
   | some (.interface _) => False
   | some _ => K (.ifc T x)
   | none => False
 | .makeFunc f a b => evs t a.toList fun a => evs t b.toList fun b => mapK V.untokK a fun a => mapK V.untokK b fun b => K (.fn f a b)
 | .fieldAddr T x f => ev t x fun p => match (fieldsOf S.P T)[f]? with
   | some fd => match szOf S.P fd.type with
     | 0 => False
     | _ + 1 => (match p with
       | .ptr i off => K (.ptr i (off + fd.offset))
       | .dp c => dropK c fd.offset fun c => K (.dp c)
       | .bp o z i off => K (.bp o z i (off + fd.offset))
       | _ => False)
   | none => False
 | .field T x f => ev t x fun x => match (fieldsOf S.P T)[f]?, x with
   | some fd, .agg cs => dropK cs fd.offset fun cs => loadK S.P fd.type cs fun v => v.untokK fun v => K v
   | _, _ => False
 | .indexAddr T x ix => ev t x fun p => ev t ix fun i => match i with
   | .int _ n => (match S.P.underlying T, p with
     | some (.array len e), .ptr j off => szK S.P e fun z => 0 <= n /\ n < len /\ getK ob j fun o1 => (match o1 with
       | .buf _ z' _ _ => (match Nat.beq z z', off with | true, 0 => K (.bp j z n.toNat 0) | _, _ => False)
       | _ => K (.ptr j (off + n.toNat * z)))
     | some (.slice e), .slo o z lo m _ => szK S.P e fun z' => (match Nat.beq z z' with | true => 0 <= n /\ n.toNat < m /\ K (.bp o z (lo + n.toNat) 0) | false => False)
     | some (.array len e), .dp c => szK S.P e fun z => 0 <= n /\ n < len /\ dropK c (n.toNat * z) fun c => K (.dp c)
     | some (.slice e), .sl l _ => szK S.P e fun z => 0 <= n /\ ∃ x, l[n.toNat]? = some x /\ x.cells.length = z /\ K (.dp x.cells)
     | some (.slice e), .spare l _ => szK S.P e fun z => 0 <= n /\ ∃ x, l[n.toNat]? = some x /\ x.cells.length = z /\ K (.dp x.cells)
     | some (.slice e), .slp l => szK S.P e fun z => 0 <= n /\ ∃ x, l[n.toNat]? = some x /\ x.cells.length = z /\ K (.dp x.cells)
     | _, _ => False)
   | _ => False
 | .index T x ix => ev t x fun x => ev t ix fun i => match i with
   | .int _ n => (match S.P.underlying T, x with
     | some .string, .str b => 0 <= n /\ ∃ c, b[n.toNat]? = some c /\ K (.int .u8 c.toNat)
     | some (.array len e), .agg cs => szK S.P e fun z => 0 <= n /\ n < len /\ dropK cs (n.toNat * z) fun cs => loadK S.P e cs fun v => v.untokK fun v => K v
     | _, _ => False)
   | _ => False
 | .typeAssert x _ T ok => ev t x fun x => match S.P.underlying T with
   | some (.interface _) => False
   | some _ => assertK S.P T ok x fun v => K v
   | none => False
 | .extract x i => ev t x fun x => match x with
   | .tup vs => getK vs i fun v => v.untokK fun v => K v
   | _ => False
 | .slice T x lo hi none => ev t x fun x => lowK t lo fun l => match x with
   | .str b => match S.P.underlying T with
     | some .string => (match hi with
       | none => 0 <= l /\ l <= b.size /\ K (.str (b.extract l.toNat b.size))
       | some y => ev t y fun y => match y with
         | .int _ h => 0 <= l /\ l <= h /\ h <= b.size /\ K (.str (b.extract l.toNat h.toNat))
         | _ => False)
     | _ => False
   | .sl xs r => match S.P.underlying T with
     | some (.slice e) => szK S.P e fun z => (match hi with
       | none => 0 <= l /\ l <= xs.length /\ (∀ x ∈ xs, x.cells.length = z) /\ K (.sl (xs.drop l.toNat) r)
       | some y => ev t y fun y => match y with
         | .int _ h => 0 <= l /\ l <= h /\ h <= xs.length /\ (∀ x ∈ xs, x.cells.length = z) /\ K (.sl ((xs.take h.toNat).drop l.toNat) .no)
         | _ => False)
     | _ => False
   | .spare xs sp => match S.P.underlying T with
     | some (.slice e) => szK S.P e fun z => (match hi with
       | none => False
       | some y => ev t y fun y => match y with
         | .int _ h => 0 <= l /\ l <= h /\ h <= xs.length + sp.length /\ (∀ x ∈ xs ++ sp, x.cells.length = z) /\ K (.sl (((xs ++ sp).take h.toNat).drop l.toNat) .no)
         | _ => False)
     | _ => False
   | .slo o z a n c => match S.P.underlying T with
     | some (.slice e) => szK S.P e fun z' => (match Nat.beq z z', hi with
       | true, none => 0 <= l /\ l <= n /\ K (.slo o z (a + l.toNat) (n - l.toNat) (c - l.toNat))
       | true, some y => ev t y fun y => match y with
         | .int _ h => 0 <= l /\ l <= h /\ h <= c /\ K (.slo o z (a + l.toNat) (h.toNat - l.toNat) (c - l.toNat))
         | _ => False
       | _, _ => False)
     | _ => False
   | _ => False
 | .slice T x lo (some hi) (some mx) => ev t x fun x => lowK t lo fun l => ev t hi fun h => ev t mx fun m => match x, h, m, S.P.underlying T with
   | .sl xs _, .int _ h, .int _ m, some (.slice e) => szK S.P e fun z => 0 <= l /\ l <= h /\ h = m /\ h <= xs.length /\ (∀ x ∈ xs, x.cells.length = z) /\ K (.sl ((xs.take h.toNat).drop l.toNat) .ex)
   | .slo o z a n c, .int _ h, .int _ m, some (.slice e) => szK S.P e fun z' => (match Nat.beq z z' with
     | true => 0 <= l /\ l <= h /\ h <= m /\ m <= c /\ K (.slo o z (a + l.toNat) (h.toNat - l.toNat) (m.toNat - l.toNat))
     | false => False)
   | _, _, _, _ => False
 | .call c => match c.callee with
   | .builtin b => evs t c.args.toList fun args => vbuiltinF S b c.argTypes args K
   | _ => False
 | _ => False
def dstMem (o : Option Tmp) (l : List Nat) : Bool :=
 match o with
 | some d => memN d l
 | none => false
def vbuildMu (T : TypeId) (n : Nat) (parts : Array (Nat × Operand)) (t : List V) (ob : List VObj) (K : V -> List VObj -> Prop) : Prop :=
 partsK t parts.toList fun ps => match inOrder 0 ps with
  | some l => match l.length == n && sizesOk (szOf S.P (elemT S.P T)) l with
    | true => szK S.P (elemT S.P T) fun z => match Nat.blt 16777216 (n * z), (S.P.info? (elemT S.P T)).bind (·.zero) with
      | false, some zv => (match zv.cells.size == z with
        | true => (match S.P.underlying T, V.lowL 0 l with
          | some (.slice _), true => snocK ob (.buf false z l) fun i ob => K (.slo i z 0 n n) ob
          | _, _ => False)
        | false => False)
      | _, _ => False
    | false => False
  | none => False
def vop (o : Oper) : St -> (V -> St -> Prop) -> (V -> St -> Prop) -> Prop
 | ⟨t, ob, nt, df⟩, K, KP =>
 match o.op with
 | .alloc T => zeroV S.P T fun z => match z.cells.all V.okCell && z.tokOk with
   | true => (match dstMem o.dst S.mu && intCells z.cells with
     | true => snocK ob (.buf false 1 z.cells) fun n ob => K (.ptr n 0) ⟨t, ob, nt, df⟩
     | false => snocK ob (.cells true T z.cells) fun n ob => K (.ptr n 0) ⟨t, ob, nt, df⟩)
   | false => False
 | .box T x => ev t x fun v => v.untokK fun v => match v.cells.all V.okCell && v.tokOk with
   | true => snocK ob (.cells true T v.cells) fun n ob => K (.ptr n 0) ⟨t, ob, nt, df⟩
   | false => False
 | .store T x y => ev t x fun p => ev t y fun v => v.force fun v => match p with
   | .ptr i off => getK ob i fun o1 => match o1 with
     | .cells true U cs => match (S.P.info? T).any (fun i => v.cells.length == i.size) && v.cells.all V.okCell && v.tokOk with
       | true => spliceK cs off v.cells fun cs => setK ob i (.cells true U cs) fun objs => K (.tup []) ⟨t, objs, nt, df⟩
       | false => False
     | _ => False
   | .bp o z i off => v.untokK fun v => getK ob o fun o1 => match o1 with
     | .buf mv z' l ty => (match (S.P.info? T).any (fun i => v.cells.length == i.size) && v.cells.all V.okCell && V.lowL 0 v.cells && Nat.beq z z' with
       | true => ∃ x, l[i]? = some x /\ spliceK x.cells off v.cells fun cs => setK ob o (.buf mv z (l.set i (x.remake cs)) ty) fun ob => K (.tup []) ⟨t, ob, nt, df⟩
       | false => False)
     | _ => False
   | _ => False
 | .makeSlice T len cap => ev t len fun len => ev t cap fun cap => vmakeSlice S T len cap ⟨t, ob, nt, df⟩ K
 | .makeMap T none => (match S.P.underlying T with
   | some (.map _ _) => snocK ob (.map []) fun n ob => K (.mp n) ⟨t, ob, nt, df⟩
   | _ => False)
 | .mapUpdate T x k v => ev t x fun x => ev t k fun k => ev t v fun v => vmapUpdate S T x k v ⟨t, ob, nt, df⟩ K
 | .binOp op T x y _ => (match isNilSl y with
   | true => ev t x fun x => nilSlK S.P op T x fun v => K v ⟨t, ob, nt, df⟩
   | false => vflo S o t ob fun v => K v ⟨t, ob, nt, df⟩)
 | .buildSlice T n parts => (match dstMem o.dst S.mu with
   | true => vbuildMu S T n parts t ob fun v ob => K v ⟨t, ob, nt, df⟩
   | false => vflo S o t ob fun v => K v ⟨t, ob, nt, df⟩)
 | .slice T x lo hi mx => ev t x fun p => match p with
   | .ptr i 0 => match S.P.underlying T, hi, lo, mx with
     | some (.array n e), hi, lo, none => getK ob i fun o1 => match o1 with
       | .buf _ z l _ => szK S.P e fun z' => optK t lo fun l1 => optK t hi fun h1 => (match Nat.beq z z', l1, h1 with
         | true, none, none => K (.slo i z 0 n n) ⟨t, ob, nt, df⟩
         | true, some a, none => 0 <= a /\ a <= n /\ K (.slo i z a.toNat (n - a.toNat) (n - a.toNat)) ⟨t, ob, nt, df⟩
         | true, none, some b => 0 <= b /\ b <= n /\ K (.slo i z 0 b.toNat n) ⟨t, ob, nt, df⟩
         | true, some a, some b => 0 <= a /\ a <= b /\ b <= n /\ K (.slo i z a.toNat (b.toNat - a.toNat) (n - a.toNat)) ⟨t, ob, nt, df⟩
         | _, _, _ => False)
       | .cells _ U cs => match lo.isNone && hi.isNone && cs.length == n && szOf S.P e == 1 && cs.all (fun c => match c with | .int _ _ => true | _ => false) with
         | true => setK ob i (.cells false U cs) fun objs => K (.sl cs .ex) ⟨t, objs, nt, df⟩
         | false => False
       | _ => False
     | _, _, _, _ => False
   | .ptr i (off + 1) => match S.P.underlying T, hi, lo, mx with
     | some (.array n e), some hi, none, none => getK ob i fun o1 => match o1 with
       | .cells _ _ _ => szK S.P e fun z => optK t (some hi) fun h1 => (match Nat.beq z 1, h1 with
         | true, some b => 0 <= b /\ b <= n /\ K (.slo i 1 (off + 1) b.toNat n) ⟨t, ob, nt, df⟩
         | _, _ => False)
       | _ => False
     | _, _, _, _ => False
   | _ => vflo S o t ob fun v => K v ⟨t, ob, nt, df⟩
 | .call c => match c.callee with
   | .value f => ev t f fun f => evs t c.args.toList fun args => vcall S f args ⟨t, ob, nt, df⟩ K KP
   | .builtin .append => evs t c.args.toList fun args => vappend S (dstMem o.dst S.mu) c.argTypes args ⟨t, ob, nt, df⟩ K
   | .builtin .copy => evs t c.args.toList fun args => vcopy S c.argTypes args ⟨t, ob, nt, df⟩ K
   | .builtin .unsafeString => evs t c.args.toList fun args => vunsafeString S c.argTypes args ⟨t, ob, nt, df⟩ K
   | .builtin _ => vflo S o t ob fun v => K v ⟨t, ob, nt, df⟩
   | .invoke _ _ => False
 | .defer c => match c.callee with
   | .value f => ev t f fun f => evs t c.args.toList fun args => match f with
     | .fn (.func g) first cap => mapK V.untokK (first ++ args) fun a => mapK V.untokK cap fun cap => K (.tup []) ⟨t, ob, nt, (.func g, a, cap) :: df⟩
     | _ => False
   | _ => False
 | .panic x => ev t x fun x => match x with
   | .ifc T v => KP (.ifc T v) ⟨t, ob, nt, df⟩
   | _ => False
 | _ => vflo S o t ob fun v => K v ⟨t, ob, nt, df⟩
def vops (all : List Oper) : List Oper -> St -> (St -> Prop) -> (V -> St -> Prop) -> Prop
 | [], s, K, _ => K s
 | o :: r, ⟨t, ob, nt, df⟩, K, KP =>
   match o.guard with
   | none => vop S o ⟨t, ob, nt, df⟩ (fun v s => s.put o.dst v fun s => vops all r s K KP) KP
   | some (j, want) => match (all[j]?).bind (·.dst) with
     | some d => getK t d fun g => match g with
       | .bool b =>
         Bif b
          (setK t d (.bool true) fun t => match want with
            | true => vop S o ⟨t, ob, nt, df⟩ (fun v s => s.put o.dst v fun s => vops all r s K KP) KP
            | false => St.put ⟨t, ob, nt, df⟩ o.dst (.tup []) fun s => vops all r s K KP)
          (setK t d (.bool false) fun t => match want with
            | false => vop S o ⟨t, ob, nt, df⟩ (fun v s => s.put o.dst v fun s => vops all r s K KP) KP
            | true => St.put ⟨t, ob, nt, df⟩ o.dst (.tup []) fun s => vops all r s K KP)
       | .undef => False
       | _ => St.put ⟨t, ob, nt, df⟩ o.dst (.tup []) fun s => vops all r s K KP
     | none => False
def looks (all : List Oper) (o : Oper) : List Nat :=
 (o.op.operands.toList.filterMap fun | .tmp t => some t | _ => none) ++
 (match o.guard with
  | some (g, _) => ((all[g]?).bind (·.dst)).toList
  | none => [])
def depsOf (o : Oper) : List Nat := (o.after.toList.filter (Region.binds .any ·)).map (·.on)
def maskOf (A : List Nat) : List Nat -> Nat -> Nat
 | [], m => m
 | d :: r, m => maskOf A r (m ||| (1 <<< d) ||| (A[d]?).getD 0)
def ancs : List Oper -> List Nat -> List Nat
 | [], A => A
 | o :: r, A => ancs r (A ++ [maskOf A (depsOf o) 0])
def isAnc (A : List Nat) (i j : Nat) : Bool := ((A[i]?).getD 0).testBit j
def isFlo : Op -> Bool
 | .move _ | .pick .. | .build .. | .buildSlice .. | .load .. | .nilCheck _ | .binOp .. | .unOp .. | .convert .. | .makeInterface .. | .makeFunc .. | .fieldAddr .. | .field .. | .indexAddr .. | .index ..
 | .typeAssert .. | .extract .. | .slice .. | .lookup .. => true
 | .call c => match c.callee with
   | .builtin .len | .builtin .cap | .builtin .min | .builtin .max => true
   | _ => false
 | _ => false
def isAl (o : Oper) : Bool :=
 match o.op, o.guard, depsOf o, o.dst with
 | .alloc _, none, [], some _ => true
 | _, _, _, _ => false
def isFloS (mu : List Tmp) (o : Oper) : Bool :=
 isAl o || (isFlo o.op && (match o.op with
  | .buildSlice .. => !dstMem o.dst mu
  | .binOp _ _ _ y _ => !isNilSl y
  | _ => true))
def planGo (A : List Nat) : List Nat -> List Nat -> List (Nat × Bool)
 | [], fl => fl.map fun i => (i, true)
 | e :: es, fl => (fl.filter fun i => !isAnc A i e).map (fun i => (i, true)) ++ (e, false) :: planGo A es (fl.filter fun i => isAnc A i e)
def planOf (mu : List Tmp) (all : List Oper) : List (Nat × Bool) :=
 planGo (ancs all []) ((all.zipIdx.filter fun o => !isFloS mu o.1).map (·.2)) ((all.zipIdx.filter fun o => isFloS mu o.1).map (·.2))
def dstIn (o : Option Tmp) (l : List Nat) : Bool :=
 match o with
 | some d => memN d l
 | none => false
def sameDst : Option Tmp -> Option Tmp -> Bool
 | some d, some e => Nat.beq d e
 | _, _ => false
def planOk (all : List Oper) (A : List Nat) : List (Nat × Bool) -> List Nat -> Bool
 | [], _ => true
 | (n, fl) :: r, done => (match all[n]? with
  | some o => (done.all fun i => match all[i]? with
     | some p => !sameDst o.dst p.dst && (!fl || !dstIn o.dst (looks all p)) && (!dstIn p.dst (looks all o) || isAnc A n i)
     | none => false) &&
    (!fl || !dstIn o.dst (looks all o)) && (fl || r.all fun j => isAnc A j.1 n)
  | none => false) && planOk all A r (if fl then n :: done else done)
def depsOk : List Oper -> Nat -> Bool
 | [], _ => true
 | o :: r, i => (depsOf o).all (Nat.blt · i) && depsOk r (i + 1)
def drawOk (P : Program) (all : List Oper) (π : List (Nat × Bool)) : Bool :=
 P.follows .mixedOrders && depsOk all 0 && nodupN (π.map (·.1)) && allIn (π.map (·.1)) (List.range all.length) && planOk all (ancs all []) π []
def guardK (all : List Oper) (o : Oper) (t : List V) (KT KF : List V -> Prop) : Prop :=
 match o.guard with
 | none => KT t
 | some (j, want) => match (all[j]?).bind (·.dst) with
   | some d => getK t d fun g => match g with
     | .bool b =>
       Bif b
        (setK t d (.bool true) fun t => match want with | true => KT t | false => KF t)
        (setK t d (.bool false) fun t => match want with | false => KT t | true => KF t)
     | .undef => False
     | _ => KF t
   | none => False
def isSlot : Option Tmp -> List V -> V -> Prop -> Prop
 | some d, t, v, k => getK t d fun u => v = u /\ k
 | none, _, _, k => k
def slotsClean (k : Nat) (ok : Nat -> Bool) : Nat -> List V -> Bool
 | _, [] => true
 | d, v :: r => (match memN k (ptrs v) with | true => ok d | false => true) && slotsClean k ok (d + 1) r
def objsClean (k : Nat) : Nat -> List VObj -> Bool
 | _, [] => true
 | j, x :: r => (match memN k (ptrsO x) with | true => Nat.beq j k | false => true) && objsClean k (j + 1) r
def mayName (all : List Oper) (A : List Nat) (done : List Nat) (a d : Nat) : Bool :=
 match done with
 | [] => false
 | i :: r => ((match (all[i]?).bind (·.dst) with | some d' => Nat.beq d' d | none => false) && (Nat.beq i a || isAnc A i a)) || mayName all A r a d
def allClean (all : List Oper) (A : List Nat) (done : List Nat) (a k : Nat) (t : List V) (ob : List VObj) (df : List (Fn × List V × List V)) : Bool :=
 slotsClean k (mayName all A done a) 0 t && objsClean k 0 ob && noneIn [k] df
def pendK (all : List Oper) (A : List Nat) (n : Nat) (t : List V) (v : V) : List Nat -> Prop -> Prop
 | [], k => k
 | a :: r, k => match all[a]? with
   | some o => (match isAl o && !isAnc A n a with
     | false => pendK all A n t v r k
     | true => match o.dst with
       | some d => getK t d fun p => (match p with
         | .ptr j 0 => (match memN j (ptrs v) with | true => False | false => pendK all A n t v r k)
         | _ => False)
       | none => False)
   | none => False
def recheck (all : List Oper) (A : List Nat) (n : Nat) (t0 : List V) (done0 : List Nat) : List Nat -> List V -> List VObj -> List (Fn × List V × List V) -> Prop -> Prop
 | [], _, _, _, k => k
 | m :: r, t, ob, df, k => match isAnc A n m with
   | true => recheck all A n t0 done0 r t ob df k
   | false => match all[m]? with
     | some o => (match isAl o with
       | true => (match o.op, o.dst with
         | .alloc T, some d => getK t d fun p => getK t0 d fun q => (match p, q with
           | .ptr j 0, .ptr i 0 => getK ob j fun x => zeroV S.P T fun z => (match Nat.beq j i && allClean all A done0 m j t ob df with
             | true => x = .cells true T z.cells /\ recheck all A n t0 done0 r t ob df k
             | false => False)
           | _, _ => False)
         | _, _ => False)
       | false => guardK all o t (fun t => vflo S o t ob fun v => isSlot o.dst t v (recheck all A n t0 done0 r t ob df k)) fun t => isSlot o.dst t (.tup []) (recheck all A n t0 done0 r t ob df k))
     | none => False
def St.re (all : List Oper) (A : List Nat) (n : Nat) (t0 : List V) (done : List Nat) : St -> (St -> Prop) -> Prop
 | ⟨t, ob, nt, df⟩, K => recheck S all A n t0 done done t ob df (K ⟨t, ob, nt, df⟩)
def noAl (all : List Oper) : List Nat -> Bool
 | [] => true
 | i :: r => (match all[i]? with
   | some o => !isAl o
   | none => true) && noAl all r
def undefK (all : List Oper) : List Nat -> List V -> (List V -> Prop) -> Prop
 | [], t, K => K t
 | i :: r, t, K => match (all[i]?).bind (·.dst) with
   | some d => setK t d .undef fun t => undefK all r t K
   | none => undefK all r t K
def pdraw (all : List Oper) (done : List Nat) : St -> (St -> Prop) -> Prop
 | ⟨t, ob, nt, df⟩, K => match noAl all done with
   | true => undefK all done t fun t => K ⟨t, ob, nt, df⟩
   | false => False
def vdraw (all : List Oper) (A : List Nat) : List (Nat × Bool) -> List Nat -> St -> (St -> Prop) -> (V -> St -> Prop) -> Prop
 | [], _, s, K, _ => K s
 | (n, true) :: r, done, ⟨t, ob, nt, df⟩, K, KP => (match all[n]? with
  | some o => (match isAl o with
    | true => (match o.op, o.dst with
      | .alloc T, some d => zeroV S.P T fun z => (match z.cells.all V.okCell && z.tokOk && (match ptrsL z.cells with | [] => true | _ :: _ => false) with
        | true => snocK ob (.cells true T z.cells) fun k ob => (match allClean all A done n k t ob df with
          | true => setK t d (.ptr k 0) fun t => vdraw all A r (n :: done) ⟨t, ob, nt, df⟩ K KP
          | false => False)
        | false => False)
      | _, _ => False)
    | false => guardK all o t (fun t => vflo S o t ob fun v => pendK all A n t v done (St.put ⟨t, ob, nt, df⟩ o.dst v fun s => vdraw all A r (n :: done) s K KP))
      fun t => St.put ⟨t, ob, nt, df⟩ o.dst (.tup []) fun s => vdraw all A r (n :: done) s K KP)
  | none => False)
 | (n, false) :: r, done, ⟨t, ob, nt, df⟩, K, KP => (match all[n]? with
  | some o => guardK all o t (fun t => vop S o ⟨t, ob, nt, df⟩ (fun v s => s.put o.dst v fun s => s.re S all A n t done fun s => vdraw all A r done s K KP) fun v s => pdraw all done s (KP v))
     fun t => St.put ⟨t, ob, nt, df⟩ o.dst (.tup []) fun s => s.re S all A n t done fun s => vdraw all A r done s K KP
  | none => False)
def vwp : Code -> St -> (Ex -> St -> Prop) -> Prop
 | .skip, s, K => K .normal s
 | .region _ ops false, s, K => vops S ops.toList ops.toList s (K .normal) (fun v s => K (.pan v) s)
 | .region _ ops true, s, K => drawOk S.P ops.toList (planOf S.mu ops.toList) = true /\ vdraw S ops.toList (ancs ops.toList []) (planOf S.mu ops.toList) [] s (K .normal) (fun v s => K (.pan v) s)
 | .seq a b, s, K => vwp a s fun e s => match e with
   | .normal => S.step b s K
   | .exit i => K (.exit i) s
   | .ret => K .ret s
   | .pan v => K (.pan v) s
 | .cond c a b, ⟨t, ob, nt, df⟩, K => ev t c fun v => match v with
   | .bool x => Bif x (vwp a ⟨t, ob, nt, df⟩ K) (vwp b ⟨t, ob, nt, df⟩ K)
   | _ => False
 | .block i c, s, K => vwp c s fun e s => match e with
   | .normal => K .normal s
   | .exit j => (match Nat.beq j i with | true => K .normal s | false => K (.exit j) s)
   | .ret => K .ret s
   | .pan v => K (.pan v) s
 | .exit i, s, K => K (.exit i) s
 | .ret, s, K => K .ret s
 | .loop c, s, K => S.loop c s K
 | _, _, _ => False
end
end VL

namespace VL
open Go
def Plain (a : Option Addr) : Prop := a = none \/ ∃ b k, a = some ⟨b, k, none⟩
inductive VRel (bs : Nat -> Nat) (I : Nat -> Nat -> Prop) (w : World) : Nat -> V -> Value -> Prop
 | undef {n c} : VRel bs I w n .undef c
 | int {n k x} : VRel bs I w n (.int k x) (.int k x)
 | bool {n b} : VRel bs I w n (.bool b) (.bool b)
 | str {n s} : VRel bs I w n (.str s) (.string s)
 | ptr {n o off} (h : o < n) : VRel bs I w n (.ptr o off) (.pointer (some ⟨bs o, off, none⟩))
 | nilp {n} : VRel bs I w n .nilp (.pointer none)
 | dp {n cs b off} (u : Nat -> Value) (hc : ∀ k v, cs[k]? = some v -> w.cell? ⟨b, off + k, none⟩ = some (u k) /\ I b (off + k))
    (hu : ∀ k v, cs[k]? = some v -> VRel bs I w n v (u k)) : VRel bs I w n (.dp cs) (.pointer (some ⟨b, off, none⟩))
 | slnil {n r} : VRel bs I w n (.sl [] r) (.slice none 0 0)
 | sl {n l r b off len cap sz} (u : Nat -> Value) (hl : len = l.length) (hcap : len <= cap) (hr : r = .ex -> cap = len) (hz : ∀ x ∈ l, x.cells.length = sz /\ x.cells.all V.okCell = true)
    (hc : ∀ k v, (l.flatMap V.cells)[k]? = some v -> w.cell? ⟨b, off + k, none⟩ = some (u k) /\ I b (off + k))
    (hu : ∀ k v, (l.flatMap V.cells)[k]? = some v -> VRel bs I w 0 v (u k)) : VRel bs I w n (.sl l r) (.slice (some ⟨b, off, none⟩) len cap)
 | slp {n l b off len cap sz} (u : Nat -> Value) (hl : len = l.length) (hcap : len <= cap) (hz : ∀ x ∈ l, x.cells.length = sz /\ x.cells.all V.okCell = true)
    (hc : ∀ k v, (l.flatMap V.cells)[k]? = some v -> w.cell? ⟨b, off + k, none⟩ = some (u k) /\ I b (off + k))
    (hu : ∀ k v, (l.flatMap V.cells)[k]? = some v -> VRel bs I w n v (u k)) : VRel bs I w n (.slp l) (.slice (some ⟨b, off, none⟩) len cap)
 | spare {n l m b off len cap sz} (u : Nat -> Value) (hl : len = l.length) (hcap : cap = l.length + m.length) (hz : ∀ x ∈ l ++ m, x.cells.length = sz /\ x.cells.all V.okCell = true)
    (hc : ∀ k v, ((l ++ m).flatMap V.cells)[k]? = some v -> w.cell? ⟨b, off + k, none⟩ = some (u k) /\ I b (off + k))
    (hu : ∀ k v, ((l ++ m).flatMap V.cells)[k]? = some v -> VRel bs I w 0 v (u k)) : VRel bs I w n (.spare l m) (.slice (some ⟨b, off, none⟩) len cap)
 | fn {n f a b ca cb} (ha : a.length = ca.size) (hb : b.length = cb.size) (h1 : ∀ (k : Nat) v c, a[k]? = some v -> ca[k]? = some c -> VRel bs I w n v c)
    (h2 : ∀ (k : Nat) v c, b[k]? = some v -> cb[k]? = some c -> VRel bs I w n v c) : VRel bs I w n (.fn f a b) (.func f ca cb)
 | niln {n} : VRel bs I w n .niln .nilFunc
 | ifc {n t v c} (h : VRel bs I w n v c) : VRel bs I w n (.ifc t v) (.iface t c)
 | nili {n} : VRel bs I w n .nili .nilIface
 | agg {n l ca} (hl : l.length = ca.size) (h : ∀ (k : Nat) v c, l[k]? = some v -> ca[k]? = some c -> VRel bs I w n v c) : VRel bs I w n (.agg l) (.agg ca)
 | mp {n o} (h : o < n) : VRel bs I w n (.mp o) (.map (some (bs o)))
 | nilm {n} : VRel bs I w n .nilm (.map none)
 | tup {n l ca} (hl : l.length = ca.size) (h : ∀ (k : Nat) v c, l[k]? = some v -> ca[k]? = some c -> VRel bs I w n v c) : VRel bs I w n (.tup l) (.tuple ca)
 | slo {n o z lo len cap a} (h : o < n) (hl : len <= cap) (ha : cap = 0 \/ a = some ⟨bs o, lo * z, none⟩) (hf : Plain a) : VRel bs I w n (.slo o z lo len cap) (.slice a len cap)
 | bp {n o z i off} (h : o < n) : VRel bs I w n (.bp o z i off) (.pointer (some ⟨bs o, i * z + off, none⟩))
theorem VRel.mono {bs bs' : Nat -> Nat} {I I' : Nat -> Nat -> Prop} {w w' : World} {n n' : Nat} {v : V} {c : Value} (h : VRel bs I w n v c)
 (hbs : ∀ o, o < n -> o < n' /\ bs' o = bs o) (hI : ∀ b k, I b k -> I' b k /\ w'.cell? ⟨b, k, none⟩ = w.cell? ⟨b, k, none⟩) : VRel bs' I' w' n' v c := by
 induction h generalizing n' with
 | undef => exact .undef
 | int => exact .int
 | bool => exact .bool
 | str => exact .str
 | ptr h => obtain ⟨h1, h2⟩ := hbs _ h; rw [← h2]; exact .ptr h1
 | nilp => exact .nilp
 | dp u hc hu ih => exact .dp u (fun k v hk => ⟨by rw [(hI _ _ (hc k v hk).2).2]; exact (hc k v hk).1, (hI _ _ (hc k v hk).2).1⟩) fun k v hk => ih k v hk hbs
 | slnil => exact .slnil
 | sl u hl hcap hr hz hc hu ih => exact .sl u hl hcap hr hz (fun k v hk => ⟨by rw [(hI _ _ (hc k v hk).2).2]; exact (hc k v hk).1, (hI _ _ (hc k v hk).2).1⟩) fun k v hk => ih k v hk (fun o ho => absurd ho (by omega))
 | slp u hl hcap hz hc hu ih => exact .slp u hl hcap hz (fun k v hk => ⟨by rw [(hI _ _ (hc k v hk).2).2]; exact (hc k v hk).1, (hI _ _ (hc k v hk).2).1⟩) fun k v hk => ih k v hk hbs
 | spare u hl hcap hz hc hu ih => exact .spare u hl hcap hz (fun k v hk => ⟨by rw [(hI _ _ (hc k v hk).2).2]; exact (hc k v hk).1, (hI _ _ (hc k v hk).2).1⟩) fun k v hk => ih k v hk (fun o ho => absurd ho (by omega))
 | fn ha hb _ _ i1 i2 => exact .fn ha hb (fun k v c h1 h2 => i1 k v c h1 h2 hbs) (fun k v c h1 h2 => i2 k v c h1 h2 hbs)
 | niln => exact .niln
 | ifc _ ih => exact .ifc (ih hbs)
 | nili => exact .nili
 | agg hl _ ih => exact .agg hl fun k v c h1 h2 => ih k v c h1 h2 hbs
 | mp h => obtain ⟨h1, h2⟩ := hbs _ h; rw [← h2]; exact .mp h1
 | nilm => exact .nilm
 | tup hl _ ih => exact .tup hl fun k v c h1 h2 => ih k v c h1 h2 hbs
 | slo h hl ha hf => obtain ⟨h1, h2⟩ := hbs _ h; exact .slo h1 hl (by rw [h2]; exact ha) hf
 | bp h => obtain ⟨h1, h2⟩ := hbs _ h; rw [← h2]; exact .bp h1
theorem lowL_get {m : Nat} : ∀ {l : List V}, V.lowL m l = true -> ∀ {k : Nat} {v : V}, l[k]? = some v -> V.low m v = true
 | [], _, k, v, h => by simp at h
 | x :: r, h, k, v, hk => by
   simp only [V.lowL, Bool.and_eq_true] at h
   cases k with
   | zero => simp at hk; exact hk ▸ h.1
   | succ k => exact lowL_get h.2 (by simpa using hk)
theorem mem_low {m : Nat} : ∀ {l : List V}, V.lowL m l = true -> ∀ {v : V}, v ∈ l -> V.low m v = true
 | x :: r, h, v, hv => by
   simp only [V.lowL, Bool.and_eq_true] at h
   cases hv with
   | head => exact h.1
   | tail _ hv => exact mem_low h.2 hv
theorem cells_low {m : Nat} {x v : V} (h : V.low m x = true) (hv : v ∈ x.cells) : V.low m v = true := by
 cases x <;> simp only [V.cells, List.mem_singleton] at hv <;> first | (subst hv; exact h) | exact mem_low (by simpa [V.low] using h) hv
theorem flat_low {m : Nat} {l : List V} (h : V.lowL m l = true) {k : Nat} {v : V} (hv : (l.flatMap V.cells)[k]? = some v) : V.low m v = true := by
 obtain ⟨x, hx, hv⟩ := List.mem_flatMap.1 (List.mem_of_getElem? hv)
 exact cells_low (mem_low h hx) hv
theorem VRel.low {bs : Nat -> Nat} {I : Nat -> Nat -> Prop} {w : World} {n m : Nat} {v : V} {c : Value} (h : VRel bs I w n v c) (hm : V.low m v = true) : VRel bs I w m v c := by
 induction h generalizing m with
 | undef => exact .undef
 | int => exact .int
 | bool => exact .bool
 | str => exact .str
 | ptr h => exact .ptr (by simpa [V.low, Nat.blt_eq] using hm)
 | nilp => exact .nilp
 | dp u hc hu ih => exact .dp u hc fun k v hk => ih k v hk (lowL_get (by simpa [V.low] using hm) hk)
 | slnil => exact .slnil
 | sl u hl hcap hr hz hc hu ih => exact .sl u hl hcap hr hz hc hu
 | slp u hl hcap hz hc hu ih => exact .slp u hl hcap hz hc fun k v hk => ih k v hk (flat_low (by simpa [V.low] using hm) hk)
 | spare u hl hcap hz hc hu ih => exact .spare u hl hcap hz hc hu
 | fn ha hb _ _ i1 i2 =>
   simp only [V.low, Bool.and_eq_true] at hm
   exact .fn ha hb (fun k v c h1 h2 => i1 k v c h1 h2 (lowL_get hm.1 h1)) (fun k v c h1 h2 => i2 k v c h1 h2 (lowL_get hm.2 h1))
 | niln => exact .niln
 | ifc _ ih => exact .ifc (ih (by simpa [V.low] using hm))
 | nili => exact .nili
 | agg hl _ ih => exact .agg hl fun k v c h1 h2 => ih k v c h1 h2 (lowL_get (by simpa [V.low] using hm) h1)
 | mp h => exact .mp (by simpa [V.low, Nat.blt_eq] using hm)
 | nilm => exact .nilm
 | tup hl _ ih => exact .tup hl fun k v c h1 h2 => ih k v c h1 h2 (lowL_get (by simpa [V.low] using hm) h1)
 | slo h hl ha hf => exact .slo (by simpa [V.low, Nat.blt_eq] using hm) hl ha hf
 | bp h => exact .bp (by simpa [V.low, Nat.blt_eq] using hm)
theorem renL_length (f : Nat -> Nat) : ∀ l : List V, (renL f l).length = l.length
 | [] => rfl
 | _ :: r => by simp [renL, renL_length f r]
theorem renL_get (f : Nat -> Nat) : ∀ (l : List V) (k : Nat), (renL f l)[k]? = (l[k]?).map (ren f)
 | [], _ => by simp [renL]
 | _ :: _, 0 => by simp [renL]
 | _ :: r, k + 1 => by simp [renL, renL_get f r k]
theorem renL_eq (f : Nat -> Nat) (l : List V) : renL f l = l.map (ren f) := by
 apply List.ext_getElem?; intro k; rw [renL_get]; simp
theorem ren_cells (f : Nat -> Nat) (x : V) : (ren f x).cells = x.cells.map (ren f) := by
 cases x <;> simp [ren, V.cells, renL_eq]
theorem ren_ok (f : Nat -> Nat) {l : List V} (h : l.all V.okCell = true) : (l.map (ren f)).all V.okCell = true := by
 simp only [List.all_eq_true, List.mem_map, forall_exists_index, and_imp, forall_apply_eq_imp_iff₂] at h ⊢
 intro v hv
 have := h v hv
 cases v <;> simp_all [ren, V.okCell]
theorem ptrsL_get {o : Nat} : ∀ {l : List V} {k : Nat} {v : V}, l[k]? = some v -> o ∈ ptrs v -> o ∈ ptrsL l
 | x :: r, 0, v, h, ho => by simp at h; subst h; simp [ptrsL, ho]
 | x :: r, k + 1, v, h, ho => by simp [ptrsL]; exact .inr (ptrsL_get (by simpa using h) ho)
theorem ptrs_cells {o : Nat} {x v : V} (h : v ∈ x.cells) (ho : o ∈ ptrs v) : o ∈ ptrs x := by
 cases x <;> simp only [V.cells, List.mem_singleton] at h <;> first | (subst h; exact ho) | (obtain ⟨k, hk⟩ := List.mem_iff_getElem?.1 h; simpa [ptrs] using ptrsL_get hk ho)
theorem ptrs_flat {o : Nat} {l : List V} {k : Nat} {v : V} (hv : (l.flatMap V.cells)[k]? = some v) (ho : o ∈ ptrs v) : o ∈ ptrsL l := by
 obtain ⟨x, hx, hv⟩ := List.mem_flatMap.1 (List.mem_of_getElem? hv)
 obtain ⟨j, hj⟩ := List.mem_iff_getElem?.1 hx
 exact ptrsL_get hj (ptrs_cells hv ho)
theorem flat_ren (f : Nat -> Nat) (l : List V) : (renL f l).flatMap V.cells = (l.flatMap V.cells).map (ren f) := by
 rw [renL_eq]
 induction l with
 | nil => rfl
 | cons x r ih => simp [ren_cells, ih]
theorem VRel.ren {bs bs' : Nat -> Nat} {I : Nat -> Nat -> Prop} {w : World} {n n' : Nat} {f : Nat -> Nat} {v : V} {c : Value} (h : VRel bs I w n v c)
 (hf : ∀ o ∈ ptrs v, o < n -> f o < n' /\ bs' (f o) = bs o) : VRel bs' I w n' (VL.ren f v) c := by
 induction h with
 | undef => exact .undef
 | int => exact .int
 | bool => exact .bool
 | str => exact .str
 | ptr h => obtain ⟨h1, h2⟩ := hf _ (by simp [ptrs]) h; rw [← h2]; exact .ptr h1
 | nilp => exact .nilp
 | @dp n cs b off u hc hu ih =>
   refine .dp u (fun k v hk => ?_) fun k v hk => ?_
   · rw [renL_get] at hk
     obtain ⟨v', hv', rfl⟩ := Option.map_eq_some_iff.1 hk
     exact hc k v' hv'
   · rw [renL_get] at hk
     obtain ⟨v', hv', rfl⟩ := Option.map_eq_some_iff.1 hk
     exact ih k v' hv' fun o ho => hf o (by simpa [ptrs] using ptrsL_get hv' ho)
 | slnil => exact .slnil
 | sl u hl hcap hr hz hc hu ih => exact .sl u hl hcap hr hz hc fun k v hk => (hu k v hk).mono (fun o ho => absurd ho (by omega)) fun b k h => ⟨h, rfl⟩
 | @slp n l b off len cap sz u hl hcap hz hc hu ih =>
   refine .slp (sz := sz) u (by rw [hl, renL_length]) hcap ?_ (fun k v hk => ?_) fun k v hk => ?_
   · rw [renL_eq]
     intro x hx
     obtain ⟨y, hy, rfl⟩ := List.mem_map.1 hx
     rw [ren_cells, List.length_map]; exact ⟨(hz y hy).1, ren_ok f (hz y hy).2⟩
   · rw [flat_ren, List.getElem?_map] at hk
     obtain ⟨v', hv', rfl⟩ := Option.map_eq_some_iff.1 hk
     exact hc k v' hv'
   · rw [flat_ren, List.getElem?_map] at hk
     obtain ⟨v', hv', rfl⟩ := Option.map_eq_some_iff.1 hk
     exact ih k v' hv' fun o ho => hf o (by simpa [ptrs] using ptrs_flat hv' ho)
 | spare u hl hcap hz hc hu ih => exact .spare u hl hcap hz hc fun k v hk => (hu k v hk).mono (fun o ho => absurd ho (by omega)) fun b k h => ⟨h, rfl⟩
 | @fn n g a b ca cb ha hb h1 h2 i1 i2 =>
   refine .fn (by rw [renL_length]; exact ha) (by rw [renL_length]; exact hb) (fun k v c hk hc => ?_) (fun k v c hk hc => ?_)
   · rw [renL_get] at hk
     obtain ⟨v', hv', rfl⟩ := Option.map_eq_some_iff.1 hk
     exact i1 k v' c hv' hc fun o ho => hf o (by simp only [ptrs, List.mem_append]; exact .inl (ptrsL_get hv' ho))
   · rw [renL_get] at hk
     obtain ⟨v', hv', rfl⟩ := Option.map_eq_some_iff.1 hk
     exact i2 k v' c hv' hc fun o ho => hf o (by simp only [ptrs, List.mem_append]; exact .inr (ptrsL_get hv' ho))
 | niln => exact .niln
 | ifc _ ih => exact .ifc (ih fun o ho => hf o (by simpa [ptrs] using ho))
 | nili => exact .nili
 | agg hl _ ih =>
   refine .agg (by rw [renL_length]; exact hl) fun k v c hk hc => ?_
   rw [renL_get] at hk
   obtain ⟨v', hv', rfl⟩ := Option.map_eq_some_iff.1 hk
   exact ih k v' c hv' hc fun o ho => hf o (by simpa [ptrs] using ptrsL_get hv' ho)
 | mp h => obtain ⟨h1, h2⟩ := hf _ (by simp [ptrs]) h; rw [← h2]; exact .mp h1
 | nilm => exact .nilm
 | tup hl _ ih =>
   refine .tup (by rw [renL_length]; exact hl) fun k v c hk hc => ?_
   rw [renL_get] at hk
   obtain ⟨v', hv', rfl⟩ := Option.map_eq_some_iff.1 hk
   exact ih k v' c hv' hc fun o ho => hf o (by simpa [ptrs] using ptrsL_get hv' ho)
 | slo h hl ha hp => obtain ⟨h1, h2⟩ := hf _ (by simp [ptrs]) h; exact .slo h1 hl (by rw [h2]; exact ha) hp
 | bp h => obtain ⟨h1, h2⟩ := hf _ (by simp [ptrs]) h; rw [← h2]; exact .bp h1
theorem VRel.oneCell {bs : Nat -> Nat} {I : Nat -> Nat -> Prop} {w : World} {n : Nat} {v : V} {c : Value} (h : VRel bs I w n v c) (hv : v.okCell = true) : c.oneCell' = true := by
 cases h <;> first | rfl | (simp [V.okCell] at hv)
end VL

namespace VL
open Go
structure Fam where
 blk : Nat
 st : Nat
 n : Nat
structure G where
 bs : Nat -> Nat
 I : Nat -> Nat -> Prop
 fam : Nat -> Fam
structure Ctx where
 w0 : World
 n0 : Nat
 b0 : Nat -> Nat
 I0 : Nat -> Nat -> Prop
 own : Nat -> Prop
def Tok (fam : Nat -> Fam) (nt : Nat) : V -> Value -> Prop
 | .sl l (.tok i sz), c => i < nt /\ 0 < sz /\ (∀ x ∈ l, x.cells.length = sz) /\ ∃ a len cap, c = .slice a len cap /\
    (cap = len \/ ∃ off, a = some ⟨(fam i).blk, off, none⟩ /\ off + len * sz = (fam i).st /\ (cap - len) * sz <= (fam i).n)
 | _, _ => True
structure VT (g : G) (w : World) (n nt : Nat) (v : V) (c : Value) : Prop where
 rel : VRel g.bs g.I w n v c
 tok : Tok g.fam nt v c
def ORel (g : G) (w : World) (n nt b : Nat) : VObj -> Prop
 | .none => True
 | .cells _ T cs => ∃ arr : Array Value, w.heap[b]? = some (.cells arr T (0, 0)) /\ cs.length = arr.size /\
    ∀ (k : Nat) v c, cs[k]? = some v -> arr[k]? = some c -> VT g w n nt v c /\ c.oneCell' = true
 | .map es => ∃ (arr : Array MapEntry) (clk : Nat), w.heap[b]? = some (.map arr clk) /\ es.length = arr.size /\
    ∀ (k : Nat) e (c : MapEntry), es[k]? = some e -> arr[k]? = some c -> VRel g.bs g.I w 0 e.1 c.key /\ VRel g.bs g.I w 0 e.2 c.val
 | .buf _ z l ty => l = [] \/ ∃ (arr : Array Value) (T : TypeId), w.heap[b]? = some (.cells arr T (0, 0)) /\ (∀ t, ty = some t -> t = T) /\ arr.size = l.length * z /\ (∀ x ∈ l, x.cells.length = z /\ x.cells.all V.okCell = true) /\
    ∀ (k : Nat) v c, (l.flatMap V.cells)[k]? = some v -> arr[k]? = some c -> VRel g.bs g.I w 0 v c /\ c.oneCell' = true
structure WInv (c : Ctx) (g : G) (w : World) (ob : List VObj) (nt : Nat) : Prop where
 os : w.os = c.w0.os
 tape : w.tape = c.w0.tape
 output : w.output = c.w0.output
 size : c.w0.heap.size <= w.heap.size
 keep : ∀ b, b < c.w0.heap.size -> ¬ c.own b -> w.heap[b]? = c.w0.heap[b]?
 len : c.n0 <= ob.length
 obj : ∀ (o : Nat) x, ob[o]? = some x -> ORel g w ob.length nt (g.bs o) x
 lt : ∀ (o : Nat) x, ob[o]? = some x -> x.real = true -> g.bs o < w.heap.size
 inj : ∀ (o o' : Nat) x x', ob[o]? = some x -> ob[o']? = some x' -> x.real = true -> x'.real = true -> g.bs o = g.bs o' -> o = o'
 old : ∀ (o : Nat) x, o < c.n0 -> ob[o]? = some x -> x.mv = false -> g.bs o = c.b0 o
 new : ∀ (o : Nat) x, ob[o]? = some x -> x.real = true -> c.w0.heap.size <= g.bs o \/ c.own (g.bs o)
 i1 : ∀ b k, c.I0 b k -> g.I b k
 i2 : ∀ b k, b < c.w0.heap.size -> ¬ c.own b -> g.I b k -> c.I0 b k
 i3 : ∀ b k, g.I b k -> b < w.heap.size
 i4 : ∀ (o : Nat) T cs k, ob[o]? = some (.cells true T cs) -> ¬ g.I (g.bs o) k
 i5 : ∀ (o : Nat) x k, ob[o]? = some x -> x.loose = true -> ¬ g.I (g.bs o) k
 f1 : ∀ i, i < nt -> 0 < (g.fam i).n -> (c.w0.heap.size <= (g.fam i).blk \/ c.own (g.fam i).blk) /\ (∃ (arr : Array Value) (T : TypeId), w.heap[(g.fam i).blk]? = some (.cells arr T (0, 0)) /\ (g.fam i).st + (g.fam i).n <= arr.size) /\
  (∀ k, (g.fam i).st <= k -> ¬ g.I (g.fam i).blk k) /\ (∀ (o : Nat) x, ob[o]? = some x -> x.real = true -> g.bs o ≠ (g.fam i).blk)
 f2 : ∀ i j, i < nt -> j < nt -> i ≠ j -> 0 < (g.fam i).n -> 0 < (g.fam j).n -> (g.fam i).blk ≠ (g.fam j).blk
 i6 : ∀ b k, c.I0 b k -> w.cell? ⟨b, k, none⟩ = c.w0.cell? ⟨b, k, none⟩
def GlOk (g : G) (w : World) : Prop := (∀ b l, glob b = some l -> ∀ (k : Nat) v, l[k]? = some v -> w.cell? ⟨b, k, none⟩ = some v /\ g.I b k) /\
 ∀ b, globI b = true -> ∃ m, w.cell? ⟨b, 0, none⟩ = some (.int .i64 m) /\ g.I b 0
structure TInv (g : G) (w : World) (n nt : Nat) (tmps : Array Value) (t : List V) : Prop where
 size : t.length = tmps.size
 rel : ∀ (k : Nat) v c, t[k]? = some v -> tmps[k]? = some c -> VT g w n nt v c
 gl : GlOk g w
def DRel1 (g : G) (w : World) (n : Nat) (d : Deferred) (x : Fn × List V × List V) : Prop :=
 ∃ cap, d.target = .fn x.1 cap /\ x.2.1.length = d.args.size /\ x.2.2.length = cap.size /\
  (∀ (k : Nat) v c, x.2.1[k]? = some v -> d.args[k]? = some c -> VRel g.bs g.I w n v c) /\ ∀ (k : Nat) v c, x.2.2[k]? = some v -> cap[k]? = some c -> VRel g.bs g.I w n v c
inductive DRel (g : G) (w : World) (n : Nat) : List Deferred -> List (Fn × List V × List V) -> Prop
 | nil : DRel g w n [] []
 | cons {d x ds xs} : DRel1 g w n d x -> DRel g w n ds xs -> DRel g w n (d :: ds) (x :: xs)
theorem GlOk.out {g g' G' : G} {w w' : World} {n nt : Nat} {bs : Nat -> Nat} {own : Nat -> Prop} {os : List VObj} (h : GlOk g w) (hw : WInv ⟨w, n, bs, g.I, own⟩ g' w' os nt) (hG : G'.I = g'.I) : GlOk G' w' := ⟨fun b l hb k v hk => by
 obtain ⟨h1, h2⟩ := h.1 b l hb k v hk
 exact ⟨by rw [hw.i6 b k h2]; exact h1, by rw [hG]; exact hw.i1 b k h2⟩, fun b hb => by
 obtain ⟨m, h1, h2⟩ := h.2 b hb
 exact ⟨m, by rw [hw.i6 b 0 h2]; exact h1, by rw [hG]; exact hw.i1 b 0 h2⟩⟩
structure Sim (c : Ctx) (g : G) (w : World) (a : Act) (s : St) : Prop where
 wi : WInv c g w s.objs s.nt
 ti : TInv g w s.objs.length s.nt a.tmps s.t
 di : DRel g w s.objs.length a.defers s.defers
structure Ext (g : G) (w : World) (n nt : Nat) (g' : G) (w' : World) (n' nt' : Nat) : Prop where
 hn : n <= n'
 hnt : nt <= nt'
 hbs : ∀ o, o < n -> g'.bs o = g.bs o
 hI : ∀ b k, g.I b k -> g'.I b k /\ w'.cell? ⟨b, k, none⟩ = w.cell? ⟨b, k, none⟩
 hfam : ∀ i, i < nt -> g'.fam i = g.fam i
theorem Ext.rel0 {g g' : G} {w w' : World} {n nt n' nt' : Nat} (e : Ext g w n nt g' w' n' nt') {v : V} {c : Value} (h : VRel g.bs g.I w 0 v c) : VRel g'.bs g'.I w' 0 v c :=
 h.mono (fun o ho => absurd ho (by omega)) e.hI
theorem Ext.reln {g g' : G} {w w' : World} {n nt n' nt' : Nat} (e : Ext g w n nt g' w' n' nt') {v : V} {c : Value} (h : VRel g.bs g.I w n v c) : VRel g'.bs g'.I w' n' v c :=
 h.mono (fun o ho => ⟨by have := e.hn; omega, e.hbs o ho⟩) e.hI
theorem Tok.ext {fam fam' : Nat -> Fam} {nt nt' : Nat} (hn : nt <= nt') (hf : ∀ i, i < nt -> fam' i = fam i) {v : V} {c : Value} (h : Tok fam nt v c) : Tok fam' nt' v c := by
 unfold Tok at h ⊢
 split
 · simp only at h
   obtain ⟨h1, h2, h3, a, len, cap, hc, h4⟩ := h
   exact ⟨by omega, h2, h3, a, len, cap, hc, by rw [hf _ h1]; exact h4⟩
 · trivial
theorem Ext.vt {g g' : G} {w w' : World} {n nt n' nt' : Nat} (e : Ext g w n nt g' w' n' nt') {v : V} {c : Value} (h : VT g w n nt v c) : VT g' w' n' nt' v c :=
 ⟨e.reln h.rel, h.tok.ext e.hnt e.hfam⟩
theorem Ext.glob {g g' : G} {w w' : World} {n nt n' nt' : Nat} (e : Ext g w n nt g' w' n' nt') (h : GlOk g w) : GlOk g' w' := ⟨fun b l hb k v hk => by
 obtain ⟨h1, h2⟩ := h.1 b l hb k v hk
 obtain ⟨h3, h4⟩ := e.hI b k h2
 exact ⟨by rw [h4]; exact h1, h3⟩, fun b hb => by
 obtain ⟨m, h1, h2⟩ := h.2 b hb
 obtain ⟨h3, h4⟩ := e.hI b 0 h2
 exact ⟨m, by rw [h4]; exact h1, h3⟩⟩
theorem Ext.tinv {g g' : G} {w w' : World} {n nt n' nt' : Nat} (e : Ext g w n nt g' w' n' nt') {a : Array Value} {t : List V} (h : TInv g w n nt a t) : TInv g' w' n' nt' a t :=
 ⟨h.size, fun k v c hv hc => e.vt (h.rel k v c hv hc), e.glob h.gl⟩
theorem Ext.drel {g g' : G} {w w' : World} {n nt n' nt' : Nat} (e : Ext g w n nt g' w' n' nt') {ds : List Deferred} {xs : List (Fn × List V × List V)} (h : DRel g w n ds xs) : DRel g' w' n' ds xs := by
 induction h with
 | nil => exact .nil
 | cons h _ ih =>
   obtain ⟨cap, h1, h2, h3, h4, h5⟩ := h
   exact .cons ⟨cap, h1, h2, h3, fun k v c hv hc => e.reln (h4 k v c hv hc), fun k v c hv hc => e.reln (h5 k v c hv hc)⟩ ih
theorem Ext.orel {g g' : G} {w w' : World} {n nt n' nt' b : Nat} (e : Ext g w n nt g' w' n' nt') {x : VObj} (h : ORel g w n nt b x) (hb : w'.heap[b]? = w.heap[b]?) : ORel g' w' n' nt' b x := by
 cases x with
 | none => trivial
 | cells wr T cs =>
   obtain ⟨arr, h1, h2, h3⟩ := h
   exact ⟨arr, by rw [hb]; exact h1, h2, fun k v c hv hc => ⟨e.vt (h3 k v c hv hc).1, (h3 k v c hv hc).2⟩⟩
 | map es =>
   obtain ⟨arr, clk, h1, h2, h3⟩ := h
   exact ⟨arr, clk, by rw [hb]; exact h1, h2, fun k v c hv hc => ⟨e.rel0 (h3 k v c hv hc).1, e.rel0 (h3 k v c hv hc).2⟩⟩
 | buf m z l =>
   rcases h with h | ⟨arr, T, h1, hty, h2, h3, h4⟩
   · exact .inl h
   · exact .inr ⟨arr, T, by rw [hb]; exact h1, hty, h2, h3, fun k v c hv hc => ⟨e.rel0 (h4 k v c hv hc).1, (h4 k v c hv hc).2⟩⟩
theorem Ext.orel' {g g' : G} {w w' : World} {n nt n' nt' b : Nat} (e : Ext g w n nt g' w' n' nt') {x : VObj} (h : ORel g w n nt b x) (hb : x.real = true -> w'.heap[b]? = w.heap[b]?) : ORel g' w' n' nt' b x := by
 cases x with
 | none => trivial
 | cells wr T cs => exact e.orel h (hb rfl)
 | map es => exact e.orel h (hb rfl)
 | buf m z l =>
   by_cases hl : l = []
   · exact .inl hl
   · exact e.orel h (hb (by simp [VObj.real, hl]))
theorem heap_alloc_lt (w : World) (o : Obj) {k : Nat} (h : k < w.heap.size) : (w.alloc o).heap[k]? = w.heap[k]? := by
 show (w.heap.push o)[k]? = _
 rw [Array.getElem?_push, if_neg (by omega)]
theorem heap_alloc_new (w : World) (o : Obj) : (w.alloc o).heap[w.heap.size]? = some o := by
 show (w.heap.push o)[w.heap.size]? = _
 simp
theorem cell_of_heap {w w' : World} {b k : Nat} (h : w'.heap[b]? = w.heap[b]?) : w'.cell? ⟨b, k, none⟩ = w.cell? ⟨b, k, none⟩ := by simp [World.cell?, h]
theorem Tok.of_no {fam : Nat -> Fam} {nt : Nat} {v : V} {c : Value} (h : v.noTok = true) : Tok fam nt v c := by
 unfold Tok; split
 · simp [V.noTok] at h
 · trivial
theorem WInv.gN {c : Ctx} {g : G} {w : World} {ob : List VObj} {nt : Nat} (h : WInv c g w ob nt) (b k : Nat) (hb : w.heap.size <= b) : ¬ g.I b k := fun hi => by
 have := h.i3 b k hi; omega
theorem Ext.drew (g : G) (w : World) (n nt : Nat) : Ext g w n nt g w.drew n nt := ⟨Nat.le_refl _, Nat.le_refl _, fun _ _ => rfl, fun _ _ h => ⟨h, rfl⟩, fun _ _ => rfl⟩
theorem WInv.drew {c : Ctx} {g : G} {w : World} {ob : List VObj} {nt : Nat} (h : WInv c g w ob nt) : WInv c g w.drew ob nt :=
 ⟨h.os, h.tape, h.output, h.size, h.keep, h.len, fun o x hx => (Ext.drew g w ob.length nt).orel (h.obj o x hx) rfl,
  h.lt, h.inj, h.old, h.new, h.i1, h.i2, h.i3, h.i4, h.i5, h.f1, h.f2, h.i6⟩
theorem Ext.alloc {c : Ctx} {g : G} {w : World} {ob : List VObj} {nt : Nat} (h : WInv c g w ob nt) (o : Obj) :
 Ext g w ob.length nt { g with bs := fun i => if i = ob.length then w.heap.size else g.bs i } (w.alloc o) (ob.length + 1) nt :=
 ⟨by omega, Nat.le_refl _, fun i hi => by simp; intro e; omega, fun b k hi => ⟨hi, cell_of_heap (heap_alloc_lt w o (h.i3 b k hi))⟩, fun _ _ => rfl⟩
theorem snoc_get {α : Type} {ob : List α} {x y : α} {i : Nat} (hy : (ob ++ [x])[i]? = some y) : (i < ob.length /\ ob[i]? = some y) \/ (i = ob.length /\ y = x) := by
 rw [List.getElem?_append] at hy
 split at hy
 · exact .inl ⟨by assumption, hy⟩
 · have : i - ob.length = 0 := by
    rcases Nat.eq_zero_or_pos (i - ob.length) with h | h
    · exact h
    · rw [List.getElem?_eq_none (by simp; omega)] at hy; cases hy
   rw [this] at hy; simp at hy; exact .inr ⟨by omega, hy.symm⟩
theorem WInv.alloc {c : Ctx} {g : G} {w : World} {ob : List VObj} {nt : Nat} (h : WInv c g w ob nt) (o : Obj) (x : VObj)
 (hx : ORel { g with bs := fun i => if i = ob.length then w.heap.size else g.bs i } (w.alloc o) (ob.length + 1) nt w.heap.size x) :
 WInv c { g with bs := fun i => if i = ob.length then w.heap.size else g.bs i } (w.alloc o) (ob ++ [x]) nt := by
 have he := Ext.alloc h o
 have hget := fun (i : Nat) (y : VObj) => snoc_get (ob := ob) (x := x) (y := y) (i := i)
 have hlen := h.len
 refine ⟨h.os, h.tape, h.output, ?_, ?_, ?_, ?_, ?_, ?_, ?_, ?_, h.i1, h.i2, ?_, ?_, ?_, ?_, h.f2, fun b k hI => by rw [(he.hI b k (h.i1 b k hI)).2]; exact h.i6 b k hI⟩
 · have := h.size; simp; omega
 · intro b hb hw; rw [heap_alloc_lt _ _ (by have := h.size; omega)]; exact h.keep b hb hw
 · simp; omega
 · intro i y hy
   rw [List.length_append, List.length_singleton]
   rcases hget i y hy with ⟨hi, hy⟩ | ⟨rfl, rfl⟩
   · have h1 : (if i = ob.length then w.heap.size else g.bs i) = g.bs i := by rw [if_neg (by omega)]
     show ORel _ _ _ _ (if i = ob.length then w.heap.size else g.bs i) y
     rw [h1]
     exact he.orel' (h.obj i _ hy) fun hr => heap_alloc_lt _ _ (h.lt i _ hy hr)
   · show ORel _ _ _ _ (if ob.length = ob.length then w.heap.size else g.bs ob.length) y
     rw [if_pos rfl]; exact hx
 · intro i y hy hne
   show (if i = ob.length then w.heap.size else g.bs i) < _
   rcases hget i y hy with ⟨hi, hy⟩ | ⟨rfl, rfl⟩
   · rw [if_neg (by omega)]; have := h.lt i y hy hne; simp; omega
   · rw [if_pos rfl]; simp
 · intro i j y z hy hz hny hnz
   show (if i = ob.length then w.heap.size else g.bs i) = (if j = ob.length then w.heap.size else g.bs j) -> i = j
   rcases hget i y hy with ⟨hi, hy'⟩ | ⟨hi, hy'⟩ <;> rcases hget j z hz with ⟨hj, hz'⟩ | ⟨hj, hz'⟩
   · rw [if_neg (by omega), if_neg (by omega)]; exact h.inj i j y z hy' hz' hny hnz
   · rw [if_neg (by omega), if_pos hj]; have := h.lt i y hy' hny; intro; omega
   · rw [if_neg (c := j = ob.length) (by omega), if_pos hi]; have := h.lt j z hz' hnz; intro; omega
   · intro; omega
 · intro i y hi hy hm
   show (if i = ob.length then w.heap.size else g.bs i) = _
   rcases hget i y hy with ⟨_, hy'⟩ | ⟨hi', _⟩
   · rw [if_neg (by omega)]; exact h.old i y hi hy' hm
   · omega
 · intro i y hy hne
   show _ <= (if i = ob.length then w.heap.size else g.bs i) \/ c.own (if i = ob.length then w.heap.size else g.bs i)
   rcases hget i y hy with ⟨hi', hy⟩ | ⟨rfl, rfl⟩
   · rw [if_neg (by omega)]; exact h.new i y hy hne
   · rw [if_pos rfl]; exact .inl h.size
 · intro b k hi; have := h.i3 b k hi; simp; omega
 · intro i T cs k hy
   show ¬ g.I (if i = ob.length then w.heap.size else g.bs i) k
   rcases hget i _ hy with ⟨hi, hy⟩ | ⟨rfl, rfl⟩
   · rw [if_neg (by omega)]; exact h.i4 i T cs k hy
   · rw [if_pos rfl]; exact h.gN _ _ (Nat.le_refl _)
 · intro i y k hy hl
   show ¬ g.I (if i = ob.length then w.heap.size else g.bs i) k
   rcases hget i _ hy with ⟨hi, hy⟩ | ⟨rfl, rfl⟩
   · rw [if_neg (by omega)]; exact h.i5 i y k hy hl
   · rw [if_pos rfl]; exact h.gN _ _ (Nat.le_refl _)
 · intro i hi hn
   obtain ⟨h1, ⟨arr, T, h2, h2'⟩, h3, h4⟩ := h.f1 i hi hn
   have hlt : (g.fam i).blk < w.heap.size := by
    rcases Nat.lt_or_ge (g.fam i).blk w.heap.size with h | h
    · exact h
    · rw [Array.getElem?_eq_none h] at h2; cases h2
   refine ⟨h1, ⟨arr, T, by rw [heap_alloc_lt _ _ hlt]; exact h2, h2'⟩, h3, fun j y hy hne => ?_⟩
   show (if j = ob.length then w.heap.size else g.bs j) ≠ _
   rcases hget j y hy with ⟨hj, hy⟩ | ⟨rfl, rfl⟩
   · rw [if_neg (by omega)]; exact h4 j y hy hne
   · rw [if_pos rfl]
     have hlt' : (g.fam i).blk < w.heap.size := hlt
     intro e
     have e' : w.heap.size = (g.fam i).blk := e
     omega
def G.data (g : G) (b m : Nat) : G := { g with I := fun x k => g.I x k \/ (x = b /\ k < m) }
theorem Ext.data {c : Ctx} {g : G} {w : World} {ob : List VObj} {nt : Nat} (h : WInv c g w ob nt) (o : Obj) (m : Nat) :
 Ext g w ob.length nt (g.data w.heap.size m) (w.alloc o) ob.length nt :=
 ⟨Nat.le_refl _, Nat.le_refl _, fun _ _ => rfl, fun b k hi => ⟨.inl hi, cell_of_heap (heap_alloc_lt w o (h.i3 b k hi))⟩, fun _ _ => rfl⟩
theorem WInv.data {c : Ctx} {g : G} {w : World} {ob : List VObj} {nt : Nat} (h : WInv c g w ob nt) (o : Obj) (m : Nat) :
 WInv c (g.data w.heap.size m) (w.alloc o) ob nt := by
 have he := Ext.data h o m
 refine ⟨h.os, h.tape, h.output, ?_, ?_, h.len, ?_, ?_, h.inj, h.old, h.new, fun b k hi => .inl (h.i1 b k hi), ?_, ?_, ?_, ?_, ?_, h.f2, fun b k hI => by rw [(he.hI b k (h.i1 b k hI)).2]; exact h.i6 b k hI⟩
 · have := h.size; simp; omega
 · intro b hb hw; rw [heap_alloc_lt _ _ (by have := h.size; omega)]; exact h.keep b hb hw
 · intro i y hy
   exact he.orel' (h.obj i _ hy) fun hr => heap_alloc_lt _ _ (h.lt i _ hy hr)
 · intro i y hy hne; have := h.lt i y hy hne; simp [G.data]; omega
 · rintro b k hb hw (hi | ⟨rfl, _⟩)
   · exact h.i2 b k hb hw hi
   · have := h.size; omega
 · rintro b k (hi | ⟨rfl, _⟩)
   · have := h.i3 b k hi; simp; omega
   · simp
 · rintro i T cs k hy (hi | ⟨e, _⟩)
   · exact h.i4 i T cs k hy hi
   · have := h.lt i _ hy rfl; simp [G.data] at e; omega
 · rintro i y k hy hl (hi | ⟨e, _⟩)
   · exact h.i5 i y k hy hl hi
   · have := h.lt i _ hy (loose_real hl); simp [G.data] at e; omega
 · intro i hi hn
   obtain ⟨h1, ⟨arr, T, h2, h2'⟩, h3, h4⟩ := h.f1 i hi hn
   have hlt : (g.fam i).blk < w.heap.size := by
    rcases Nat.lt_or_ge (g.fam i).blk w.heap.size with h | h
    · exact h
    · rw [Array.getElem?_eq_none h] at h2; cases h2
   refine ⟨h1, ⟨arr, T, by show (w.alloc o).heap[(g.fam i).blk]? = _; rw [heap_alloc_lt _ _ hlt]; exact h2, h2'⟩, ?_, h4⟩
   rintro k hk (hI | ⟨e, _⟩)
   · exact h3 k hk hI
   · have : (g.fam i).blk = w.heap.size := e
     omega
end VL

namespace VL
open Go
theorem set_get {α : Type} {l : List α} {i j : Nat} {x y : α} (h : (l.set i x)[j]? = some y) : (i = j /\ y = x) \/ (i ≠ j /\ l[j]? = some y) := by
 rw [List.getElem?_set] at h
 split at h
 · split at h
   · simp at h; exact .inl ⟨by assumption, h.symm⟩
   · cases h
 · exact .inr ⟨by assumption, h⟩
structure Only (w w' : World) (b : Nat) : Prop where
 os : w'.os = w.os
 tape : w'.tape = w.tape
 output : w'.output = w.output
 size : w'.heap.size = w.heap.size
 other : ∀ k, k ≠ b -> w'.heap[k]? = w.heap[k]?
theorem Ext.only {g : G} {w w' : World} {n nt b : Nat} (h : Only w w' b) (hI : ∀ k, ¬ g.I b k) : Ext g w n nt g w' n nt :=
 ⟨Nat.le_refl _, Nat.le_refl _, fun _ _ => rfl, fun x k hx => ⟨hx, cell_of_heap (h.other x fun e => hI k (e ▸ hx))⟩, fun _ _ => rfl⟩
theorem WInv.put {c : Ctx} {g : G} {w w' : World} {ob : List VObj} {nt : Nat} (h : WInv c g w ob nt) {i : Nat} {x x' : VObj} (hi : ob[i]? = some x) (hne : x.real = true) (hI : ∀ k, ¬ g.I (g.bs i) k) (ho : Only w w' (g.bs i))
 (hx : ORel g w' ob.length nt (g.bs i) x') (hm : x'.mv = false -> x.mv = false) : WInv c g w' (ob.set i x') nt := by
 have he : Ext g w ob.length nt g w' ob.length nt := Ext.only ho hI
 have hlt := h.lt i x hi hne
 refine ⟨ho.os.trans h.os, ho.tape.trans h.tape, ho.output.trans h.output, by rw [ho.size]; exact h.size, ?_, ?_, ?_, ?_, ?_, ?_, ?_, h.i1, h.i2, ?_, ?_, ?_, ?_, h.f2, fun b k hI => by rw [(he.hI b k (h.i1 b k hI)).2]; exact h.i6 b k hI⟩
 · intro b hb hw
   rw [ho.other b fun e => ?_]
   · exact h.keep b hb hw
   · rcases h.new i x hi hne with h1 | h1
     · omega
     · exact hw (e ▸ h1)
 · simp [h.len]
 · intro j y hy
   rw [List.length_set]
   rcases set_get hy with ⟨rfl, rfl⟩ | ⟨hij, hy⟩
   · exact hx
   · exact he.orel' (h.obj j _ hy) fun hr => ho.other _ fun e => hij (h.inj i j _ _ hi hy hne hr e.symm)
 · intro j y hy hn
   rw [ho.size]
   rcases set_get hy with ⟨rfl, rfl⟩ | ⟨hij, hy⟩
   · exact hlt
   · exact h.lt _ _ hy hn
 · intro j k y z hy hz hny hnz e
   rcases set_get hy with ⟨rfl, rfl⟩ | ⟨hij, hy⟩ <;> rcases set_get hz with ⟨hz1, hz2⟩ | ⟨hik, hz⟩
   · exact hz1
   · exact h.inj _ _ _ _ hi hz hne hnz e
   · subst hz1; exact h.inj _ _ _ _ hy hi hny hne e
   · exact h.inj _ _ _ _ hy hz hny hnz e
 · intro j y hj hy hm'
   rcases set_get hy with ⟨rfl, rfl⟩ | ⟨hij, hy⟩
   · exact h.old _ _ hj hi (hm hm')
   · exact h.old _ _ hj hy hm'
 · intro j y hy hn
   rcases set_get hy with ⟨rfl, rfl⟩ | ⟨hij, hy⟩
   · exact h.new _ _ hi hne
   · exact h.new _ _ hy hn
 · intro b k hI; rw [ho.size]; exact h.i3 b k hI
 · intro j U ds k hy
   rcases set_get hy with ⟨rfl, hy⟩ | ⟨hij, hy⟩
   · exact hI k
   · exact h.i4 _ _ _ k hy
 · intro j y k hy hl
   rcases set_get hy with ⟨rfl, hy'⟩ | ⟨hij, hy⟩
   · exact hI k
   · exact h.i5 _ _ k hy hl
 · intro j hj hn
   obtain ⟨h1, ⟨arr0, U, h2, h2'⟩, h3, h4⟩ := h.f1 j hj hn
   refine ⟨h1, ⟨arr0, U, by rw [ho.other]; exact h2; exact fun e => h4 i _ hi hne e.symm, h2'⟩, h3, fun k y hy hny => ?_⟩
   rcases set_get hy with ⟨rfl, hy⟩ | ⟨hij, hy⟩
   · exact h4 _ _ hi hne
   · exact h4 _ _ hy hny
theorem only_row (w : World) (b : Nat) (arr : Array Value) : Only w (w.setRow b arr) b := ⟨rfl, rfl, rfl, by simp, fun k hk => setRow_other _ _ _ _ hk⟩
theorem Ext.store {c : Ctx} {g : G} {w : World} {ob : List VObj} {nt : Nat} (h : WInv c g w ob nt) {i : Nat} {T : TypeId} {cs : List V} (hi : ob[i]? = some (.cells true T cs)) (arr' : Array Value) :
 Ext g w ob.length nt g (w.setRow (g.bs i) arr') ob.length nt := Ext.only (only_row w _ arr') fun k => h.i4 i T cs k hi
theorem WInv.store {c : Ctx} {g : G} {w : World} {ob : List VObj} {nt : Nat} (h : WInv c g w ob nt) {i : Nat} {T : TypeId} {cs cs' : List V} (hi : ob[i]? = some (.cells true T cs)) (arr arr' : Array Value)
 (hh : w.heap[g.bs i]? = some (.cells arr T (0, 0))) (hl : cs'.length = arr'.size)
 (hr : ∀ (k : Nat) v c, cs'[k]? = some v -> arr'[k]? = some c -> VT g w ob.length nt v c /\ c.oneCell' = true) :
 WInv c g (w.setRow (g.bs i) arr') (ob.set i (.cells true T cs')) nt := by
 have he := Ext.store h hi arr'
 exact h.put hi rfl (fun k => h.i4 i T cs k hi) (only_row w _ arr') ⟨arr', setRow_heap _ _ _ _ _ _ hh, hl, fun k v c hv hc => ⟨he.vt (hr k v c hv hc).1, (hr k v c hv hc).2⟩⟩ fun _ => rfl
theorem Ext.freeze {c : Ctx} {g : G} {w : World} {ob : List VObj} {nt : Nat} (_h : WInv c g w ob nt) (b m : Nat) :
 Ext g w ob.length nt (g.data b m) w ob.length nt :=
 ⟨Nat.le_refl _, Nat.le_refl _, fun _ _ => rfl, fun _ _ hI => ⟨.inl hI, rfl⟩, fun _ _ => rfl⟩
theorem WInv.freeze {c : Ctx} {g : G} {w : World} {ob : List VObj} {nt : Nat} (h : WInv c g w ob nt) {i : Nat} {x x' : VObj} (hi : ob[i]? = some x) (hne : x.real = true) (m : Nat)
 (hx : ORel (g.data (g.bs i) m) w ob.length nt (g.bs i) x') (hm : x'.mv = false -> x.mv = false) (h4 : ∀ T cs, x' ≠ .cells true T cs) (h5 : x'.loose = false) :
 WInv c (g.data (g.bs i) m) w (ob.set i x') nt := by
 have he := Ext.freeze h (g.bs i) m
 refine ⟨h.os, h.tape, h.output, h.size, h.keep, ?_, ?_, ?_, ?_, ?_, ?_, fun b k hI => .inl (h.i1 b k hI), ?_, ?_, ?_, ?_, ?_, h.f2, fun b k hI => by rw [(he.hI b k (h.i1 b k hI)).2]; exact h.i6 b k hI⟩
 · simp [h.len]
 · intro j y hy
   rw [List.length_set]
   rcases set_get hy with ⟨rfl, rfl⟩ | ⟨hij, hy⟩
   · exact hx
   · exact he.orel (h.obj j _ hy) rfl
 · intro j y hy hn
   rcases set_get hy with ⟨rfl, rfl⟩ | ⟨hij, hy⟩
   · exact h.lt _ _ hi hne
   · exact h.lt _ _ hy hn
 · intro j k y z hy hz hny hnz e
   rcases set_get hy with ⟨rfl, rfl⟩ | ⟨hij, hy⟩ <;> rcases set_get hz with ⟨hz1, hz2⟩ | ⟨hik, hz⟩
   · exact hz1
   · exact h.inj _ _ _ _ hi hz hne hnz e
   · subst hz1; exact h.inj _ _ _ _ hy hi hny hne e
   · exact h.inj _ _ _ _ hy hz hny hnz e
 · intro j y hj hy hm'
   rcases set_get hy with ⟨rfl, rfl⟩ | ⟨hij, hy⟩
   · exact h.old _ _ hj hi (hm hm')
   · exact h.old _ _ hj hy hm'
 · intro j y hy hn
   rcases set_get hy with ⟨rfl, rfl⟩ | ⟨hij, hy⟩
   · exact h.new _ _ hi hne
   · exact h.new _ _ hy hn
 · rintro b k hb hw (hI | ⟨rfl, _⟩)
   · exact h.i2 b k hb hw hI
   · rcases h.new i _ hi hne with h1 | h1
     · omega
     · exact absurd h1 hw
 · rintro b k (hI | ⟨rfl, _⟩)
   · exact h.i3 b k hI
   · exact h.lt i _ hi hne
 · rintro j U ds k hy hI
   rcases set_get hy with ⟨rfl, hy'⟩ | ⟨hij, hy⟩
   · exact h4 _ _ hy'.symm
   · rcases hI with hI | ⟨e, _⟩
     · exact h.i4 _ _ _ k hy hI
     · exact hij (h.inj i j _ _ hi hy hne rfl e.symm)
 · rintro j y k hy hl hI
   rcases set_get hy with ⟨rfl, rfl⟩ | ⟨hij, hy⟩
   · rw [h5] at hl; cases hl
   · rcases hI with hI | ⟨e, _⟩
     · exact h.i5 _ _ k hy hl hI
     · exact hij (h.inj i j _ _ hi hy hne (loose_real hl) e.symm)
 · intro j hj hn
   obtain ⟨h1, h2, h3, h4⟩ := h.f1 j hj hn
   refine ⟨h1, h2, ?_, fun k y hy hny => ?_⟩
   · rintro k hk (hI | ⟨e, _⟩)
     · exact h3 k hk hI
     · exact h4 i _ hi hne e.symm
   · rcases set_get hy with ⟨rfl, hy⟩ | ⟨hij, hy⟩
     · exact h4 _ _ hi hne
     · exact h4 _ _ hy hny
def V.free (i : Nat) (v : V) : Prop := ∀ l sz, v ≠ .sl l (.tok i sz)
theorem strip_free (i : Nat) (v : V) : V.free i (V.strip i v) := by
 intro l sz e
 cases v with
 | sl l' r =>
   cases r with
   | tok j s =>
     simp only [V.strip] at e
     cases hb : Nat.beq j i <;> rw [hb] at e
     · simp at e
       obtain ⟨_, rfl, _⟩ := e
       simp at hb
     · simp at e
   | no => simp [V.strip] at e
   | ex => simp [V.strip] at e
 | _ => simp [V.strip] at e
theorem VRel.room {bs : Nat -> Nat} {I : Nat -> Nat -> Prop} {w : World} {n : Nat} {l : List V} {r : Room} {c : Value} (h : VRel bs I w n (.sl l r) c) (r' : Room) (hr : r' = .ex -> r = .ex) : VRel bs I w n (.sl l r') c := by
 cases h with
 | slnil => exact .slnil
 | sl u hl hcap hr0 hz hc hu => exact .sl u hl hcap (fun e => hr0 (hr e)) hz hc hu
theorem VRel.strip {bs : Nat -> Nat} {I : Nat -> Nat -> Prop} {w : World} {n : Nat} {v : V} {c : Value} (i : Nat) (h : VRel bs I w n v c) : VRel bs I w n (V.strip i v) c := by
 unfold V.strip
 split
 · split
   · exact h.room _ (by simp)
   · exact h
 · exact h
theorem VRel.untok {bs : Nat -> Nat} {I : Nat -> Nat -> Prop} {w : World} {n : Nat} {v : V} {c : Value} (h : VRel bs I w n v c) : VRel bs I w n (V.untok v) c := by
 unfold V.untok
 split
 · exact h.room _ (by simp)
 · exact h
theorem untok_noTok (v : V) : (V.untok v).noTok = true := by
 unfold V.untok; split
 · rfl
 · rename_i h
   cases v with
   | sl l r => cases r with
     | tok i s => exact absurd rfl (h l i s)
     | _ => rfl
   | _ => rfl
theorem Tok.fam {fam fam' : Nat -> Fam} {nt i : Nat} {v : V} {c : Value} (h : Tok fam nt v c) (hv : V.free i v) (hf : ∀ j, j ≠ i -> fam' j = fam j) : Tok fam' nt v c := by
 unfold Tok at h ⊢
 split
 · rename_i l j sz
   simp only at h
   obtain ⟨h1, h2, h3, a, len, cap, hc, h4⟩ := h
   exact ⟨h1, h2, h3, a, len, cap, hc, by rw [hf j fun e => hv l sz (by rw [e])]; exact h4⟩
 · trivial
theorem Tok.strip {fam : Nat -> Fam} {nt i : Nat} {v : V} {c : Value} (h : Tok fam nt v c) : Tok fam nt (V.strip i v) c := by
 cases v with
 | sl l r =>
   cases r with
   | tok j s =>
     simp only [V.strip]
     split
     · trivial
     · exact h
   | _ => trivial
 | _ => trivial
theorem VT.strip {g : G} {w : World} {n nt : Nat} {v : V} {c : Value} (i : Nat) (h : VT g w n nt v c) : VT g w n nt (V.strip i v) c := ⟨h.rel.strip i, h.tok.strip⟩
theorem VT.untok {g : G} {w : World} {n nt : Nat} {v : V} {c : Value} (h : VT g w n nt v c) : VT g w n nt (V.untok v) c := ⟨h.rel.untok, .of_no (untok_noTok v)⟩
def stripO (i : Nat) : VObj -> VObj
 | .cells w T cs => .cells w T (cs.map (V.strip i))
 | o => o
theorem stripO_none {i : Nat} {x : VObj} (h : (stripO i x).real = true) : x.real = true := by
 cases x <;> exact h
theorem stripO_mv {i : Nat} {x : VObj} (h : (stripO i x).mv = false) : x.mv = false := by
 cases x <;> exact h
theorem stripO_loose {i : Nat} {x : VObj} (h : (stripO i x).loose = true) : x.loose = true := by
 cases x <;> exact h
theorem WInv.strips {c : Ctx} {g : G} {w : World} {ob : List VObj} {nt : Nat} (h : WInv c g w ob nt) (i : Nat) : WInv c g w (ob.map (stripO i)) nt := by
 have hget : ∀ (j : Nat) y, (ob.map (stripO i))[j]? = some y -> ∃ x, ob[j]? = some x /\ stripO i x = y := fun j y hy => by
  rw [List.getElem?_map] at hy
  obtain ⟨x, hx, e⟩ := Option.map_eq_some_iff.1 hy
  exact ⟨x, hx, e⟩
 refine ⟨h.os, h.tape, h.output, h.size, h.keep, by simp [h.len], ?_, ?_, ?_, ?_, ?_, h.i1, h.i2, h.i3, ?_, ?_, ?_, h.f2, h.i6⟩
 · intro j y hy
   obtain ⟨x, hx, rfl⟩ := hget j y hy
   rw [List.length_map]
   have := h.obj j x hx
   cases x with
   | none => trivial
   | cells wr T cs =>
     obtain ⟨arr, h1, h2, h3⟩ := this
     refine ⟨arr, h1, by simp [h2], fun k v c hv hc => ?_⟩
     rw [List.getElem?_map] at hv
     obtain ⟨u, hu, rfl⟩ := Option.map_eq_some_iff.1 hv
     exact ⟨(h3 k u c hu hc).1.strip i, (h3 k u c hu hc).2⟩
   | map es => exact this
   | buf m z l => exact this
 · intro j y hy hn
   obtain ⟨x, hx, rfl⟩ := hget j y hy
   exact h.lt j x hx (stripO_none hn)
 · intro j k y z hy hz hny hnz
   obtain ⟨x, hx, rfl⟩ := hget j y hy
   obtain ⟨x', hx', rfl⟩ := hget k z hz
   exact h.inj j k x x' hx hx' (stripO_none hny) (stripO_none hnz)
 · intro j y hj hy hm
   obtain ⟨x, hx, rfl⟩ := hget j y hy
   exact h.old j x hj hx (stripO_mv hm)
 · intro j y hy hn
   obtain ⟨x, hx, rfl⟩ := hget j y hy
   exact h.new j x hx (stripO_none hn)
 · intro j T cs k hy
   obtain ⟨x, hx, e⟩ := hget j _ hy
   cases x with
   | cells wr U ds => simp [stripO] at e; obtain ⟨rfl, _, _⟩ := e; exact h.i4 j _ _ k hx
   | _ => simp [stripO] at e
 · intro j y k hy hl
   obtain ⟨x, hx, rfl⟩ := hget j _ hy
   exact h.i5 j _ k hx (stripO_loose hl)
 · intro j hj hn
   obtain ⟨h1, h2, h3, h4⟩ := h.f1 j hj hn
   refine ⟨h1, h2, h3, fun k y hy hny => ?_⟩
   obtain ⟨x, hx, rfl⟩ := hget k y hy
   exact h4 k x hx (stripO_none hny)
def freeO (i : Nat) (ob : List VObj) : Prop := ∀ (o : Nat) wr T cs, ob[o]? = some (.cells wr T cs) -> ∀ v ∈ cs, V.free i v
theorem strips_free (i : Nat) (ob : List VObj) : freeO i (ob.map (stripO i)) := by
 intro o wr T cs h v hv
 rw [List.getElem?_map] at h
 obtain ⟨x, hx, e⟩ := Option.map_eq_some_iff.1 h
 cases x with
 | cells _ _ ds =>
   simp [stripO] at e
   obtain ⟨_, _, rfl⟩ := e
   obtain ⟨u, _, rfl⟩ := List.mem_map.1 hv
   exact strip_free i u
 | _ => simp [stripO] at e
def G.claim (g : G) (i : Nat) (f : Fam) : G := { g with fam := fun j => if j = i then f else g.fam j }
theorem VT.claim {g : G} {w : World} {n nt : Nat} {v : V} {c : Value} {i : Nat} (h : VT g w n nt v c) (hv : V.free i v) (f : Fam) : VT (g.claim i f) w n nt v c :=
 ⟨h.rel, h.tok.fam hv fun j hj => by simp [G.claim, hj]⟩
theorem WInv.claim {c : Ctx} {g : G} {w : World} {ob : List VObj} {nt : Nat} (h : WInv c g w ob nt) {i : Nat} (hf : freeO i ob) (f : Fam)
 (h1 : 0 < f.n -> (c.w0.heap.size <= f.blk \/ c.own f.blk) /\ (∃ (arr : Array Value) (T : TypeId), w.heap[f.blk]? = some (.cells arr T (0, 0)) /\ f.st + f.n <= arr.size) /\
   (∀ k, f.st <= k -> ¬ g.I f.blk k) /\ (∀ (o : Nat) x, ob[o]? = some x -> x.real = true -> g.bs o ≠ f.blk) /\ ∀ j, j < nt -> j ≠ i -> 0 < (g.fam j).n -> (g.fam j).blk ≠ f.blk) :
 WInv c (g.claim i f) w ob nt := by
 refine ⟨h.os, h.tape, h.output, h.size, h.keep, h.len, ?_, h.lt, h.inj, h.old, h.new, h.i1, h.i2, h.i3, h.i4, h.i5, ?_, ?_, h.i6⟩
 · intro j y hy
   have := h.obj j y hy
   cases y with
   | none => trivial
   | cells wr T cs =>
     obtain ⟨arr, g1, g2, g3⟩ := this
     exact ⟨arr, g1, g2, fun k v c hv hc => ⟨(g3 k v c hv hc).1.claim (hf j _ _ _ hy v (List.mem_of_getElem? hv)) f, (g3 k v c hv hc).2⟩⟩
   | map es => exact this
   | buf m z l => exact this
 · intro j hj hn
   by_cases e : j = i
   · subst e
     simp only [G.claim, if_true] at hn ⊢
     obtain ⟨a, b, d, e', _⟩ := h1 hn
     exact ⟨a, b, d, e'⟩
   · simp only [G.claim, if_neg e] at hn ⊢
     exact h.f1 j hj hn
 · intro j k hj hk hne hnj hnk
   by_cases ej : j = i
   · subst ej
     have ek : k ≠ j := fun e => hne e.symm
     simp only [G.claim, if_true, if_neg ek] at hnj hnk ⊢
     exact fun e => (h1 hnj).2.2.2.2 k hk ek hnk e.symm
   · by_cases ek : k = i
     · subst ek
       simp only [G.claim, if_true, if_neg ej] at hnj hnk ⊢
       exact (h1 hnk).2.2.2.2 j hj ej hnj
     · simp only [G.claim, if_neg ej, if_neg ek] at hnj hnk ⊢
       exact h.f2 j k hj hk hne hnj hnk
theorem Tok.nt {fam : Nat -> Fam} {nt : Nat} {v : V} {c : Value} (h : Tok fam nt v c) : V.free nt v := by
 intro l sz e
 subst e
 have := h.1
 omega
theorem WInv.more {c : Ctx} {g : G} {w : World} {ob : List VObj} {nt : Nat} (h : WInv c g w ob nt) (f : Fam)
 (h1 : 0 < f.n -> (c.w0.heap.size <= f.blk \/ c.own f.blk) /\ (∃ (arr : Array Value) (T : TypeId), w.heap[f.blk]? = some (.cells arr T (0, 0)) /\ f.st + f.n <= arr.size) /\
   (∀ k, f.st <= k -> ¬ g.I f.blk k) /\ (∀ (o : Nat) x, ob[o]? = some x -> x.real = true -> g.bs o ≠ f.blk) /\ ∀ j, j < nt -> 0 < (g.fam j).n -> (g.fam j).blk ≠ f.blk) :
 WInv c (g.claim nt f) w ob (nt + 1) := by
 have hvt : ∀ {v : V} {x : Value}, VT g w ob.length nt v x -> VT (g.claim nt f) w ob.length (nt + 1) v x := fun {v x} hv =>
  ⟨hv.rel, (hv.tok.fam hv.tok.nt fun j hj => by simp [G.claim, hj]).ext (by omega) fun _ _ => rfl⟩
 refine ⟨h.os, h.tape, h.output, h.size, h.keep, h.len, ?_, h.lt, h.inj, h.old, h.new, h.i1, h.i2, h.i3, h.i4, h.i5, ?_, ?_, h.i6⟩
 · intro j y hy
   have := h.obj j y hy
   cases y with
   | none => trivial
   | cells wr T cs =>
     obtain ⟨arr, g1, g2, g3⟩ := this
     exact ⟨arr, g1, g2, fun k v c hv hc => ⟨hvt (g3 k v c hv hc).1, (g3 k v c hv hc).2⟩⟩
   | map es => exact this
   | buf m z l => exact this
 · intro j hj hn
   by_cases e : j = nt
   · subst e
     simp only [G.claim, if_true] at hn ⊢
     obtain ⟨a, b, d, e', _⟩ := h1 hn
     exact ⟨a, b, d, e'⟩
   · simp only [G.claim, if_neg e] at hn ⊢
     exact h.f1 j (by omega) hn
 · intro j k hj hk hne hnj hnk
   by_cases ej : j = nt
   · have ek : k ≠ nt := fun e => hne (by omega)
     simp only [G.claim, if_pos ej, if_neg ek] at hnj hnk ⊢
     exact fun e => (h1 hnj).2.2.2.2 k (by omega) hnk e.symm
   · by_cases ek : k = nt
     · simp only [G.claim, if_pos ek, if_neg ej] at hnj hnk ⊢
       exact (h1 hnk).2.2.2.2 j (by omega) hnj
     · simp only [G.claim, if_neg ej, if_neg ek] at hnj hnk ⊢
       exact h.f2 j k (by omega) (by omega) hne hnj hnk
end VL

namespace VL
open Go
def G.part (g : G) (b st e : Nat) : G := { g with I := fun x k => g.I x k \/ (x = b /\ st <= k /\ k < e) }
theorem Ext.fill {c : Ctx} {g : G} {w : World} {ob : List VObj} {nt : Nat} (h : WInv c g w ob nt) {b st e : Nat} (arr arr' : Array Value) (T : TypeId)
 (hh : w.heap[b]? = some (.cells arr T (0, 0))) (hI : ∀ k, st <= k -> ¬ g.I b k) (he : ∀ k, k < st -> arr'[k]? = arr[k]?) :
 Ext g w ob.length nt (g.part b st e) (w.setRow b arr') ob.length nt :=
 ⟨Nat.le_refl _, Nat.le_refl _, fun _ _ => rfl, fun x k hx => ⟨.inl hx, by
  by_cases hb : x = b
  · subst hb
    have hk : k < st := by
     rcases Nat.lt_or_ge k st with h | h
     · exact h
     · exact absurd hx (hI k h)
    rw [cell_setRow_same _ _ _ _ _ _ _ hh, he k hk]
    simp [World.cell?, hh]
  · exact cell_setRow_other _ _ _ _ hb⟩, fun _ _ => rfl⟩
theorem WInv.fill {c : Ctx} {g : G} {w : World} {ob : List VObj} {nt : Nat} (h : WInv c g w ob nt) {b st e : Nat} (arr arr' : Array Value) (T : TypeId)
 (hh : w.heap[b]? = some (.cells arr T (0, 0))) (hI : ∀ k, st <= k -> ¬ g.I b k) (he : ∀ k, k < st -> arr'[k]? = arr[k]?)
 (hb : c.w0.heap.size <= b \/ c.own b) (ho : ∀ (o : Nat) x, ob[o]? = some x -> x.real = true -> g.bs o ≠ b) (hf : ∀ i, i < nt -> 0 < (g.fam i).n -> (g.fam i).blk ≠ b) :
 WInv c (g.part b st e) (w.setRow b arr') ob nt := by
 have hx := Ext.fill (e := e) h arr arr' T hh hI he
 have hlt : b < w.heap.size := by
  rcases Nat.lt_or_ge b w.heap.size with h | h
  · exact h
  · rw [Array.getElem?_eq_none h] at hh; cases hh
 refine ⟨h.os, h.tape, h.output, ?_, ?_, h.len, ?_, ?_, h.inj, h.old, h.new, fun x k hi => .inl (h.i1 x k hi), ?_, ?_, ?_, ?_, ?_, h.f2, fun b k hI => by rw [(hx.hI b k (h.i1 b k hI)).2]; exact h.i6 b k hI⟩
 · have := h.size; simp; omega
 · intro x hx hw; rw [setRow_other _ _ _ _ (fun e => by subst e; rcases hb with hb | hb; (· omega); exact hw hb)]; exact h.keep x hx hw
 · intro i y hy
   exact hx.orel' (h.obj i _ hy) fun hr => setRow_other _ _ _ _ (ho i _ hy hr)
 · intro i y hy hn; rw [setRow_size]; exact h.lt i y hy hn
 · rintro x k hx hw (hi | ⟨rfl, _⟩)
   · exact h.i2 x k hx hw hi
   · rcases hb with hb | hb
     · omega
     · exact absurd hb hw
 · rintro x k (hi | ⟨rfl, _⟩)
   · rw [setRow_size]; exact h.i3 x k hi
   · rw [setRow_size]; exact hlt
 · rintro i U cs k hy (hi | ⟨e, _⟩)
   · exact h.i4 i U cs k hy hi
   · exact ho i _ hy rfl e
 · rintro i y k hy hl (hi | ⟨e, _⟩)
   · exact h.i5 i y k hy hl hi
   · exact ho i _ hy (loose_real hl) e
 · intro i hi hn
   obtain ⟨h1, ⟨arr0, U, h2, h2'⟩, h3, h4⟩ := h.f1 i hi hn
   refine ⟨h1, ⟨arr0, U, by show (w.setRow b arr').heap[(g.fam i).blk]? = _; rw [setRow_other _ _ _ _ (hf i hi hn)]; exact h2, h2'⟩, ?_, h4⟩
   rintro k hk (hI | ⟨e, _⟩)
   · exact h3 k hk hI
   · exact hf i hi hn e
end VL

namespace VL
open Go
theorem force_eq (v : V) (K : V -> Prop) : v.force K = K v := by cases v <;> rfl
theorem getK_iff {α : Type} {K : α -> Prop} : ∀ {l : List α} {i : Nat}, getK l i K -> ∃ x, l[i]? = some x /\ K x
 | [], _, h => h.elim
 | x :: _, 0, h => ⟨x, by simp, h⟩
 | _ :: r, n + 1, h => by
   obtain ⟨x, h1, h2⟩ := getK_iff (l := r) (i := n) h
   exact ⟨x, by simpa using h1, h2⟩
theorem setK_iff {α : Type} : ∀ {l : List α} {i : Nat} {v : α} {K : List α -> Prop}, setK l i v K -> i < l.length /\ K (l.set i v)
 | [], _, _, _, h => h.elim
 | _ :: r, 0, v, K, h => ⟨by simp, h⟩
 | x :: r, n + 1, v, K, h => by
   obtain ⟨h1, h2⟩ := setK_iff (l := r) (i := n) h
   exact ⟨by simp; omega, h2⟩
theorem dropK_iff {α : Type} {K : List α -> Prop} : ∀ {l : List α} {n : Nat}, dropK l n K -> n <= l.length /\ K (l.drop n)
 | l, 0, h => ⟨by simp, by cases l <;> exact h⟩
 | [], _ + 1, h => h.elim
 | _ :: r, n + 1, h => by
   obtain ⟨h1, h2⟩ := dropK_iff (l := r) (n := n) h
   exact ⟨by simp; omega, h2⟩
theorem takeK_iff {α : Type} : ∀ {l : List α} {n : Nat} {K : List α -> Prop}, takeK l n K -> n <= l.length /\ K (l.take n)
 | l, 0, _, h => ⟨by simp, by cases l <;> exact h⟩
 | [], _ + 1, _, h => h.elim
 | _ :: r, n + 1, _, h => by
   obtain ⟨h1, h2⟩ := takeK_iff (l := r) (n := n) h
   exact ⟨by simp; omega, h2⟩
theorem spliceK_iff {α : Type} : ∀ {l : List α} {n : Nat} {vs : List α} {K : List α -> Prop}, spliceK l n vs K -> n + vs.length <= l.length /\ K (l.take n ++ vs ++ l.drop (n + vs.length))
 | l, 0, [], K, h => ⟨by simp, by cases l <;> simpa [spliceK] using h⟩
 | [], 0, _ :: _, K, h => h.elim
 | _ :: r, 0, v :: vs, K, h => by
   obtain ⟨h1, h2⟩ := spliceK_iff (l := r) (n := 0) (vs := vs) h
   refine ⟨by simp at h1 ⊢; omega, ?_⟩
   simp only [Nat.zero_add, List.take_zero, List.nil_append, List.length_cons] at h2 ⊢
   rw [List.drop_succ_cons]; exact h2
 | [], _ + 1, vs, K, h => by cases vs <;> exact h.elim
 | x :: r, n + 1, vs, K, h => by
   have h' : spliceK r n vs fun l => K (x :: l) := by cases vs <;> exact h
   obtain ⟨h1, h2⟩ := spliceK_iff h'
   refine ⟨by simp; omega, ?_⟩
   have e : n + 1 + vs.length = (n + vs.length) + 1 := by omega
   rw [e, List.take_succ_cons, List.drop_succ_cons]; exact h2
theorem mapK_untok {K : List V -> Prop} : ∀ {l : List V}, mapK V.untokK l K -> K (l.map V.untok)
 | [], h => h
 | x :: r, h => by
   simp only [mapK, V.untokK, force_eq] at h
   exact mapK_untok (l := r) h
theorem snocK_iff {α : Type} : ∀ {l : List α} {v : α} {K : Nat -> List α -> Prop}, snocK l v K -> K l.length (l ++ [v])
 | [], v, K, h => h
 | x :: r, v, K, h => by
   have := snocK_iff (l := r) h
   simpa using this
theorem ofConst_rel {bs : Nat -> Nat} {I : Nat -> Nat -> Prop} {w : World} {n : Nat} (c : Value) : VRel bs I w n (ofConst c) c := by
 unfold ofConst; split <;> first | exact .int | exact .bool | exact .str | exact .nilp | exact .slnil | exact .nili | exact .niln | exact .nilm | exact .undef
theorem ofConstAgg_rel {bs : Nat -> Nat} {I : Nat -> Nat -> Prop} {w : World} {n : Nat} (c : Value) : VRel bs I w n (ofConstAgg c) c := by
 unfold ofConstAgg; split
 · refine .agg (by simp) fun k v c h1 h2 => ?_
   rw [List.getElem?_map] at h1
   obtain ⟨x, hx, rfl⟩ := Option.map_eq_some_iff.1 h1
   rw [Array.getElem?_toList] at hx
   rw [hx] at h2; cases h2
   exact ofConst_rel _
 · exact ofConst_rel _
theorem ofConst_noTok (c : Value) : (ofConst c).noTok = true := by unfold ofConst; split <;> rfl
theorem ofConstAgg_noTok (c : Value) : (ofConstAgg c).noTok = true := by
 unfold ofConstAgg; split
 · rfl
 · exact ofConst_noTok _
theorem ev_sound {g : G} {w : World} {n nt : Nat} {a : Act} {t : List V} (h : TInv g w n nt a.tmps t) {x : Operand} {K : V -> Prop} (hk : ev t x K) :
 ∃ v, VT g w n nt v (a.eval x) /\ K v := by
 cases x with
 | tmp i =>
   obtain ⟨v, h1, h2⟩ := getK_iff hk
   have hlt : i < a.tmps.size := by rw [← h.size]; exact (List.getElem?_eq_some_iff.1 h1).1
   refine ⟨v, h.rel i v _ h1 ?_, h2⟩
   simp [Act.eval, Array.getD, hlt]
 | const c =>
   simp only [ev, force_eq] at hk
   exact ⟨_, ⟨ofConstAgg_rel _, .of_no (ofConstAgg_noTok _)⟩, hk⟩
 | global b =>
   simp only [ev] at hk
   split at hk
   · rename_i l hl
     have hg : ∀ (k : Nat) v, (l.map ofConst)[k]? = some v -> ∃ x, l[k]? = some x /\ ofConst x = v := fun k v hv => by
      rw [List.getElem?_map] at hv
      cases e : l[k]? with
      | none => rw [e] at hv; cases hv
      | some x => rw [e] at hv; exact ⟨x, rfl, Option.some.inj hv⟩
     refine ⟨_, ⟨VRel.dp (off := 0) (fun k => (l[k]?).getD undef) (fun k v hv => ?_) (fun k v hv => ?_), .of_no rfl⟩, hk⟩
     · obtain ⟨x, hx, _⟩ := hg k v hv
       rw [Nat.zero_add, hx]
       exact h.gl.1 b l hl k x hx
     · obtain ⟨x, hx, rfl⟩ := hg k v hv
       rw [hx]
       exact ofConst_rel x
   · exact hk.elim
 | func f => exact ⟨_, ⟨.fn rfl rfl (by simp) (by simp), trivial⟩, hk⟩
theorem evs_sound {g : G} {w : World} {n nt : Nat} {a : Act} {t : List V} (h : TInv g w n nt a.tmps t) : ∀ {xs : List Operand} {K : List V -> Prop}, evs t xs K ->
 ∃ vs, vs.length = xs.length /\ (∀ (k : Nat) v x, vs[k]? = some v -> xs[k]? = some x -> VT g w n nt v (a.eval x)) /\ K vs
 | [], K, hk => ⟨[], rfl, by simp, hk⟩
 | x :: r, K, hk => by
   obtain ⟨v, h1, h2⟩ := ev_sound h hk
   obtain ⟨vs, h3, h4, h5⟩ := evs_sound h h2
   refine ⟨v :: vs, by simp [h3], fun k u y hu hy => ?_, h5⟩
   cases k with
   | zero => simp at hu hy; subst hu; subst hy; exact h1
   | succ k => exact h4 k u y (by simpa using hu) (by simpa using hy)
structure Nexts (c : Ctx) (a : Act) (dst : Option Tmp) (K KP : V -> St -> Prop) (next : Act -> World -> Prop) (Q : Exit -> Act -> World -> Prop) : Prop where
 val : ∀ v x s g w (b : Act), K v s -> Sim c g w b s -> b.tmps = a.tmps -> VT g w s.objs.length s.nt v x -> next (b.put dst x) w
 pan : ∀ v x s g w (b : Act), KP v s -> Sim c g w b s -> VRel g.bs g.I w s.objs.length v x -> Q (.panic [{ v := x, recovered := false }]) b w
theorem Nexts.same {c : Ctx} {a : Act} {o : Oper} {K KP : V -> St -> Prop} {next : Act -> World -> Prop} {Q : Exit -> Act -> World -> Prop} {P : Program} (h : Nexts c a o.dst K KP next Q)
 {g : G} {w : World} {s : St} (hs : Sim c g w a s) {v : V} {x : Value} (hr : (execOp a.eval o).run P w = .ok (.value x) w) (hv : VT g w s.objs.length s.nt v x) (hk : K v s) : o.wp P a w next Q := by
 unfold Oper.wp
 rw [hr]
 exact h.val v x s g w a hk hs rfl hv
end VL

namespace VL
open Go
section
variable {S : Sys} {c : Ctx} {g : G} {w : World} {a : Act} {o : Oper} {K KP : V -> St -> Prop} {next : Act -> World -> Prop} {Q : Exit -> Act -> World -> Prop}
 {t : List V} {ob : List VObj} {nt : Nat} {df : List (Fn × List V × List V)}
theorem VT.of {g : G} {w : World} {n nt : Nat} {v : V} {x : Value} (h : VRel g.bs g.I w n v x) (hv : v.noTok = true) : VT g w n nt v x := ⟨h, .of_no hv⟩
theorem sound_move {x : Operand} (ho : o.op = .move x \/ o.op = .assign x) (H : Nexts c a o.dst K KP next Q) (hs : Sim c g w a ⟨t, ob, nt, df⟩)
 (h : ev t x fun v => K v ⟨t, ob, nt, df⟩) : o.wp S.P a w next Q := by
 obtain ⟨v, hv, hk⟩ := ev_sound hs.ti h
 refine H.same hs (x := a.eval x) ?_ hv hk
 rcases ho with ho | ho <;> simp [execOp, ho]
theorem bif_elim {b : Bool} {x y : Prop} (h : @Bool.rec (fun _ => Prop) y x b) : (b = true /\ x) \/ (b = false /\ y) := by
 cases b
 · exact .inr ⟨rfl, h⟩
 · exact .inl ⟨rfl, h⟩
theorem sound_pick {x y z : Operand} (ho : o.op = .pick x y z) (H : Nexts c a o.dst K KP next Q) (hs : Sim c g w a ⟨t, ob, nt, df⟩)
 (h : ev t x fun c => match c with
   | .bool c => Bif c (ev t y fun v => K v ⟨t, ob, nt, df⟩) (ev t z fun v => K v ⟨t, ob, nt, df⟩)
   | _ => False) : o.wp S.P a w next Q := by
 obtain ⟨v, hv, hk⟩ := ev_sound hs.ti h
 cases v <;> try exact hk.elim
 rename_i b
 have hx : a.eval x = .bool b := by
  have := hv.rel
  generalize a.eval x = e at this
  cases this; rfl
 rcases bif_elim hk with ⟨rfl, hk⟩ | ⟨rfl, hk⟩
 · obtain ⟨v, hv, hk⟩ := ev_sound hs.ti hk
   exact H.same hs (x := a.eval y) (by simp [execOp, ho, hx, asBool]) hv hk
 · obtain ⟨v, hv, hk⟩ := ev_sound hs.ti hk
   exact H.same hs (x := a.eval z) (by simp [execOp, ho, hx, asBool]) hv hk
theorem sound_unOp {op : UnOp} {T : TypeId} {x : Operand} (ho : o.op = .unOp op T x) (H : Nexts c a o.dst K KP next Q) (hs : Sim c g w a ⟨t, ob, nt, df⟩)
 (h : ev t x fun x => match (generalizing := false) op, x with
   | .not, .bool b => K (.bool !b) ⟨t, ob, nt, df⟩
   | .neg, .int k n => K (.int k (k.wrap (0 - n))) ⟨t, ob, nt, df⟩
   | _, _ => False) : o.wp S.P a w next Q := by
 obtain ⟨v, hv, hk⟩ := ev_sound hs.ti h
 have hr := hv.rel
 cases op <;> cases v <;> try exact hk.elim
 · rename_i k n
   have hx : a.eval x = .int k n := by generalize a.eval x = e at hr; cases hr; rfl
   exact H.same hs (x := .int k (k.wrap (0 - n))) (by simp [execOp, ho, hx, Op.unary, Op.intArith]) (.of .int rfl) hk
 · rename_i b
   have hx : a.eval x = .bool b := by generalize a.eval x = e at hr; cases hr; rfl
   exact H.same hs (x := .bool !b) (by simp [execOp, ho, hx, Op.unary]) (.of .bool rfl) hk
theorem sound_extract {x : Operand} {i : Nat} (ho : o.op = .extract x i) (H : Nexts c a o.dst K KP next Q) (hs : Sim c g w a ⟨t, ob, nt, df⟩)
 (h : ev t x fun x => match x with
   | .tup vs => getK vs i fun v => v.untokK fun v => K v ⟨t, ob, nt, df⟩
   | _ => False) : o.wp S.P a w next Q := by
 obtain ⟨v, hv, hk⟩ := ev_sound hs.ti h
 cases v <;> try exact hk.elim
 rename_i vs
 obtain ⟨v, h1, h2⟩ := getK_iff hk
 have hr := hv.rel
 generalize hx : a.eval x = e at hr
 cases hr
 rename_i ca hl hh
 have hlt : i < ca.size := by rw [← hl]; exact (List.getElem?_eq_some_iff.1 h1).1
 simp only [V.untokK, force_eq] at h2
 exact H.same hs (x := ca[i]) (by simp [execOp, ho, hx, Instr.extract, hlt]) (.of (hh i v _ h1 (by simp [hlt])).untok (untok_noTok _)) h2
theorem sound_nilCheck {x : Operand} (ho : o.op = .nilCheck x) (H : Nexts c a o.dst K KP next Q) (hs : Sim c g w a ⟨t, ob, nt, df⟩)
 (h : ev t x fun v => match v with
   | .bp o z i off => K (.bp o z i off) ⟨t, ob, nt, df⟩
   | .ptr i off => K (.ptr i off) ⟨t, ob, nt, df⟩
   | .dp c => K (.dp c) ⟨t, ob, nt, df⟩
   | .fn (.func f) a b => K (.fn (.func f) a b) ⟨t, ob, nt, df⟩
   | _ => False) : o.wp S.P a w next Q := by
 obtain ⟨v, hv, hk⟩ := ev_sound hs.ti h
 have hr := hv.rel
 cases v <;> try exact hk.elim
 case ptr =>
  refine H.same hs (x := a.eval x) ?_ hv hk
  generalize hx : a.eval x = e at hr; cases hr
  simp [execOp, ho, hx]
 case dp =>
  refine H.same hs (x := a.eval x) ?_ hv hk
  generalize hx : a.eval x = e at hr; cases hr
  simp [execOp, ho, hx]
 case bp =>
  refine H.same hs (x := a.eval x) ?_ hv hk
  generalize hx : a.eval x = e at hr; cases hr
  simp [execOp, ho, hx]
 case fn f fa fb =>
  cases f <;> try exact hk.elim
  refine H.same hs (x := a.eval x) ?_ hv hk
  generalize hx : a.eval x = e at hr; cases hr
  simp [execOp, ho, hx]
theorem sound_makeInterface {T : TypeId} {x : Operand} (ho : o.op = .makeInterface T x) (H : Nexts c a o.dst K KP next Q) (hs : Sim c g w a ⟨t, ob, nt, df⟩)
 (h : ev t x fun x => x.untokK fun x => match S.P.underlying T with
   | some (.interface _) => False
   | some _ => K (.ifc T x) ⟨t, ob, nt, df⟩
   | none => False) : o.wp S.P a w next Q := by
 obtain ⟨v, hv, hk⟩ := ev_sound hs.ti h
 simp only [V.untokK, force_eq] at hk
 cases hu : S.P.underlying T with
 | none => rw [hu] at hk; exact hk.elim
 | some d =>
   rw [hu] at hk
   refine H.same hs (v := .ifc T v.untok) (x := .iface T (a.eval x)) ?_ (.of (.ifc hv.rel.untok) rfl) ?_
   · simp only [execOp, ho, Instr.makeInterface, Sem.run_bind, run_underlying hu, Result.andThen_ok]
     cases d <;> first | exact hk.elim | simp
   · cases d <;> first | exact hk.elim | exact hk
theorem sound_makeFunc {f : Fn} {x y : Array Operand} (ho : o.op = .makeFunc f x y) (H : Nexts c a o.dst K KP next Q) (hs : Sim c g w a ⟨t, ob, nt, df⟩)
 (h : evs t x.toList fun u => evs t y.toList fun v => mapK V.untokK u fun u => mapK V.untokK v fun v => K (.fn f u v) ⟨t, ob, nt, df⟩) : o.wp S.P a w next Q := by
 obtain ⟨us, hu1, hu2, hk⟩ := evs_sound hs.ti h
 obtain ⟨vs, hv1, hv2, hk⟩ := evs_sound hs.ti hk
 have hk := mapK_untok (mapK_untok hk)
 refine H.same hs (v := .fn f (us.map V.untok) (vs.map V.untok)) (x := .func f (x.map a.eval) (y.map a.eval)) (by simp [execOp, ho, Instr.makeFunc]) (.of ?_ rfl) hk
 refine .fn (by simp [hu1]) (by simp [hv1]) (fun k v c h1 h2 => ?_) fun k v c h1 h2 => ?_
 · rw [List.getElem?_map] at h1
   obtain ⟨u, hu, rfl⟩ := Option.map_eq_some_iff.1 h1
   rw [Array.getElem?_map] at h2
   obtain ⟨z, hz, rfl⟩ := Option.map_eq_some_iff.1 h2
   exact (hu2 k u z hu (by simpa using hz)).rel.untok
 · rw [List.getElem?_map] at h1
   obtain ⟨u, hu, rfl⟩ := Option.map_eq_some_iff.1 h1
   rw [Array.getElem?_map] at h2
   obtain ⟨z, hz, rfl⟩ := Option.map_eq_some_iff.1 h2
   exact (hv2 k u z hu (by simpa using hz)).rel.untok
end
end VL

namespace VL
open Go
section
variable {P : Program} {w : World}
theorem cellsOf_sz (t : TypeId) : P.cellsOf t = szOf P t := by
 unfold Program.cellsOf szOf
 cases P.info? t <;> rfl
theorem isAgg_kind {t : TypeId} {v : V} (h : kindOk P t v = true) : (isAgg t).run P w = .ok false w := by
 unfold kindOk at h
 cases hu : P.underlying t with
 | none => rw [hu] at h; simp at h
 | some d =>
   rw [hu] at h
   unfold isAgg
   rw [Sem.run_bind, run_underlying hu w]
   cases d <;> simp_all
theorem part_kind {t : TypeId} {x : V} (h : kindOk P t x = true) {cs : Array Value} {off : Nat} {v : Value} (hv : cs[off]? = some v) : (part t cs off).run P w = .ok v w := by
 simp [part, isAgg_kind h, hv]
def eq1 : V -> V -> Option Bool
 | .int k a, .int k' b => if k = k' then some (a == b) else none
 | .bool a, .bool b => some (a == b)
 | .str a, .str b => some (a.toList == b.toList)
 | _, _ => none
theorem eqCells_cons {x y : V} {xs ys : List V} {r : Bool} (h : eqCells (x :: xs) (y :: ys) = some r) : ∃ r1 r2, eq1 x y = some r1 /\ eqCells xs ys = some r2 /\ r = (r1 && r2) := by
 cases x <;> cases y <;> simp only [eqCells, reduceCtorEq] at h
 · split at h
   · obtain ⟨r2, h2, rfl⟩ := Option.map_eq_some_iff.1 h
     exact ⟨_, r2, by simp [eq1, *], h2, rfl⟩
   · cases h
 · obtain ⟨r2, h2, rfl⟩ := Option.map_eq_some_iff.1 h
   exact ⟨_, r2, by simp [eq1], h2, rfl⟩
 · obtain ⟨r2, h2, rfl⟩ := Option.map_eq_some_iff.1 h
   exact ⟨_, r2, by simp [eq1], h2, rfl⟩
theorem eqCells_nil {x : List V} {r : Bool} (h : eqCells [] x = some r) : x = [] /\ r = true := by
 cases x <;> simp [eqCells] at h
 exact ⟨rfl, h⟩
theorem equal1 {bs : Nat -> Nat} {I : Nat -> Nat -> Prop} {n d : Nat} {t : TypeId} {x y : V} (ht : kindOk P t x = true) {a b : Value} {r : Bool} (hx : VRel bs I w n x a) (hy : VRel bs I w n y b) (h : eq1 x y = some r) :
 (Op.equalIn (d + 1) t a b).run P w = .ok r w := by
 unfold kindOk at ht
 cases hu : P.underlying t with
 | none => rw [hu] at ht; simp at ht
 | some u =>
   rw [hu] at ht
   cases x <;> cases y <;> simp only [eq1, reduceCtorEq] at h
   · split at h
     · cases h
       rename_i hk
       subst hk
       cases hx; cases hy
       cases u <;> simp at ht <;> simp [Op.equalIn, run_underlying hu]
     · cases h
   · cases h; cases hx; cases hy
     cases u <;> simp at ht <;> simp [Op.equalIn, run_underlying hu]
   · cases h; cases hx; cases hy
     cases u <;> simp at ht <;> simp [Op.equalIn, run_underlying hu, beq_toListBytes]
theorem eq1_kind {t : TypeId} {x y : V} {r : Bool} (h : eq1 x y = some r) (hx : kindOk P t x = true) : kindOk P t y = true := by
 unfold kindOk at hx ⊢
 cases hu : P.underlying t with
 | none => rw [hu] at hx; simp at hx
 | some u => rw [hu] at hx; cases x <;> cases y <;> simp only [eq1, reduceCtorEq] at h <;> cases u <;> simp_all
theorem eqF {bs : Nat -> Nat} {I : Nat -> Nat -> Prop} {n d : Nat} {xs ys : Array Value} : ∀ (fs : List Field) (i : Nat) (l m : List V) (r : Bool), fitsF P i fs l = true -> eqCells l m = some r ->
 (∀ (k : Nat) v, l[k]? = some v -> ∃ c, xs[i + k]? = some c /\ VRel bs I w n v c) -> (∀ (k : Nat) v, m[k]? = some v -> ∃ c, ys[i + k]? = some c /\ VRel bs I w n v c) ->
 (Op.eqFields (d + 1) xs ys fs).run P w = .ok r w
 | [], i, l, m, r, hf, he, hx, hy => by
   cases l with
   | cons _ _ => simp [fitsF] at hf
   | nil =>
     obtain ⟨rfl, rfl⟩ := eqCells_nil he
     simp [Op.eqFields]
 | f :: fs, i, l, m, r, hf, he, hx, hy => by
   cases l with
   | nil => simp [fitsF] at hf
   | cons v l =>
     cases m with
     | nil => cases v <;> simp [eqCells] at he
     | cons u m =>
       simp only [fitsF, Bool.and_eq_true, bne_iff_ne, ne_eq, beq_iff_eq] at hf
       obtain ⟨⟨⟨h1, h2⟩, h3⟩, h4⟩ := hf
       obtain ⟨r1, r2, e1, e2, rfl⟩ := eqCells_cons he
       obtain ⟨a, ha, hra⟩ := hx 0 v (by simp)
       obtain ⟨b, hb, hrb⟩ := hy 0 u (by simp)
       simp only [Nat.add_zero] at ha hb
       have ih := eqF (d := d) fs (i + 1) l m r2 h4 e2 (fun k v hk => by have := hx (k + 1) v (by simpa using hk); rwa [show i + 1 + k = i + (k + 1) by omega])
        (fun k v hk => by have := hy (k + 1) v (by simpa using hk); rwa [show i + 1 + k = i + (k + 1) by omega])
       rw [← h3] at ha hb
       simp only [Op.eqFields, if_pos h2, Sem.run_bind, part_kind h1 ha, part_kind (eq1_kind e1 h1) hb, equal1 h1 hra hrb e1, Result.andThen_ok]
       cases r1
       · simp
       · simpa using ih
theorem eqA {bs : Nat -> Nat} {I : Nat -> Nat -> Prop} {n d : Nat} {e : TypeId} {xs ys : Array Value} : ∀ (i : Nat) (l m : List V) (r : Bool), l.all (kindOk P e) = true -> eqCells l m = some r ->
 (∀ (k : Nat) v, l[k]? = some v -> ∃ c, xs[i + k]? = some c /\ VRel bs I w n v c) -> (∀ (k : Nat) v, m[k]? = some v -> ∃ c, ys[i + k]? = some c /\ VRel bs I w n v c) ->
 (Op.eqItems (d + 1) e 1 xs ys (List.range' i l.length)).run P w = .ok r w
 | i, [], m, r, hf, he, hx, hy => by
   obtain ⟨rfl, rfl⟩ := eqCells_nil he
   simp [Op.eqItems]
 | i, v :: l, m, r, hf, he, hx, hy => by
   cases m with
   | nil => cases v <;> simp [eqCells] at he
   | cons u m =>
     simp only [List.all_cons, Bool.and_eq_true] at hf
     obtain ⟨r1, r2, e1, e2, rfl⟩ := eqCells_cons he
     obtain ⟨a, ha, hra⟩ := hx 0 v (by simp)
     obtain ⟨b, hb, hrb⟩ := hy 0 u (by simp)
     simp only [Nat.add_zero] at ha hb
     have ih := eqA (d := d) (i + 1) l m r2 hf.2 e2 (fun k v hk => by have := hx (k + 1) v (by simpa using hk); rwa [show i + 1 + k = i + (k + 1) by omega])
      (fun k v hk => by have := hy (k + 1) v (by simpa using hk); rwa [show i + 1 + k = i + (k + 1) by omega])
     rw [List.length_cons, List.range'_succ]
     simp only [Op.eqItems, Sem.run_bind, Nat.mul_one, part_kind hf.1 ha, part_kind (eq1_kind e1 hf.1) hb, equal1 hf.1 hra hrb e1, Result.andThen_ok]
     cases r1
     · simp
     · simpa using ih
theorem flat_equal {bs : Nat -> Nat} {I : Nat -> Nat -> Prop} {n : Nat} {T : TypeId} {l m : List V} {xs ys : Array Value} {r : Bool} (hT : flatT P T l = true) (he : eqCells l m = some r)
 (hx : VRel bs I w n (.agg l) (.agg xs)) (hy : VRel bs I w n (.agg m) (.agg ys)) : (Op.equalIn 10000 T (.agg xs) (.agg ys)).run P w = .ok r w /\ P.eqGuardType P.depth T = false := by
 have gx : ∀ (k : Nat) v, l[k]? = some v -> ∃ c, xs[0 + k]? = some c /\ VRel bs I w n v c := fun k v hk => by
  cases hx with
  | agg hl h =>
    have hlt : k < xs.size := by rw [← hl]; exact (List.getElem?_eq_some_iff.1 hk).1
    exact ⟨xs[k], by simp [hlt], h k v _ hk (by simp [hlt])⟩
 have gy : ∀ (k : Nat) v, m[k]? = some v -> ∃ c, ys[0 + k]? = some c /\ VRel bs I w n v c := fun k v hk => by
  cases hy with
  | agg hl h =>
    have hlt : k < ys.size := by rw [← hl]; exact (List.getElem?_eq_some_iff.1 hk).1
    exact ⟨ys[k], by simp [hlt], h k v _ hk (by simp [hlt])⟩
 unfold flatT at hT
 split at hT
 · rename_i fs hu
   simp only [Bool.and_eq_true, Bool.not_eq_true'] at hT
   obtain ⟨⟨h1, h2⟩, h3⟩ := hT
   have hf : P.fieldsOf T = fs := by simp [Program.fieldsOf, hu]
   refine ⟨?_, h3⟩
   rw [run_equalIn_struct (P := P) w 9999 T xs ys (by rw [hf]; exact hu) h2, hf]
   exact eqF fs.toList 0 l m r h1 he gx gy
 · rename_i len e hu
   simp only [Bool.and_eq_true, Bool.not_eq_true', beq_iff_eq] at hT
   obtain ⟨⟨⟨⟨h1, h2⟩, h3⟩, h4⟩, h5⟩ := hT
   obtain ⟨i, hi⟩ := Option.isSome_iff_exists.1 h4
   refine ⟨?_, h5⟩
   rw [run_equalIn_array (P := P) w 9999 xs ys hu hi, cellsOf_sz, h3, ← h2, List.range_eq_range']
   exact eqA 0 l m r h1 he gx gy
 · cases hT
theorem guardIn_nil (d : Nat) {T : TypeId} {ms : Array (String × TypeId)} (hu : P.underlying T = some (.interface ms)) (hm : ms.isEmpty = true) :
 (Op.eqGuardIn (d + 1) T .nilIface .nilIface).run P w = .ok false w := by
 simp [Op.eqGuardIn, run_underlying hu, hm]
theorem guard_nil {T : TypeId} {ms : Array (String × TypeId)} {ox oy : Operand} {op : BinOp} (hu : P.underlying T = some (.interface ms)) (hm : ms.isEmpty = true) :
 (eqGuard op T ox oy .nilIface .nilIface).run P w = .ok () w := by
 have hg : (Op.eqGuardIn Op.maxDepth T .nilIface .nilIface).run P w = .ok false w := guardIn_nil 9999 hu hm
 cases op <;> cases ox <;> cases oy <;> simp [eqGuard, hg]
theorem eqIn_ptr_nil (d : Nat) {T e : TypeId} (a : Addr) (hu : P.underlying T = some (.pointer e)) : (Op.equalIn (d + 1) T (.pointer (some a)) (.pointer none)).run P w = .ok false w := by simp [Op.equalIn, run_underlying hu]
theorem eqIn_nil_nil (d : Nat) {T e : TypeId} (hu : P.underlying T = some (.pointer e)) : (Op.equalIn (d + 1) T (.pointer none) (.pointer none)).run P w = .ok true w := by simp [Op.equalIn, run_underlying hu]
theorem eqIn_fn_nil (d : Nat) {T : TypeId} {a b : Array TypeId} {v : Bool} (f : Fn) (x y : Array Value) (hu : P.underlying T = some (.func a b v)) : (Op.equalIn (d + 1) T (.func f x y) .nilFunc).run P w = .ok false w := by simp [Op.equalIn, run_underlying hu]
theorem eqIn_nilfn (d : Nat) {T : TypeId} {a b : Array TypeId} {v : Bool} (hu : P.underlying T = some (.func a b v)) : (Op.equalIn (d + 1) T .nilFunc .nilFunc).run P w = .ok true w := by simp [Op.equalIn, run_underlying hu]
theorem eqIn_bool (d : Nat) {T : TypeId} (a b : Bool) (hu : P.underlying T = some .bool) : (Op.equalIn (d + 1) T (.bool a) (.bool b)).run P w = .ok (a == b) w := by simp [Op.equalIn, run_underlying hu]
theorem eqIn_map (d : Nat) {T k e : TypeId} {m : Option Nat} (hu : P.underlying T = some (.map k e)) : (Op.equalIn (d + 1) T (.map m) (.map none)).run P w = .ok m.isNone w := by
 cases m <;> simp [Op.equalIn, run_underlying hu]
theorem eqIn_same (d : Nat) {T e : TypeId} {a : Addr} {i : TypeInfo} (hu : P.underlying T = some (.pointer e)) (hi : P.info? e = some i) (hs : i.size ≠ 0) : (Op.equalIn (d + 1) T (.pointer (some a)) (.pointer (some a))).run P w = .ok true w := by
 have hsz : (Go.sizeOf e).run P w = .ok i.size w := by simp [Go.sizeOf, typeInfo, hi]
 simp [Op.equalIn, run_underlying hu, hsz, hs, sameAddr]
theorem not_neg {b : Int} (h : 0 <= b) : ¬ b < 0 := by omega
theorem binop_sound {bs : Nat -> Nat} {I : Nat -> Nat -> Prop} {n : Nat} {op : BinOp} {T : TypeId} {x y : V} {cx cy : Value} {ox oy : Operand} {K : V -> Prop}
 (hx : VRel bs I w n x cx) (hy : VRel bs I w n y cy) (h : binopK P op T x y K) :
 ∃ v c, K v /\ VRel bs I w n v c /\ v.noTok = true /\ (do eqGuard op T ox oy cx cy; binOp op T cx cy).run P w = .ok c w := by
 unfold binopK at h
 split at h
 · -- shl
   cases hx; cases hy
   obtain ⟨h1, h2⟩ := h
   exact ⟨_, _, h2, .int, rfl, by simp [eqGuard, binOp, Op.shift, not_neg h1, shiftV]⟩
 · cases hx; cases hy
   obtain ⟨h1, h2⟩ := h
   exact ⟨_, _, h2, .int, rfl, by simp [eqGuard, binOp, Op.shift, not_neg h1, shiftV]⟩
 · -- integers
   rename_i op k a k' b h1 h2
   cases hx; cases hy
   split at h
   · rename_i hk
     subst hk
     split at h
     all_goals first
      | exact h.elim
      | (obtain ⟨hb, h⟩ := h; exact ⟨_, _, h, .int, rfl, by simp [eqGuard, binOp, Op.intDiv, hb]⟩)
      | exact ⟨_, _, h, .int, rfl, by simp [eqGuard, binOp, Op.intArith, Op.intBits, bitsV]⟩
      | exact ⟨_, _, h, .bool, rfl, by simp [eqGuard, binOp, Op.intCmp]⟩
   · exact h.elim
 · rename_i a b
   cases hx; cases hy
   obtain ⟨h1, h2⟩ := h
   refine ⟨_, _, h2, .str, rfl, ?_⟩
   simp only [eqGuard, binOp, Op.stringOp, Sem.run_bind]
   rw [if_neg (show ¬ (((a.size + b.size : Nat) : Int) > IntKind.i64.max) from Int.not_lt.2 h1)]
   simp
 iterate 6
  · cases hx; cases hy
    exact ⟨_, _, h, .bool, rfl, by simp [eqGuard, binOp, Op.stringOp]⟩
 iterate 2
  · rename_i a b
    cases hx; cases hy
    split at h
    · rename_i hu
      have he : (Op.equal T (.bool a) (.bool b)).run P w = .ok (a == b) w := eqIn_bool 9999 a b hu
      refine ⟨_, _, h, .bool, rfl, ?_⟩
      simp only [eqGuard, binOp, Sem.run_bind]
      simp [he]
    · exact h.elim
 · -- flat ==
   rename_i l m
   split at h
   · rename_i hT he
     cases hx with | agg hl hh =>
     cases hy with | agg hl' hh' =>
     obtain ⟨e1, e2⟩ := flat_equal (w := w) hT he (.agg hl hh) (.agg hl' hh')
     refine ⟨_, _, h, .bool, rfl, ?_⟩
     simp only [Sem.run_bind, run_eqGuard_agg _ _ _ _ _ _ _ e2, Result.andThen_ok, run_eql_struct, e1]
   · exact h.elim
 · rename_i l m
   split at h
   · rename_i hT he
     cases hx with | agg hl hh =>
     cases hy with | agg hl' hh' =>
     obtain ⟨e1, e2⟩ := flat_equal (w := w) hT he (.agg hl hh) (.agg hl' hh')
     refine ⟨_, _, h, .bool, rfl, ?_⟩
     simp only [Sem.run_bind, run_eqGuard_agg _ _ _ _ _ _ _ e2, Result.andThen_ok, run_neq_struct, e1]
   · exact h.elim
 iterate 2
  · rename_i i k
    cases hx with | ptr hlt =>
    cases hy
    split at h
    · rename_i e hu
      have he : (Op.equal T (.pointer (some ⟨bs i, k, none⟩)) (.pointer none)).run P w = .ok false w := eqIn_ptr_nil 9999 _ hu
      refine ⟨_, _, h, .bool, rfl, ?_⟩
      simp only [eqGuard, binOp, Sem.run_bind]
      simp [he]
    · exact h.elim
 iterate 2
  · cases hx; cases hy
    split at h
    · rename_i e hu
      have he : (Op.equal T (.pointer none) (.pointer none)).run P w = .ok true w := eqIn_nil_nil 9999 hu
      refine ⟨_, _, h, .bool, rfl, ?_⟩
      simp only [eqGuard, binOp, Sem.run_bind]
      simp [he]
    · exact h.elim
 iterate 2
  · rename_i a i b j
    split at h
    · rename_i e hu hb
      simp only [Bool.and_eq_true] at hb
      have e1 := Nat.eq_of_beq_eq_true hb.1
      have e2 := Nat.eq_of_beq_eq_true hb.2
      subst e1; subst e2
      cases hx; cases hy
      unfold szK at h
      split at h
      · exact h.elim
      · rename_i n hz
        obtain ⟨inf, hi, hs⟩ : ∃ inf, P.info? e = some inf /\ inf.size = n + 1 := by
         unfold szOf at hz
         cases hi : P.info? e with
         | none => simp [hi] at hz
         | some inf => exact ⟨inf, rfl, by simpa [hi] using hz⟩
        have he : (Op.equal T (.pointer (some ⟨bs a, i, none⟩)) (.pointer (some ⟨bs a, i, none⟩))).run P w = .ok true w := eqIn_same 9999 hu hi (by omega)
        refine ⟨_, _, h, .bool, rfl, ?_⟩
        simp only [eqGuard, binOp, Sem.run_bind]
        simp [he]
    · exact h.elim
 iterate 2
  · cases hx; cases hy
    split at h
    · rename_i hu
      refine ⟨_, _, h, .bool, rfl, ?_⟩
      have he : ∀ m, (Op.equal T (.map (some m)) (.map none)).run P w = .ok false w := fun m => eqIn_map 9999 hu
      simp only [eqGuard, binOp, Sem.run_bind]
      simp [he]
    · exact h.elim
 iterate 2
  · cases hx; cases hy
    split at h
    · rename_i hu
      refine ⟨_, _, h, .bool, rfl, ?_⟩
      have he : (Op.equal T (.map none) (.map none)).run P w = .ok true w := eqIn_map 9999 hu
      simp only [eqGuard, binOp, Sem.run_bind]
      simp [he]
    · exact h.elim
 iterate 2
  · cases hx with | fn ha hb h1 h2 =>
    cases hy
    split at h
    · rename_i hu
      refine ⟨_, _, h, .bool, rfl, ?_⟩
      have he : ∀ f x y, (Op.equal T (.func f x y) .nilFunc).run P w = .ok false w := fun f x y => eqIn_fn_nil 9999 f x y hu
      simp only [eqGuard, binOp, Sem.run_bind]
      simp [he]
    · exact h.elim
 iterate 2
  · cases hx; cases hy
    split at h
    · rename_i hu
      have he : (Op.equal T .nilFunc .nilFunc).run P w = .ok true w := eqIn_nilfn 9999 hu
      refine ⟨_, _, h, .bool, rfl, ?_⟩
      simp only [eqGuard, binOp, Sem.run_bind]
      simp [he]
    · exact h.elim
 iterate 2
  · cases hx; cases hy
    split at h
    · rename_i ms hu
      split at h
      · rename_i hm
        refine ⟨_, _, h, .bool, rfl, ?_⟩
        have hf : P.underlying T = some (.interface (P.methodsAt T)) := by simp [Program.methodsAt, hu]
        simp only [Sem.run_bind, guard_nil hu hm, Result.andThen_ok]
        first | exact run_eql_nil_nil w T hf | exact run_neq_nil_nil w T hf
      · exact h.elim
    · exact h.elim
 iterate 2
  · cases hx; cases hy
    split at h
    · rename_i hu
      have hf : P.underlying T = some (.interface (P.methodsAt T)) := by simp [Program.methodsAt, hu]
      refine ⟨_, _, h, .bool, rfl, ?_⟩
      simp only [eqGuard, Sem.run_bind]
      first | exact run_eql_held_nil w T _ _ hf | exact run_neq_held_nil w T _ _ hf
    · exact h.elim
 · exact h.elim
end
end VL

namespace VL
open Go
section
variable {P : Program}
theorem info_of_underlying {t : TypeId} {d : TypeDesc} (h : P.underlying t = some d) : ∃ i, P.info? t = some i := by
 cases hi : P.info? t with
 | none => simp [Program.underlying, hi] at h
 | some i => exact ⟨i, rfl⟩
theorem szOf_info {t : TypeId} {i : TypeInfo} (h : P.info? t = some i) : szOf P t = i.size := by simp [szOf, h]
theorem isAgg_row {t : TypeId} {d : TypeDesc} (hu : P.underlying t = some d) (w : World) : (isAgg t).run P w = .ok d.isRow w := by
 unfold isAgg
 rw [Sem.run_bind, run_underlying hu w]
 cases d <;> rfl
theorem load_sound {bs : Nat -> Nat} {I : Nat -> Nat -> Prop} {w : World} {n : Nat} {T : TypeId} {cs : List V} {K : V -> Prop} (h : loadK P T cs K) {b off : Nat}
 (hc : ∀ (k : Nat) v, cs[k]? = some v -> ∃ c, w.cell? ⟨b, off + k, none⟩ = some c /\ VRel bs I w n v c) :
 ∃ v c, K v /\ VRel bs I w n v c /\ (v.noTok = true \/ (cs[0]? = some v /\ w.cell? ⟨b, off, none⟩ = some c)) /\ (Instr.loadAt T (.pointer (some ⟨b, off, none⟩))).run P w = .ok c w := by
 have row : ∀ {d : TypeDesc}, P.underlying T = some d -> d.isRow = true -> (takeK cs (szOf P T) fun l => mapK V.untokK l fun l => K (.agg l)) ->
  ∃ v c, K v /\ VRel bs I w n v c /\ (v.noTok = true \/ (cs[0]? = some v /\ w.cell? ⟨b, off, none⟩ = some c)) /\ (Instr.loadAt T (.pointer (some ⟨b, off, none⟩))).run P w = .ok c w := fun {d} hu hd h => by
  obtain ⟨i, hi⟩ := info_of_underlying hu
  obtain ⟨h1, h2⟩ := takeK_iff h
  have h2 := mapK_untok h2
  have hex : ∃ xs : List Value, xs.length = szOf P T /\ (∀ (k : Nat) c, xs[k]? = some c -> w.cell? ⟨b, off + k, none⟩ = some c) /\ ∀ (k : Nat) v c, (cs.take (szOf P T))[k]? = some v -> xs[k]? = some c -> VRel bs I w n v c := by
   refine ⟨(List.range (szOf P T)).map fun k => (w.cell? ⟨b, off + k, none⟩).getD undef, by simp, fun k c hk => ?_, fun k v c hv hk => ?_⟩
   · rw [List.getElem?_map] at hk
     obtain ⟨j, hj, rfl⟩ := Option.map_eq_some_iff.1 hk
     have hlt : k < szOf P T := by have := (List.getElem?_eq_some_iff.1 hj).1; rwa [List.length_range] at this
     have : j = k := by rw [List.getElem?_range hlt] at hj; exact (Option.some.inj hj).symm
     subst this
     obtain ⟨v, hv⟩ : ∃ v, cs[j]? = some v := ⟨cs[j]'(by omega), List.getElem?_eq_getElem (by omega)⟩
     obtain ⟨c, hc, _⟩ := hc j v hv
     rw [hc]; rfl
   · rw [List.getElem?_map] at hk
     obtain ⟨j, hj, rfl⟩ := Option.map_eq_some_iff.1 hk
     have hlt : k < szOf P T := by have := (List.getElem?_eq_some_iff.1 hj).1; rwa [List.length_range] at this
     have : j = k := by rw [List.getElem?_range hlt] at hj; exact (Option.some.inj hj).symm
     subst this
     have hv2 : cs[j]? = some v := by
      rw [List.getElem?_take, if_pos hlt] at hv
      exact hv
     obtain ⟨c, hc, hvt⟩ := hc j v hv2
     rw [hc]; exact hvt
  obtain ⟨xs, hl, hx, hr⟩ := hex
  refine ⟨_, .agg xs.toArray, h2, .agg (by simp [hl]; omega) fun k v c hv hk => ?_, .inl rfl, ?_⟩
  · rw [List.getElem?_map] at hv
    obtain ⟨u, hu, rfl⟩ := Option.map_eq_some_iff.1 hv
    exact (hr k u c hu (by simpa using hk)).untok
  · exact run_loadAt_mid w b off T xs d (fun j v hj => hx j v hj) hu hd (by simp [hi, hl, szOf_info hi])
 have one : ∀ {d : TypeDesc}, P.underlying T = some d -> d.isRow = false -> (∃ v, cs[0]? = some v /\ K v) ->
  ∃ v c, K v /\ VRel bs I w n v c /\ (v.noTok = true \/ (cs[0]? = some v /\ w.cell? ⟨b, off, none⟩ = some c)) /\ (Instr.loadAt T (.pointer (some ⟨b, off, none⟩))).run P w = .ok c w := fun {d} hu hd h => by
  obtain ⟨v, hv, hK⟩ := h
  obtain ⟨c, h1, h2⟩ := hc 0 v hv
  simp only [Nat.add_zero] at h1
  refine ⟨v, c, hK, h2, .inr ⟨hv, h1⟩, ?_⟩
  simp [Instr.loadAt, Instr.sureAddr, loadVar, isAgg_row hu, hd, h1]
 unfold loadK at h
 split at h
 · rename_i hu; exact row hu rfl h
 · rename_i hu; exact row hu rfl h
 · rename_i d h1 h2 hu
   refine one hu ?_ ?_
   · cases d <;> first | rfl | exact absurd rfl (h1 _) | exact absurd rfl (h2 _ _)
   · cases cs with
     | nil => exact absurd h (by simp)
     | cons v cs => exact ⟨v, by simp, by simpa [force_eq] using h⟩
 · exact h.elim
end
section
variable {S : Sys} {c : Ctx} {g : G} {w : World} {a : Act} {o : Oper} {K KP : V -> St -> Prop} {next : Act -> World -> Prop} {Q : Exit -> Act -> World -> Prop}
 {t : List V} {ob : List VObj} {nt : Nat} {df : List (Fn × List V × List V)}
theorem obj_cells {i : Nat} {wr : Bool} {T : TypeId} {cs : List V} (hw : WInv c g w ob nt) (hi : ob[i]? = some (.cells wr T cs)) :
 ∃ arr : Array Value, w.heap[g.bs i]? = some (.cells arr T (0, 0)) /\ cs.length = arr.size /\ ∀ (k : Nat) v c, cs[k]? = some v -> arr[k]? = some c -> VT g w ob.length nt v c /\ c.oneCell' = true := hw.obj i _ hi
theorem obj_cell {i off k : Nat} {wr : Bool} {T : TypeId} {cs : List V} (hw : WInv c g w ob nt) (hi : ob[i]? = some (.cells wr T cs)) {v : V} (hv : (cs.drop off)[k]? = some v) :
 ∃ x, w.cell? ⟨g.bs i, off + k, none⟩ = some x /\ VT g w ob.length nt v x := by
 obtain ⟨arr, h1, h2, h3⟩ := obj_cells hw hi
 rw [List.getElem?_drop] at hv
 have hlt : off + k < arr.size := by rw [← h2]; exact (List.getElem?_eq_some_iff.1 hv).1
 refine ⟨arr[off + k], by simp [World.cell?, h1, hlt], (h3 (off + k) v _ hv (by simp [hlt])).1⟩
theorem dp_cell {n : Nat} {cs : List V} {x : Value} (h : VRel g.bs g.I w n (.dp cs) x) :
 ∃ b off, x = .pointer (some ⟨b, off, none⟩) /\ ∀ (k : Nat) v, cs[k]? = some v -> ∃ c, w.cell? ⟨b, off + k, none⟩ = some c /\ g.I b (off + k) /\ VRel g.bs g.I w n v c := by
 cases h with
 | dp u hc hu => exact ⟨_, _, rfl, fun k v hk => ⟨u k, (hc k v hk).1, (hc k v hk).2, hu k v hk⟩⟩
theorem flat_at {l : List V} {z : Nat} (hz : ∀ x ∈ l, x.cells.length = z) : ∀ {i : Nat} {x : V}, l[i]? = some x -> ∀ k, k < z -> (l.flatMap V.cells)[i * z + k]? = x.cells[k]? := by
 induction l with
 | nil => intro i x h; simp at h
 | cons y r ih =>
   intro i x h k hk
   have hy := hz y (by simp)
   rw [List.flatMap_cons, List.getElem?_append, hy]
   cases i with
   | zero =>
     simp at h; subst h
     rw [if_pos (by omega)]; simp
   | succ i =>
     rw [if_neg (by rw [Nat.succ_mul]; omega)]
     rw [← ih (fun x hx => hz x (by simp [hx])) (by simpa using h) k hk]
     congr 1; rw [Nat.succ_mul]; omega
theorem flat_length {l : List V} {z : Nat} (hz : ∀ x ∈ l, x.cells.length = z) : (l.flatMap V.cells).length = l.length * z := by
 induction l with
 | nil => simp
 | cons y r ih => rw [List.flatMap_cons, List.length_append, hz y (by simp), ih fun x hx => hz x (by simp [hx]), List.length_cons, Nat.succ_mul]; omega
theorem buf_elem {mv : Bool} {o z : Nat} {l : List V} {ty : Option TypeId} (hw : WInv c g w ob nt) (ho : ob[o]? = some (.buf mv z l ty)) {i : Nat} {x : V} (hx : l[i]? = some x) :
 ∃ (arr : Array Value) (T : TypeId), w.heap[g.bs o]? = some (.cells arr T (0, 0)) /\ arr.size = l.length * z /\ (∀ x ∈ l, x.cells.length = z /\ x.cells.all V.okCell = true) /\
  (∀ (k : Nat) v c, (l.flatMap V.cells)[k]? = some v -> arr[k]? = some c -> VRel g.bs g.I w 0 v c /\ c.oneCell' = true) := by
 rcases hw.obj o _ ho with h | h
 · rw [h] at hx; simp at hx
 · obtain ⟨arr, T, h1, _, h2⟩ := h
   exact ⟨arr, T, h1, h2⟩
theorem buf_ty {mv : Bool} {o z : Nat} {l : List V} {ty : Option TypeId} (hw : WInv c g w ob nt) (ho : ob[o]? = some (.buf mv z l ty)) (hne : l ≠ []) {arr : Array Value} {T : TypeId} (hh : w.heap[g.bs o]? = some (.cells arr T (0, 0))) :
 ∀ t, ty = some t -> t = T := fun t ht => by
 rcases hw.obj o _ ho with h | ⟨arr', T', h1, h2, _⟩
 · exact absurd h hne
 · rw [hh] at h1; cases h1; exact h2 t ht
theorem buf_cell {mv : Bool} {o z : Nat} {l : List V} {ty : Option TypeId} (hw : WInv c g w ob nt) (ho : ob[o]? = some (.buf mv z l ty)) {i : Nat} {x : V} (hx : l[i]? = some x) {off k : Nat} {v : V} (hv : (x.cells.drop off)[k]? = some v) :
 ∃ u, w.cell? ⟨g.bs o, i * z + off + k, none⟩ = some u /\ VRel g.bs g.I w 0 v u := by
 obtain ⟨arr, T, h1, h2, h3, h4⟩ := buf_elem hw ho hx
 rw [List.getElem?_drop] at hv
 have hz : ∀ x ∈ l, x.cells.length = z := fun x hx => (h3 x hx).1
 have hlt : off + k < z := by rw [← hz x (List.mem_of_getElem? hx)]; exact (List.getElem?_eq_some_iff.1 hv).1
 have hf := flat_at hz hx (off + k) hlt
 rw [hv] at hf
 have hk : i * z + (off + k) < arr.size := by rw [h2, ← flat_length hz]; exact (List.getElem?_eq_some_iff.1 hf).1
 refine ⟨arr[i * z + (off + k)], ?_, (h4 _ v _ hf (by simp [hk])).1⟩
 simp [World.cell?, h1, show i * z + off + k = i * z + (off + k) by omega, hk]
theorem sound_load {T : TypeId} {x : Operand} (ho : o.op = .load T x) (H : Nexts c a o.dst K KP next Q) (hs : Sim c g w a ⟨t, ob, nt, df⟩)
 (h : ev t x fun p => match p with
 | .ptr i off => getK ob i fun o1 => match o1 with
   | .cells _ _ cs => dropK cs off fun cs => loadK S.P T cs fun v => K v ⟨t, ob, nt, df⟩
   | _ => False
 | .dp cs => loadK S.P T cs fun v => v.untokK fun v => K v ⟨t, ob, nt, df⟩
 | .bp o z i off => getK ob o fun o1 => match o1 with
   | .buf _ z' l _ => (match Nat.beq z z' with
     | true => ∃ x, l[i]? = some x /\ dropK x.cells off fun cs => loadK S.P T cs fun v => v.untokK fun v => K v ⟨t, ob, nt, df⟩
     | false => False)
   | _ => False
 | _ => False) : o.wp S.P a w next Q := by
 obtain ⟨v, hv, hk⟩ := ev_sound hs.ti h
 have hr := hv.rel
 cases v <;> try exact hk.elim
 case ptr i off =>
  obtain ⟨x1, h1, h2⟩ := getK_iff hk
  cases x1 <;> try exact h2.elim
  obtain ⟨h3, h4⟩ := dropK_iff h2
  obtain ⟨v, y, hK, hvt, hv, hrun⟩ := load_sound (b := g.bs i) (off := off) h4 (fun k v hv => by obtain ⟨c, h1, h2⟩ := obj_cell hs.wi h1 hv; exact ⟨c, h1, h2.rel⟩)
  generalize hx : a.eval x = e at hr
  cases hr
  refine H.same hs (x := y) (by simp [execOp, ho, hx, hrun]) ⟨hvt, ?_⟩ hK
  rcases hv with hv | ⟨hv, hy⟩
  · exact .of_no hv
  · obtain ⟨c, h5, h6⟩ := obj_cell hs.wi h1 hv
    rw [Nat.add_zero] at h5
    rw [hy] at h5; cases h5; exact h6.tok
 case dp cs =>
  obtain ⟨b, off, hx, hc⟩ := dp_cell hr
  obtain ⟨v, y, hK, hvt, _, hrun⟩ := load_sound (b := b) (off := off) hk (fun k v hv => by obtain ⟨c, h1, _, h2⟩ := hc k v hv; exact ⟨c, h1, h2⟩)
  simp only [V.untokK, force_eq] at hK
  exact H.same hs (x := y) (by simp [execOp, ho, hx, hrun]) (.of hvt.untok (untok_noTok _)) hK
 case bp o1 z i off =>
  obtain ⟨x1, h1, hk⟩ := getK_iff hk
  cases x1 <;> try exact hk.elim
  rename_i mv z' l
  simp only at hk
  split at hk
  case h_2 => exact hk.elim
  rename_i hz
  have hz := Nat.eq_of_beq_eq_true hz
  subst hz
  obtain ⟨e, he, hk⟩ := hk
  obtain ⟨h3, hk⟩ := dropK_iff hk
  obtain ⟨v, y, hK, hvt, _, hrun⟩ := load_sound (bs := g.bs) (I := g.I) (n := ob.length) (b := g.bs o1) (off := i * z + off) hk (fun k v hv => by
   obtain ⟨c, h1, h2⟩ := buf_cell hs.wi h1 he hv
   exact ⟨c, h1, h2.mono (fun o ho => absurd ho (by omega)) fun b k h => ⟨h, rfl⟩⟩)
  simp only [V.untokK, force_eq] at hK
  generalize hx : a.eval x = ex at hr
  cases hr
  exact H.same hs (x := y) (by simp [execOp, ho, hx, hrun]) (.of hvt.untok (untok_noTok _)) hK
theorem run_storeAt_row {P : Program} {b off : Nat} {T U : TypeId} {i : TypeInfo} {arr : Array Value} {x : Value} (hi : P.info? T = some i) (hx : x.cells.size = i.size) (hh : w.heap[b]? = some (.cells arr U (0, 0)))
 (hl : off + x.cells.size <= arr.size) (h1 : ∀ y ∈ x.cells.toList, y.oneCell' = true) :
 (Instr.storeAt T (.pointer (some ⟨b, off, none⟩)) x).run P w = .ok () (w.setRow b (arr.toList.take off ++ x.cells.toList ++ arr.toList.drop (off + x.cells.toList.length)).toArray) := by
 have := run_storeCells_at (P := P) b off U x.cells.toList 0 arr w hh (by simpa using hl) h1
 simp only [Nat.add_zero] at this
 have hsz : (Go.sizeOf T).run P w = .ok i.size w := by simp [Go.sizeOf, typeInfo, hi]
 simp only [Instr.storeAt, Instr.sureAddr, storeVar, Sem.run_bind, Sem.run_pure, Result.andThen_ok, hsz]
 rw [if_neg (by simp [hx])]
 exact this
theorem cells_rel {bs : Nat -> Nat} {I : Nat -> Nat -> Prop} {n : Nat} {v : V} {x : Value} (h : VRel bs I w n v x) (hv : v.cells.all V.okCell = true) :
 v.cells.length = x.cells.size /\ ∀ (k : Nat) u y, v.cells[k]? = some u -> x.cells[k]? = some y -> VRel bs I w n u y := by
 cases h with
 | agg hl hh => exact ⟨hl, hh⟩
 | undef => simp [V.cells, V.okCell] at hv
 | tup hl hh => simp [V.cells, V.okCell] at hv
 | _ => refine ⟨rfl, fun k u y hu hy => ?_⟩; (cases k <;> simp [V.cells, Value.cells] at hu hy); subst hu; subst hy; constructor <;> assumption
theorem cells_one {bs : Nat -> Nat} {I : Nat -> Nat -> Prop} {n : Nat} {v : V} {x : Value} (h : VRel bs I w n v x) (hv : v.cells.all V.okCell = true) : ∀ y ∈ x.cells.toList, y.oneCell' = true := by
 intro y hy
 obtain ⟨hl, hr⟩ := cells_rel h hv
 obtain ⟨k, hk⟩ := List.mem_iff_getElem?.1 hy
 have hlt : k < v.cells.length := by rw [hl]; simpa using (List.getElem?_eq_some_iff.1 hk).1
 have hu := List.getElem?_eq_getElem hlt
 exact (hr k _ y hu (by simpa using hk)).oneCell (List.all_eq_true.1 hv _ (List.mem_of_getElem? hu))
theorem cells_tok {fam : Nat -> Fam} {v : V} {x : Value} (h : VRel g.bs g.I w ob.length v x) (ht : Tok fam nt v x) (hv : v.cells.all V.okCell = true) (hn : v.tokOk = true) :
 ∀ (k : Nat) u y, v.cells[k]? = some u -> x.cells[k]? = some y -> Tok fam nt u y := by
 intro k u y hu hy
 cases v with
 | agg l => exact .of_no (List.all_eq_true.1 hn _ (List.mem_of_getElem? hu))
 | _ =>
   cases k with
   | succ k => simp [V.cells] at hu
   | zero =>
     simp [V.cells] at hu
     subst hu
     cases h <;> first | trivial | (simp [Value.cells] at hy; subst hy; exact ht) | (simp [V.cells, V.okCell] at hv)
theorem splice_get {α : Type} {A M B C : List α} {a b k : Nat} (hA : A.length = a) (hM : M.length = b) (hB : B.length = b) :
 (A ++ M ++ C)[k]? = if a <= k /\ k < a + b then M[k - a]? else (A ++ B ++ C)[k]? := by
 by_cases h1 : k < a
 · rw [if_neg (by omega), List.append_assoc, List.append_assoc, List.getElem?_append_left (by omega), List.getElem?_append_left (by omega)]
 · by_cases h2 : k < a + b
   · rw [if_pos ⟨by omega, h2⟩, List.append_assoc, List.getElem?_append_right (by omega), List.getElem?_append_left (by omega), hA]
   · rw [if_neg (by omega), List.getElem?_append_right (by simp; omega), List.getElem?_append_right (by simp; omega)]
     congr 1; simp; omega
theorem flat_splice {l m : List V} {z i : Nat} (hz : ∀ x ∈ l, x.cells.length = z) (hm : ∀ x ∈ m, x.cells.length = z) (hl : i + m.length <= l.length) (k : Nat) :
 ((l.take i ++ m ++ l.drop (i + m.length)).flatMap V.cells)[k]? = if i * z <= k /\ k < i * z + m.length * z then (m.flatMap V.cells)[k - i * z]? else (l.flatMap V.cells)[k]? := by
 have e0 : l.flatMap V.cells = (l.take i).flatMap V.cells ++ ((l.drop i).take m.length).flatMap V.cells ++ (l.drop (i + m.length)).flatMap V.cells := by
  rw [← List.flatMap_append, ← List.flatMap_append, List.append_assoc]
  congr 1
  rw [← List.drop_drop, List.take_append_drop, List.take_append_drop]
 rw [List.flatMap_append, List.flatMap_append, e0]
 refine splice_get ?_ (flat_length hm) ?_
 · rw [flat_length fun x hx => hz x (List.mem_of_mem_take hx)]
   have : (l.take i).length = i := by simp; omega
   rw [this]
 · rw [flat_length fun x hx => hz x (List.mem_of_mem_drop (List.mem_of_mem_take hx))]
   have : ((l.drop i).take m.length).length = m.length := by simp; omega
   rw [this]
theorem row_splice {arr : Array Value} {off : Nat} {news : List Value} (h : off + news.length <= arr.size) (k : Nat) :
 ((arr.toList.take off ++ news ++ arr.toList.drop (off + news.length)).toArray)[k]? = if off <= k /\ k < off + news.length then news[k - off]? else arr[k]? := by
 rw [List.getElem?_toArray, List.append_assoc]
 have l1 : (arr.toList.take off).length = off := by simp; omega
 by_cases h1 : k < off
 · rw [if_neg (by omega), List.getElem?_append_left (by omega), List.getElem?_take, if_pos h1]; simp
 · rw [List.getElem?_append_right (by omega), l1]
   by_cases h2 : k < off + news.length
   · rw [if_pos ⟨by omega, h2⟩, List.getElem?_append_left (by omega)]
   · rw [if_neg (by omega), List.getElem?_append_right (by omega), List.getElem?_drop]
     rw [show off + news.length + (k - off - news.length) = k by omega]; simp
theorem buf_write {mv : Bool} {o z : Nat} {l l' : List V} {ty : Option TypeId} (hw : WInv c g w ob nt) (ho : ob[o]? = some (.buf mv z l ty)) {arr : Array Value} {T : TypeId} (hh : w.heap[g.bs o]? = some (.cells arr T (0, 0)))
 (hsz : arr.size = l.length * z) (hll : l'.length = l.length) (hne : l ≠ []) (hok : ∀ x ∈ l', x.cells.length = z /\ x.cells.all V.okCell = true) {arr' : Array Value} (hsz' : arr'.size = arr.size)
 (hr : ∀ (k : Nat) v c, (l'.flatMap V.cells)[k]? = some v -> arr'[k]? = some c -> VRel g.bs g.I w 0 v c /\ c.oneCell' = true) :
 WInv c g (w.setRow (g.bs o) arr') (ob.set o (.buf mv z l' ty)) nt /\ Ext g w ob.length nt g (w.setRow (g.bs o) arr') ob.length nt := by
 have hreal : (VObj.buf mv z l ty).real = true := by simp [VObj.real, hne]
 have hI : ∀ k, ¬ g.I (g.bs o) k := fun k => hw.i5 o _ k ho (by simp [VObj.loose, hne])
 have he : Ext g w ob.length nt g (w.setRow (g.bs o) arr') ob.length nt := Ext.only (only_row w _ arr') hI
 exact ⟨hw.put ho hreal hI (only_row w _ arr') (.inr ⟨arr', T, setRow_heap _ _ _ _ _ _ hh, buf_ty hw ho hne hh, by rw [hsz', hsz, hll], hok, fun k v c hv hc => ⟨he.rel0 (hr k v c hv hc).1, (hr k v c hv hc).2⟩⟩) fun h => h, he⟩
theorem remake_cells {x : V} {cs : List V} (hl : cs.length = x.cells.length) (hok : x.cells.all V.okCell = true) (hc : cs.all V.okCell = true) : (x.remake cs).cells = cs := by
 cases x with
 | agg l => rfl
 | _ =>
   match cs, hl with
   | [c], _ =>
     have : c.okCell = true := by simpa using hc
     cases c <;> first | rfl | (simp [V.okCell] at this)
theorem store_bp {T : TypeId} {x y : Operand} (ho : o.op = .store T x y) (H : Nexts c a o.dst K KP next Q) (hs : Sim c g w a ⟨t, ob, nt, df⟩) {o1 z i off : Nat} {v : V}
 (hp : VT g w ob.length nt (.bp o1 z i off) (a.eval x)) (hv : VT g w ob.length nt v (a.eval y))
 (hk : v.untokK fun v => getK ob o1 fun o2 => match o2 with
   | .buf mv z' l ty => (match (S.P.info? T).any (fun i => v.cells.length == i.size) && v.cells.all V.okCell && V.lowL 0 v.cells && Nat.beq z z' with
     | true => ∃ x, l[i]? = some x /\ spliceK x.cells off v.cells fun cs => setK ob o1 (.buf mv z (l.set i (x.remake cs)) ty) fun ob => K (.tup []) ⟨t, ob, nt, df⟩
     | false => False)
   | _ => False) : o.wp S.P a w next Q := by
 simp only [V.untokK, force_eq] at hk
 have hvr := hv.rel.untok
 generalize v.untok = v at hk hvr
 obtain ⟨x1, h1, hk⟩ := getK_iff hk
 cases x1 <;> try exact hk.elim
 rename_i mv z' l ty
 simp only at hk
 split at hk
 case h_2 => exact hk.elim
 rename_i hck
 simp only [Bool.and_eq_true] at hck
 obtain ⟨⟨⟨hsz, hok⟩, hlow⟩, hz⟩ := hck
 have hz := Nat.eq_of_beq_eq_true hz
 subst hz
 obtain ⟨inf, hi, hsz⟩ : ∃ inf, S.P.info? T = some inf /\ (v.cells.length == inf.size) = true := by
  cases hi : S.P.info? T with
  | none => rw [hi] at hsz; simp at hsz
  | some inf => rw [hi] at hsz; exact ⟨inf, rfl, hsz⟩
 have hsz : v.cells.length = inf.size := by simpa using hsz
 obtain ⟨e, he, hk⟩ := hk
 obtain ⟨hfit, hk⟩ := spliceK_iff hk
 obtain ⟨hlt, hk⟩ := setK_iff hk
 obtain ⟨arr, U, g1, g2, g3, g4⟩ := buf_elem hs.wi h1 he
 have hzl : ∀ x ∈ l, x.cells.length = z := fun x hx => (g3 x hx).1
 have hel := g3 e (List.mem_of_getElem? he)
 obtain ⟨hcl, hcr⟩ := cells_rel hvr hok
 have hone := cells_one hvr hok
 have hil : i < l.length := (List.getElem?_eq_some_iff.1 he).1
 have hiz : i * z + z <= arr.size := by
  rw [g2]; have := Nat.mul_le_mul_right z (show i + 1 <= l.length by omega); rw [Nat.succ_mul] at this; exact this
 generalize hx : a.eval x = ex at hp
 have hpr := hp.rel
 cases hpr
 have hfit' : i * z + off + (a.eval y).cells.size <= arr.size := by rw [← hcl]; omega
 have hrun := run_storeAt_row (P := S.P) (T := T) (x := a.eval y) (b := g.bs o1) (off := i * z + off) hi (by rw [← hcl]; exact hsz) g1 hfit' hone
 generalize hrow : (arr.toList.take (i * z + off) ++ (a.eval y).cells.toList ++ arr.toList.drop (i * z + off + (a.eval y).cells.toList.length)).toArray = row at hrun
 have hrowk : ∀ k : Nat, row[k]? = if i * z + off <= k /\ k < i * z + off + v.cells.length then (a.eval y).cells[k - (i * z + off)]? else arr[k]? := fun k => by
  rw [← hrow, row_splice (by simpa using hfit')]
  simp [← hcl]
 have hcsok : (e.cells.take off ++ v.cells ++ e.cells.drop (off + v.cells.length)).all V.okCell = true := by
  simp only [List.all_append, Bool.and_eq_true]
  exact ⟨⟨List.all_eq_true.2 fun u hu => List.all_eq_true.1 hel.2 u (List.mem_of_mem_take hu), hok⟩, List.all_eq_true.2 fun u hu => List.all_eq_true.1 hel.2 u (List.mem_of_mem_drop hu)⟩
 have hcslen : (e.cells.take off ++ v.cells ++ e.cells.drop (off + v.cells.length)).length = e.cells.length := by simp; omega
 have hre := remake_cells hcslen hel.2 hcsok
 have hokl : ∀ x ∈ l.set i (e.remake (e.cells.take off ++ v.cells ++ e.cells.drop (off + v.cells.length))), x.cells.length = z /\ x.cells.all V.okCell = true := fun x hx => by
  rcases List.mem_or_eq_of_mem_set hx with h | rfl
  · exact g3 x h
  · rw [hre, hcslen]; exact ⟨hel.1, hcsok⟩
 obtain ⟨hw2, he2⟩ := buf_write (l' := l.set i (e.remake (e.cells.take off ++ v.cells ++ e.cells.drop (off + v.cells.length)))) hs.wi h1 g1 g2 (by simp) (by intro e0; rw [e0] at hil; simp at hil) hokl (arr' := row) (by
  rw [← hrow]; simp; rw [← hcl] at hfit' ⊢; omega) (fun k u y' hu hy => by
  have hset : l.set i (e.remake (e.cells.take off ++ v.cells ++ e.cells.drop (off + v.cells.length))) = l.take i ++ [e.remake (e.cells.take off ++ v.cells ++ e.cells.drop (off + v.cells.length))] ++ l.drop (i + [e.remake (e.cells.take off ++ v.cells ++ e.cells.drop (off + v.cells.length))].length) := by
   rw [List.set_eq_take_append_cons_drop, if_pos hil]; simp
  rw [hset, flat_splice hzl (by intro x hx; rw [List.mem_singleton.1 hx, hre, hcslen]; exact hel.1) (by simp; omega)] at hu
  simp only [List.length_singleton, Nat.one_mul, List.flatMap_cons, List.flatMap_nil, List.append_nil, hre] at hu
  rw [hrowk] at hy
  have hel1 := hel.1
  split at hu
  · rename_i hkr
    have hfa := flat_at hzl he (k - i * z) (by omega)
    rw [show i * z + (k - i * z) = k by omega] at hfa
    rw [List.getElem?_append] at hu
    have hl1 : (e.cells.take off ++ v.cells).length = off + v.cells.length := by simp; omega
    rw [hl1] at hu
    split at hu
    · rw [List.getElem?_append] at hu
      have hl2 : (e.cells.take off).length = off := by simp; omega
      rw [hl2] at hu
      split at hu
      · rw [List.getElem?_take, if_pos (by assumption)] at hu
        rw [if_neg (by omega)] at hy
        exact g4 k u y' (by rw [hfa]; exact hu) hy
      · rw [if_pos (by omega)] at hy
        have hk' : k - i * z - off = k - (i * z + off) := by omega
        rw [hk'] at hu
        exact ⟨(hcr _ u y' hu hy).low (lowL_get hlow hu), hone y' (Array.mem_toList_iff.2 (Array.mem_of_getElem? hy))⟩
    · rw [List.getElem?_drop] at hu
      rw [if_neg (by omega)] at hy
      rw [show off + v.cells.length + (k - i * z - (off + v.cells.length)) = k - i * z by omega] at hu
      exact g4 k u y' (by rw [hfa]; exact hu) hy
  · rw [if_neg (by omega)] at hy
    exact g4 k u y' hu hy)
 unfold Oper.wp
 have hex : (execOp a.eval o).run S.P w = .ok .skip (w.setRow (g.bs o1) row) := by
  simp only [execOp, ho, hx, Sem.run_bind, hrun, Result.andThen_ok]
  rfl
 rw [hex]
 exact H.val (.tup []) undef _ g _ a hk ⟨hw2, by simpa using he2.tinv hs.ti, by simpa using he2.drel hs.di⟩ rfl (.of (.tup rfl (by simp)) rfl)
theorem sound_store {T : TypeId} {x y : Operand} (ho : o.op = .store T x y) (H : Nexts c a o.dst K KP next Q) (hs : Sim c g w a ⟨t, ob, nt, df⟩)
 (h : ev t x fun p => ev t y fun v => v.force fun v => match p with
 | .ptr i off => getK ob i fun o1 => match o1 with
   | .cells true U cs => match (S.P.info? T).any (fun i => v.cells.length == i.size) && v.cells.all V.okCell && v.tokOk with
     | true => spliceK cs off v.cells fun cs => setK ob i (.cells true U cs) fun objs => K (.tup []) ⟨t, objs, nt, df⟩
     | false => False
   | _ => False
 | .bp o z i off => v.untokK fun v => getK ob o fun o1 => match o1 with
   | .buf mv z' l ty => (match (S.P.info? T).any (fun i => v.cells.length == i.size) && v.cells.all V.okCell && V.lowL 0 v.cells && Nat.beq z z' with
     | true => ∃ x, l[i]? = some x /\ spliceK x.cells off v.cells fun cs => setK ob o (.buf mv z (l.set i (x.remake cs)) ty) fun ob => K (.tup []) ⟨t, ob, nt, df⟩
     | false => False)
   | _ => False
 | _ => False) : o.wp S.P a w next Q := by
 obtain ⟨p, hp, hk⟩ := ev_sound hs.ti h
 obtain ⟨v, hv, hk⟩ := ev_sound hs.ti hk
 rw [force_eq] at hk
 have hr := hp.rel
 by_cases hbp : ∃ o1 z i off, p = .bp o1 z i off
 · obtain ⟨o1, z, i, off, rfl⟩ := hbp
   exact store_bp ho H hs hp hv hk
 obtain ⟨i, off, rfl⟩ : ∃ i off, p = .ptr i off := by
  cases p <;> first | exact ⟨_, _, rfl⟩ | exact absurd ⟨_, _, _, _, rfl⟩ hbp | exact hk.elim
 obtain ⟨x1, h1, hk⟩ := getK_iff hk
 obtain ⟨U, cs, rfl⟩ : ∃ U cs, x1 = .cells true U cs := by
  cases x1 with
  | cells wr U cs => cases wr <;> first | exact ⟨_, _, rfl⟩ | exact hk.elim
  | _ => exact hk.elim
 simp only at hk
 split at hk
 case h_2 => exact hk.elim
 rename_i hck
 simp only [Bool.and_eq_true] at hck
 obtain ⟨⟨hsz, hok⟩, htk⟩ := hck
 obtain ⟨inf, hi, hsz⟩ : ∃ inf, S.P.info? T = some inf /\ (v.cells.length == inf.size) = true := by
  cases hi : S.P.info? T with
  | none => rw [hi] at hsz; simp at hsz
  | some inf => rw [hi] at hsz; exact ⟨inf, rfl, hsz⟩
 have hsz : v.cells.length = inf.size := by simpa using hsz
 obtain ⟨hfit, hk⟩ := spliceK_iff hk
 obtain ⟨hlt, hk⟩ := setK_iff hk
 obtain ⟨arr, g1, g2, g3⟩ := obj_cells hs.wi h1
 obtain ⟨hcl, hcr⟩ := cells_rel hv.rel hok
 have hone := cells_one hv.rel hok
 have htok := cells_tok hv.rel hv.tok hok htk
 generalize hx : a.eval x = e at hr
 cases hr
 have hrun := run_storeAt_row (P := S.P) (T := T) (x := a.eval y) (off := off) hi (by rw [← hcl]; exact hsz) g1 (by rw [← hcl, ← g2]; exact hfit) hone
 unfold Oper.wp
 have he : (execOp a.eval o).run S.P w = .ok .skip (w.setRow (g.bs i) (arr.toList.take off ++ (a.eval y).cells.toList ++ arr.toList.drop (off + (a.eval y).cells.toList.length)).toArray) := by
  simp only [execOp, ho, hx, Sem.run_bind, hrun, Result.andThen_ok]
  rfl
 rw [he]
 have hw := WInv.store hs.wi h1 arr (arr.toList.take off ++ (a.eval y).cells.toList ++ arr.toList.drop (off + (a.eval y).cells.toList.length)).toArray g1
  (cs' := cs.take off ++ v.cells ++ cs.drop (off + v.cells.length)) (by
    simp only [List.length_append, List.length_take, List.length_drop, List.size_toArray, hcl, Array.length_toList]
    rw [g2]) (fun k u z hu hz => by
    simp only [List.getElem?_toArray] at hz
    rw [List.getElem?_append] at hu hz
    have hl1 : (cs.take off ++ v.cells).length = off + v.cells.length := by simp; omega
    have hl2 : (arr.toList.take off ++ (a.eval y).cells.toList).length = off + v.cells.length := by simp [← hcl]; omega
    rw [hl1] at hu
    rw [hl2] at hz
    split at hu
    · rename_i hk1
      rw [if_pos hk1] at hz
      rw [List.getElem?_append] at hu hz
      have hl3 : (cs.take off).length = off := by simp; omega
      have hl4 : (arr.toList.take off).length = off := by simp; omega
      rw [hl3] at hu
      rw [hl4] at hz
      split at hu
      · rename_i hk2
        rw [if_pos hk2] at hz
        rw [List.getElem?_take, if_pos hk2] at hu hz
        exact g3 k u z hu (by simpa using hz)
      · rename_i hk2
        rw [if_neg hk2] at hz
        have hz' : (a.eval y).cells[k - off]? = some z := by simpa using hz
        exact ⟨⟨hcr _ u z hu hz', htok _ u z hu hz'⟩, hone z (List.mem_of_getElem? hz)⟩
    · rename_i hk1
      rw [if_neg hk1] at hz
      rw [List.getElem?_drop] at hu hz
      have e1 : off + v.cells.length + (k - (off + v.cells.length)) = k := by omega
      have e2 : off + (a.eval y).cells.toList.length + (k - (off + v.cells.length)) = k := by
       rw [Array.length_toList, ← hcl]; omega
      rw [e1] at hu
      rw [e2] at hz
      exact g3 k u z hu (by simpa using hz))
 have he := Ext.store hs.wi h1 (arr.toList.take off ++ (a.eval y).cells.toList ++ arr.toList.drop (off + (a.eval y).cells.toList.length)).toArray
 exact H.val (.tup []) undef _ g _ a hk ⟨hw, by simpa using he.tinv hs.ti, by simpa using he.drel hs.di⟩ rfl (.of (.tup rfl (by simp)) rfl)
end
end VL

namespace VL
open Go
section
variable {S : Sys} {c : Ctx} {g : G} {w : World} {a : Act} {o : Oper} {K KP : V -> St -> Prop} {next : Act -> World -> Prop} {Q : Exit -> Act -> World -> Prop}
 {t : List V} {ob : List VObj} {nt : Nat} {df : List (Fn × List V × List V)}
theorem new_object {P : Program} (H : Nexts c a o.dst K KP next Q) (hs : Sim c g w a ⟨t, ob, nt, df⟩) {v : V} {x : Value} {T : TypeId} (hv : VRel g.bs g.I w ob.length v x) (ht : Tok g.fam nt v x)
 (hok : v.cells.all V.okCell = true) (htk : v.tokOk = true) (hrun : (execOp a.eval o).run P w = .ok (.value (.pointer (some ⟨w.heap.size, 0, none⟩))) (w.alloc (.cells x.cells T)))
 (hk : K (.ptr ob.length 0) ⟨t, ob ++ [.cells true T v.cells], nt, df⟩) : o.wp P a w next Q := by
 unfold Oper.wp
 rw [hrun]
 have he := Ext.alloc hs.wi (.cells x.cells T)
 obtain ⟨hcl, hcr⟩ := cells_rel hv hok
 have hone := cells_one hv hok
 have htok := cells_tok hv ht hok htk
 have hw := WInv.alloc hs.wi (.cells x.cells T) (.cells true T v.cells) ⟨x.cells, heap_alloc_new w _, hcl, fun k u y hu hy =>
  ⟨he.vt ⟨hcr k u y hu hy, htok k u y hu hy⟩, hone y (Array.mem_toList_iff.2 (Array.mem_of_getElem? hy))⟩⟩
 have hlen : (ob ++ [VObj.cells true T v.cells]).length = ob.length + 1 := by simp
 refine H.val (.ptr ob.length 0) _ ⟨t, ob ++ [.cells true T v.cells], nt, df⟩ _ _ a hk ⟨hw, ?_, ?_⟩ rfl ?_
 · show TInv _ _ (ob ++ [VObj.cells true T v.cells]).length _ _ _
   rw [hlen]; exact he.tinv hs.ti
 · show DRel _ _ (ob ++ [VObj.cells true T v.cells]).length _ _
   rw [hlen]; exact he.drel hs.di
 · refine .of ?_ rfl
   show VRel _ _ _ (ob ++ [VObj.cells true T v.cells]).length _ _
   rw [hlen]
   have : (VRel (fun i => if i = ob.length then w.heap.size else g.bs i) g.I (w.alloc (.cells x.cells T)) (ob.length + 1) (.ptr ob.length 0) (.pointer (some ⟨if ob.length = ob.length then w.heap.size else g.bs ob.length, 0, none⟩))) := .ptr (by omega)
   rw [if_pos rfl] at this
   exact this
theorem new_row {P : Program} (H : Nexts c a o.dst K KP next Q) (hs : Sim c g w a ⟨t, ob, nt, df⟩) {v : V} {x : Value} {T : TypeId} (hv : VRel g.bs g.I w ob.length v x) (ht : Tok g.fam nt v x)
 (hok : v.cells.all V.okCell = true) (htk : v.tokOk = true) (hint : intCells v.cells = true) (hrun : (execOp a.eval o).run P w = .ok (.value (.pointer (some ⟨w.heap.size, 0, none⟩))) (w.alloc (.cells x.cells T)))
 (hk : K (.ptr ob.length 0) ⟨t, ob ++ [.buf false 1 v.cells], nt, df⟩) : o.wp P a w next Q := by
 unfold Oper.wp
 rw [hrun]
 have he := Ext.alloc hs.wi (.cells x.cells T)
 obtain ⟨hcl, hcr⟩ := cells_rel hv hok
 have hone := cells_one hv hok
 have htok := cells_tok hv ht hok htk
 obtain ⟨hi0, hi⟩ := intCells_mem hint
 have hw := WInv.alloc hs.wi (.cells x.cells T) (.buf false 1 v.cells) (.inr ⟨x.cells, T, heap_alloc_new w _, by simp, by rw [← hcl]; simp, fun y hy => by
  obtain ⟨k, n, rfl⟩ := hi y hy
  exact ⟨rfl, rfl⟩, fun k u y hu hy => by
  rw [intCells_flat hi] at hu
  have hl : V.low 0 u = true := by
   obtain ⟨k, n, rfl⟩ := hi u (List.mem_of_getElem? hu)
   rfl
  exact ⟨(he.vt ⟨hcr k u y hu hy, htok k u y hu hy⟩).rel.low hl, hone y (Array.mem_toList_iff.2 (Array.mem_of_getElem? hy))⟩⟩)
 have hlen : (ob ++ [VObj.buf false 1 v.cells]).length = ob.length + 1 := by simp
 refine H.val (.ptr ob.length 0) _ ⟨t, ob ++ [.buf false 1 v.cells], nt, df⟩ _ _ a hk ⟨hw, ?_, ?_⟩ rfl ?_
 · show TInv _ _ (ob ++ [VObj.buf false 1 v.cells]).length _ _ _
   rw [hlen]; exact he.tinv hs.ti
 · show DRel _ _ (ob ++ [VObj.buf false 1 v.cells]).length _ _
   rw [hlen]; exact he.drel hs.di
 · refine .of ?_ rfl
   show VRel _ _ _ (ob ++ [VObj.buf false 1 v.cells]).length _ _
   rw [hlen]
   have : (VRel (fun i => if i = ob.length then w.heap.size else g.bs i) g.I (w.alloc (.cells x.cells T)) (ob.length + 1) (.ptr ob.length 0) (.pointer (some ⟨if ob.length = ob.length then w.heap.size else g.bs ob.length, 0, none⟩))) := .ptr (by omega)
   rw [if_pos rfl] at this
   exact this
theorem zeroV_iff {P : Program} {T : TypeId} {K : V -> Prop} (h : zeroV P T K) : ∃ i z, P.info? T = some i /\ i.zero = some z /\ K (ofConstAgg z) := by
 unfold zeroV at h
 cases hi : P.info? T with
 | none => simp [hi] at h
 | some i =>
   cases hz : i.zero with
   | none => simp [hi, hz] at h
   | some z =>
     simp [hi, hz, force_eq] at h
     exact ⟨i, z, rfl, hz, h⟩
theorem sound_alloc {T : TypeId} (ho : o.op = .alloc T) (H : Nexts c a o.dst K KP next Q) (hs : Sim c g w a ⟨t, ob, nt, df⟩)
 (h : zeroV S.P T fun z => match z.cells.all V.okCell && z.tokOk with
 | true => (match dstMem o.dst S.mu && intCells z.cells with
   | true => snocK ob (.buf false 1 z.cells) fun n ob => K (.ptr n 0) ⟨t, ob, nt, df⟩
   | false => snocK ob (.cells true T z.cells) fun n ob => K (.ptr n 0) ⟨t, ob, nt, df⟩)
 | false => False) : o.wp S.P a w next Q := by
 obtain ⟨i, z, hi, hz, hk⟩ := zeroV_iff h
 split at hk
 case h_2 => exact hk.elim
 rename_i hck
 simp only [Bool.and_eq_true] at hck
 split at hk
 · rename_i hmu
   simp only [Bool.and_eq_true] at hmu
   have hk := snocK_iff hk
   refine new_row (T := T) (x := z) H hs (ofConstAgg_rel z) (.of_no (ofConstAgg_noTok z)) hck.1 hck.2 hmu.2 ?_ hk
   simp [execOp, ho, Instr.alloc, zeroValue, typeInfo, hi, hz, newVar, newRow]
 have hk := snocK_iff hk
 refine new_object (x := z) H hs (ofConstAgg_rel z) (.of_no (ofConstAgg_noTok z)) hck.1 hck.2 ?_ hk
 simp [execOp, ho, Instr.alloc, zeroValue, typeInfo, hi, hz, newVar, newRow]
theorem sound_box {T : TypeId} {x : Operand} (ho : o.op = .box T x) (H : Nexts c a o.dst K KP next Q) (hs : Sim c g w a ⟨t, ob, nt, df⟩)
 (h : ev t x fun v => v.untokK fun v => match v.cells.all V.okCell && v.tokOk with
 | true => snocK ob (.cells true T v.cells) fun n ob => K (.ptr n 0) ⟨t, ob, nt, df⟩
 | false => False) : o.wp S.P a w next Q := by
 obtain ⟨v, hv, hk⟩ := ev_sound hs.ti h
 simp only [V.untokK, force_eq] at hk
 split at hk
 case h_2 => exact hk.elim
 rename_i hck
 simp only [Bool.and_eq_true] at hck
 have hk := snocK_iff hk
 refine new_object (x := a.eval x) H hs hv.rel.untok (.of_no (untok_noTok v)) hck.1 hck.2 ?_ hk
 simp [execOp, ho, Instr.box, newVar, newRow]
theorem fieldsOf_get {P : Program} {T : TypeId} {i : Nat} {fd : Field} (h : (fieldsOf P T)[i]? = some fd) : ∃ fs, P.underlying T = some (.struct fs) /\ fs[i]? = some fd := by
 unfold fieldsOf at h
 split at h
 · rename_i fs hu; exact ⟨fs, hu, by simpa using h⟩
 · simp at h
theorem szOf_pos {P : Program} {T : TypeId} {n : Nat} (h : szOf P T = n + 1) : ∃ i, P.info? T = some i /\ i.size = n + 1 := by
 unfold szOf at h
 cases hi : P.info? T with
 | none => simp [hi] at h
 | some i => exact ⟨i, rfl, by simpa [hi] using h⟩
theorem run_fieldAt {P : Program} {T : TypeId} {i : Nat} {fd : Field} {fs : Array Field} {n : Nat} (hu : P.underlying T = some (.struct fs)) (hf : fs[i]? = some fd) (hz : szOf P fd.type = n + 1) (b off : Nat) :
 (Instr.fieldAt T (.pointer (some ⟨b, off, none⟩)) i).run P w = .ok (.pointer (some ⟨b, off + fd.offset, none⟩)) w := by
 obtain ⟨inf, hi, hs⟩ := szOf_pos hz
 have hsz : (Go.sizeOf fd.type).run P w = .ok inf.size w := by simp [Go.sizeOf, typeInfo, hi]
 simp [Instr.fieldAt, run_underlying hu, hf, Instr.sureAddr, fieldPlace, hsz, hs, Addr.add_mid]
theorem sound_fieldAddr {T : TypeId} {x : Operand} {f : Nat} (ho : o.op = .fieldAddr T x f) (H : Nexts c a o.dst K KP next Q) (hs : Sim c g w a ⟨t, ob, nt, df⟩)
 (h : ev t x fun p => match (fieldsOf S.P T)[f]? with
 | some fd => match szOf S.P fd.type with
   | 0 => False
   | _ + 1 => (match p with
     | .ptr i off => K (.ptr i (off + fd.offset)) ⟨t, ob, nt, df⟩
     | .dp c => dropK c fd.offset fun c => K (.dp c) ⟨t, ob, nt, df⟩
     | .bp o z i off => K (.bp o z i (off + fd.offset)) ⟨t, ob, nt, df⟩
     | _ => False)
 | none => False) : o.wp S.P a w next Q := by
 obtain ⟨p, hp, hk⟩ := ev_sound hs.ti h
 split at hk
 case h_2 => exact hk.elim
 rename_i fd hf
 obtain ⟨fs, hu, hf⟩ := fieldsOf_get hf
 split at hk
 · exact hk.elim
 rename_i m hz
 have hr := hp.rel
 split at hk
 · rename_i i off
   generalize hx : a.eval x = e at hr
   cases hr with | ptr hlt =>
   exact H.same hs (x := .pointer (some ⟨g.bs i, off + fd.offset, none⟩)) (by simp [execOp, ho, hx, run_fieldAt hu hf hz]) (.of (.ptr hlt) rfl) hk
 · rename_i cs
   obtain ⟨h1, hk⟩ := dropK_iff hk
   generalize hx : a.eval x = e at hr
   cases hr with | @dp _ _ b off u hc hu' =>
   refine H.same hs (x := .pointer (some ⟨b, off + fd.offset, none⟩)) (by simp [execOp, ho, hx, run_fieldAt hu hf hz]) (.of (.dp (fun k => u (fd.offset + k)) (fun k v hv => ?_) (fun k v hv => ?_)) rfl) hk
   · rw [List.getElem?_drop] at hv
     have := hc _ v hv
     rwa [show off + (fd.offset + k) = off + fd.offset + k by omega] at this
   · rw [List.getElem?_drop] at hv
     exact hu' _ v hv
 · rename_i o1 z i off
   generalize hx : a.eval x = e at hr
   cases hr with | bp hlt =>
   exact H.same hs (x := .pointer (some ⟨g.bs o1, i * z + (off + fd.offset), none⟩)) (by simp [execOp, ho, hx, run_fieldAt hu hf hz, Nat.add_assoc]) (.of (.bp hlt) rfl) hk
 · exact hk.elim
theorem part_sound {P : Program} {bs : Nat -> Nat} {I : Nat -> Nat -> Prop} {n : Nat} {T : TypeId} {l : List V} {ca : Array Value} {off : Nat} {K : V -> Prop} (hl : l.length = ca.size)
 (hr : ∀ (k : Nat) v c, l[k]? = some v -> ca[k]? = some c -> VRel bs I w n v c) (hoff : off <= l.length) (h : loadK P T (l.drop off) K) :
 ∃ v c, K v /\ VRel bs I w n v c /\ (v.noTok = true \/ l[off]? = some v) /\ (part T ca off).run P w = .ok c w := by
 have row : ∀ {d : TypeDesc}, P.underlying T = some d -> d.isRow = true -> (takeK (l.drop off) (szOf P T) fun l => mapK V.untokK l fun l => K (.agg l)) ->
  ∃ v c, K v /\ VRel bs I w n v c /\ (v.noTok = true \/ l[off]? = some v) /\ (part T ca off).run P w = .ok c w := fun {d} hu hd h => by
  obtain ⟨i, hi⟩ := info_of_underlying hu
  obtain ⟨h1, h2⟩ := takeK_iff h
  have h2 := mapK_untok h2
  have hsz : (Go.sizeOf T).run P w = .ok (szOf P T) w := by simp [Go.sizeOf, typeInfo, hi, szOf]
  refine ⟨_, .agg (ca.extract off (off + szOf P T)), h2, .agg (by simp at h1 ⊢; omega) fun k v c hv hk => ?_, .inl rfl, by simp [part, isAgg_row hu, hd, hsz]⟩
  rw [List.getElem?_map] at hv
  obtain ⟨u, hu, rfl⟩ := Option.map_eq_some_iff.1 hv
  rw [List.getElem?_take] at hu
  split at hu
  · rw [List.getElem?_drop] at hu
    rw [Array.getElem?_extract] at hk
    split at hk
    · exact (hr _ u c hu hk).untok
    · exact absurd hk (by simp)
  · exact absurd hu (by simp)
 unfold loadK at h
 split at h
 · rename_i hu; exact row hu rfl h
 · rename_i hu; exact row hu rfl h
 · rename_i d h1 h2 hu
   have hd : d.isRow = false := by cases d <;> first | rfl | exact absurd rfl (h1 _) | exact absurd rfl (h2 _ _)
   have h0 : ∃ v, l[off]? = some v /\ K v := by
    cases hdr : l.drop off with
    | nil => rw [hdr] at h; exact h.elim
    | cons v r =>
      rw [hdr] at h
      refine ⟨v, ?_, by simpa [force_eq] using h⟩
      have := congrArg (fun x => x[0]?) hdr
      simpa [List.getElem?_drop] using this
   obtain ⟨v, hv, hK⟩ := h0
   have hlt : off < ca.size := by rw [← hl]; exact (List.getElem?_eq_some_iff.1 hv).1
   exact ⟨v, ca[off], hK, hr off v _ hv (by simp [hlt]), .inr hv, by simp [part, isAgg_row hu, hd, hlt]⟩
 · exact h.elim
theorem szK_iff {P : Program} {T : TypeId} {K : Nat -> Prop} (h : szK P T K) : ∃ i, P.info? T = some i /\ 0 < i.size /\ K i.size := by
 unfold szK at h
 split at h
 · exact h.elim
 · rename_i n hz
   obtain ⟨i, hi, hs⟩ := szOf_pos hz
   exact ⟨i, hi, by omega, hs ▸ h⟩
theorem run_size {P : Program} {T : TypeId} {i : TypeInfo} (h : P.info? T = some i) : (Go.sizeOf T).run P w = .ok i.size w := by simp [Go.sizeOf, typeInfo, h]
theorem sound_field {T : TypeId} {x : Operand} {f : Nat} (ho : o.op = .field T x f) (H : Nexts c a o.dst K KP next Q) (hs : Sim c g w a ⟨t, ob, nt, df⟩)
 (h : ev t x fun x => match (fieldsOf S.P T)[f]?, x with
 | some fd, .agg cs => dropK cs fd.offset fun cs => loadK S.P fd.type cs fun v => v.untokK fun v => K v ⟨t, ob, nt, df⟩
 | _, _ => False) : o.wp S.P a w next Q := by
 obtain ⟨p, hp, hk⟩ := ev_sound hs.ti h
 split at hk
 case h_2 => exact hk.elim
 rename_i fd cs hf
 obtain ⟨fs, hu, hf⟩ := fieldsOf_get hf
 obtain ⟨h1, hk⟩ := dropK_iff hk
 have hr := hp.rel
 generalize hx : a.eval x = e at hr
 cases hr with | agg hl hh =>
 obtain ⟨v, y, hK, hv, _, hrun⟩ := part_sound (w := w) hl hh h1 hk
 simp only [V.untokK, force_eq] at hK
 exact H.same hs (x := y) (by simp [execOp, ho, hx, Instr.field, run_underlying hu, hf, asAgg, hrun]) (.of hv.untok (untok_noTok _)) hK
theorem sound_index {T : TypeId} {x ix : Operand} (ho : o.op = .index T x ix) (H : Nexts c a o.dst K KP next Q) (hs : Sim c g w a ⟨t, ob, nt, df⟩)
 (h : ev t x fun x => ev t ix fun i => match i with
 | .int _ n => (match S.P.underlying T, x with
   | some .string, .str b => 0 <= n /\ ∃ c, b[n.toNat]? = some c /\ K (.int .u8 c.toNat) ⟨t, ob, nt, df⟩
   | some (.array len e), .agg cs => szK S.P e fun z => 0 <= n /\ n < len /\ dropK cs (n.toNat * z) fun cs => loadK S.P e cs fun v => v.untokK fun v => K v ⟨t, ob, nt, df⟩
   | _, _ => False)
 | _ => False) : o.wp S.P a w next Q := by
 obtain ⟨p, hp, hk0⟩ := ev_sound hs.ti h
 obtain ⟨i, hi, hk⟩ := ev_sound hs.ti hk0
 clear hk0
 split at hk
 case h_2 => exact hk.elim
 rename_i k n
 have hri := hi.rel
 generalize hix : a.eval ix = ei at hri
 cases hri
 have hr := hp.rel
 split at hk
 · rename_i b hu
   obtain ⟨h1, y, h2, hk⟩ := hk
   generalize hx : a.eval x = e at hr
   cases hr
   exact H.same hs (x := .int .u8 y.toNat) (by simp [execOp, ho, hx, hix, Instr.index, asIntOf, run_underlying hu, h1, h2]) (.of .int rfl) hk
 · rename_i len e cs hu
   obtain ⟨inf, hinf, hpos, h1, h2, hk⟩ := szK_iff hk
   obtain ⟨h3, hk⟩ := dropK_iff hk
   generalize hx : a.eval x = e at hr
   cases hr with | agg hl hh =>
   obtain ⟨v, y, hK, hv, _, hrun⟩ := part_sound (w := w) hl hh h3 hk
   simp only [V.untokK, force_eq] at hK
   exact H.same hs (x := y) (by simp [execOp, ho, hx, hix, Instr.index, asIntOf, run_underlying hu, h1, h2, run_size hinf, hrun]) (.of hv.untok (untok_noTok _)) hK
 · exact hk.elim
theorem flat_get {l : List V} {sz : Nat} (hz : ∀ x ∈ l, x.cells.length = sz /\ x.cells.all V.okCell = true) {i : Nat} {x : V} (hx : l[i]? = some x) {k : Nat} {v : V} (hv : x.cells[k]? = some v) :
 (l.flatMap V.cells)[i * sz + k]? = some v := by
 induction l generalizing i with
 | nil => simp at hx
 | cons y r ih =>
   have hy := (hz y (by simp)).1
   rw [List.flatMap_cons]
   cases i with
   | zero =>
     simp at hx
     subst hx
     rw [List.getElem?_append_left (by have := (List.getElem?_eq_some_iff.1 hv).1; omega)]
     simpa using hv
   | succ i =>
     rw [List.getElem?_append_right (by rw [hy, Nat.succ_mul]; omega), hy]
     have := ih (fun x hx => hz x (by simp [hx])) (i := i) (by simpa using hx)
     rwa [show (i + 1) * sz + k - sz = i * sz + k by rw [Nat.succ_mul]; omega]
theorem run_indexAt {P : Program} {T e : TypeId} {inf : TypeInfo} {n : Int} {k : IntKind} (hu : P.underlying T = some (.slice e)) (hi : P.info? e = some inf) (b off len cap : Nat) (h1 : 0 <= n) (h2 : n < len) :
 (Instr.indexAt T (.slice (some ⟨b, off, none⟩) len cap) (.int k n)).run P w = .ok (.pointer (some ⟨b, off + n.toNat * inf.size, none⟩)) w := by
 simp [Instr.indexAt, asIntOf, run_underlying hu, h1, h2, run_size hi, Addr.add_mid]
theorem sound_indexAddr {T : TypeId} {x ix : Operand} (ho : o.op = .indexAddr T x ix) (H : Nexts c a o.dst K KP next Q) (hs : Sim c g w a ⟨t, ob, nt, df⟩)
 (h : ev t x fun p => ev t ix fun i => match i with
 | .int _ n => (match S.P.underlying T, p with
   | some (.array len e), .ptr j off => szK S.P e fun z => 0 <= n /\ n < len /\ getK ob j fun o1 => (match o1 with
     | .buf _ z' _ _ => (match Nat.beq z z', off with | true, 0 => K (.bp j z n.toNat 0) ⟨t, ob, nt, df⟩ | _, _ => False)
     | _ => K (.ptr j (off + n.toNat * z)) ⟨t, ob, nt, df⟩)
   | some (.slice e), .slo o z lo m _ => szK S.P e fun z' => (match Nat.beq z z' with | true => 0 <= n /\ n.toNat < m /\ K (.bp o z (lo + n.toNat) 0) ⟨t, ob, nt, df⟩ | false => False)
   | some (.array len e), .dp c => szK S.P e fun z => 0 <= n /\ n < len /\ dropK c (n.toNat * z) fun c => K (.dp c) ⟨t, ob, nt, df⟩
   | some (.slice e), .sl l _ => szK S.P e fun z => 0 <= n /\ ∃ x, l[n.toNat]? = some x /\ x.cells.length = z /\ K (.dp x.cells) ⟨t, ob, nt, df⟩
   | some (.slice e), .spare l _ => szK S.P e fun z => 0 <= n /\ ∃ x, l[n.toNat]? = some x /\ x.cells.length = z /\ K (.dp x.cells) ⟨t, ob, nt, df⟩
   | some (.slice e), .slp l => szK S.P e fun z => 0 <= n /\ ∃ x, l[n.toNat]? = some x /\ x.cells.length = z /\ K (.dp x.cells) ⟨t, ob, nt, df⟩
   | _, _ => False)
 | _ => False) : o.wp S.P a w next Q := by
 obtain ⟨p, hp, hk0⟩ := ev_sound hs.ti h
 obtain ⟨i, hi, hk⟩ := ev_sound hs.ti hk0
 clear hk0
 split at hk
 case h_2 => exact hk.elim
 rename_i k n
 have hri := hi.rel
 generalize hix : a.eval ix = ei at hri
 cases hri
 have hr := hp.rel
 split at hk
 · rename_i len e j off hu
   obtain ⟨inf, hinf, hpos, h1, h2, hk⟩ := szK_iff hk
   generalize hx : a.eval x = e at hr
   cases hr with | ptr hlt =>
   have hrun : (execOp a.eval o).run S.P w = .ok (.value (.pointer (some ⟨g.bs j, off + n.toNat * inf.size, none⟩))) w := by simp [execOp, ho, hx, hix, Instr.indexAt, asIntOf, run_underlying hu, Instr.sureAddr, h1, h2, run_size hinf, Addr.add_mid]
   obtain ⟨x1, hx1, hk⟩ := getK_iff hk
   split at hk
   · split at hk
     · refine H.same hs hrun (.of ?_ rfl) hk
       have hb : VRel g.bs g.I w ob.length (.bp j inf.size n.toNat 0) (.pointer (some ⟨g.bs j, n.toNat * inf.size + 0, none⟩)) := .bp hlt
       simpa using hb
     · exact hk.elim
   · exact H.same hs hrun (.of (.ptr hlt) rfl) hk
 · rename_i e o1 z lo m c1 hu
   obtain ⟨inf, hinf, hpos, hk⟩ := szK_iff hk
   split at hk
   case h_2 => exact hk.elim
   rename_i hz
   have hz := Nat.eq_of_beq_eq_true hz
   obtain ⟨h1, h2, hk⟩ := hk
   generalize hx : a.eval x = e at hr
   cases hr with | @slo _ _ _ _ _ cap ad hlt hlc ha =>
   obtain rfl := ha.resolve_left (by omega)
   refine H.same hs (x := .pointer (some ⟨g.bs o1, lo * z + n.toNat * inf.size, none⟩)) (by simp [execOp, ho, hx, hix, run_indexAt hu hinf (g.bs o1) (lo * z) m c1 h1 (show n < (m : Int) by omega)]) (.of ?_ rfl) hk
   have hb : VRel g.bs g.I w ob.length (.bp o1 z (lo + n.toNat) 0) (.pointer (some ⟨g.bs o1, (lo + n.toNat) * z + 0, none⟩)) := .bp hlt
   rw [hz, Nat.add_mul] at hb
   rw [hz]; simpa using hb
 · rename_i len e cs hu
   obtain ⟨inf, hinf, hpos, h1, h2, hk⟩ := szK_iff hk
   obtain ⟨h3, hk⟩ := dropK_iff hk
   generalize hx : a.eval x = e at hr
   cases hr with | @dp _ _ b off u hc hu' =>
   refine H.same hs (x := .pointer (some ⟨b, off + n.toNat * inf.size, none⟩)) (by simp [execOp, ho, hx, hix, Instr.indexAt, asIntOf, run_underlying hu, Instr.sureAddr, h1, h2, run_size hinf, Addr.add_mid])
    (.of (.dp (fun k => u (n.toNat * inf.size + k)) (fun k v hv => ?_) (fun k v hv => ?_)) rfl) hk
   · rw [List.getElem?_drop] at hv
     have := hc _ v hv
     rwa [show off + (n.toNat * inf.size + k) = off + n.toNat * inf.size + k by omega] at this
   · rw [List.getElem?_drop] at hv
     exact hu' _ v hv
 · rename_i e l r hu
   obtain ⟨inf, hinf, hpos, h1, y, h2, h3, hk⟩ := szK_iff hk
   have hlt := (List.getElem?_eq_some_iff.1 h2).1
   generalize hx : a.eval x = e at hr
   cases hr with
   | slnil => simp at hlt
   | @sl _ _ _ b off len cap sz u hl hcap _ hz hc hu' =>
     have hsz : sz = inf.size := by rw [← h3, (hz y (List.mem_of_getElem? h2)).1]
     refine H.same hs (x := .pointer (some ⟨b, off + n.toNat * inf.size, none⟩)) (by simp [execOp, ho, hx, hix, run_indexAt hu hinf b off len cap h1 (show n < (len : Int) by omega)])
      (.of (.dp (fun k => u (n.toNat * inf.size + k)) (fun k v hv => ?_) (fun k v hv => ?_)) rfl) hk
     · have := hc _ v (flat_get hz h2 hv)
       rw [hsz] at this
       rwa [show off + (n.toNat * inf.size + k) = off + n.toNat * inf.size + k by omega] at this
     · have := hu' _ v (flat_get hz h2 hv)
       rw [hsz] at this
       exact this.mono (fun o ho => absurd ho (by omega)) fun b k h => ⟨h, rfl⟩
 · rename_i e l m hu
   obtain ⟨inf, hinf, hpos, h1, y, h2, h3, hk⟩ := szK_iff hk
   have hlt := (List.getElem?_eq_some_iff.1 h2).1
   generalize hx : a.eval x = e at hr
   cases hr with
   | @spare _ _ _ b off len cap sz u hl hcap hz hc hu' =>
     have h2' : (l ++ m)[n.toNat]? = some y := by rw [List.getElem?_append_left hlt]; exact h2
     have hsz : sz = inf.size := by rw [← h3, (hz y (List.mem_of_getElem? h2')).1]
     refine H.same hs (x := .pointer (some ⟨b, off + n.toNat * inf.size, none⟩)) (by simp [execOp, ho, hx, hix, run_indexAt hu hinf b off len cap h1 (show n < (len : Int) by omega)])
      (.of (.dp (fun k => u (n.toNat * inf.size + k)) (fun k v hv => ?_) (fun k v hv => ?_)) rfl) hk
     · have := hc _ v (flat_get hz h2' hv)
       rw [hsz] at this
       rwa [show off + (n.toNat * inf.size + k) = off + n.toNat * inf.size + k by omega] at this
     · have := hu' _ v (flat_get hz h2' hv)
       rw [hsz] at this
       exact this.mono (fun o ho => absurd ho (by omega)) fun b k h => ⟨h, rfl⟩
 · rename_i e l hu
   obtain ⟨inf, hinf, hpos, h1, y, h2, h3, hk⟩ := szK_iff hk
   have hlt := (List.getElem?_eq_some_iff.1 h2).1
   generalize hx : a.eval x = e at hr
   cases hr with
   | @slp _ _ b off len cap sz u hl hcap hz hc hu' =>
     have hsz : sz = inf.size := by rw [← h3, (hz y (List.mem_of_getElem? h2)).1]
     refine H.same hs (x := .pointer (some ⟨b, off + n.toNat * inf.size, none⟩)) (by simp [execOp, ho, hx, hix, run_indexAt hu hinf b off len cap h1 (show n < (len : Int) by omega)])
      (.of (.dp (fun k => u (n.toNat * inf.size + k)) (fun k v hv => ?_) (fun k v hv => ?_)) rfl) hk
     · have := hc _ v (flat_get hz h2 hv)
       rw [hsz] at this
       rwa [show off + (n.toNat * inf.size + k) = off + n.toNat * inf.size + k by omega] at this
     · have := hu' _ v (flat_get hz h2 hv)
       rw [hsz] at this
       exact this
 · exact hk.elim
end
end VL

namespace VL
open Go
section
variable {S : Sys} {c : Ctx} {g : G} {w : World} {a : Act} {o : Oper} {K KP : V -> St -> Prop} {next : Act -> World -> Prop} {Q : Exit -> Act -> World -> Prop}
 {t : List V} {ob : List VObj} {nt : Nat} {df : List (Fn × List V × List V)}
def IsLow (a : Act) (lo : Option Operand) (n : Int) : Prop :=
 match lo with
 | none => n = 0
 | some y => ∃ k, a.eval y = .int k n
theorem lowK_sound {g : G} {n nt : Nat} (h : TInv g w n nt a.tmps t) {lo : Option Operand} {K : Int -> Prop} (hk : lowK t lo K) : ∃ n, IsLow a lo n /\ K n := by
 unfold lowK at hk
 cases lo with
 | none => exact ⟨0, rfl, hk⟩
 | some y =>
   obtain ⟨v, hv, hk⟩ := ev_sound h hk
   cases v <;> try exact hk.elim
   rename_i k n
   have hr := hv.rel
   generalize hx : a.eval y = e at hr
   cases hr
   exact ⟨n, ⟨k, hx⟩, hk⟩
theorem bounds_to {P : Program} {isSlice : Bool} {len cap : Nat} {lo : Option Operand} {n : Int} (h : IsLow a lo n) (h0 : 0 <= n) (h1 : n <= len) :
 (Instr.sliceBounds isSlice len cap (lo.map a.eval) none none).run P w = .ok (n.toNat, len, cap) w := by
 cases lo with
 | none => cases h; simp [Instr.sliceBounds]
 | some y =>
   obtain ⟨k, hk⟩ := h
   simp [Instr.sliceBounds, hk, run_sliceBound w k n len _ h0 h1]
theorem bounds_in {P : Program} {isSlice : Bool} {len cap : Nat} {lo : Option Operand} {n m : Int} {k : IntKind} (h : IsLow a lo n) (h0 : 0 <= n) (h1 : n <= m) (h2 : m <= cap) :
 (Instr.sliceBounds isSlice len cap (lo.map a.eval) (some (.int k m)) none).run P w = .ok (n.toNat, m.toNat, cap) w := by
 have h3 : (m.toNat : Int) = m := Int.toNat_of_nonneg (by omega)
 cases lo with
 | none => cases h; simp [Instr.sliceBounds, run_sliceBound w k m cap _ (by omega) h2]
 | some y =>
   obtain ⟨k', hk⟩ := h
   simp [Instr.sliceBounds, hk, run_sliceBound w k m cap _ (by omega) h2, run_sliceBound w k' n m.toNat _ h0 (by omega)]
theorem run_slice_str {P : Program} {T : TypeId} {s : ByteArray} {lo : Option Operand} {hi : Option Value} {n m p : Nat} (hu : P.underlying T = some .string)
 (h : (Instr.sliceBounds false s.size s.size (lo.map a.eval) hi none).run P w = .ok (n, m, p) w) :
 (Instr.sliceAt T (.string s) (lo.map a.eval) hi none).run P w = .ok (.string (s.extract n m)) w := by
 simp [Instr.sliceAt, Instr.slice, run_underlying hu, h]
theorem run_slice_sl {P : Program} {T e : TypeId} {inf : TypeInfo} {ad : Option Addr} {len cap : Nat} {lo : Option Operand} {hi : Option Value} {n m p : Nat} (hu : P.underlying T = some (.slice e)) (hi' : P.info? e = some inf)
 (h : (Instr.sliceBounds true len cap (lo.map a.eval) hi none).run P w = .ok (n, m, p) w) :
 (Instr.sliceAt T (.slice ad len cap) (lo.map a.eval) hi none).run P w = .ok (.slice (if p = n then ad else ad.map (·.add (n * inf.size))) (m - n) (p - n)) w := by
 simp [Instr.sliceAt, Instr.slice, run_underlying hu, h, run_size hi']
theorem flat_drop {l : List V} {sz : Nat} (hz : ∀ x ∈ l, x.cells.length = sz /\ x.cells.all V.okCell = true) : ∀ (n : Nat), (l.drop n).flatMap V.cells = (l.flatMap V.cells).drop (n * sz) := by
 induction l with
 | nil => simp
 | cons x r ih =>
   intro n
   cases n with
   | zero => simp
   | succ n =>
     rw [List.drop_succ_cons, ih (fun y hy => hz y (by simp [hy])), List.flatMap_cons, List.drop_append, (hz x (by simp)).1, Nat.succ_mul]
     rw [show x.cells.drop (n * sz + sz) = [] from List.drop_eq_nil_of_le (by rw [(hz x (by simp)).1]; omega), List.nil_append]
     congr 1; omega
theorem flat_take {l : List V} {sz : Nat} (hz : ∀ x ∈ l, x.cells.length = sz /\ x.cells.all V.okCell = true) : ∀ (n : Nat), (l.take n).flatMap V.cells = (l.flatMap V.cells).take (n * sz) := by
 induction l with
 | nil => simp
 | cons x r ih =>
   intro n
   cases n with
   | zero => simp
   | succ n =>
     rw [List.take_succ_cons, List.flatMap_cons, ih (fun y hy => hz y (by simp [hy])), List.flatMap_cons, List.take_append, (hz x (by simp)).1, Nat.succ_mul]
     rw [List.take_of_length_le (l := x.cells) (by rw [(hz x (by simp)).1]; omega)]
     congr 2; omega
theorem flat_len {l : List V} {sz : Nat} (hz : ∀ x ∈ l, x.cells.length = sz) : (l.flatMap V.cells).length = l.length * sz := by
 induction l with
 | nil => simp
 | cons x r ih =>
   rw [List.flatMap_cons, List.length_append, ih (fun y hy => hz y (by simp [hy])), hz x (by simp), List.length_cons, Nat.succ_mul]; omega
theorem VRel.cut {bs : Nat -> Nat} {I : Nat -> Nat -> Prop} {n : Nat} {l : List V} {r r' : Room} {b off len cap z : Nat} (h : VRel bs I w n (.sl l r) (.slice (some ⟨b, off, none⟩) len cap)) (hz : ∀ x ∈ l, x.cells.length = z)
 {lo hi : Nat} (h1 : lo <= hi) (h2 : hi <= l.length) (hr : r' = .ex -> cap = hi) :
 VRel bs I w n (.sl ((l.take hi).drop lo) r') (.slice (if cap = lo then some ⟨b, off, none⟩ else some ⟨b, off + lo * z, none⟩) (hi - lo) (cap - lo)) := by
 cases h with
 | @sl _ _ _ _ _ _ _ sz u hl hcap hr0 hok hc hu =>
   have hlen : hi - lo = ((l.take hi).drop lo).length := by simp; omega
   by_cases hcl : cap = lo
   · rw [if_pos hcl]
     have hnil : (l.take hi).drop lo = [] := List.drop_eq_nil_of_le (by simp; omega)
     rw [hnil] at hlen ⊢
     exact .sl (sz := sz) u hlen (by simp at hlen; omega) (fun e => by have := hr e; simp at hlen; omega) (by simp) (by simp) (by simp)
   · rw [if_neg hcl]
     by_cases hne : l = []
     · subst hne
       simp at h2
       refine .sl (sz := sz) u hlen (by simp at hlen ⊢; omega) (fun e => by have := hr e; omega) (by simp) (by simp) (by simp)
     · have hsz : sz = z := by
        obtain ⟨x, hx⟩ := List.exists_mem_of_ne_nil l hne
        rw [← (hok x hx).1, hz x hx]
       subst hsz
       have hflat : ((l.take hi).drop lo).flatMap V.cells = ((l.flatMap V.cells).take (hi * sz)).drop (lo * sz) := by
        rw [flat_drop (fun x hx => hok x (List.mem_of_mem_take hx)), flat_take hok]
       refine .sl (sz := sz) (fun k => u (lo * sz + k)) hlen (by omega) (fun e => by have := hr e; omega) (fun x hx => hok x (List.mem_of_mem_take (List.mem_of_mem_drop hx))) (fun k v hk => ?_) (fun k v hk => ?_)
       · rw [hflat, List.getElem?_drop, List.getElem?_take] at hk
         split at hk
         · have := hc _ v hk
           rwa [show off + (lo * sz + k) = off + lo * sz + k by omega] at this
         · exact absurd hk (by simp)
       · rw [hflat, List.getElem?_drop, List.getElem?_take] at hk
         split at hk
         · exact hu _ v hk
         · exact absurd hk (by simp)
theorem Tok.drop {fam : Nat -> Fam} {nt : Nat} {l : List V} {r : Room} {b off len cap z n : Nat} (h : Tok fam nt (.sl l r) (.slice (some ⟨b, off, none⟩) len cap)) (hlen : len = l.length) (hn : n <= l.length) (hcap : len <= cap)
 (hz : ∀ x ∈ l, x.cells.length = z) (hzp : 0 < z) (hzz : l = [] -> n = 0) :
 Tok fam nt (.sl (l.drop n) r) (.slice (if cap = n then some ⟨b, off, none⟩ else some ⟨b, off + n * z, none⟩) (len - n) (cap - n)) := by
 cases r with
 | tok i sz =>
   obtain ⟨h1, h2, h3, a, len', cap', he, h4⟩ := h
   cases he
   refine ⟨h1, h2, fun x hx => h3 x (List.mem_of_mem_drop hx), _, _, _, rfl, ?_⟩
   rcases h4 with h4 | ⟨off', ho, h5, h6⟩
   · exact .inl (by omega)
   · by_cases hcn : cap = n
     · exact .inl (by omega)
     · right
       cases ho
       by_cases hl : l = []
       · have := hzz hl
         subst this
         rw [if_neg hcn]
         exact ⟨off, by simp, by simpa using h5, by simpa using h6⟩
       · have hsz : sz = z := by
          obtain ⟨x, hx⟩ := List.exists_mem_of_ne_nil l hl
          rw [← h3 x hx, hz x hx]
         subst hsz
         rw [if_neg hcn]
         refine ⟨off + n * sz, rfl, ?_, ?_⟩
         · rw [← h5, Nat.sub_mul]
           have : n * sz <= len * sz := Nat.mul_le_mul_right _ (by omega)
           omega
         · rw [show cap - n - (len - n) = cap - len by omega]; exact h6
 | _ => trivial
theorem VRel.slo_cut {bs : Nat -> Nat} {I : Nat -> Nat -> Prop} {n : Nat} {o z lo len cap : Nat} {ad : Option Addr} (h : VRel bs I w n (.slo o z lo len cap) (.slice ad len cap)) {l m p : Nat} (h1 : l <= m) (h2 : m <= p) (h3 : p <= cap) :
 VRel bs I w n (.slo o z (lo + l) (m - l) (p - l)) (.slice (if p = l then ad else ad.map (·.add (l * z))) (m - l) (p - l)) := by
 cases h with | slo hlt hl ha hf =>
 have hf' : Plain (if p = l then ad else ad.map (·.add (l * z))) := by
  split
  · exact hf
  · rcases hf with rfl | ⟨b, k, rfl⟩
    · exact .inl rfl
    · exact .inr ⟨b, k + l * z, by rw [Option.map_some, Addr.add_mid]⟩
 by_cases hp : p = l
 · exact .slo hlt (by omega) (.inl (by omega)) hf'
 · rw [if_neg hp] at hf' ⊢
   obtain rfl := ha.resolve_left (by omega)
   refine .slo hlt (by omega) (.inr ?_) hf'
   rw [Option.map_some, Addr.add_mid, Nat.add_mul]
theorem bounds_max {P : Program} {isSlice : Bool} {len cap : Nat} {lo : Option Operand} {n m p : Int} {k k' : IntKind} (h : IsLow a lo n) (h0 : 0 <= n) (h1 : n <= m) (h2 : m <= p) (h3 : p <= cap) :
 (Instr.sliceBounds isSlice len cap (lo.map a.eval) (some (.int k m)) (some (.int k' p))).run P w = .ok (n.toNat, m.toNat, p.toNat) w := by
 have e1 : (p.toNat : Int) = p := Int.toNat_of_nonneg (by omega)
 have e2 : (m.toNat : Int) = m := Int.toNat_of_nonneg (by omega)
 cases lo with
 | none => cases h; simp [Instr.sliceBounds, run_sliceBound w k' p cap _ (by omega) h3, run_sliceBound w k m p.toNat _ (by omega) (by omega)]
 | some y =>
   obtain ⟨k'', hk⟩ := h
   simp [Instr.sliceBounds, hk, run_sliceBound w k' p cap _ (by omega) h3, run_sliceBound w k m p.toNat _ (by omega) (by omega), run_sliceBound w k'' n m.toNat _ h0 (by omega)]
theorem run_slice_sl3 {P : Program} {T e : TypeId} {inf : TypeInfo} {ad : Option Addr} {len cap : Nat} {lo : Option Operand} {hi mx : Option Value} {n m p : Nat} (hu : P.underlying T = some (.slice e)) (hi' : P.info? e = some inf)
 (h : (Instr.sliceBounds true len cap (lo.map a.eval) hi mx).run P w = .ok (n, m, p) w) :
 (Instr.sliceAt T (.slice ad len cap) (lo.map a.eval) hi mx).run P w = .ok (.slice (if p = n then ad else ad.map (·.add (n * inf.size))) (m - n) (p - n)) w := by
 simp [Instr.sliceAt, Instr.slice, run_underlying hu, h, run_size hi']
theorem sound_slice3 {T : TypeId} {x : Operand} {lo : Option Operand} {hi mx : Operand} (ho : o.op = .slice T x lo (some hi) (some mx)) (H : Nexts c a o.dst K KP next Q) (hs : Sim c g w a ⟨t, ob, nt, df⟩)
 (h0 : ev t x fun x => lowK t lo fun l => ev t hi fun h => ev t mx fun m => match x, h, m, S.P.underlying T with
 | .sl xs _, .int _ h, .int _ m, some (.slice e) => szK S.P e fun z => 0 <= l /\ l <= h /\ h = m /\ h <= xs.length /\ (∀ x ∈ xs, x.cells.length = z) /\ K (.sl ((xs.take h.toNat).drop l.toNat) .ex) ⟨t, ob, nt, df⟩
 | .slo o z a n c, .int _ h, .int _ m, some (.slice e) => szK S.P e fun z' => (match Nat.beq z z' with
   | true => 0 <= l /\ l <= h /\ h <= m /\ m <= c /\ K (.slo o z (a + l.toNat) (h.toNat - l.toNat) (m.toNat - l.toNat)) ⟨t, ob, nt, df⟩
   | false => False)
 | _, _, _, _ => False) : o.wp S.P a w next Q := by
 obtain ⟨p, hp, hk1⟩ := ev_sound hs.ti h0
 obtain ⟨l, hlow, hk2⟩ := lowK_sound hs.ti hk1
 obtain ⟨vh, hvh, hk3⟩ := ev_sound hs.ti hk2
 obtain ⟨vm, hvm, hk⟩ := ev_sound hs.ti hk3
 clear hk1 hk2 hk3 h0
 have hr := hp.rel
 have hrh := hvh.rel
 have hrm := hvm.rel
 split at hk
 · rename_i xs r k h k' m e hu
   obtain ⟨inf, hinf, hpos, h1, h2, h3, h4, hz, hfin⟩ := szK_iff hk
   clear hk
   subst h3
   generalize hx : a.eval x = ex at hr
   generalize hy : a.eval hi = ey at hrh
   generalize hm : a.eval mx = em at hrm
   cases hrh; cases hrm
   cases hr with
   | slnil =>
     simp at h4
     have e1 : h = 0 := by omega
     have e2 : l = 0 := by omega
     subst e1; subst e2
     refine H.same hs (x := .slice none 0 0) ?_ (.of (by simpa using (VRel.slnil (n := ob.length) (r := .ex))) rfl) hfin
     simp only [execOp, ho, hx, Sem.run_bind, Option.map_some, hy, hm, run_slice_sl3 hu hinf (bounds_max (len := 0) (cap := 0) hlow h1 h2 (Int.le_refl _) (by simp)), Result.andThen_ok]
     rfl
   | @sl _ _ _ b off len cap sz u hl hcap hr0 hok hc hu' =>
     have hrun := run_slice_sl3 (ad := some ⟨b, off, none⟩) hu hinf (bounds_max (P := S.P) (w := w) (isSlice := true) (len := len) (cap := cap) (k := k) (k' := k') hlow h1 h2 (Int.le_refl _) (by omega))
     have htk : VRel g.bs g.I w ob.length (.sl (xs.take h.toNat) .ex) (.slice (some ⟨b, off, none⟩) h.toNat h.toNat) := by
      have hfl : ∀ (k : Nat) v, ((xs.take h.toNat).flatMap V.cells)[k]? = some v -> (xs.flatMap V.cells)[k]? = some v := fun k v hv => by
       rw [flat_take hok, List.getElem?_take] at hv
       split at hv
       · exact hv
       · cases hv
      refine .sl u (by simp; omega) (Nat.le_refl _) (fun _ => rfl) (fun x hx => hok x (List.mem_of_mem_take hx)) (fun k v hv => hc k v (hfl k v hv)) fun k v hv => hu' k v (hfl k v hv)
     have hcut := htk.cut (r' := .ex) (lo := l.toNat) (hi := h.toNat) (fun x hx => hz x (List.mem_of_mem_take hx)) (by omega) (by simp; omega) (fun _ => rfl)
     rw [List.take_take, Nat.min_self] at hcut
     refine H.same hs (x := .slice (if h.toNat = l.toNat then some ⟨b, off, none⟩ else some ⟨b, off + l.toNat * inf.size, none⟩) (h.toNat - l.toNat) (h.toNat - l.toNat)) ?_ (.of hcut rfl) hfin
     simp only [execOp, ho, hx, Sem.run_bind, Option.map_some, hy, hm, hrun, Result.andThen_ok]
     simp only [Option.map_some, Addr.add_mid]
     rfl
 · rename_i o1 z a0 n c0 k h k' m e hu
   obtain ⟨inf, hinf, hpos, hk⟩ := szK_iff hk
   split at hk
   case h_2 => exact hk.elim
   rename_i hz
   have hz := Nat.eq_of_beq_eq_true hz
   obtain ⟨h1, h2, h3, h4, hk⟩ := hk
   generalize hx : a.eval x = ex at hr
   generalize hy : a.eval hi = ey at hrh
   generalize hm : a.eval mx = em at hrm
   cases hrh; cases hrm
   have hex : ∃ ad, ex = .slice ad n c0 := by cases hr; exact ⟨_, rfl⟩
   obtain ⟨ad, rfl⟩ := hex
   have hrun := run_slice_sl3 (ad := ad) hu hinf (bounds_max (P := S.P) (w := w) (isSlice := true) (len := n) (cap := c0) (k := k) (k' := k') hlow h1 h2 h3 h4)
   have hcut := hr.slo_cut (l := l.toNat) (m := h.toNat) (p := m.toNat) (by omega) (by omega) (by omega)
   rw [hz] at hcut hk
   refine H.same hs ?_ (.of hcut rfl) hk
   simp only [execOp, ho, hx, Sem.run_bind, Option.map_some, hy, hm, hrun, Result.andThen_ok]
   rfl
 · exact hk.elim
theorem sound_sliceF {T : TypeId} {x : Operand} {lo hi : Option Operand} (ho : o.op = .slice T x lo hi none) (H : Nexts c a o.dst K KP next Q) (hs : Sim c g w a ⟨t, ob, nt, df⟩)
 (h : ev t x fun x => lowK t lo fun l => match x with
 | .str b => match S.P.underlying T with
   | some .string => (match (generalizing := false) hi with
     | none => 0 <= l /\ l <= b.size /\ K (.str (b.extract l.toNat b.size)) ⟨t, ob, nt, df⟩
     | some y => ev t y fun y => match y with
       | .int _ h => 0 <= l /\ l <= h /\ h <= b.size /\ K (.str (b.extract l.toNat h.toNat)) ⟨t, ob, nt, df⟩
       | _ => False)
   | _ => False
 | .sl xs r => match S.P.underlying T with
   | some (.slice e) => szK S.P e fun z => (match (generalizing := false) hi with
     | none => 0 <= l /\ l <= xs.length /\ (∀ x ∈ xs, x.cells.length = z) /\ K (.sl (xs.drop l.toNat) r) ⟨t, ob, nt, df⟩
     | some y => ev t y fun y => match y with
       | .int _ h => 0 <= l /\ l <= h /\ h <= xs.length /\ (∀ x ∈ xs, x.cells.length = z) /\ K (.sl ((xs.take h.toNat).drop l.toNat) .no) ⟨t, ob, nt, df⟩
       | _ => False)
   | _ => False
 | .spare xs sp => match S.P.underlying T with
   | some (.slice e) => szK S.P e fun z => (match (generalizing := false) hi with
     | none => False
     | some y => ev t y fun y => match y with
       | .int _ h => 0 <= l /\ l <= h /\ h <= xs.length + sp.length /\ (∀ x ∈ xs ++ sp, x.cells.length = z) /\ K (.sl (((xs ++ sp).take h.toNat).drop l.toNat) .no) ⟨t, ob, nt, df⟩
       | _ => False)
   | _ => False
 | .slo o z a n c => match S.P.underlying T with
   | some (.slice e) => szK S.P e fun z' => (match (generalizing := false) Nat.beq z z', hi with
     | true, none => 0 <= l /\ l <= n /\ K (.slo o z (a + l.toNat) (n - l.toNat) (c - l.toNat)) ⟨t, ob, nt, df⟩
     | true, some y => ev t y fun y => match y with
       | .int _ h => 0 <= l /\ l <= h /\ h <= c /\ K (.slo o z (a + l.toNat) (h.toNat - l.toNat) (c - l.toNat)) ⟨t, ob, nt, df⟩
       | _ => False
     | _, _ => False)
   | _ => False
 | _ => False) : o.wp S.P a w next Q := by
 obtain ⟨p, hp, hk0⟩ := ev_sound hs.ti h
 obtain ⟨l, hlow, hk⟩ := lowK_sound hs.ti hk0
 clear hk0 h
 have hr := hp.rel
 split at hk
 · -- a text
   rename_i b
   split at hk
   case h_2 => exact hk.elim
   rename_i hu
   generalize hx : a.eval x = e at hr
   cases hr
   cases hi with
   | none =>
     obtain ⟨h1, h2, hk⟩ := hk
     refine H.same hs (x := .string (b.extract l.toNat b.size)) ?_ (.of .str rfl) hk
     simp only [execOp, ho, hx, Sem.run_bind, Option.map_none, run_slice_str hu (bounds_to hlow h1 h2), Result.andThen_ok]
     rfl
   | some y =>
     obtain ⟨v, hv, hk⟩ := ev_sound hs.ti hk
     cases v <;> try exact hk.elim
     rename_i k m
     have hry := hv.rel
     generalize hy : a.eval y = ey at hry
     cases hry
     obtain ⟨h1, h2, h3, hk⟩ := hk
     refine H.same hs (x := .string (b.extract l.toNat m.toNat)) ?_ (.of .str rfl) hk
     simp only [execOp, ho, hx, Sem.run_bind, Option.map_none, Option.map_some, hy, run_slice_str hu (bounds_in hlow h1 h2 h3), Result.andThen_ok]
     rfl
 · -- a slice
   rename_i xs r
   split at hk
   case h_2 => exact hk.elim
   rename_i e hu
   obtain ⟨inf, hinf, hpos, hk⟩ := szK_iff hk
   cases hi with
   | none =>
     obtain ⟨h1, h2, hz, hk⟩ := hk
     have htok := hp.tok
     generalize hx : a.eval x = ex at hr htok
     cases hr with
     | slnil =>
       simp at h2
       have hl0 : l = 0 := by omega
       subst hl0
       refine H.same hs (x := .slice none 0 0) ?_ ⟨by simpa using (VRel.slnil (n := ob.length) (r := r)), ?_⟩ hk
       · simp only [execOp, ho, hx, Sem.run_bind, Option.map_none, run_slice_sl hu hinf (bounds_to (len := 0) (cap := 0) hlow h1 (by simp)), Result.andThen_ok]
         rfl
       · simpa using htok
     | @sl _ _ _ b off len cap sz u hl hcap hr0 hok hc hu' =>
       have hrun := run_slice_sl (ad := some ⟨b, off, none⟩) hu hinf (bounds_to (P := S.P) (w := w) (isSlice := true) (len := len) (cap := cap) hlow h1 (by omega))
       have hcut := (VRel.sl (n := ob.length) u hl hcap hr0 hok hc hu').cut (r' := r) (lo := l.toNat) (hi := xs.length) hz (by omega) (Nat.le_refl _) (fun e => by rw [hr0 e, hl])
       rw [List.take_length] at hcut
       rw [← hl] at hcut
       refine H.same hs (x := .slice (if cap = l.toNat then some ⟨b, off, none⟩ else some ⟨b, off + l.toNat * inf.size, none⟩) (len - l.toNat) (cap - l.toNat)) ?_ ⟨hcut, htok.drop hl (by omega) hcap hz hpos (fun e => by subst e; simp at h2; omega)⟩ hk
       simp only [execOp, ho, hx, Sem.run_bind, Option.map_none, hrun, Result.andThen_ok]
       simp only [Option.map_some, Addr.add_mid]
       rfl
   | some y =>
     obtain ⟨v, hv, hk⟩ := ev_sound hs.ti hk
     cases v <;> try exact hk.elim
     rename_i k m
     have hry := hv.rel
     generalize hy : a.eval y = ey at hry
     cases hry
     obtain ⟨h1, h2, h3, hz, hk⟩ := hk
     generalize hx : a.eval x = ex at hr
     cases hr with
     | slnil =>
       simp at h3
       have hl0 : l = 0 := by omega
       have hm0 : m = 0 := by omega
       subst hl0; subst hm0
       refine H.same hs (x := .slice none 0 0) ?_ (.of (by simpa using (VRel.slnil (n := ob.length) (r := .no))) rfl) hk
       simp only [execOp, ho, hx, Sem.run_bind, Option.map_none, Option.map_some, hy, run_slice_sl hu hinf (bounds_in (len := 0) (cap := 0) hlow h1 h2 (by simp)), Result.andThen_ok]
       rfl
     | @sl _ _ _ b off len cap sz u hl hcap hr0 hok hc hu' =>
       have hrun := run_slice_sl (ad := some ⟨b, off, none⟩) hu hinf (bounds_in (P := S.P) (w := w) (isSlice := true) (len := len) (cap := cap) (k := k) hlow h1 h2 (by omega))
       have hcut := (VRel.sl (n := ob.length) u hl hcap hr0 hok hc hu').cut (r' := .no) (lo := l.toNat) (hi := m.toNat) hz (by omega) (by omega) (by simp)
       refine H.same hs (x := .slice (if cap = l.toNat then some ⟨b, off, none⟩ else some ⟨b, off + l.toNat * inf.size, none⟩) (m.toNat - l.toNat) (cap - l.toNat)) ?_ (.of hcut rfl) hk
       simp only [execOp, ho, hx, Sem.run_bind, Option.map_none, Option.map_some, hy, hrun, Result.andThen_ok]
       simp only [Option.map_some, Addr.add_mid]
       rfl
 · -- room that is known
   rename_i xs sp
   split at hk
   case h_2 => exact hk.elim
   rename_i e hu
   obtain ⟨inf, hinf, hpos, hk⟩ := szK_iff hk
   cases hi with
   | none => exact hk.elim
   | some y =>
     obtain ⟨v, hv, hk⟩ := ev_sound hs.ti hk
     cases v <;> try exact hk.elim
     rename_i k m
     have hry := hv.rel
     generalize hy : a.eval y = ey at hry
     cases hry
     obtain ⟨h1, h2, h3, hz, hk⟩ := hk
     generalize hx : a.eval x = ex at hr
     cases hr with
     | @spare _ _ _ b off len cap sz u hl hcap hok hc hu' =>
       have hrun := run_slice_sl (ad := some ⟨b, off, none⟩) hu hinf (bounds_in (P := S.P) (w := w) (isSlice := true) (len := len) (cap := cap) (k := k) hlow h1 h2 (by omega))
       have hfull : VRel g.bs g.I w ob.length (.sl (xs ++ sp) .no) (.slice (some ⟨b, off, none⟩) (xs.length + sp.length) cap) := .sl u (by simp) (by omega) (by simp) hok hc hu'
       have hcut := hfull.cut (r' := .no) (lo := l.toNat) (hi := m.toNat) hz (by omega) (by simp; omega) (by simp)
       refine H.same hs (x := .slice (if cap = l.toNat then some ⟨b, off, none⟩ else some ⟨b, off + l.toNat * inf.size, none⟩) (m.toNat - l.toNat) (cap - l.toNat)) ?_ (.of hcut rfl) hk
       simp only [execOp, ho, hx, Sem.run_bind, Option.map_none, Option.map_some, hy, hrun, Result.andThen_ok]
       simp only [Option.map_some, Addr.add_mid]
       rfl
 · -- a row that is written
   rename_i o1 z a0 n c0
   split at hk
   case h_2 => exact hk.elim
   rename_i e hu
   obtain ⟨inf, hinf, hpos, hk⟩ := szK_iff hk
   generalize hx : a.eval x = ex at hr
   have hex : ∃ ad, ex = .slice ad n c0 := by cases hr; exact ⟨_, rfl⟩
   obtain ⟨ad, rfl⟩ := hex
   have hcn : n <= c0 := by cases hr; assumption
   cases hzb : Nat.beq z inf.size with
   | false => rw [hzb] at hk; cases hi <;> exact hk.elim
   | true =>
     rw [hzb] at hk
     have hz := Nat.eq_of_beq_eq_true hzb
     cases hi with
     | none =>
       obtain ⟨h1, h2, hk⟩ := hk
       have hrun := run_slice_sl (ad := ad) hu hinf (bounds_to (P := S.P) (w := w) (isSlice := true) (len := n) (cap := c0) hlow h1 h2)
       have hcut := hr.slo_cut (l := l.toNat) (m := n) (p := c0) (by omega) hcn (Nat.le_refl _)
       rw [hz] at hcut hk
       refine H.same hs ?_ (.of hcut rfl) hk
       simp only [execOp, ho, hx, Sem.run_bind, Option.map_none, hrun, Result.andThen_ok]
       rfl
     | some y =>
       obtain ⟨v, hv, hk⟩ := ev_sound hs.ti hk
       cases v <;> try exact hk.elim
       rename_i k m
       have hry := hv.rel
       generalize hy : a.eval y = ey at hry
       cases hry
       obtain ⟨h1, h2, h3, hk⟩ := hk
       have hrun := run_slice_sl (ad := ad) hu hinf (bounds_in (P := S.P) (w := w) (isSlice := true) (len := n) (cap := c0) (k := k) hlow h1 h2 h3)
       have hcut := hr.slo_cut (l := l.toNat) (m := m.toNat) (p := c0) (by omega) (by omega) (Nat.le_refl _)
       rw [hz] at hcut hk
       refine H.same hs ?_ (.of hcut rfl) hk
       simp only [execOp, ho, hx, Sem.run_bind, Option.map_none, Option.map_some, hy, hrun, Result.andThen_ok]
       rfl
 · exact hk.elim
theorem sound_sliceP {T : TypeId} {x : Operand} (ho : o.op = .slice T x none none none) (H : Nexts c a o.dst K KP next Q) (hs : Sim c g w a ⟨t, ob, nt, df⟩) {i n : Nat} {e : TypeId}
 (hp : VT g w ob.length nt (.ptr i 0) (a.eval x)) (hu : S.P.underlying T = some (.array n e))
 (hk : getK ob i fun o1 => match o1 with
   | .cells _ U cs => match cs.length == n && szOf S.P e == 1 && cs.all (fun c => match c with | .int _ _ => true | _ => false) with
     | true => setK ob i (.cells false U cs) fun objs => K (.sl cs .ex) ⟨t, objs, nt, df⟩
     | false => False
   | _ => False) : o.wp S.P a w next Q := by
 have hr := hp.rel
 obtain ⟨x1, h1, hk⟩ := getK_iff hk
 obtain ⟨wr, U, cs, rfl⟩ : ∃ wr U cs, x1 = .cells wr U cs := by
  cases x1 with
  | cells wr U cs => exact ⟨_, _, _, rfl⟩
  | _ => exact hk.elim
 simp only at hk
 split at hk
 case h_2 => exact hk.elim
 rename_i hck
 simp only [Bool.and_eq_true, beq_iff_eq] at hck
 obtain ⟨⟨hn, hsz⟩, hints⟩ := hck
 obtain ⟨hlt, hk⟩ := setK_iff hk
 obtain ⟨inf, hinf, hsz'⟩ := szOf_pos (n := 0) hsz
 obtain ⟨arr, g1, g2, g3⟩ := obj_cells hs.wi h1
 generalize hx : a.eval x = ex at hr
 cases hr with | ptr hlt' =>
 unfold Oper.wp
 have hrun : (execOp a.eval o).run S.P w = .ok (.value (.slice (some ⟨g.bs i, 0, none⟩) n n)) w := by
  simp only [execOp, ho, hx, Sem.run_bind, Instr.sliceAt, run_underlying hu, Result.andThen_ok, Instr.sureAddr, Option.map_none, Instr.sliceBounds, run_size hinf]
  simp [Addr.add]
 rw [hrun]
 have he := Ext.freeze hs.wi (g.bs i) cs.length
 have hw := WInv.freeze (x' := .cells false U cs) hs.wi h1 rfl cs.length (he.orel (x := .cells false U cs) (b := g.bs i) ⟨arr, g1, g2, g3⟩ rfl) (fun _ => rfl) (by simp) rfl
 have hcell : ∀ x ∈ cs, x.cells = [x] /\ x.okCell = true := fun x hx => by
  have := List.all_eq_true.1 hints x hx
  cases x <;> simp_all [V.cells, V.okCell]
 have hflat : ∀ l : List V, (∀ x ∈ l, x.cells = [x] /\ x.okCell = true) -> l.flatMap V.cells = l := fun l => by
  induction l with
  | nil => simp
  | cons y r ih => intro h; rw [List.flatMap_cons, ih fun x hx => h x (by simp [hx]), (h y (by simp)).1]; rfl
 refine H.val (.sl cs .ex) _ ⟨t, ob.set i (.cells false U cs), nt, df⟩ _ _ a hk ⟨hw, by simpa using he.tinv hs.ti, by simpa using he.drel hs.di⟩ rfl (.of ?_ rfl)
 refine .sl (sz := 1) (fun k => arr.getD k undef) hn.symm (Nat.le_refl _) (fun _ => rfl) (fun x hx => ?_) (fun k v hk => ?_) (fun k v hk => ?_)
 · rw [(hcell x hx).1]; simp [(hcell x hx).2]
 · rw [hflat cs hcell] at hk
   have hlt : k < arr.size := by rw [← g2]; exact (List.getElem?_eq_some_iff.1 hk).1
   refine ⟨?_, .inr ⟨rfl, by rw [g2]; omega⟩⟩
   simp [World.cell?, g1, Array.getD, hlt]
 · rw [hflat cs hcell] at hk
   have hlt : k < arr.size := by rw [← g2]; exact (List.getElem?_eq_some_iff.1 hk).1
   have hv := (he.vt (g3 k v arr[k] hk (by simp [hlt])).1).rel
   have hi := List.all_eq_true.1 hints v (List.mem_of_getElem? hk)
   have : arr.getD k undef = arr[k] := by simp [Array.getD, hlt]
   rw [this]
   exact hv.low (by cases v <;> simp_all [V.low])
theorem bytesV_get {s : ByteArray} {k : Nat} {v : V} (h : (bytesV s)[k]? = some v) : ∃ (hk : k < s.size), v = .int .u8 (s.data[k]'hk).toNat := by
 unfold bytesV at h
 rw [List.getElem?_map] at h
 obtain ⟨x, hx, rfl⟩ := Option.map_eq_some_iff.1 h
 rw [Array.getElem?_toList] at hx
 obtain ⟨hk, hx⟩ := Array.getElem?_eq_some_iff.1 hx
 exact ⟨hk, by rw [hx]⟩
theorem bytesV_cells (s : ByteArray) : (bytesV s).flatMap V.cells = bytesV s := by
 unfold bytesV
 generalize s.data.toList = l
 induction l with
 | nil => rfl
 | cons x r ih => rw [List.map_cons, List.flatMap_cons, ih]; rfl
theorem bytesV_ok (s : ByteArray) : ∀ x ∈ bytesV s, x.cells.length = 1 /\ x.cells.all V.okCell = true := by
 intro x hx
 obtain ⟨y, _, rfl⟩ := List.mem_map.1 hx
 exact ⟨rfl, rfl⟩
theorem bytesV_length (s : ByteArray) : (bytesV s).length = s.size := by unfold bytesV; rw [List.length_map]; rfl
theorem bytes_of {bs : Nat -> Nat} {I : Nat -> Nat -> Prop} {n : Nat} {s : ByteArray} {r : Room} {x : Value} (h : VRel bs I w n (.sl (bytesV s) r) x) :
 (x = .slice none 0 0 /\ s.size = 0) \/ ∃ b off cap, x = .slice (some ⟨b, off, none⟩) s.size cap /\ ∀ j (hj : j < s.size), w.cell? ⟨b, off + j, none⟩ = some (.int .u8 (s.data[j]'hj).toNat) := by
 generalize hl : bytesV s = l at h
 cases h with
 | slnil => exact .inl ⟨rfl, by rw [← bytesV_length, hl]; rfl⟩
 | @sl _ _ _ b off len cap sz u hlen hcap hr hz hc hu =>
   subst hl
   rw [bytesV_cells] at hc hu
   rw [bytesV_length] at hlen
   subst hlen
   refine .inr ⟨b, off, cap, rfl, fun j hj => ?_⟩
   have hj' : j < (bytesV s).length := by rw [bytesV_length]; exact hj
   have hg := List.getElem?_eq_getElem hj'
   obtain ⟨h1, _⟩ := hc j _ hg
   have h2 := hu j _ hg
   obtain ⟨_, e⟩ := bytesV_get hg
   rw [e] at h2
   rw [h1]
   generalize u j = y at h2
   cases h2; rfl
theorem sound_convertV {A B : TypeId} {x : Operand} (ho : o.op = .convert A B x) (H : Nexts c a o.dst K KP next Q) (hs : Sim c g w a ⟨t, ob, nt, df⟩) {p : V} (hp : VT g w ob.length nt p (a.eval x))
 (hk : convK S.P A B p fun v => K v ⟨t, ob, nt, df⟩) : o.wp S.P a w next Q := by
 have hr := hp.rel
 unfold convK at hk
 split at hk
 · rename_i hA hB
   generalize hx : a.eval x = e at hr
   cases hr
   refine H.same hs (x := .int _ (IntKind.wrap _ _)) ?_ (.of .int rfl) hk
   simp [execOp, ho, hx, convert, run_underlying hA, run_underlying hB, Conv.intToInt]
 · rename_i hA hB
   generalize hx : a.eval x = e at hr
   cases hr
   refine H.same hs (x := .string _) ?_ (.of .str rfl) hk
   simp [execOp, ho, hx, convert, run_underlying hA, run_underlying hB]
 · rename_i e s hA hB
   split at hk
   case h_2 => exact hk.elim
   rename_i he
   generalize hx : a.eval x = ex at hr
   cases hr
   have hrun := run_bytes_of_string (P := S.P) w A B e s hA hB he
   unfold Oper.wp
   have he' : (execOp a.eval o).run S.P w = .ok (.value (.slice (some ⟨w.heap.size, 0, none⟩) s.size (grownCap w s.size 0 e)))
    (w.drew.alloc (.cells (bytesRow s (grownCap w s.size 0 e)) e ((bytesRow s (grownCap w s.size 0 e)).size, (bytesRow s (grownCap w s.size 0 e)).size + 1))) := by
    simp only [execOp, ho, hx, Sem.run_bind, hrun, Result.andThen_ok]
    rfl
   rw [he']
   have hw1 := hs.wi.drew
   have e1 := Ext.drew g w ob.length nt
   have hw2 := WInv.data hw1 (.cells (bytesRow s (grownCap w s.size 0 e)) e ((bytesRow s (grownCap w s.size 0 e)).size, (bytesRow s (grownCap w s.size 0 e)).size + 1)) s.size
   have e2 := Ext.data hw1 (.cells (bytesRow s (grownCap w s.size 0 e)) e ((bytesRow s (grownCap w s.size 0 e)).size, (bytesRow s (grownCap w s.size 0 e)).size + 1)) s.size
   refine H.val (.sl (bytesV s) .no) _ ⟨t, ob, nt, df⟩ _ _ a hk ⟨hw2, e2.tinv (e1.tinv hs.ti), e2.drel (e1.drel hs.di)⟩ rfl (.of ?_ rfl)
   refine .sl (sz := 1) (fun k => (bytesRow s (grownCap w s.size 0 e)).getD k undef) (bytesV_length s).symm ?_ (by simp) (bytesV_ok s) (fun k v hk => ?_) (fun k v hk => ?_)
   · have : s.size <= grownCap w s.size 0 e := by unfold grownCap Question.cut; simp
     exact this
   · rw [bytesV_cells] at hk
     obtain ⟨hlt, _⟩ := bytesV_get hk
     have hsz : k < (bytesRow s (grownCap w s.size 0 e)).size := by
      unfold bytesRow; rw [Array.size_append, Array.size_map]
      have : k < s.data.size := hlt
      omega
     refine ⟨?_, .inr ⟨rfl, by omega⟩⟩
     rw [Nat.zero_add]
     rw [show w.heap.size = w.drew.heap.size from rfl, World.cell?_alloc_mark]
     simp [Array.getD, hsz]
   · rw [bytesV_cells] at hk
     obtain ⟨hlt, rfl⟩ := bytesV_get hk
     have hlt' : k < s.data.size := hlt
     have : (bytesRow s (grownCap w s.size 0 e)).getD k undef = .int .u8 (s.data[k]).toNat := by
      unfold bytesRow
      have h1 : k < (s.data.map (fun b : UInt8 => Value.int .u8 b.toNat) ++ Array.replicate (grownCap w s.size 0 e - s.size) (Value.int .u8 0)).size := by
       rw [Array.size_append, Array.size_map]; omega
      rw [Array.getD, dif_pos h1, Array.getInternal_eq_getElem, Array.getElem_append_left (by rw [Array.size_map]; exact hlt'), Array.getElem_map]
     rw [this]
     exact .int
 · rename_i e l r hA hB
   split at hk
   case h_2 => exact hk.elim
   rename_i he
   obtain ⟨s, rfl, hk⟩ := hk
   have hrun : (convert A B (a.eval x)).run S.P w = .ok (.string s) w := by
    rcases bytes_of hr with ⟨hx, h0⟩ | ⟨b, off, cap, hx, hc⟩
    · rw [hx, run_convert_bytes_nil w A e hA he 0 0 B hB]
      have : s = ByteArray.empty := by
       obtain ⟨d⟩ := s
       have : d = #[] := Array.eq_empty_of_size_eq_zero h0
       subst this; rfl
      rw [this]
    · rw [hx]
      have := run_convert_bytes_back (P := S.P) w A B e ⟨b, off, none⟩ cap s.data.toList hA he hB (fun j hj => by
       rw [Addr.add_mid]
       rw [hc j (by rw [Array.length_toList] at hj; exact hj)]
       simp)
      rw [Array.length_toList] at this
      exact this
   refine H.same hs (x := .string s) ?_ (.of .str rfl) hk
   simp only [execOp, ho, Sem.run_bind, hrun, Result.andThen_ok]
   rfl
 · exact hk.elim
theorem sound_typeAssert {T U : TypeId} {x : Operand} {ok : Bool} (ho : o.op = .typeAssert x U T ok) (H : Nexts c a o.dst K KP next Q) (hs : Sim c g w a ⟨t, ob, nt, df⟩)
 (h : ev t x fun x => match S.P.underlying T with
 | some (.interface _) => False
 | some _ => assertK S.P T ok x fun v => K v ⟨t, ob, nt, df⟩
 | none => False) : o.wp S.P a w next Q := by
 obtain ⟨p, hp, hk0⟩ := ev_sound hs.ti h
 clear h
 have hr := hp.rel
 obtain ⟨d, hu, hd, hk⟩ : ∃ d, S.P.underlying T = some d /\ (∀ ms, d ≠ .interface ms) /\ assertK S.P T ok p fun v => K v ⟨t, ob, nt, df⟩ := by
  cases hu : S.P.underlying T with
  | none => rw [hu] at hk0; exact hk0.elim
  | some d =>
    rw [hu] at hk0
    cases d <;> first | exact hk0.elim | exact ⟨_, rfl, by simp, hk0⟩
 clear hk0
 have hz : ∀ {i : TypeInfo} {z : Value}, S.P.info? T = some i -> i.zero = some z -> (zeroValue T).run S.P w = .ok z w := fun h1 h2 => by simp [zeroValue, typeInfo, h1, h2]
 have htup : ∀ {z : Value} {v : V} {b : Bool}, VRel g.bs g.I w ob.length v z -> VRel g.bs g.I w ob.length (.tup [v, .bool b]) (.tuple #[z, .bool b]) := fun hv => .tup rfl fun k v c h1 h2 => by
  match k with
  | 0 => simp at h1 h2; subst h1; subst h2; exact hv
  | 1 => simp at h1 h2; subst h1; subst h2; exact .bool
  | k + 2 => simp at h1
 unfold assertK at hk
 split at hk
 · rename_i T' v
   generalize hx : a.eval x = e at hr
   cases hr with | @ifc _ _ _ y hy =>
   split at hk
   · rename_i hT
     have hT : T' = T := Nat.eq_of_beq_eq_true hT
     subst hT
     simp only [V.untokK, force_eq] at hk
     cases ok with
     | true =>
       refine H.same hs (x := .tuple #[y, .bool true]) ?_ (.of (htup hy.untok) rfl) hk
       simp only [execOp, ho, hx, Instr.typeAssert, Sem.run_bind, run_underlying hu, Result.andThen_ok]
       cases d <;> simp_all
     | false =>
       refine H.same hs (x := y) ?_ (.of hy.untok (untok_noTok _)) hk
       simp only [execOp, ho, hx, Instr.typeAssert, Sem.run_bind, run_underlying hu, Result.andThen_ok]
       cases d <;> simp_all
   · rename_i hT
     have hT : ¬ T' = T := Nat.ne_of_beq_eq_false hT
     cases ok with
     | false => exact hk.elim
     | true =>
       obtain ⟨i, z, h1, h2, hk⟩ := zeroV_iff hk
       refine H.same hs (x := .tuple #[z, .bool false]) ?_ (.of (htup (ofConstAgg_rel z)) rfl) hk
       simp only [execOp, ho, hx, Instr.typeAssert, Sem.run_bind, run_underlying hu, Result.andThen_ok]
       cases d <;> simp_all
 · generalize hx : a.eval x = e at hr
   cases hr
   cases ok with
   | false => exact hk.elim
   | true =>
     obtain ⟨i, z, h1, h2, hk⟩ := zeroV_iff hk
     refine H.same hs (x := .tuple #[z, .bool false]) ?_ (.of (htup (ofConstAgg_rel z)) rfl) hk
     simp only [execOp, ho, hx, Instr.typeAssert, Sem.run_bind, run_underlying hu, Result.andThen_ok]
     cases d <;> simp_all
 · exact hk.elim
end
end VL

namespace VL
open Go
section
variable {S : Sys} {c : Ctx} {g : G} {w : World} {a : Act} {o : Oper} {K KP : V -> St -> Prop} {next : Act -> World -> Prop} {Q : Exit -> Act -> World -> Prop}
 {t : List V} {ob : List VObj} {nt : Nat} {df : List (Fn × List V × List V)}
theorem partsK_sound {g : G} {n nt : Nat} (h : TInv g w n nt a.tmps t) : ∀ {ps : List (Nat × Operand)} {K : List (Nat × V) -> Prop}, partsK t ps K ->
 ∃ vs : List (Nat × V), vs.length = ps.length /\ (∀ (k : Nat) v x, vs[k]? = some v -> ps[k]? = some x -> v.1 = x.1 /\ VRel g.bs g.I w n v.2 (a.eval x.2) /\ v.2.noTok = true) /\ K vs
 | [], K, hk => ⟨[], rfl, by simp, hk⟩
 | (i, x) :: r, K, hk => by
  obtain ⟨v, h1, h2⟩ := ev_sound h hk
  simp only [V.untokK, force_eq] at h2
  obtain ⟨vs, h3, h4, h5⟩ := partsK_sound h h2
  refine ⟨(i, v.untok) :: vs, by simp [h3], fun k u y hu hy => ?_, h5⟩
  cases k with
  | zero => simp at hu hy; subst hu; subst hy; exact ⟨rfl, h1.rel.untok, untok_noTok v⟩
  | succ k => exact h4 k u y (by simpa using hu) (by simpa using hy)
theorem foldl_set : ∀ (vs : List Value) (j off : Nat) (cs : Array Value), ((vs.zipIdx j).foldl (fun cs (x : Value × Nat) => cs.setIfInBounds (off + x.2) x.1) cs).size = cs.size /\
 ∀ k, ((vs.zipIdx j).foldl (fun cs (x : Value × Nat) => cs.setIfInBounds (off + x.2) x.1) cs)[k]? = if off + j <= k /\ k < off + j + vs.length /\ k < cs.size then vs[k - (off + j)]? else cs[k]?
 | [], j, off, cs => ⟨rfl, fun k => by rw [if_neg (by simp only [List.length_nil]; omega)]; rfl⟩
 | v :: vs, j, off, cs => by
   obtain ⟨h1, h2⟩ := foldl_set vs (j + 1) off (cs.setIfInBounds (off + j) v)
   rw [Array.size_setIfInBounds] at h1 h2
   refine ⟨by rw [List.zipIdx_cons, List.foldl_cons]; exact h1, fun k => ?_⟩
   rw [List.zipIdx_cons, List.foldl_cons, h2 k, List.length_cons]
   by_cases hk : k = off + j
   · subst hk
     rw [if_neg (by omega)]
     rw [Array.getElem?_setIfInBounds]
     by_cases hs : off + j < cs.size
     · rw [if_pos rfl, if_pos hs, if_pos (by omega)]; simp
     · rw [if_pos rfl, if_neg hs, if_neg (by omega)]
       exact (Array.getElem?_eq_none (by omega)).symm
   · rw [Array.getElem?_setIfInBounds, if_neg (Ne.symm hk)]
     by_cases hc : off + (j + 1) <= k /\ k < off + (j + 1) + vs.length /\ k < cs.size
     · rw [if_pos hc, if_pos (by omega)]
       rw [show k - (off + j) = (k - (off + (j + 1))) + 1 by omega, List.getElem?_cons_succ]
     · rw [if_neg hc, if_neg (by omega)]
def CRel (bs : Nat -> Nat) (I : Nat -> Nat -> Prop) (w : World) (n : Nat) (cs : List V) (ca : Array Value) : Prop :=
 cs.length = ca.size /\ ∀ (k : Nat) v c, cs[k]? = some v -> ca[k]? = some c -> VRel bs I w n v c
theorem any_cells {bs : Nat -> Nat} {I : Nat -> Nat -> Prop} {n : Nat} {v : V} {x : Value} (h : VRel bs I w n v x) (hv : v ≠ .undef) : CRel bs I w n v.cells x.cells := by
 cases h with
 | undef => exact absurd rfl hv
 | agg hl hh => exact ⟨hl, hh⟩
 | _ => refine ⟨rfl, fun k u y hu hy => ?_⟩; (cases k <;> simp [V.cells, Value.cells] at hu hy); subst hu; subst hy; constructor <;> assumption
theorem fill_sound {bs : Nat -> Nat} {I : Nat -> Nat -> Prop} {n : Nat} {place : Nat -> Option (Nat × Nat)} : ∀ {ps : List (Nat × V)} {qs : List (Nat × Value)} {cs : List V} {ca : Array Value} {K : List V -> Prop},
 CRel bs I w n cs ca -> ps.length = qs.length -> (∀ (k : Nat) v x, ps[k]? = some v -> qs[k]? = some x -> v.1 = x.1 /\ VRel bs I w n v.2 x.2) -> fillK place cs ps K ->
 ∃ cs' ca', Instr.fill place ca qs = some ca' /\ CRel bs I w n cs' ca' /\ K cs'
 | [], [], cs, ca, K, hc, _, _, hk => ⟨cs, ca, rfl, hc, hk⟩
 | [], _ :: _, _, _, _, _, h, _, _ => by simp at h
 | _ :: _, [], _, _, _, _, h, _, _ => by simp at h
 | (i, v) :: r, (j, x) :: qs, cs, ca, K, hc, hl, hr, hk => by
  obtain ⟨e, hv⟩ := hr 0 _ _ rfl rfl
  simp only at e hv
  subst e
  unfold fillK at hk
  split at hk
  case h_2 => exact hk.elim
  rename_i off size hp
  rw [force_eq] at hk
  split at hk
  case h_2 => exact hk.elim
  rename_i hsz
  simp only [Bool.and_eq_true, beq_iff_eq] at hsz
  obtain ⟨hsz, hok⟩ := hsz
  obtain ⟨hfit, hk⟩ := spliceK_iff hk
  have hvn : v ≠ .undef := by rintro rfl; simp [V.cells, V.okCell] at hok
  obtain ⟨hvl, hvr⟩ := any_cells hv hvn
  have hx : x.cells.size = size := by rw [← hvl, hsz]
  have hcl := hc.1
  unfold Instr.fill
  rw [hp]
  simp only
  rw [if_neg (by simp only [Bool.or_eq_true, decide_eq_true_eq, not_or, ne_eq, Classical.not_not]; omega)]
  have hf := foldl_set x.cells.toList 0 off ca
  have hfold : x.cells.zipIdx.foldl (fun cs (c, j) => cs.setIfInBounds (off + j) c) ca = (x.cells.toList.zipIdx 0).foldl (fun cs (x : Value × Nat) => cs.setIfInBounds (off + x.2) x.1) ca := by
   rw [← Array.foldl_toList, Array.toList_zipIdx]
  rw [hfold]
  refine fill_sound (cs := cs.take off ++ v.cells ++ cs.drop (off + v.cells.length)) ⟨?_, fun k u y hu hy => ?_⟩ (by simpa using hl) (fun k v x h1 h2 => hr (k + 1) v x (by simpa using h1) (by simpa using h2)) hk
  · rw [hf.1]; simp; omega
  · rw [hf.2] at hy
    have hl1 : (cs.take off ++ v.cells).length = off + v.cells.length := by simp; omega
    have hl3 : (cs.take off).length = off := by simp; omega
    rw [List.getElem?_append, hl1] at hu
    rw [Array.length_toList, Nat.add_zero] at hy
    split at hu
    · rename_i hk1
      rw [List.getElem?_append, hl3] at hu
      split at hu
      · rename_i hk2
        rw [if_neg (by omega)] at hy
        rw [List.getElem?_take, if_pos hk2] at hu
        exact hc.2 k u y hu hy
      · rename_i hk2
        rw [if_pos (by omega)] at hy
        exact hvr _ u y hu (by simpa using hy)
    · rename_i hk1
      rw [if_neg (by omega)] at hy
      rw [List.getElem?_drop, show off + v.cells.length + (k - (off + v.cells.length)) = k by omega] at hu
      exact hc.2 k u y hu hy
theorem run_parts {n : Nat} {ps : List (Nat × Operand)} {vs : List (Nat × V)} (hl : vs.length = ps.length)
 (hr : ∀ (k : Nat) v x, vs[k]? = some v -> ps[k]? = some x -> v.1 = x.1 /\ VRel g.bs g.I w n v.2 (a.eval x.2) /\ v.2.noTok = true) :
 ∀ (k : Nat) v x, vs[k]? = some v -> (ps.map fun (i, x) => (i, a.eval x))[k]? = some x -> v.1 = x.1 /\ VRel g.bs g.I w n v.2 x.2 := by
 intro k v x h1 h2
 rw [List.getElem?_map] at h2
 obtain ⟨y, hy, rfl⟩ := Option.map_eq_some_iff.1 h2
 exact ⟨(hr k v y h1 hy).1, (hr k v y h1 hy).2.1⟩
theorem agg_cells {bs : Nat -> Nat} {I : Nat -> Nat -> Prop} {n : Nat} (z : Value) : CRel bs I w n (ofConstAgg z).cells z.cells := by
 have h : VRel bs I w n (ofConstAgg z) z := ofConstAgg_rel z
 have one : (∀ cs, z ≠ .agg cs) -> CRel bs I w n (ofConstAgg z).cells z.cells := fun hv => by
  have e0 : ofConstAgg z = ofConst z := by cases z <;> first | rfl | exact absurd rfl (hv _)
  have e1 : (ofConst z).cells = [ofConst z] := by unfold ofConst; split <;> rfl
  have e2 : z.cells = #[z] := by cases z <;> first | rfl | exact absurd rfl (hv _)
  rw [e0, e1, e2]
  refine ⟨rfl, fun k u y hu hy => ?_⟩
  cases k with
  | zero => simp at hu hy; subst hu; subst hy; exact ofConst_rel z
  | succ k => simp at hu
 cases z with
 | agg cs => cases h with | agg hl hh => exact ⟨hl, hh⟩
 | _ => exact one (by simp)
theorem sound_build {T : TypeId} {parts : Array (Nat × Operand)} (ho : o.op = .build T parts) (H : Nexts c a o.dst K KP next Q) (hs : Sim c g w a ⟨t, ob, nt, df⟩)
 (h : partsK t parts.toList fun ps => buildK S.P T ps fun v => K v ⟨t, ob, nt, df⟩) : o.wp S.P a w next Q := by
 obtain ⟨ps, hl, hr, hk⟩ := partsK_sound hs.ti h
 unfold buildK at hk
 obtain ⟨i, z, hi, hz, hk⟩ := zeroV_iff hk
 have hrp := run_parts hl hr
 have key : ∀ {place : Nat -> Option (Nat × Nat)}, fillK place (ofConstAgg z).cells ps (fun cs => K (.agg cs) ⟨t, ob, nt, df⟩) -> (∀ ca, Instr.fill place z.cells (parts.toList.map fun (i, x) => (i, a.eval x)) = some ca -> S.P.built T (parts.toList.map fun (i, x) => (i, a.eval x)) = some ca) ->
  o.wp S.P a w next Q := fun hk hb => by
  obtain ⟨cs, ca, h1, h2, h3⟩ := fill_sound (agg_cells z) (by simp [hl]) hrp hk
  have hrun := run_build (P := S.P) w T (parts.map fun (i, x) => (i, a.eval x)) ca (by rw [Array.toList_map]; exact hb ca h1)
  refine H.same hs (x := .agg ca) ?_ (.of (.agg h2.1 h2.2) rfl) h3
  simp only [execOp, ho, Sem.run_bind, hrun, Result.andThen_ok]
  rfl
 split at hk
 · rename_i fs hu
   split at hk
   case h_2 => exact hk.elim
   rename_i hall
   have hex : ∃ places : List (Nat × Nat), fs.toList.mapM (fun f : Field => (S.P.info? f.type).map fun i => (f.offset, i.size)) = some places /\ ∀ i : Nat, places[i]? = (fs.toList[i]?).map fun f : Field => (f.offset, szOf S.P f.type) := by
    generalize fs.toList = l at hall
    clear hk hu
    induction l with
    | nil => exact ⟨[], rfl, by simp⟩
    | cons f r ih =>
      simp only [List.all_cons, Bool.and_eq_true] at hall
      obtain ⟨inf, hinf⟩ := Option.isSome_iff_exists.1 hall.1
      obtain ⟨p, hp, hg⟩ := ih hall.2
      refine ⟨(f.offset, inf.size) :: p, ?_, fun i => ?_⟩
      · rw [List.mapM_cons]; simp [hinf, hp]
      · cases i with
        | zero => simp [szOf, hinf]
        | succ i => simpa using hg i
   obtain ⟨places, hp, hg⟩ := hex
   refine key hk fun ca hf => ?_
   unfold Program.built
   rw [hi, hu]
   simp only [hz, hp]
   rw [← hf]
   congr 1
   funext i
   rw [List.getElem?_toArray]
   exact hg i
 · rename_i n e hu
   split at hk
   case h_2 => exact hk.elim
   rename_i he
   obtain ⟨inf, hinf⟩ := Option.isSome_iff_exists.1 he
   refine key hk fun ca hf => ?_
   unfold Program.built
   rw [hi, hu]
   simp only [hz, hinf]
   rw [← hf, szOf_info hinf]
 · exact hk.elim
theorem inOrder_len : ∀ {ps : List (Nat × V)} {i : Nat} {l : List V}, inOrder i ps = some l -> ps.length = l.length
 | [], i, l, h => by simp [inOrder] at h; subst h; rfl
 | (j, v) :: r, i, l, h => by
  simp only [inOrder] at h
  split at h
  · obtain ⟨l', hl', rfl⟩ := Option.map_eq_some_iff.1 h
    simp [inOrder_len hl']
  · cases h
theorem sizesOk_get {n : Nat} : ∀ {l : List V}, sizesOk n l = true -> ∀ x ∈ l, x.cells.length = n /\ x.cells.all V.okCell = true /\ x.tokOk = true
 | [], _, x, hx => by simp at hx
 | v :: r, h, x, hx => by
   simp only [sizesOk, Bool.and_eq_true, beq_iff_eq] at h
   cases hx with
   | head => exact ⟨h.1.1.1, h.1.1.2, h.1.2⟩
   | tail _ hx => exact sizesOk_get h.2 x hx
theorem fill_row {bs : Nat -> Nat} {I : Nat -> Nat -> Prop} {n size : Nat} : ∀ {ps : List (Nat × V)} {qs : List (Nat × Value)} {i : Nat} {l : List V} {ca : Array Value},
 inOrder i ps = some l -> ps.length = qs.length -> (∀ (k : Nat) v x, ps[k]? = some v -> qs[k]? = some x -> v.1 = x.1 /\ VRel bs I w n v.2 x.2) ->
 (∀ x ∈ l, x.cells.length = size /\ x.cells.all V.okCell = true /\ x.tokOk = true) -> (i + ps.length) * size <= ca.size ->
 ∃ ca', Instr.fill (fun i => some (i * size, size)) ca qs = some ca' /\ ca'.size = ca.size /\ (∀ k, k < i * size -> ca'[k]? = ca[k]?) /\ l.length = ps.length /\
  ∀ (k : Nat) v c, (l.flatMap V.cells)[k]? = some v -> ca'[i * size + k]? = some c -> VRel bs I w n v c
 | [], [], i, l, ca, hi, _, _, _, _ => by
   simp [inOrder] at hi; subst hi
   exact ⟨ca, rfl, rfl, fun _ _ => rfl, rfl, by simp⟩
 | [], _ :: _, _, _, _, _, h, _, _, _ => by simp at h
 | _ :: _, [], _, _, _, _, h, _, _, _ => by simp at h
 | (j, v) :: r, (j', x) :: qs, i, l, ca, hi, hl, hr, hz, hfit => by
  obtain ⟨e, hv⟩ := hr 0 _ _ rfl rfl
  simp only at e hv
  subst e
  simp only [inOrder] at hi
  split at hi
  case isFalse => cases hi
  rename_i hij
  subst hij
  obtain ⟨l', hl', rfl⟩ := Option.map_eq_some_iff.1 hi
  obtain ⟨hsz, hok, _⟩ := hz v (by simp)
  have hvn : v ≠ .undef := by rintro rfl; simp [V.cells, V.okCell] at hok
  obtain ⟨hvl, hvr⟩ := any_cells hv hvn
  have hx : x.cells.size = size := by rw [← hvl, hsz]
  simp only [List.length_cons] at hfit hl
  have hmul : (i + (r.length + 1)) * size = i * size + size + r.length * size := by rw [Nat.add_mul, Nat.add_mul]; omega
  have hf := foldl_set x.cells.toList 0 (i * size) ca
  have hfold : x.cells.zipIdx.foldl (fun cs (c, j) => cs.setIfInBounds (i * size + j) c) ca = (x.cells.toList.zipIdx 0).foldl (fun cs (x : Value × Nat) => cs.setIfInBounds (i * size + x.2) x.1) ca := by
   rw [← Array.foldl_toList, Array.toList_zipIdx]
  obtain ⟨ca', h1, h2, h3, h4, h5⟩ := fill_row (qs := qs) (ca := (x.cells.toList.zipIdx 0).foldl (fun cs (x : Value × Nat) => cs.setIfInBounds (i * size + x.2) x.1) ca) hl' (by omega)
   (fun k v x g1 g2 => hr (k + 1) v x (by simpa using g1) (by simpa using g2)) (fun x hx => hz x (by simp [hx])) (by rw [hf.1, Nat.add_mul, Nat.succ_mul]; omega)
  refine ⟨ca', ?_, by rw [h2, hf.1], fun k hk => ?_, by simp [h4], fun k u c hu hc => ?_⟩
  · unfold Instr.fill
    simp only
    rw [if_neg (by simp only [Bool.or_eq_true, decide_eq_true_eq, not_or, ne_eq, Classical.not_not]; omega), hfold]
    exact h1
  · rw [h3 k (by rw [Nat.succ_mul]; omega), hf.2, if_neg (by omega)]
  · rw [List.flatMap_cons, List.getElem?_append, hsz] at hu
    split at hu
    · rename_i hks
      rw [h3 _ (by rw [Nat.succ_mul]; omega), hf.2, Array.length_toList, if_pos (by omega)] at hc
      rw [show i * size + k - (i * size + 0) = k by omega] at hc
      exact hvr k u c hu (by simpa using hc)
    · rename_i hks
      refine h5 (k - size) u c hu ?_
      rwa [Nat.succ_mul, show i * size + size + (k - size) = i * size + k by omega]
theorem sound_buildSlice {T : TypeId} {n : Nat} {parts : Array (Nat × Operand)} (ho : o.op = .buildSlice T n parts) (H : Nexts c a o.dst K KP next Q) (hs : Sim c g w a ⟨t, ob, nt, df⟩)
 (h : partsK t parts.toList fun ps => match inOrder 0 ps with
 | some l => match l.length == n && sizesOk (szOf S.P (elemT S.P T)) l with
   | true => szK S.P (elemT S.P T) fun z => match Nat.blt 16777216 (n * z), (S.P.info? (elemT S.P T)).bind (·.zero) with
     | false, some zv => (match zv.cells.size == z with
       | true => (match S.P.underlying T, S.P.underlying (elemT S.P T) with
         | some (.slice _), some (.func ..) => K (.slp l) ⟨t, ob, nt, df⟩
         | some (.slice _), some (.pointer _) => K (.slp l) ⟨t, ob, nt, df⟩
         | some (.slice _), _ => (match V.lowL 0 l with | true => K (.sl l .ex) ⟨t, ob, nt, df⟩ | false => False)
         | _, _ => False)
       | false => False)
     | _, _ => False
   | false => False
 | none => False) : o.wp S.P a w next Q := by
 obtain ⟨ps, hl, hr, hk⟩ := partsK_sound hs.ti h
 clear h
 split at hk
 case h_2 => exact hk.elim
 rename_i l hio
 split at hk
 case h_2 => exact hk.elim
 rename_i hck
 simp only [Bool.and_eq_true, beq_iff_eq] at hck
 obtain ⟨hln, hsz⟩ := hck
 obtain ⟨inf, hinf, hpos, hk⟩ := szK_iff hk
 split at hk
 case h_2 => exact hk.elim
 rename_i zv hb hzv
 have hb : ¬ 16777216 < n * inf.size := by
  intro e
  have : Nat.blt 16777216 (n * inf.size) = true := by rw [Nat.blt_eq]; exact e
  rw [this] at hb; cases hb
 split at hk
 case h_2 => exact hk.elim
 rename_i hzs
 have hzs : zv.cells.size = inf.size := by simpa using hzs
 rw [szOf_info hinf] at hsz
 have hzz := sizesOk_get hsz
 have hzero : inf.zero = some zv := by simpa [hinf] using hzv
 have main : ∀ {e : TypeId}, S.P.underlying T = some (.slice e) -> ∃ cells : Array Value, (execOp a.eval o).run S.P w = .ok (.value (.slice (some ⟨w.heap.size, 0, none⟩) n n)) (w.alloc (.cells cells e)) /\ cells.size = n * inf.size /\
  (∀ (k : Nat) v c, (l.flatMap V.cells)[k]? = some v -> cells[k]? = some c -> VRel g.bs g.I w ob.length v c) /\ l.length = n := fun {e} hu => by
  have he : elemT S.P T = e := by simp [elemT, hu]
  rw [he] at hinf
  have hpl : ps.length = l.length := inOrder_len hio
  have hbase : ((Array.range (n * inf.size)).map (zv.cells[· % zv.cells.size]!)).size = n * inf.size := by simp
  obtain ⟨ca, h1, h2, h3, h4, h5⟩ := fill_row (w := w) (bs := g.bs) (I := g.I) (n := ob.length) (size := inf.size) (ca := (Array.range (n * inf.size)).map (zv.cells[· % zv.cells.size]!)) hio
   (qs := parts.toList.map fun (i, x) => (i, a.eval x)) (by simp [hl]) (run_parts hl hr) hzz (by rw [hbase, Nat.zero_add, hpl, hln]; exact Nat.le_refl _)
  refine ⟨ca, ?_, by rw [h2, hbase], fun k v c hv hc => h5 k v c hv (by simpa using hc), hln⟩
  simp only [execOp, ho, Instr.buildSlice, Sem.run_bind, run_underlying hu, Result.andThen_ok, run_size hinf]
  rw [if_neg hb]
  by_cases h0 : n * inf.size = 0
  · have hca : ca = #[] := Array.eq_empty_of_size_eq_zero (by rw [h2, hbase, h0])
    rw [h0] at h1
    simp only [h0, if_true, Sem.run_pure, Result.andThen_ok]
    have h1' : Instr.fill (fun i => some (i * inf.size, inf.size)) ((Array.range 0).map fun x => (#[] : Array Value)[x % (#[] : Array Value).size]!) (parts.map fun (i, x) => (i, a.eval x)).toList = some ca := by
     rw [Array.toList_map]
     have e0 : ∀ f : Nat -> Value, (Array.range 0).map f = #[] := fun f => by simp [Array.range]
     rw [e0] at h1 ⊢
     exact h1
    simp only [h1', newRow, Sem.run_bind, run_newObj_alloc, Result.andThen_ok, Sem.run_pure]
  · have hzr : (zeroValue e).run S.P w = .ok zv w := by simp [zeroValue, typeInfo, hinf, hzero]
    have h1' : Instr.fill (fun i => some (i * inf.size, inf.size)) ((Array.range (n * inf.size)).map fun x => zv.cells[x % zv.cells.size]!) (parts.map fun (i, x) => (i, a.eval x)).toList = some ca := by
     rw [Array.toList_map]; exact h1
    simp only [h0, if_false, Sem.run_bind, hzr, Sem.run_pure, Result.andThen_ok, h1', newRow, run_newObj_alloc]
 have fin : ∀ {e : TypeId} {v : V}, S.P.underlying T = some (.slice e) -> (∀ (cells : Array Value), cells.size = n * inf.size -> (∀ (k : Nat) v c, (l.flatMap V.cells)[k]? = some v -> cells[k]? = some c -> VRel g.bs g.I w ob.length v c) -> l.length = n ->
  VRel g.bs (g.data w.heap.size (n * inf.size)).I (w.alloc (.cells cells e)) ob.length v (.slice (some ⟨w.heap.size, 0, none⟩) n n)) -> v.noTok = true -> K v ⟨t, ob, nt, df⟩ -> o.wp S.P a w next Q := fun {e v} hu hv hnt hk => by
  obtain ⟨cells, hrun, h1, h2, h3⟩ := main hu
  unfold Oper.wp
  rw [hrun]
  have hw := WInv.data hs.wi (.cells cells e) (n * inf.size)
  have he := Ext.data hs.wi (.cells cells e) (n * inf.size)
  exact H.val v _ _ _ _ a hk ⟨hw, he.tinv hs.ti, he.drel hs.di⟩ rfl (.of (hv cells h1 h2 h3) hnt)
 have hcell : ∀ (cells : Array Value) (e : TypeId), cells.size = n * inf.size -> l.length = n -> ∀ (k : Nat) v, (l.flatMap V.cells)[k]? = some v ->
  (w.alloc (.cells cells e)).cell? ⟨w.heap.size, 0 + k, none⟩ = some (cells.getD k undef) /\ (g.data w.heap.size (n * inf.size)).I w.heap.size (0 + k) := fun cells e h1 h3 k v hk => by
  have hlt : k < n * inf.size := by
   have := (List.getElem?_eq_some_iff.1 hk).1
   rwa [flat_len (fun x hx => (hzz x hx).1), h3] at this
  rw [Nat.zero_add]
  refine ⟨?_, .inr ⟨rfl, hlt⟩⟩
  rw [World.cell?_alloc_new]
  simp [Array.getD, h1, hlt]
 have hslp : ∀ {e : TypeId}, S.P.underlying T = some (.slice e) -> K (.slp l) ⟨t, ob, nt, df⟩ -> o.wp S.P a w next Q := fun {e} hu hk => by
  refine fin hu (fun cells h1 h2 h3 => ?_) rfl hk
  have he := Ext.data hs.wi (.cells cells e) (n * inf.size)
  refine .slp (sz := inf.size) (fun k => cells.getD k undef) h3.symm (Nat.le_refl _) (fun x hx => ⟨(hzz x hx).1, (hzz x hx).2.1⟩) (hcell cells e h1 h3) (fun k v hk => ?_)
  have hlt : k < cells.size := by
   have := (List.getElem?_eq_some_iff.1 hk).1
   rwa [flat_len (fun x hx => (hzz x hx).1), h3, ← h1] at this
  have : cells.getD k undef = cells[k] := by simp [Array.getD, hlt]
  rw [this]
  exact he.reln (h2 k v _ hk (by simp [hlt]))
 split at hk
 · rename_i hu _; exact hslp hu hk
 · rename_i hu _; exact hslp hu hk
 · rename_i hu _ _
   split at hk
   case h_2 => exact hk.elim
   rename_i hlow
   obtain ⟨e', hu'⟩ : ∃ e', S.P.underlying T = some (.slice e') := ⟨_, hu⟩
   refine fin hu' (fun cells h1 h2 h3 => ?_) rfl hk
   have he := Ext.data hs.wi (.cells cells e') (n * inf.size)
   refine .sl (sz := inf.size) (fun k => cells.getD k undef) h3.symm (Nat.le_refl _) (fun _ => rfl) (fun x hx => ⟨(hzz x hx).1, (hzz x hx).2.1⟩) (hcell cells e' h1 h3) (fun k v hk => ?_)
   have hlt : k < cells.size := by
    have := (List.getElem?_eq_some_iff.1 hk).1
    rwa [flat_len (fun x hx => (hzz x hx).1), h3, ← h1] at this
   have : cells.getD k undef = cells[k] := by simp [Array.getD, hlt]
   rw [this]
   exact (he.reln (h2 k v _ hk (by simp [hlt]))).low (flat_low hlow hk)
 · exact hk.elim
end
end VL

namespace VL
open Go
section
variable {P : Program} {w : World}
theorem srcOk_cases {ts : Array TypeId} (h : srcOk P ts = true) : ts[1]? = none \/ ∃ u d, ts[1]? = some u /\ P.underlying u = some d /\ ∀ k, d ≠ .int k := by
 unfold srcOk at h
 split at h
 · exact .inl (by assumption)
 · rename_i u e
   split at h
   · cases h
   · rename_i d h1 h2
     exact .inr ⟨u, _, e, h2, fun k hk => h1 k (by rw [hk])⟩
   · cases h
theorem append_one {ts : Array TypeId} {T ty : TypeId} {args : Array Value} (h0 : ts[0]? = some T) (hs : srcOk P ts = true) :
 (Builtin.append_ ts ty args).run P w = (Builtin.append_ #[T] ty args).run P w := by
 rcases srcOk_cases hs with h2 | ⟨u, d, h2, hu2, hd⟩
 · unfold Builtin.append_
   rw [h0, h2]
   rfl
 · have hm : ∀ w', (Go.underlying u).run P w' = .ok d w' := fun w' => run_underlying hu2 w'
   unfold Builtin.append_
   rw [h0, h2]
   have e1 : (#[T] : Array TypeId)[0]? = some T := rfl
   have e2 : (#[T] : Array TypeId)[1]? = none := rfl
   rw [e1, e2]
   cases args[0]? with
   | none => rfl
   | some s =>
     cases args[1]? with
     | none => rfl
     | some x =>
       simp only [Sem.run_bind]
       congr 1
       funext el w1
       cases el <;> first | rfl | skip
       cases s <;> first | rfl | skip
       all_goals simp only [Sem.run_bind]
       all_goals congr 1
       all_goals funext sz w2
       all_goals simp only [Sem.run_bind, hm, Result.andThen_ok, Sem.run_pure]
       all_goals (cases d <;> first | rfl | exact absurd rfl (hd _))
theorem run_append_room' {ts : Array TypeId} {T e ty : TypeId} {inf : TypeInfo} (h0 : ts[0]? = some T) (hs : srcOk P ts = true) (hu : P.underlying T = some (.slice e)) (hi : P.info? e = some inf) {b off len cap m : Nat} {x : Value}
 (hlen : (Builtin.lenOf x).run P w = .ok m w) {news : List Value} (hf : (Builtin.firstCells inf.size m x).run P w = .ok news.toArray w) (hfit : len + m <= cap) {arr : Array Value} {U : TypeId} (hh : w.heap[b]? = some (.cells arr U (0, 0)))
 (hl : off + len * inf.size + news.length <= arr.size) (h1 : ∀ y ∈ news, y.oneCell' = true) :
 (Builtin.append_ ts ty #[.slice (some ⟨b, off, none⟩) len cap, x]).run P w =
   .ok (.slice (some ⟨b, off, none⟩) (len + m) cap) (w.setRow b (arr.toList.take (off + len * inf.size) ++ news ++ arr.toList.drop (off + len * inf.size + news.length)).toArray) := by
 have hst := run_storeCells_at (P := P) b (off + len * inf.size) U news 0 arr w hh (by simpa using hl) h1
 simp only [Nat.add_zero] at hst
 have hsz : (Go.sizeOf e).run P w = .ok inf.size w := run_size hi
 rw [append_one h0 hs]
 simp [Builtin.append_, run_underlying hu, hsz, hlen, hfit, hf, Addr.add_mid, hst]
theorem run_append_grow' {ts : Array TypeId} {T e ty : TypeId} {inf : TypeInfo} {z : Value} (h0 : ts[0]? = some T) (hs : srcOk P ts = true) (hu : P.underlying T = some (.slice e)) (hi : P.info? e = some inf) (hz : inf.zero = some z)
 {base : Option Addr} {len cap m : Nat} {x : Value} (hlen : (Builtin.lenOf x).run P w = .ok m w) {olds news : List Value} (ho : (Builtin.firstCells inf.size len (.slice base len cap)).run P w.drew = .ok olds.toArray w.drew)
 (hf : (Builtin.firstCells inf.size m x).run P w.drew = .ok news.toArray w.drew) (hgrow : cap < len + m) (h63 : ((len + m : Nat) : Int) <= 9223372036854775807) (hfit : (len + m) * inf.bytes <= 140737488355328) :
 (Builtin.append_ ts ty #[.slice base len cap, x]).run P w = .ok (.slice (some ⟨w.heap.size, 0, none⟩) (len + m) (grownCap w (len + m) cap e))
   (w.drew.alloc (.cells (olds.toArray ++ news.toArray ++ Builtin.zeroCells z.cells (grownCap w (len + m) cap e - (len + m))) e)) := by
 have hsz : (Go.sizeOf e).run P w = .ok inf.size w := run_size hi
 have hn : ¬ (len + m <= cap) := by omega
 have h63' : ¬ (9223372036854775807 < ((len : Int) + (m : Int))) := by omega
 have h48 := growslice_fits (bytes := inf.bytes) hgrow hfit
 have h48' : ¬ (281474976710656 < Builtin.nextslicecap (len + m) cap * inf.bytes) := by omega
 rw [append_one h0 hs]
 simp [Builtin.append_, run_underlying hu, hsz, typeInfo, zeroValue, hi, hz, hlen, hn, h63', h48', Question.forced, hf, ho, newRow, grownCap]
 congr 2
 apply Array.ext'
 simp [List.append_assoc]
end
end VL

namespace VL
open Go
section
variable {P : Program} {c : Ctx} {g : G} {w : World} {a : Act} {t : List V} {ob : List VObj} {nt : Nat} {df : List (Fn × List V × List V)}
theorem TInv.claim {n i : Nat} {tm : Array Value} (h : TInv g w n nt tm t) (hf : ∀ v ∈ t, V.free i v) (f : Fam) : TInv (g.claim i f) w n nt tm t :=
 ⟨h.size, fun k v x hv hx => (h.rel k v x hv hx).claim (hf v (List.mem_of_getElem? hv)) f, h.gl⟩
theorem DRel.same {g' : G} {n : Nat} {ds : List Deferred} (h : DRel g w n ds df) (h1 : g'.bs = g.bs) (h2 : g'.I = g.I) : DRel g' w n ds df := by
 induction h with
 | nil => exact .nil
 | cons h _ ih =>
   obtain ⟨cap, a1, a2, a3, a4, a5⟩ := h
   exact .cons ⟨cap, a1, a2, a3, fun k v c hv hc => by rw [h1, h2]; exact a4 k v c hv hc, fun k v c hv hc => by rw [h1, h2]; exact a5 k v c hv hc⟩ ih
structure Src (P : Program) (g : G) (w : World) (z : Nat) (x : Value) (m : List V) (news : List Value) : Prop where
 len : ∀ w', (Builtin.lenOf x).run P w' = .ok m.length w'
 first : ∀ w' : World, w'.heap = w.heap -> ∀ k, k <= m.length -> (Builtin.firstCells z k x).run P w' = .ok (news.take (k * z)).toArray w'
 size : news.length = m.length * z
 one : ∀ y ∈ news, y.oneCell' = true
 rel : ∀ (k : Nat) v y, (m.flatMap V.cells)[k]? = some v -> news[k]? = some y -> VRel g.bs g.I w 0 v y
 ok : ∀ x ∈ m, x.cells.length = z /\ x.cells.all V.okCell = true
theorem Src.cells {P : Program} {g : G} {w : World} {z : Nat} {x : Value} {m : List V} {news : List Value} (h : Src P g w z x m news) (w' : World) (hw' : w'.heap = w.heap) : (Builtin.firstCells z m.length x).run P w' = .ok news.toArray w' := by
 have := h.first w' hw' m.length (Nat.le_refl _)
 rwa [← h.size, List.take_length] at this
theorem src_slice {n z : Nat} {m : List V} {r : Room} {x : Value} (h : VRel g.bs g.I w n (.sl m r) x) (hz : ∀ y ∈ m, y.cells.length = z) : ∃ news, Src P g w z x m news := by
 cases h with
 | slnil => exact ⟨[], fun _ => rfl, fun w' _ k hk => by simp [Builtin.firstCells], by simp, by simp, by simp, by simp⟩
 | @sl _ _ _ b off len cap sz u hl hcap hr hok hc hu =>
   have hlen := flat_len hz
   have hflat : ∀ k, k < (m.flatMap V.cells).length -> ∃ v, (m.flatMap V.cells)[k]? = some v := fun k hk => ⟨_, List.getElem?_eq_getElem hk⟩
   refine ⟨(List.range (m.length * z)).map u, fun w' => by simp [Builtin.lenOf, hl], fun w' hw' k hk => ?_, by simp, fun y hy => ?_, fun k v y hv hy => ?_, fun x hx => ⟨hz x hx, (hok x hx).2⟩⟩
   · refine run_firstCells_some (P := P) w' z k ⟨b, off, none⟩ len cap _ (by simp [List.length_take]; first | exact Nat.min_eq_left (Nat.mul_le_mul_right z hk) | rw [Nat.min_eq_left hk]) fun j v hj => ?_
     rw [List.getElem?_take] at hj
     split at hj
     case isFalse => cases hj
     rename_i hjk
     have hlt : j < m.length * z := Nat.lt_of_lt_of_le hjk (Nat.mul_le_mul_right z hk)
     obtain ⟨v', hv'⟩ := hflat j (by rw [hlen]; exact hlt)
     rw [List.getElem?_map, List.getElem?_range hlt] at hj
     cases hj
     rw [Addr.add_mid]
     have := (hc j v' hv').1
     simpa [World.cell?, hw'] using this
   · obtain ⟨k, hk, rfl⟩ := List.mem_map.1 hy
     have hlt : k < m.length * z := by simpa using hk
     obtain ⟨v', hv'⟩ := hflat k (by rw [hlen]; exact hlt)
     obtain ⟨x', hx', hvx⟩ := List.mem_flatMap.1 (List.mem_of_getElem? hv')
     exact (hu k v' hv').oneCell (List.all_eq_true.1 (hok x' hx').2 v' hvx)
   · have hlt : k < m.length * z := by have := (List.getElem?_eq_some_iff.1 hy).1; simpa using this
     rw [List.getElem?_map, List.getElem?_range hlt] at hy
     cases hy
     exact hu k v hv
theorem src_string (s : ByteArray) : ∃ news, Src P g w 1 (.string s) (bytesV s) news := by
 refine ⟨Lib.strCells s, fun w' => by rw [bytesV_length]; rfl, fun w' _ k hk => ?_, ?_, Lib.strCells_oneCell s, fun k v y hv hy => ?_, bytesV_ok s⟩
 · rw [bytesV_length] at hk
   show Result.ok ((s.extract 0 k).data.map fun b => Value.int .u8 b.toNat) w' = _
   congr 1
   apply Array.ext'
   simp only [Array.toList_map, Nat.mul_one, Lib.strCells, List.take_toArray, List.map_take]
   rw [← List.map_take]
   congr 1
   rw [ByteArray.data_extract]; simp
 · rw [bytesV_length, Nat.mul_one]; exact Lib.strCells_length s
 · rw [bytesV_cells] at hv
   obtain ⟨hlt, rfl⟩ := bytesV_get hv
   unfold Lib.strCells at hy
   rw [List.getElem?_map] at hy
   obtain ⟨b, hb, rfl⟩ := Option.map_eq_some_iff.1 hy
   rw [Array.getElem?_toList] at hb
   obtain ⟨_, hb⟩ := Array.getElem?_eq_some_iff.1 hb
   rw [← hb]
   exact .int
theorem run_append_zero {ts : Array TypeId} {T e ty : TypeId} {inf : TypeInfo} (h0 : ts[0]? = some T) (hs : srcOk P ts = true) (hu : P.underlying T = some (.slice e)) (hi : P.info? e = some inf) {base : Option Addr} {len cap : Nat} {x : Value}
 (hlen : (Builtin.lenOf x).run P w = .ok 0 w) (hf : (Builtin.firstCells inf.size 0 x).run P w = .ok #[] w) (hfit : len <= cap) :
 (Builtin.append_ ts ty #[.slice base len cap, x]).run P w = .ok (.slice base len cap) w := by
 have hsz : (Go.sizeOf e).run P w = .ok inf.size w := run_size hi
 rw [append_one h0 hs]
 cases base <;> simp [Builtin.append_, run_underlying hu, hsz, hlen, hf, hfit, storeCells]
theorem append_tok {ts : Array TypeId} {T e ty : TypeId} {inf : TypeInfo} {zv : Value} (h0 : ts[0]? = some T) (hso : srcOk P ts = true) (hu : P.underlying T = some (.slice e)) (hi : P.info? e = some inf) (hz : inf.zero = some zv) (hzs : zv.cells.size = inf.size)
 (hpos : 0 < inf.size) (hby : 0 < inf.bytes) (hs : Sim c g w a ⟨t, ob, nt, df⟩) {i : Nat} (hnt : i < nt) (hft : ∀ v ∈ t, V.free i v) (hfo : freeO i ob) {l m : List V} {base : Option Addr} {len cap : Nat} {x : Value} {news : List Value}
 (hl : VRel g.bs g.I w ob.length (.sl l .no) (.slice base len cap)) (hlz : ∀ y ∈ l, y.cells.length = inf.size)
 (hroom : cap = len \/ ∃ off, base = some ⟨(g.fam i).blk, off, none⟩ /\ off + len * inf.size = (g.fam i).st /\ (cap - len) * inf.size <= (g.fam i).n)
 (hsrc : Src P g w inf.size x m news) (hfit : (l.length + m.length) * inf.bytes <= 140737488355328) :
 ∃ x' w' g', (Builtin.append_ ts ty #[.slice base len cap, x]).run P w = .ok x' w' /\ Sim c g' w' a ⟨t, ob, nt, df⟩ /\ VT g' w' ob.length nt (.sl (l ++ m) (.tok i inf.size)) x' := by
 have hlen : len = l.length := by cases hl <;> first | rfl | assumption
 have hcap : len <= cap := by cases hl <;> first | exact Nat.le_refl _ | assumption
 have hallz : ∀ y ∈ l ++ m, y.cells.length = inf.size := fun y hy => by
  rcases List.mem_append.1 hy with h | h
  · exact hlz y h
  · exact (hsrc.ok y h).1
 have hall : ∀ y ∈ l ++ m, y.cells.length = inf.size /\ y.cells.all V.okCell = true := fun y hy => by
  rcases List.mem_append.1 hy with h | h
  · cases hl with
    | slnil => simp at h
    | sl u _ _ _ hok _ _ => exact ⟨hlz y h, (hok y h).2⟩
  · exact hsrc.ok y h
 have hfl : (l.flatMap V.cells).length = len * inf.size := by rw [flat_len hlz, hlen]
 by_cases hm : m = []
 · -- nothing is appended
   subst hm
   have hf0 : (Builtin.firstCells inf.size 0 x).run P w = .ok #[] w := by
    have := hsrc.cells w rfl
    have hn : news = [] := List.eq_nil_of_length_eq_zero (by rw [hsrc.size]; simp)
    rw [hn] at this; exact this
   refine ⟨_, w, g, run_append_zero h0 hso hu hi (hsrc.len w) hf0 hcap, hs, ⟨?_, ?_⟩⟩
   · rw [List.append_nil]; exact hl.room _ (by simp)
   · rw [List.append_nil]
     exact ⟨hnt, hpos, hlz, _, _, _, rfl, hroom⟩
 · have hmpos : 0 < m.length := List.length_pos_iff.2 hm
   have hneed : len + m.length <= 140737488355328 := by
    rw [hlen]
    exact Nat.le_trans (Nat.le_mul_of_pos_right _ hby) hfit
   by_cases hgrow : cap < len + m.length
   · -- a new row
     have hold : ∃ olds : List Value, olds.length = len * inf.size /\ (Builtin.firstCells inf.size len (.slice base len cap)).run P w.drew = .ok olds.toArray w.drew /\
      ∀ (k : Nat) v y, (l.flatMap V.cells)[k]? = some v -> olds[k]? = some y -> VRel g.bs g.I w 0 v y := by
      obtain ⟨olds, ho⟩ := src_slice (P := P) hl hlz
      refine ⟨olds, by rw [ho.size, hlen], ?_, ho.rel⟩
      have := ho.cells w.drew rfl
      rwa [← hlen] at this
     obtain ⟨olds, ho1, ho2, ho3⟩ := hold
     have hrun := run_append_grow' (ty := ty) h0 hso hu hi hz (hsrc.len w) ho2 (hsrc.cells w.drew rfl) hgrow (by omega) (by rw [hlen]; exact hfit)
     generalize hnc : grownCap w (len + m.length) cap e = nc at hrun
     have hncge : len + m.length <= nc := by rw [← hnc]; exact grownCap_ge w _ _ e
     generalize hrow : olds.toArray ++ news.toArray ++ Builtin.zeroCells zv.cells (nc - (len + m.length)) = row at hrun
     have hrowsz : row.size = nc * inf.size := by
      rw [← hrow]
      simp only [Array.size_append, List.size_toArray, ho1, hsrc.size, size_zeroCells, hzs]
      rw [← Nat.add_mul, ← Nat.add_mul]; congr 1; omega
     have hw1 := hs.wi.drew
     have e1 := Ext.drew g w ob.length nt
     have hw2 := WInv.data hw1 (.cells row e) ((len + m.length) * inf.size)
     have e2 := Ext.data hw1 (.cells row e) ((len + m.length) * inf.size)
     have ht2 := e2.tinv (e1.tinv hs.ti)
     have hd2 := e2.drel (e1.drel hs.di)
     have hblk : w.drew.heap.size = w.heap.size := rfl
     have hw3 := hw2.claim (i := i) hfo ⟨w.heap.size, (len + m.length) * inf.size, (nc - (len + m.length)) * inf.size⟩ (fun _ => by
      refine ⟨.inl hs.wi.size, ⟨row, e, heap_alloc_new w.drew _, ?_⟩, ?_, ?_, ?_⟩
      · rw [hrowsz]; simp only; rw [← Nat.add_mul]; exact Nat.mul_le_mul_right _ (by omega)
      · rintro k hk (hI | ⟨_, hlt⟩)
        · exact hw1.gN _ _ (Nat.le_refl _) hI
        · simp only at hk; omega
      · intro o y hy hne e'
        have := hs.wi.lt o y hy hne
        have e'' : g.bs o = w.heap.size := e'
        omega
      · intro j hj hji hn e'
        obtain ⟨_, ⟨arr, U, hh, _⟩, _, _⟩ := hs.wi.f1 j hj hn
        have e'' : (g.fam j).blk = w.heap.size := e'
        rw [e'', Array.getElem?_eq_none (Nat.le_refl _)] at hh
        cases hh)
     refine ⟨_, _, _, hrun, ⟨hw3, ht2.claim hft _, hd2.same rfl rfl⟩, ⟨?_, ?_⟩⟩
     · have hflen : ((l ++ m).flatMap V.cells).length = (len + m.length) * inf.size := by rw [flat_len hallz, List.length_append, hlen]
       refine .sl (sz := inf.size) (fun k => row.getD k undef) (by rw [List.length_append, hlen]) hncge (by simp) hall (fun k v hk => ?_) (fun k v hk => ?_)
       · have hlt : k < (len + m.length) * inf.size := by rw [← hflen]; exact (List.getElem?_eq_some_iff.1 hk).1
         have hlt2 : k < row.size := by rw [hrowsz]; exact Nat.lt_of_lt_of_le hlt (Nat.mul_le_mul_right _ hncge)
         rw [Nat.zero_add]
         refine ⟨?_, .inr ⟨rfl, hlt⟩⟩
         rw [show w.heap.size = w.drew.heap.size from rfl, World.cell?_alloc_new]
         simp [Array.getD, hlt2]
       · have hlt : k < (len + m.length) * inf.size := by rw [← hflen]; exact (List.getElem?_eq_some_iff.1 hk).1
         have hlt2 : k < row.size := by rw [hrowsz]; exact Nat.lt_of_lt_of_le hlt (Nat.mul_le_mul_right _ hncge)
         have hget : ∃ y, row[k]? = some y /\ VRel g.bs g.I w 0 v y := by
          rw [List.flatMap_append, List.getElem?_append, hfl] at hk
          rw [← hrow, Array.getElem?_append]
          have hs1 : (olds.toArray ++ news.toArray).size = (len + m.length) * inf.size := by simp [ho1, hsrc.size, Nat.add_mul]
          rw [hs1, if_pos hlt, Array.getElem?_append]
          have hs2 : olds.toArray.size = len * inf.size := by simp [ho1]
          rw [hs2]
          split at hk
          · rename_i hk1
            rw [if_pos hk1]
            have : k < olds.length := by rw [ho1]; exact hk1
            exact ⟨olds[k], by simp [this], ho3 k v _ hk (by simp [this])⟩
          · rename_i hk1
            rw [if_neg hk1]
            have : k - len * inf.size < news.length := by rw [hsrc.size]; rw [Nat.add_mul] at hlt; omega
            exact ⟨news[k - len * inf.size], by simp [this], hsrc.rel _ v _ hk (by simp [this])⟩
         obtain ⟨y, hy, hvr⟩ := hget
         have : row.getD k undef = y := by simp only [Array.getD]; rw [dif_pos hlt2]; exact (Array.getElem?_eq_some_iff.1 hy).2
         rw [this]
         exact e2.rel0 (e1.rel0 hvr)
     · refine ⟨hnt, hpos, hallz, _, _, _, rfl, .inr ⟨0, ?_, ?_, ?_⟩⟩
       · simp [G.claim]
       · simp [G.claim]
       · simp [G.claim]
   · -- in the room
     have hcl : ¬ cap = len := by omega
     obtain ⟨off, hb, hst, hn⟩ := hroom.resolve_left hcl
     subst hb
     have hcapm : m.length <= cap - len := by omega
     have hnm : m.length * inf.size <= (g.fam i).n := Nat.le_trans (Nat.mul_le_mul_right _ hcapm) hn
     have hnpos : 0 < (g.fam i).n := Nat.lt_of_lt_of_le (Nat.mul_pos hmpos hpos) hnm
     obtain ⟨f1, ⟨arr, U, f2, f3⟩, f4, f5⟩ := hs.wi.f1 i hnt hnpos
     have hrun := run_append_room' (ty := ty) h0 hso hu hi (hsrc.len w) (hsrc.cells w rfl) (by omega : len + m.length <= cap) f2 (by rw [hst, hsrc.size]; omega) hsrc.one
     generalize hrow : (arr.toList.take (off + len * inf.size) ++ news ++ arr.toList.drop (off + len * inf.size + news.length)).toArray = row at hrun
     have hrsz : row.size = arr.size := by
      rw [← hrow]; simp; rw [hst, hsrc.size]; omega
     have hrow1 : ∀ k, k < (g.fam i).st -> row[k]? = arr[k]? := fun k hk => by
      rw [← hrow, List.getElem?_toArray, List.append_assoc, List.getElem?_append_left (by simp; omega), List.getElem?_take, if_pos (by omega)]; simp
     have hrow2 : ∀ k, k < news.length -> row[(g.fam i).st + k]? = news[k]? := fun k hk => by
      rw [← hrow, List.getElem?_toArray, List.append_assoc, List.getElem?_append_right (by simp; omega)]
      have : (arr.toList.take (off + len * inf.size)).length = (g.fam i).st := by simp; omega
      rw [this, List.getElem?_append_left (by omega)]
      congr 1; omega
     have hw1 := hs.wi.claim (i := i) hfo ⟨0, 0, 0⟩ (fun h => absurd h (by simp))
     have ht1 := hs.ti.claim hft ⟨0, 0, 0⟩
     have hd1 : DRel (g.claim i ⟨0, 0, 0⟩) w ob.length a.defers df := hs.di.same rfl rfl
     have hff : ∀ j, j < nt -> 0 < ((g.claim i ⟨0, 0, 0⟩).fam j).n -> ((g.claim i ⟨0, 0, 0⟩).fam j).blk ≠ (g.fam i).blk := fun j hj hnj => by
      by_cases e' : j = i
      · subst e'; simp [G.claim] at hnj
      · simp only [G.claim, if_neg e'] at hnj ⊢
        exact hs.wi.f2 j i hj hnt e' hnj hnpos
     have hw2 := hw1.fill (e := (g.fam i).st + m.length * inf.size) arr row U f2 f4 hrow1 f1 f5 hff
     have e2 := Ext.fill (e := (g.fam i).st + m.length * inf.size) hw1 arr row U f2 f4 hrow1
     have ht2 := e2.tinv ht1
     have hd2 := e2.drel hd1
     have hw3 := hw2.claim (i := i) hfo ⟨(g.fam i).blk, (g.fam i).st + m.length * inf.size, (g.fam i).n - m.length * inf.size⟩ (fun hp => by
      refine ⟨f1, ⟨row, U, setRow_heap _ _ _ _ _ _ f2, ?_⟩, ?_, f5, fun j hj hji hnj => hff j hj hnj⟩
      · simp only at hp ⊢; rw [hrsz]; omega
      · rintro k hk (hI | ⟨_, _, hlt⟩)
        · exact f4 k (by simp only at hk; omega) hI
        · simp only at hk; omega)
     refine ⟨_, _, _, hrun, ⟨hw3, ht2.claim hft _, hd2.same rfl rfl⟩, ⟨?_, ?_⟩⟩
     · have hflen : ((l ++ m).flatMap V.cells).length = (len + m.length) * inf.size := by rw [flat_len hallz, List.length_append, hlen]
       have hl2 := (hl.mono (bs' := g.bs) (I' := ((g.claim i ⟨0, 0, 0⟩).part (g.fam i).blk (g.fam i).st ((g.fam i).st + m.length * inf.size)).I) (w' := w.setRow (g.fam i).blk row) (n' := ob.length) (fun o ho => ⟨ho, rfl⟩) e2.hI)
       cases hl2 with
       | @sl _ _ _ _ _ _ _ sz u h1 h2 h3 h4 h5 h6 =>
         refine .sl (sz := inf.size) (fun k => if k < len * inf.size then u k else news.getD (k - len * inf.size) undef) (by rw [List.length_append, hlen]) (by omega) (by simp) hall (fun k v hk => ?_) (fun k v hk => ?_)
         · have hlt : k < (len + m.length) * inf.size := by rw [← hflen]; exact (List.getElem?_eq_some_iff.1 hk).1
           rw [List.flatMap_append, List.getElem?_append, hfl] at hk
           split at hk
           · rename_i hk1
             simp only [if_pos hk1]
             exact h5 k v hk
           · rename_i hk1
             simp only [if_neg hk1]
             have hlt2 : k - len * inf.size < news.length := by rw [hsrc.size]; rw [Nat.add_mul] at hlt; omega
             refine ⟨?_, .inr ⟨rfl, by omega, by rw [Nat.add_mul] at hlt; omega⟩⟩
             rw [cell_setRow_same _ _ _ _ _ _ _ f2, show off + k = (g.fam i).st + (k - len * inf.size) by omega, hrow2 _ hlt2]
             simp [hlt2]
         · have hlt : k < (len + m.length) * inf.size := by rw [← hflen]; exact (List.getElem?_eq_some_iff.1 hk).1
           rw [List.flatMap_append, List.getElem?_append, hfl] at hk
           split at hk
           · rename_i hk1
             simp only [if_pos hk1]
             exact h6 k v hk
           · rename_i hk1
             simp only [if_neg hk1]
             have hlt2 : k - len * inf.size < news.length := by rw [hsrc.size]; rw [Nat.add_mul] at hlt; omega
             have hg : news.getD (k - len * inf.size) undef = news[k - len * inf.size] := by simp [hlt2]
             rw [hg]
             exact e2.rel0 (hsrc.rel _ v _ hk (by simp [hlt2]))
     · refine ⟨hnt, hpos, hallz, _, _, _, rfl, .inr ⟨off, ?_, ?_, ?_⟩⟩
       · simp [G.claim]
       · simp only [G.claim, if_true]; rw [Nat.add_mul]; omega
       · simp only [G.claim, if_true]
         rw [show cap - (len + m.length) = cap - len - m.length by omega, Nat.sub_mul]
         omega
end
end VL

