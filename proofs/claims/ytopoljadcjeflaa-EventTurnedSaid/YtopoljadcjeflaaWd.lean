/- Part Wd of the proof: VLDraw1 VLDraw2 VLDraw3 VLDraw4 VLSound3 VLSel VLFun VLLoop VLFrz VLLend. -/
import Derived.Test.YtopoljadcjeflaaWc
namespace VL
open Go
set_option linter.unusedVariables false
set_option linter.unusedSimpArgs false

def Det {α : Type} (F : (α → Prop) → Prop) : Prop := ∀ K, F K → ∃ v, K v ∧ ∀ K' : α → Prop, K' v → F K'

theorem Det.bind {α β : Type} {F : (α → Prop) → Prop} {G : α → (β → Prop) → Prop} (hF : Det F) (hG : ∀ a, Det (G a)) : Det fun K => F fun a => G a K := fun K h => by
  obtain ⟨a, h1, h2⟩ := hF _ h
  obtain ⟨b, h3, h4⟩ := hG a _ h1
  exact ⟨b, h3, fun K' h => h2 _ (h4 K' h)⟩

theorem Det.ret {α : Type} (v : α) : Det fun K : α → Prop => K v := fun K h => ⟨v, h, fun _ h => h⟩
theorem Det.no {α : Type} : Det fun _ : α → Prop => False := fun _ h => h.elim
theorem Det.and {α : Type} {A : Prop} {F : (α → Prop) → Prop} (h : A → Det F) : Det fun K => A ∧ F K := fun K ⟨ha, hk⟩ => by
  obtain ⟨v, h1, h2⟩ := h ha K hk
  exact ⟨v, h1, fun K' h => ⟨ha, h2 K' h⟩⟩
theorem Det.ex {α β : Type} {F : β → (α → Prop) → Prop} (h : ∀ b, Det (F b)) : Det fun K => ∃ b, F b K := fun K ⟨b, hk⟩ => by
  obtain ⟨v, h1, h2⟩ := h b K hk
  exact ⟨v, h1, fun K' h => ⟨b, h2 K' h⟩⟩
theorem Det.bif {α : Type} {b : Bool} {F G : (α → Prop) → Prop} (hF : Det F) (hG : Det G) : Det fun K => @Bool.rec (fun _ => Prop) (G K) (F K) b := by
  cases b
  · exact hG
  · exact hF
theorem Det.ite {α : Type} {p : Prop} [Decidable p] {F G : (α → Prop) → Prop} (hF : Det F) (hG : Det G) : Det fun K => if p then F K else G K := fun K h => by
  split at h
  · rename_i hp
    obtain ⟨v, h1, h2⟩ := hF K h
    exact ⟨v, h1, fun K' h => by simp only [if_pos hp]; exact h2 K' h⟩
  · rename_i hp
    obtain ⟨v, h1, h2⟩ := hG K h
    exact ⟨v, h1, fun K' h => by simp only [if_neg hp]; exact h2 K' h⟩

theorem det_force (v : V) : Det v.force := by cases v <;> exact .ret _

theorem det_natK (n : Nat) : Det (natK n) := by cases n <;> exact .ret _

theorem det_listK : ∀ l : List Nat, Det (listK l)
  | [] => .ret _
  | i :: r => show Det fun K => natK i fun i => listK r fun r => K (i :: r) from Det.bind (det_natK i) fun i => Det.bind (det_listK r) fun r => .ret (i :: r)

theorem det_renP (f : Nat → Nat) (v : V) : Det (renP f v) := fun K h => by
  unfold renP at h ⊢
  split at h
  · exact (Det.bind (det_natK _) fun o => .ret _) K h
  · exact (Det.bind (det_natK _) fun o => .ret _) K h
  · exact (Det.bind (det_natK _) fun o => .ret _) K h
  · exact (Det.bind (det_natK _) fun o => .ret _) K h
  · split at h
    · exact ⟨_, h, fun _ h => h⟩
    · exact ⟨_, h, fun _ h => h⟩

theorem det_getK {α : Type} : ∀ (l : List α) (i : Nat), Det (getK l i)
  | [], _ => .no
  | x :: _, 0 => .ret x
  | _ :: r, n + 1 => det_getK r n

theorem det_setK {α : Type} : ∀ (l : List α) (i : Nat) (v : α), Det (setK l i v)
  | [], _, _ => .no
  | x :: r, 0, v => .ret (v :: r)
  | x :: r, n + 1, v => show Det fun K => setK r n v fun r' => K (x :: r') from Det.bind (det_setK r n v) fun r' => .ret (x :: r')

theorem det_dropK {α : Type} : ∀ (l : List α) (i : Nat), Det (dropK l i)
  | l, 0 => by cases l <;> exact .ret _
  | [], _ + 1 => .no
  | _ :: r, n + 1 => det_dropK r n

theorem det_takeK {α : Type} : ∀ (l : List α) (i : Nat), Det (takeK l i)
  | l, 0 => by cases l <;> exact .ret _
  | [], _ + 1 => .no
  | x :: r, n + 1 => show Det fun K => takeK r n fun l => K (x :: l) from Det.bind (det_takeK r n) fun l => .ret (x :: l)

theorem det_spliceK {α : Type} : ∀ (l : List α) (n : Nat) (vs : List α), Det (spliceK l n vs)
  | l, 0, [] => by cases l <;> exact .ret _
  | [], 0, _ :: _ => .no
  | _ :: r, 0, v :: vs => show Det fun K => spliceK r 0 vs fun l => K (v :: l) from Det.bind (det_spliceK r 0 vs) fun l => .ret (v :: l)
  | [], _ + 1, _ => .no
  | x :: r, n + 1, vs => show Det fun K => spliceK r n vs fun l => K (x :: l) from Det.bind (det_spliceK r n vs) fun l => .ret (x :: l)

theorem det_mapK {α β : Type} {f : α → (β → Prop) → Prop} (hf : ∀ x, Det (f x)) : ∀ l : List α, Det (mapK f l)
  | [] => .ret _
  | x :: r => show Det fun K => f x fun y => mapK f r fun ys => K (y :: ys) from Det.bind (hf x) fun y => Det.bind (det_mapK hf r) fun ys => .ret (y :: ys)

theorem det_untok (v : V) : Det v.untokK := show Det fun K => v.force fun v => v.untok.force K from Det.bind (det_force v) fun v => det_force _

theorem det_snocK {α : Type} : ∀ (l : List α) (v : α), Det fun K : (Nat × List α) → Prop => snocK l v fun n l => K (n, l)
  | [], v => .ret (0, [v])
  | x :: r, v => fun K h => by
    obtain ⟨p, h1, h2⟩ := det_snocK r v (fun p => K (p.1 + 1, x :: p.2)) h
    exact ⟨_, h1, fun K' h => h2 (fun p => K' (p.1 + 1, x :: p.2)) h⟩

theorem det_ofConst (c : Value) : Det (ofConstAgg c).force := det_force _

theorem det_ev (t : List V) (x : Operand) : Det (ev t x) := by
  cases x with
  | tmp i => exact det_getK t i
  | const c => exact det_force _
  | func f => exact .ret _
  | global b => exact .no

theorem det_evs (t : List V) : ∀ l, Det (evs t l)
  | [] => .ret _
  | x :: r => show Det fun K => ev t x fun v => evs t r fun vs => K (v :: vs) from Det.bind (det_ev t x) fun v => Det.bind (det_evs t r) fun vs => .ret (v :: vs)

theorem det_szK (P : Program) (T : TypeId) : Det (szK P T) := fun K h => by
  unfold szK at h ⊢
  split at h
  · exact h.elim
  · exact ⟨_, h, fun _ h => h⟩

theorem det_loadK (P : Program) (T : TypeId) (cs : List V) : Det (loadK P T cs) := fun K h => by
  unfold loadK at h ⊢
  split at h
  · exact (Det.bind (det_takeK cs _) fun l => Det.bind (det_mapK det_untok l) fun l => .ret (.agg l)) K h
  · exact (Det.bind (det_takeK cs _) fun l => Det.bind (det_mapK det_untok l) fun l => .ret (.agg l)) K h
  · split at h
    · exact det_force _ K h
    · exact h.elim
  · exact h.elim

theorem det_zeroV (P : Program) (T : TypeId) : Det (zeroV P T) := fun K h => by
  unfold zeroV at h ⊢
  split at h
  · exact det_force _ K h
  · exact h.elim

theorem det_assertK (P : Program) (T : TypeId) (ok : Bool) (x : V) : Det (assertK P T ok x) := fun K h => by
  unfold assertK at h ⊢
  split at h
  · split at h
    · cases ok
      · exact (Det.bind (det_untok _) fun v => .ret v) K h
      · exact (Det.bind (det_untok _) fun v => .ret _) K h
    · cases ok
      · exact h.elim
      · exact (Det.bind (det_zeroV P T) fun z => .ret _) K h
  · cases ok
    · exact h.elim
    · exact (Det.bind (det_zeroV P T) fun z => .ret _) K h
  · exact h.elim

theorem det_fillK (place : Nat → Option (Nat × Nat)) : ∀ (ps : List (Nat × V)) (cs : List V), Det (fillK place cs ps)
  | [], cs => .ret cs
  | (i, v) :: r, cs => fun K h => by
    unfold fillK at h ⊢
    split at h
    · refine (Det.bind (det_force v) fun v K h => ?_) K h
      split at h
      · rename_i hc
        obtain ⟨u, h1, h2⟩ := (Det.bind (det_spliceK _ _ _) fun cs => det_fillK place r cs) K h
        exact ⟨u, h1, fun K' h => h2 K' h⟩
      · exact h.elim
    · exact h.elim

theorem det_partsK (t : List V) : ∀ l, Det (partsK t l)
  | [] => .ret _
  | (i, x) :: r => show Det fun K => ev t x fun v => v.untokK fun v => partsK t r fun ps => K ((i, v) :: ps) from Det.bind (det_ev t x) fun v => Det.bind (det_untok v) fun v => Det.bind (det_partsK t r) fun ps => .ret ((i, v) :: ps)

theorem det_buildK (P : Program) (T : TypeId) (ps : List (Nat × V)) : Det (buildK P T ps) := by
  show Det fun K => buildK P T ps K
  unfold buildK
  refine Det.bind (det_zeroV P T) fun z K h => ?_
  split at h
  · split at h
    · rename_i hc
      obtain ⟨u, h1, h2⟩ := (Det.bind (det_fillK _ ps _) fun cs => .ret (V.agg cs)) K h
      exact ⟨u, h1, fun K' h => h2 K' h⟩
    · exact h.elim
  · split at h
    · rename_i hc
      obtain ⟨u, h1, h2⟩ := (Det.bind (det_fillK _ ps _) fun cs => .ret (V.agg cs)) K h
      exact ⟨u, h1, fun K' h => h2 K' h⟩
    · exact h.elim
  · exact h.elim

theorem det_lowK (t : List V) (lo : Option Operand) : Det (lowK t lo) := by
  cases lo with
  | none => exact .ret 0
  | some y =>
    show Det fun K => lowK t (some y) K
    unfold lowK
    refine Det.bind (det_ev t y) fun v => ?_
    cases v <;> first | exact .no | exact .ret _


theorem det_binopK (P : Program) (op : BinOp) (T : TypeId) (x y : V) : Det (binopK P op T x y) := fun K h => by
  unfold binopK at h ⊢
  split at h
  all_goals first
    | exact h.elim
    | exact ⟨_, h, fun _ h => h⟩
    | (obtain ⟨a, h⟩ := h; exact ⟨_, h, fun _ h => ⟨a, h⟩⟩)
    | (by_cases hk : ‹IntKind› = ‹IntKind›
       · rename_i k _ k' _ _ _
         by_cases hk : k = k'
         · subst hk
           simp only [if_true] at h ⊢
           split at h
           all_goals first
            | exact h.elim
            | exact ⟨_, h, fun _ h => h⟩
            | (obtain ⟨a, h⟩ := h; exact ⟨_, h, fun _ h => ⟨a, h⟩⟩)
         · simp only [if_neg hk] at h
       · exact absurd rfl hk)
    | (split at h
       all_goals first
        | exact h.elim
        | exact ⟨_, h, fun _ h => h⟩
        | exact (Det.bind (det_szK P _) fun _ => .ret _) K h
        | (split at h
           all_goals first
            | exact h.elim
            | exact ⟨_, h, fun _ h => h⟩
            | exact (Det.bind (det_szK P _) fun _ => .ret _) K h))

theorem det_convK (P : Program) (A B : TypeId) (x : V) : Det (convK P A B x) := fun K h => by
  unfold convK at h ⊢
  split at h
  all_goals first
    | exact h.elim
    | exact ⟨_, h, fun _ h => h⟩
    | (split at h
       all_goals first
        | exact h.elim
        | exact ⟨_, h, fun _ h => h⟩
        | (obtain ⟨a, b, h⟩ := h; exact ⟨_, h, fun _ h => ⟨a, b, h⟩⟩))

variable (S : Sys)

theorem det_vbuiltinF (b : Builtin) (ts : Array TypeId) (args : List V) : Det (vbuiltinF S b ts args) := fun K h => by
  unfold vbuiltinF at h ⊢
  split at h
  all_goals first
    | exact h.elim
    | exact ⟨_, h, fun _ h => h⟩
    | (obtain ⟨a, h⟩ := h; exact ⟨_, h, fun _ h => ⟨a, h⟩⟩)

theorem det_srcK (P : Program) (e : TypeId) (ts : Array TypeId) (ob : List VObj) (v : V) : Det (srcK P e ts ob v) := fun K h => by
  unfold srcK at h ⊢
  split at h
  · exact ⟨_, h, fun _ h => h⟩
  · exact ⟨_, h, fun _ h => h⟩
  · split at h
    · exact ⟨_, h, fun _ h => h⟩
    · exact h.elim
  · refine (Det.bind (det_getK ob _) fun x => ?_) K h
    cases x <;> try exact .no
    simp only
    split
    · exact .and fun _ => .ret _
    · exact .no
  · exact h.elim

theorem det_res (ok : Bool) (v : V) (b : Bool) : Det fun K : V → Prop => v.untokK fun v => (match ok with | true => K (.tup [v, .bool b]) | false => K v) :=
  Det.bind (det_untok v) fun v => by cases ok <;> exact .ret _

theorem det_lookupK (P : Program) (T : TypeId) (ob : List VObj) (x k : V) (ok : Bool) : Det (lookupK P T ob x k ok) := fun K h => by
  unfold lookupK at h ⊢
  split at h
  · split at h
    · cases x <;> try exact h.elim
      · refine (Det.bind (det_getK ob _) fun x => ?_) K h
        cases x <;> try exact .no
        refine .and fun _ => .ex fun r => .and fun _ => ?_
        cases r
        · exact Det.bind (det_zeroV P _) fun z => det_res ok _ _
        · exact det_res ok _ _
      · exact (Det.bind (det_zeroV P _) fun z => det_res ok _ _) K h
    · exact h.elim
  · exact h.elim

theorem det_slice (T : TypeId) (t : List V) (hi : Option Operand) (x : V) (l : Int) : Det fun K : V → Prop => (match x with
    | .str b => match S.P.underlying T with
      | some .string => (match hi with
        | none => 0 ≤ l ∧ l ≤ b.size ∧ K (.str (b.extract l.toNat b.size))
        | some y => ev t y fun y => match y with
          | .int _ h => 0 ≤ l ∧ l ≤ h ∧ h ≤ b.size ∧ K (.str (b.extract l.toNat h.toNat))
          | _ => False)
      | _ => False
    | .sl xs r => match S.P.underlying T with
      | some (.slice e) => szK S.P e fun z => (match hi with
        | none => 0 ≤ l ∧ l ≤ xs.length ∧ (∀ x ∈ xs, x.cells.length = z) ∧ K (.sl (xs.drop l.toNat) r)
        | some y => ev t y fun y => match y with
          | .int _ h => 0 ≤ l ∧ l ≤ h ∧ h ≤ xs.length ∧ (∀ x ∈ xs, x.cells.length = z) ∧ K (.sl ((xs.take h.toNat).drop l.toNat) .no)
          | _ => False)
      | _ => False
    | .spare xs sp => match S.P.underlying T with
      | some (.slice e) => szK S.P e fun z => (match hi with
        | none => False
        | some y => ev t y fun y => match y with
          | .int _ h => 0 ≤ l ∧ l ≤ h ∧ h ≤ xs.length + sp.length ∧ (∀ x ∈ xs ++ sp, x.cells.length = z) ∧ K (.sl (((xs ++ sp).take h.toNat).drop l.toNat) .no)
          | _ => False)
      | _ => False
    | .slo o z a n c => match S.P.underlying T with
      | some (.slice e) => szK S.P e fun z' => (match Nat.beq z z', hi with
        | true, none => 0 ≤ l ∧ l ≤ n ∧ K (.slo o z (a + l.toNat) (n - l.toNat) (c - l.toNat))
        | true, some y => ev t y fun y => match y with
          | .int _ h => 0 ≤ l ∧ l ≤ h ∧ h ≤ c ∧ K (.slo o z (a + l.toNat) (h.toNat - l.toNat) (c - l.toNat))
          | _ => False
        | _, _ => False)
      | _ => False
    | _ => False) := by
  cases x with
  | str b =>
    simp only
    split
    · cases hi with
      | none => exact .and fun _ => .and fun _ => .ret _
      | some y =>
        refine Det.bind (det_ev t y) fun v => ?_
        cases v <;> first | exact .no | exact .and fun _ => .and fun _ => .and fun _ => .ret _
    · exact .no
  | sl xs r =>
    simp only
    split
    · refine Det.bind (det_szK S.P _) fun z => ?_
      cases hi with
      | none => exact .and fun _ => .and fun _ => .and fun _ => .ret _
      | some y =>
        refine Det.bind (det_ev t y) fun v => ?_
        cases v <;> first | exact .no | exact .and fun _ => .and fun _ => .and fun _ => .and fun _ => .ret _
    · exact .no
  | spare xs sp =>
    simp only
    split
    · refine Det.bind (det_szK S.P _) fun z => ?_
      cases hi with
      | none => exact .no
      | some y =>
        show Det fun K : V → Prop => ev t y fun y => match y with
          | .int _ h => 0 ≤ l ∧ l ≤ h ∧ h ≤ xs.length + sp.length ∧ (∀ x ∈ xs ++ sp, x.cells.length = z) ∧ K (.sl (((xs ++ sp).take h.toNat).drop l.toNat) .no)
          | _ => False
        refine Det.bind (det_ev t y) fun v => ?_
        cases v <;> first | exact .no | exact .and fun _ => .and fun _ => .and fun _ => .and fun _ => .ret _
    · exact .no
  | slo o z a n c =>
    simp only
    split
    · refine Det.bind (det_szK S.P _) fun z' => ?_
      cases hb : Nat.beq z z' with
      | false => cases hi <;> exact .no
      | true =>
        cases hi with
        | none => exact .and fun _ => .and fun _ => .ret _
        | some y =>
          refine Det.bind (det_ev t y) fun v => ?_
          cases v <;> first | exact .no | exact .and fun _ => .and fun _ => .and fun _ => .ret _
    · exact .no
  | _ => exact .no

theorem det_slice3 (T : TypeId) (x h m : V) (l : Int) : Det fun K : V → Prop => (match x, h, m, S.P.underlying T with
    | .sl xs _, .int _ h, .int _ m, some (.slice e) => szK S.P e fun z => 0 ≤ l ∧ l ≤ h ∧ h = m ∧ h ≤ xs.length ∧ (∀ x ∈ xs, x.cells.length = z) ∧ K (.sl ((xs.take h.toNat).drop l.toNat) .ex)
    | .slo o z a n c, .int _ h, .int _ m, some (.slice e) => szK S.P e fun z' => (match Nat.beq z z' with
      | true => 0 ≤ l ∧ l ≤ h ∧ h ≤ m ∧ m ≤ c ∧ K (.slo o z (a + l.toNat) (h.toNat - l.toNat) (m.toNat - l.toNat))
      | false => False)
    | _, _, _, _ => False) := by
  split
  · exact Det.bind (det_szK S.P _) fun z => .and fun _ => .and fun _ => .and fun _ => .and fun _ => .and fun _ => .ret _
  · refine Det.bind (det_szK S.P _) fun z => ?_
    split
    · exact .and fun _ => .and fun _ => .and fun _ => .and fun _ => .ret _
    · exact .no
  · exact .no

theorem det_vflo (o : Oper) (t : List V) (ob : List VObj) : Det (vflo S o t ob) := by
  show Det fun K => vflo S o t ob K
  unfold vflo
  split
  · exact det_ev t _
  · exact det_ev t _
  · refine Det.bind (det_ev t _) fun v => ?_
    cases v <;> first | exact .no | exact .bif (det_ev t _) (det_ev t _)
  · exact Det.bind (det_partsK t _) fun ps => det_buildK _ _ _
  · refine Det.bind (det_partsK t _) fun ps K h => ?_
    split at h
    · split at h
      · obtain ⟨z, h1, h2⟩ := det_szK S.P _ _ h
        split at h1
        · split at h1
          · split at h1
            · exact ⟨_, h1, fun K' h => h2 _ (by simp_all)⟩
            · exact ⟨_, h1, fun K' h => h2 _ (by simp_all)⟩
            · split at h1
              · exact ⟨_, h1, fun K' h => h2 _ (by simp_all)⟩
              · exact h1.elim
            · exact h1.elim
          · exact h1.elim
        · exact h1.elim
      · exact h.elim
    · exact h.elim
  · refine Det.bind (det_ev t _) fun v => ?_
    cases v <;> try exact .no
    · refine Det.bind (det_getK ob _) fun x => ?_
      cases x <;> try exact .no
      exact Det.bind (det_dropK _ _) fun cs => det_loadK _ _ _
    · exact Det.bind (det_loadK _ _ _) fun v => det_untok v
    · refine Det.bind (det_getK ob _) fun x => ?_
      cases x <;> try exact .no
      simp only
      split
      · exact .ex fun x => .and fun _ => Det.bind (det_dropK _ _) fun cs => Det.bind (det_loadK _ _ _) fun v => det_untok v
      · exact .no
  · refine Det.bind (det_ev t _) fun v => ?_
    cases v <;> try first | exact .no | exact .ret _
    rename_i f a b
    cases f <;> first | exact .no | exact .ret _
  · exact Det.bind (det_ev t _) fun x => Det.bind (det_ev t _) fun y => det_binopK _ _ _ _ _
  · refine Det.bind (det_ev t _) fun v => ?_
    split <;> first | exact .no | exact .ret _
  · exact Det.bind (det_ev t _) fun x => Det.bind (det_ev t _) fun k => det_lookupK _ _ _ _ _ _
  · refine Det.bind (det_ev t _) fun x => ?_
    split
    · split
      · split
        · exact Det.bind (det_srcK _ _ _ _ _) fun m => .ex fun bs => .and fun _ => .ret _
        · exact .no
      · exact .no
    · exact det_convK _ _ _ _
  · refine Det.bind (det_ev t _) fun v => Det.bind (det_untok v) fun v => ?_
    split <;> first | exact .no | exact .ret _
  · exact Det.bind (det_evs t _) fun a => Det.bind (det_evs t _) fun b => Det.bind (det_mapK det_untok a) fun a => Det.bind (det_mapK det_untok b) fun b => .ret _
  · refine Det.bind (det_ev t _) fun v => ?_
    split
    · split
      · exact .no
      · cases v <;> first | exact .no | exact .ret _ | exact Det.bind (det_dropK _ _) fun c => .ret _
    · exact .no
  · refine Det.bind (det_ev t _) fun v => ?_
    split
    · exact Det.bind (det_dropK _ _) fun cs => Det.bind (det_loadK _ _ _) fun v => det_untok v
    · exact .no
  · refine Det.bind (det_ev t _) fun p => Det.bind (det_ev t _) fun i => ?_
    cases i <;> try exact .no
    simp only
    split
    · refine Det.bind (det_szK _ _) fun z => .and fun _ => .and fun _ => Det.bind (det_getK ob _) fun x => ?_
      cases x <;> try exact .ret _
      simp only
      split
      · exact .ret _
      · exact .no
    · refine Det.bind (det_szK _ _) fun z => ?_
      split
      · exact .and fun _ => .and fun _ => .ret _
      · exact .no
    · exact Det.bind (det_szK _ _) fun z => .and fun _ => .and fun _ => Det.bind (det_dropK _ _) fun c => .ret _
    · exact Det.bind (det_szK _ _) fun z => .and fun _ => .ex fun _ => .and fun _ => .and fun _ => .ret _
    · exact Det.bind (det_szK _ _) fun z => .and fun _ => .ex fun _ => .and fun _ => .and fun _ => .ret _
    · exact Det.bind (det_szK _ _) fun z => .and fun _ => .ex fun _ => .and fun _ => .and fun _ => .ret _
    · exact .no
  · refine Det.bind (det_ev t _) fun p => Det.bind (det_ev t _) fun i => ?_
    cases i <;> try exact .no
    simp only
    split
    · exact .and fun _ => .ex fun _ => .and fun _ => .ret _
    · exact Det.bind (det_szK _ _) fun z => .and fun _ => .and fun _ => Det.bind (det_dropK _ _) fun c => Det.bind (det_loadK _ _ _) fun v => det_untok v
    · exact .no
  · refine Det.bind (det_ev t _) fun v => ?_
    split
    · exact .no
    · exact det_assertK _ _ _ _
    · exact .no
  · refine Det.bind (det_ev t _) fun v => ?_
    cases v <;> try exact .no
    exact Det.bind (det_getK _ _) fun v => det_untok v
  · exact Det.bind (det_ev t _) fun x => Det.bind (det_lowK t _) fun l => det_slice S _ t _ x l
  · exact Det.bind (det_ev t _) fun x => Det.bind (det_lowK t _) fun l => Det.bind (det_ev t _) fun h => Det.bind (det_ev t _) fun m => det_slice3 S _ x h m l
  · split
    · exact Det.bind (det_evs t _) fun args => det_vbuiltinF S _ _ _
    · exact .no
  · exact .no

end VL

namespace VL
open Go
set_option linter.unusedVariables false
set_option linter.unusedSimpArgs false

theorem evs_congr {t t' : List V} : ∀ {l : List Operand}, (∀ x ∈ l, ev t x = ev t' x) → evs t l = evs t' l
  | [], _ => by funext K; rfl
  | x :: r, h => by
    funext K
    simp only [evs, h x (by simp), evs_congr (l := r) fun y hy => h y (by simp [hy])]

theorem partsK_congr {t t' : List V} : ∀ {l : List (Nat × Operand)}, (∀ x ∈ l.map (·.2), ev t x = ev t' x) → partsK t l = partsK t' l
  | [], _ => by funext K; rfl
  | (i, x) :: r, h => by
    funext K
    simp only [partsK, h x (by simp), partsK_congr (l := r) fun y hy => h y (by simp at hy ⊢; exact .inr hy)]

theorem lowK_congr {t t' : List V} {lo : Option Operand} (h : ∀ x ∈ lo.toList, ev t x = ev t' x) : lowK t lo = lowK t' lo := by
  funext K
  cases lo with
  | none => rfl
  | some y => simp only [lowK, h y (by simp)]

theorem optK_congr {t t' : List V} {lo : Option Operand} (h : ∀ x ∈ lo.toList, ev t x = ev t' x) : optK t lo = optK t' lo := by
  funext K
  cases lo with
  | none => rfl
  | some y => simp only [optK, h y (by simp)]

theorem vflo_congr (S : Sys) {o : Oper} {t t' : List V} (ob : List VObj) (h : ∀ x ∈ o.op.operands.toList, ev t x = ev t' x) : vflo S o t ob = vflo S o t' ob := by
  funext K
  unfold vflo
  split
  next x ho => rw [h x (by simp [ho, Op.operands])]
  next x ho => rw [h x (by simp [ho, Op.operands])]
  next x y z ho => rw [h x (by simp [ho, Op.operands]), h y (by simp [ho, Op.operands]), h z (by simp [ho, Op.operands])]
  next T ps ho => rw [partsK_congr fun x hx => h x (by simp [ho, Op.operands] at hx ⊢; exact hx)]
  next T n ps ho => rw [partsK_congr fun x hx => h x (by simp [ho, Op.operands] at hx ⊢; exact hx)]
  next x ho => rw [h _ (by rw [ho]; simp [Op.operands])]
  next x ho => rw [h _ (by rw [ho]; simp [Op.operands])]
  next ho =>
    rename_i x y U
    rw [h x (by simp [ho, Op.operands]), h y (by simp [ho, Op.operands])]
  next ho => rw [h _ (by rw [ho]; simp [Op.operands])]
  next T x k ok ho => rw [h x (by simp [ho, Op.operands]), h k (by simp [ho, Op.operands])]
  next ho => rw [h _ (by rw [ho]; simp [Op.operands])]
  next ho => rw [h _ (by rw [ho]; simp [Op.operands])]
  next f a b ho => rw [evs_congr fun x hx => h x (by simp [ho, Op.operands]; exact .inl (by simpa using hx)), evs_congr fun x hx => h x (by simp [ho, Op.operands]; exact .inr (by simpa using hx))]
  next ho => rw [h _ (by rw [ho]; simp [Op.operands])]
  next ho => rw [h _ (by rw [ho]; simp [Op.operands])]
  next T x ix ho => rw [h x (by simp [ho, Op.operands]), h ix (by simp [ho, Op.operands])]
  next T x ix ho => rw [h x (by simp [ho, Op.operands]), h ix (by simp [ho, Op.operands])]
  next ho => rw [h _ (by rw [ho]; simp [Op.operands])]
  next ho => rw [h _ (by rw [ho]; simp [Op.operands])]
  next T x lo hi ho =>
    rw [h x (by simp [ho, Op.operands]), lowK_congr (lo := lo) fun y hy => h y (by simp [ho, Op.operands]; simp at hy; simp [hy])]
    cases hi with
    | none =>
      congr 1; funext x; congr 1; funext l
      cases x <;> try rfl
      simp only
      split <;> try rfl
      congr 1; funext z'
      cases Nat.beq _ z' <;> rfl
    | some y =>
      simp only [h y (by simp [ho, Op.operands])]
      congr 1; funext x; congr 1; funext l
      cases x <;> try rfl
      simp only
      split <;> try rfl
      congr 1; funext z'
      cases Nat.beq _ z' <;> try rfl
      simp only [h y (by simp [ho, Op.operands])]
  next T x lo hi mx ho =>
    rw [h x (by simp [ho, Op.operands]), h hi (by simp [ho, Op.operands]), h mx (by simp [ho, Op.operands]), lowK_congr (lo := lo) fun y hy => h y (by simp [ho, Op.operands]; simp at hy; simp [hy])]
  next c ho =>
    split
    next hc => rw [evs_congr fun x hx => h x (by simp [ho, Op.operands, Call.operands, hc]; simpa using hx)]
    next => rfl
  next => rfl

/-- slots that are not told of -/
def masked (m : Nat → Bool) (t : List V) : List V := t.mapIdx fun i v => if m i then .undef else v

theorem masked_get {m : Nat → Bool} {t : List V} {i : Nat} : (masked m t)[i]? = (t[i]?).map fun v => if m i then .undef else v := by
  simp [masked, List.getElem?_mapIdx]

theorem masked_length {m : Nat → Bool} {t : List V} : (masked m t).length = t.length := by simp [masked]

theorem getK_eq {α : Type} {K : α → Prop} : ∀ (l : List α) (i : Nat), getK l i K = match l[i]? with | some x => K x | none => False
  | [], _ => by simp [getK]
  | x :: _, 0 => by simp [getK]
  | _ :: r, n + 1 => by simp only [getK, getK_eq r n, List.getElem?_cons_succ]

theorem ev_masked {m : Nat → Bool} {t : List V} {x : Operand} (h : ∀ d, x = .tmp d → m d = false) : ev (masked m t) x = ev t x := by
  funext K
  cases x with
  | tmp d =>
    simp only [ev, getK_eq, masked_get, h d rfl]
    cases t[d]? <;> rfl
  | _ => rfl

theorem masked_map {m : Nat → Bool} {t : List V} {i : Nat} : masked m (t.map (V.strip i)) = (masked m t).map (V.strip i) := by
  apply List.ext_getElem?
  intro k
  rw [masked_get, List.getElem?_map, List.getElem?_map, masked_get]
  cases t[k]? with
  | none => rfl
  | some v =>
    simp only [Option.map_some]
    split <;> rfl

theorem masked_forget {m : Nat → Bool} {t : List V} {ms : List Nat} : masked m (t.map (V.forget ms)) = (masked m t).map (V.forget ms) := by
  apply List.ext_getElem?
  intro k
  rw [masked_get, List.getElem?_map, List.getElem?_map, masked_get]
  cases t[k]? with
  | none => rfl
  | some v =>
    simp only [Option.map_some]
    split
    · simp [V.forget, ptrs, anyIn]
    · rfl

theorem mapK_forget_of {ms : List Nat} : ∀ {l : List V} {K : List V → Prop}, K (l.map (V.forget ms)) → mapK (fun v K => (V.forget ms v).force K) l K
  | [], K, h => h
  | x :: r, K, h => by
    show (V.forget ms x).force _
    rw [force_eq]; exact mapK_forget_of (l := r) h

theorem mapK_forgetO_of {ms : List Nat} : ∀ {l : List VObj} {K : List VObj → Prop}, K (l.map (forgetO ms)) → mapK (VObj.forgetK ms) l K
  | [], K, h => h
  | x :: r, K, h => by
    cases x with
    | cells w T cs => exact mapK_forget_of (mapK_forgetO_of (l := r) h)
    | _ => exact mapK_forgetO_of (l := r) h

theorem forgetK_of {ms : List Nat} {t : List V} {ob : List VObj} {df : List (Fn × List V × List V)} {K : List V → List VObj → Prop} (h1 : noneIn ms df = true) (h : K (t.map (V.forget ms)) (ob.map (forgetO ms))) : forgetK ms t ob df K := by
  unfold forgetK
  split
  · rw [show V.forget [] = id from funext forget_nil, show forgetO [] = id from funext forgetO_nil, List.map_id, List.map_id] at h; exact h
  · rw [h1]
    exact mapK_forget_of (mapK_forgetO_of h)

def maskS (m : Nat → Bool) : St → St
  | ⟨t, ob, nt, df⟩ => ⟨masked m t, ob, nt, df⟩


theorem det_renOP (f : Nat → Nat) (o : VObj) : Det (renOP f o) := fun K h => by
  unfold renOP at h ⊢
  split at h
  · split at h
    · exact ⟨_, h, fun _ h => h⟩
    · exact (Det.bind (det_mapK (det_renP f) _) fun cs => .ret _) K h
  · exact ⟨_, h, fun _ h => h⟩

theorem det_mvK (o : VObj) : Det o.mvK := fun K h => by
  unfold VObj.mvK at h ⊢
  split at h
  · exact ⟨_, h, fun _ h => h⟩
  · exact ⟨_, h, fun _ h => h⟩

theorem det_orMvK (m : Bool) (o : VObj) : Det (o.orMvK m) := fun K h => by
  unfold VObj.orMvK at h ⊢
  split at h
  · exact ⟨_, h, fun _ h => h⟩
  · exact ⟨_, h, fun _ h => h⟩
  · exact ⟨_, h, fun _ h => h⟩
  · exact h.elim

theorem det_inK (o : VObj) : Det o.inK := by cases o <;> exact .ret _

theorem det_insK : ∀ l : List VObj, Det (insK l)
  | [] => .ret _
  | o :: r => show Det fun K => o.inK fun o => insK r fun r => K (o :: r) from Det.bind (det_inK o) fun o => Det.bind (det_insK r) fun r => .ret _

theorem det_movedK : ∀ (idx : List Nat) (os : List VObj), Det (movedK idx os)
  | [], os => by cases os <;> exact .ret _
  | _ :: _, [] => .ret _
  | i :: r, o :: os => fun K h => by
    refine (Det.bind (det_mvK o) fun m => ?_ : Det fun K => o.mvK fun m => match m with | true => movedK r os fun l => K (i :: l) | false => movedK r os K) K h
    cases m with
    | true => exact Det.bind (det_movedK r os) fun l => .ret _
    | false => exact det_movedK r os

theorem det_backK (f : Nat → Nat) : ∀ (idx : List Nat) (os ob : List VObj), Det (backK f idx os ob)
  | i :: r, o :: os, ob => show Det fun K => renOP f o fun o => getK ob i fun o0 => o0.mvK fun m => o.orMvK m fun o => setK ob i o fun ob => backK f r os ob K from Det.bind (det_renOP _ _) fun o => Det.bind (det_getK _ _) fun o0 => Det.bind (det_mvK o0) fun m => Det.bind (det_orMvK m o) fun o => Det.bind (det_setK _ _ _) fun ob => det_backK f r os ob
  | [], os, ob => show Det fun K => mapK (renOP f) os fun os => K (ob ++ os) from Det.bind (det_mapK (det_renOP f) os) fun os => .ret _
  | _ :: _, [], _ => .no

theorem det_untokO (o : VObj) : Det o.untokK := by
  cases o with
  | cells w T cs => exact (Det.bind (det_mapK det_untok cs) fun cs => .ret (VObj.cells w T cs) : Det fun K => mapK V.untokK cs fun cs => K (VObj.cells w T cs))
  | _ => exact .ret _

theorem det_getsK (ob : List VObj) (f : Nat → Nat) : ∀ idx, Det (getsK ob f idx)
  | [] => .ret _
  | i :: r => show Det fun K => getK ob i fun o => o.untokK fun o => getsK ob f r fun os => renOP f o fun o => K (o :: os) from
      Det.bind (det_getK _ _) fun o => Det.bind (det_untokO o) fun o => Det.bind (det_getsK ob f r) fun os => Det.bind (det_renOP _ _) fun o => .ret _

theorem det_strips (i : Nat) (s : St) : Det (strips i s) := by
  obtain ⟨t, ob, nt, df⟩ := s
  show Det fun K => strips i ⟨t, ob, nt, df⟩ K
  unfold strips
  refine Det.bind (det_mapK (fun v => det_force _) t) fun t => ?_
  refine Det.bind (det_mapK (fun o => ?_) ob) fun ob => .ret _
  cases o with
  | cells w T cs => exact (Det.bind (det_mapK (fun v => det_force _) cs) fun cs => .ret (VObj.cells w T cs) : Det fun K => mapK (fun v K => (V.strip i v).force K) cs fun cs => K (VObj.cells w T cs))
  | _ => exact .ret _

theorem strips_of {i : Nat} {t : List V} {ob : List VObj} {nt : Nat} {df : List (Fn × List V × List V)} {K : St → Prop} (h : K ⟨t.map (V.strip i), ob.map (stripO i), nt, df⟩) : strips i ⟨t, ob, nt, df⟩ K := by
  obtain ⟨v, h1, h2⟩ := det_strips i ⟨t, ob, nt, df⟩ (fun s => s = ⟨t.map (V.strip i), ob.map (stripO i), nt, df⟩) (by
    have hm : ∀ l : List V, ∀ K : List V → Prop, K (l.map (V.strip i)) → mapK (fun v K => (V.strip i v).force K) l K := fun l => by
      induction l with
      | nil => intro K h; exact h
      | cons x r ih => intro K h; show (V.strip i x).force _; rw [force_eq]; exact ih _ h
    have ho : ∀ l : List VObj, ∀ K : List VObj → Prop, K (l.map (stripO i)) → mapK (fun o K => match o with
        | VObj.cells w T cs => mapK (fun v K => (V.strip i v).force K) cs fun cs => K (VObj.cells w T cs)
        | o => K o) l K := fun l => by
      induction l with
      | nil => intro K h; exact h
      | cons x r ih =>
        intro K h
        cases x with
        | cells w T cs => exact hm cs _ (ih _ h)
        | _ => exact ih _ h
    exact hm t _ (ho ob _ rfl))
  exact h2 K (h1 ▸ h)

variable (S : Sys)

theorem Det.mono {α : Type} {F : (α → Prop) → Prop} (hF : Det F) {K K' : α → Prop} (hK : ∀ v, K v → K' v) (h : F K) : F K' := by
  obtain ⟨v, h1, h2⟩ := hF K h
  exact h2 K' (hK v h1)

theorem det_optK (t : List V) (lo : Option Operand) : Det (optK t lo) := by
  cases lo with
  | none => exact .ret none
  | some y =>
    show Det fun K => optK t (some y) K
    unfold optK
    refine Det.bind (det_ev t y) fun v => ?_
    cases v <;> first | exact .no | exact .ret _

theorem up_snocK {α : Type} {l : List α} {v : α} {K K' : Nat → List α → Prop} (hK : ∀ n l, K n l → K' n l) (h : snocK l v K) : snocK l v K' :=
  (det_snocK l v).mono (K := fun p => K p.1 p.2) (K' := fun p => K' p.1 p.2) (fun p h => hK _ _ h) h

section
variable {t t' : List V} {df : List (Fn × List V × List V)} {K K' : V → St → Prop}

theorem up_appendNew {P : Program} {e : TypeId} {m : List V} {ob : List VObj} {nt : Nat} (hK : ∀ v ob nt, K v ⟨t, ob, nt, df⟩ → K' v ⟨t', ob, nt, df⟩) (h : appendNewK P e m ⟨t, ob, nt, df⟩ K) : appendNewK P e m ⟨t', ob, nt, df⟩ K' := by
  unfold appendNewK at h ⊢
  refine (det_szK P e).mono (fun z h => ?_) h
  split at h
  · split at h
    · obtain ⟨a, b, h⟩ := h
      exact ⟨a, b, fun sp c d => up_snocK (fun i ob h => hK _ _ _ h) (h sp c d)⟩
    · exact h.elim
  · exact h.elim

theorem up_appendBuf {P : Program} {e : TypeId} {o z lo n c : Nat} {m : List V} {ob : List VObj} {nt : Nat} (hK : ∀ v ob nt, K v ⟨t, ob, nt, df⟩ → K' v ⟨t', ob, nt, df⟩) (h : appendBufK P e o z lo n c m ⟨t, ob, nt, df⟩ K) : appendBufK P e o z lo n c m ⟨t', ob, nt, df⟩ K' := by
  unfold appendBufK at h ⊢
  refine (det_szK P e).mono (fun z' h => ?_) h
  split at h
  · split at h
    · obtain ⟨a, b, h⟩ := h
      refine ⟨a, b, (det_getK ob o).mono (fun x h => ?_) h⟩
      split at h
      · split at h
        · cases hb : Nat.ble (n + m.length) c with
          | true =>
            rw [hb] at h
            obtain ⟨c1, h⟩ := h
            exact ⟨c1, (det_setK _ _ _).mono (fun ob h => hK _ _ _ h) h⟩
          | false =>
            rw [hb] at h
            obtain ⟨c1, h⟩ := h
            exact ⟨c1, fun sp hsp => up_snocK (fun i ob h => hK _ _ _ h) (h sp hsp)⟩
        · exact h.elim
      · exact h.elim
    · exact h.elim
  · exact h.elim

theorem up_copy {S : Sys} {ts : Array TypeId} {args : List V} {ob : List VObj} {nt : Nat} (hK : ∀ v ob nt, K v ⟨t, ob, nt, df⟩ → K' v ⟨t', ob, nt, df⟩) (h : vcopy S ts args ⟨t, ob, nt, df⟩ K) : vcopy S ts args ⟨t', ob, nt, df⟩ K' := by
  unfold vcopy at h ⊢
  simp only at h ⊢
  split at h
  · refine (det_srcK _ _ _ _ _).mono (fun m h => ?_) h
    refine (det_szK _ _).mono (fun z' h => ?_) h
    split at h
    · obtain ⟨a, h⟩ := h
      refine ⟨a, (det_getK ob _).mono (fun x h => ?_) h⟩
      split at h
      · split at h
        · exact ⟨h.1, (det_setK _ _ _).mono (fun ob h => hK _ _ _ h) h.2⟩
        · exact h.elim
      · exact h.elim
    · exact h.elim
  · exact h.elim

theorem up_makeSlice {S : Sys} {T : TypeId} {len cap : V} {ob : List VObj} {nt : Nat} (hK : ∀ v ob nt, K v ⟨t, ob, nt, df⟩ → K' v ⟨t', ob, nt, df⟩) (h : vmakeSlice S T len cap ⟨t, ob, nt, df⟩ K) : vmakeSlice S T len cap ⟨t', ob, nt, df⟩ K' := by
  unfold vmakeSlice at h ⊢
  simp only at h ⊢
  split at h
  · refine (det_szK _ _).mono (fun z' h => ?_) h
    split at h
    · split at h
      · obtain ⟨a, b, c, d, h⟩ := h
        exact ⟨a, b, c, d, up_snocK (fun i ob h => hK _ _ _ h) h⟩
      · exact h.elim
    · exact h.elim
  · exact h.elim

theorem up_mapUpdate {S : Sys} {T : TypeId} {x k v : V} {ob : List VObj} {nt : Nat} (hK : ∀ v ob nt, K v ⟨t, ob, nt, df⟩ → K' v ⟨t', ob, nt, df⟩) (h : vmapUpdate S T x k v ⟨t, ob, nt, df⟩ K) : vmapUpdate S T x k v ⟨t', ob, nt, df⟩ K' := by
  unfold vmapUpdate at h ⊢
  simp only at h ⊢
  split at h
  · refine (det_untok _).mono (fun v h => ?_) h
    split at h
    · refine (det_getK ob _).mono (fun x h => ?_) h
      split at h
      · exact ⟨h.1, (det_setK _ _ _).mono (fun ob h => hK _ _ _ h) h.2⟩
      · exact h.elim
    · exact h.elim
  · exact h.elim

theorem up_nilSl {P : Program} {op : BinOp} {T : TypeId} {x : V} {K K' : V → Prop} (hK : ∀ v, K v → K' v) (h : nilSlK P op T x K) : nilSlK P op T x K' := by
  have hn : ∀ {K K' : Bool → Prop}, (∀ b, K b → K' b) → nilSlK.nilB x K → nilSlK.nilB x K' := fun {K K'} hk h => by
    unfold nilSlK.nilB at h ⊢
    split at h
    all_goals first
      | exact h.elim
      | exact fun b hb => hk _ (h b hb)
  unfold nilSlK at h ⊢
  split at h
  · exact hn (fun b h => hK _ h) h
  · exact hn (fun b h => hK _ h) h
  · exact h.elim

theorem up_buildMu {S : Sys} {T : TypeId} {n : Nat} {parts : Array (Nat × Operand)} {ob : List VObj} {K K' : V → List VObj → Prop} (hp : partsK t parts.toList = partsK t' parts.toList) (hK : ∀ v ob, K v ob → K' v ob) (h : vbuildMu S T n parts t ob K) : vbuildMu S T n parts t' ob K' := by
  unfold vbuildMu at h ⊢
  rw [← hp]
  refine (det_partsK _ _).mono (fun ps h => ?_) h
  split at h
  · split at h
    · refine (det_szK _ _).mono (fun z h => ?_) h
      split at h
      · split at h
        · split at h
          · exact up_snocK (fun i ob h => hK _ _ h) h
          · exact h.elim
        · exact h.elim
      · exact h.elim
    · exact h.elim
  · exact h.elim

end

/-- a call's contract may be told for less -/
def CallMono : Prop := ∀ g args ob (K K' : Out → List VObj → Prop), (∀ o ob, K o ob → K' o ob) → S.call g args ob K → S.call g args ob K'

theorem vop_mask (hm : CallMono S) {o : Oper} {m : Nat → Bool} (hU : ∀ x ∈ o.op.operands.toList, ∀ d, x = .tmp d → m d = false) {t : List V} {ob : List VObj} {nt : Nat} {df : List (Fn × List V × List V)}
    {K : V → St → Prop} (h : vop S o ⟨t, ob, nt, df⟩ K fun _ _ => False) : vop S o (maskS m ⟨t, ob, nt, df⟩) (fun v s' => ∃ s1, K v s1 ∧ s' = maskS m s1) fun _ _ => False := by
  have hev : ∀ x ∈ o.op.operands.toList, ev (masked m t) x = ev t x := fun x hx => ev_masked (hU x hx)
  have hK : ∀ v ob nt, K v ⟨t, ob, nt, df⟩ → ∃ s1, K v s1 ∧ (⟨masked m t, ob, nt, df⟩ : St) = maskS m s1 := fun v ob nt h => ⟨_, h, rfl⟩
  have hflo : ∀ {K0 : V → St → Prop}, (vflo S o t ob fun v => K0 v ⟨t, ob, nt, df⟩) → vflo S o (masked m t) ob fun v => (fun v s' => ∃ s1, K0 v s1 ∧ s' = maskS m s1) v ⟨masked m t, ob, nt, df⟩ := fun {K0} h => by
    rw [vflo_congr S ob hev]
    obtain ⟨v, h1, h2⟩ := det_vflo S o t ob _ h
    exact h2 _ ⟨_, h1, rfl⟩
  show vop S o ⟨masked m t, ob, nt, df⟩ _ _
  unfold vop at h ⊢
  simp only at h ⊢
  split at h
  next T ho =>
    obtain ⟨z, h1, h2⟩ := det_zeroV _ _ _ h
    refine h2 _ ?_
    split at h1
    next hc =>
      obtain ⟨p, h3, h4⟩ := det_snocK _ _ (fun p => K (.ptr p.1 0) ⟨t, p.2, nt, df⟩) h1
      exact h4 (fun p => ∃ s1, K (.ptr p.1 0) s1 ∧ (⟨masked m t, p.2, nt, df⟩ : St) = maskS m s1) ⟨_, h3, rfl⟩
    next => exact h1.elim
  next T x ho =>
    rw [hev x (by simp [ho, Op.operands])]
    obtain ⟨v, h1, h2⟩ := det_ev _ _ _ h
    refine h2 _ ?_
    obtain ⟨v', h1, h3⟩ := det_untok _ _ h1
    refine h3 _ ?_
    split at h1
    next hc =>
      obtain ⟨p, h3, h4⟩ := det_snocK _ _ (fun p => K (.ptr p.1 0) ⟨t, p.2, nt, df⟩) h1
      exact h4 (fun p => ∃ s1, K (.ptr p.1 0) s1 ∧ (⟨masked m t, p.2, nt, df⟩ : St) = maskS m s1) ⟨_, h3, rfl⟩
    next => exact h1.elim
  next T x y ho =>
    rw [hev x (by simp [ho, Op.operands]), hev y (by simp [ho, Op.operands])]
    obtain ⟨p, h1, h2⟩ := det_ev _ _ _ h
    refine h2 _ ?_
    obtain ⟨v, h1, h3⟩ := det_ev _ _ _ h1
    refine h3 _ ?_
    obtain ⟨v, h1, h4⟩ := det_force _ _ h1
    refine h4 _ ?_
    split at h1
    next i off =>
      obtain ⟨x1, h1, h5⟩ := det_getK _ _ _ h1
      refine h5 _ ?_
      split at h1
      next U cs =>
        split at h1
        next hc =>
          obtain ⟨cs', h1, h6⟩ := det_spliceK _ _ _ _ h1
          refine h6 _ ?_
          obtain ⟨ob', h1, h7⟩ := det_setK _ _ _ _ h1
          exact h7 _ ⟨_, h1, rfl⟩
        next => exact h1.elim
      next => exact h1.elim
    next o z i off =>
      refine (det_untok _).mono (fun v h => ?_) h1
      refine (det_getK ob _).mono (fun x1 h => ?_) h
      split at h
      next =>
        split at h
        next =>
          obtain ⟨y, hy, h⟩ := h
          exact ⟨y, hy, (det_spliceK _ _ _).mono (fun cs h => (det_setK _ _ _).mono (fun ob h => hK _ _ _ h) h) h⟩
        next => exact h.elim
      next => exact h.elim
    next => exact h1.elim
  next T len cap ho =>
    rw [hev len (by simp [ho, Op.operands]), hev cap (by simp [ho, Op.operands])]
    refine (det_ev _ _).mono (fun x h => ?_) h
    refine (det_ev _ _).mono (fun y h => ?_) h
    exact up_makeSlice hK h
  next T ho =>
    split at h
    next => exact up_snocK (fun i ob h => hK _ _ _ h) h
    next => exact h.elim
  next T x k v ho =>
    rw [hev x (by simp [ho, Op.operands]), hev k (by simp [ho, Op.operands]), hev v (by simp [ho, Op.operands])]
    refine (det_ev _ _).mono (fun x h => ?_) h
    refine (det_ev _ _).mono (fun y h => ?_) h
    refine (det_ev _ _).mono (fun z h => ?_) h
    exact up_mapUpdate hK h
  next op T x y U ho =>
    split at h
    next hy =>
      rw [hev x (by simp [ho, Op.operands])]
      exact (det_ev _ _).mono (fun x h => up_nilSl (fun v h => hK _ _ _ h) h) h
    next => exact hflo h
  next T n parts ho =>
    split at h
    next => exact up_buildMu (partsK_congr fun x hx => (hev x (by simp [ho, Op.operands] at hx ⊢; exact hx)).symm) (fun v ob h => hK _ _ _ h) h
    next => exact hflo h
  next T x lo hi mx ho =>
    rw [hev x (by simp [ho, Op.operands])]
    obtain ⟨p, h1, h2⟩ := det_ev _ _ _ h
    refine h2 _ ?_
    have hlo : optK (masked m t) lo = optK t lo := optK_congr fun y hy => hev y (by simp [ho, Op.operands]; simp at hy; simp [hy])
    have hhi : optK (masked m t) hi = optK t hi := optK_congr fun y hy => hev y (by simp [ho, Op.operands]; simp at hy; simp [hy])
    split at h1
    · cases hu : S.P.underlying T with
      | none => simp only [hu] at h1
      | some d =>
        cases d <;> simp only [hu] at h1 ⊢
        cases mx with
        | some _ => exact h1.elim
        | none =>
          refine (det_getK ob _).mono (fun x1 h => ?_) h1
          cases x1 with
          | cells wr U cs =>
            simp only at h ⊢
            split at h
            next hc => exact (det_setK _ _ _).mono (fun ob h => hK _ _ _ h) h
            next => exact h.elim
          | buf mv z l =>
            simp only [hlo, hhi] at h ⊢
            refine (det_szK _ _).mono (fun z' h => ?_) h
            refine (det_optK _ _).mono (fun l1 h => ?_) h
            refine (det_optK _ _).mono (fun h1 h => ?_) h
            split at h
            next => exact hK _ _ _ h
            next => exact ⟨h.1, h.2.1, hK _ _ _ h.2.2⟩
            next => exact ⟨h.1, h.2.1, hK _ _ _ h.2.2⟩
            next => exact ⟨h.1, h.2.1, h.2.2.1, hK _ _ _ h.2.2.2⟩
            next => exact h.elim
          | _ => exact h.elim
    · exact hflo h1
  next c ho =>
    split at h
    next f hc =>
      rw [hev f (by simp [ho, Op.operands, Call.operands, hc]), evs_congr fun x hx => hev x (by simp [ho, Op.operands, Call.operands, hc]; exact .inr (by simpa using hx))]
      obtain ⟨f, h1, h2⟩ := det_ev _ _ _ h
      refine h2 _ ?_
      obtain ⟨args, h1, h3⟩ := det_evs _ _ _ h1
      refine h3 _ ?_
      clear h2 h3
      cases f with
      | fn f first cap =>
        cases f with
        | func g =>
          simp only [vcall] at h1 ⊢
          obtain ⟨as, h1, h4⟩ := det_mapK det_untok _ _ h1
          refine h4 _ ?_
          obtain ⟨idx, h1, h8⟩ := det_listK _ _ h1
          refine h8 _ ?_
          split at h1
          next => exact h1.elim
          next hck =>
            obtain ⟨sub, h1, h5⟩ := det_getsK _ _ _ _ h1
            refine h5 _ ?_
            obtain ⟨sub, h1, h10⟩ := det_insK _ _ h1
            refine h10 _ ?_
            obtain ⟨as, h1, h9⟩ := det_mapK (det_renP _) _ _ h1
            refine h9 _ ?_
            refine hm _ _ _ _ _ (fun out sub' hk => ?_) h1
            obtain ⟨ms, h1, h11⟩ := det_movedK _ _ _ hk
            refine h11 _ ?_
            obtain ⟨hd, h1⟩ := forgetK_iff h1
            refine forgetK_of hd ?_
            obtain ⟨ob', h1, h6⟩ := det_backK _ _ _ _ _ h1
            refine h6 _ ?_
            cases out with
            | ret v =>
              obtain ⟨v', h1, h7⟩ := det_renP _ _ _ h1
              exact h7 _ ⟨_, h1, by simp only [maskS, masked_forget]⟩
            | pan v => exact h1
        | _ => exact h1.elim
      | _ => exact h1.elim
    next hc =>
      rw [evs_congr fun x hx => hev x (by simp [ho, Op.operands, Call.operands, hc]; simpa using hx)]
      obtain ⟨args, h1, h3⟩ := det_evs _ _ _ h
      refine h3 _ ?_
      have happ : ∀ {e : TypeId} {l : List V} {r : Room} {u : List V}, appendK S.P e l r u ⟨t, ob, nt, df⟩ K → appendK S.P e l r u ⟨masked m t, ob, nt, df⟩ fun v s' => ∃ s1, K v s1 ∧ s' = maskS m s1 := fun {e l r u} h => by
        unfold appendK at h ⊢
        obtain ⟨z, h1, h2⟩ := det_szK _ _ _ h
        refine h2 _ ?_
        split at h1
        next =>
          split at h1
          next hz =>
            obtain ⟨a1, a2, h1⟩ := h1
            refine ⟨a1, a2, ?_⟩
            cases r with
            | no => exact h1
            | ex => exact ⟨h1.1, _, h1.2, rfl⟩
            | tok i sz =>
              simp only at h1 ⊢
              split at h1
              next =>
                refine strips_of ?_
                have := strips_iff h1
                exact ⟨_, this, by simp only [maskS, masked_map]⟩
              next => exact h1.elim
          next => exact h1.elim
        next => exact h1.elim
      unfold vappend at h1 ⊢
      split at h1
      · split at h1
        · refine (det_srcK _ _ _ _ _).mono (fun u h => ?_) h1
          split at h
          · split at h
            · exact up_appendNew hK h
            · exact happ h
          · exact up_appendBuf hK h
          · exact h.elim
        · split at h1
          · split at h1
            · exact ⟨h1.1, h1.2.1, up_appendBuf hK h1.2.2⟩
            · exact h1.elim
          · exact h1.elim
      · exact h1.elim
    next hc =>
      rw [evs_congr fun x hx => hev x (by simp [ho, Op.operands, Call.operands, hc]; simpa using hx)]
      exact (det_evs _ _).mono (fun args h => up_copy hK h) h
    next => exact hflo h
    next => exact h.elim
  next c ho =>
    split at h
    next f hc =>
      rw [hev f (by simp [ho, Op.operands, Call.operands, hc]), evs_congr fun x hx => hev x (by simp [ho, Op.operands, Call.operands, hc]; exact .inr (by simpa using hx))]
      obtain ⟨f, h1, h2⟩ := det_ev _ _ _ h
      refine h2 _ ?_
      obtain ⟨args, h1, h3⟩ := det_evs _ _ _ h1
      refine h3 _ ?_
      split at h1
      next =>
        obtain ⟨a, h1, h4⟩ := det_mapK det_untok _ _ h1
        refine h4 _ ?_
        obtain ⟨b, h1, h5⟩ := det_mapK det_untok _ _ h1
        exact h5 _ ⟨_, h1, rfl⟩
      next => exact h1.elim
    next => exact h.elim
  next x ho =>
    rw [hev x (by simp [ho, Op.operands])]
    exact h
  next => exact hflo h

end VL

namespace VL
open Go
set_option linter.unusedVariables false
set_option linter.unusedSimpArgs false

def gOn (all : List Oper) (o : Oper) (t : List V) : Option Bool :=
  match o.guard with
  | none => some true
  | some (j, want) => match (all[j]?).bind (·.dst) with
    | some d => match t[d]? with
      | some (.bool b) => some (b == want)
      | some .undef => none
      | some _ => some false
      | none => none
    | none => none

theorem set_same {t : List V} {d : Nat} {v : V} (h : t[d]? = some v) : t.set d v = t := by
  apply List.ext_getElem?
  intro k
  rw [List.getElem?_set]
  split
  · rename_i e; subst e
    split
    · exact h.symm
    · rename_i hlt; rw [List.getElem?_eq_none (by omega)]
  · rfl

theorem guardK_iff {all : List Oper} {o : Oper} {t : List V} {KT KF : List V → Prop} (h : guardK all o t KT KF) : (gOn all o t = some true ∧ KT t) ∨ (gOn all o t = some false ∧ KF t) := by
  unfold guardK at h
  unfold gOn
  cases hg : o.guard with
  | none => rw [hg] at h; exact .inl ⟨rfl, h⟩
  | some jw =>
    obtain ⟨j, want⟩ := jw
    rw [hg] at h
    simp only at h ⊢
    cases hj : (all[j]?).bind (·.dst) with
    | none => rw [hj] at h; exact h.elim
    | some d =>
      rw [hj] at h
      simp only at h ⊢
      obtain ⟨v, h1, h2⟩ := getK_iff h
      rw [h1]
      split at h2
      · rename_i b
        rcases bif_elim h2 with ⟨rfl, h2⟩ | ⟨rfl, h2⟩
        · obtain ⟨_, h2⟩ := setK_iff h2
          rw [set_same h1] at h2
          cases want
          · exact .inr ⟨rfl, h2⟩
          · exact .inl ⟨rfl, h2⟩
        · obtain ⟨_, h2⟩ := setK_iff h2
          rw [set_same h1] at h2
          cases want
          · exact .inl ⟨rfl, h2⟩
          · exact .inr ⟨rfl, h2⟩
      · exact h2.elim
      · rename_i hn1 hn2
        refine .inr ⟨?_, h2⟩
        cases v <;> first | rfl | exact absurd rfl (hn1 _) | exact absurd rfl hn2

/-- operation m, were it to come now, would yield what stands in its slot -/
def FOK (S : Sys) (all : List Oper) (m : Nat) (t : List V) (ob : List VObj) : Prop :=
  ∃ o u, all[m]? = some o ∧ (∀ d, o.dst = some d → t[d]? = some u) ∧ ((gOn all o t = some true ∧ vflo S o t ob fun v => v = u) ∨ (gOn all o t = some false ∧ u = .tup []))

theorem looks_ev {all : List Oper} {o : Oper} {t t' : List V} (h : ∀ d ∈ looks all o, t[d]? = t'[d]?) : ∀ x ∈ o.op.operands.toList, ev t x = ev t' x := by
  intro x hx
  funext K
  cases x with
  | tmp d => simp only [ev, getK_eq, h d (List.mem_append_left _ (List.mem_filterMap.2 ⟨.tmp d, hx, rfl⟩))]
  | _ => rfl

theorem looks_gOn {all : List Oper} {o : Oper} {t t' : List V} (h : ∀ d ∈ looks all o, t[d]? = t'[d]?) : gOn all o t = gOn all o t' := by
  unfold gOn
  cases hg : o.guard with
  | none => rfl
  | some jw =>
    obtain ⟨j, want⟩ := jw
    simp only
    cases hj : (all[j]?).bind (·.dst) with
    | none => rfl
    | some d => simp only [h d (List.mem_append_right _ (by simp [hg, hj]))]

theorem FOK.congr {S : Sys} {all : List Oper} {m : Nat} {t t' : List V} {ob : List VObj} {o : Oper} (ho : all[m]? = some o) (h : FOK S all m t ob) (h1 : ∀ d ∈ looks all o, t[d]? = t'[d]?) (h2 : ∀ d, o.dst = some d → t[d]? = t'[d]?) : FOK S all m t' ob := by
  obtain ⟨o', u, e, a1, a2⟩ := h
  have : o' = o := by rw [ho] at e; exact (Option.some.inj e).symm
  subst this
  exact ⟨o', u, ho, fun d hd => by rw [← h2 d hd]; exact a1 d hd, by rw [← looks_gOn h1, ← vflo_congr S ob (looks_ev h1)]; exact a2⟩

theorem isSlot_iff {o : Option Tmp} {t : List V} {v : V} {k : Prop} (h : isSlot o t v k) : (∀ d, o = some d → t[d]? = some v) ∧ k := by
  cases o with
  | none => exact ⟨by simp, h⟩
  | some d =>
    obtain ⟨u, h1, rfl, h2⟩ := getK_iff h
    exact ⟨fun d' e => by cases e; exact h1, h2⟩

theorem recheck_iff {S : Sys} {all : List Oper} {A : List Nat} {n : Nat} {t : List V} {ob : List VObj} {k : Prop} : ∀ {done : List Nat}, recheck S all A n done t ob k → k ∧ ∀ m ∈ done, isAnc A n m = false → FOK S all m t ob
  | [], h => ⟨h, by simp⟩
  | m :: r, h => by
    unfold recheck at h
    split at h
    · rename_i ha
      obtain ⟨h1, h2⟩ := recheck_iff (done := r) h
      refine ⟨h1, fun j hj hn => ?_⟩
      cases hj with
      | head => rw [ha] at hn; cases hn
      | tail _ hj => exact h2 j hj hn
    · split at h
      case h_2 => exact h.elim
      rename_i o ho
      have key : k ∧ (∀ m ∈ r, isAnc A n m = false → FOK S all m t ob) ∧ FOK S all m t ob := by
        rcases guardK_iff h with ⟨hg, h⟩ | ⟨hg, h⟩
        · obtain ⟨v, hv, h2⟩ := det_vflo S o t ob _ h
          obtain ⟨h0, h1⟩ := isSlot_iff hv
          obtain ⟨h3, h4⟩ := recheck_iff (done := r) h1
          exact ⟨h3, h4, o, v, ho, h0, .inl ⟨hg, h2 _ rfl⟩⟩
        · obtain ⟨h0, h1⟩ := isSlot_iff h
          obtain ⟨h3, h4⟩ := recheck_iff (done := r) h1
          exact ⟨h3, h4, o, .tup [], ho, h0, .inr ⟨hg, rfl⟩⟩
      refine ⟨key.1, fun j hj hn => ?_⟩
      cases hj with
      | head => exact key.2.2
      | tail _ hj => exact key.2.1 j hj hn

/-- the slots of what is still to come -/
def slotIn (all : List Oper) (U : List Nat) (d : Nat) : Bool := U.any fun i => decide ((all[i]?).bind (·.dst) = some d)

theorem slotIn_iff {all : List Oper} {U : List Nat} {d : Nat} : slotIn all U d = true ↔ ∃ i ∈ U, ∃ o, all[i]? = some o ∧ o.dst = some d := by
  simp [slotIn, List.any_eq_true, Option.bind_eq_some_iff]

end VL

namespace VL
open Go
set_option linter.unusedVariables false
set_option linter.unusedSimpArgs false

theorem maskOf_bit {A : List Nat} {j : Nat} : ∀ {ds : List Nat} {m : Nat}, (maskOf A ds m).testBit j = true → m.testBit j = true ∨ ∃ d ∈ ds, j = d ∨ ((A[d]?).getD 0).testBit j = true
  | [], m, h => .inl h
  | d :: r, m, h => by
    rcases maskOf_bit (ds := r) h with h | ⟨d', h1, h2⟩
    · rw [Nat.testBit_or, Nat.testBit_or, Bool.or_eq_true, Bool.or_eq_true] at h
      rcases h with (h | h) | h
      · exact .inl h
      · refine .inr ⟨d, by simp, .inl ?_⟩
        rw [Nat.one_shiftLeft, Nat.testBit_two_pow] at h
        exact (by simpa using h : d = j).symm
      · exact .inr ⟨d, by simp, .inr h⟩
    · exact .inr ⟨d', by simp [h1], h2⟩

theorem ancs_append (l : List Oper) : ∀ (A : List Nat), ∃ B, ancs l A = A ++ B := by
  induction l with
  | nil => intro A; exact ⟨[], by simp [ancs]⟩
  | cons o r ih =>
    intro A
    obtain ⟨B, h⟩ := ih (A ++ [maskOf A (depsOf o) 0])
    exact ⟨maskOf A (depsOf o) 0 :: B, by rw [ancs, h]; simp⟩

theorem ancs_get (l : List Oper) : ∀ (A : List Nat) (k : Nat) (o : Oper), l[k]? = some o → (ancs l A)[A.length + k]? = some (maskOf ((ancs l A).take (A.length + k)) (depsOf o) 0) := by
  induction l with
  | nil => intro A k o h; simp at h
  | cons p r ih =>
    intro A k o h
    cases k with
    | zero =>
      simp only [List.getElem?_cons_zero, Option.some.injEq] at h; subst h
      obtain ⟨B, hB⟩ := ancs_append r (A ++ [maskOf A (depsOf p) 0])
      rw [ancs, hB]
      generalize hm : maskOf A (depsOf p) 0 = m at *
      have : (A ++ [m] ++ B).take (A.length + 0) = A := by simp
      rw [this, hm]
      simp
    | succ k =>
      have := ih (A ++ [maskOf A (depsOf p) 0]) k o (by simpa using h)
      rw [ancs]
      simp only [List.length_append, List.length_singleton] at this
      rw [show A.length + (k + 1) = A.length + 1 + k by omega]
      exact this

theorem depsOk_iff (l : List Oper) : ∀ {k : Nat}, depsOk l k = true → ∀ (i : Nat) (o : Oper), l[i]? = some o → ∀ e ∈ o.after, Region.binds .any e = true → e.on < k + i := by
  induction l with
  | nil => intro k _ i o h; simp at h
  | cons o r ih =>
    intro k h i p hp e he hb
    simp only [depsOk, Bool.and_eq_true] at h
    cases i with
    | zero =>
      simp only [List.getElem?_cons_zero, Option.some.injEq] at hp; subst hp
      have := List.all_eq_true.1 h.1 e.on (List.mem_map.2 ⟨e, List.mem_filter.2 ⟨by simpa using he, hb⟩, rfl⟩)
      simpa [Nat.blt_eq] using this
    | succ i =>
      have := ih h.2 i p (by simpa using hp) e he hb
      omega

theorem mem_deps {o : Oper} {d : Nat} (h : d ∈ depsOf o) : ∃ e ∈ o.after, Region.binds .any e = true ∧ e.on = d := by
  obtain ⟨e, he, rfl⟩ := List.mem_map.1 h
  obtain ⟨h1, h2⟩ := List.mem_filter.1 he
  exact ⟨e, by simpa using h1, h2, rfl⟩

theorem anc_closed {all : List Oper} (hd : depsOk all 0 = true) {L : Nat → Prop} (hL : ∀ (i : Nat) o, all[i]? = some o → L i → ∀ e ∈ o.after, Region.binds .any e = true → L e.on) :
    ∀ (i : Nat) (o : Oper), all[i]? = some o → (∀ e ∈ o.after, Region.binds .any e = true → L e.on) → ∀ j, isAnc (ancs all []) i j = true → L j := by
  intro i
  induction i using Nat.strongRecOn with
  | _ i ih =>
    intro o ho hall j hj
    have hg := ancs_get all [] i o ho
    simp only [List.length_nil, Nat.zero_add] at hg
    unfold isAnc at hj
    rw [hg, Option.getD_some] at hj
    rcases maskOf_bit hj with h | ⟨d, hd1, h⟩
    · simp at h
    · obtain ⟨e, he, hb, rfl⟩ := mem_deps hd1
      have hlt := depsOk_iff all hd i o ho e he hb
      rcases h with rfl | h
      · exact hall e he hb
      · have hil := (List.getElem?_eq_some_iff.1 ho).1
        have hlt' : e.on < all.length := by omega
        refine ih e.on (by omega) all[e.on] (List.getElem?_eq_getElem hlt') (hL e.on _ (List.getElem?_eq_getElem hlt') (hall e he hb)) j ?_
        rw [List.getElem?_take, if_pos (by omega)] at h
        exact h

section
variable {S : Sys} {c : Ctx} {Q : Exit → Act → World → Prop} {ops : Array Oper}

theorem wanted_gOn {g : G} {w : World} {n nt : Nat} {tm : Array Value} {t : List V} (h : TInv g w n nt tm t) {o : Oper} {b : Bool} (hg : gOn ops.toList o t = some b) : Region.wanted o (yielded ops tm) = b := by
  unfold gOn at hg
  unfold Region.wanted
  cases ho : o.guard with
  | none => rw [ho] at hg; simpa using hg
  | some jw =>
    obtain ⟨j, want⟩ := jw
    rw [ho] at hg
    simp only at hg ⊢
    cases hj : (ops.toList[j]?).bind (·.dst) with
    | none => rw [hj] at hg; cases hg
    | some d =>
      rw [hj] at hg
      simp only at hg
      cases hv : t[d]? with
      | none => rw [hv] at hg; cases hg
      | some v =>
        rw [hv] at hg
        obtain ⟨y1, y2⟩ := yield_some h hj hv
        split at hg
        · rename_i b' e
          cases e
          rw [(y1 b' rfl).1]
          cases hg
          cases b' <;> cases want <;> rfl
        · cases hg
        · rename_i v' e1 e2 e
          cases e
          cases hg
          rw [y2 (fun h => e2 (by rw [h])) (fun b h => e1 b (by rw [h]))]
          cases want <;> rfl
        · rename_i e; cases e

theorem mask_put {g : G} {w : World} {b : Act} {s : St} {U : List Nat} {i : Nat} {o : Oper} {u : V} {x : Value} (ho : ops.toList[i]? = some o) (hi : i ∈ U) (hU : U.Nodup)
    (hd : ∀ d, o.dst = some d → s.t[d]? = some u ∧ slotIn ops.toList (U.erase i) d = false) (hs : Sim c g w b (maskS (slotIn ops.toList U) s)) (hv : VT g w s.objs.length s.nt u x) :
    Sim c g w (b.put o.dst x) (maskS (slotIn ops.toList (U.erase i)) s) := by
  obtain ⟨t, ob, nt, df⟩ := s
  have hslot : ∀ k, o.dst ≠ some k → slotIn ops.toList (U.erase i) k = slotIn ops.toList U k := fun k hk => by
    rw [Bool.eq_iff_iff, slotIn_iff, slotIn_iff]
    constructor
    · rintro ⟨j, hj, p, hp, e⟩; exact ⟨j, List.mem_of_mem_erase hj, p, hp, e⟩
    · rintro ⟨j, hj, p, hp, e⟩
      refine ⟨j, (List.Nodup.mem_erase_iff hU).2 ⟨fun e' => ?_, hj⟩, p, hp, e⟩
      subst e'
      rw [ho] at hp; cases hp
      exact hk e
  cases hdst : o.dst with
  | none =>
    have : slotIn ops.toList (U.erase i) = slotIn ops.toList U := by funext k; exact hslot k (by rw [hdst]; simp)
    rw [this]; exact hs
  | some d =>
    obtain ⟨h1, h2⟩ := hd d hdst
    have ht : (masked (slotIn ops.toList U) t).set d u = masked (slotIn ops.toList (U.erase i)) t := by
      apply List.ext_getElem?
      intro k
      rw [List.getElem?_set, masked_length]
      by_cases hk : d = k
      · subst hk
        have hlt := (List.getElem?_eq_some_iff.1 h1).1
        simp only at hlt
        rw [if_pos rfl, if_pos hlt, masked_get, h1]
        simp [h2]
      · rw [if_neg hk, masked_get, masked_get, hslot k (by rw [hdst]; simpa using hk)]
    exact ⟨hs.wi, by
      show TInv g w ob.length nt (b.tmps.setIfInBounds d x) (masked (slotIn ops.toList (U.erase i)) t)
      rw [← ht]; exact hs.ti.set hv, hs.di⟩

/-- one that is still to come, comes now -/
theorem exec_flo {g : G} {w : World} {a : Act} {s : St} {U : List Nat} {i : Nat} {o : Oper} (ho : ops.toList[i]? = some o) (hi : i ∈ U) (hU : U.Nodup) (hf : FOK S ops.toList i s.t s.objs)
    (hlook : ∀ d ∈ looks ops.toList o, slotIn ops.toList U d = false) (hd : ∀ d, o.dst = some d → slotIn ops.toList (U.erase i) d = false)
    (hs : Sim c g w a (maskS (slotIn ops.toList U) s)) {Kc : Act → World → Prop} (hk : ∀ g w a, Sim c g w a (maskS (slotIn ops.toList (U.erase i)) s) → Kc a w) : wpOp S.P ops Q i Kc a w := by
  obtain ⟨o', u, ho', h1, h2⟩ := hf
  have : o' = o := by rw [ho] at ho'; exact (Option.some.inj ho').symm
  subst this
  obtain ⟨t, ob, nt, df⟩ := s
  have hag : ∀ d ∈ looks ops.toList o', t[d]? = (masked (slotIn ops.toList U) t)[d]? := fun d hd => by
    rw [masked_get, hlook d hd]; cases t[d]? <;> rfl
  have hop : ops[i]? = some o' := by simpa using ho
  unfold wpOp
  rw [hop]
  simp only at h1 h2 ⊢
  rw [looks_gOn hag, vflo_congr S ob (looks_ev hag)] at h2
  rcases h2 with ⟨hg, h2⟩ | ⟨hg, rfl⟩
  · rw [wanted_gOn hs.ti hg, if_pos rfl]
    refine .inl (sound_flo (S := S) (K := fun v s' => v = u ∧ s' = maskS (slotIn ops.toList U) ⟨t, ob, nt, df⟩) (KP := fun _ _ => False) (next := Kc) ?_ hs ?_)
    · refine ⟨fun v x s' g' w' b hk' hs' _ hv => ?_, fun _ _ _ _ _ _ h => h.elim⟩
      obtain ⟨rfl, rfl⟩ := hk'
      exact hk _ _ _ (mask_put ho hi hU (fun d hd' => ⟨h1 d hd', hd d hd'⟩) hs' hv)
    · obtain ⟨v, rfl, h3⟩ := det_vflo S o' _ ob _ h2
      exact h3 _ ⟨rfl, rfl⟩
  · rw [wanted_gOn hs.ti hg, if_neg (by simp)]
    exact hk _ _ _ (mask_put ho hi hU (fun d hd' => ⟨h1 d hd', hd d hd'⟩) hs (.of (.tup rfl (by simp)) rfl))


theorem tinv_weaker {g : G} {w : World} {n nt : Nat} {tm : Array Value} {t t' : List V} (h : TInv g w n nt tm t) (hl : t'.length = t.length) (ht : ∀ (k : Nat) v, t'[k]? = some v → v = .undef ∨ t[k]? = some v) : TInv g w n nt tm t' :=
  ⟨by rw [hl]; exact h.size, fun k v x hv hx => by
    rcases ht k v hv with rfl | h1
    · exact ⟨.undef, trivial⟩
    · exact h.rel k v x h1 hx⟩

theorem dstIn_iff {o : Option Tmp} {l : List Nat} : dstIn o l = true ↔ ∃ d, o = some d ∧ d ∈ l := by
  cases o with
  | none => simp [dstIn]
  | some d => simp [dstIn, memN_iff]

theorem sameDst_iff {o p : Option Tmp} : sameDst o p = true ↔ ∃ d, o = some d ∧ p = some d := by
  cases o <;> cases p <;> simp [sameDst]
  exact ⟨fun h => h.symm, fun h => h.symm⟩

/-- what stands of those that have come, as far as the reckoning goes -/
structure DoneOk (all : List Oper) (done : List Nat) : Prop where
  self : ∀ i ∈ done, ∀ o, all[i]? = some o → dstIn o.dst (looks all o) = false
  same : ∀ i ∈ done, ∀ j ∈ done, i ≠ j → ∀ o p, all[i]? = some o → all[j]? = some p → sameDst o.dst p.dst = false
  look : ∀ i ∈ done, ∀ j ∈ done, i ≠ j → ∀ o p, all[i]? = some o → all[j]? = some p → dstIn p.dst (looks all o) = true → isAnc (ancs all []) i j = true

structure HeadOk (all : List Oper) (n : Nat) (fl : Bool) (r : List (Nat × Bool)) (done : List Nat) (o : Oper) : Prop where
  op : all[n]? = some o
  apart : ∀ i ∈ done, ∃ p, all[i]? = some p ∧ sameDst o.dst p.dst = false ∧ (fl = true → dstIn o.dst (looks all p) = false) ∧ (dstIn p.dst (looks all o) = true → isAnc (ancs all []) n i = true)
  self : fl = true → dstIn o.dst (looks all o) = false
  last : fl = false → ∀ j ∈ r, isAnc (ancs all []) j.1 n = true
  rest : planOk all (ancs all []) r (if fl then n :: done else done) = true

theorem planOk_cons {all : List Oper} {n : Nat} {fl : Bool} {r : List (Nat × Bool)} {done : List Nat} (h : planOk all (ancs all []) ((n, fl) :: r) done = true) : ∃ o, HeadOk all n fl r done o := by
  unfold planOk at h
  rw [Bool.and_eq_true] at h
  obtain ⟨h, hr⟩ := h
  split at h
  case h_2 => cases h
  rename_i o ho
  rw [Bool.and_eq_true, Bool.and_eq_true] at h
  obtain ⟨⟨h1, h2⟩, h3⟩ := h
  refine ⟨o, ho, fun i hi => ?_, fun hf => by subst hf; simpa using h2, fun hf => by subst hf; simpa using h3, hr⟩
  have := List.all_eq_true.1 h1 i hi
  split at this
  case h_2 => cases this
  rename_i p hp
  rw [Bool.and_eq_true, Bool.and_eq_true] at this
  obtain ⟨⟨a1, a2⟩, a3⟩ := this
  refine ⟨p, hp, by simpa using a1, fun hf => by subst hf; simpa using a2, fun hd => ?_⟩
  rw [hd] at a3; simpa using a3

theorem DoneOk.cons {all : List Oper} {done : List Nat} {n : Nat} {o : Oper} {r : List (Nat × Bool)} (h : DoneOk all done) (hh : HeadOk all n true r done o) : DoneOk all (n :: done) := by
  have hop : ∀ p, all[n]? = some p → p = o := fun p hp => by rw [hh.op] at hp; exact (Option.some.inj hp).symm
  have ap : ∀ i ∈ done, ∀ p, all[i]? = some p → sameDst o.dst p.dst = false ∧ dstIn o.dst (looks all p) = false ∧ (dstIn p.dst (looks all o) = true → isAnc (ancs all []) n i = true) := fun i hi p hp => by
    obtain ⟨p', hp', a1, a2, a3⟩ := hh.apart i hi
    rw [hp] at hp'; cases hp'
    exact ⟨a1, a2 rfl, a3⟩
  have symm : ∀ a b : Option Tmp, sameDst a b = false → sameDst b a = false := fun a b h => by
    cases hb : sameDst b a with
    | false => rfl
    | true =>
      obtain ⟨d, e1, e2⟩ := sameDst_iff.1 hb
      rw [sameDst_iff.2 ⟨d, e2, e1⟩] at h; cases h
  refine ⟨fun i hi p hp => ?_, fun i hi j hj hij p q hp hq => ?_, fun i hi j hj hij p q hp hq hd => ?_⟩
  · rcases List.mem_cons.1 hi with rfl | hi
    · rw [hop p hp]; exact hh.self rfl
    · exact h.self i hi p hp
  · rcases List.mem_cons.1 hi with hi | hi <;> rcases List.mem_cons.1 hj with hj | hj
    · exact absurd (hi.trans hj.symm) hij
    · subst hi; rw [hop p hp]; exact (ap j ‹j ∈ done› q hq).1
    · subst hj; rw [hop q hq]; exact symm _ _ (ap i ‹i ∈ done› p hp).1
    · exact h.same i hi j hj hij p q hp hq
  · rcases List.mem_cons.1 hi with hi | hi <;> rcases List.mem_cons.1 hj with hj | hj
    · exact absurd (hi.trans hj.symm) hij
    · subst hi; rw [hop p hp] at hd; exact (ap j ‹j ∈ done› q hq).2.2 hd
    · subst hj; rw [hop q hq] at hd; rw [(ap i ‹i ∈ done› p hp).2.1] at hd; cases hd
    · exact h.look i hi j hj hij p q hp hq hd

theorem put_iff {t : List V} {ob : List VObj} {nt : Nat} {df : List (Fn × List V × List V)} {dst : Option Tmp} {v : V} {K : St → Prop} (h : St.put ⟨t, ob, nt, df⟩ dst v K) :
    ∃ t', K ⟨t', ob, nt, df⟩ ∧ t'.length = t.length ∧ (∀ d, dst = some d → t'[d]? = some v) ∧ ∀ k, dst ≠ some k → t'[k]? = t[k]? := by
  cases dst with
  | none => exact ⟨t, h, rfl, by simp, fun _ _ => rfl⟩
  | some d =>
    simp only [St.put, force_eq] at h
    obtain ⟨hlt, h⟩ := setK_iff h
    refine ⟨_, h, by simp, fun d' e => ?_, fun k hk => ?_⟩
    · cases e; rw [List.getElem?_set_self hlt]
    · rw [List.getElem?_set_ne (fun e => hk (by rw [e]))]

theorem unlisted_iff {listed : Array Bool} {i : Nat} : listed.getD i true = false ↔ i < listed.size ∧ listed.getD i false = false := by
  by_cases h : i < listed.size <;> simp [Array.getD, h]

theorem listed_set {listed : Array Bool} {i j : Nat} (hi : i < listed.size) : (listed.setIfInBounds i true).getD j false = true ↔ j = i ∨ listed.getD j false = true := by
  by_cases h : i = j
  · subst h; simp [Array.getD, hi]
  · rw [getD_set_ne false h]
    exact ⟨.inr, fun h' => h'.resolve_left fun e => h e.symm⟩

theorem sim_put {g : G} {w : World} {b : Act} {m : Nat → Bool} {t t' : List V} {ob : List VObj} {nt : Nat} {df : List (Fn × List V × List V)} {dst : Option Tmp} {v : V} {x : Value} (hs : Sim c g w b (maskS m ⟨t, ob, nt, df⟩)) (hv : VT g w ob.length nt v x)
    (hl : t'.length = t.length) (h1 : ∀ d, dst = some d → t'[d]? = some v) (h2 : ∀ k, dst ≠ some k → t'[k]? = t[k]?) : Sim c g w (b.put dst x) (maskS m ⟨t', ob, nt, df⟩) := by
  cases dst with
  | none =>
    have : t' = t := List.ext_getElem? fun k => h2 k (by simp)
    rw [this]; exact hs
  | some d =>
    refine ⟨hs.wi, tinv_weaker (hs.ti.set (i := d) hv) (by simp [masked_length, hl, maskS]) fun k u hu => ?_, hs.di⟩
    simp only [maskS, masked_get] at hu
    by_cases hk : d = k
    · subst hk
      rw [h1 d rfl] at hu
      simp only [Option.map_some, Option.some.injEq] at hu
      split at hu
      · exact .inl hu.symm
      · refine .inr ?_
        have : d < t.length := by rw [← hl]; exact (List.getElem?_eq_some_iff.1 (h1 d rfl)).1
        show ((masked m t).set d v)[d]? = _
        rw [List.getElem?_set_self (by rw [masked_length]; exact this), hu]
    · rw [h2 k (by simpa using hk)] at hu
      refine .inr ?_
      show ((masked m t).set d v)[k]? = _
      rw [List.getElem?_set_ne hk, masked_get]; exact hu

theorem draw_any (hm : CallMono S) (hS : ∀ g args ob K, S.call g args ob K → VCall0 S.P g args ob K) {K : St → Prop} (hk : ∀ s g w a, K s → Sim c g w a s → Q .normal a w) (hd : depsOk ops.toList 0 = true) :
    ∀ (N : Nat) (π : List (Nat × Bool)) (done : List Nat) (s : St) (fuel : Nat) (listed : Array Bool) (U : List Nat) (g : G) (w : World) (a : Act), π.length + fuel ≤ N →
      planOk ops.toList (ancs ops.toList []) π done = true → (π.map (·.1)).Nodup → vdraw S ops.toList (ancs ops.toList []) π done s K → DoneOk ops.toList done →
      Sim c g w a (maskS (slotIn ops.toList U) s) → U.Nodup → (∀ i ∈ U, i ∈ done ∧ listed.getD i true = false ∧ i ∉ π.map (·.1) ∧ FOK S ops.toList i s.t s.objs) →
      (∀ i, i < ops.size → listed.getD i true = false → i ∈ U ∨ i ∈ π.map (·.1)) → (∀ i ∈ π.map (·.1), listed.getD i true = false) → listed.size = ops.size →
      (∀ (i : Nat) o, ops.toList[i]? = some o → listed.getD i false = true → ∀ e ∈ o.after, Region.binds .any e = true → listed.getD e.on false = true) → U.length + π.length ≤ fuel →
      wpAny S.P .any ops Q fuel listed a w := by
  have hmask : ∀ s : St, maskS (slotIn ops.toList []) s = s := fun s => by
    obtain ⟨t, ob, nt, df⟩ := s
    have : masked (slotIn ops.toList []) t = t := List.ext_getElem? fun k => by
      rw [masked_get]; simp [slotIn]
    simp only [maskS, this]
  -- all have come
  have fin : ∀ (s : St) (g : G) (w : World) (a : Act), vdraw S ops.toList (ancs ops.toList []) [] [] s K ∨ K s → Sim c g w a (maskS (slotIn ops.toList []) s) → Q .normal a w := fun s g w a h hs => by
    rw [hmask] at hs
    rcases h with h | h
    · obtain ⟨t, ob, nt, df⟩ := s; exact hk _ _ _ _ h hs
    · exact hk _ _ _ _ h hs
  intro N
  induction N with
  | zero =>
    intro π done s fuel listed U g w a hN hplan hnd h hdone hs hUn hU hcov hun hsize hcl hcount
    have hf : fuel = 0 := by omega
    have hπ : π = [] := List.eq_nil_of_length_eq_zero (by omega)
    have hU0 : U = [] := List.eq_nil_of_length_eq_zero (by omega)
    subst hf; subst hπ; subst hU0
    refine ⟨?_, fin s g w a (.inr (by obtain ⟨t, ob, nt, df⟩ := s; exact h)) hs⟩
    cases hr : Region.ready .any ops listed with
    | nil => rfl
    | cons j r =>
      obtain ⟨h1, o, h2, _⟩ := mem_ready.1 (show j ∈ Region.ready .any ops listed by rw [hr]; simp)
      have := hcov j (Array.getElem?_eq_some_iff.1 h2).1 h1
      simp at this
  | succ N ih =>
    intro π done s fuel listed U g w a hN hplan hnd h hdone hs hUn hU hcov hun hsize hcl hcount
    cases fuel with
    | zero =>
      have hπ : π = [] := List.eq_nil_of_length_eq_zero (by omega)
      have hU0 : U = [] := List.eq_nil_of_length_eq_zero (by omega)
      subst hπ; subst hU0
      refine ⟨?_, fin s g w a (.inr (by obtain ⟨t, ob, nt, df⟩ := s; exact h)) hs⟩
      cases hr : Region.ready .any ops listed with
      | nil => rfl
      | cons j r =>
        obtain ⟨h1, o, h2, _⟩ := mem_ready.1 (show j ∈ Region.ready .any ops listed by rw [hr]; simp)
        have := hcov j (Array.getElem?_eq_some_iff.1 h2).1 h1
        simp at this
    | succ f =>
      have hsizeL : ops.toList.length = ops.size := by simp
      have hnoU : ∀ i ∈ U, ¬ listed.getD i false = true := fun i hi h => by
        have := (unlisted_iff.1 (hU i hi).2.1).2; rw [this] at h; cases h
      have hnoπ : ∀ i ∈ π.map (·.1), ¬ listed.getD i false = true := fun i hi h => by
        have := (unlisted_iff.1 (hun i hi)).2; rw [this] at h; cases h
      refine ⟨fun hr => ?_, fun i hi => ?_⟩
      · -- nothing is ready: all have come
        have hall : ∀ k, k < ops.size → listed.getD k false = true := by
          intro k
          induction k using Nat.strongRecOn with
          | _ k ihk =>
            intro hk'
            cases hl : listed.getD k false with
            | true => rfl
            | false =>
              have hop : ops[k]? = some ops[k] := Array.getElem?_eq_getElem hk'
              have : k ∈ Region.ready .any ops listed := mem_ready.2 ⟨unlisted_iff.2 ⟨by omega, hl⟩, ops[k], hop, fun e he hb => by
                have := depsOk_iff ops.toList hd k ops[k] (by simp) e he hb
                exact ihk e.on (by omega) (by omega)⟩
              rw [hr] at this; cases this
        have hU0 : U = [] := by
          cases U with
          | nil => rfl
          | cons i U =>
            have h1 := unlisted_iff.1 (hU i (by simp)).2.1
            exact absurd (hall i (by omega)) (hnoU i (by simp))
        have hπ0 : π = [] := by
          cases π with
          | nil => rfl
          | cons p r =>
            have h1 := unlisted_iff.1 (hun p.1 (by simp))
            exact absurd (hall p.1 (by omega)) (hnoπ p.1 (by simp))
        subst hU0; subst hπ0
        exact fin s g w a (.inr (by obtain ⟨t, ob, nt, df⟩ := s; exact h)) hs
      · obtain ⟨hi1, o, ho, hdeps⟩ := mem_ready.1 hi
        have hoL : ops.toList[i]? = some o := by simpa using ho
        have hilt : i < ops.size := (Array.getElem?_eq_some_iff.1 ho).1
        have hanc : ∀ j, isAnc (ancs ops.toList []) i j = true → listed.getD j false = true := anc_closed hd (L := fun k => listed.getD k false = true) (fun k p hp hL e he hb => hcl k p hp hL e he hb) i o hoL hdeps
        have hls : ∀ j, (listed.setIfInBounds i true).getD j false = true ↔ j = i ∨ listed.getD j false = true := fun j => listed_set (by omega)
        have hcl' : ∀ (k : Nat) p, ops.toList[k]? = some p → (listed.setIfInBounds i true).getD k false = true → ∀ e ∈ p.after, Region.binds .any e = true → (listed.setIfInBounds i true).getD e.on false = true := fun k p hp hL e he hb => by
          rw [hls] at hL ⊢
          rcases hL with rfl | hL
          · rw [hoL] at hp; cases hp; exact .inr (hdeps e he hb)
          · exact .inr (hcl k p hp hL e he hb)
        have hun' : ∀ j, j ≠ i → (listed.setIfInBounds i true).getD j true = listed.getD j true := fun j hj => getD_set_ne true (Ne.symm hj)
        have hself' : ¬ (listed.setIfInBounds i true).getD i true = false := fun h => by
          have := (unlisted_iff.1 h).2
          rw [(hls i).2 (.inl rfl)] at this; cases this
        rcases hcov i hilt hi1 with hiU | hiπ
        · -- it is one that is still to come
          obtain ⟨b1, b2, b3, b4⟩ := hU i hiU
          refine exec_flo hoL hiU hUn b4 (fun d hdl => ?_) (fun d hdd => ?_) hs fun g' w' a' hs' => ?_
          · cases hsl : slotIn ops.toList U d with
            | false => rfl
            | true =>
              obtain ⟨j, hj, p, hp, e⟩ := slotIn_iff.1 hsl
              by_cases hji : j = i
              · subst hji
                rw [hoL] at hp; cases hp
                have := hdone.self j b1 o hoL
                rw [dstIn_iff.2 ⟨d, e, hdl⟩] at this; cases this
              · have := hdone.look i b1 j (hU j hj).1 (Ne.symm hji) o p hoL hp (dstIn_iff.2 ⟨d, e, hdl⟩)
                exact absurd (hanc j this) (hnoU j hj)
          · cases hsl : slotIn ops.toList (U.erase i) d with
            | false => rfl
            | true =>
              obtain ⟨j, hj, p, hp, e⟩ := slotIn_iff.1 hsl
              obtain ⟨hji, hj⟩ := (List.Nodup.mem_erase_iff hUn).1 hj
              have := hdone.same i b1 j (hU j hj).1 (Ne.symm hji) o p hoL hp
              rw [sameDst_iff.2 ⟨d, hdd, e⟩] at this; cases this
          · have hpos : 0 < U.length := List.length_pos_of_mem hiU
            refine ih π done s f (listed.setIfInBounds i true) (U.erase i) g' w' a' (by omega) hplan hnd h hdone hs' (hUn.erase i) (fun j hj => ?_) (fun j hj hjl => ?_) (fun j hj => ?_) (by simp [hsize]) hcl' (by rw [List.length_erase_of_mem hiU]; omega)
            · obtain ⟨hji, hj⟩ := (List.Nodup.mem_erase_iff hUn).1 hj
              obtain ⟨q1, q2, q3, q4⟩ := hU j hj
              exact ⟨q1, by rw [hun' j hji]; exact q2, q3, q4⟩
            · have hji : j ≠ i := fun e => by subst e; exact hself' hjl
              rw [hun' j hji] at hjl
              rcases hcov j hj hjl with h | h
              · exact .inl ((List.Nodup.mem_erase_iff hUn).2 ⟨hji, h⟩)
              · exact .inr h
            · have hji : j ≠ i := fun e => by subst e; exact b3 hj
              rw [hun' j hji]; exact hun j hj
        · -- the reckoning goes on
          cases π with
          | nil => simp at hiπ
          | cons p r =>
            obtain ⟨n, fl⟩ := p
            obtain ⟨o', hh⟩ := planOk_cons hplan
            have hnr : n ∉ r.map (·.1) ∧ (r.map (·.1)).Nodup := by simpa using hnd
            cases fl with
            | true =>
              have hU' : ∀ {t t' : List V} {ob : List VObj} {v : V}, (∀ d, o'.dst = some d → t'[d]? = some v) → (∀ k, o'.dst ≠ some k → t'[k]? = t[k]?) →
                  ((gOn ops.toList o' t = some true ∧ vflo S o' t ob fun u => u = v) ∨ (gOn ops.toList o' t = some false ∧ v = .tup [])) → (∀ j ∈ U, FOK S ops.toList j t ob) → ∀ j ∈ n :: U, FOK S ops.toList j t' ob :=
                fun {t t' ob v} e1 e2 e3 e4 j hj => by
                  have hno : ∀ l : List Nat, dstIn o'.dst l = false → ∀ d ∈ l, t[d]? = t'[d]? := fun l hl d hdl => (e2 d fun e => by rw [dstIn_iff.2 ⟨d, e, hdl⟩] at hl; cases hl).symm
                  rcases List.mem_cons.1 hj with rfl | hj
                  · have hag := hno _ (hh.self rfl)
                    exact ⟨o', v, hh.op, e1, by rw [← looks_gOn hag, ← vflo_congr S ob (looks_ev hag)]; exact e3⟩
                  · obtain ⟨p, hp, a1, a2, a3⟩ := hh.apart j (hU j hj).1
                    exact (e4 j hj).congr hp (hno _ (a2 rfl)) fun d hdd => (e2 d fun e => by rw [sameDst_iff.2 ⟨d, e, hdd⟩] at a1; cases a1).symm
              obtain ⟨t, ob, nt, df⟩ := s
              have hgo : ∀ (t' : List V) (v : V), t'.length = t.length → (∀ d, o'.dst = some d → t'[d]? = some v) → (∀ k, o'.dst ≠ some k → t'[k]? = t[k]?) →
                  ((gOn ops.toList o' t = some true ∧ vflo S o' t ob fun u => u = v) ∨ (gOn ops.toList o' t = some false ∧ v = .tup [])) → vdraw S ops.toList (ancs ops.toList []) r (n :: done) ⟨t', ob, nt, df⟩ K →
                  wpOp S.P ops Q i (wpAny S.P .any ops Q f (listed.setIfInBounds i true)) a w := fun t' v e0 e1 e2 e3 hv => by
                refine (ih r (n :: done) ⟨t', ob, nt, df⟩ (f + 1) listed (n :: U) g w a (by simp at hN; omega) hh.rest hnr.2 hv (hdone.cons hh) ?_ ?_ (fun j hj => ?_) (fun j hj hjl => ?_) (fun j hj => hun j (by simp at hj ⊢; exact .inr hj)) hsize hcl (by simp at hcount ⊢; omega)).2 i hi
                · refine ⟨hs.wi, tinv_weaker hs.ti (by simp [maskS, masked_length, e0]) fun k u hu => ?_, hs.di⟩
                  simp only [maskS, masked_get] at hu ⊢
                  by_cases hsl : slotIn ops.toList (n :: U) k = true
                  · cases ht' : t'[k]? with
                    | none => rw [ht'] at hu; cases hu
                    | some u' => rw [ht'] at hu; simp [hsl] at hu; exact .inl hu.symm
                  · have hk1 : o'.dst ≠ some k := fun e => hsl (slotIn_iff.2 ⟨n, by simp, o', hh.op, e⟩)
                    have hk2 : slotIn ops.toList U k = false := by
                      cases h : slotIn ops.toList U k with
                      | false => rfl
                      | true =>
                        obtain ⟨j, hj, p, hp, e⟩ := slotIn_iff.1 h
                        exact absurd (slotIn_iff.2 ⟨j, by simp [hj], p, hp, e⟩) hsl
                    rw [e2 k hk1] at hu
                    simp only [hsl, hk2] at hu ⊢
                    exact .inr hu
                · exact List.nodup_cons.2 ⟨fun hnU => (hU n hnU).2.2.1 (by simp), hUn⟩
                · refine ⟨?_, ?_, ?_, hU' e1 e2 e3 (fun j hj => (hU j hj).2.2.2) j hj⟩
                  · rcases List.mem_cons.1 hj with rfl | hj
                    · simp
                    · exact List.mem_cons_of_mem _ (hU j hj).1
                  · rcases List.mem_cons.1 hj with rfl | hj
                    · exact hun j (by simp)
                    · exact (hU j hj).2.1
                  · rcases List.mem_cons.1 hj with rfl | hj
                    · exact hnr.1
                    · exact fun h => (hU j hj).2.2.1 (by simp at h ⊢; exact .inr h)
                · rcases hcov j hj hjl with h | h
                  · exact .inl (by simp [h])
                  · simp at h
                    rcases h with rfl | h
                    · exact .inl (by simp)
                    · exact .inr (by simpa using h)
              simp only [vdraw, hh.op] at h
              rcases guardK_iff h with ⟨hg, h⟩ | ⟨hg, h⟩
              · obtain ⟨v, hv, h2⟩ := det_vflo S o' t ob _ h
                obtain ⟨t', hv, e0, e1, e2⟩ := put_iff hv
                exact hgo t' v e0 e1 e2 (.inl ⟨hg, h2 _ rfl⟩) hv
              · obtain ⟨t', hv, e0, e1, e2⟩ := put_iff h
                exact hgo t' (.tup []) e0 e1 e2 (.inr ⟨hg, rfl⟩) hv
            | false =>
              have hin : i = n := by
                have hiπ : i = n ∨ i ∈ r.map (·.1) := by simpa only [List.map_cons, List.mem_cons] using hiπ
                rcases hiπ with rfl | hr
                · rfl
                · obtain ⟨p, hp, hpi⟩ := List.mem_map.1 hr
                  have := hh.last rfl p hp
                  rw [hpi] at this
                  exact absurd (hanc n this) (hnoπ n (by simp))
              subst hin
              have hoo : o' = o := by have := hh.op; rw [hoL] at this; exact (Option.some.inj this).symm
              subst hoo
              have hnoanc : ∀ j ∈ U, isAnc (ancs ops.toList []) i j = false := fun j hj => by
                cases h : isAnc (ancs ops.toList []) i j with
                | false => rfl
                | true => exact absurd (hanc j h) (hnoU j hj)
              have hlook : ∀ d ∈ looks ops.toList o', slotIn ops.toList U d = false := fun d hdl => by
                cases hsl : slotIn ops.toList U d with
                | false => rfl
                | true =>
                  obtain ⟨j, hj, p, hp, e⟩ := slotIn_iff.1 hsl
                  obtain ⟨p', hp', a1, a2, a3⟩ := hh.apart j (hU j hj).1
                  rw [hp] at hp'; cases hp'
                  have := a3 (dstIn_iff.2 ⟨d, e, hdl⟩)
                  rw [hnoanc j hj] at this; cases this
              obtain ⟨t, ob, nt, df⟩ := s
              have hag : ∀ d ∈ looks ops.toList o', t[d]? = (masked (slotIn ops.toList U) t)[d]? := fun d hd => by
                rw [masked_get, hlook d hd]; cases t[d]? <;> rfl
              have hgo : ∀ (t1 t2 : List V) (ob' : List VObj) (nt' : Nat) (df' : List (Fn × List V × List V)) (v : V) (x : Value) (g' : G) (w' : World) (b : Act), t2.length = t1.length → (∀ d, o'.dst = some d → t2[d]? = some v) → (∀ k, o'.dst ≠ some k → t2[k]? = t1[k]?) →
                  (St.re S ops.toList (ancs ops.toList []) i done ⟨t2, ob', nt', df'⟩ fun s => vdraw S ops.toList (ancs ops.toList []) r done s K) → Sim c g' w' b (maskS (slotIn ops.toList U) ⟨t1, ob', nt', df'⟩) → VT g' w' ob'.length nt' v x →
                  wpAny S.P .any ops Q f (listed.setIfInBounds i true) (b.put o'.dst x) w' := fun t1 t2 ob' nt' df' v x g' w' b e0 e1 e2 hre hsb hv => by
                obtain ⟨h1, h2⟩ := recheck_iff hre
                refine ih r done ⟨t2, ob', nt', df'⟩ f (listed.setIfInBounds i true) U g' w' _ (by simp at hN; omega) hh.rest hnr.2 h1 hdone (sim_put hsb hv e0 e1 e2) hUn (fun j hj => ?_) (fun j hj hjl => ?_) (fun j hj => ?_) (by simp [hsize]) hcl' (by simp at hcount; omega)
                · obtain ⟨q1, q2, q3, q4⟩ := hU j hj
                  have hji : j ≠ i := fun e => by subst e; exact q3 (by simp)
                  exact ⟨q1, by rw [hun' j hji]; exact q2, fun h => q3 (by simp at h ⊢; exact .inr h), h2 j q1 (hnoanc j hj)⟩
                · have hji : j ≠ i := fun e => by subst e; exact hself' hjl
                  rw [hun' j hji] at hjl
                  rcases hcov j hj hjl with h | h
                  · exact .inl h
                  · simp at h
                    rcases h with rfl | h
                    · exact absurd rfl hji
                    · exact .inr (by simpa using h)
                · have hji : j ≠ i := fun e => by subst e; exact hnr.1 hj
                  rw [hun' j hji]; exact hun j (by simp at hj ⊢; exact .inr hj)
              simp only [vdraw, hh.op] at h
              unfold wpOp
              rw [ho]
              simp only
              rcases guardK_iff h with ⟨hg, h⟩ | ⟨hg, h⟩
              · rw [looks_gOn hag] at hg
                rw [wanted_gOn hs.ti hg, if_pos rfl]
                refine .inl (sound_op (S := S) hS (next := wpAny S.P .any ops Q f (listed.setIfInBounds i true)) ?_ hs
                  (vop_mask S hm (m := slotIn ops.toList U) (fun x hx d e => hlook d (List.mem_append_left _ (List.mem_filterMap.2 ⟨x, hx, by rw [e]⟩))) h))
                refine ⟨fun v x s' g' w' b hk' hs' _ hv => ?_, fun _ _ _ _ _ _ h => h.elim⟩
                obtain ⟨s1, hk', rfl⟩ := hk'
                obtain ⟨t1, ob1, nt1, df1⟩ := s1
                obtain ⟨t2, hk', e0, e1, e2⟩ := put_iff hk'
                exact hgo t1 t2 ob1 nt1 df1 v x g' w' b e0 e1 e2 hk' hs' hv
              · rw [looks_gOn hag] at hg
                rw [wanted_gOn hs.ti hg, if_neg (by simp)]
                obtain ⟨t2, hk', e0, e1, e2⟩ := put_iff h
                exact hgo t t2 ob nt df (.tup []) undef g w a e0 e1 e2 hk' hs (.of (.tup rfl (by simp)) rfl)

theorem draw_sound (hm : CallMono S) (hS : ∀ g args ob K, S.call g args ob K → VCall0 S.P g args ob K) {id : Nat} {s : St} {K : St → Prop} {g : G} {w : World} {a : Act}
    (h : drawOk S.P ops.toList (planOf S.mu ops.toList) = true ∧ vdraw S ops.toList (ancs ops.toList []) (planOf S.mu ops.toList) [] s K) (hk : ∀ s g w a, K s → Sim c g w a s → Q .normal a w) (hs : Sim c g w a s) :
    (Code.region id ops true).wp S.P Q a w := by
  obtain ⟨hok, h⟩ := h
  simp only [drawOk, Bool.and_eq_true] at hok
  obtain ⟨⟨⟨⟨h1, h2⟩, h3⟩, h4⟩, h5⟩ := hok
  refine wp_region_any h1 ?_
  have hs' : Sim c g w.drew a s := ⟨hs.wi.drew, (Ext.drew g w s.objs.length s.nt).tinv hs.ti, (Ext.drew g w s.objs.length s.nt).drel hs.di⟩
  have hmask : maskS (slotIn ops.toList []) s = s := by
    obtain ⟨t, ob, nt, df⟩ := s
    have : masked (slotIn ops.toList []) t = t := List.ext_getElem? fun k => by
      rw [masked_get]; simp [slotIn]
    simp only [maskS, this]
  have hnd := nodupN_iff h3
  have hin : ∀ i, i < ops.size → i ∈ (planOf S.mu ops.toList).map (·.1) := fun i hi => allIn_iff h4 i (by simpa using hi)
  have hlt : ∀ i ∈ (planOf S.mu ops.toList).map (·.1), i < ops.size := by
    have : ∀ (π : List (Nat × Bool)) (done : List Nat), planOk ops.toList (ancs ops.toList []) π done = true → ∀ i ∈ π.map (·.1), i < ops.size := by
      intro π
      induction π with
      | nil => intro _ _ i hi; simp at hi
      | cons p r ih =>
        obtain ⟨n, fl⟩ := p
        intro done h i hi
        obtain ⟨o, hh⟩ := planOk_cons h
        have hi : i = n ∨ i ∈ r.map (·.1) := by simpa only [List.map_cons, List.mem_cons] using hi
        rcases hi with rfl | hr
        · have := (List.getElem?_eq_some_iff.1 hh.op).1; simpa using this
        · exact ih _ hh.rest i hr
    exact this _ _ h5
  have hun : ∀ i, i < ops.size → (Array.replicate ops.size false).getD i true = false := fun i hi => by simp [Array.getD, hi]
  have hlen : (planOf S.mu ops.toList).length ≤ ops.size := by
    have : ((planOf S.mu ops.toList).map (·.1)).length ≤ (List.range ops.size).length := List.Nodup.length_le_of_subset hnd fun i hi => by simpa using hlt i hi
    simpa using this
  exact draw_any hm hS hk h2 _ (planOf S.mu ops.toList) [] s ops.size _ [] g w.drew a (Nat.le_refl _) h5 hnd h ⟨by simp, by simp, by simp⟩ (by rw [hmask]; exact hs') .nil (by simp) (fun i hi _ => .inr (hin i hi))
    (fun i hi => hun i (hlt i hi)) (by simp) (fun i o _ h => by simp [Array.getD] at h) (by simpa using hlen)

end
end VL

namespace VL
open Go
set_option linter.unusedVariables false
set_option linter.unusedSimpArgs false

section
variable {S : Sys} {c : Ctx} {Q : Exit → Act → World → Prop}

theorem sound_code (hm : CallMono S) (hS : ∀ g args ob K, S.call g args ob K → VCall0 S.P g args ob K)
    (hL : ∀ (code : Code) (s : St) (K : Ex → St → Prop) (Q : Exit → Act → World → Prop) (g : G) (w : World) (a : Act), S.loop code s K → Fits c K Q → Sim c g w a s → (Code.loop code).wp S.P Q a w)
    (hT : ∀ (code : Code) (s : St) (K : Ex → St → Prop) (Q : Exit → Act → World → Prop) (g : G) (w : World) (a : Act), S.step code s K → Fits c K Q → Sim c g w a s → code.wp S.P Q a w) :
    ∀ (code : Code) (s : St) (K : Ex → St → Prop) (Q : Exit → Act → World → Prop) (g : G) (w : World) (a : Act), vwp S code s K → Fits c K Q → Sim c g w a s → code.wp S.P Q a w := by
  intro code
  induction code with
  | skip => intro s K Q g w a h hf hs; exact wp_skip (hf.normal _ _ _ _ h hs)
  | region id ops draw =>
    intro s K Q g w a h hf hs
    cases draw with
    | true => exact draw_sound hm hS h (fun s g w a hk hs => hf.normal s g w a hk hs) hs
    | false => exact wp_region_list (sound_ops hS (fun s g w a hk hs => hf.normal s g w a hk hs) (fun v x s g w a hk hs hv => hf.pan v x s g w a hk hs hv) _ s g w a hs h)
  | seq x y ihx ihy =>
    intro s K Q g w a h hf hs
    refine wp_seq (ihx s _ _ g w a h ?_ hs)
    exact ⟨fun s g w a hk hs => hT y s K Q g w a hk hf hs, fun i s g w a hk hs => hf.exit i s g w a hk hs, fun s g w a hk hs => hf.ret s g w a hk hs, fun v x s g w a hk hs hv => hf.pan v x s g w a hk hs hv⟩
  | cond x a' b' iha ihb =>
    intro s K Q g w a h hf hs
    obtain ⟨t, ob, nt, df⟩ := s
    obtain ⟨v, hv, hk⟩ := ev_sound hs.ti h
    cases v <;> try exact hk.elim
    rename_i b
    have hx : a.eval x = .bool b := by
      have := hv.rel
      generalize a.eval x = e at this
      cases this; rfl
    rcases bif_elim hk with ⟨rfl, hk⟩ | ⟨rfl, hk⟩
    · exact wp_cond_true hx (iha _ K Q g w a hk hf hs)
    · exact wp_cond_false hx (ihb _ K Q g w a hk hf hs)
  | block i x ih =>
    intro s K Q g w a h hf hs
    refine wp_block (ih s _ _ g w a h ?_ hs)
    refine ⟨fun s g w a hk hs => hf.normal s g w a hk hs, fun j s g w a hk hs => ?_, fun s g w a hk hs => hf.ret s g w a hk hs, fun v x s g w a hk hs hv => hf.pan v x s g w a hk hs hv⟩
    simp only at hk
    by_cases e : j = i
    · subst e
      simp only [Nat.beq_refl] at hk
      simp only [Exit.inBlock, if_true]
      exact hf.normal _ _ _ _ hk hs
    · have hb : Nat.beq j i = false := by cases hb : Nat.beq j i with
        | true => exact absurd (Nat.eq_of_beq_eq_true hb) e
        | false => rfl
      rw [hb] at hk
      simp only [Exit.inBlock, if_neg e]
      exact hf.exit _ _ _ _ _ hk hs
  | loop x ih => intro s K Q g w a h hf hs; exact hL x s K Q g w a h hf hs
  | exit i => intro s K Q g w a h hf hs; exact wp_exit (hf.exit _ _ _ _ _ h hs)
  | ret => intro s K Q g w a h hf hs; exact wp_ret (hf.ret _ _ _ _ h hs)
  | _ => intro s K Q g w a h hf hs; exact h.elim

end
end VL

namespace VL
open Go
set_option linter.unusedVariables false
set_option linter.unusedSimpArgs false

section
variable {c : Ctx} {g : G} {w : World} {ob : List VObj} {nt : Nat}

theorem ORel.flat {g g' : G} {w : World} {n n' nt nt' b : Nat} {x : VObj} (hI : g'.I = g.I) (hx : ∀ wr T cs, x ≠ .cells wr T cs) (h : ORel g w n nt b x) : ORel g' w n' nt' b x := by
  have h0 : ∀ {v c}, VRel g.bs g.I w 0 v c → VRel g'.bs g'.I w 0 v c := fun hv => by rw [hI]; exact hv.mono (fun o ho => absurd ho (by omega)) fun b k h => ⟨h, rfl⟩
  cases x with
  | none => trivial
  | cells wr T cs => exact absurd rfl (hx _ _ _)
  | map es =>
    obtain ⟨arr, clk, a1, a2, a3⟩ := h
    exact ⟨arr, clk, a1, a2, fun k e c he hc => ⟨h0 (a3 k e c he hc).1, h0 (a3 k e c he hc).2⟩⟩
  | buf m z l =>
    rcases h with h | ⟨arr, T, a1, a2, a3, a4⟩
    · exact .inl h
    · exact .inr ⟨arr, T, a1, a2, a3, fun k v c he hc => ⟨h0 (a4 k v c he hc).1, (a4 k v c he hc).2⟩⟩

theorem WInv.untok (h : WInv c g w ob nt) : WInv c g w (ob.map untokO) 0 := by
  have hget : ∀ (i : Nat) y, (ob.map untokO)[i]? = some y → ∃ x, ob[i]? = some x ∧ y = untokO x ∧ x.real = y.real ∧ x.loose = y.loose ∧ x.mv = y.mv := fun i y hy => by
    rw [List.getElem?_map] at hy
    obtain ⟨x, hx, rfl⟩ := Option.map_eq_some_iff.1 hy
    exact ⟨x, hx, rfl, by cases x <;> rfl, by cases x <;> rfl, by cases x <;> rfl⟩
  refine ⟨h.os, h.tape, h.output, h.size, h.keep, by simp [h.len], ?_, ?_, ?_, ?_, ?_, h.i1, h.i2, h.i3, ?_, ?_, fun i hi => absurd hi (by omega), fun i j hi => absurd hi (by omega), h.i6⟩
  · intro i y hy
    obtain ⟨x, hx, rfl, _⟩ := hget i y hy
    rw [List.length_map]
    have := h.obj i x hx
    cases x with
    | cells wr T cs =>
      obtain ⟨arr, a1, a2, a3⟩ := this
      refine ⟨arr, a1, by simp [a2], fun k v c hv hc => ?_⟩
      rw [List.getElem?_map] at hv
      obtain ⟨u, hu, rfl⟩ := Option.map_eq_some_iff.1 hv
      exact ⟨⟨(a3 k u c hu hc).1.rel.untok, .of_no (untok_noTok u)⟩, (a3 k u c hu hc).2⟩
    | _ => exact this
  · intro i y hy hr
    obtain ⟨x, hx, rfl, e, _⟩ := hget i y hy
    exact h.lt i x hx (e ▸ hr)
  · intro i j y z hy hz hr hr'
    obtain ⟨x, hx, rfl, e, _⟩ := hget i y hy
    obtain ⟨x', hx', rfl, e', _⟩ := hget j z hz
    exact h.inj i j x x' hx hx' (e ▸ hr) (e' ▸ hr')
  · intro i y hi hy hm
    obtain ⟨x, hx, rfl, _, _, e⟩ := hget i y hy
    exact h.old i x hi hx (e ▸ hm)
  · intro i y hy hr
    obtain ⟨x, hx, rfl, e, _⟩ := hget i y hy
    exact h.new i x hx (e ▸ hr)
  · intro i T cs k hy
    obtain ⟨x, hx, e, _⟩ := hget i _ hy
    cases x with
    | cells wr U ds => simp [untokO] at e; obtain ⟨rfl, _, _⟩ := e; exact h.i4 i _ _ k hx
    | _ => simp [untokO] at e
  · intro i y k hy hl
    obtain ⟨x, hx, rfl, _, e, _⟩ := hget i y hy
    exact h.i5 i x k hx (e ▸ hl)

/-- an object flagged, if it stands where it did not stand -/
def setMv (b : Bool) (o : VObj) : VObj :=
  match b, o with
  | false, .buf _ z l => .buf true z l
  | _, o => o

/-- objects selected -/
theorem WInv.sel (h : WInv c g w ob nt) {src : List Nat} (hnd : src.Nodup) {sub : List VObj} {f : Nat → Nat} (hf : ∀ j i, src[j]? = some i → f i = j) (hl : sub.length = src.length)
    (hshut : ∀ i ∈ src, ∀ x, ob[i]? = some x → ∀ o ∈ ptrsO x, o ∈ src)
    (hsub : ∀ (j i : Nat), src[j]? = some i → ∃ o, ob[i]? = some o ∧ (sub[j]? = some (renO f o) ∨ ∃ m z l, o = .buf m z l ∧ sub[j]? = some (.buf true z l)))
    (hpre : ∀ j, j < c.n0 → src[j]? = some j ∨ ∃ z l, sub[j]? = some (.buf true z l)) (hlen : c.n0 ≤ src.length) : WInv c (inG g src) w sub nt := by
  have hrel : ∀ v x, VT g w ob.length nt v x → (∀ o ∈ ptrs v, o ∈ src) → VT (inG g src) w sub.length nt (ren f v) x := fun v x hv hp => by
    refine ⟨hv.rel.ren fun o ho _ => ?_, ?_⟩
    · obtain ⟨j, hj⟩ := List.mem_iff_getElem?.1 (hp o ho)
      rw [hf j o hj, hl]
      exact ⟨(List.getElem?_eq_some_iff.1 hj).1, by simp [inG, hj]⟩
    · have := hv.tok
      cases v <;> first | exact this | (simp only [ren, Tok])
  have hget : ∀ (j : Nat) x, sub[j]? = some x → ∃ i o, src[j]? = some i ∧ ob[i]? = some o ∧ (x = renO f o ∨ ∃ m z l, o = .buf m z l ∧ x = .buf true z l) ∧ (inG g src).bs j = g.bs i ∧ o.real = x.real ∧ o.loose = x.loose ∧ (x.mv = false → o.mv = false) := fun j x hx => by
    have hlt : j < src.length := by rw [← hl]; exact (List.getElem?_eq_some_iff.1 hx).1
    obtain ⟨o, h1, h2⟩ := hsub j src[j] (List.getElem?_eq_getElem hlt)
    rw [hx] at h2
    have h2 : x = renO f o ∨ ∃ m z l, o = .buf m z l ∧ x = .buf true z l := by simpa using h2
    refine ⟨src[j], o, List.getElem?_eq_getElem hlt, h1, h2, by simp [inG, hlt], ?_, ?_, ?_⟩
    · rcases h2 with rfl | ⟨m, z, l, rfl, rfl⟩
      · cases o <;> rfl
      · rfl
    · rcases h2 with rfl | ⟨m, z, l, rfl, rfl⟩
      · cases o <;> rfl
      · rfl
    · rcases h2 with rfl | ⟨m, z, l, rfl, rfl⟩
      · cases o <;> exact fun h => h
      · exact fun h => by cases h
  refine ⟨h.os, h.tape, h.output, h.size, h.keep, by rw [hl]; exact hlen, ?_, ?_, ?_, ?_, ?_, h.i1, h.i2, h.i3, ?_, ?_, ?_, h.f2, h.i6⟩
  · intro j x hx
    obtain ⟨i, o, h1, h2, h3, hb, _⟩ := hget j x hx
    have ho := h.obj i o h2
    rw [hb]
    rcases h3 with rfl | ⟨m, z, l, rfl, rfl⟩
    · cases o with
      | none => trivial
      | map es => exact ORel.flat (g := g) (x := .map es) rfl (by simp) ho
      | buf m z l => exact ORel.flat (g := g) (x := .buf m z l) rfl (by simp) ho
      | cells wr T cs =>
        obtain ⟨arr, a1, a2, a3⟩ := ho
        refine ⟨arr, a1, by rw [renL_length]; exact a2, fun k v c hv hc => ?_⟩
        rw [renL_get] at hv
        obtain ⟨v', hv', rfl⟩ := Option.map_eq_some_iff.1 hv
        exact ⟨hrel v' c (a3 k v' c hv' hc).1 fun o ho => hshut i (List.mem_of_getElem? h1) _ h2 o (ptrsL_get hv' ho), (a3 k v' c hv' hc).2⟩
    · exact ORel.flat (g := g) (n := ob.length) (nt := nt) (x := .buf true z l) rfl (by simp) ho
  · intro j x hx hr
    obtain ⟨i, o, h1, h2, h3, hb, e, _⟩ := hget j x hx
    rw [hb]; exact h.lt i o h2 (e ▸ hr)
  · intro j j' x x' hx hx' hr hr' e
    obtain ⟨i, o, h1, h2, _, hb, q, _⟩ := hget j x hx
    obtain ⟨i', o', h1', h2', _, hb', q', _⟩ := hget j' x' hx'
    rw [hb, hb'] at e
    have := h.inj i i' o o' h2 h2' (q ▸ hr) (q' ▸ hr') e
    subst this
    rw [← hf j i h1, ← hf j' i h1']
  · intro j x hj hx hm
    obtain ⟨i, o, h1, h2, h3, hb, _, _, q⟩ := hget j x hx
    rcases hpre j hj with hp | ⟨z, l, hp⟩
    · rw [hb]; rw [h1] at hp; cases hp; exact h.old _ o hj h2 (q hm)
    · rw [hx] at hp; cases hp; cases hm
  · intro j x hx hr
    obtain ⟨i, o, h1, h2, h3, hb, e, _⟩ := hget j x hx
    rw [hb]; exact h.new i o h2 (e ▸ hr)
  · intro j T cs k hx
    obtain ⟨i, o, h1, h2, h3, hb, _⟩ := hget j _ hx
    rcases h3 with e | ⟨m, z, l, rfl, e⟩
    · cases o with
      | cells wr U ds => simp [renO] at e; obtain ⟨rfl, _, _⟩ := e; rw [hb]; exact h.i4 i _ _ k h2
      | _ => simp [renO] at e
    · cases e
  · intro j x k hx hlo
    obtain ⟨i, o, h1, h2, h3, hb, _, e, _⟩ := hget j x hx
    rw [hb]; exact h.i5 i o k h2 (e ▸ hlo)
  · intro i hi hn
    obtain ⟨f1, f2, f3, f4⟩ := h.f1 i hi hn
    refine ⟨f1, f2, f3, fun j x hx hr => ?_⟩
    obtain ⟨i', o, h1, h2, h3, hb, e, _⟩ := hget j x hx
    rw [hb]; exact f4 i' o h2 (e ▸ hr)

theorem sel_rel {src : List Nat} {f : Nat → Nat} (hf : ∀ j i, src[j]? = some i → f i = j) {n m : Nat} {v : V} {x : Value} (hm : m = src.length) (h : VRel g.bs g.I w n v x) (hp : ∀ o ∈ ptrs v, o ∈ src) : VRel (inG g src).bs (inG g src).I w m (ren f v) x :=
  h.ren fun o ho _ => by
    obtain ⟨j, hj⟩ := List.mem_iff_getElem?.1 (hp o ho)
    rw [hf j o hj, hm]
    exact ⟨(List.getElem?_eq_some_iff.1 hj).1, by simp [inG, hj]⟩

theorem posN_inv {src : List Nat} (hnd : src.Nodup) : ∀ j i, src[j]? = some i → posN i src 0 = j := fun j i hj => by
  obtain ⟨_, q2, q3⟩ := posN_get (k := 0) (List.mem_of_getElem? hj)
  rw [Nat.sub_zero] at q3
  have l1 := (List.getElem?_eq_some_iff.1 hj).1
  have l2 : posN i src 0 < src.length := by omega
  have hp := List.pairwise_iff_getElem.1 hnd
  have he : src[posN i src 0] = src[j] := by rw [(List.getElem?_eq_some_iff.1 q3).2, (List.getElem?_eq_some_iff.1 hj).2]
  rcases Nat.lt_trichotomy (posN i src 0) j with hlt | h | hlt
  · exact absurd he (hp _ _ l2 l1 hlt)
  · exact h
  · exact absurd he.symm (hp _ _ l1 l2 hlt)

end
end VL

namespace VL
open Go
set_option linter.unusedVariables false
set_option linter.unusedSimpArgs false

noncomputable section

def resK (P : Program) (t : List V) (ob : List VObj) : ResultVar → (V → Prop) → Prop
  | .tmp i, K => getK t i fun v => v.untokK K
  | .cell i T, K => getK t i fun p => match p with
    | .ptr j off => getK ob j fun o => match o with
      | .cells _ _ cs => dropK cs off fun cs => loadK P T cs fun v => v.untokK K
      | _ => False
    | _ => False

def oneOf : List V → (V → Prop) → Prop
  | [v], K => K v
  | vs, K => K (.tup vs)

def prefixB : Nat → Nat → List Nat → Bool
  | 0, _, _ => true
  | n + 1, i, j :: r => Nat.beq j i && prefixB n (i + 1) r
  | _ + 1, _, [] => false

def upto : Nat → Nat → List Nat
  | 0, _ => []
  | n + 1, i => i :: upto n (i + 1)

/-- what is left behind a function: the objects that it was handed, and what its answer leads to -/
def leaveK (n0 : Nat) (v : V) (ob : List VObj) (K : V → List VObj → Prop) : Prop :=
  listK (reach ob 64 (upto n0 0 ++ ptrs v) []) fun idx =>
  match nodupN idx && allIn idx (ptrs v) && shutN ob idx idx && prefixB n0 0 idx with
  | false => False
  | true => getsK ob (fun i => posN i idx 0) idx fun sub => renP (fun i => posN i idx 0) v fun v => K v sub

def plainO : Option V → Bool
  | none => true
  | some v => (match ptrs v with | [] => true | _ => false)

/-- what was deferred is done: r is the panic that goes on, if there is one -/
def deferK (S : Sys) : List (Fn × List V × List V) → Option V → List V → List VObj → (Option V → List V → List VObj → Prop) → Prop
  | [], r, t, ob, K => K r t ob
  | (.func f, a, b) :: ds, r, t, ob, K =>
    mapK V.untokK (a ++ b) fun args =>
    listK (reach ob 64 (ptrsL args) []) fun idx =>
    match plainO r && nodupN idx && allIn idx (ptrsL args) && shutN ob idx idx with
    | false => False
    | true =>
    getsK ob (fun i => posN i idx 0) idx fun sub =>
    insK sub fun sub =>
    mapK (renP fun i => posN i idx 0) args fun args =>
    S.calld f args sub r fun rec sub' =>
    movedK idx sub' fun ms => forgetK ms t ob ds fun t ob' =>
    backK (fun j => (idx[j]?).getD (ob.length + (j - idx.length))) idx sub' ob' fun ob =>
    deferK S ds (match rec with | true => none | false => r) t ob K
  | _ :: _, _, _, _, _ => False

def leftK (P : Program) (fn : Func) (n0 : Nat) (r : Option V) (t : List V) (ob : List VObj) (K : Out → List VObj → Prop) : Prop :=
  match r with
  | none => mapK (resK P t ob) fn.results.toList fun vs => oneOf vs fun v => leaveK n0 v ob fun v ob => K (.ret v) ob
  | some v => leaveK n0 v ob fun v ob => K (.pan v) ob

def endK (S : Sys) (fn : Func) (n0 : Nat) (e : Ex) : St → (Out → List VObj → Prop) → Prop
  | ⟨t, ob, _, df⟩, K => match e with
    | .normal => deferK S df none t ob fun r t ob => leftK S.P fn n0 r t ob K
    | .ret => deferK S df none t ob fun r t ob => leftK S.P fn n0 r t ob K
    | .pan v => deferK S df (some v) t ob fun r t ob => leftK S.P fn n0 r t ob K
    | .exit _ => False

def padV : Nat → List V → List V
  | n, v :: r => v :: padV (n - 1) r
  | n, [] => undefs n
where undefs : Nat → List V
  | 0 => []
  | n + 1 => .undef :: undefs n

end

def resRun (tmps : Array Value) (r : ResultVar) : Sem Value :=
  match r with
  | .tmp t => pure (tmps.getD t undef)
  | .cell a t => do loadVar t (← asAddr (tmps.getD a undef))

theorem results_eq (fn : Func) (tmps : Array Value) : results fn tmps = (do
    let vs ← fn.results.mapM (resRun tmps)
    pure (if h : vs.size = 1 then vs[0] else .tuple vs)) := rfl

theorem run_mapM {P : Program} {w : World} {α β : Type} {f : α → Sem β} : ∀ {l : List α} {ys : List β}, ys.length = l.length → (∀ (k : Nat) x y, l[k]? = some x → ys[k]? = some y → (f x).run P w = .ok y w) →
    (l.mapM f).run P w = .ok ys w
  | [], [], _, _ => by simp
  | x :: r, y :: ys, hl, h => by
    have h0 := h 0 x y rfl rfl
    have ih := run_mapM (P := P) (w := w) (f := f) (l := r) (ys := ys) (by simpa using hl) fun k a b ha hb => h (k + 1) a b (by simpa using ha) (by simpa using hb)
    simp [List.mapM_cons, h0, ih]

theorem mapK_all {α β : Type} {f : α → (β → Prop) → Prop} {R : α → β → Prop} (hf : ∀ x K, f x K → ∃ y, R x y ∧ K y) : ∀ {l : List α} {K : List β → Prop}, mapK f l K →
    ∃ ys, ys.length = l.length ∧ (∀ (k : Nat) x y, l[k]? = some x → ys[k]? = some y → R x y) ∧ K ys
  | [], K, h => ⟨[], rfl, by simp, h⟩
  | x :: r, K, h => by
    obtain ⟨y, h1, h2⟩ := hf x _ h
    obtain ⟨ys, h3, h4, h5⟩ := mapK_all hf h2
    refine ⟨y :: ys, by simp [h3], fun k a b ha hb => ?_, h5⟩
    cases k with
    | zero => simp at ha hb; subst ha; subst hb; exact h1
    | succ k => exact h4 k a b (by simpa using ha) (by simpa using hb)

theorem prefixB_iff : ∀ {n i : Nat} {l : List Nat}, prefixB n i l = true → ∀ k, k < n → l[k]? = some (i + k)
  | n + 1, i, j :: r, h, k, hk => by
    simp only [prefixB, Bool.and_eq_true] at h
    cases k with
    | zero => simp [Nat.eq_of_beq_eq_true h.1]
    | succ k => simp only [List.getElem?_cons_succ]; rw [prefixB_iff h.2 k (by omega)]; congr 1; omega

section
variable {P : Program} {c : Ctx} {g : G} {w : World} {ob : List VObj} {nt : Nat}

theorem leave_sound {v : V} {x : Value} {K : V → List VObj → Prop} (h : WInv c g w ob nt) (hv : VRel g.bs g.I w ob.length v x) (hk : leaveK c.n0 v ob K) :
    ∃ g' sub v', WInv c g' w sub 0 ∧ VRel g'.bs g'.I w sub.length v' x ∧ (v.noTok = true → v'.noTok = true) ∧ K v' sub := by
  unfold leaveK at hk
  have hk := listK_iff hk
  generalize reach ob 64 (upto c.n0 0 ++ ptrs v) [] = idx at hk
  split at hk
  case h_1 => exact hk.elim
  rename_i hchk
  simp only [Bool.and_eq_true] at hchk
  obtain ⟨⟨⟨hnd, hin⟩, hshut⟩, hpre⟩ := hchk
  have hnd := nodupN_iff hnd
  obtain ⟨sub, hl, hsub, hk⟩ := getsK_iff hk
  have hpre : ∀ o, o < c.n0 → idx[o]? = some o := fun o ho => by have := prefixB_iff hpre o ho; simpa using this
  have hu := h.untok
  have hlen : c.n0 ≤ idx.length := by
    rcases Nat.lt_or_ge idx.length c.n0 with hlt | hge
    · have := (List.getElem?_eq_some_iff.1 (hpre idx.length hlt)).1; omega
    · exact hge
  have hs := WInv.sel hu hnd (sub := sub) (f := fun i => posN i idx 0) (posN_inv hnd) hl (fun i hi x hx o ho => by
      rw [List.getElem?_map] at hx
      obtain ⟨y, hy, rfl⟩ := Option.map_eq_some_iff.1 hx
      refine shutN_iff hshut i hi y hy o ?_
      cases y with
      | cells wr T cs => simpa [untokO, ptrsO, ptrsL_untok] using ho
      | _ => exact ho) (fun j i hj => by
      obtain ⟨o, h1, h2⟩ := hsub j i hj
      exact ⟨untokO o, by rw [List.getElem?_map, h1]; rfl, .inl h2⟩) (fun j hj => .inl (hpre j hj)) hlen
  exact ⟨_, sub, _, hs, sel_rel (posN_inv hnd) hl hv (fun o ho => allIn_iff hin o ho), fun hn => noTok_ren hn, renP_iff hk⟩

theorem res_sound {a : Act} {t : List V} (hw : WInv c g w ob nt) (ht : TInv g w ob.length nt a.tmps t) (r : ResultVar) (K : V → Prop) (h : resK P t ob r K) :
    ∃ v, (∃ x, VRel g.bs g.I w ob.length v x ∧ v.noTok = true ∧ (resRun a.tmps r).run P w = .ok x w) ∧ K v := by
  cases r with
  | tmp i =>
    obtain ⟨v, h1, h2⟩ := getK_iff h
    have hlt : i < a.tmps.size := by rw [← ht.size]; exact (List.getElem?_eq_some_iff.1 h1).1
    simp only [V.untokK, force_eq] at h2
    refine ⟨_, ⟨a.tmps[i], (ht.rel i v a.tmps[i] h1 (by simp [hlt])).rel.untok, untok_noTok _, by simp [resRun, Array.getD, hlt]⟩, h2⟩
  | cell i T =>
    obtain ⟨v, h1, h2⟩ := getK_iff h
    have hlt : i < a.tmps.size := by rw [← ht.size]; exact (List.getElem?_eq_some_iff.1 h1).1
    have hr := (ht.rel i v a.tmps[i] h1 (by simp [hlt])).rel
    cases v <;> try exact h2.elim
    rename_i j off
    obtain ⟨x1, h3, h4⟩ := getK_iff h2
    cases x1 <;> try exact h4.elim
    obtain ⟨h5, h6⟩ := dropK_iff h4
    obtain ⟨v, y, hK, hvt, hv, hrun⟩ := load_sound (b := g.bs j) (off := off) h6 (fun k v hv => by obtain ⟨c, h1, h2⟩ := obj_cell hw h3 hv; exact ⟨c, h1, h2.rel⟩)
    simp only [V.untokK, force_eq] at hK
    generalize hx : a.tmps[i] = e at hr
    cases hr
    refine ⟨_, ⟨y, hvt.untok, untok_noTok _, ?_⟩, hK⟩
    have hx' : a.tmps.getD i undef = .pointer (some ⟨g.bs j, off, none⟩) := by simp [Array.getD, hlt, hx]
    simp only [resRun, hx']
    simpa [Instr.loadAt, Instr.sureAddr, asAddr] using hrun

theorem results_sound {fn : Func} {a : Act} {t : List V} (hw : WInv c g w ob nt) (ht : TInv g w ob.length nt a.tmps t) {K : V → Prop} (h : mapK (resK P t ob) fn.results.toList fun vs => oneOf vs K) :
    ∃ v x, VRel g.bs g.I w ob.length v x ∧ v.noTok = true ∧ (results fn a.tmps).run P w = .ok x w ∧ K v := by
  obtain ⟨vs, h1, h2, h3⟩ := mapK_all (R := fun r v => ∃ x, VRel g.bs g.I w ob.length v x ∧ v.noTok = true ∧ (resRun a.tmps r).run P w = .ok x w) (res_sound hw ht) h
  clear h
  obtain ⟨xs, h4, h5⟩ : ∃ xs : List Value, xs.length = vs.length ∧ ∀ (k : Nat) r v x, fn.results.toList[k]? = some r → vs[k]? = some v → xs[k]? = some x →
      VRel g.bs g.I w ob.length v x ∧ v.noTok = true ∧ (resRun a.tmps r).run P w = .ok x w := by
    clear h3
    generalize fn.results.toList = rs at h1 h2
    induction rs generalizing vs with
    | nil => exact ⟨[], by simp [h1], by simp⟩
    | cons r rs ih =>
      cases vs with
      | nil => simp at h1
      | cons v vs =>
        obtain ⟨x, hx⟩ := h2 0 r v rfl rfl
        obtain ⟨xs, i1, i2⟩ := ih vs (by simpa using h1) fun k a b ha hb => h2 (k + 1) a b (by simpa using ha) (by simpa using hb)
        refine ⟨x :: xs, by simp [i1], fun k a b c ha hb hc => ?_⟩
        cases k with
        | zero => simp at ha hb hc; subst ha; subst hb; subst hc; exact hx
        | succ k => exact i2 k a b c (by simpa using ha) (by simpa using hb) (by simpa using hc)
  have hrun : (fn.results.mapM (resRun a.tmps)).run P w = .ok xs.toArray w := by
    rw [Array.mapM_eq_mapM_toList]
    have := run_mapM (P := P) (w := w) (l := fn.results.toList) (ys := xs) (f := resRun a.tmps) (by rw [h4, h1]) fun k r x hr hx => by
      have hlt : k < vs.length := by rw [← h4]; exact (List.getElem?_eq_some_iff.1 hx).1
      exact (h5 k r vs[k] x hr (List.getElem?_eq_getElem hlt) hx).2.2
    simp [this]
  have hres : ∀ k v x, vs[k]? = some v → xs[k]? = some x → VRel g.bs g.I w ob.length v x ∧ v.noTok = true := fun k v x hv hx => by
    have hlt : k < fn.results.toList.length := by rw [← h1]; exact (List.getElem?_eq_some_iff.1 hv).1
    have := h5 k fn.results.toList[k] v x (List.getElem?_eq_getElem hlt) hv hx
    exact ⟨this.1, this.2.1⟩
  have hfin : (results fn a.tmps).run P w = .ok (if h : xs.toArray.size = 1 then xs.toArray[0] else .tuple xs.toArray) w := by
    rw [results_eq, Sem.run_bind, hrun]
    rfl
  unfold oneOf at h3
  split at h3
  · rename_i v
    obtain ⟨x, rfl⟩ := List.length_eq_one_iff.1 h4
    exact ⟨v, x, (hres 0 v x rfl rfl).1, (hres 0 v x rfl rfl).2, by rw [hfin]; rfl, h3⟩
  · rename_i hne
    refine ⟨_, _, .tup (ca := xs.toArray) (by simp [h4]) fun k v c hv hc => (hres k v c hv (by simpa using hc)).1, rfl, ?_, h3⟩
    rw [hfin]
    have : ¬ xs.toArray.size = 1 := fun e => by
      have : vs.length = 1 := by rw [← h4]; simpa using e
      match vs, this with
      | [v], _ => exact hne v rfl
    rw [dif_neg this]

end

/-- what a function's code comes to -/
def vfun (S : Sys) (fn : Func) (body : Code) (args : List V) (ob : List VObj) (K : Out → List VObj → Prop) : Prop :=
  vwp S body ⟨padV fn.ntmps args, ob, 0, []⟩ fun e s => endK S fn ob.length e s K

theorem undefs_eq : ∀ n, padV.undefs n = List.replicate n .undef
  | 0 => rfl
  | n + 1 => by simp [padV.undefs, undefs_eq n, List.replicate_succ]

theorem padV_eq : ∀ (l : List V) (n : Nat), padV n l = l ++ List.replicate (n - l.length) .undef
  | [], n => by simp [padV, undefs_eq]
  | v :: r, n => by simp only [padV, padV_eq r, List.length_cons, List.cons_append]; rw [show n - 1 - r.length = n - (r.length + 1) by omega]

def recd (rec : Bool) (u : FrameMode) : FrameMode :=
  match rec, u with
  | true, .panicking ({ v, .. } :: older) => .panicking ({ v, recovered := true } :: older)
  | _, u => u

theorem recd_false (u : FrameMode) : recd false u = u := by cases u <;> rfl

/-- the caller's mode, where a panic goes on or not -/
def RMode (g : G) (w : World) (n : Nat) (r : Option V) (u : FrameMode) : Prop :=
  match r with
  | none => u = .returning
  | some v => ∃ x, u = .panicking [{ v := x, recovered := false }] ∧ VRel g.bs g.I w n v x

/-- a contract of what is deferred: it returns; whether a panic was caught -/
def VCallD0 (P : Program) (f : FuncId) (args : List V) (ob : List VObj) (r : Option V) (K : Bool → List VObj → Prop) : Prop :=
  ∀ (w : World) (g : G) (cargs : Array Value) (u : FrameMode), WInv ⟨w, ob.length, g.bs, g.I, Owns g ob⟩ g w ob 0 → args.length = cargs.size →
    (∀ (k : Nat) v x, args[k]? = some v → cargs[k]? = some x → VT g w ob.length 0 v x) → RMode g w ob.length r u →
    (callFunc f cargs).run P w = .ok (.enter f cargs) w ∧
    CallsD P f cargs u w fun e u' w' => ∃ rec ob' g', K rec ob' ∧ WInv ⟨w, ob.length, g.bs, g.I, Owns g ob⟩ g' w' ob' 0 ∧ (∃ y, e = .returned y) ∧ u' = recd rec u ∧ (rec = true → r.isSome = true)

theorem plainO_iff {r : Option V} (h : plainO r = true) : ∀ v, r = some v → ptrs v = [] := by
  rintro v rfl
  simp only [plainO] at h
  split at h
  · assumption
  · cases h

theorem deferK_sound {S : Sys} (hD : ∀ f args ob r K, S.calld f args ob r K → VCallD0 S.P f args ob r K) {fn : Func} {tmps : Array Value} {R : Ending → World → Prop} {c : Ctx} {K : Option V → List V → List VObj → Prop}
    (hend : ∀ r t ob g w u nt, K r t ob → WInv c g w ob nt → TInv g w ob.length nt tmps t → RMode g w ob.length r u → Leaves S.P fn tmps R [] u w) :
    ∀ (df : List (Fn × List V × List V)) (ds : List Deferred) (r : Option V) (t : List V) (ob : List VObj) (g : G) (w : World) (u : FrameMode) (nt : Nat), deferK S df r t ob K → WInv c g w ob nt → TInv g w ob.length nt tmps t → DRel g w ob.length ds df →
      RMode g w ob.length r u → Leaves S.P fn tmps R ds u w := by
  intro df
  induction df with
  | nil =>
    intro ds r t ob g w u nt h hw ht hd hr
    cases hd
    exact hend r t ob g w u nt h hw ht hr
  | cons x df ih =>
    intro ds r t ob g w u nt h hw ht hd hr
    obtain ⟨f', a, b⟩ := x
    cases f' <;> try exact h.elim
    rename_i f
    cases hd with
    | @cons d _ ds _ h1 hd =>
    obtain ⟨cap, e1, e2, e3, e4, e5⟩ := h1
    simp only [deferK] at h
    have h := mapK_untok h
    obtain ⟨m1, m2⟩ := append_args e2 e4 e3 e5
    obtain ⟨m1, m2⟩ := untok_args m1 m2
    have hno : ∀ v ∈ (a ++ b).map V.untok, v.noTok = true := fun v hv => by
      obtain ⟨u, _, rfl⟩ := List.mem_map.1 hv; exact untok_noTok u
    generalize (a ++ b).map V.untok = args at h m1 m2 hno
    have h := listK_iff h
    generalize reach ob 64 (ptrsL args) [] = idx at h
    split at h
    case h_1 => exact h.elim
    rename_i hchk
    simp only [Bool.and_eq_true] at hchk
    obtain ⟨⟨⟨hpl, hnd⟩, hin⟩, hshut⟩ := hchk
    have hpl := plainO_iff hpl
    have hnd := nodupN_iff hnd
    obtain ⟨sub0, hl0, hsub0, h⟩ := getsK_iff h
    have h := insK_iff h
    obtain ⟨sub, hsub', hl, hsub⟩ : ∃ sub, sub = sub0.map inO ∧ sub.length = idx.length ∧ ∀ (j i : Nat), idx[j]? = some i → ∃ o, ob[i]? = some o ∧ sub[j]? = some (inO (renO (fun i => posN i idx 0) (untokO o))) := by
      refine ⟨_, rfl, by simp [hl0], fun j i hj => ?_⟩
      obtain ⟨o, q1, q2⟩ := hsub0 j i hj
      exact ⟨o, q1, by rw [List.getElem?_map, q2]; rfl⟩
    rw [← hsub'] at h
    have h := mapK_renP h
    have hcall := hD _ _ _ _ _ h
    have hwi := call_in hw hnd (shutN_iff hshut) hl hsub
    have hidx : ∀ i ∈ idx, ∃ o, ob[i]? = some o := fun i hi => by
      obtain ⟨j, hj⟩ := List.mem_iff_getElem?.1 hi
      obtain ⟨o, ho, _⟩ := hsub j i hj
      exact ⟨o, ho⟩
    obtain ⟨hrun, hcalls⟩ := hcall w (inG g idx) (d.args ++ cap) u hwi (by rw [renL_length]; exact m1) (fun k v x hv hx => by
      rw [renL_get] at hv
      obtain ⟨v', hv', rfl⟩ := Option.map_eq_some_iff.1 hv
      exact ⟨in_rel (m2 k v' x hv' hx) (fun o ho => allIn_iff hin o (ptrsL_get hv' ho)) hl, .of_no (noTok_ren (hno v' (List.mem_of_getElem? hv')))⟩) (by
      cases r with
      | none => exact hr
      | some v =>
        obtain ⟨x, q1, q2⟩ := hr
        exact ⟨x, q1, q2.ren_id fun o ho => by rw [hpl v rfl] at ho; simp at ho⟩)
    obtain ⟨tg, dargs⟩ := d
    simp only at e1; subst e1
    refine leaves_cons (f := f) (args := dargs ++ cap) ?_ ?_ (hcalls.mono fun e u' w' he => ?_)
    · cases r with
      | none => have hr : u = .returning := hr; rw [hr]; simp
      | some v => obtain ⟨x, q1, _⟩ := hr; rw [q1]; simp
    · simpa [invoke] using hrun
    · obtain ⟨rec, os, g', hk, hw', ⟨y, rfl⟩, rfl, hrec⟩ := he
      simp only
      rw [hl] at hw'
      obtain ⟨hdf, hk⟩ := forgetK_iff (movedK_iff hk)
      obtain ⟨ob', b1, b2, b3, b4, b5, b6⟩ := backK_iff hnd hk
      rw [List.length_map] at b2 b4 b5
      have b3' : ∀ (j i : Nat) o, idx[j]? = some i → os[j]? = some o → ∃ o0, ob[i]? = some o0 ∧ ob'[i]? = some ((renO (backN idx ob.length) o).orMv o0.mv) ∧ (o0.mv = true → ∃ m z l, o = .buf m z l) := fun j i o hj ho => by
        obtain ⟨o0, q1, q2, q3⟩ := b3 j i o hj ho
        rw [List.getElem?_map] at q1
        obtain ⟨o1, q4, rfl⟩ := Option.map_eq_some_iff.1 q1
        have : (forgetO (movedOf idx os) o1).mv = o1.mv := by cases o1 <;> rfl
        rw [this] at q2 q3
        exact ⟨o1, q4, q2, q3⟩
      obtain ⟨q1, q2, q3, q4, q5⟩ := call_out hw hnd hidx hl (fun j i hj => by
        obtain ⟨o, r1, r2⟩ := hsub j i hj
        refine ⟨o, r1, fun s hs => ?_⟩
        rw [r2] at hs
        cases hs
        cases o <;> rfl) hw' b2 b3' (fun i hi hm => by rw [b4 i hi hm, List.getElem?_map]) b5
      refine ih ds _ _ ob' (outG g g' idx ob.length) w' _ nt b6 q1 ⟨by simp [ht.size], fun k v x hv hx => ?_⟩ (hd.forget q5 hdf) ?_
      · rw [List.getElem?_map] at hv
        obtain ⟨v', hv', rfl⟩ := Option.map_eq_some_iff.1 hv
        rcases forget_cases (movedOf idx os) v' with e | ⟨e, hp⟩
        · rw [e]; exact ⟨.undef, trivial⟩
        · rw [e]; exact q2 v' x (ht.rel k v' x hv' hx) hp
      · cases rec with
        | true =>
          cases r with
          | none => exact absurd (hrec rfl) (by simp)
          | some v =>
            obtain ⟨x, rfl, _⟩ := hr
            rfl
        | false =>
          cases r with
          | none => have hr : u = .returning := hr; rw [hr]; rfl
          | some v =>
            obtain ⟨x, rfl, hx⟩ := hr
            exact ⟨x, rfl, q5 v x hx fun o ho => by rw [hpl v rfl] at ho; simp at ho⟩

theorem fun_sound {S : Sys} (hm : CallMono S) (hS : ∀ g args ob K, S.call g args ob K → VCall0 S.P g args ob K) (hD : ∀ f args ob r K, S.calld f args ob r K → VCallD0 S.P f args ob r K) {ob : List VObj}
    (hL : ∀ (code : Code) (s : St) (K : Ex → St → Prop) (c : Ctx) (Q : Exit → Act → World → Prop) (g : G) (w : World) (a : Act), c.n0 = ob.length → S.loop code s K → Fits c K Q → Sim c g w a s → (Code.loop code).wp S.P Q a w)
    (hT : ∀ (code : Code) (s : St) (K : Ex → St → Prop) (c : Ctx) (Q : Exit → Act → World → Prop) (g : G) (w : World) (a : Act), c.n0 = ob.length → S.step code s K → Fits c K Q → Sim c g w a s → code.wp S.P Q a w)
    {f : FuncId} {fn : Func} {body : Code} (hf : S.P.funcs[f]? = some fn) (hb : fn.body = some body) (hn : (fn.name == "runtime.NumGoroutine") = false) {args : List V} {K : Out → List VObj → Prop}
    (h : vfun S fn body args ob K) : VCall0 S.P f args ob K := by
  intro w g cargs hw hl hr
  refine (Does.calls hf hb hn).2 (calls_of_wp_defers hf hb ?_)
  have hpad : TInv g w ob.length 0 (cargs ++ Array.replicate (fn.ntmps - cargs.size) undef) (padV fn.ntmps args) := by
    rw [padV_eq]
    refine ⟨by simp [hl], fun k v c hv hc => ?_⟩
    rw [List.getElem?_append] at hv
    rw [Array.getElem?_append] at hc
    split at hv
    · rename_i hk; rw [if_pos (by omega)] at hc; exact hr k v c hv hc
    · rw [List.getElem?_replicate] at hv
      split at hv
      · cases hv; exact ⟨.undef, trivial⟩
      · cases hv
  have hend : ∀ (tmps : Array Value) r t ob1 g' w' u nt, leftK S.P fn ob.length r t ob1 K → WInv ⟨w, ob.length, g.bs, g.I, Owns g ob⟩ g' w' ob1 nt → TInv g' w' ob1.length nt tmps t → RMode g' w' ob1.length r u →
      Leaves S.P fn tmps (fun e w' => ∃ out ob' g', K out ob' ∧ WInv ⟨w, ob.length, g.bs, g.I, Owns g ob⟩ g' w' ob' 0 ∧ Ends g' w' ob'.length out e) [] u w' := by
    intro tmps r t ob1 g' w' u nt hk hwi hti hrm
    cases r with
    | none =>
      have hrm : u = .returning := hrm
      subst hrm
      obtain ⟨v, x, h1, h2, h3, h4⟩ := results_sound (a := { tmps := tmps, defers := [] }) hwi hti hk
      obtain ⟨g'', sub, v', h5, h6, h7, h8⟩ := leave_sound hwi h1 h4
      exact ⟨x, h3, _, _, g'', h8, h5, ⟨h6, .of_no (h7 h2)⟩⟩
    | some v =>
      obtain ⟨x, rfl, hx⟩ := hrm
      obtain ⟨g'', sub, v', h5, h6, h7, h8⟩ := leave_sound hwi hx hk
      exact ⟨.pan v', sub, g'', h8, h5, x, rfl, h6⟩
  refine sound_code (c := ⟨w, ob.length, g.bs, g.I, Owns g ob⟩) hm hS (fun code s K Q g' w' a h hf hs => hL code s K _ Q g' w' a rfl h hf hs) (fun code s K Q g' w' a h hf hs => hT code s K _ Q g' w' a rfl h hf hs)
    body ⟨padV fn.ntmps args, ob, 0, []⟩ _ _ g w _ h ?_ ⟨hw, hpad, .nil⟩
  refine ⟨fun s g' w' a hk hs => ?_, fun i s g' w' a hk hs => ?_, fun s g' w' a hk hs => ?_, fun v x s g' w' a hk hs hv => ?_⟩
  · obtain ⟨t, ob1, nt, df⟩ := s
    exact deferK_sound hD (hend a.tmps) df a.defers none t ob1 g' w' .returning nt hk hs.wi hs.ti hs.di rfl
  · obtain ⟨t, ob1, nt, df⟩ := s
    exact hk.elim
  · obtain ⟨t, ob1, nt, df⟩ := s
    exact deferK_sound hD (hend a.tmps) df a.defers none t ob1 g' w' .returning nt hk hs.wi hs.ti hs.di rfl
  · obtain ⟨t, ob1, nt, df⟩ := s
    exact deferK_sound hD (hend a.tmps) df a.defers (some v) t ob1 g' w' _ nt hk hs.wi hs.ti hs.di ⟨x, rfl, hv⟩

-- what is deferred

/-- the code of what is deferred: it asks first whether there is a panic -/
def vwpD (S : Sys) (r : Option V) : Code → St → (Bool → Ex → St → Prop) → Prop
  | .seq a b, s, K => vwpD S r a s fun rec e s => match e with
    | .normal => S.step b s (K rec)
    | .exit i => K rec (.exit i) s
    | .ret => K rec .ret s
    | .pan v => K rec (.pan v) s
  | .region _ ops false, s, K => (match ops.toList with
    | [o] => (match o.op, o.guard with
      | .call cl, none => (match cl.callee with
        | .builtin .recover => (match r with
          | none => s.put o.dst .nili (K false .normal)
          | some v => v.untokK fun v => s.put o.dst v (K true .normal))
        | _ => False)
      | _, _ => False)
    | _ => False)
  | _, _, _ => False

def vfunD (S : Sys) (fn : Func) (body : Code) (args : List V) (ob : List VObj) (r : Option V) (K : Bool → List VObj → Prop) : Prop :=
  (fn.results.toList.isEmpty = true) ∧ vwpD S r body ⟨padV fn.ntmps args, ob, 0, []⟩ fun rec e s => match s, e with
    | ⟨_, ob', _, []⟩, .normal => leaveK ob.length (.tup []) ob' fun _ ob => K rec ob
    | ⟨_, ob', _, []⟩, .ret => leaveK ob.length (.tup []) ob' fun _ ob => K rec ob
    | _, _ => False

theorem soundD {S : Sys} {c : Ctx} (hm : CallMono S) (hS : ∀ g args ob K, S.call g args ob K → VCall0 S.P g args ob K)
    (hT : ∀ (code : Code) (s : St) (K : Ex → St → Prop) (Q : Exit → Act → World → Prop) (g : G) (w : World) (a : Act), S.step code s K → Fits c K Q → Sim c g w a s → code.wp S.P Q a w)
    {r : Option V} {c₀ : Frame} {cs : List Frame} :
    ∀ (code : Code) (s : St) (K : Bool → Ex → St → Prop) (Q : Exit → Act → List Frame → World → Prop) (g : G) (w : World) (a : Act), vwpD S r code s K → RMode g w s.objs.length r c₀.mode →
      (∀ rec, (rec = true → r.isSome = true) → Fits c (K rec) (fun e a w => Q e a ({ c₀ with mode := recd rec c₀.mode } :: cs) w)) → Sim c g w a s → code.wpS S.P Q a (c₀ :: cs) w := by
  intro code
  induction code with
  | seq x y ihx ihy =>
    intro s K Q g w a h hr hf hs
    refine wpS_seq (ihx s _ _ g w a h hr (fun rec hrec => ?_) hs)
    have hf := hf rec hrec
    exact ⟨fun s g w a hk hs => wpS_of_wp (hT y s (K rec) _ g w a hk hf hs), fun i s g w a hk hs => hf.exit i s g w a hk hs, fun s g w a hk hs => hf.ret s g w a hk hs, fun v x s g w a hk hs hv => hf.pan v x s g w a hk hs hv⟩
  | region id ops draw =>
    intro s K Q g w a h hr hf hs
    cases draw with
    | true => exact h.elim
    | false =>
      simp only [vwpD] at h
      split at h
      case h_2 => exact h.elim
      rename_i o hops
      split at h
      case h_2 => exact h.elim
      rename_i cl hop hg
      split at h
      case h_2 => exact h.elim
      rename_i hc
      refine wpS_region ?_
      have hsz : ops.size = 1 := by have := congrArg List.length hops; simpa using this
      have h0 : ops[0]? = some o := by rw [← Array.getElem?_toList, hops]; rfl
      have hrange : List.range ops.size = [0] := by rw [hsz]; rfl
      rw [hrange]
      have hw : Region.wanted o (yielded ops a.tmps) = true := by simp [Region.wanted, hg]
      have hrun : (execOp a.eval o).run S.P w = .ok .recover w := by
        rw [exec_builtin hop hc]; simp [Go.builtin]
      simp only [wpOpsS, h0, hw, if_true, hrun]
      cases r with
      | none =>
        have hr : c₀.mode = .returning := hr
        have hrec : recoverD (c₀ :: cs) = none := by simp [recoverD, hr]
        rw [hrec]
        obtain ⟨s', h1, h2⟩ := put_sound (x := .nilIface) hs (.of .nili rfl) h
        have := (hf false (by simp)).normal s' g w _ h1 h2
        rw [recd_false] at this
        exact this
      | some v =>
        obtain ⟨x, hx, hv⟩ := hr
        have hrec : recoverD (c₀ :: cs) = some (x, { c₀ with mode := .panicking [{ v := x, recovered := true }] } :: cs) := by simp [recoverD, hx]
        rw [hrec]
        simp only [V.untokK, force_eq] at h
        obtain ⟨s', h1, h2⟩ := put_sound (x := x) hs (.of hv.untok (untok_noTok v)) h
        have := (hf true (by simp)).normal s' g w _ h1 h2
        simpa [recd, hx] using this
  | _ => intro s K Q g w a h; exact h.elim

theorem fund_sound {S : Sys} (hm : CallMono S) (hS : ∀ g args ob K, S.call g args ob K → VCall0 S.P g args ob K) {ob : List VObj}
    (hT : ∀ (code : Code) (s : St) (K : Ex → St → Prop) (c : Ctx) (Q : Exit → Act → World → Prop) (g : G) (w : World) (a : Act), c.n0 = ob.length → S.step code s K → Fits c K Q → Sim c g w a s → code.wp S.P Q a w)
    {f : FuncId} {fn : Func} {body : Code} (hf : S.P.funcs[f]? = some fn) (hb : fn.body = some body) (hn : (fn.name == "runtime.NumGoroutine") = false) {args : List V} {r : Option V} {K : Bool → List VObj → Prop}
    (h : vfunD S fn body args ob r K) : VCallD0 S.P f args ob r K := by
  intro w g cargs u hw hl hr hrm
  refine ⟨run_callFunc hf hb hn cargs w, callsD_of_wpS hf hb fun c₀ cs hmode => ?_⟩
  subst hmode
  obtain ⟨hres, h⟩ := h
  have hpad : TInv g w ob.length 0 (cargs ++ Array.replicate (fn.ntmps - cargs.size) undef) (padV fn.ntmps args) := by
    rw [padV_eq]
    refine ⟨by simp [hl], fun k v c hv hc => ?_⟩
    rw [List.getElem?_append] at hv
    rw [Array.getElem?_append] at hc
    split at hv
    · rename_i hk; rw [if_pos (by omega)] at hc; exact hr k v c hv hc
    · rw [List.getElem?_replicate] at hv
      split at hv
      · cases hv; exact ⟨.undef, trivial⟩
      · cases hv
  have hresults : ∀ tm : Array Value, ∃ v, ∀ w' : World, (results fn tm).run S.P w' = .ok v w' := fun tm => by
    have h0 : fn.results = #[] := by
      have : fn.results.toList = [] := List.isEmpty_iff.1 hres
      exact Array.toList_eq_nil_iff.1 this
    exact ⟨.tuple #[], fun w' => by simp [results_eq, h0]⟩
  refine soundD (c := ⟨w, ob.length, g.bs, g.I, Owns g ob⟩) hm hS (fun code s K Q g' w' a h hf hs => hT code s K _ Q g' w' a rfl h hf hs) body ⟨padV fn.ntmps args, ob, 0, []⟩ _ _ g w _ h hrm (fun rec hrec => ?_) ⟨hw, hpad, .nil⟩
  have hret : ∀ (ob1 : List VObj) (nt : Nat) (g' : G) (w' : World) (a : Act), (leaveK ob.length (.tup []) ob1 fun _ ob => K rec ob) → WInv ⟨w, ob.length, g.bs, g.I, Owns g ob⟩ g' w' ob1 nt → DRel g' w' ob1.length a.defers [] →
      a.defers = [] ∧ ∃ u', { c₀ with mode := recd rec c₀.mode } :: cs = { c₀ with mode := u' } :: cs ∧ ∃ v, (results fn a.tmps).run S.P w' = .ok v w' ∧
        ∃ rec' ob' g', K rec' ob' ∧ WInv ⟨w, ob.length, g.bs, g.I, Owns g ob⟩ g' w' ob' 0 ∧ (∃ y, Ending.returned v = .returned y) ∧ u' = recd rec' c₀.mode ∧ (rec' = true → r.isSome = true) := by
    intro ob1 nt g' w' a hk hwi hdi
    obtain ⟨v, hv⟩ := hresults a.tmps
    obtain ⟨g'', sub, v', h5, _, _, h8⟩ := leave_sound (x := .tuple #[]) hwi (.tup rfl (by simp)) hk
    refine ⟨?_, _, rfl, v, hv w', rec, sub, g'', h8, h5, ⟨v, rfl⟩, rfl, hrec⟩
    generalize a.defers = d at hdi
    cases hdi; rfl
  refine ⟨fun s g' w' a hk hs => ?_, fun i s g' w' a hk hs => ?_, fun s g' w' a hk hs => ?_, fun v x s g' w' a hk hs hv => ?_⟩
  · obtain ⟨t, ob1, nt, df⟩ := s
    cases df with
    | nil => exact hret ob1 nt g' w' a hk hs.wi hs.di
    | cons _ _ => exact hk.elim
  · obtain ⟨t, ob1, nt, df⟩ := s
    cases df <;> exact hk.elim
  · obtain ⟨t, ob1, nt, df⟩ := s
    cases df with
    | nil => exact hret ob1 nt g' w' a hk hs.wi hs.di
    | cons _ _ => exact hk.elim
  · obtain ⟨t, ob1, nt, df⟩ := s
    cases df <;> exact hk.elim

end VL

namespace VL
open Go
set_option linter.unusedVariables false
set_option linter.unusedSimpArgs false

def SemOf (P : Program) (m : Nat) (code : Code) (s : St) (K : Ex → St → Prop) : Prop :=
  ∀ (c : Ctx) (Q : Exit → Act → World → Prop) (g : G) (w : World) (a : Act), c.n0 ≤ m → Fits c K Q → Sim c g w a s → code.wp P Q a w

/-- what is told of s' is told of s, and more; objects below m are not forgotten -/
def Weak (m : Nat) (s s' : St) : Prop := ∀ (c : Ctx) (g : G) (w : World) (a : Act), c.n0 ≤ m → Sim c g w a s → ∃ g', Sim c g' w a s'

def wk (m : Nat) (K : Ex → St → Prop) (e : Ex) (s : St) : Prop :=
  match e with
  | .pan v => K (.pan v) s
  | e => ∃ s', Weak m s s' ∧ K e s'

inductive LoopS (P : Program) (m : Nat) (code : Code) (K : Ex → St → Prop) : St → Prop
  | step {s : St} (R : St → Prop) (hR : ∀ s', R s' → LoopS P m code K s')
      (h : SemOf P m code s (fun e s' => match e with | .normal => R s' | e => K e s')) : LoopS P m code K s

theorem loopS_sound {P : Program} {m : Nat} {code : Code} {K : Ex → St → Prop} {s : St} (h : LoopS P m code K s) : SemOf P m (.loop code) s K := by
  intro c Q g w a hm hf hs b k cs
  have key : ∀ s, LoopS P m code K s → ∀ g w a, Sim c g w a s → ∃ e a' w', Q e a' w' ∧ Arrives P (lone (b.at a (.code code :: .inLoop code :: k)) cs w) b k cs e a' w' := by
    intro s hl
    induction hl with
    | @step s R hR h ih =>
      intro g w a hs
      have hw : code.wp P (Exit.then (fun a' w' => ∃ s' g', R s' ∧ Sim c g' w' a' s') Q) a w :=
        h c _ g w a hm ⟨fun s g w a hk hs => ⟨s, g, hk, hs⟩, fun i s g w a hk hs => hf.exit i s g w a hk hs, fun s g w a hk hs => hf.ret s g w a hk hs, fun v x s g w a hk hs hv => hf.pan v x s g w a hk hs hv⟩ hs
      obtain ⟨e, a₁, w₁, hq, harr⟩ := hw b (.inLoop code :: k) cs
      cases e with
      | normal =>
        obtain ⟨s', g', hr, hs'⟩ := hq
        obtain ⟨e₂, a₂, w₂, hq₂, harr₂⟩ := ih s' hr g' w₁ a₁ hs'
        exact ⟨e₂, a₂, w₂, hq₂, .of_steps (Steps.trans harr (.one step_inLoop)) harr₂⟩
      | exit id => exact ⟨_, a₁, w₁, hq, .pass (x := .inLoop code) rfl (fun _ _ => .inl (by simp)) harr⟩
      | goto l => exact ⟨_, a₁, w₁, hq, .pass (x := .inLoop code) rfl (fun _ _ => .inl (by simp)) harr⟩
      | ret => exact ⟨_, a₁, w₁, hq, .pass (x := .inLoop code) rfl (fun _ _ => .inl (by simp)) harr⟩
      | panic ch => exact ⟨_, a₁, w₁, hq, .pass (x := .inLoop code) rfl (fun _ _ => .inl (by simp)) harr⟩
      | outgrown => exact ⟨_, a₁, w₁, hq, .pass (x := .inLoop code) rfl (fun _ _ => .inl (by simp)) harr⟩
  obtain ⟨e, a', w', hq, harr⟩ := key s h g w a hs
  exact ⟨e, a', w', hq, .of_steps (.one step_loop) harr⟩

theorem fits_wk {c : Ctx} {m : Nat} (hm : c.n0 ≤ m) {K : Ex → St → Prop} {Q : Exit → Act → World → Prop} (h : Fits c K Q) : Fits c (wk m K) Q where
  normal s g w a hk hs := by obtain ⟨s', hw, hk⟩ := hk; obtain ⟨g', hs'⟩ := hw c g w a hm hs; exact h.normal s' g' w a hk hs'
  exit i s g w a hk hs := by obtain ⟨s', hw, hk⟩ := hk; obtain ⟨g', hs'⟩ := hw c g w a hm hs; exact h.exit i s' g' w a hk hs'
  ret s g w a hk hs := by obtain ⟨s', hw, hk⟩ := hk; obtain ⟨g', hs'⟩ := hw c g w a hm hs; exact h.ret s' g' w a hk hs'
  pan v x s g w a hk hs hv := h.pan v x s g w a hk hs hv

/-- a loop's contract -/
structure VLoop (P : Program) (m : Nat) (code : Code) (s : St) (K : Ex → St → Prop) : Prop where
  mk :: out : LoopS P m code (wk m K) s

theorem VLoop.sound {P : Program} {m : Nat} {code : Code} {s : St} {K : Ex → St → Prop} (h : VLoop P m code s K) : SemOf P m (.loop code) s K := by
  exact fun c Q g w a hm hf hs => loopS_sound h.out c Q g w a hm (fits_wk hm hf) hs

theorem VLoop.enter {P : Program} {m : Nat} {code : Code} {s s' : St} {K : Ex → St → Prop} (hw : Weak m s s') (h : VLoop P m code s' K) : VLoop P m code s K := by
  refine ⟨?_⟩
  cases h.out with
  | step R hR h => exact .step R hR fun c Q g w a hm hf hs => by obtain ⟨g', hs'⟩ := hw c g w a hm hs; exact h c Q g' w a hm hf hs'

theorem VLoop.round {P : Program} {m : Nat} {code : Code} {s : St} {K : Ex → St → Prop} (h : SemOf P m code s fun e s' => match e with
    | .normal => ∃ s'', Weak m s' s'' ∧ VLoop P m code s'' K
    | e => wk m K e s') : VLoop P m code s K := by
  refine ⟨?_⟩
  refine .step (fun s' => LoopS P m code (wk m K) s') (fun _ h => h) fun c Q g w a hm hf hs => h c Q g w a hm ?_ hs
  refine ⟨fun s g w a hk hs => ?_, fun i s g w a hk hs => hf.exit i s g w a hk hs, fun s g w a hk hs => hf.ret s g w a hk hs, fun v x s g w a hk hs hv => hf.pan v x s g w a hk hs hv⟩
  obtain ⟨s'', hw, hk⟩ := hk
  obtain ⟨g', hs'⟩ := hw _ g w a hm hs
  exact hf.normal s'' g' w a hk.out hs'

/-- what comes next in a function's code -/
structure VStep (P : Program) (m : Nat) (code : Code) (s : St) (K : Ex → St → Prop) : Prop where
  mk :: out : SemOf P m code s K

structure VCallD (P : Program) (f : FuncId) (args : List V) (ob : List VObj) (r : Option V) (K : Bool → List VObj → Prop) : Prop where
  mk :: out : VCallD0 P f args ob r K

theorem VStep.weak {P : Program} {m : Nat} {code : Code} {s s' : St} {K : Ex → St → Prop} (hw : Weak m s s') (h : VStep P m code s' K) : VStep P m code s K :=
  ⟨fun c Q g w a hm hf hs => by obtain ⟨g', hs'⟩ := hw c g w a hm hs; exact h.out c Q g' w a hm hf hs'⟩

/-- the reckoning for a program: calls and loops by their contracts; m: how many objects the function was handed; mu: slots whose slices are to be written -/
noncomputable def sys (P : Program) (m : Nat) (mu : List Tmp) : Sys := ⟨P, VCall P, fun code s K => VLoop P m code s K, fun code s K => VStep P m code s K, VCallD P, mu⟩

theorem call_mono (P : Program) (m : Nat) (mu : List Tmp) : CallMono (sys P m mu) := fun g args ob K K' h hc => .shut <| by
  intro w g cargs hw hl hr
  refine (VCall.open hc w g cargs hw hl hr).mono fun e w' he => ?_
  obtain ⟨out, ob', g', hk, rest⟩ := he
  exact ⟨out, ob', g', h _ _ hk, rest⟩

theorem VCall.mono {P : Program} {f : FuncId} {args : List V} {ob : List VObj} {K K' : Out → List VObj → Prop} (h : ∀ o ob, K o ob → K' o ob) (hc : VCall P f args ob K) : VCall P f args ob K' :=
  call_mono P 0 [] f args ob K K' h hc

theorem code_sound {P : Program} {m : Nat} {mu : List Tmp} {code : Code} {s : St} {K : Ex → St → Prop} (h : vwp (sys P m mu) code s K) : SemOf P m code s K :=
  fun c Q g w a hm hf hs => sound_code (S := sys P m mu) (c := c) (call_mono P m mu) (fun _ _ _ _ h => h.open) (fun code s K Q g w a h hf hs => VLoop.sound h c Q g w a hm hf hs)
    (fun code s K Q g w a h hf hs => VStep.out h c Q g w a hm hf hs) code s K Q g w a h hf hs

/-- the reckoning goes on -/
theorem step_go {P : Program} {m : Nat} (mu : List Tmp) {code : Code} {s : St} {K : Ex → St → Prop} (h : vwp (sys P m mu) code s K) : VStep P m code s K := ⟨code_sound h⟩

theorem loop_round {P : Program} {m : Nat} (mu : List Tmp) {code : Code} {s : St} {K : Ex → St → Prop} (h : vwp (sys P m mu) code s fun e s' => match e with
    | .normal => ∃ s'', Weak m s' s'' ∧ VLoop P m code s'' K
    | e => wk m K e s') : VLoop P m code s K := VLoop.round (code_sound h)

theorem call_fun (mu : List Tmp) (m : Nat) {P : Program} {f : FuncId} {fn : Func} {body : Code} (hf : P.funcs[f]? = some fn) (hb : fn.body = some body) (hn : (fn.name == "runtime.NumGoroutine") = false) {args : List V} {ob : List VObj} {K : Out → List VObj → Prop}
    (h : vfun (sys P m mu) fn body args ob K) (hm : ob.length = m := by rfl) : VCall P f args ob K := by
  subst hm
  exact .shut (fun_sound (S := sys P ob.length mu) (call_mono P _ mu) (fun _ _ _ _ h => h.open) (fun _ _ _ _ _ h => h.out) (fun code s K c Q g w a hc h hf hs => VLoop.sound h c Q g w a (by omega) hf hs)
    (fun code s K c Q g w a hc h hf hs => VStep.out h c Q g w a (by omega) hf hs) hf hb hn h)

theorem calld_fun (mu : List Tmp) (m : Nat) {P : Program} {f : FuncId} {fn : Func} {body : Code} (hf : P.funcs[f]? = some fn) (hb : fn.body = some body) (hn : (fn.name == "runtime.NumGoroutine") = false) {args : List V} {ob : List VObj} {r : Option V} {K : Bool → List VObj → Prop}
    (h : vfunD (sys P m mu) fn body args ob r K) (hm : ob.length = m := by rfl) : VCallD P f args ob r K := by
  subst hm
  exact .mk (fund_sound (S := sys P ob.length mu) (call_mono P _ mu) (fun _ _ _ _ h => h.open) (fun code s K c Q g w a hc h hf hs => VStep.out h c Q g w a (by omega) hf hs) hf hb hn h)

-- what may be forgotten

inductive VW : V → V → Prop
  | undef {v} : VW v .undef
  | eq {v v'} (h : v = v') : VW v v'
  | no {l r} : VW (.sl l r) (.sl l .no)
  | spare {l m} : VW (.spare l m) (.sl l .no)

inductive VWs : List V → List V → Prop
  | nil : VWs [] []
  | cons {v v' r r'} (h : VW v v') (hr : VWs r r') : VWs (v :: r) (v' :: r')

inductive OW : VObj → VObj → Prop
  | none {o} (h : o.mv = false) : OW o .none
  | eq {o o'} (h : o = o') : OW o o'
  | cells {w T cs cs'} (h : VWs cs cs') : OW (.cells w T cs) (.cells w T cs')

inductive OWs : List VObj → List VObj → Prop
  | nil {l} : OWs l []
  | cons {v v' r r'} (h : OW v v') (hr : OWs r r') : OWs (v :: r) (v' :: r')

theorem OW.real {x y : VObj} (h : OW x y) (hy : y.real = true) : x.real = true := by
  cases h with
  | none => cases hy
  | eq h => subst h; exact hy
  | cells => rfl
theorem OW.loose {x y : VObj} (h : OW x y) (hy : y.loose = true) : x.loose = true := by
  cases h with
  | none => cases hy
  | eq h => subst h; exact hy
  | cells => cases hy
theorem OW.mv {x y : VObj} (h : OW x y) (hy : y.mv = false) : x.mv = false := by
  cases h with
  | none h => exact h
  | eq h => subst h; exact hy
  | cells => rfl

theorem VWs.length {l l' : List V} (h : VWs l l') : l.length = l'.length := by
  induction h with
  | nil => rfl
  | cons _ _ ih => simp [ih]

theorem VWs.get {l l' : List V} (h : VWs l l') : ∀ {k : Nat} {v' : V}, l'[k]? = some v' → ∃ v, l[k]? = some v ∧ VW v v' := by
  induction h with
  | nil => intro k v' h; simp at h
  | cons h _ ih =>
    intro k v' hk
    cases k with
    | zero => simp at hk; subst hk; exact ⟨_, rfl, h⟩
    | succ k => exact ih (by simpa using hk)

theorem OWs.get {l l' : List VObj} (h : OWs l l') : ∀ {k : Nat} {v' : VObj}, l'[k]? = some v' → ∃ v, l[k]? = some v ∧ OW v v' := by
  induction h with
  | nil => intro k v' h; simp at h
  | cons h _ ih =>
    intro k v' hk
    cases k with
    | zero => simp at hk; subst hk; exact ⟨_, rfl, h⟩
    | succ k => exact ih (by simpa using hk)

def VObj.low (n : Nat) : VObj → Bool
  | .cells _ _ cs => V.lowL n cs
  | _ => true

def lowO (n : Nat) : List VObj → Bool
  | [] => true
  | o :: r => o.low n && lowO n r

def V.ltTok (n : Nat) : V → Bool
  | .sl _ (.tok i _) => Nat.blt i n
  | _ => true

def ltToks (n : Nat) : List V → Bool
  | [] => true
  | v :: r => v.ltTok n && ltToks n r

def VObj.ltTok (n : Nat) : VObj → Bool
  | .cells _ _ cs => ltToks n cs
  | _ => true

def ltToksO (n : Nat) : List VObj → Bool
  | [] => true
  | o :: r => o.ltTok n && ltToksO n r

theorem lowO_get {n : Nat} : ∀ {l : List VObj}, lowO n l = true → ∀ {k : Nat} {o : VObj}, l[k]? = some o → o.low n = true
  | x :: r, h, k, o, hk => by
    simp only [lowO, Bool.and_eq_true] at h
    cases k with
    | zero => simp at hk; exact hk ▸ h.1
    | succ k => exact lowO_get h.2 (by simpa using hk)

theorem ltToks_get {n : Nat} : ∀ {l : List V}, ltToks n l = true → ∀ {k : Nat} {v : V}, l[k]? = some v → v.ltTok n = true
  | x :: r, h, k, o, hk => by
    simp only [ltToks, Bool.and_eq_true] at h
    cases k with
    | zero => simp at hk; exact hk ▸ h.1
    | succ k => exact ltToks_get h.2 (by simpa using hk)

theorem ltToksO_get {n : Nat} : ∀ {l : List VObj}, ltToksO n l = true → ∀ {k : Nat} {o : VObj}, l[k]? = some o → o.ltTok n = true
  | x :: r, h, k, o, hk => by
    simp only [ltToksO, Bool.and_eq_true] at h
    cases k with
    | zero => simp at hk; exact hk ▸ h.1
    | succ k => exact ltToksO_get h.2 (by simpa using hk)

theorem VRel.unspare {bs : Nat → Nat} {I : Nat → Nat → Prop} {w : World} {n : Nat} {l m : List V} {x : Value} (h : VRel bs I w n (.spare l m) x) : VRel bs I w n (.sl l .no) x := by
  cases h with
  | spare u hl hcap hz' hc hu =>
    exact .sl u hl (by omega) (by simp) (fun x hx => hz' x (List.mem_append_left _ hx))
      (fun k v hk => hc k v (by rw [List.flatMap_append, List.getElem?_append_left (List.getElem?_eq_some_iff.1 hk).1]; exact hk))
      (fun k v hk => hu k v (by rw [List.flatMap_append, List.getElem?_append_left (List.getElem?_eq_some_iff.1 hk).1]; exact hk))

theorem VW.vt {g : G} {w : World} {n nt n' nt' : Nat} {v v' : V} {x : Value} (h : VT g w n nt v x) (hw : VW v v') (hl : v'.low n' = true) (ht : v'.ltTok nt' = true) : VT g w n' nt' v' x := by
  have h1 : VT g w n nt v' x := by
    cases hw with
    | undef => exact ⟨.undef, trivial⟩
    | eq h => subst h; assumption
    | no => exact ⟨h.rel.room _ (by simp), trivial⟩
    | spare => exact ⟨h.rel.unspare, trivial⟩
  refine ⟨h1.rel.low hl, ?_⟩
  have h2 := h1.tok
  unfold Tok at h2 ⊢
  split
  · rename_i i sz
    simp only at h2
    refine ⟨?_, h2.2⟩
    simpa [V.ltTok, Nat.blt_eq] using ht
  · trivial

def lowD (n : Nat) : List (Fn × List V × List V) → Bool
  | [] => true
  | (_, a, b) :: r => V.lowL n a && V.lowL n b && lowD n r

theorem weak_of {m : Nat} {t t' : List V} {ob ob' : List VObj} {nt nt' : Nat} {df : List (Fn × List V × List V)} (h1 : VWs t t') (h2 : OWs ob ob') (h3 : Nat.ble nt' nt = true) (h4 : Nat.ble m ob'.length = true)
    (h5 : (V.lowL ob'.length t' && lowO ob'.length ob' && ltToks nt' t' && ltToksO nt' ob' && lowD ob'.length df) = true) : Weak m ⟨t, ob, nt, df⟩ ⟨t', ob', nt', df⟩ := by
  intro c g w a hm hs
  simp only [Bool.and_eq_true] at h5
  obtain ⟨⟨⟨⟨l1, l2⟩, l3⟩, l4⟩, l5⟩ := h5
  have h3 := Nat.le_of_ble_eq_true h3
  have h4 := Nat.le_of_ble_eq_true h4
  refine ⟨g, ⟨hs.wi.os, hs.wi.tape, hs.wi.output, hs.wi.size, hs.wi.keep, Nat.le_trans hm h4, ?_, ?_, ?_, ?_, ?_, hs.wi.i1, hs.wi.i2, hs.wi.i3, ?_, ?_, ?_, ?_, hs.wi.i6⟩, ⟨?_, ?_⟩, ?_⟩
  · intro o y hy
    obtain ⟨x, hx, hw⟩ := h2.get hy
    have ho := hs.wi.obj o x hx
    cases hw with
    | none => trivial
    | eq h =>
      subst h
      cases x with
      | none => trivial
      | map es => exact ho
      | buf m z l => exact ho
      | cells wr T cs =>
        obtain ⟨arr, a1, a2, a3⟩ := ho
        exact ⟨arr, a1, a2, fun k v c hv hc => ⟨(VW.eq rfl).vt (a3 k v c hv hc).1 (lowL_get (lowO_get l2 hy) hv) (ltToks_get (ltToksO_get l4 hy) hv), (a3 k v c hv hc).2⟩⟩
    | cells h =>
      obtain ⟨arr, a1, a2, a3⟩ := ho
      refine ⟨arr, a1, by rw [← h.length]; exact a2, fun k v c hv hc => ?_⟩
      obtain ⟨u, hu, hw⟩ := h.get hv
      exact ⟨hw.vt (a3 k u c hu hc).1 (lowL_get (lowO_get l2 hy) hv) (ltToks_get (ltToksO_get l4 hy) hv), (a3 k u c hu hc).2⟩
  · intro o y hy hn
    obtain ⟨x, hx, hw⟩ := h2.get hy
    exact hs.wi.lt o x hx (hw.real hn)
  · intro o o' y y' hy hy' hn hn'
    obtain ⟨x, hx, hw⟩ := h2.get hy
    obtain ⟨x', hx', hw'⟩ := h2.get hy'
    exact hs.wi.inj o o' x x' hx hx' (hw.real hn) (hw'.real hn')
  · intro o y ho hy hmv
    obtain ⟨x, hx, hw⟩ := h2.get hy
    exact hs.wi.old o x ho hx (hw.mv hmv)
  · intro o y hy hn
    obtain ⟨x, hx, hw⟩ := h2.get hy
    exact hs.wi.new o x hx (hw.real hn)
  · intro o T cs k hy
    obtain ⟨x, hx, hw⟩ := h2.get hy
    cases hw with
    | eq h => subst h; exact hs.wi.i4 o _ _ k hx
    | cells h => exact hs.wi.i4 o _ _ k hx
  · intro o y k hy hlo
    obtain ⟨x, hx, hw⟩ := h2.get hy
    exact hs.wi.i5 o x k hx (hw.loose hlo)
  · intro i hi hn
    obtain ⟨f1, f2, f3, f4⟩ := hs.wi.f1 i (Nat.lt_of_lt_of_le hi h3) hn
    refine ⟨f1, f2, f3, fun o y hy hny => ?_⟩
    obtain ⟨x, hx, hw⟩ := h2.get hy
    exact f4 o x hx (hw.real hny)
  · intro i j hi hj
    exact hs.wi.f2 i j (Nat.lt_of_lt_of_le hi h3) (Nat.lt_of_lt_of_le hj h3)
  · rw [← h1.length]; exact hs.ti.size
  · intro k v x hv hx
    obtain ⟨u, hu, hw⟩ := h1.get hv
    exact hw.vt (hs.ti.rel k u x hu hx) (lowL_get l1 hv) (ltToks_get l3 hv)
  · have := hs.di
    simp only at this ⊢
    generalize a.defers = ds at this
    clear h1 h2 l1 l2 l3 l4 hs h3 h4
    induction this with
    | nil => exact .nil
    | @cons d x ds xs h _ ih =>
      obtain ⟨f, p, q⟩ := x
      simp only [lowD, Bool.and_eq_true] at l5
      obtain ⟨cap, e1, e2, e3, e4, e5⟩ := h
      exact .cons ⟨cap, e1, e2, e3, fun k v c hv hc => (e4 k v c hv hc).low (lowL_get l5.1.1 hv), fun k v c hv hc => (e5 k v c hv hc).low (lowL_get l5.1.2 hv)⟩ (ih l5.2)

/-- objects selected, and named by their new places; what names another one is forgotten -/
def St.selK (m : Nat) (src : List Nat) : St → (St → Prop) → Prop
  | ⟨t, ob, nt, df⟩, K =>
    let gone := goneOf (upto ob.length 0) src
    forgetK gone t ob df fun t ob =>
    match nodupN src && Nat.ble m src.length && selOk ob src src && preOk ob m 0 src with
    | false => False
    | true =>
    mapK (renP fun i => posN i src 0) t fun t =>
    selObjs ob m src 0 src fun ob =>
    dfsK (fun i => posN i src 0) df fun df => K ⟨t, ob, nt, df⟩
where
  goneOf : List Nat → List Nat → List Nat
    | [], _ => []
    | i :: r, src => match memN i src with | true => goneOf r src | false => i :: goneOf r src
  selOk (ob : List VObj) (src : List Nat) : List Nat → Bool
    | [] => true
    | i :: r => Nat.blt i ob.length && allIn src (((ob[i]?).map ptrsO).getD []) && selOk ob src r
  preOk (ob : List VObj) (m : Nat) : Nat → List Nat → Bool
    | _, [] => true
    | j, i :: r => (!Nat.blt j m || Nat.beq i j || (match ob[i]? with | some (.buf _ _ _) => true | _ => false)) && preOk ob m (j + 1) r
  selObjs (ob : List VObj) (m : Nat) (src : List Nat) : Nat → List Nat → (List VObj → Prop) → Prop
    | _, [], K => K []
    | j, i :: r, K => getK ob i fun o => (match Nat.beq i j || !Nat.blt j m, o with
      | false, .buf _ z l => selObjs ob m src (j + 1) r fun os => K (.buf true z l :: os)
      | _, o => renOP (fun i => posN i src 0) o fun o => selObjs ob m src (j + 1) r fun os => K (o :: os))
  dfsK (f : Nat → Nat) : List (Fn × List V × List V) → (List (Fn × List V × List V) → Prop) → Prop
    | [], K => K []
    | (g, a, b) :: r, K => mapK (renP f) a fun a => mapK (renP f) b fun b => dfsK f r fun r => K ((g, a, b) :: r)

theorem goneOf_mem {src : List Nat} : ∀ {l : List Nat} {i : Nat}, i ∈ l → i ∉ St.selK.goneOf l src → i ∈ src
  | j :: r, i, h, hn => by
    simp only [St.selK.goneOf] at hn
    cases hm : memN j src with
    | true =>
      rw [hm] at hn
      rcases List.mem_cons.1 h with rfl | h
      · exact memN_iff.1 hm
      · exact goneOf_mem h hn
    | false =>
      rw [hm] at hn
      simp only [List.mem_cons, not_or] at hn
      rcases List.mem_cons.1 h with rfl | h
      · exact absurd rfl hn.1
      · exact goneOf_mem h hn.2

theorem mem_upto : ∀ {n i k : Nat}, i ≤ k → k < i + n → k ∈ upto n i
  | 0, i, k, h, h' => by omega
  | n + 1, i, k, h, h' => by
    simp only [upto, List.mem_cons]
    by_cases e : k = i
    · exact .inl e
    · exact .inr (mem_upto (by omega) (by omega))

theorem selOk_iff {ob : List VObj} {src : List Nat} : ∀ {l : List Nat}, St.selK.selOk ob src l = true → ∀ i ∈ l, i < ob.length ∧ ∀ x, ob[i]? = some x → ∀ o ∈ ptrsO x, o ∈ src
  | j :: r, h, i, hi => by
    simp only [St.selK.selOk, Bool.and_eq_true] at h
    rcases List.mem_cons.1 hi with rfl | hi
    · exact ⟨by simpa [Nat.blt_eq] using h.1.1, fun x hx o ho => allIn_iff h.1.2 o (by rw [hx]; simpa using ho)⟩
    · exact selOk_iff h.2 i hi

theorem preOk_iff {ob : List VObj} {m : Nat} : ∀ {l : List Nat} {j0 : Nat}, St.selK.preOk ob m j0 l = true → ∀ (j i : Nat), l[j]? = some i → j0 + j < m → i = j0 + j ∨ ∃ b z l, ob[i]? = some (.buf b z l)
  | k :: r, j0, h, j, i, hj, hm => by
    simp only [St.selK.preOk, Bool.and_eq_true, Bool.or_eq_true, Bool.not_eq_true'] at h
    cases j with
    | zero =>
      simp at hj; subst hj
      rcases h.1 with (h1 | h1) | h1
      · have : Nat.blt j0 m = true := by rw [Nat.blt_eq]; omega
        rw [this] at h1; cases h1
      · exact .inl (by have := Nat.eq_of_beq_eq_true h1; omega)
      · right
        split at h1
        · rename_i b z l e; exact ⟨b, z, l, e⟩
        · cases h1
    | succ j =>
      rcases preOk_iff h.2 j i (by simpa using hj) (by omega) with h | h
      · exact .inl (by omega)
      · exact .inr h

theorem selObjs_iff {ob : List VObj} {m : Nat} {src : List Nat} : ∀ {l : List Nat} {j0 : Nat} {K : List VObj → Prop}, St.selK.selObjs ob m src j0 l K → ∃ sub, sub.length = l.length ∧
    (∀ (j i : Nat), l[j]? = some i → ∃ o, ob[i]? = some o ∧ ((sub[j]? = some (renO (fun i => posN i src 0) o) ∧ (i ≠ j0 + j → j0 + j < m → ∀ b z l, o ≠ .buf b z l)) ∨ ∃ b z l, o = .buf b z l ∧ sub[j]? = some (.buf true z l))) ∧ K sub
  | [], _, K, h => ⟨[], rfl, by simp, h⟩
  | k :: r, j0, K, h => by
    obtain ⟨o, h0, h⟩ := getK_iff h
    have step : ∀ {o' : VObj}, (St.selK.selObjs ob m src (j0 + 1) r fun os => K (o' :: os)) → ((o' = renO (fun i => posN i src 0) o ∧ (k ≠ j0 → j0 < m → ∀ b z l, o ≠ .buf b z l)) ∨ ∃ b z l, o = .buf b z l ∧ o' = .buf true z l) → ∃ sub, sub.length = (k :: r).length ∧
        (∀ (j i : Nat), (k :: r)[j]? = some i → ∃ o, ob[i]? = some o ∧ ((sub[j]? = some (renO (fun i => posN i src 0) o) ∧ (i ≠ j0 + j → j0 + j < m → ∀ b z l, o ≠ .buf b z l)) ∨ ∃ b z l, o = .buf b z l ∧ sub[j]? = some (.buf true z l))) ∧ K sub := fun {o'} h hc => by
      obtain ⟨sub, g1, g2, g3⟩ := selObjs_iff h
      refine (⟨o' :: sub, by simp [g1], fun j i hj => ?_, g3⟩ : ∃ sub, sub.length = (k :: r).length ∧
        (∀ (j i : Nat), (k :: r)[j]? = some i → ∃ o, ob[i]? = some o ∧ ((sub[j]? = some (renO (fun i => posN i src 0) o) ∧ (i ≠ j0 + j → j0 + j < m → ∀ b z l, o ≠ .buf b z l)) ∨ ∃ b z l, o = .buf b z l ∧ sub[j]? = some (.buf true z l))) ∧ K sub)
      cases j with
      | zero =>
        simp at hj; subst hj
        refine ⟨o, h0, ?_⟩
        rcases hc with ⟨h1, h2⟩ | ⟨b, z, l, h1, h2⟩
        · exact .inl ⟨by simp [h1], h2⟩
        · exact .inr ⟨b, z, l, h1, by simp [h2]⟩
      | succ j =>
        obtain ⟨o1, q1, q2⟩ := g2 j i (by simpa using hj)
        refine ⟨o1, q1, ?_⟩
        rcases q2 with ⟨q2, q3⟩ | ⟨b, z, l, q2, q3⟩
        · exact .inl ⟨by simpa using q2, fun a b => q3 (by omega) (by omega)⟩
        · exact .inr ⟨b, z, l, q2, by simpa using q3⟩
    split at h
    · exact step h (.inr ⟨_, _, _, rfl, rfl⟩)
    · rename_i hne
      refine step (renOP_iff h) (.inl ⟨rfl, fun h1 h2 b z l e => ?_⟩)
      subst e
      refine hne b z l ?_ rfl
      have e1 : Nat.beq k j0 = false := by cases hb : Nat.beq k j0 with
        | true => exact absurd (Nat.eq_of_beq_eq_true hb) h1
        | false => rfl
      have e2 : Nat.blt j0 m = true := by rw [Nat.blt_eq]; exact h2
      simp [e1, e2]

theorem dfsK_iff {f : Nat → Nat} : ∀ {df : List (Fn × List V × List V)} {K : List (Fn × List V × List V) → Prop}, St.selK.dfsK f df K → K (df.map fun x => (x.1, renL f x.2.1, renL f x.2.2))
  | [], K, h => h
  | (g, a, b) :: r, K, h => dfsK_iff (df := r) (mapK_renP (mapK_renP h))

theorem drel_sel {g g' : G} {w : World} {n n' : Nat} {ms : List Nat} {f : Nat → Nat} (hm : ∀ v x, VRel g.bs g.I w n v x → (∀ o ∈ ptrs v, o ∉ ms) → VRel g'.bs g'.I w n' (ren f v) x) {ds : List Deferred} {df : List (Fn × List V × List V)} (h : DRel g w n ds df) (hd : noneIn ms df = true) :
    DRel g' w n' ds (df.map fun x => (x.1, renL f x.2.1, renL f x.2.2)) := by
  induction h with
  | nil => exact .nil
  | @cons d x ds xs h1 _ ih =>
    obtain ⟨f0, p, q⟩ := x
    simp only [noneIn, Bool.and_eq_true, Bool.not_eq_true'] at hd
    obtain ⟨⟨d1, d2⟩, d3⟩ := hd
    obtain ⟨cap', e1, e2, e3, e4, e5⟩ := h1
    refine .cons ⟨cap', e1, by rw [renL_length]; exact e2, by rw [renL_length]; exact e3, fun k v y hv hy => ?_, fun k v y hv hy => ?_⟩ (ih d3)
    · rw [renL_get] at hv
      obtain ⟨u, hu, rfl⟩ := Option.map_eq_some_iff.1 hv
      exact hm u y (e4 k u y hu hy) fun o ho => anyIn_iff.1 d1 o (ptrsL_get hu ho)
    · rw [renL_get] at hv
      obtain ⟨u, hu, rfl⟩ := Option.map_eq_some_iff.1 hv
      exact hm u y (e5 k u y hu hy) fun o ho => anyIn_iff.1 d2 o (ptrsL_get hu ho)

/-- the same, where nothing is asked of a later state -/
def SelTo (m : Nat) (src : List Nat) (s s' : St) : Prop := St.selK m src s fun s1 => s1 = s'

theorem weak_sel {m : Nat} {src : List Nat} {s : St} {K : St → Prop} (h : St.selK m src s K) : ∃ s', Weak m s s' ∧ K s' := by
  obtain ⟨t, ob, nt, df⟩ := s
  simp only [St.selK] at h
  obtain ⟨hdf, h⟩ := forgetK_iff h
  generalize hgone : St.selK.goneOf (upto ob.length 0) src = gone at h hdf
  split at h
  case h_1 => exact h.elim
  rename_i hchk
  simp only [Bool.and_eq_true] at hchk
  obtain ⟨⟨⟨hnd, hml⟩, hok⟩, hpre⟩ := hchk
  have hnd := nodupN_iff hnd
  have hml := Nat.le_of_ble_eq_true hml
  have hok := selOk_iff hok
  have hpre := preOk_iff hpre
  obtain ⟨sub, hl, hsub, h⟩ := selObjs_iff (mapK_renP h)
  have h := dfsK_iff h
  refine ⟨_, fun c g w a hm hs => ?_, h⟩
  have hin : ∀ v x, VRel g.bs g.I w ob.length v x → (∀ o ∈ ptrs v, o ∉ gone) → ∀ o ∈ ptrs v, o < ob.length → o ∈ src := fun v x hv hp o ho hlt => by
    refine goneOf_mem (l := upto ob.length 0) (mem_upto (by omega) (by omega)) ?_
    rw [hgone]; exact hp o ho
  -- what is forgotten
  have hw1 : WInv c g w (ob.map (forgetO gone)) nt := by
    have hget : ∀ (i : Nat) y, (ob.map (forgetO gone))[i]? = some y → ∃ x, ob[i]? = some x ∧ y = forgetO gone x ∧ x.real = y.real ∧ x.loose = y.loose ∧ x.mv = y.mv := fun i y hy => by
      rw [List.getElem?_map] at hy
      obtain ⟨x, hx, rfl⟩ := Option.map_eq_some_iff.1 hy
      exact ⟨x, hx, rfl, by cases x <;> rfl, by cases x <;> rfl, by cases x <;> rfl⟩
    have hwi := hs.wi
    refine ⟨hwi.os, hwi.tape, hwi.output, hwi.size, hwi.keep, by simpa using hwi.len, ?_, ?_, ?_, ?_, ?_, hwi.i1, hwi.i2, hwi.i3, ?_, ?_, ?_, hwi.f2, hwi.i6⟩
    · intro i y hy
      obtain ⟨x, hx, rfl, _⟩ := hget i y hy
      rw [List.length_map]
      have := hwi.obj i x hx
      cases x with
      | cells wr T cs =>
        obtain ⟨arr, a1, a2, a3⟩ := this
        refine ⟨arr, a1, by simp [a2], fun k v c hv hc => ?_⟩
        rw [List.getElem?_map] at hv
        obtain ⟨u, hu, rfl⟩ := Option.map_eq_some_iff.1 hv
        refine ⟨?_, (a3 k u c hu hc).2⟩
        rcases forget_cases gone u with e | ⟨e, _⟩
        · rw [e]; exact ⟨.undef, trivial⟩
        · rw [e]; exact (a3 k u c hu hc).1
      | _ => exact this
    · intro i y hy hr
      obtain ⟨x, hx, rfl, e, _⟩ := hget i y hy
      exact hwi.lt i x hx (e ▸ hr)
    · intro i j y z hy hz hr hr'
      obtain ⟨x, hx, rfl, e, _⟩ := hget i y hy
      obtain ⟨x', hx', rfl, e', _⟩ := hget j z hz
      exact hwi.inj i j x x' hx hx' (e ▸ hr) (e' ▸ hr')
    · intro i y hi hy hmv
      obtain ⟨x, hx, rfl, _, _, e⟩ := hget i y hy
      exact hwi.old i x hi hx (e ▸ hmv)
    · intro i y hy hr
      obtain ⟨x, hx, rfl, e, _⟩ := hget i y hy
      exact hwi.new i x hx (e ▸ hr)
    · intro i T cs k hy
      obtain ⟨x, hx, e, _⟩ := hget i _ hy
      cases x with
      | cells wr U ds => simp [forgetO] at e; obtain ⟨rfl, _, _⟩ := e; exact hwi.i4 i _ _ k hx
      | _ => simp [forgetO] at e
    · intro i y k hy hlo
      obtain ⟨x, hx, rfl, _, e, _⟩ := hget i y hy
      exact hwi.i5 i x k hx (e ▸ hlo)
    · intro i hi hn
      obtain ⟨f1, f2, f3, f4⟩ := hwi.f1 i hi hn
      refine ⟨f1, f2, f3, fun j y hy hr => ?_⟩
      obtain ⟨x, hx, rfl, e, _⟩ := hget j y hy
      exact f4 j x hx (e ▸ hr)
  rw [List.length_map] at hok
  have hsel := WInv.sel hw1 hnd (sub := sub) (f := fun i => posN i src 0) (posN_inv hnd) hl (fun i hi x hx => (hok i hi).2 x hx)
    (fun j i hj => by
      obtain ⟨o, h1, h2⟩ := hsub j i hj
      refine ⟨o, h1, ?_⟩
      rcases h2 with ⟨h2, _⟩ | ⟨b, z, l, h2, h3⟩
      · exact .inl h2
      · exact .inr ⟨b, z, l, h2, h3⟩)
    (fun j hj => by
      have hlt : j < src.length := by omega
      have hj' : src[j]? = some src[j] := List.getElem?_eq_getElem hlt
      by_cases e : src[j] = j
      · left; rw [hj', e]
      · right
        rcases hpre j _ hj' (by omega) with h | ⟨b, z, l, h⟩
        · exact absurd (by omega) e
        · obtain ⟨o, h1, h2⟩ := hsub j _ hj'
          rw [h] at h1; cases h1
          rcases h2 with ⟨_, h2⟩ | ⟨b', z', l', h2, h3⟩
          · exact absurd rfl (h2 (by omega) (by omega) b z l)
          · exact ⟨z', l', h3⟩) (by omega)
  have hvt : ∀ v x, VT g w ob.length nt v x → (∀ o ∈ ptrs v, o ∉ gone) → VT (inG g src) w sub.length nt (ren (fun i => posN i src 0) v) x := fun v x hv hp => by
    refine ⟨hv.rel.ren fun o ho hlt => ?_, ?_⟩
    · obtain ⟨j, hj⟩ := List.mem_iff_getElem?.1 (hin v x hv.rel hp o ho hlt)
      simp only [posN_inv hnd j o hj, hl]
      exact ⟨(List.getElem?_eq_some_iff.1 hj).1, by simp [inG, hj]⟩
    · have := hv.tok
      cases v <;> first | exact this | (simp only [ren, Tok])
  refine ⟨inG g src, hsel, ⟨by rw [renL_length]; simp [hs.ti.size], fun k v x hv hx => ?_⟩, ?_⟩
  · rw [renL_get, List.getElem?_map] at hv
    obtain ⟨u, hu, rfl⟩ := Option.map_eq_some_iff.1 hv
    obtain ⟨u', hu', rfl⟩ := Option.map_eq_some_iff.1 hu
    rcases forget_cases gone u' with e | ⟨e, hp⟩
    · rw [e]; exact ⟨.undef, trivial⟩
    · rw [e]; exact hvt u' x (hs.ti.rel k u' x hu' hx) hp
  · exact drel_sel (g := g) (g' := inG g src) (n := ob.length) (n' := sub.length) (fun v x hv hp => hv.ren fun o ho hlt => by
      obtain ⟨j, hj⟩ := List.mem_iff_getElem?.1 (hin v x hv hp o ho hlt)
      have e : posN o src 0 = j := posN_inv hnd j o hj
      refine ⟨by show posN o src 0 < sub.length; rw [e, hl]; exact (List.getElem?_eq_some_iff.1 hj).1, ?_⟩
      show (inG g src).bs (posN o src 0) = g.bs o
      rw [e]; simp [inG, hj]) hs.di hdf

/-- a slice with no room behind it may be called this call's own -/
theorem weak_room {m i sz : Nat} {t : List V} {ob : List VObj} {nt : Nat} {df : List (Fn × List V × List V)} {l : List V} (hi : t[i]? = some (.sl l .ex)) (hsz : 0 < sz) (hl : ∀ x ∈ l, x.cells.length = sz) :
    Weak m ⟨t, ob, nt, df⟩ ⟨t.set i (.sl l (.tok nt sz)), ob, nt + 1, df⟩ := by
  intro c g w a hm hs
  have hwi := hs.wi.more ⟨0, 0, 0⟩ (fun h => absurd h (by simp))
  have hlt : i < a.tmps.size := by rw [← hs.ti.size]; exact (List.getElem?_eq_some_iff.1 hi).1
  refine ⟨_, hwi, ⟨by simp [hs.ti.size], fun k v x hv hx => ?_⟩, hs.di.same rfl rfl⟩
  rcases set_get hv with ⟨rfl, rfl⟩ | ⟨_, hv⟩
  · have h0 := hs.ti.rel i _ x hi hx
    refine ⟨h0.rel.room _ (by simp), Nat.lt_succ_self nt, hsz, hl, ?_⟩
    have h1 := h0.rel
    cases h1 with
    | slnil => exact ⟨_, _, _, rfl, .inl rfl⟩
    | sl u h1 h2 h3 => exact ⟨_, _, _, rfl, .inl (h3 rfl)⟩
  · have := hs.ti.rel k v x hv hx
    exact ⟨this.rel, (this.tok.fam this.tok.nt fun j hj => by simp [G.claim, hj]).ext (Nat.le_succ nt) fun _ _ => rfl⟩

theorem Weak.trans {m : Nat} {s s' s'' : St} (h : Weak m s s') (k : Weak m s' s'') : Weak m s s'' := fun c g w a hm hs => by
  obtain ⟨g', hs'⟩ := h c g w a hm hs
  exact k c g' w a hm hs'

theorem Weak.refl {m : Nat} {s : St} : Weak m s s := fun c g w a hm hs => ⟨g, hs⟩

end VL

namespace VL
open Go
set_option linter.unusedVariables false
set_option linter.unusedSimpArgs false

/-- arguments of which less is told -/
theorem VCall.args {P : Program} {f : FuncId} {args args' : List V} {ob : List VObj} {K : Out → List VObj → Prop} (hw : VWs args args') (hl : (V.lowL ob.length args' && ltToks 0 args') = true) (h : VCall P f args' ob K) : VCall P f args ob K := by
  simp only [Bool.and_eq_true] at hl
  refine .shut fun w g cargs hwi hsz hr => h.open w g cargs hwi (by rw [← hw.length]; exact hsz) fun k v x hv hx => ?_
  obtain ⟨u, hu, hvw⟩ := hw.get hv
  exact hvw.vt (hr k u x hu hx) (lowL_get hl.1 hv) (ltToks_get hl.2 hv)

def Out.val : Out → V
  | .ret v => v
  | .pan v => v

def Out.with : Out → V → Out
  | .ret _, v => .ret v
  | .pan _, v => .pan v

/-- an answer of which less is told: panics stay as they are -/
theorem VCall.weak {P : Program} {f : FuncId} {args : List V} {ob : List VObj} {K : Out → List VObj → Prop}
    (h : VCall P f args ob fun out sub => match out with
      | .ret v => ∃ v' sub', Weak ob.length ⟨[v], sub, 0, []⟩ ⟨[v'], sub', 0, []⟩ ∧ K (.ret v') sub'
      | .pan v => K (.pan v) sub) : VCall P f args ob K := by
  refine .shut fun w g cargs hwi hsz hr => (h.open w g cargs hwi hsz hr).mono fun e w' ⟨out, sub, g', hk, hwi', he⟩ => ?_
  cases out with
  | pan v => exact ⟨_, _, _, hk, hwi', he⟩
  | ret v =>
    obtain ⟨x, rfl⟩ : ∃ x, e = .returned x := by
      cases e with
      | returned x => exact ⟨x, rfl⟩
      | _ => exact he.elim
    obtain ⟨v', sub', hw, hk⟩ := hk
    have hs : Sim ⟨w, ob.length, g.bs, g.I, Owns g ob⟩ g' w' ⟨#[x], []⟩ ⟨[v], sub, 0, []⟩ := ⟨hwi', ⟨rfl, fun k u y hu hy => by
      cases k with
      | zero => simp at hu hy; subst hu; subst hy; exact he
      | succ k => simp at hu⟩, .nil⟩
    obtain ⟨g2, hs2⟩ := hw _ _ _ _ (Nat.le_refl _) hs
    exact ⟨_, _, _, hk, hs2.wi, hs2.ti.rel 0 _ _ rfl rfl⟩

-- a row that is not written any more

mutual
def frzP (i z : Nat) (L : List V) (sp : Bool) : V → (V → Prop) → Prop
  | .slo o z' lo n c, K => match Nat.beq o i with
    | false => K (.slo o z' lo n c)
    | true => (match Nat.beq z' z with
      | true => lo + c ≤ L.length ∧ (match sp with
        | true => 0 < c ∧ K (.spare ((L.drop lo).take n) ((L.drop (lo + n)).take (c - n)))
        | false => K (.sl ((L.drop lo).take n) .no))
      | false => K .undef)
  | .agg l, K => frzPL i z L sp l fun l => K (.agg l)
  | .tup l, K => frzPL i z L sp l fun l => K (.tup l)
  | v, K => (V.forget [i] v).force K
def frzPL (i z : Nat) (L : List V) (sp : Bool) : List V → (List V → Prop) → Prop
  | [], K => K []
  | v :: r, K => frzP i z L sp v fun v => frzPL i z L sp r fun r => K (v :: r)
end

def frzO (i z : Nat) (L : List V) (sp : Bool) : VObj → (VObj → Prop) → Prop
  | .cells wr T cs, K => frzPL i z L sp cs fun cs => K (.cells wr T cs)
  | o, K => K o

/-- the row of object i is written no more -/
def St.frzK (i : Nat) (sp : Bool) : St → (St → Prop) → Prop
  | ⟨t, ob, nt, df⟩, K => getK ob i fun o => match o with
    | .buf _ z L => (match noneIn [i] df with
      | true => frzPL i z L sp t fun t => mapK (frzO i z L sp) ob fun ob => setK ob i (.buf true z []) fun ob => K ⟨t, ob, nt, df⟩
      | false => False)
    | _ => False

section
variable {c : Ctx} {g : G} {w : World} {ob : List VObj} {nt : Nat}

/-- what is known of the row -/
structure Row (g : G) (w : World) (i z : Nat) (L : List V) : Prop where
  row : L = [] ∨ ∃ (arr : Array Value) (T : TypeId), w.heap[g.bs i]? = some (.cells arr T (0, 0)) ∧ arr.size = L.length * z ∧ (∀ x ∈ L, x.cells.length = z ∧ x.cells.all V.okCell = true) ∧
      (∀ (k : Nat) v c, (L.flatMap V.cells)[k]? = some v → arr[k]? = some c → VRel g.bs g.I w 0 v c) ∧ ∀ k, k < L.length * z → g.I (g.bs i) k

theorem frz_sl {n i z lo m c : Nat} {L : List V} {sp : Bool} {x : Value} (hr : Row g w i z L) (h : VRel g.bs g.I w n (.slo i z lo m c) x) (hb : lo + c ≤ L.length) :
    (0 < c → VRel g.bs g.I w n (.spare ((L.drop lo).take m) ((L.drop (lo + m)).take (c - m))) x) ∧ VRel g.bs g.I w n (.sl ((L.drop lo).take m) .no) x := by
  cases h with | @slo _ _ _ _ _ _ ad hlt hle ha hf =>
  have hml : ((L.drop lo).take m).length = m := by simp; omega
  have hsl : ((L.drop (lo + m)).take (c - m)).length = c - m := by simp; omega
  have happ : (L.drop lo).take m ++ (L.drop (lo + m)).take (c - m) = (L.drop lo).take c := by
    rw [show L.drop (lo + m) = (L.drop lo).drop m by rw [List.drop_drop]]
    rw [show c = m + (c - m) by omega, List.take_add]
    simp
  rcases Nat.eq_zero_or_pos c with hc | hc
  · subst hc
    have hm0 : m = 0 := by omega
    subst hm0
    refine ⟨fun h => absurd h (by omega), ?_⟩
    rw [List.take_zero]
    rcases hf with rfl | ⟨b, k, rfl⟩
    · exact .slnil
    · exact .sl (sz := 0) (fun _ => undef) rfl (Nat.le_refl _) (by simp) (by simp) (by simp) (by simp)
  · obtain rfl := ha.resolve_left (by omega)
    have hne : L ≠ [] := fun e => by rw [e, List.length_nil] at hb; omega
    obtain ⟨arr, T, a1, a2, a3, a4, a5⟩ := hr.row.resolve_left hne
    have hz : ∀ y ∈ L, y.cells.length = z := fun y hy => (a3 y hy).1
    have hfl := flat_length hz
    have key : ∀ {q : Nat}, q ≤ c → ∀ (k : Nat) v, (((L.drop lo).take q).flatMap V.cells)[k]? = some v →
        (w.cell? ⟨g.bs i, lo * z + k, none⟩ = some (arr.getD (lo * z + k) undef) ∧ g.I (g.bs i) (lo * z + k)) ∧ VRel g.bs g.I w 0 v (arr.getD (lo * z + k) undef) := fun {q} hq k v hk => by
      have hqz := flat_length (l := (L.drop lo).take q) (z := z) fun y hy => hz y (List.mem_of_mem_drop (List.mem_of_mem_take hy))
      have hlt' : k < q * z := by
        have := (List.getElem?_eq_some_iff.1 hk).1
        rw [hqz, List.length_take, List.length_drop, Nat.min_eq_left (by omega)] at this
        exact this
      have hmul : lo * z + q * z ≤ arr.size := by rw [a2, ← Nat.add_mul]; exact Nat.mul_le_mul_right z (by omega)
      have hja : lo * z + k < arr.size := by omega
      rw [flat_take (sz := z) (fun y hy => a3 y (List.mem_of_mem_drop hy)), flat_drop a3, List.getElem?_take, if_pos hlt', List.getElem?_drop] at hk
      have hg : arr.getD (lo * z + k) undef = arr[lo * z + k] := by simp [Array.getD, hja]
      refine ⟨⟨by simp [World.cell?, a1, Array.getD, hja], a5 _ (by omega)⟩, ?_⟩
      rw [hg]
      exact a4 _ v _ hk (by simp [hja])
    refine ⟨fun _ => ?_, ?_⟩
    · refine .spare (sz := z) (fun k => arr.getD (lo * z + k) undef) hml.symm (by rw [hml, hsl]; omega) (fun y hy => ?_) (fun k v hk => ?_) (fun k v hk => ?_)
      · rw [happ] at hy; exact a3 y (List.mem_of_mem_drop (List.mem_of_mem_take hy))
      · rw [happ] at hk; exact (key (Nat.le_refl c) k v hk).1
      · rw [happ] at hk; exact (key (Nat.le_refl c) k v hk).2
    · exact .sl (sz := z) (fun k => arr.getD (lo * z + k) undef) hml.symm hle (by simp) (fun y hy => a3 y (List.mem_of_mem_drop (List.mem_of_mem_take hy)))
        (fun k v hk => (key hle k v hk).1) (fun k v hk => (key hle k v hk).2)

theorem forget_rel {n : Nat} {ms : List Nat} {v : V} {x : Value} (h : VRel g.bs g.I w n v x) : VRel g.bs g.I w n (V.forget ms v) x := by
  rcases forget_cases ms v with e | ⟨e, _⟩ <;> rw [e]
  · exact .undef
  · exact h

theorem frz_other {i z : Nat} {L : List V} {sp : Bool} {v : V} {K : V → Prop} (he : ∀ K, frzP i z L sp v K = (V.forget [i] v).force K) (h : frzP i z L sp v K) : ∃ v', (∀ g w n, Row g w i z L → ∀ x, VRel g.bs g.I w n v x → VRel g.bs g.I w n v' x) ∧ (v'.noTok = true ∨ v' = v) ∧ K v' := by
  rw [he, force_eq] at h
  refine ⟨_, fun g w n _ x hx => forget_rel hx, ?_, h⟩
  rcases forget_cases [i] v with e | ⟨e, _⟩ <;> rw [e]
  · exact .inl rfl
  · exact .inr rfl

mutual
theorem frzP_sound {i z : Nat} {L : List V} {sp : Bool} : ∀ (v : V) {K : V → Prop}, frzP i z L sp v K → ∃ v', (∀ g w n, Row g w i z L → ∀ x, VRel g.bs g.I w n v x → VRel g.bs g.I w n v' x) ∧ (v'.noTok = true ∨ v' = v) ∧ K v'
  | .slo o z' lo m c, K, h => by
    unfold frzP at h
    split at h
    · exact ⟨_, fun _ _ _ _ _ h => h, .inr rfl, h⟩
    · rename_i ho
      have ho := Nat.eq_of_beq_eq_true ho
      subst ho
      split at h
      · rename_i hz
        have hz := Nat.eq_of_beq_eq_true hz
        subst hz
        obtain ⟨hb, h⟩ := h
        split at h
        · exact ⟨_, fun g w n hr x hx => (frz_sl (sp := true) hr hx hb).1 h.1, .inl rfl, h.2⟩
        · exact ⟨_, fun g w n hr x hx => (frz_sl (sp := true) hr hx hb).2, .inl rfl, h⟩
      · exact ⟨_, fun _ _ _ _ _ _ => .undef, .inl rfl, h⟩
  | .agg l, K, h => by
    unfold frzP at h
    obtain ⟨l', h1, h2, h3⟩ := frzPL_sound l h
    refine ⟨_, fun g w n hr x hx => ?_, .inl rfl, h3⟩
    cases hx with | agg hl hh =>
    refine .agg (by rw [h1]; exact hl) fun k v y hv hy => ?_
    obtain ⟨u, hu, q, _⟩ := h2 k v hv
    exact q g w n hr y (hh k u y hu hy)
  | .tup l, K, h => by
    unfold frzP at h
    obtain ⟨l', h1, h2, h3⟩ := frzPL_sound l h
    refine ⟨_, fun g w n hr x hx => ?_, .inl rfl, h3⟩
    cases hx with | tup hl hh =>
    refine .tup (by rw [h1]; exact hl) fun k v y hv hy => ?_
    obtain ⟨u, hu, q, _⟩ := h2 k v hv
    exact q g w n hr y (hh k u y hu hy)
  | .undef, K, h => frz_other (fun K => by unfold frzP; rfl) h
  | .int _ _, K, h => frz_other (fun K => by unfold frzP; rfl) h
  | .bool _, K, h => frz_other (fun K => by unfold frzP; rfl) h
  | .str _, K, h => frz_other (fun K => by unfold frzP; rfl) h
  | .ptr _ _, K, h => frz_other (fun K => by unfold frzP; rfl) h
  | .nilp, K, h => frz_other (fun K => by unfold frzP; rfl) h
  | .dp _, K, h => frz_other (fun K => by unfold frzP; rfl) h
  | .sl _ _, K, h => frz_other (fun K => by unfold frzP; rfl) h
  | .slp _, K, h => frz_other (fun K => by unfold frzP; rfl) h
  | .spare _ _, K, h => frz_other (fun K => by unfold frzP; rfl) h
  | .fn _ _ _, K, h => frz_other (fun K => by unfold frzP; rfl) h
  | .niln, K, h => frz_other (fun K => by unfold frzP; rfl) h
  | .ifc _ _, K, h => frz_other (fun K => by unfold frzP; rfl) h
  | .nili, K, h => frz_other (fun K => by unfold frzP; rfl) h
  | .mp _, K, h => frz_other (fun K => by unfold frzP; rfl) h
  | .nilm, K, h => frz_other (fun K => by unfold frzP; rfl) h
  | .bp _ _ _ _, K, h => frz_other (fun K => by unfold frzP; rfl) h
theorem frzPL_sound {i z : Nat} {L : List V} {sp : Bool} : ∀ (l : List V) {K : List V → Prop}, frzPL i z L sp l K → ∃ l', l'.length = l.length ∧ (∀ (k : Nat) v', l'[k]? = some v' → ∃ v, l[k]? = some v ∧ (∀ g w n, Row g w i z L → ∀ x, VRel g.bs g.I w n v x → VRel g.bs g.I w n v' x) ∧ (v'.noTok = true ∨ v' = v)) ∧ K l'
  | [], K, h => ⟨[], rfl, by simp, by unfold frzPL at h; exact h⟩
  | v :: r, K, h => by
    unfold frzPL at h
    obtain ⟨v', a1, a2, h⟩ := frzP_sound v h
    obtain ⟨r', b1, b2, h⟩ := frzPL_sound r h
    refine ⟨v' :: r', by simp [b1], fun k u hu => ?_, h⟩
    cases k with
    | zero => simp at hu; subst hu; exact ⟨v, rfl, a1, a2⟩
    | succ k => exact b2 k u (by simpa using hu)
end

/-- an object, its values told otherwise -/
def OTo (P : G → World → Prop) (o o' : VObj) : Prop :=
  (∀ g w n nt b, P g w → ORel g w n nt b o → ORel g w n nt b o') ∧ o'.real = o.real ∧ o'.loose = o.loose ∧ o'.mv = o.mv ∧ ∀ wr T cs, o' = .cells wr T cs → ∃ cs', o = .cells wr T cs'

theorem frzO_sound {i z : Nat} {L : List V} {sp : Bool} {o : VObj} {K : VObj → Prop} (h : frzO i z L sp o K) : ∃ o', OTo (fun g w => Row g w i z L) o o' ∧ K o' := by
  cases o with
  | cells wr T cs =>
    obtain ⟨cs', h1, h2, h3⟩ := frzPL_sound cs h
    refine ⟨.cells wr T cs', ⟨fun g w n nt b hr ⟨arr, a1, a2, a3⟩ => ⟨arr, a1, by rw [h1]; exact a2, fun k v c hv hc => ?_⟩, rfl, rfl, rfl, fun wr' T' cs'' e => by cases e; exact ⟨_, rfl⟩⟩, h3⟩
    obtain ⟨u, hu, q1, q2⟩ := h2 k v hv
    have := a3 k u c hu hc
    refine ⟨⟨q1 _ _ _ hr _ this.1.rel, ?_⟩, this.2⟩
    rcases q2 with q2 | rfl
    · exact .of_no q2
    · exact this.1.tok
  | none => exact ⟨_, ⟨fun _ _ _ _ _ _ h => h, rfl, rfl, rfl, fun a b c e => by cases e⟩, h⟩
  | map es => exact ⟨_, ⟨fun _ _ _ _ _ _ h => h, rfl, rfl, rfl, fun a b c e => by cases e⟩, h⟩
  | buf m z l => exact ⟨_, ⟨fun _ _ _ _ _ _ h => h, rfl, rfl, rfl, fun a b c e => by cases e⟩, h⟩

theorem frzOs_sound {i z : Nat} {L : List V} {sp : Bool} : ∀ {ob : List VObj} {K : List VObj → Prop}, mapK (frzO i z L sp) ob K → ∃ ob', ob'.length = ob.length ∧ (∀ (k : Nat) o', ob'[k]? = some o' → ∃ o, ob[k]? = some o ∧ OTo (fun g w => Row g w i z L) o o') ∧ K ob'
  | [], K, h => ⟨[], rfl, by simp, h⟩
  | o :: r, K, h => by
    obtain ⟨o', a1, h⟩ := frzO_sound h
    obtain ⟨r', b1, b2, h⟩ := frzOs_sound h
    refine ⟨o' :: r', by simp [b1], fun k u hu => ?_, h⟩
    cases k with
    | zero => simp at hu; subst hu; exact ⟨o, rfl, a1⟩
    | succ k => exact b2 k u (by simpa using hu)

theorem WInv.cellsV {P : G → World → Prop} {ob' : List VObj} (h : WInv c g w ob nt) (hp : P g w) (hl : ob'.length = ob.length) (ho : ∀ (k : Nat) o', ob'[k]? = some o' → ∃ o, ob[k]? = some o ∧ OTo P o o') : WInv c g w ob' nt := by
  refine ⟨h.os, h.tape, h.output, h.size, h.keep, by rw [hl]; exact h.len, ?_, ?_, ?_, ?_, ?_, h.i1, h.i2, h.i3, ?_, ?_, ?_, h.f2, h.i6⟩
  · intro i y hy
    obtain ⟨x, hx, q, _⟩ := ho i y hy
    rw [hl]; exact q _ _ _ _ _ hp (h.obj i x hx)
  · intro i y hy hr
    obtain ⟨x, hx, _, e, _⟩ := ho i y hy
    exact h.lt i x hx (e ▸ hr)
  · intro i j y z hy hz hr hr'
    obtain ⟨x, hx, _, e, _⟩ := ho i y hy
    obtain ⟨x', hx', _, e', _⟩ := ho j z hz
    exact h.inj i j x x' hx hx' (e ▸ hr) (e' ▸ hr')
  · intro i y hi hy hm
    obtain ⟨x, hx, _, _, _, e, _⟩ := ho i y hy
    exact h.old i x hi hx (e ▸ hm)
  · intro i y hy hr
    obtain ⟨x, hx, _, e, _⟩ := ho i y hy
    exact h.new i x hx (e ▸ hr)
  · intro i T cs k hy
    obtain ⟨x, hx, _, _, _, _, e⟩ := ho i _ hy
    obtain ⟨cs', rfl⟩ := e _ _ _ rfl
    exact h.i4 i _ _ k hx
  · intro i y k hy hlo
    obtain ⟨x, hx, _, _, e, _⟩ := ho i y hy
    exact h.i5 i x k hx (e ▸ hlo)
  · intro i hi hn
    obtain ⟨f1, f2, f3, f4⟩ := h.f1 i hi hn
    refine ⟨f1, f2, f3, fun o y hy hny => ?_⟩
    obtain ⟨x, hx, _, e, _⟩ := ho o y hy
    exact f4 o x hx (e ▸ hny)

/-- a row is written no more -/
theorem weak_frz (i : Nat) (sp : Bool) {m : Nat} {s : St} {K : St → Prop} (h : St.frzK i sp s K) : ∃ s', Weak m s s' ∧ K s' := by
  obtain ⟨t, ob, nt, df⟩ := s
  unfold St.frzK at h
  obtain ⟨x, hx, h⟩ := getK_iff h
  cases x <;> try exact h.elim
  rename_i mv z L
  simp only at h
  split at h
  case h_2 => exact h.elim
  rename_i hdf
  obtain ⟨t', t1, t2, h⟩ := frzPL_sound t h
  obtain ⟨ob', o1, o2, h⟩ := frzOs_sound h
  obtain ⟨_, h⟩ := setK_iff h
  refine ⟨_, fun c g w a hm hs => ?_, h⟩
  have hwi := hs.wi
  have hone : ∀ (g' : G), Row g' w i z L → WInv c g' w (ob.set i (.buf true z [])) nt → (∀ v x, VT g w ob.length nt v x → VT g' w ob.length nt v x) → (∀ v x, VRel g.bs g.I w ob.length v x → VRel g'.bs g'.I w ob.length v x) →
      ∃ g', Sim c g' w a ⟨t', ob'.set i (.buf true z []), nt, df⟩ := fun g' hrow hw hvt hvr => by
    have hw2 := hw.cellsV (P := fun g w => Row g w i z L) (ob' := ob'.set i (.buf true z [])) hrow (by simp [o1]) fun k o' hk => by
      rcases set_get hk with ⟨rfl, rfl⟩ | ⟨hne, hk⟩
      · exact ⟨_, by rw [List.getElem?_set_self (by have := (List.getElem?_eq_some_iff.1 hx).1; exact this)], ⟨fun _ _ _ _ _ _ h => h, rfl, rfl, rfl, fun a b c e => by cases e⟩⟩
      · obtain ⟨o, h1, h2⟩ := o2 k o' hk
        exact ⟨o, by rw [List.getElem?_set_ne hne]; exact h1, h2⟩
    refine ⟨g', hw2, ⟨by rw [t1]; exact hs.ti.size, fun k v x hv hx => ?_⟩, ?_⟩
    · obtain ⟨u, hu, q1, q2⟩ := t2 k v hv
      have h1 := hvt _ _ (hs.ti.rel k u x hu hx)
      have hl : (ob'.set i (.buf true z [])).length = ob.length := by simp [o1]
      show VT g' w (ob'.set i (.buf true z [])).length nt v x
      rw [hl]
      refine ⟨q1 _ _ _ hrow _ h1.rel, ?_⟩
      rcases q2 with q2 | rfl
      · exact .of_no q2
      · exact h1.tok
    · show DRel g' w (ob'.set i (.buf true z [])).length _ _
      rw [show (ob'.set i (.buf true z [])).length = ob.length by simp [o1]]
      exact hs.di.forget (fun v x hv _ => hvr v x hv) hdf
  by_cases hL : L = []
  · subst hL
    refine hone g ⟨.inl rfl⟩ ?_ (fun _ _ h => h) (fun _ _ h => h)
    refine ⟨hwi.os, hwi.tape, hwi.output, hwi.size, hwi.keep, by simp [hwi.len], ?_, ?_, ?_, ?_, ?_, hwi.i1, hwi.i2, hwi.i3, ?_, ?_, ?_, hwi.f2, hwi.i6⟩
    · intro j y hy
      rw [List.length_set]
      rcases set_get hy with ⟨rfl, rfl⟩ | ⟨hne, hy⟩
      · exact .inl rfl
      · exact hwi.obj j y hy
    · intro j y hy hr
      rcases set_get hy with ⟨rfl, rfl⟩ | ⟨hne, hy⟩
      · cases hr
      · exact hwi.lt j y hy hr
    · intro j k y u hy hu hr hr'
      rcases set_get hy with ⟨rfl, rfl⟩ | ⟨hne, hy⟩
      · cases hr
      · rcases set_get hu with ⟨rfl, rfl⟩ | ⟨hne, hu⟩
        · cases hr'
        · exact hwi.inj j k y u hy hu hr hr'
    · intro j y hj hy hmv
      rcases set_get hy with ⟨rfl, rfl⟩ | ⟨hne, hy⟩
      · cases hmv
      · exact hwi.old j y hj hy hmv
    · intro j y hy hr
      rcases set_get hy with ⟨rfl, rfl⟩ | ⟨hne, hy⟩
      · cases hr
      · exact hwi.new j y hy hr
    · intro j T cs k hy
      rcases set_get hy with ⟨_, e⟩ | ⟨hne, hy⟩
      · cases e
      · exact hwi.i4 j T cs k hy
    · intro j y k hy hl
      rcases set_get hy with ⟨rfl, rfl⟩ | ⟨hne, hy⟩
      · cases hl
      · exact hwi.i5 j y k hy hl
    · intro j hj hn
      obtain ⟨f1, f2, f3, f4⟩ := hwi.f1 j hj hn
      refine ⟨f1, f2, f3, fun o y hy hr => ?_⟩
      rcases set_get hy with ⟨rfl, rfl⟩ | ⟨hne, hy⟩
      · cases hr
      · exact f4 o y hy hr
  · obtain ⟨arr, T, a1, a2, a3, a4⟩ := (hwi.obj i _ hx).resolve_left hL
    have he := Ext.freeze hwi (g.bs i) (L.length * z)
    refine hone (g.data (g.bs i) (L.length * z)) ⟨.inr ⟨arr, T, a1, a2, a3, fun k v c hv hc => he.rel0 (a4 k v c hv hc).1, fun k hk => .inr ⟨rfl, hk⟩⟩⟩
      (WInv.freeze hwi hx (by simp [VObj.real, hL]) _ (.inl rfl) (fun h => by cases h) (fun T cs e => by cases e) rfl) (fun v x h => he.vt h) (fun v x h => he.reln h)

end
end VL

namespace VL
open Go
set_option linter.unusedVariables false
set_option linter.unusedSimpArgs false

/-- an argument, its row read as what it holds -/
def lendP (ob : List VObj) : V → (V → Prop) → Prop
  | .slo o z lo n c, K => getK ob o fun x => match x with
    | .buf false z' L => (match Nat.beq z z' with | true => lo + c ≤ L.length ∧ K (.sl ((L.drop lo).take n) .no) | false => False)
    | _ => False
  | .int k n, K => K (.int k n)
  | .bool b, K => K (.bool b)
  | .str s, K => K (.str s)
  | .sl l r, K => K (.sl l .no)
  | .agg l, K => (match ptrsL l with | [] => K (.agg l) | _ :: _ => False)
  | .fn (.func f) [] [], K => K (.fn (.func f) [] [])
  | _, _ => False

def bufsB : List VObj → Bool
  | [] => true
  | .buf false _ _ :: r => bufsB r
  | _ :: _ => false

mutual
/-- no part of it names anything that lies elsewhere -/
def V.bare : V → Bool
  | .int _ _ | .bool _ | .str _ | .nilp | .nili | .niln | .nilm | .undef => true
  | .agg l => V.bareL l
  | .tup l => V.bareL l
  | _ => false
def V.bareL : List V → Bool
  | [] => true
  | v :: r => v.bare && V.bareL r
end

theorem bareL_get : ∀ {l : List V}, V.bareL l = true → ∀ {k : Nat} {v : V}, l[k]? = some v → v.bare = true
  | [], _, k, v, h => by simp at h
  | x :: r, h, k, v, hk => by
    simp only [V.bareL, Bool.and_eq_true] at h
    cases k with
    | zero => simp at hk; exact hk ▸ h.1
    | succ k => exact bareL_get h.2 (by simpa using hk)

theorem VRel.bare {bs bs' : Nat → Nat} {I I' : Nat → Nat → Prop} {w w' : World} {n n' : Nat} {v : V} {c : Value} (h : VRel bs I w n v c) (hb : v.bare = true) : VRel bs' I' w' n' v c := by
  induction h with
  | undef => exact .undef
  | int => exact .int
  | bool => exact .bool
  | str => exact .str
  | nilp => exact .nilp
  | niln => exact .niln
  | nili => exact .nili
  | nilm => exact .nilm
  | agg hl _ ih => exact .agg hl fun k v c h1 h2 => ih k v c h1 h2 (bareL_get hb h1)
  | tup hl _ ih => exact .tup hl fun k v c h1 h2 => ih k v c h1 h2 (bareL_get hb h1)
  | _ => simp [V.bare] at hb

theorem bufsB_get : ∀ {ob : List VObj}, bufsB ob = true → ∀ {i : Nat} {x : VObj}, ob[i]? = some x → ∃ z L, x = .buf false z L
  | .buf false z L :: r, h, 0, x, hx => by simp at hx; exact ⟨z, L, hx.symm⟩
  | .buf false z L :: r, h, i + 1, x, hx => bufsB_get (ob := r) h (by simpa using hx)
  | .buf true _ _ :: r, h, i, x, hx => by cases h
  | .none :: r, h, i, x, hx => by cases h
  | .cells .. :: r, h, i, x, hx => by cases h
  | .map _ :: r, h, i, x, hx => by cases h
  | [], h, i, x, hx => by simp at hx

/-- all rows, as data -/
def G.lent (g : G) (ob : List VObj) : G := { g with I := fun b k => g.I b k ∨ ∃ (i z : Nat) (L : List V), ob[i]? = some (.buf false z L) ∧ L ≠ [] ∧ b = g.bs i ∧ k < L.length * z }

mutual
theorem low_of_ptrs : ∀ {v : V}, ptrs v = [] → V.low 0 v = true
  | .ptr _ _, h => by simp [ptrs] at h
  | .slp l, h => lowL_of_ptrs (l := l) (by simpa [ptrs] using h)
  | .dp l, h => lowL_of_ptrs (l := l) (by simpa [ptrs] using h)
  | .fn _ a b, h => by
    simp only [ptrs, List.append_eq_nil_iff] at h
    simp [V.low, lowL_of_ptrs h.1, lowL_of_ptrs h.2]
  | .ifc _ v, h => low_of_ptrs (v := v) (by simpa [ptrs] using h)
  | .agg l, h => lowL_of_ptrs (l := l) (by simpa [ptrs] using h)
  | .tup l, h => lowL_of_ptrs (l := l) (by simpa [ptrs] using h)
  | .mp _, h => by simp [ptrs] at h
  | .slo .., h => by simp [ptrs] at h
  | .bp .., h => by simp [ptrs] at h
  | .undef, _ => rfl
  | .int _ _, _ => rfl
  | .bool _, _ => rfl
  | .str _, _ => rfl
  | .nilp, _ => rfl
  | .sl _ _, _ => rfl
  | .spare _ _, _ => rfl
  | .niln, _ => rfl
  | .nili, _ => rfl
  | .nilm, _ => rfl
theorem lowL_of_ptrs : ∀ {l : List V}, ptrsL l = [] → V.lowL 0 l = true
  | [], _ => rfl
  | v :: r, h => by
    simp only [ptrsL, List.append_eq_nil_iff] at h
    simp [V.lowL, low_of_ptrs h.1, lowL_of_ptrs h.2]
end

theorem lend_args {g : G} {w : World} {ob : List VObj} (hrow : ∀ (i z : Nat) (L : List V), ob[i]? = some (.buf false z L) → Row (g.lent ob) w i z L) (hI : ∀ b k, g.I b k → (g.lent ob).I b k) :
    ∀ {args : List V} {K : List V → Prop}, mapK (lendP ob) args K → ∃ args', args'.length = args.length ∧ (∀ (k : Nat) v' , args'[k]? = some v' → ∃ v, args[k]? = some v ∧ ∀ x, VT g w ob.length 0 v x → VT (g.lent ob) w 0 0 v' x) ∧ K args'
  | [], K, h => ⟨[], rfl, by simp, h⟩
  | v :: r, K, h => by
    have hm : ∀ {v x}, VRel g.bs g.I w 0 v x → VRel (g.lent ob).bs (g.lent ob).I w 0 v x := fun h => h.mono (fun o ho => absurd ho (by omega)) fun b k h => ⟨hI b k h, rfl⟩
    have key : ∀ v' : V, (∀ x, VT g w ob.length 0 v x → VT (g.lent ob) w 0 0 v' x) → mapK (lendP ob) r (fun r => K (v' :: r)) → ∃ args', args'.length = (v :: r).length ∧ (∀ (k : Nat) v' , args'[k]? = some v' → ∃ u, (v :: r)[k]? = some u ∧ ∀ x, VT g w ob.length 0 u x → VT (g.lent ob) w 0 0 v' x) ∧ K args' := fun v' hv h => by
      obtain ⟨r', b1, b2, h⟩ := lend_args hrow hI h
      refine ⟨v' :: r', by simp [b1], fun k u hu => ?_, h⟩
      cases k with
      | zero => simp at hu; subst hu; exact ⟨v, rfl, hv⟩
      | succ k => exact b2 k u (by simpa using hu)
    have h : lendP ob v fun v' => mapK (lendP ob) r fun r => K (v' :: r) := h
    unfold lendP at h
    split at h
    · obtain ⟨x1, hx1, h⟩ := getK_iff h
      split at h
      · split at h
        · rename_i L _ hz
          have hz := Nat.eq_of_beq_eq_true hz
          subst hz
          refine key _ (fun x hx => .of ?_ rfl) h.2
          have hr := hrow _ _ _ hx1
          have hv := hx.rel
          have hv' : VRel (g.lent ob).bs (g.lent ob).I w ob.length _ x := hv.mono (fun o ho => ⟨ho, rfl⟩) fun b k h => ⟨hI b k h, rfl⟩
          exact (frz_sl (sp := false) hr hv' h.1).2.low rfl
        · exact h.elim
      · exact h.elim
    · exact key _ (fun x hx => .of (hm (hx.rel.low rfl)) rfl) h
    · exact key _ (fun x hx => .of (hm (hx.rel.low rfl)) rfl) h
    · exact key _ (fun x hx => .of (hm (hx.rel.low rfl)) rfl) h
    · exact key _ (fun x hx => .of (hm ((hx.rel.room .no (by simp)).low rfl)) rfl) h
    · rename_i l
      split at h
      · rename_i hp
        refine key _ (fun x hx => .of (hm (hx.rel.low ?_)) rfl) h
        exact lowL_of_ptrs hp
      · exact h.elim
    · exact key _ (fun x hx => .of (hm (hx.rel.low rfl)) rfl) h
    · exact h.elim

/-- rows are lent to a callee that reads them; what it answers names nothing -/
theorem VCall.lend {P : Program} {f : FuncId} {args : List V} {ob : List VObj} {K : Out → List VObj → Prop} (hb : bufsB ob = true)
    (h : mapK (lendP ob) args fun args' => VCall P f args' [] fun out _ => match out with | .ret v => V.bare v = true ∧ K (.ret v) ob | .pan _ => False) : VCall P f args ob K := by
  refine .shut fun w g cargs hwi hsz hr => ?_
  have hIl : ∀ b k, (g.lent ob).I b k → b < w.heap.size := by
    rintro b k (h | ⟨i, z, L, h1, h2, rfl, _⟩)
    · exact hwi.i3 b k h
    · exact hwi.lt i _ h1 (by simp [VObj.real, h2])
  have hrow : ∀ (i z : Nat) (L : List V), ob[i]? = some (.buf false z L) → Row (g.lent ob) w i z L := fun i z L hi => by
    refine ⟨?_⟩
    by_cases hL : L = []
    · exact .inl hL
    · obtain ⟨arr, T, a1, a2, a3, a4⟩ := (hwi.obj i _ hi).resolve_left hL
      exact .inr ⟨arr, T, a1, a2, a3, fun k v c hv hc => (a4 k v c hv hc).1.mono (fun o ho => absurd ho (by omega)) fun b k h => ⟨.inl h, rfl⟩, fun k hk => .inr ⟨i, z, L, hi, hL, rfl, hk⟩⟩
  obtain ⟨args', l1, l2, h⟩ := lend_args hrow (fun b k h => .inl h) h
  have hw0 : WInv ⟨w, 0, (g.lent ob).bs, (g.lent ob).I, Owns (g.lent ob) []⟩ (g.lent ob) w [] 0 := by
    refine ⟨rfl, rfl, rfl, Nat.le_refl _, fun _ _ _ => rfl, Nat.le_refl _, by simp, by simp, by simp, by simp, by simp, fun _ _ h => h, fun _ _ _ _ h => h, hIl, by simp, by simp, fun i hi => absurd hi (by omega), fun i j hi => absurd hi (by omega), fun _ _ _ => rfl⟩
  refine (h.open w (g.lent ob) cargs hw0 (by rw [l1]; exact hsz) fun k v' x hv hx => ?_).mono fun e w' ⟨out, sub, g', hk, hw', he⟩ => ?_
  · obtain ⟨v, hv', q⟩ := l2 k v' hv
    exact q x (hr k v x hv' hx)
  · cases out with
    | pan v => exact hk.elim
    | ret v =>
      obtain ⟨hbare, hk⟩ := hk
      obtain ⟨x, rfl⟩ : ∃ x, e = .returned x := by
        cases e with
        | returned x => exact ⟨x, rfl⟩
        | _ => exact he.elim
      have hkeep : ∀ b, b < w.heap.size → w'.heap[b]? = w.heap[b]? := fun b hb => hw'.keep b hb (by rintro ⟨o, x, h, _⟩; simp at h)
      have hcell : ∀ b k, g.I b k → w'.cell? ⟨b, k, none⟩ = w.cell? ⟨b, k, none⟩ := fun b k hI => by
        have := hkeep b (hwi.i3 b k hI)
        simp [World.cell?, this]
      have hex : Ext g w ob.length 0 g w' ob.length 0 := ⟨Nat.le_refl _, Nat.le_refl _, fun _ _ => rfl, fun b k h => ⟨h, hcell b k h⟩, fun _ _ => rfl⟩
      refine ⟨.ret v, ob, g, hk, ?_, ⟨(he.rel).bare hbare, .of_no (by cases v <;> first | rfl | (simp [V.bare] at hbare))⟩⟩
      refine ⟨hw'.os, hw'.tape, hw'.output, hw'.size, fun b hb _ => hkeep b hb, Nat.le_refl _, fun o x hx => ?_, fun o x hx hr => Nat.lt_of_lt_of_le (hwi.lt o x hx hr) hw'.size, hwi.inj, hwi.old, hwi.new, hwi.i1, hwi.i2,
        fun b k h => Nat.lt_of_lt_of_le (hwi.i3 b k h) hw'.size, hwi.i4, hwi.i5, fun i hi => absurd hi (by omega), fun i j hi => absurd hi (by omega), fun b k h => ?_⟩
      · exact hex.orel' (hwi.obj o x hx) fun hr => hkeep _ (hwi.lt o x hx hr)
      · exact hcell b k h

end VL
