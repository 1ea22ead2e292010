/- Part Wd of the proof: VLDraw1 VLDraw2 VLObs VLDraw3 VLReal VLHide VLAl VLDraw4 VLAl2 VLDraw5 VLSound3. -/
import Derived.Test.YtplcolaagnpccaaDoorWc
namespace VL
open Go
set_option linter.unusedVariables false
set_option linter.unusedSimpArgs false

def Det {α : Type} (F : (α → Prop) → Prop) : Prop := ∀ K, F K → ∃ v, K v ∧ ∀ K' : α → Prop, K' v → F K'

theorem Det.bind {α β : Type} {F : (α → Prop) → Prop} {G : α → (β → Prop) → Prop} (hF : Det F) (hG : ∀ a, Det (G a)) : Det fun K => F fun a => G a K := fun K h => by
  obtain ⟨a, h1, h2⟩ := hF _ h
  obtain ⟨b, h3, h4⟩ := hG a _ h1
  exact ⟨b, h3, fun K' h => h2 _ (h4 K' h)⟩

theorem Det.ret {α : Type} (v : α) : Det fun K : α → Prop => K v := fun K h => ⟨v, h, fun _ h => h⟩
theorem Det.no {α : Type} : Det fun _ : α → Prop => False := fun _ h => h.elim
theorem Det.and {α : Type} {A : Prop} {F : (α → Prop) → Prop} (h : A → Det F) : Det fun K => A ∧ F K := fun K ⟨ha, hk⟩ => by
  obtain ⟨v, h1, h2⟩ := h ha K hk
  exact ⟨v, h1, fun K' h => ⟨ha, h2 K' h⟩⟩
theorem Det.ex {α β : Type} {F : β → (α → Prop) → Prop} (h : ∀ b, Det (F b)) : Det fun K => ∃ b, F b K := fun K ⟨b, hk⟩ => by
  obtain ⟨v, h1, h2⟩ := h b K hk
  exact ⟨v, h1, fun K' h => ⟨b, h2 K' h⟩⟩
theorem Det.bif {α : Type} {b : Bool} {F G : (α → Prop) → Prop} (hF : Det F) (hG : Det G) : Det fun K => @Bool.rec (fun _ => Prop) (G K) (F K) b := by
  cases b
  · exact hG
  · exact hF
theorem Det.ite {α : Type} {p : Prop} [Decidable p] {F G : (α → Prop) → Prop} (hF : Det F) (hG : Det G) : Det fun K => if p then F K else G K := fun K h => by
  split at h
  · rename_i hp
    obtain ⟨v, h1, h2⟩ := hF K h
    exact ⟨v, h1, fun K' h => by simp only [if_pos hp]; exact h2 K' h⟩
  · rename_i hp
    obtain ⟨v, h1, h2⟩ := hG K h
    exact ⟨v, h1, fun K' h => by simp only [if_neg hp]; exact h2 K' h⟩

theorem det_force (v : V) : Det v.force := by cases v <;> exact .ret _

theorem det_natK (n : Nat) : Det (natK n) := by cases n <;> exact .ret _

theorem det_listK : ∀ l : List Nat, Det (listK l)
  | [] => .ret _
  | i :: r => show Det fun K => natK i fun i => listK r fun r => K (i :: r) from Det.bind (det_natK i) fun i => Det.bind (det_listK r) fun r => .ret (i :: r)

theorem det_renP (f : Nat → Nat) (v : V) : Det (renP f v) := fun K h => by
  unfold renP at h ⊢
  split at h
  · exact (Det.bind (det_natK _) fun o => .ret _) K h
  · exact (Det.bind (det_natK _) fun o => .ret _) K h
  · exact (Det.bind (det_natK _) fun o => .ret _) K h
  · exact (Det.bind (det_natK _) fun o => .ret _) K h
  · split at h
    · exact ⟨_, h, fun _ h => h⟩
    · exact ⟨_, h, fun _ h => h⟩

theorem det_getK {α : Type} : ∀ (l : List α) (i : Nat), Det (getK l i)
  | [], _ => .no
  | x :: _, 0 => .ret x
  | _ :: r, n + 1 => det_getK r n

theorem det_setK {α : Type} : ∀ (l : List α) (i : Nat) (v : α), Det (setK l i v)
  | [], _, _ => .no
  | x :: r, 0, v => .ret (v :: r)
  | x :: r, n + 1, v => show Det fun K => setK r n v fun r' => K (x :: r') from Det.bind (det_setK r n v) fun r' => .ret (x :: r')

theorem det_dropK {α : Type} : ∀ (l : List α) (i : Nat), Det (dropK l i)
  | l, 0 => by cases l <;> exact .ret _
  | [], _ + 1 => .no
  | _ :: r, n + 1 => det_dropK r n

theorem det_takeK {α : Type} : ∀ (l : List α) (i : Nat), Det (takeK l i)
  | l, 0 => by cases l <;> exact .ret _
  | [], _ + 1 => .no
  | x :: r, n + 1 => show Det fun K => takeK r n fun l => K (x :: l) from Det.bind (det_takeK r n) fun l => .ret (x :: l)

theorem det_spliceK {α : Type} : ∀ (l : List α) (n : Nat) (vs : List α), Det (spliceK l n vs)
  | l, 0, [] => by cases l <;> exact .ret _
  | [], 0, _ :: _ => .no
  | _ :: r, 0, v :: vs => show Det fun K => spliceK r 0 vs fun l => K (v :: l) from Det.bind (det_spliceK r 0 vs) fun l => .ret (v :: l)
  | [], _ + 1, _ => .no
  | x :: r, n + 1, vs => show Det fun K => spliceK r n vs fun l => K (x :: l) from Det.bind (det_spliceK r n vs) fun l => .ret (x :: l)

theorem det_mapK {α β : Type} {f : α → (β → Prop) → Prop} (hf : ∀ x, Det (f x)) : ∀ l : List α, Det (mapK f l)
  | [] => .ret _
  | x :: r => show Det fun K => f x fun y => mapK f r fun ys => K (y :: ys) from Det.bind (hf x) fun y => Det.bind (det_mapK hf r) fun ys => .ret (y :: ys)

theorem det_untok (v : V) : Det v.untokK := show Det fun K => v.force fun v => v.untok.force K from Det.bind (det_force v) fun v => det_force _

theorem det_snocK {α : Type} : ∀ (l : List α) (v : α), Det fun K : (Nat × List α) → Prop => snocK l v fun n l => K (n, l)
  | [], v => .ret (0, [v])
  | x :: r, v => fun K h => by
    obtain ⟨p, h1, h2⟩ := det_snocK r v (fun p => K (p.1 + 1, x :: p.2)) h
    exact ⟨_, h1, fun K' h => h2 (fun p => K' (p.1 + 1, x :: p.2)) h⟩

theorem det_ofConst (c : Value) : Det (ofConstAgg c).force := det_force _

theorem det_ev (t : List V) (x : Operand) : Det (ev t x) := by
  cases x with
  | tmp i => exact det_getK t i
  | const c => exact det_force _
  | func f => exact .ret _
  | global b =>
    show Det fun K => match glob b with
      | some l => K (V.dp (l.map ofConst))
      | none => False
    generalize glob b = q
    cases q with
    | some l => exact .ret _
    | none => exact .no

theorem det_evs (t : List V) : ∀ l, Det (evs t l)
  | [] => .ret _
  | x :: r => show Det fun K => ev t x fun v => evs t r fun vs => K (v :: vs) from Det.bind (det_ev t x) fun v => Det.bind (det_evs t r) fun vs => .ret (v :: vs)

theorem det_szK (P : Program) (T : TypeId) : Det (szK P T) := fun K h => by
  unfold szK at h ⊢
  split at h
  · exact h.elim
  · exact ⟨_, h, fun _ h => h⟩

theorem det_loadK (P : Program) (T : TypeId) (cs : List V) : Det (loadK P T cs) := fun K h => by
  unfold loadK at h ⊢
  split at h
  · exact (Det.bind (det_takeK cs _) fun l => Det.bind (det_mapK det_untok l) fun l => .ret (.agg l)) K h
  · exact (Det.bind (det_takeK cs _) fun l => Det.bind (det_mapK det_untok l) fun l => .ret (.agg l)) K h
  · split at h
    · exact det_force _ K h
    · exact h.elim
  · exact h.elim

theorem det_zeroV (P : Program) (T : TypeId) : Det (zeroV P T) := fun K h => by
  unfold zeroV at h ⊢
  split at h
  · exact det_force _ K h
  · exact h.elim

theorem det_assertK (P : Program) (T : TypeId) (ok : Bool) (x : V) : Det (assertK P T ok x) := fun K h => by
  unfold assertK at h ⊢
  split at h
  · split at h
    · cases ok
      · exact (Det.bind (det_untok _) fun v => .ret v) K h
      · exact (Det.bind (det_untok _) fun v => .ret _) K h
    · cases ok
      · exact h.elim
      · exact (Det.bind (det_zeroV P T) fun z => .ret _) K h
  · cases ok
    · exact h.elim
    · exact (Det.bind (det_zeroV P T) fun z => .ret _) K h
  · exact h.elim

theorem det_fillK (place : Nat → Option (Nat × Nat)) : ∀ (ps : List (Nat × V)) (cs : List V), Det (fillK place cs ps)
  | [], cs => .ret cs
  | (i, v) :: r, cs => fun K h => by
    unfold fillK at h ⊢
    split at h
    · refine (Det.bind (det_force v) fun v K h => ?_) K h
      split at h
      · rename_i hc
        obtain ⟨u, h1, h2⟩ := (Det.bind (det_spliceK _ _ _) fun cs => det_fillK place r cs) K h
        exact ⟨u, h1, fun K' h => h2 K' h⟩
      · exact h.elim
    · exact h.elim

theorem det_partsK (t : List V) : ∀ l, Det (partsK t l)
  | [] => .ret _
  | (i, x) :: r => show Det fun K => ev t x fun v => v.untokK fun v => partsK t r fun ps => K ((i, v) :: ps) from Det.bind (det_ev t x) fun v => Det.bind (det_untok v) fun v => Det.bind (det_partsK t r) fun ps => .ret ((i, v) :: ps)

theorem det_buildK (P : Program) (T : TypeId) (ps : List (Nat × V)) : Det (buildK P T ps) := by
  show Det fun K => buildK P T ps K
  unfold buildK
  refine Det.bind (det_zeroV P T) fun z K h => ?_
  split at h
  · split at h
    · rename_i hc
      obtain ⟨u, h1, h2⟩ := (Det.bind (det_fillK _ ps _) fun cs => .ret (V.agg cs)) K h
      exact ⟨u, h1, fun K' h => h2 K' h⟩
    · exact h.elim
  · split at h
    · rename_i hc
      obtain ⟨u, h1, h2⟩ := (Det.bind (det_fillK _ ps _) fun cs => .ret (V.agg cs)) K h
      exact ⟨u, h1, fun K' h => h2 K' h⟩
    · exact h.elim
  · exact h.elim

theorem det_lowK (t : List V) (lo : Option Operand) : Det (lowK t lo) := by
  cases lo with
  | none => exact .ret 0
  | some y =>
    show Det fun K => lowK t (some y) K
    unfold lowK
    refine Det.bind (det_ev t y) fun v => ?_
    cases v <;> first | exact .no | exact .ret _


theorem det_binopK (P : Program) (op : BinOp) (T : TypeId) (x y : V) : Det (binopK P op T x y) := fun K h => by
  unfold binopK at h ⊢
  split at h
  all_goals first
    | exact h.elim
    | exact ⟨_, h, fun _ h => h⟩
    | (obtain ⟨a, h⟩ := h; exact ⟨_, h, fun _ h => ⟨a, h⟩⟩)
    | (by_cases hk : ‹IntKind› = ‹IntKind›
       · rename_i k _ k' _ _ _
         by_cases hk : k = k'
         · subst hk
           simp only [if_true] at h ⊢
           split at h
           all_goals first
            | exact h.elim
            | exact ⟨_, h, fun _ h => h⟩
            | (obtain ⟨a, h⟩ := h; exact ⟨_, h, fun _ h => ⟨a, h⟩⟩)
         · simp only [if_neg hk] at h
       · exact absurd rfl hk)
    | (split at h
       all_goals first
        | exact h.elim
        | exact ⟨_, h, fun _ h => h⟩
        | exact (Det.bind (det_szK P _) fun _ => .ret _) K h
        | (split at h
           all_goals first
            | exact h.elim
            | exact ⟨_, h, fun _ h => h⟩
            | exact (Det.bind (det_szK P _) fun _ => .ret _) K h))

theorem det_convK (P : Program) (A B : TypeId) (x : V) : Det (convK P A B x) := fun K h => by
  unfold convK at h ⊢
  split at h
  all_goals first
    | exact h.elim
    | exact ⟨_, h, fun _ h => h⟩
    | (split at h
       all_goals first
        | exact h.elim
        | exact ⟨_, h, fun _ h => h⟩
        | (obtain ⟨a, b, h⟩ := h; exact ⟨_, h, fun _ h => ⟨a, b, h⟩⟩))

variable (S : Sys)

theorem det_vbuiltinF (b : Builtin) (ts : Array TypeId) (args : List V) : Det (vbuiltinF S b ts args) := fun K h => by
  unfold vbuiltinF at h ⊢
  split at h
  all_goals first
    | exact h.elim
    | exact ⟨_, h, fun _ h => h⟩
    | (obtain ⟨a, h⟩ := h; exact ⟨_, h, fun _ h => ⟨a, h⟩⟩)

theorem det_srcK (P : Program) (e : TypeId) (ts : Array TypeId) (ob : List VObj) (v : V) : Det (srcK P e ts ob v) := fun K h => by
  unfold srcK at h ⊢
  split at h
  · exact ⟨_, h, fun _ h => h⟩
  · exact ⟨_, h, fun _ h => h⟩
  · split at h
    · exact ⟨_, h, fun _ h => h⟩
    · exact h.elim
  · refine (Det.bind (det_getK ob _) fun x => ?_) K h
    cases x <;> try exact .no
    simp only
    split
    · exact .and fun _ => .ret _
    · exact .no
  · exact h.elim

theorem det_res (ok : Bool) (v : V) (b : Bool) : Det fun K : V → Prop => v.untokK fun v => (match ok with | true => K (.tup [v, .bool b]) | false => K v) :=
  Det.bind (det_untok v) fun v => by cases ok <;> exact .ret _

theorem det_lookupK (P : Program) (T : TypeId) (ob : List VObj) (x k : V) (ok : Bool) : Det (lookupK P T ob x k ok) := fun K h => by
  unfold lookupK at h ⊢
  split at h
  · split at h
    · cases x <;> try exact h.elim
      · refine (Det.bind (det_getK ob _) fun x => ?_) K h
        cases x <;> try exact .no
        refine .and fun _ => .ex fun r => .and fun _ => ?_
        cases r
        · exact Det.bind (det_zeroV P _) fun z => det_res ok _ _
        · exact det_res ok _ _
      · exact (Det.bind (det_zeroV P _) fun z => det_res ok _ _) K h
    · exact h.elim
  · exact h.elim

theorem det_slice (T : TypeId) (t : List V) (hi : Option Operand) (x : V) (l : Int) : Det fun K : V → Prop => (match x with
    | .str b => match S.P.underlying T with
      | some .string => (match hi with
        | none => 0 ≤ l ∧ l ≤ b.size ∧ K (.str (b.extract l.toNat b.size))
        | some y => ev t y fun y => match y with
          | .int _ h => 0 ≤ l ∧ l ≤ h ∧ h ≤ b.size ∧ K (.str (b.extract l.toNat h.toNat))
          | _ => False)
      | _ => False
    | .sl xs r => match S.P.underlying T with
      | some (.slice e) => szK S.P e fun z => (match hi with
        | none => 0 ≤ l ∧ l ≤ xs.length ∧ (∀ x ∈ xs, x.cells.length = z) ∧ K (.sl (xs.drop l.toNat) r)
        | some y => ev t y fun y => match y with
          | .int _ h => 0 ≤ l ∧ l ≤ h ∧ h ≤ xs.length ∧ (∀ x ∈ xs, x.cells.length = z) ∧ K (.sl ((xs.take h.toNat).drop l.toNat) .no)
          | _ => False)
      | _ => False
    | .spare xs sp => match S.P.underlying T with
      | some (.slice e) => szK S.P e fun z => (match hi with
        | none => False
        | some y => ev t y fun y => match y with
          | .int _ h => 0 ≤ l ∧ l ≤ h ∧ h ≤ xs.length + sp.length ∧ (∀ x ∈ xs ++ sp, x.cells.length = z) ∧ K (.sl (((xs ++ sp).take h.toNat).drop l.toNat) .no)
          | _ => False)
      | _ => False
    | .slo o z a n c => match S.P.underlying T with
      | some (.slice e) => szK S.P e fun z' => (match Nat.beq z z', hi with
        | true, none => 0 ≤ l ∧ l ≤ n ∧ K (.slo o z (a + l.toNat) (n - l.toNat) (c - l.toNat))
        | true, some y => ev t y fun y => match y with
          | .int _ h => 0 ≤ l ∧ l ≤ h ∧ h ≤ c ∧ K (.slo o z (a + l.toNat) (h.toNat - l.toNat) (c - l.toNat))
          | _ => False
        | _, _ => False)
      | _ => False
    | _ => False) := by
  cases x with
  | str b =>
    simp only
    split
    · cases hi with
      | none => exact .and fun _ => .and fun _ => .ret _
      | some y =>
        refine Det.bind (det_ev t y) fun v => ?_
        cases v <;> first | exact .no | exact .and fun _ => .and fun _ => .and fun _ => .ret _
    · exact .no
  | sl xs r =>
    simp only
    split
    · refine Det.bind (det_szK S.P _) fun z => ?_
      cases hi with
      | none => exact .and fun _ => .and fun _ => .and fun _ => .ret _
      | some y =>
        refine Det.bind (det_ev t y) fun v => ?_
        cases v <;> first | exact .no | exact .and fun _ => .and fun _ => .and fun _ => .and fun _ => .ret _
    · exact .no
  | spare xs sp =>
    simp only
    split
    · refine Det.bind (det_szK S.P _) fun z => ?_
      cases hi with
      | none => exact .no
      | some y =>
        show Det fun K : V → Prop => ev t y fun y => match y with
          | .int _ h => 0 ≤ l ∧ l ≤ h ∧ h ≤ xs.length + sp.length ∧ (∀ x ∈ xs ++ sp, x.cells.length = z) ∧ K (.sl (((xs ++ sp).take h.toNat).drop l.toNat) .no)
          | _ => False
        refine Det.bind (det_ev t y) fun v => ?_
        cases v <;> first | exact .no | exact .and fun _ => .and fun _ => .and fun _ => .and fun _ => .ret _
    · exact .no
  | slo o z a n c =>
    simp only
    split
    · refine Det.bind (det_szK S.P _) fun z' => ?_
      cases hb : Nat.beq z z' with
      | false => cases hi <;> exact .no
      | true =>
        cases hi with
        | none => exact .and fun _ => .and fun _ => .ret _
        | some y =>
          refine Det.bind (det_ev t y) fun v => ?_
          cases v <;> first | exact .no | exact .and fun _ => .and fun _ => .and fun _ => .ret _
    · exact .no
  | _ => exact .no

theorem det_slice3 (T : TypeId) (x h m : V) (l : Int) : Det fun K : V → Prop => (match x, h, m, S.P.underlying T with
    | .sl xs _, .int _ h, .int _ m, some (.slice e) => szK S.P e fun z => 0 ≤ l ∧ l ≤ h ∧ h = m ∧ h ≤ xs.length ∧ (∀ x ∈ xs, x.cells.length = z) ∧ K (.sl ((xs.take h.toNat).drop l.toNat) .ex)
    | .slo o z a n c, .int _ h, .int _ m, some (.slice e) => szK S.P e fun z' => (match Nat.beq z z' with
      | true => 0 ≤ l ∧ l ≤ h ∧ h ≤ m ∧ m ≤ c ∧ K (.slo o z (a + l.toNat) (h.toNat - l.toNat) (m.toNat - l.toNat))
      | false => False)
    | _, _, _, _ => False) := by
  split
  · exact Det.bind (det_szK S.P _) fun z => .and fun _ => .and fun _ => .and fun _ => .and fun _ => .and fun _ => .ret _
  · refine Det.bind (det_szK S.P _) fun z => ?_
    split
    · exact .and fun _ => .and fun _ => .and fun _ => .and fun _ => .ret _
    · exact .no
  · exact .no

theorem det_vflo (o : Oper) (t : List V) (ob : List VObj) : Det (vflo S o t ob) := by
  show Det fun K => vflo S o t ob K
  unfold vflo
  split
  · exact det_ev t _
  · exact det_ev t _
  · refine Det.bind (det_ev t _) fun v => ?_
    cases v <;> first | exact .no | exact .bif (det_ev t _) (det_ev t _)
  · exact Det.bind (det_partsK t _) fun ps => det_buildK _ _ _
  · refine Det.bind (det_partsK t _) fun ps K h => ?_
    split at h
    · split at h
      · obtain ⟨z, h1, h2⟩ := det_szK S.P _ _ h
        split at h1
        · split at h1
          · split at h1
            · exact ⟨_, h1, fun K' h => h2 _ (by simp_all)⟩
            · exact ⟨_, h1, fun K' h => h2 _ (by simp_all)⟩
            · split at h1
              · exact ⟨_, h1, fun K' h => h2 _ (by simp_all)⟩
              · exact h1.elim
            · exact h1.elim
          · exact h1.elim
        · exact h1.elim
      · exact h.elim
    · exact h.elim
  · refine Det.bind (det_ev t _) fun v => ?_
    cases v <;> try exact .no
    · refine Det.bind (det_getK ob _) fun x => ?_
      cases x <;> try exact .no
      exact Det.bind (det_dropK _ _) fun cs => det_loadK _ _ _
    · exact Det.bind (det_loadK _ _ _) fun v => det_untok v
    · refine Det.bind (det_getK ob _) fun x => ?_
      cases x <;> try exact .no
      simp only
      split
      · exact .ex fun x => .and fun _ => Det.bind (det_dropK _ _) fun cs => Det.bind (det_loadK _ _ _) fun v => det_untok v
      · exact .no
  · refine Det.bind (det_ev t _) fun v => ?_
    cases v <;> try first | exact .no | exact .ret _
    rename_i f a b
    cases f <;> first | exact .no | exact .ret _
  · exact Det.bind (det_ev t _) fun x => Det.bind (det_ev t _) fun y => det_binopK _ _ _ _ _
  · refine Det.bind (det_ev t _) fun v => ?_
    split <;> first | exact .no | exact .ret _
  · exact Det.bind (det_ev t _) fun x => Det.bind (det_ev t _) fun k => det_lookupK _ _ _ _ _ _
  · refine Det.bind (det_ev t _) fun x => ?_
    split
    · split
      · split
        · exact Det.bind (det_srcK _ _ _ _ _) fun m => .ex fun bs => .and fun _ => .ret _
        · exact .no
      · exact .no
    · exact Det.bind (det_getK ob _) fun o1 => Det.bind (F := unsafeK S.P _ _ o1 _) (Det.ret _) fun b => by
        cases b
        · exact .no
        · exact .ret _
    · exact det_convK _ _ _ _
  · refine Det.bind (det_ev t _) fun v => Det.bind (det_untok v) fun v => ?_
    split <;> first | exact .no | exact .ret _
  · exact Det.bind (det_evs t _) fun a => Det.bind (det_evs t _) fun b => Det.bind (det_mapK det_untok a) fun a => Det.bind (det_mapK det_untok b) fun b => .ret _
  · refine Det.bind (det_ev t _) fun v => ?_
    split
    · split
      · exact .no
      · cases v <;> first | exact .no | exact .ret _ | exact Det.bind (det_dropK _ _) fun c => .ret _
    · exact .no
  · refine Det.bind (det_ev t _) fun v => ?_
    split
    · exact Det.bind (det_dropK _ _) fun cs => Det.bind (det_loadK _ _ _) fun v => det_untok v
    · exact .no
  · refine Det.bind (det_ev t _) fun p => Det.bind (det_ev t _) fun i => ?_
    cases i <;> try exact .no
    simp only
    split
    · refine Det.bind (det_szK _ _) fun z => .and fun _ => .and fun _ => Det.bind (det_getK ob _) fun x => ?_
      cases x <;> try exact .ret _
      simp only
      split
      · exact .ret _
      · exact .no
    · refine Det.bind (det_szK _ _) fun z => ?_
      split
      · exact .and fun _ => .and fun _ => .ret _
      · exact .no
    · exact Det.bind (det_szK _ _) fun z => .and fun _ => .and fun _ => Det.bind (det_dropK _ _) fun c => .ret _
    · exact Det.bind (det_szK _ _) fun z => .and fun _ => .ex fun _ => .and fun _ => .and fun _ => .ret _
    · exact Det.bind (det_szK _ _) fun z => .and fun _ => .ex fun _ => .and fun _ => .and fun _ => .ret _
    · exact Det.bind (det_szK _ _) fun z => .and fun _ => .ex fun _ => .and fun _ => .and fun _ => .ret _
    · exact .no
  · refine Det.bind (det_ev t _) fun p => Det.bind (det_ev t _) fun i => ?_
    cases i <;> try exact .no
    simp only
    split
    · exact .and fun _ => .ex fun _ => .and fun _ => .ret _
    · exact Det.bind (det_szK _ _) fun z => .and fun _ => .and fun _ => Det.bind (det_dropK _ _) fun c => Det.bind (det_loadK _ _ _) fun v => det_untok v
    · exact .no
  · refine Det.bind (det_ev t _) fun v => ?_
    split
    · exact .no
    · exact det_assertK _ _ _ _
    · exact .no
  · refine Det.bind (det_ev t _) fun v => ?_
    cases v <;> try exact .no
    exact Det.bind (det_getK _ _) fun v => det_untok v
  · exact Det.bind (det_ev t _) fun x => Det.bind (det_lowK t _) fun l => det_slice S _ t _ x l
  · exact Det.bind (det_ev t _) fun x => Det.bind (det_lowK t _) fun l => Det.bind (det_ev t _) fun h => Det.bind (det_ev t _) fun m => det_slice3 S _ x h m l
  · split
    · exact Det.bind (det_evs t _) fun args => det_vbuiltinF S _ _ _
    · exact .no
  · exact .no

end VL

namespace VL
open Go
set_option linter.unusedVariables false
set_option linter.unusedSimpArgs false

theorem evs_congr {t t' : List V} : ∀ {l : List Operand}, (∀ x ∈ l, ev t x = ev t' x) → evs t l = evs t' l
  | [], _ => by funext K; rfl
  | x :: r, h => by
    funext K
    simp only [evs, h x (by simp), evs_congr (l := r) fun y hy => h y (by simp [hy])]

theorem partsK_congr {t t' : List V} : ∀ {l : List (Nat × Operand)}, (∀ x ∈ l.map (·.2), ev t x = ev t' x) → partsK t l = partsK t' l
  | [], _ => by funext K; rfl
  | (i, x) :: r, h => by
    funext K
    simp only [partsK, h x (by simp), partsK_congr (l := r) fun y hy => h y (by simp at hy ⊢; exact .inr hy)]

theorem lowK_congr {t t' : List V} {lo : Option Operand} (h : ∀ x ∈ lo.toList, ev t x = ev t' x) : lowK t lo = lowK t' lo := by
  funext K
  cases lo with
  | none => rfl
  | some y => simp only [lowK, h y (by simp)]

theorem optK_congr {t t' : List V} {lo : Option Operand} (h : ∀ x ∈ lo.toList, ev t x = ev t' x) : optK t lo = optK t' lo := by
  funext K
  cases lo with
  | none => rfl
  | some y => simp only [optK, h y (by simp)]

theorem vflo_congr (S : Sys) {o : Oper} {t t' : List V} (ob : List VObj) (h : ∀ x ∈ o.op.operands.toList, ev t x = ev t' x) : vflo S o t ob = vflo S o t' ob := by
  funext K
  unfold vflo
  split
  next x ho => rw [h x (by simp [ho, Op.operands])]
  next x ho => rw [h x (by simp [ho, Op.operands])]
  next x y z ho => rw [h x (by simp [ho, Op.operands]), h y (by simp [ho, Op.operands]), h z (by simp [ho, Op.operands])]
  next T ps ho => rw [partsK_congr fun x hx => h x (by simp [ho, Op.operands] at hx ⊢; exact hx)]
  next T n ps ho => rw [partsK_congr fun x hx => h x (by simp [ho, Op.operands] at hx ⊢; exact hx)]
  next x ho => rw [h _ (by rw [ho]; simp [Op.operands])]
  next x ho => rw [h _ (by rw [ho]; simp [Op.operands])]
  next ho =>
    rename_i x y U
    rw [h x (by simp [ho, Op.operands]), h y (by simp [ho, Op.operands])]
  next ho => rw [h _ (by rw [ho]; simp [Op.operands])]
  next T x k ok ho => rw [h x (by simp [ho, Op.operands]), h k (by simp [ho, Op.operands])]
  next ho => rw [h _ (by rw [ho]; simp [Op.operands])]
  next ho => rw [h _ (by rw [ho]; simp [Op.operands])]
  next f a b ho => rw [evs_congr fun x hx => h x (by simp [ho, Op.operands]; exact .inl (by simpa using hx)), evs_congr fun x hx => h x (by simp [ho, Op.operands]; exact .inr (by simpa using hx))]
  next ho => rw [h _ (by rw [ho]; simp [Op.operands])]
  next ho => rw [h _ (by rw [ho]; simp [Op.operands])]
  next T x ix ho => rw [h x (by simp [ho, Op.operands]), h ix (by simp [ho, Op.operands])]
  next T x ix ho => rw [h x (by simp [ho, Op.operands]), h ix (by simp [ho, Op.operands])]
  next ho => rw [h _ (by rw [ho]; simp [Op.operands])]
  next ho => rw [h _ (by rw [ho]; simp [Op.operands])]
  next T x lo hi ho =>
    rw [h x (by simp [ho, Op.operands]), lowK_congr (lo := lo) fun y hy => h y (by simp [ho, Op.operands]; simp at hy; simp [hy])]
    cases hi with
    | none =>
      congr 1; funext x; congr 1; funext l
      cases x <;> try rfl
      simp only
      split <;> try rfl
      congr 1; funext z'
      cases Nat.beq _ z' <;> rfl
    | some y =>
      simp only [h y (by simp [ho, Op.operands])]
      congr 1; funext x; congr 1; funext l
      cases x <;> try rfl
      simp only
      split <;> try rfl
      congr 1; funext z'
      cases Nat.beq _ z' <;> try rfl
      simp only [h y (by simp [ho, Op.operands])]
  next T x lo hi mx ho =>
    rw [h x (by simp [ho, Op.operands]), h hi (by simp [ho, Op.operands]), h mx (by simp [ho, Op.operands]), lowK_congr (lo := lo) fun y hy => h y (by simp [ho, Op.operands]; simp at hy; simp [hy])]
  next c ho =>
    split
    next hc => rw [evs_congr fun x hx => h x (by simp [ho, Op.operands, Call.operands, hc]; simpa using hx)]
    next => rfl
  next => rfl

/-- slots that are not told of -/
def masked (m : Nat → Bool) (t : List V) : List V := t.mapIdx fun i v => if m i then .undef else v

theorem masked_get {m : Nat → Bool} {t : List V} {i : Nat} : (masked m t)[i]? = (t[i]?).map fun v => if m i then .undef else v := by
  simp [masked, List.getElem?_mapIdx]

theorem masked_length {m : Nat → Bool} {t : List V} : (masked m t).length = t.length := by simp [masked]

theorem getK_eq {α : Type} {K : α → Prop} : ∀ (l : List α) (i : Nat), getK l i K = match l[i]? with | some x => K x | none => False
  | [], _ => by simp [getK]
  | x :: _, 0 => by simp [getK]
  | _ :: r, n + 1 => by simp only [getK, getK_eq r n, List.getElem?_cons_succ]

theorem ev_masked {m : Nat → Bool} {t : List V} {x : Operand} (h : ∀ d, x = .tmp d → m d = false) : ev (masked m t) x = ev t x := by
  funext K
  cases x with
  | tmp d =>
    simp only [ev, getK_eq, masked_get, h d rfl]
    cases t[d]? <;> rfl
  | _ => rfl

theorem masked_map {m : Nat → Bool} {t : List V} {i : Nat} : masked m (t.map (V.strip i)) = (masked m t).map (V.strip i) := by
  apply List.ext_getElem?
  intro k
  rw [masked_get, List.getElem?_map, List.getElem?_map, masked_get]
  cases t[k]? with
  | none => rfl
  | some v =>
    simp only [Option.map_some]
    split <;> rfl

theorem masked_forget {m : Nat → Bool} {t : List V} {ms : List Nat} : masked m (t.map (V.forget ms)) = (masked m t).map (V.forget ms) := by
  apply List.ext_getElem?
  intro k
  rw [masked_get, List.getElem?_map, List.getElem?_map, masked_get]
  cases t[k]? with
  | none => rfl
  | some v =>
    simp only [Option.map_some]
    split
    · simp [V.forget, ptrs, anyIn]
    · rfl

theorem mapK_forget_of {ms : List Nat} : ∀ {l : List V} {K : List V → Prop}, K (l.map (V.forget ms)) → mapK (fun v K => (V.forget ms v).force K) l K
  | [], K, h => h
  | x :: r, K, h => by
    show (V.forget ms x).force _
    rw [force_eq]; exact mapK_forget_of (l := r) h

theorem mapK_forgetO_of {ms : List Nat} : ∀ {l : List VObj} {K : List VObj → Prop}, K (l.map (forgetO ms)) → mapK (VObj.forgetK ms) l K
  | [], K, h => h
  | x :: r, K, h => by
    cases x with
    | cells w T cs => exact mapK_forget_of (mapK_forgetO_of (l := r) h)
    | _ => exact mapK_forgetO_of (l := r) h

theorem forgetK_of {ms : List Nat} {t : List V} {ob : List VObj} {df : List (Fn × List V × List V)} {K : List V → List VObj → Prop} (h1 : noneIn ms df = true) (h : K (t.map (V.forget ms)) (ob.map (forgetO ms))) : forgetK ms t ob df K := by
  unfold forgetK
  split
  · rw [show V.forget [] = id from funext forget_nil, show forgetO [] = id from funext forgetO_nil, List.map_id, List.map_id] at h; exact h
  · rw [h1]
    exact mapK_forget_of (mapK_forgetO_of h)

def maskS (m : Nat → Bool) : St → St
  | ⟨t, ob, nt, df⟩ => ⟨masked m t, ob, nt, df⟩


theorem det_renOP (f : Nat → Nat) (o : VObj) : Det (renOP f o) := fun K h => by
  unfold renOP at h ⊢
  split at h
  · split at h
    · exact ⟨_, h, fun _ h => h⟩
    · exact (Det.bind (det_mapK (det_renP f) _) fun cs => .ret _) K h
  · exact ⟨_, h, fun _ h => h⟩

theorem det_mvK (o : VObj) : Det o.mvK := fun K h => by
  unfold VObj.mvK at h ⊢
  split at h
  · exact ⟨_, h, fun _ h => h⟩
  · exact ⟨_, h, fun _ h => h⟩

theorem det_orMvK (m : Bool) (o : VObj) : Det (o.orMvK m) := fun K h => by
  unfold VObj.orMvK at h ⊢
  split at h
  · exact ⟨_, h, fun _ h => h⟩
  · exact ⟨_, h, fun _ h => h⟩
  · exact ⟨_, h, fun _ h => h⟩
  · exact h.elim

theorem det_inK (o : VObj) : Det o.inK := by cases o <;> exact .ret _

theorem det_insK : ∀ l : List VObj, Det (insK l)
  | [] => .ret _
  | o :: r => show Det fun K => o.inK fun o => insK r fun r => K (o :: r) from Det.bind (det_inK o) fun o => Det.bind (det_insK r) fun r => .ret _

theorem det_movedK : ∀ (idx : List Nat) (os : List VObj), Det (movedK idx os)
  | [], os => by cases os <;> exact .ret _
  | _ :: _, [] => .ret _
  | i :: r, o :: os => fun K h => by
    refine (Det.bind (det_mvK o) fun m => ?_ : Det fun K => o.mvK fun m => match m with | true => movedK r os fun l => K (i :: l) | false => movedK r os K) K h
    cases m with
    | true => exact Det.bind (det_movedK r os) fun l => .ret _
    | false => exact det_movedK r os

theorem det_backK (f : Nat → Nat) : ∀ (idx : List Nat) (os ob : List VObj), Det (backK f idx os ob)
  | i :: r, o :: os, ob => show Det fun K => renOP f o fun o => getK ob i fun o0 => o0.mvK fun m => o.orMvK m fun o => setK ob i o fun ob => backK f r os ob K from Det.bind (det_renOP _ _) fun o => Det.bind (det_getK _ _) fun o0 => Det.bind (det_mvK o0) fun m => Det.bind (det_orMvK m o) fun o => Det.bind (det_setK _ _ _) fun ob => det_backK f r os ob
  | [], os, ob => show Det fun K => mapK (renOP f) os fun os => K (ob ++ os) from Det.bind (det_mapK (det_renOP f) os) fun os => .ret _
  | _ :: _, [], _ => .no

theorem det_untokO (o : VObj) : Det o.untokK := by
  cases o with
  | cells w T cs => exact (Det.bind (det_mapK det_untok cs) fun cs => .ret (VObj.cells w T cs) : Det fun K => mapK V.untokK cs fun cs => K (VObj.cells w T cs))
  | _ => exact .ret _

theorem det_getsK (ob : List VObj) (f : Nat → Nat) : ∀ idx, Det (getsK ob f idx)
  | [] => .ret _
  | i :: r => show Det fun K => getK ob i fun o => o.untokK fun o => getsK ob f r fun os => renOP f o fun o => K (o :: os) from
      Det.bind (det_getK _ _) fun o => Det.bind (det_untokO o) fun o => Det.bind (det_getsK ob f r) fun os => Det.bind (det_renOP _ _) fun o => .ret _

theorem det_strips (i : Nat) (s : St) : Det (strips i s) := by
  obtain ⟨t, ob, nt, df⟩ := s
  show Det fun K => strips i ⟨t, ob, nt, df⟩ K
  unfold strips
  refine Det.bind (det_mapK (fun v => det_force _) t) fun t => ?_
  refine Det.bind (det_mapK (fun o => ?_) ob) fun ob => .ret _
  cases o with
  | cells w T cs => exact (Det.bind (det_mapK (fun v => det_force _) cs) fun cs => .ret (VObj.cells w T cs) : Det fun K => mapK (fun v K => (V.strip i v).force K) cs fun cs => K (VObj.cells w T cs))
  | _ => exact .ret _

theorem strips_of {i : Nat} {t : List V} {ob : List VObj} {nt : Nat} {df : List (Fn × List V × List V)} {K : St → Prop} (h : K ⟨t.map (V.strip i), ob.map (stripO i), nt, df⟩) : strips i ⟨t, ob, nt, df⟩ K := by
  obtain ⟨v, h1, h2⟩ := det_strips i ⟨t, ob, nt, df⟩ (fun s => s = ⟨t.map (V.strip i), ob.map (stripO i), nt, df⟩) (by
    have hm : ∀ l : List V, ∀ K : List V → Prop, K (l.map (V.strip i)) → mapK (fun v K => (V.strip i v).force K) l K := fun l => by
      induction l with
      | nil => intro K h; exact h
      | cons x r ih => intro K h; show (V.strip i x).force _; rw [force_eq]; exact ih _ h
    have ho : ∀ l : List VObj, ∀ K : List VObj → Prop, K (l.map (stripO i)) → mapK (fun o K => match o with
        | VObj.cells w T cs => mapK (fun v K => (V.strip i v).force K) cs fun cs => K (VObj.cells w T cs)
        | o => K o) l K := fun l => by
      induction l with
      | nil => intro K h; exact h
      | cons x r ih =>
        intro K h
        cases x with
        | cells w T cs => exact hm cs _ (ih _ h)
        | _ => exact ih _ h
    exact hm t _ (ho ob _ rfl))
  exact h2 K (h1 ▸ h)

variable (S : Sys)

theorem Det.mono {α : Type} {F : (α → Prop) → Prop} (hF : Det F) {K K' : α → Prop} (hK : ∀ v, K v → K' v) (h : F K) : F K' := by
  obtain ⟨v, h1, h2⟩ := hF K h
  exact h2 K' (hK v h1)

theorem det_optK (t : List V) (lo : Option Operand) : Det (optK t lo) := by
  cases lo with
  | none => exact .ret none
  | some y =>
    show Det fun K => optK t (some y) K
    unfold optK
    refine Det.bind (det_ev t y) fun v => ?_
    cases v <;> first | exact .no | exact .ret _

theorem up_snocK {α : Type} {l : List α} {v : α} {K K' : Nat → List α → Prop} (hK : ∀ n l, K n l → K' n l) (h : snocK l v K) : snocK l v K' :=
  (det_snocK l v).mono (K := fun p => K p.1 p.2) (K' := fun p => K' p.1 p.2) (fun p h => hK _ _ h) h

section
variable {t t' : List V} {df : List (Fn × List V × List V)} {K K' : V → St → Prop}

theorem up_appendNew {P : Program} {e : TypeId} {m : List V} {ob : List VObj} {nt : Nat} (hK : ∀ v ob nt, K v ⟨t, ob, nt, df⟩ → K' v ⟨t', ob, nt, df⟩) (h : appendNewK P e m ⟨t, ob, nt, df⟩ K) : appendNewK P e m ⟨t', ob, nt, df⟩ K' := by
  unfold appendNewK at h ⊢
  refine (det_szK P e).mono (fun z h => ?_) h
  split at h
  · split at h
    · obtain ⟨a, b, h⟩ := h
      exact ⟨a, b, fun sp c d => up_snocK (fun i ob h => hK _ _ _ h) (h sp c d)⟩
    · exact h.elim
  · exact h.elim

theorem up_appendBuf {P : Program} {e : TypeId} {o z lo n c : Nat} {m : List V} {ob : List VObj} {nt : Nat} (hK : ∀ v ob nt, K v ⟨t, ob, nt, df⟩ → K' v ⟨t', ob, nt, df⟩) (h : appendBufK P e o z lo n c m ⟨t, ob, nt, df⟩ K) : appendBufK P e o z lo n c m ⟨t', ob, nt, df⟩ K' := by
  unfold appendBufK at h ⊢
  refine (det_szK P e).mono (fun z' h => ?_) h
  split at h
  · split at h
    · obtain ⟨a, b, h⟩ := h
      refine ⟨a, b, (det_getK ob o).mono (fun x h => ?_) h⟩
      split at h
      · split at h
        · cases hb : Nat.ble (n + m.length) c with
          | true =>
            rw [hb] at h
            obtain ⟨c1, h⟩ := h
            exact ⟨c1, (det_setK _ _ _).mono (fun ob h => hK _ _ _ h) h⟩
          | false =>
            rw [hb] at h
            obtain ⟨c1, h⟩ := h
            exact ⟨c1, fun sp hsp => up_snocK (fun i ob h => hK _ _ _ h) (h sp hsp)⟩
        · exact h.elim
      · exact h.elim
    · exact h.elim
  · exact h.elim

theorem up_copy {S : Sys} {ts : Array TypeId} {args : List V} {ob : List VObj} {nt : Nat} (hK : ∀ v ob nt, K v ⟨t, ob, nt, df⟩ → K' v ⟨t', ob, nt, df⟩) (h : vcopy S ts args ⟨t, ob, nt, df⟩ K) : vcopy S ts args ⟨t', ob, nt, df⟩ K' := by
  unfold vcopy at h ⊢
  simp only at h ⊢
  split at h
  · refine (det_srcK _ _ _ _ _).mono (fun m h => ?_) h
    refine (det_szK _ _).mono (fun z' h => ?_) h
    split at h
    · obtain ⟨a, h⟩ := h
      refine ⟨a, (det_getK ob _).mono (fun x h => ?_) h⟩
      split at h
      · split at h
        · exact ⟨h.1, (det_setK _ _ _).mono (fun ob h => hK _ _ _ h) h.2⟩
        · exact h.elim
      · exact h.elim
    · exact h.elim
  · exact h.elim

theorem up_unsafeString {S : Sys} {ts : Array TypeId} {args : List V} {ob : List VObj} {nt : Nat} (hK : ∀ v ob nt, K v ⟨t, ob, nt, df⟩ → K' v ⟨t', ob, nt, df⟩) (h : vunsafeString S ts args ⟨t, ob, nt, df⟩ K) : vunsafeString S ts args ⟨t', ob, nt, df⟩ K' := by
  unfold vunsafeString at h ⊢
  simp only at h ⊢
  split at h
  · refine (det_getK ob _).mono (fun x h => ?_) h
    split at h
    · split at h
      · obtain ⟨a, b, c, bs, d, h⟩ := h
        refine ⟨a, b, c, bs, d, ?_⟩
        generalize Nat.beq _ 0 = b0 at h ⊢
        cases b0 with
        | true => exact hK _ _ _ h
        | false => exact (det_setK _ _ _).mono (fun ob h => hK _ _ _ h) h
      · exact h.elim
    · exact h.elim
  · exact h.elim

theorem up_makeSlice {S : Sys} {T : TypeId} {len cap : V} {ob : List VObj} {nt : Nat} (hK : ∀ v ob nt, K v ⟨t, ob, nt, df⟩ → K' v ⟨t', ob, nt, df⟩) (h : vmakeSlice S T len cap ⟨t, ob, nt, df⟩ K) : vmakeSlice S T len cap ⟨t', ob, nt, df⟩ K' := by
  unfold vmakeSlice at h ⊢
  simp only at h ⊢
  split at h
  · refine (det_szK _ _).mono (fun z' h => ?_) h
    split at h
    · split at h
      · obtain ⟨a, b, c, d, h⟩ := h
        exact ⟨a, b, c, d, up_snocK (fun i ob h => hK _ _ _ h) h⟩
      · exact h.elim
    · exact h.elim
  · exact h.elim

theorem up_mapUpdate {S : Sys} {T : TypeId} {x k v : V} {ob : List VObj} {nt : Nat} (hK : ∀ v ob nt, K v ⟨t, ob, nt, df⟩ → K' v ⟨t', ob, nt, df⟩) (h : vmapUpdate S T x k v ⟨t, ob, nt, df⟩ K) : vmapUpdate S T x k v ⟨t', ob, nt, df⟩ K' := by
  unfold vmapUpdate at h ⊢
  simp only at h ⊢
  split at h
  · refine (det_untok _).mono (fun v h => ?_) h
    split at h
    · refine (det_getK ob _).mono (fun x h => ?_) h
      split at h
      · exact ⟨h.1, (det_setK _ _ _).mono (fun ob h => hK _ _ _ h) h.2⟩
      · exact h.elim
    · exact h.elim
  · exact h.elim

theorem up_nilSl {P : Program} {op : BinOp} {T : TypeId} {x : V} {K K' : V → Prop} (hK : ∀ v, K v → K' v) (h : nilSlK P op T x K) : nilSlK P op T x K' := by
  have hn : ∀ {K K' : Bool → Prop}, (∀ b, K b → K' b) → nilSlK.nilB x K → nilSlK.nilB x K' := fun {K K'} hk h => by
    unfold nilSlK.nilB at h ⊢
    split at h
    all_goals first
      | exact h.elim
      | exact fun b hb => hk _ (h b hb)
  unfold nilSlK at h ⊢
  split at h
  · exact hn (fun b h => hK _ h) h
  · exact hn (fun b h => hK _ h) h
  · exact h.elim

theorem up_buildMu {S : Sys} {T : TypeId} {n : Nat} {parts : Array (Nat × Operand)} {ob : List VObj} {K K' : V → List VObj → Prop} (hp : partsK t parts.toList = partsK t' parts.toList) (hK : ∀ v ob, K v ob → K' v ob) (h : vbuildMu S T n parts t ob K) : vbuildMu S T n parts t' ob K' := by
  unfold vbuildMu at h ⊢
  rw [← hp]
  refine (det_partsK _ _).mono (fun ps h => ?_) h
  split at h
  · split at h
    · refine (det_szK _ _).mono (fun z h => ?_) h
      split at h
      · split at h
        · split at h
          · exact up_snocK (fun i ob h => hK _ _ h) h
          · exact h.elim
        · exact h.elim
      · exact h.elim
    · exact h.elim
  · exact h.elim

end

/-- a call's contract may be told for less -/
def CallMono : Prop := ∀ g args ob (K K' : Out → List VObj → Prop), (∀ o ob, K o ob → K' o ob) → S.call g args ob K → S.call g args ob K'

theorem vop_mask (hm : CallMono S) {o : Oper} {m : Nat → Bool} (hU : ∀ x ∈ o.op.operands.toList, ∀ d, x = .tmp d → m d = false) {t : List V} {ob : List VObj} {nt : Nat} {df : List (Fn × List V × List V)}
    {K KP : V → St → Prop} (h : vop S o ⟨t, ob, nt, df⟩ K KP) : vop S o (maskS m ⟨t, ob, nt, df⟩) (fun v s' => ∃ s1, K v s1 ∧ s' = maskS m s1) fun v s' => ∃ s1, KP v s1 ∧ s' = maskS m s1 := by
  have hev : ∀ x ∈ o.op.operands.toList, ev (masked m t) x = ev t x := fun x hx => ev_masked (hU x hx)
  have hK : ∀ v ob nt, K v ⟨t, ob, nt, df⟩ → ∃ s1, K v s1 ∧ (⟨masked m t, ob, nt, df⟩ : St) = maskS m s1 := fun v ob nt h => ⟨_, h, rfl⟩
  have hflo : ∀ {K0 : V → St → Prop}, (vflo S o t ob fun v => K0 v ⟨t, ob, nt, df⟩) → vflo S o (masked m t) ob fun v => (fun v s' => ∃ s1, K0 v s1 ∧ s' = maskS m s1) v ⟨masked m t, ob, nt, df⟩ := fun {K0} h => by
    rw [vflo_congr S ob hev]
    obtain ⟨v, h1, h2⟩ := det_vflo S o t ob _ h
    exact h2 _ ⟨_, h1, rfl⟩
  show vop S o ⟨masked m t, ob, nt, df⟩ _ _
  unfold vop at h ⊢
  simp only at h ⊢
  split at h
  next T ho =>
    obtain ⟨z, h1, h2⟩ := det_zeroV _ _ _ h
    refine h2 _ ?_
    split at h1
    next hc =>
      split at h1
      next hd =>
        obtain ⟨p, h3, h4⟩ := det_snocK _ _ (fun p => K (.ptr p.1 0) ⟨t, p.2, nt, df⟩) h1
        exact h4 (fun p => ∃ s1, K (.ptr p.1 0) s1 ∧ (⟨masked m t, p.2, nt, df⟩ : St) = maskS m s1) ⟨_, h3, rfl⟩
      next hd =>
        obtain ⟨p, h3, h4⟩ := det_snocK _ _ (fun p => K (.ptr p.1 0) ⟨t, p.2, nt, df⟩) h1
        exact h4 (fun p => ∃ s1, K (.ptr p.1 0) s1 ∧ (⟨masked m t, p.2, nt, df⟩ : St) = maskS m s1) ⟨_, h3, rfl⟩
    next => exact h1.elim
  next T x ho =>
    rw [hev x (by simp [ho, Op.operands])]
    obtain ⟨v, h1, h2⟩ := det_ev _ _ _ h
    refine h2 _ ?_
    obtain ⟨v', h1, h3⟩ := det_untok _ _ h1
    refine h3 _ ?_
    split at h1
    next hc =>
      obtain ⟨p, h3, h4⟩ := det_snocK _ _ (fun p => K (.ptr p.1 0) ⟨t, p.2, nt, df⟩) h1
      exact h4 (fun p => ∃ s1, K (.ptr p.1 0) s1 ∧ (⟨masked m t, p.2, nt, df⟩ : St) = maskS m s1) ⟨_, h3, rfl⟩
    next => exact h1.elim
  next T x y ho =>
    rw [hev x (by simp [ho, Op.operands]), hev y (by simp [ho, Op.operands])]
    obtain ⟨p, h1, h2⟩ := det_ev _ _ _ h
    refine h2 _ ?_
    obtain ⟨v, h1, h3⟩ := det_ev _ _ _ h1
    refine h3 _ ?_
    obtain ⟨v, h1, h4⟩ := det_force _ _ h1
    refine h4 _ ?_
    split at h1
    next i off =>
      obtain ⟨x1, h1, h5⟩ := det_getK _ _ _ h1
      refine h5 _ ?_
      split at h1
      next U cs =>
        split at h1
        next hc =>
          obtain ⟨cs', h1, h6⟩ := det_spliceK _ _ _ _ h1
          refine h6 _ ?_
          obtain ⟨ob', h1, h7⟩ := det_setK _ _ _ _ h1
          exact h7 _ ⟨_, h1, rfl⟩
        next => exact h1.elim
      next => exact h1.elim
    next o z i off =>
      refine (det_untok _).mono (fun v h => ?_) h1
      refine (det_getK ob _).mono (fun x1 h => ?_) h
      split at h
      next =>
        split at h
        next =>
          obtain ⟨y, hy, h⟩ := h
          exact ⟨y, hy, (det_spliceK _ _ _).mono (fun cs h => (det_setK _ _ _).mono (fun ob h => hK _ _ _ h) h) h⟩
        next => exact h.elim
      next => exact h.elim
    next => exact h1.elim
  next T len cap ho =>
    rw [hev len (by simp [ho, Op.operands]), hev cap (by simp [ho, Op.operands])]
    refine (det_ev _ _).mono (fun x h => ?_) h
    refine (det_ev _ _).mono (fun y h => ?_) h
    exact up_makeSlice hK h
  next T ho =>
    split at h
    next => exact up_snocK (fun i ob h => hK _ _ _ h) h
    next => exact h.elim
  next T x k v ho =>
    rw [hev x (by simp [ho, Op.operands]), hev k (by simp [ho, Op.operands]), hev v (by simp [ho, Op.operands])]
    refine (det_ev _ _).mono (fun x h => ?_) h
    refine (det_ev _ _).mono (fun y h => ?_) h
    refine (det_ev _ _).mono (fun z h => ?_) h
    exact up_mapUpdate hK h
  next op T x y U ho =>
    split at h
    next hy =>
      rw [hev x (by simp [ho, Op.operands])]
      exact (det_ev _ _).mono (fun x h => up_nilSl (fun v h => hK _ _ _ h) h) h
    next => exact hflo h
  next T n parts ho =>
    split at h
    next => exact up_buildMu (partsK_congr fun x hx => (hev x (by simp [ho, Op.operands] at hx ⊢; exact hx)).symm) (fun v ob h => hK _ _ _ h) h
    next => exact hflo h
  next T x lo hi mx ho =>
    rw [hev x (by simp [ho, Op.operands])]
    obtain ⟨p, h1, h2⟩ := det_ev _ _ _ h
    refine h2 _ ?_
    have hlo : optK (masked m t) lo = optK t lo := optK_congr fun y hy => hev y (by simp [ho, Op.operands]; simp at hy; simp [hy])
    have hhi : optK (masked m t) hi = optK t hi := optK_congr fun y hy => hev y (by simp [ho, Op.operands]; simp at hy; simp [hy])
    split at h1
    · cases hu : S.P.underlying T with
      | none => simp only [hu] at h1
      | some d =>
        cases d <;> simp only [hu] at h1 ⊢
        cases mx with
        | some _ => exact h1.elim
        | none =>
          refine (det_getK ob _).mono (fun x1 h => ?_) h1
          cases x1 with
          | cells wr U cs =>
            simp only at h ⊢
            split at h
            next hc => exact (det_setK _ _ _).mono (fun ob h => hK _ _ _ h) h
            next => exact h.elim
          | buf mv z l =>
            simp only [hlo, hhi] at h ⊢
            refine (det_szK _ _).mono (fun z' h => ?_) h
            refine (det_optK _ _).mono (fun l1 h => ?_) h
            refine (det_optK _ _).mono (fun h1 h => ?_) h
            split at h
            next => exact hK _ _ _ h
            next => exact ⟨h.1, h.2.1, hK _ _ _ h.2.2⟩
            next => exact ⟨h.1, h.2.1, hK _ _ _ h.2.2⟩
            next => exact ⟨h.1, h.2.1, h.2.2.1, hK _ _ _ h.2.2.2⟩
            next => exact h.elim
          | _ => exact h.elim
    · exact hflo h1
  next c ho =>
    split at h
    next f hc =>
      rw [hev f (by simp [ho, Op.operands, Call.operands, hc]), evs_congr fun x hx => hev x (by simp [ho, Op.operands, Call.operands, hc]; exact .inr (by simpa using hx))]
      obtain ⟨f, h1, h2⟩ := det_ev _ _ _ h
      refine h2 _ ?_
      obtain ⟨args, h1, h3⟩ := det_evs _ _ _ h1
      refine h3 _ ?_
      clear h2 h3
      cases f with
      | fn f first cap =>
        cases f with
        | func g =>
          simp only [vcall] at h1 ⊢
          obtain ⟨as, h1, h4⟩ := det_mapK det_untok _ _ h1
          refine h4 _ ?_
          obtain ⟨idx, h1, h8⟩ := det_listK _ _ h1
          refine h8 _ ?_
          split at h1
          next => exact h1.elim
          next hck =>
            obtain ⟨sub, h1, h5⟩ := det_getsK _ _ _ _ h1
            refine h5 _ ?_
            obtain ⟨sub, h1, h10⟩ := det_insK _ _ h1
            refine h10 _ ?_
            obtain ⟨as, h1, h9⟩ := det_mapK (det_renP _) _ _ h1
            refine h9 _ ?_
            refine hm _ _ _ _ _ (fun out sub' hk => ?_) h1
            obtain ⟨ms, h1, h11⟩ := det_movedK _ _ _ hk
            refine h11 _ ?_
            obtain ⟨hd, h1⟩ := forgetK_iff h1
            refine forgetK_of hd ?_
            obtain ⟨ob', h1, h6⟩ := det_backK _ _ _ _ _ h1
            refine h6 _ ?_
            cases out with
            | ret v =>
              obtain ⟨v', h1, h7⟩ := det_renP _ _ _ h1
              exact h7 _ ⟨_, h1, by simp only [maskS, masked_forget]⟩
            | pan v =>
              obtain ⟨v', h1, h7⟩ := det_renP _ _ _ h1
              exact h7 _ ⟨_, h1, by simp only [maskS, masked_forget]⟩
        | _ => exact h1.elim
      | _ => exact h1.elim
    next hc =>
      rw [evs_congr fun x hx => hev x (by simp [ho, Op.operands, Call.operands, hc]; simpa using hx)]
      obtain ⟨args, h1, h3⟩ := det_evs _ _ _ h
      refine h3 _ ?_
      have happ : ∀ {e : TypeId} {l : List V} {r : Room} {u : List V}, appendK S.P e l r u ⟨t, ob, nt, df⟩ K → appendK S.P e l r u ⟨masked m t, ob, nt, df⟩ fun v s' => ∃ s1, K v s1 ∧ s' = maskS m s1 := fun {e l r u} h => by
        unfold appendK at h ⊢
        obtain ⟨z, h1, h2⟩ := det_szK _ _ _ h
        refine h2 _ ?_
        split at h1
        next =>
          split at h1
          next hz =>
            obtain ⟨a1, a2, h1⟩ := h1
            refine ⟨a1, a2, ?_⟩
            cases r with
            | no => exact h1
            | ex => exact ⟨h1.1, _, h1.2, rfl⟩
            | tok i sz =>
              simp only at h1 ⊢
              split at h1
              next =>
                refine strips_of ?_
                have := strips_iff h1
                exact ⟨_, this, by simp only [maskS, masked_map]⟩
              next => exact h1.elim
          next => exact h1.elim
        next => exact h1.elim
      unfold vappend at h1 ⊢
      split at h1
      · split at h1
        · refine (det_srcK _ _ _ _ _).mono (fun u h => ?_) h1
          split at h
          · split at h
            · exact up_appendNew hK h
            · exact happ h
          · exact up_appendBuf hK h
          · exact h.elim
        · split at h1
          · split at h1
            · exact ⟨h1.1, h1.2.1, up_appendBuf hK h1.2.2⟩
            · exact h1.elim
          · exact h1.elim
      · exact h1.elim
    next hc =>
      rw [evs_congr fun x hx => hev x (by simp [ho, Op.operands, Call.operands, hc]; simpa using hx)]
      exact (det_evs _ _).mono (fun args h => up_copy hK h) h
    next hc =>
      rw [evs_congr fun x hx => hev x (by simp [ho, Op.operands, Call.operands, hc]; simpa using hx)]
      exact (det_evs _ _).mono (fun args h => up_unsafeString hK h) h
    next => exact hflo h
    next => exact h.elim
  next c ho =>
    split at h
    next f hc =>
      rw [hev f (by simp [ho, Op.operands, Call.operands, hc]), evs_congr fun x hx => hev x (by simp [ho, Op.operands, Call.operands, hc]; exact .inr (by simpa using hx))]
      obtain ⟨f, h1, h2⟩ := det_ev _ _ _ h
      refine h2 _ ?_
      obtain ⟨args, h1, h3⟩ := det_evs _ _ _ h1
      refine h3 _ ?_
      split at h1
      next =>
        obtain ⟨a, h1, h4⟩ := det_mapK det_untok _ _ h1
        refine h4 _ ?_
        obtain ⟨b, h1, h5⟩ := det_mapK det_untok _ _ h1
        exact h5 _ ⟨_, h1, rfl⟩
      next => exact h1.elim
    next => exact h.elim
  next x ho =>
    rw [hev x (by simp [ho, Op.operands])]
    refine (det_ev _ _).mono (fun v h => ?_) h
    split at h
    next => exact ⟨_, h, rfl⟩
    next => exact h.elim
  next => exact hflo h

end VL

namespace VL
open Go
set_option linter.unusedVariables false
set_option linter.unusedSimpArgs false

section
variable {k : Nat} {t : List V} {ob : List VObj} {nt : Nat} {df : List (Fn × List V × List V)}

theorem getK_hide {i : Nat} {K : VObj → Prop} (hi : i ≠ k) (h : getK ob i K) : getK (ob.set k .none) i K := by
  rw [getK_eq] at h ⊢
  rw [List.getElem?_set_ne (Ne.symm hi)]; exact h

theorem setK_of {x : VObj} : ∀ {l : List VObj} {i : Nat}, i < l.length → setK l i x fun l' => l' = l.set i x
  | [], i, h => by simp at h
  | y :: r, 0, h => rfl
  | y :: r, i + 1, h => by
    show setK r i x fun r' => y :: r' = (y :: r).set (i + 1) x
    obtain ⟨l, h1, h2⟩ := det_setK r i x _ (setK_of (l := r) (i := i) (by simpa using h))
    exact h2 _ (by rw [h1]; rfl)

theorem setK_hide {i : Nat} {x : VObj} {K K' : List VObj → Prop} (hi : i ≠ k) (hK : ∀ l, K l → K' (l.set k .none)) (h : setK ob i x K) : setK (ob.set k .none) i x K' := by
  obtain ⟨hlt, h⟩ := setK_iff h
  obtain ⟨l, h1, h2⟩ := det_setK (ob.set k .none) i x (fun l => l = (ob.set k .none).set i x) (setK_of (by simpa using hlt))
  refine h2 _ ?_
  rw [h1, List.set_comm _ _ (Ne.symm hi)]
  exact hK _ h

theorem snocK_of {α : Type} : ∀ {l : List α} {v : α} {K : Nat → List α → Prop}, K l.length (l ++ [v]) → snocK l v K
  | [], v, K, h => h
  | x :: r, v, K, h => by
    show snocK r v fun n l => K (n + 1) (x :: l)
    exact snocK_of (l := r) (by simpa using h)

theorem snocK_hide {x : VObj} {K K' : Nat → List VObj → Prop} (hk : k < ob.length) (hK : ∀ n l, K n l → K' n (l.set k .none)) (h : snocK ob x K) : snocK (ob.set k .none) x K' := by
  have h := hK _ _ (snocK_iff h)
  refine snocK_of ?_
  rw [List.length_set]
  rwa [List.set_append_left _ _ hk] at h

theorem ofConst_ptrs0 (c : Value) : ptrs (ofConst c) = [] := by
  unfold ofConst
  split <;> rfl

theorem ofConst_ptrs (c : Value) : ptrs (ofConstAgg c) = [] := by
  have h1 : ∀ c, ptrs (ofConst c) = [] := fun c => by
    unfold ofConst
    split <;> rfl
  unfold ofConstAgg
  split
  · rename_i cs
    simp only [ptrs]
    generalize cs.toList = l
    induction l with
    | nil => rfl
    | cons x r ih => simp [ptrsL, h1, ih]
  · exact h1 _

/-- no slot names it -/
def Clean (k : Nat) (t : List V) : Prop := ∀ v ∈ t, k ∉ ptrs v

theorem ev_clean (ht : Clean k t) {x : Operand} {K : V → Prop} (h : ev t x K) : ∃ v, k ∉ ptrs v ∧ K v ∧ ∀ K' : V → Prop, K' v → ev t x K' := by
  obtain ⟨v, h1, h2⟩ := det_ev t x (fun v => k ∉ ptrs v ∧ K v) (by
    cases x with
    | tmp i =>
      obtain ⟨v, h1, h2⟩ := getK_iff h
      exact (by rw [ev, getK_eq, h1]; exact ⟨ht v (List.mem_of_getElem? h1), h2⟩)
    | const c =>
      show (ofConstAgg c).force _
      have h : (ofConstAgg c).force _ := h
      rw [force_eq] at h ⊢
      exact ⟨by rw [ofConst_ptrs]; simp, h⟩
    | func f => exact ⟨by simp [ptrs, ptrsL], h⟩
    | global g =>
      have h : match glob g with
        | some l => K (V.dp (l.map ofConst))
        | none => False := h
      show match glob g with
        | some l => k ∉ ptrs (V.dp (l.map ofConst)) ∧ K (V.dp (l.map ofConst))
        | none => False
      revert h
      generalize glob g = q
      cases q with
      | some l =>
        intro h
        refine ⟨fun hk => ?_, h⟩
        have : ∀ l : List Value, ptrsL (l.map ofConst) = [] := fun l => by
          induction l with
          | nil => rfl
          | cons a r ih => simp [ptrsL, ofConst_ptrs0, ih]
        rw [show ptrs (V.dp (l.map ofConst)) = ptrsL (l.map ofConst) from rfl, this] at hk
        cases hk
      | none => exact fun h => h)
  exact ⟨v, h1.1, h1.2, h2⟩

theorem vflo_obs (S : Sys) {o : Oper} (ht : Clean k t) {K : V → Prop} (h : vflo S o t ob K) : vflo S o t (ob.set k .none) K := by
  unfold vflo at h ⊢
  split at h
  case h_6 =>
    obtain ⟨v, hv, h, h2⟩ := ev_clean ht h
    refine h2 _ ?_
    split at h
    · rename_i i off
      exact getK_hide (by simpa [ptrs, eq_comm] using hv) h
    · exact h
    · rename_i o1 z i off
      exact getK_hide (by simpa [ptrs, eq_comm] using hv) h
    · exact h
  case h_10 =>
    obtain ⟨v, hv, h, h2⟩ := ev_clean ht h
    refine h2 _ ?_
    obtain ⟨u, hu, h, h3⟩ := ev_clean ht h
    refine h3 _ ?_
    unfold lookupK at h ⊢
    split at h
    · split at h
      · cases v <;> try exact h
        exact getK_hide (by simpa [ptrs, eq_comm] using hv) h
      · exact h
    · exact h
  case h_11 =>
    obtain ⟨v, hv, h, h2⟩ := ev_clean ht h
    refine h2 _ ?_
    split at h
    · split at h
      · split at h
        · exact getK_hide (by simpa [ptrs, eq_comm] using hv) h
        · exact h
      · exact h
    · exact getK_hide (by simpa [ptrs, eq_comm] using hv) h
    · exact h
  case h_16 =>
    obtain ⟨v, hv, h, h2⟩ := ev_clean ht h
    refine h2 _ ?_
    obtain ⟨u, hu, h, h3⟩ := ev_clean ht h
    refine h3 _ ?_
    split at h
    · split at h
      · rename_i e j off _
        exact (det_szK S.P _).mono (fun z h => ⟨h.1, h.2.1, getK_hide (by simpa [ptrs, eq_comm] using hv) h.2.2⟩) h
      all_goals exact h
    · exact h
  all_goals exact h

def hideS (k : Nat) : St → St
  | ⟨t, ob, nt, df⟩ => ⟨t, ob.set k .none, nt, df⟩

theorem reach_hide (hob : ∀ (j : Nat) x, j ≠ k → ob[j]? = some x → k ∉ ptrsO x) : ∀ (n : Nat) (todo acc : List Nat), k ∉ todo → k ∉ acc → reach (ob.set k .none) n todo acc = reach ob n todo acc ∧ k ∉ reach ob n todo acc
  | 0, todo, acc, _, h => by cases todo <;> exact ⟨rfl, h⟩
  | n + 1, [], acc, _, h => ⟨rfl, h⟩
  | n + 1, i :: r, acc, ht, ha => by
    have hik : i ≠ k := fun e => ht (by simp [e])
    have hr : k ∉ r := fun h => ht (by simp [h])
    unfold reach
    cases memN i acc with
    | true => exact reach_hide hob n r acc hr ha
    | false =>
      simp only
      rw [List.getElem?_set_ne (Ne.symm hik)]
      refine reach_hide hob n _ _ (fun h => ?_) (fun h => ?_)
      · rcases List.mem_append.1 h with h | h
        · exact hr h
        · cases hi : ob[i]? with
          | none => rw [hi] at h; simp at h
          | some x => rw [hi] at h; exact hob i x hik hi (by simpa using h)
      · rcases List.mem_append.1 h with h | h
        · exact ha h
        · simp at h; exact hik h.symm

theorem shut_hide {idx : List Nat} : ∀ {l : List Nat}, k ∉ l → shutN (ob.set k .none) idx l = shutN ob idx l
  | [], _ => rfl
  | i :: r, h => by
    have hik : i ≠ k := fun e => h (by simp [e])
    unfold shutN
    rw [List.getElem?_set_ne (Ne.symm hik), shut_hide fun hr => h (by simp [hr])]

theorem gets_hide {f : Nat → Nat} : ∀ {idx : List Nat} {K : List VObj → Prop}, k ∉ idx → getsK ob f idx K → getsK (ob.set k .none) f idx K
  | [], K, _, h => h
  | i :: r, K, hk, h => by
    have hik : i ≠ k := fun e => hk (by simp [e])
    exact getK_hide hik (by
      refine (det_getK ob i).mono (fun o h => ?_) h
      refine (det_untokO o).mono (fun o h => ?_) h
      exact gets_hide (fun hr => hk (by simp [hr])) h)

theorem back_hide {f : Nat → Nat} : ∀ {idx : List Nat} {os ob : List VObj} {K K' : List VObj → Prop}, k < ob.length → k ∉ idx → (∀ l, K l → K' (l.set k .none)) → backK f idx os ob K → backK f idx os (ob.set k .none) K'
  | [], os, ob, K, K', hl, hk, hK, h => by
    have h : mapK (renOP f) os fun os => K (ob ++ os) := h
    show mapK (renOP f) os fun os => K' (ob.set k .none ++ os)
    refine (det_mapK (det_renOP f) os).mono (fun os h => ?_) h
    have := hK _ h
    rwa [List.set_append_left _ _ hl] at this
  | i :: r, o :: os, ob, K, K', hl, hk, hK, h => by
    have hik : i ≠ k := fun e => hk (by simp [e])
    have h : renOP f o fun o => getK ob i fun o0 => o0.mvK fun m => o.orMvK m fun o => setK ob i o fun ob => backK f r os ob K := h
    show renOP f o fun o => getK (ob.set k .none) i fun o0 => o0.mvK fun m => o.orMvK m fun o => setK (ob.set k .none) i o fun ob => backK f r os ob K'
    refine (det_renOP f o).mono (fun o h => ?_) h
    refine getK_hide hik ?_
    refine (det_getK ob i).mono (fun o0 h => ?_) h
    refine (det_mvK o0).mono (fun m h => ?_) h
    refine (det_orMvK m o).mono (fun o h => ?_) h
    obtain ⟨hlt, h⟩ := setK_iff h
    have h2 : setK ob i o fun l => l = ob.set i o := by
      obtain ⟨l, h1, h2⟩ := det_setK ob i o (fun l => l = ob.set i o) (by
        have := setK_of (l := ob) (x := o) hlt
        exact this)
      exact h2 _ h1
    exact setK_hide (K := fun l => l = ob.set i o) hik (fun l hl' => by
      subst hl'
      exact back_hide (by simpa using hl) (fun hr => hk (by simp [hr])) hK h) h2
  | _ :: _, [], _, _, _, _, _, _, h => h.elim

theorem map_hide {f : VObj → VObj} (hf : f .none = .none) : (ob.set k .none).map f = (ob.map f).set k .none := by
  rw [List.map_set, hf]

theorem untok_ptrs {v : V} (h : k ∉ ptrs v) : k ∉ ptrs v.untok := by
  unfold V.untok
  split
  · simp [ptrs]
  · exact h

theorem evs_clean (ht : Clean k t) : ∀ {l : List Operand} {K : List V → Prop}, evs t l K → ∃ vs, (∀ v ∈ vs, k ∉ ptrs v) ∧ K vs ∧ ∀ K' : List V → Prop, K' vs → evs t l K'
  | [], K, h => ⟨[], by simp, h, fun _ h => h⟩
  | x :: r, K, h => by
    obtain ⟨v, h1, h2, h3⟩ := ev_clean ht h
    obtain ⟨vs, h4, h5, h6⟩ := evs_clean ht h2
    refine ⟨v :: vs, fun u hu => ?_, h5, fun K' h => h3 _ (h6 _ h)⟩
    cases hu with
    | head => exact h1
    | tail _ hu => exact h4 u hu

theorem ptrsL_clean : ∀ {l : List V}, (∀ v ∈ l, k ∉ ptrs v) → k ∉ ptrsL l
  | [], _ => by simp [ptrsL]
  | x :: r, h => by
    simp only [ptrsL, List.mem_append, not_or]
    exact ⟨h x (by simp), ptrsL_clean fun v hv => h v (by simp [hv])⟩

theorem of_ptrsL {l : List V} (h : k ∉ ptrsL l) : ∀ v ∈ l, k ∉ ptrs v := fun v hv hk => by
  obtain ⟨i, hi⟩ := List.mem_iff_getElem?.1 hv
  exact h (ptrsL_get hi hk)

theorem src_hide {P : Program} {e : TypeId} {ts : Array TypeId} {v : V} {K : List V → Prop} (hv : k ∉ ptrs v) (h : srcK P e ts ob v K) : srcK P e ts (ob.set k .none) v K := by
  unfold srcK at h ⊢
  split at h
  · exact h
  · exact h
  · exact h
  · exact getK_hide (by simpa [ptrs, eq_comm] using hv) h
  · exact h

theorem appendNew_hide {P : Program} {e : TypeId} {m : List V} {K K' : V → St → Prop} (hk : k < ob.length) (hK : ∀ v t ob nt df, K v ⟨t, ob, nt, df⟩ → K' v ⟨t, ob.set k .none, nt, df⟩) (h : appendNewK P e m ⟨t, ob, nt, df⟩ K) : appendNewK P e m ⟨t, ob.set k .none, nt, df⟩ K' := by
  unfold appendNewK at h ⊢
  refine (det_szK P e).mono (fun z h => ?_) h
  split at h
  · split at h
    · obtain ⟨a, b, h⟩ := h
      exact ⟨a, b, fun sp c d => snocK_hide hk (fun i l h => hK _ _ _ _ _ h) (h sp c d)⟩
    · exact h.elim
  · exact h.elim

theorem append_hide {P : Program} {e : TypeId} {l : List V} {r : Room} {m : List V} {K K' : V → St → Prop} (hK : ∀ v t ob nt df, K v ⟨t, ob, nt, df⟩ → K' v ⟨t, ob.set k .none, nt, df⟩) (h : appendK P e l r m ⟨t, ob, nt, df⟩ K) : appendK P e l r m ⟨t, ob.set k .none, nt, df⟩ K' := by
  unfold appendK at h ⊢
  refine (det_szK P e).mono (fun z h => ?_) h
  split at h
  · split at h
    · obtain ⟨a, b, h⟩ := h
      refine ⟨a, b, ?_⟩
      cases r with
      | no => exact h
      | ex => exact ⟨h.1, hK _ _ _ _ _ h.2⟩
      | tok i sz =>
        simp only at h ⊢
        split at h
        · refine strips_of ?_
          have := strips_iff h
          rw [map_hide rfl]
          exact hK _ _ _ _ _ this
        · exact h.elim
    · exact h.elim
  · exact h.elim

theorem appendBuf_hide {P : Program} {e : TypeId} {o z lo n c : Nat} {m : List V} {K K' : V → St → Prop} (hk : k < ob.length) (ho : o ≠ k) (hK : ∀ v t ob nt df, K v ⟨t, ob, nt, df⟩ → K' v ⟨t, ob.set k .none, nt, df⟩) (h : appendBufK P e o z lo n c m ⟨t, ob, nt, df⟩ K) : appendBufK P e o z lo n c m ⟨t, ob.set k .none, nt, df⟩ K' := by
  unfold appendBufK at h ⊢
  refine (det_szK P e).mono (fun z' h => ?_) h
  split at h
  · split at h
    · obtain ⟨a, b, h⟩ := h
      refine ⟨a, b, getK_hide ho ?_⟩
      refine (det_getK ob o).mono (fun x h => ?_) h
      split at h
      · split at h
        · cases hb : Nat.ble (n + m.length) c with
          | true =>
            rw [hb] at h
            obtain ⟨c1, h⟩ := h
            exact ⟨c1, setK_hide ho (fun l h => hK _ _ _ _ _ h) h⟩
          | false =>
            rw [hb] at h
            obtain ⟨c1, h⟩ := h
            exact ⟨c1, fun sp hsp => snocK_hide hk (fun i l h => hK _ _ _ _ _ h) (h sp hsp)⟩
        · exact h.elim
      · exact h.elim
    · exact h.elim
  · exact h.elim

/-- what an operation does hangs not on an object that nothing names -/
theorem vop_obs (S : Sys) (hm : CallMono S) (hk : k < ob.length) (ht : Clean k t) (hob : ∀ (j : Nat) x, j ≠ k → ob[j]? = some x → k ∉ ptrsO x) {o : Oper} {K K' : V → St → Prop} (hKK : ∀ v s, K v s → K' v (hideS k s)) (h : vop S o ⟨t, ob, nt, df⟩ K fun _ _ => False) :
    vop S o ⟨t, ob.set k .none, nt, df⟩ K' fun _ _ => False := by
  have hK : ∀ v t ob nt df, K v ⟨t, ob, nt, df⟩ → K' v ⟨t, ob.set k .none, nt, df⟩ := fun v t ob nt df h => hKK v _ h
  have hflo : (vflo S o t ob fun v => K v ⟨t, ob, nt, df⟩) → vflo S o t (ob.set k .none) fun v => K' v ⟨t, ob.set k .none, nt, df⟩ := fun h => by
    have h := vflo_obs S ht h
    exact (det_vflo S o t _).mono (fun v h => hK _ _ _ _ _ h) h
  have hne : ∀ {i : Nat} {v : V}, k ∉ ptrs v → i ∈ ptrs v → i ≠ k := fun hv hi e => hv (e ▸ hi)
  unfold vop at h ⊢
  simp only at h ⊢
  split at h
  next T ho =>
    refine (det_zeroV _ _).mono (fun z h => ?_) h
    split at h
    next =>
      split at h
      next => exact snocK_hide hk (fun n l h => hK _ _ _ _ _ h) h
      next => exact snocK_hide hk (fun n l h => hK _ _ _ _ _ h) h
    next => exact h.elim
  next T x ho =>
    refine (det_ev _ _).mono (fun v h => ?_) h
    refine (det_untok _).mono (fun v h => ?_) h
    split at h
    next => exact snocK_hide hk (fun n l h => hK _ _ _ _ _ h) h
    next => exact h.elim
  next T x y ho =>
    obtain ⟨p, hp, h', h2⟩ := ev_clean ht h
    clear h
    refine h2 _ ?_
    clear h2
    refine (det_ev _ _).mono (fun v h3 => ?_) h'
    clear h'
    refine (det_force _).mono (fun v h4 => ?_) h3
    clear h3
    split at h4
    next i off =>
      have hik := hne (i := i) hp (by simp [ptrs])
      refine getK_hide hik ?_
      refine (det_getK ob _).mono (fun x1 h => ?_) h4
      split at h
      next =>
        split at h
        next => exact (det_spliceK _ _ _).mono (fun cs h => setK_hide hik (fun l h => hK _ _ _ _ _ h) h) h
        next => exact h.elim
      next => exact h.elim
    next o1 z i off =>
      have hik := hne (i := o1) hp (by simp [ptrs])
      refine (det_untok _).mono (fun v h5 => ?_) h4
      refine getK_hide hik ?_
      refine (det_getK ob _).mono (fun x1 h => ?_) h5
      split at h
      next =>
        split at h
        next =>
          obtain ⟨y, hy, h⟩ := h
          exact ⟨y, hy, (det_spliceK _ _ _).mono (fun cs h => setK_hide hik (fun l h => hK _ _ _ _ _ h) h) h⟩
        next => exact h.elim
      next => exact h.elim
    next => exact h4.elim
  next T len cap ho =>
    refine (det_ev _ _).mono (fun x h1 => ?_) h
    refine (det_ev _ _).mono (fun y h2 => ?_) h1
    unfold vmakeSlice at h2 ⊢
    simp only at h2 ⊢
    split at h2
    · refine (det_szK _ _).mono (fun z' h => ?_) h2
      split at h
      · split at h
        · obtain ⟨a, b, c, d, h⟩ := h
          exact ⟨a, b, c, d, snocK_hide hk (fun i l h => hK _ _ _ _ _ h) h⟩
        · exact h.elim
      · exact h.elim
    · exact h2.elim
  next T ho =>
    split at h
    next => exact snocK_hide hk (fun n l h => hK _ _ _ _ _ h) h
    next => exact h.elim
  next T x k1 v ho =>
    obtain ⟨p, hp, h1, h2⟩ := ev_clean ht h
    refine h2 _ ?_
    clear h h2
    refine (det_ev _ _).mono (fun y h3 => ?_) h1
    refine (det_ev _ _).mono (fun z h4 => ?_) h3
    unfold vmapUpdate at h4 ⊢
    simp only at h4 ⊢
    split at h4
    · rename_i o1 _
      have hik := hne (i := o1) hp (by simp [ptrs])
      refine (det_untok _).mono (fun v h => ?_) h4
      split at h
      · refine getK_hide hik ?_
        refine (det_getK ob _).mono (fun x h => ?_) h
        split at h
        · exact ⟨h.1, setK_hide hik (fun l h => hK _ _ _ _ _ h) h.2⟩
        · exact h.elim
      · exact h.elim
    · exact h4.elim
  next op T x y U ho =>
    split at h
    next hy => exact (det_ev _ _).mono (fun x h => up_nilSl (fun v h => hK _ _ _ _ _ h) h) h
    next => exact hflo h
  next T n parts ho =>
    split at h
    next =>
      unfold vbuildMu at h ⊢
      refine (det_partsK _ _).mono (fun ps h => ?_) h
      split at h
      · split at h
        · refine (det_szK _ _).mono (fun z h => ?_) h
          split at h
          · split at h
            · split at h
              · exact snocK_hide hk (fun i l h => hK _ _ _ _ _ h) h
              · exact h.elim
            · exact h.elim
          · exact h.elim
        · exact h.elim
      · exact h.elim
    next => exact hflo h
  next T x lo hi mx ho =>
    obtain ⟨p, hp, h1, h2⟩ := ev_clean ht h
    refine h2 _ ?_
    clear h h2
    split at h1
    · rename_i i
      have hik := hne (i := i) hp (by simp [ptrs])
      cases hu : S.P.underlying T with
      | none => simp only [hu] at h1
      | some d =>
        cases d <;> simp only [hu] at h1 ⊢
        cases mx with
        | some _ => exact h1.elim
        | none =>
          refine getK_hide hik ?_
          refine (det_getK ob _).mono (fun x1 h => ?_) h1
          cases x1 with
          | cells wr U cs =>
            simp only at h ⊢
            split at h
            next hc => exact setK_hide hik (fun l h => hK _ _ _ _ _ h) h
            next => exact h.elim
          | buf mv z l =>
            simp only at h ⊢
            refine (det_szK _ _).mono (fun z' h => ?_) h
            refine (det_optK _ _).mono (fun l1 h => ?_) h
            refine (det_optK _ _).mono (fun h1 h => ?_) h
            split at h
            next => exact hK _ _ _ _ _ h
            next => exact ⟨h.1, h.2.1, hK _ _ _ _ _ h.2.2⟩
            next => exact ⟨h.1, h.2.1, hK _ _ _ _ _ h.2.2⟩
            next => exact ⟨h.1, h.2.1, h.2.2.1, hK _ _ _ _ _ h.2.2.2⟩
            next => exact h.elim
          | _ => exact h.elim
    · exact hflo h1
  next c ho =>
    split at h
    next f hc =>
      obtain ⟨fv, hfv, h1, h2⟩ := ev_clean ht h
      refine h2 _ ?_
      clear h h2
      obtain ⟨args, hargs, h3, h4⟩ := evs_clean ht h1
      refine h4 _ ?_
      clear h1 h4
      cases fv with
      | fn f first cap =>
        cases f with
        | func g =>
          simp only [vcall] at h3 ⊢
          have h5 := mapK_untok h3
          have hcl : k ∉ ptrsL ((first ++ args ++ cap).map V.untok) := by
            simp only [ptrs, List.mem_append, not_or] at hfv
            refine ptrsL_clean fun v hv => ?_
            obtain ⟨u, hu, rfl⟩ := List.mem_map.1 hv
            refine untok_ptrs ?_
            rcases List.mem_append.1 hu with hu | hu
            · rcases List.mem_append.1 hu with hu | hu
              · exact of_ptrsL hfv.1 u hu
              · exact hargs u hu
            · exact of_ptrsL hfv.2 u hu
          have hun : ∀ (l : List V) (K : List V → Prop), K (l.map V.untok) → mapK V.untokK l K := fun l => by
            induction l with
            | nil => intro K h; exact h
            | cons x r ih =>
              intro K h
              show x.untokK _
              simp only [V.untokK, force_eq]
              exact ih _ h
          refine hun _ _ ?_
          obtain ⟨hr1, hr2⟩ := reach_hide hob 64 _ [] hcl (by simp)
          rw [hr1]
          have hl1 : ∀ (l : List Nat) (K : List Nat → Prop), listK l K → K l := fun l => by
            induction l with
            | nil => intro K h; exact h
            | cons x r ih =>
              intro K h
              have h : natK x fun i => listK r fun r => K (i :: r) := h
              cases x <;> exact ih _ h
          have hl2 : ∀ (l : List Nat) (K : List Nat → Prop), K l → listK l K := fun l => by
            induction l with
            | nil => intro K h; exact h
            | cons x r ih =>
              intro K h
              show natK x fun i => listK r fun r => K (i :: r)
              cases x <;> exact ih _ h
          have h6 := hl1 _ _ h5
          refine hl2 _ _ ?_
          clear h5 h3
          generalize reach ob 64 (ptrsL ((first ++ args ++ cap).map V.untok)) [] = idx at h6 hr2
          rw [shut_hide hr2]
          split at h6
          next => exact h6.elim
          next hck =>
            refine gets_hide hr2 ?_
            refine (det_getsK _ _ _).mono (fun sub h => ?_) h6
            refine (det_insK _).mono (fun sub h => ?_) h
            refine (det_mapK (det_renP _) _).mono (fun as h => ?_) h
            refine hm _ _ _ _ _ (fun out sub' h => ?_) h
            rw [List.length_set]
            refine (det_movedK _ _).mono (fun ms h => ?_) h
            obtain ⟨hd, h⟩ := forgetK_iff h
            refine forgetK_of hd ?_
            rw [map_hide rfl]
            refine back_hide (by simpa using hk) hr2 (fun l h => ?_) h
            cases out with
            | ret v => exact (det_renP _ _).mono (fun v h => hK _ _ _ _ _ h) h
            | pan v => exact (det_renP _ _).mono (fun v h => h.elim) h
        | _ => exact h3.elim
      | _ => exact h3.elim
    next hc =>
      obtain ⟨args, hargs, h1, h2⟩ := evs_clean ht h
      refine h2 _ ?_
      clear h h2
      have hK' := hK
      unfold vappend at h1 ⊢
      split at h1
      · rename_i e b v _
        have hb := hargs b (by simp)
        have hv := hargs v (by simp)
        split at h1
        · refine src_hide hv ((det_srcK _ _ _ _ _).mono (fun u h => ?_) h1)
          split at h
          · split at h
            · exact appendNew_hide hk hK' h
            · exact append_hide hK' h
          · rename_i o1 z lo n cp
            exact appendBuf_hide hk (hne (i := o1) hb (by simp [ptrs])) hK' h
          · exact h.elim
        · split at h1
          · rename_i o1 z lo n cp _ _ _ _
            split at h1
            · exact ⟨h1.1, h1.2.1, appendBuf_hide hk (hne (i := o1) hb (by simp [ptrs])) hK' h1.2.2⟩
            · exact h1.elim
          · exact h1.elim
      · exact h1.elim
    next hc =>
      obtain ⟨args, hargs, h1, h2⟩ := evs_clean ht h
      refine h2 _ ?_
      clear h h2
      unfold vcopy at h1 ⊢
      simp only at h1 ⊢
      split at h1
      · rename_i e o1 z lo n cp v _
        have hik := hne (i := o1) (hargs (.slo o1 z lo n cp) (by simp)) (by simp [ptrs])
        refine src_hide (hargs v (by simp)) ((det_srcK _ _ _ _ _).mono (fun m h => ?_) h1)
        refine (det_szK _ _).mono (fun z' h => ?_) h
        split at h
        · obtain ⟨a, h⟩ := h
          refine ⟨a, getK_hide hik ((det_getK ob _).mono (fun x h => ?_) h)⟩
          split at h
          · split at h
            · exact ⟨h.1, setK_hide hik (fun l h => hK _ _ _ _ _ h) h.2⟩
            · exact h.elim
          · exact h.elim
        · exact h.elim
      · exact h1.elim
    next hc =>
      obtain ⟨args, hargs, h1, h2⟩ := evs_clean ht h
      refine h2 _ ?_
      clear h h2
      unfold vunsafeString at h1 ⊢
      simp only at h1 ⊢
      split at h1
      · rename_i e o1 z n _
        have hik := hne (i := o1) (hargs (.bp o1 z 0 0) (by simp)) (by simp [ptrs])
        refine getK_hide hik ((det_getK ob _).mono (fun x h => ?_) h1)
        split at h
        · split at h
          · obtain ⟨a, b, c, bs, d, h⟩ := h
            refine ⟨a, b, c, bs, d, ?_⟩
            generalize Nat.beq _ 0 = b0 at h ⊢
            cases b0 with
            | true => exact hK _ _ _ _ _ h
            | false => exact setK_hide hik (fun l h => hK _ _ _ _ _ h) h
          · exact h.elim
        · exact h.elim
      · exact h1.elim
    next => exact hflo h
    next => exact h.elim
  next c ho =>
    split at h
    next f hc =>
      refine (det_ev _ _).mono (fun f h => ?_) h
      refine (det_evs _ _).mono (fun args h => ?_) h
      split at h
      next =>
        refine (det_mapK det_untok _).mono (fun a h => ?_) h
        exact (det_mapK det_untok _).mono (fun b h => hK _ _ _ _ _ h) h
      next => exact h.elim
    next => exact h.elim
  next x ho => exact h
  next => exact hflo h

end
end VL

namespace VL
open Go
set_option linter.unusedVariables false
set_option linter.unusedSimpArgs false

def gOn (all : List Oper) (o : Oper) (t : List V) : Option Bool :=
  match o.guard with
  | none => some true
  | some (j, want) => match (all[j]?).bind (·.dst) with
    | some d => match t[d]? with
      | some (.bool b) => some (b == want)
      | some .undef => none
      | some _ => some false
      | none => none
    | none => none

theorem set_same {t : List V} {d : Nat} {v : V} (h : t[d]? = some v) : t.set d v = t := by
  apply List.ext_getElem?
  intro k
  rw [List.getElem?_set]
  split
  · rename_i e; subst e
    split
    · exact h.symm
    · rename_i hlt; rw [List.getElem?_eq_none (by omega)]
  · rfl

theorem guardK_iff {all : List Oper} {o : Oper} {t : List V} {KT KF : List V → Prop} (h : guardK all o t KT KF) : (gOn all o t = some true ∧ KT t) ∨ (gOn all o t = some false ∧ KF t) := by
  unfold guardK at h
  unfold gOn
  cases hg : o.guard with
  | none => rw [hg] at h; exact .inl ⟨rfl, h⟩
  | some jw =>
    obtain ⟨j, want⟩ := jw
    rw [hg] at h
    simp only at h ⊢
    cases hj : (all[j]?).bind (·.dst) with
    | none => rw [hj] at h; exact h.elim
    | some d =>
      rw [hj] at h
      simp only at h ⊢
      obtain ⟨v, h1, h2⟩ := getK_iff h
      rw [h1]
      split at h2
      · rename_i b
        rcases bif_elim h2 with ⟨rfl, h2⟩ | ⟨rfl, h2⟩
        · obtain ⟨_, h2⟩ := setK_iff h2
          rw [set_same h1] at h2
          cases want
          · exact .inr ⟨rfl, h2⟩
          · exact .inl ⟨rfl, h2⟩
        · obtain ⟨_, h2⟩ := setK_iff h2
          rw [set_same h1] at h2
          cases want
          · exact .inl ⟨rfl, h2⟩
          · exact .inr ⟨rfl, h2⟩
      · exact h2.elim
      · rename_i hn1 hn2
        refine .inr ⟨?_, h2⟩
        cases v <;> first | rfl | exact absurd rfl (hn1 _) | exact absurd rfl hn2

/-- operation m, were it to come now, would yield what stands in its slot -/
def FOK (S : Sys) (all : List Oper) (m : Nat) (t : List V) (ob : List VObj) : Prop :=
  ∃ o u, all[m]? = some o ∧ (∀ d, o.dst = some d → t[d]? = some u) ∧ ((gOn all o t = some true ∧ vflo S o t ob fun v => v = u) ∨ (gOn all o t = some false ∧ u = .tup []))

theorem looks_ev {all : List Oper} {o : Oper} {t t' : List V} (h : ∀ d ∈ looks all o, t[d]? = t'[d]?) : ∀ x ∈ o.op.operands.toList, ev t x = ev t' x := by
  intro x hx
  funext K
  cases x with
  | tmp d => simp only [ev, getK_eq, h d (List.mem_append_left _ (List.mem_filterMap.2 ⟨.tmp d, hx, rfl⟩))]
  | _ => rfl

theorem looks_gOn {all : List Oper} {o : Oper} {t t' : List V} (h : ∀ d ∈ looks all o, t[d]? = t'[d]?) : gOn all o t = gOn all o t' := by
  unfold gOn
  cases hg : o.guard with
  | none => rfl
  | some jw =>
    obtain ⟨j, want⟩ := jw
    simp only
    cases hj : (all[j]?).bind (·.dst) with
    | none => rfl
    | some d => simp only [h d (List.mem_append_right _ (by simp [hg, hj]))]

theorem FOK.congr {S : Sys} {all : List Oper} {m : Nat} {t t' : List V} {ob : List VObj} {o : Oper} (ho : all[m]? = some o) (h : FOK S all m t ob) (h1 : ∀ d ∈ looks all o, t[d]? = t'[d]?) (h2 : ∀ d, o.dst = some d → t[d]? = t'[d]?) : FOK S all m t' ob := by
  obtain ⟨o', u, e, a1, a2⟩ := h
  have : o' = o := by rw [ho] at e; exact (Option.some.inj e).symm
  subst this
  exact ⟨o', u, ho, fun d hd => by rw [← h2 d hd]; exact a1 d hd, by rw [← looks_gOn h1, ← vflo_congr S ob (looks_ev h1)]; exact a2⟩

theorem isSlot_iff {o : Option Tmp} {t : List V} {v : V} {k : Prop} (h : isSlot o t v k) : (∀ d, o = some d → t[d]? = some v) ∧ k := by
  cases o with
  | none => exact ⟨by simp, h⟩
  | some d =>
    obtain ⟨u, h1, rfl, h2⟩ := getK_iff h
    exact ⟨fun d' e => by cases e; exact h1, h2⟩

/-- alloc m, were it to come now, would make what stands there; nothing names it but what hangs on it -/
def AOK (S : Sys) (all : List Oper) (done : List Nat) (m : Nat) (t : List V) (ob : List VObj) (df : List (Fn × List V × List V)) : Prop :=
  ∃ o T d j i cz, all[m]? = some o ∧ o.op = .alloc T ∧ o.dst = some d ∧ t[d]? = some (.ptr j 0) ∧ S.P.info? T = some i ∧ i.zero = some cz ∧ ob[j]? = some (.cells true T (ofConstAgg cz).cells) ∧ allClean all (ancs all []) done m j t ob df = true

def isAlAt (all : List Oper) (m : Nat) : Bool := match all[m]? with | some o => isAl o | none => false

theorem recheck_iff {S : Sys} {all : List Oper} {n : Nat} {t0 : List V} {done0 : List Nat} {t : List V} {ob : List VObj} {df : List (Fn × List V × List V)} {k : Prop} : ∀ {done : List Nat}, recheck S all (ancs all []) n t0 done0 done t ob df k →
    k ∧ ∀ m ∈ done, isAnc (ancs all []) n m = false → (isAlAt all m = true → AOK S all done0 m t ob df ∧ ∀ o d, all[m]? = some o → o.dst = some d → t[d]? = t0[d]?) ∧ (isAlAt all m = false → FOK S all m t ob)
  | [], h => ⟨h, by simp⟩
  | m :: r, h => by
    unfold recheck at h
    split at h
    · rename_i ha
      obtain ⟨h1, h2⟩ := recheck_iff (done := r) h
      refine ⟨h1, fun j hj hn => ?_⟩
      cases hj with
      | head => rw [ha] at hn; cases hn
      | tail _ hj => exact h2 j hj hn
    · split at h
      case h_2 => exact h.elim
      rename_i o ho
      have key : k ∧ (∀ m ∈ r, isAnc (ancs all []) n m = false → (isAlAt all m = true → AOK S all done0 m t ob df ∧ ∀ o d, all[m]? = some o → o.dst = some d → t[d]? = t0[d]?) ∧ (isAlAt all m = false → FOK S all m t ob)) ∧ (isAlAt all m = true → AOK S all done0 m t ob df ∧ ∀ o d, all[m]? = some o → o.dst = some d → t[d]? = t0[d]?) ∧ (isAlAt all m = false → FOK S all m t ob) := by
        split at h
        · rename_i hal
          have hal' : isAlAt all m = true := by unfold isAlAt; rw [ho]; exact hal
          split at h
          case h_2 => exact h.elim
          rename_i T d hop hdst
          obtain ⟨p, hp, h⟩ := getK_iff h
          obtain ⟨q, hq, h⟩ := getK_iff h
          split at h
          case h_2 => exact h.elim
          rename_i j j0
          obtain ⟨x, hx, h⟩ := getK_iff h
          obtain ⟨i, cz, hi, hz, h9⟩ := zeroV_iff h
          clear h
          split at h9
          case h_2 => exact h9.elim
          rename_i hcl
          rw [Bool.and_eq_true] at hcl
          obtain ⟨hjj, hcl⟩ := hcl
          have hjj := Nat.eq_of_beq_eq_true hjj
          subst hjj
          obtain ⟨rfl, h8⟩ := h9
          obtain ⟨h3, h4⟩ := recheck_iff (done := r) h8
          refine ⟨h3, h4, fun _ => ⟨⟨o, T, d, _, i, cz, ho, hop, hdst, hp, hi, hz, hx, hcl⟩, fun o' d' e1 e2 => ?_⟩, (fun hf => by rw [hal'] at hf; cases hf)⟩
          rw [ho] at e1; cases e1
          rw [hdst] at e2; cases e2
          rw [hp, hq]
        · rename_i hal
          have hal' : isAlAt all m = false := by unfold isAlAt; rw [ho]; exact hal
          rcases guardK_iff h with ⟨hg, h⟩ | ⟨hg, h⟩
          · obtain ⟨v, hv, h2⟩ := det_vflo S o t ob _ h
            obtain ⟨h0, h1⟩ := isSlot_iff hv
            obtain ⟨h3, h4⟩ := recheck_iff (done := r) h1
            exact ⟨h3, h4, (fun hf => by rw [hal'] at hf; cases hf), fun _ => ⟨o, v, ho, h0, .inl ⟨hg, h2 _ rfl⟩⟩⟩
          · obtain ⟨h0, h1⟩ := isSlot_iff h
            obtain ⟨h3, h4⟩ := recheck_iff (done := r) h1
            exact ⟨h3, h4, (fun hf => by rw [hal'] at hf; cases hf), fun _ => ⟨o, .tup [], ho, h0, .inr ⟨hg, rfl⟩⟩⟩
      refine ⟨key.1, fun j hj hn => ?_⟩
      cases hj with
      | head => exact key.2.2
      | tail _ hj => exact key.2.1 j hj hn

/-- the slots of what is still to come -/
def slotIn (all : List Oper) (U : List Nat) (d : Nat) : Bool := U.any fun i => decide ((all[i]?).bind (·.dst) = some d)

theorem slotIn_iff {all : List Oper} {U : List Nat} {d : Nat} : slotIn all U d = true ↔ ∃ i ∈ U, ∃ o, all[i]? = some o ∧ o.dst = some d := by
  simp [slotIn, List.any_eq_true, Option.bind_eq_some_iff]

end VL

namespace VL
open Go
set_option linter.unusedVariables false
set_option linter.unusedSimpArgs false

mutual
theorem renV_id : ∀ v : V, ren (fun o => o) v = v
  | .slp l => by simp [ren, renVL_id l]
  | .dp l => by simp [ren, renVL_id l]
  | .fn g a b => by simp [ren, renVL_id a, renVL_id b]
  | .ifc t v => by simp [ren, renV_id v]
  | .agg l => by simp [ren, renVL_id l]
  | .tup l => by simp [ren, renVL_id l]
  | .ptr _ _ => rfl
  | .mp _ => rfl
  | .slo .. => rfl
  | .bp .. => rfl
  | .undef => rfl
  | .int _ _ => rfl
  | .bool _ => rfl
  | .str _ => rfl
  | .nilp => rfl
  | .sl _ _ => rfl
  | .spare _ _ => rfl
  | .niln => rfl
  | .nili => rfl
  | .nilm => rfl
theorem renVL_id : ∀ l : List V, renL (fun o => o) l = l
  | [] => rfl
  | v :: r => by simp [renL, renV_id v, renVL_id r]
end

theorem VRel.reb {bs bs' : Nat → Nat} {I : Nat → Nat → Prop} {w : World} {n : Nat} {v : V} {c : Value} (h : VRel bs I w n v c) (hb : ∀ o ∈ ptrs v, o < n → bs' o = bs o) : VRel bs' I w n v c := by
  have := VRel.ren (f := fun o => o) (n' := n) (bs' := bs') h fun o ho hn => ⟨hn, hb o ho hn⟩
  rwa [renV_id] at this

/-- the object's block is laid -/
def G.lay (g : G) (j b : Nat) : G := { g with bs := fun i => if i = j then b else g.bs i }

section
variable {c : Ctx} {g : G} {w : World} {ob : List VObj} {nt : Nat}

theorem VT.lay {n j b : Nat} {o : Obj} {v : V} {x : Value} (hI : ∀ b k, g.I b k → b < w.heap.size) (h : VT g w n nt v x) (hv : j ∉ ptrs v) : VT (g.lay j b) (w.alloc o) n nt v x := by
  refine ⟨?_, h.tok⟩
  have h1 : VRel (g.lay j b).bs g.I w n v x := h.rel.reb fun o ho _ => by
    show (if o = j then b else g.bs o) = g.bs o
    rw [if_neg (fun (e : o = j) => hv (e ▸ ho))]
  exact h1.mono (fun o ho => ⟨ho, rfl⟩) fun b k hb => ⟨hb, by
    have := hI b k hb
    simp only [World.cell?]
    rw [heap_alloc_lt _ _ this]⟩

/-- an object without a block gets a new one: nothing names it -/
theorem WInv.lay {j : Nat} {o : Obj} {x : VObj} (h : WInv c g w ob nt) (hj : ob[j]? = some .none) (hc : c.n0 ≤ j) (hob : ∀ (i : Nat) y, ob[i]? = some y → j ∉ ptrsO y)
    (hx : ORel (g.lay j w.heap.size) (w.alloc o) ob.length nt w.heap.size x) : WInv c (g.lay j w.heap.size) (w.alloc o) (ob.set j x) nt := by
  have hjl := (List.getElem?_eq_some_iff.1 hj).1
  have hI := h.i3
  have hbs : ∀ i, i ≠ j → (g.lay j w.heap.size).bs i = g.bs i := fun i hi => by simp [G.lay, hi]
  have hbj : (g.lay j w.heap.size).bs j = w.heap.size := by simp [G.lay]
  have hcell : ∀ b k, g.I b k → (w.alloc o).cell? ⟨b, k, none⟩ = w.cell? ⟨b, k, none⟩ := fun b k hb => by
    simp only [World.cell?]; rw [heap_alloc_lt _ _ (hI b k hb)]
  have h0 : ∀ {v : V} {c : Value}, VRel g.bs g.I w 0 v c → VRel (g.lay j w.heap.size).bs (g.lay j w.heap.size).I (w.alloc o) 0 v c := fun hv => hv.mono (fun o ho => absurd ho (by omega)) fun b k hb => ⟨hb, hcell b k hb⟩
  have hor : ∀ (i : Nat) y, i ≠ j → ob[i]? = some y → ORel (g.lay j w.heap.size) (w.alloc o) ob.length nt (g.bs i) y := fun i y hi hy => by
    have ho := h.obj i y hy
    cases y with
    | none => trivial
    | cells wr T cs =>
      obtain ⟨arr, a1, a2, a3⟩ := ho
      refine ⟨arr, by rw [heap_alloc_lt _ _ (h.lt i _ hy rfl)]; exact a1, a2, fun k v c hv hc => ⟨(a3 k v c hv hc).1.lay hI fun hm => hob i _ hy (ptrsL_get hv hm), (a3 k v c hv hc).2⟩⟩
    | map es =>
      obtain ⟨arr, clk, a1, a2, a3⟩ := ho
      exact ⟨arr, clk, by rw [heap_alloc_lt _ _ (h.lt i _ hy rfl)]; exact a1, a2, fun k e c he hc => ⟨h0 (a3 k e c he hc).1, h0 (a3 k e c he hc).2⟩⟩
    | buf m z l =>
      rcases ho with ho | ⟨arr, T, a1, aty, a2, a3, a4⟩
      · exact .inl ho
      · by_cases hl : l = []
        · exact .inl hl
        · exact .inr ⟨arr, T, by rw [heap_alloc_lt _ _ (h.lt i _ hy (by simp [VObj.real, hl]))]; exact a1, aty, a2, a3, fun k v c he hc => ⟨h0 (a4 k v c he hc).1, (a4 k v c he hc).2⟩⟩
  refine ⟨h.os, h.tape, h.output, ?_, ?_, by simp [h.len], ?_, ?_, ?_, ?_, ?_, h.i1, h.i2, ?_, ?_, ?_, ?_, h.f2, fun b k hI' => by rw [hcell b k (h.i1 b k hI')]; exact h.i6 b k hI'⟩
  · have := h.size; simp; omega
  · intro b hb hw; rw [heap_alloc_lt _ _ (by have := h.size; omega)]; exact h.keep b hb hw
  · intro i y hy
    rw [List.length_set]
    rcases set_get hy with ⟨rfl, rfl⟩ | ⟨hne, hy⟩
    · rw [hbj]; exact hx
    · rw [hbs i (Ne.symm hne)]; exact hor i y (Ne.symm hne) hy
  · intro i y hy hr
    rcases set_get hy with ⟨rfl, rfl⟩ | ⟨hne, hy⟩
    · rw [hbj]; simp
    · rw [hbs i (Ne.symm hne)]; have := h.lt i y hy hr; simp; omega
  · intro i i' y z hy hz hr hr'
    rcases set_get hy with ⟨e1, e1'⟩ | ⟨hne, hy⟩ <;> rcases set_get hz with ⟨e2, e2'⟩ | ⟨hne', hz⟩
    · intro _; rw [← e1, ← e2]
    · rw [← e1, hbj, hbs i' (Ne.symm hne')]; have := h.lt i' z hz hr'; intro e; omega
    · rw [← e2, hbj, hbs i (Ne.symm hne)]; have := h.lt i y hy hr; intro e; omega
    · rw [hbs i (Ne.symm hne), hbs i' (Ne.symm hne')]; exact h.inj i i' y z hy hz hr hr'
  · intro i y hi hy hm
    rcases set_get hy with ⟨e1, _⟩ | ⟨hne, hy⟩
    · omega
    · rw [hbs i (Ne.symm hne)]; exact h.old i y hi hy hm
  · intro i y hy hr
    rcases set_get hy with ⟨e1, _⟩ | ⟨hne, hy⟩
    · rw [← e1, hbj]; exact .inl h.size
    · rw [hbs i (Ne.symm hne)]; exact h.new i y hy hr
  · intro b k hb; have := hI b k hb; simp; omega
  · intro i T cs k hy hb
    rcases set_get hy with ⟨e1, _⟩ | ⟨hne, hy⟩
    · rw [← e1, hbj] at hb; have := hI _ _ hb; omega
    · rw [hbs i (Ne.symm hne)] at hb; exact h.i4 i T cs k hy hb
  · intro i y k hy hl hb
    rcases set_get hy with ⟨e1, _⟩ | ⟨hne, hy⟩
    · rw [← e1, hbj] at hb; have := hI _ _ hb; omega
    · rw [hbs i (Ne.symm hne)] at hb; exact h.i5 i y k hy hl hb
  · intro i hi hn
    obtain ⟨f1, ⟨arr0, U, f2, f2'⟩, f3, f4⟩ := h.f1 i hi hn
    have hlt : (g.fam i).blk < w.heap.size := by
      rcases Nat.lt_or_ge (g.fam i).blk w.heap.size with h | h
      · exact h
      · rw [Array.getElem?_eq_none h] at f2; cases f2
    refine ⟨f1, ⟨arr0, U, by show (w.alloc o).heap[(g.fam i).blk]? = _; rw [heap_alloc_lt _ _ hlt]; exact f2, f2'⟩, f3, fun o' y hy hr => ?_⟩
    show (g.lay j w.heap.size).bs o' ≠ (g.fam i).blk
    rcases set_get hy with ⟨e1, _⟩ | ⟨hne, hy⟩
    · rw [← e1, hbj]; omega
    · rw [hbs o' (Ne.symm hne)]; exact f4 o' y hy hr

end
end VL

namespace VL
open Go
set_option linter.unusedVariables false
set_option linter.unusedSimpArgs false

def hideObs : List Nat → List VObj → List VObj
  | [], ob => ob
  | k :: r, ob => hideObs r (ob.set k .none)

def hidesS (ks : List Nat) : St → St
  | ⟨t, ob, nt, df⟩ => ⟨t, hideObs ks ob, nt, df⟩

theorem hideObs_length : ∀ (ks : List Nat) (ob : List VObj), (hideObs ks ob).length = ob.length
  | [], _ => rfl
  | k :: r, ob => by simp [hideObs, hideObs_length r]

theorem hideObs_get : ∀ (ks : List Nat) (ob : List VObj) (i : Nat), (hideObs ks ob)[i]? = if i ∈ ks then (ob[i]?).map (fun _ => VObj.none) else ob[i]?
  | [], ob, i => by simp [hideObs]
  | k :: r, ob, i => by
    rw [hideObs, hideObs_get r]
    by_cases h1 : i = k
    · subst h1
      by_cases h2 : i < ob.length
      · rw [List.getElem?_set_self h2, List.getElem?_eq_getElem h2]
        simp
      · have e1 : ob[i]? = none := List.getElem?_eq_none (by omega)
        have e2 : (ob.set i .none)[i]? = none := List.getElem?_eq_none (by simp; omega)
        rw [e1, e2]; simp
    · rw [List.getElem?_set_ne (Ne.symm h1)]
      simp [h1]

/-- nothing names it -/
structure Unseen (k : Nat) (t : List V) (ob : List VObj) : Prop where
  lt : k < ob.length
  slots : Clean k t
  objs : ∀ (j : Nat) x, j ≠ k → ob[j]? = some x → k ∉ ptrsO x

theorem Unseen.hide {k k' : Nat} {t : List V} {ob : List VObj} (h : Unseen k t ob) : Unseen k t (ob.set k' .none) :=
  ⟨by simpa using h.lt, h.slots, fun j x hj hx => by
    rcases set_get hx with ⟨rfl, rfl⟩ | ⟨_, hx⟩
    · simp [ptrsO]
    · exact h.objs j x hj hx⟩

theorem vflo_hides (S : Sys) {o : Oper} {t : List V} {K : V → Prop} : ∀ {ks : List Nat} {ob : List VObj}, (∀ k ∈ ks, Unseen k t ob) → vflo S o t ob K → vflo S o t (hideObs ks ob) K
  | [], ob, _, h => h
  | k :: r, ob, hu, h => vflo_hides S (ks := r) (fun k' hk' => (hu k' (by simp [hk'])).hide) (vflo_obs S (hu k (by simp)).slots h)

theorem vop_hides (S : Sys) (hm : CallMono S) {o : Oper} {t : List V} {nt : Nat} {df : List (Fn × List V × List V)} : ∀ {ks : List Nat} {k : Nat} {ob : List VObj} {K K' : V → St → Prop}, (∀ j ∈ k :: ks, Unseen j t ob) → (∀ v s, K v s → K' v (hidesS (k :: ks) s)) →
    vop S o ⟨t, ob, nt, df⟩ K (fun _ _ => False) → vop S o ⟨t, hideObs (k :: ks) ob, nt, df⟩ K' fun _ _ => False
  | [], k, ob, K, K', hu, hKK, h => by
    have hk := hu k (by simp)
    exact vop_obs S hm hk.lt hk.slots hk.objs (fun v s h => by obtain ⟨t, ob, nt, df⟩ := s; exact hKK v _ h) h
  | k' :: r, k, ob, K, K', hu, hKK, h => by
    have hk := hu k (by simp)
    have h1 := vop_obs S hm hk.lt hk.slots hk.objs (K' := fun v s' => ∃ s, K v s ∧ s' = hideS k s) (fun v s h => ⟨s, h, rfl⟩) h
    refine vop_hides S hm (ks := r) (k := k') (fun j hj => (hu j (by simp at hj ⊢; exact .inr hj)).hide) (fun v s' h => ?_) h1
    obtain ⟨s, hs, rfl⟩ := h
    have := hKK v s hs
    obtain ⟨t, ob, nt, df⟩ := s
    exact this

end VL

namespace VL
open Go
set_option linter.unusedVariables false
set_option linter.unusedSimpArgs false

def alObj (all : List Oper) (t : List V) (i : Nat) : Option Nat :=
  match all[i]? with
  | some o => (match isAl o, o.dst with
    | true, some d => (match t[d]? with | some (.ptr k 0) => some k | _ => none)
    | _, _ => none)
  | none => none

/-- the objects of the new variables that are still to come -/
def hidL (all : List Oper) (U : List Nat) (t : List V) : List Nat := U.filterMap (alObj all t)

def maskU (all : List Oper) (U : List Nat) : St → St
  | ⟨t, ob, nt, df⟩ => ⟨masked (slotIn all U) t, hideObs (hidL all U t) ob, nt, df⟩

theorem AOK.obj {S : Sys} {all : List Oper} {done : List Nat} {m : Nat} {t : List V} {ob : List VObj} {df : List (Fn × List V × List V)} (h : AOK S all done m t ob df) (ha : isAlAt all m = true) :
    ∃ k, alObj all t m = some k ∧ k < ob.length := by
  obtain ⟨o, T, d, j, i, cz, h1, h2, h3, h4, h5, h6, h7, h8⟩ := h
  refine ⟨j, ?_, (List.getElem?_eq_some_iff.1 h7).1⟩
  unfold isAlAt at ha
  rw [h1] at ha
  unfold alObj
  rw [h1]
  simp only at ha ⊢
  rw [ha, h3]
  simp only
  rw [h4]; rfl

theorem slotsClean_get {k : Nat} {ok : Nat → Bool} : ∀ {l : List V} {d : Nat}, slotsClean k ok d l = true → ∀ {i : Nat} {v : V}, l[i]? = some v → k ∈ ptrs v → ok (d + i) = true
  | x :: r, d, h, 0, v, hv, hk => by
    simp only [slotsClean, Bool.and_eq_true] at h
    simp at hv; subst hv
    have := h.1
    rw [memN_iff.2 hk] at this
    simpa using this
  | x :: r, d, h, i + 1, v, hv, hk => by
    simp only [slotsClean, Bool.and_eq_true] at h
    have := slotsClean_get h.2 (i := i) (by simpa using hv) hk
    rwa [show d + 1 + i = d + (i + 1) by omega] at this
  | [], d, h, i, v, hv, hk => by simp at hv

theorem objsClean_get {k : Nat} : ∀ {l : List VObj} {d : Nat}, objsClean k d l = true → ∀ {i : Nat} {x : VObj}, l[i]? = some x → k ∈ ptrsO x → d + i = k
  | x :: r, d, h, 0, v, hv, hk => by
    simp only [objsClean, Bool.and_eq_true] at h
    simp at hv; subst hv
    have := h.1
    rw [memN_iff.2 hk] at this
    simpa using Nat.eq_of_beq_eq_true this
  | x :: r, d, h, i + 1, v, hv, hk => by
    simp only [objsClean, Bool.and_eq_true] at h
    have := objsClean_get h.2 (i := i) (by simpa using hv) hk
    omega
  | [], d, h, i, v, hv, hk => by simp at hv

theorem mayName_iff {all : List Oper} {A : List Nat} {a d : Nat} : ∀ {done : List Nat}, mayName all A done a d = true → ∃ i ∈ done, (all[i]?).bind (·.dst) = some d ∧ (i = a ∨ isAnc A i a = true)
  | [], h => by cases h
  | i :: r, h => by
    simp only [mayName, Bool.or_eq_true, Bool.and_eq_true] at h
    rcases h with ⟨h1, h2⟩ | h
    · refine ⟨i, by simp, ?_, ?_⟩
      · split at h1
        · rename_i d' e; rw [e]; rw [Nat.eq_of_beq_eq_true h1]
        · cases h1
      · rcases h2 with h2 | h2
        · exact .inl (Nat.eq_of_beq_eq_true h2)
        · exact .inr h2
    · obtain ⟨j, hj, h1, h2⟩ := mayName_iff h
      exact ⟨j, by simp [hj], h1, h2⟩

/-- with all that hangs on it masked, nothing names it -/
theorem AOK.unseen {S : Sys} {all : List Oper} {done U : List Nat} {m : Nat} {t : List V} {ob : List VObj} {df : List (Fn × List V × List V)} (h : AOK S all done m t ob df) {k : Nat} (hk : alObj all t m = some k)
    (hU : ∀ i ∈ done, (i = m ∨ isAnc (ancs all []) i m = true) → i ∈ U) : Unseen k (masked (slotIn all U) t) ob := by
  obtain ⟨o, T, d, j, i, cz, h1, h2, h3, h4, h5, h6, h7, h8⟩ := h
  have hjk : j = k := by
    unfold alObj at hk
    rw [h1] at hk
    simp only at hk
    split at hk
    · rename_i d' e1 e2
      rw [h3] at e2; cases e2
      rw [h4] at hk
      simpa using hk
    · cases hk
  subst hjk
  unfold allClean at h8
  simp only [Bool.and_eq_true] at h8
  obtain ⟨⟨c1, c2⟩, c3⟩ := h8
  refine ⟨(List.getElem?_eq_some_iff.1 h7).1, fun v hv hm => ?_, fun i x hi hx hm => ?_⟩
  · obtain ⟨q, hq⟩ := List.mem_iff_getElem?.1 hv
    rw [masked_get] at hq
    obtain ⟨u, hu, e⟩ := Option.map_eq_some_iff.1 hq
    split at e
    · subst e; simp [ptrs] at hm
    · rename_i hs
      subst e
      have := slotsClean_get c1 hu hm
      rw [Nat.zero_add] at this
      obtain ⟨p, hp, e1, e2⟩ := mayName_iff this
      obtain ⟨op, e3, e4⟩ := Option.bind_eq_some_iff.1 e1
      exact hs (slotIn_iff.2 ⟨p, hU p hp e2, op, e3, e4⟩)
  · have := objsClean_get c2 hx hm
    omega

end VL

namespace VL
open Go
set_option linter.unusedVariables false
set_option linter.unusedSimpArgs false

theorem maskOf_bit {A : List Nat} {j : Nat} : ∀ {ds : List Nat} {m : Nat}, (maskOf A ds m).testBit j = true → m.testBit j = true ∨ ∃ d ∈ ds, j = d ∨ ((A[d]?).getD 0).testBit j = true
  | [], m, h => .inl h
  | d :: r, m, h => by
    rcases maskOf_bit (ds := r) h with h | ⟨d', h1, h2⟩
    · rw [Nat.testBit_or, Nat.testBit_or, Bool.or_eq_true, Bool.or_eq_true] at h
      rcases h with (h | h) | h
      · exact .inl h
      · refine .inr ⟨d, by simp, .inl ?_⟩
        rw [Nat.one_shiftLeft, Nat.testBit_two_pow] at h
        exact (by simpa using h : d = j).symm
      · exact .inr ⟨d, by simp, .inr h⟩
    · exact .inr ⟨d', by simp [h1], h2⟩

theorem ancs_append (l : List Oper) : ∀ (A : List Nat), ∃ B, ancs l A = A ++ B := by
  induction l with
  | nil => intro A; exact ⟨[], by simp [ancs]⟩
  | cons o r ih =>
    intro A
    obtain ⟨B, h⟩ := ih (A ++ [maskOf A (depsOf o) 0])
    exact ⟨maskOf A (depsOf o) 0 :: B, by rw [ancs, h]; simp⟩

theorem ancs_get (l : List Oper) : ∀ (A : List Nat) (k : Nat) (o : Oper), l[k]? = some o → (ancs l A)[A.length + k]? = some (maskOf ((ancs l A).take (A.length + k)) (depsOf o) 0) := by
  induction l with
  | nil => intro A k o h; simp at h
  | cons p r ih =>
    intro A k o h
    cases k with
    | zero =>
      simp only [List.getElem?_cons_zero, Option.some.injEq] at h; subst h
      obtain ⟨B, hB⟩ := ancs_append r (A ++ [maskOf A (depsOf p) 0])
      rw [ancs, hB]
      generalize hm : maskOf A (depsOf p) 0 = m at *
      have : (A ++ [m] ++ B).take (A.length + 0) = A := by simp
      rw [this, hm]
      simp
    | succ k =>
      have := ih (A ++ [maskOf A (depsOf p) 0]) k o (by simpa using h)
      rw [ancs]
      simp only [List.length_append, List.length_singleton] at this
      rw [show A.length + (k + 1) = A.length + 1 + k by omega]
      exact this

theorem depsOk_iff (l : List Oper) : ∀ {k : Nat}, depsOk l k = true → ∀ (i : Nat) (o : Oper), l[i]? = some o → ∀ e ∈ o.after, Region.binds .any e = true → e.on < k + i := by
  induction l with
  | nil => intro k _ i o h; simp at h
  | cons o r ih =>
    intro k h i p hp e he hb
    simp only [depsOk, Bool.and_eq_true] at h
    cases i with
    | zero =>
      simp only [List.getElem?_cons_zero, Option.some.injEq] at hp; subst hp
      have := List.all_eq_true.1 h.1 e.on (List.mem_map.2 ⟨e, List.mem_filter.2 ⟨by simpa using he, hb⟩, rfl⟩)
      simpa [Nat.blt_eq] using this
    | succ i =>
      have := ih h.2 i p (by simpa using hp) e he hb
      omega

theorem mem_deps {o : Oper} {d : Nat} (h : d ∈ depsOf o) : ∃ e ∈ o.after, Region.binds .any e = true ∧ e.on = d := by
  obtain ⟨e, he, rfl⟩ := List.mem_map.1 h
  obtain ⟨h1, h2⟩ := List.mem_filter.1 he
  exact ⟨e, by simpa using h1, h2, rfl⟩

theorem anc_closed {all : List Oper} (hd : depsOk all 0 = true) {L : Nat → Prop} (hL : ∀ (i : Nat) o, all[i]? = some o → L i → ∀ e ∈ o.after, Region.binds .any e = true → L e.on) :
    ∀ (i : Nat) (o : Oper), all[i]? = some o → (∀ e ∈ o.after, Region.binds .any e = true → L e.on) → ∀ j, isAnc (ancs all []) i j = true → L j := by
  intro i
  induction i using Nat.strongRecOn with
  | _ i ih =>
    intro o ho hall j hj
    have hg := ancs_get all [] i o ho
    simp only [List.length_nil, Nat.zero_add] at hg
    unfold isAnc at hj
    rw [hg, Option.getD_some] at hj
    rcases maskOf_bit hj with h | ⟨d, hd1, h⟩
    · simp at h
    · obtain ⟨e, he, hb, rfl⟩ := mem_deps hd1
      have hlt := depsOk_iff all hd i o ho e he hb
      rcases h with rfl | h
      · exact hall e he hb
      · have hil := (List.getElem?_eq_some_iff.1 ho).1
        have hlt' : e.on < all.length := by omega
        refine ih e.on (by omega) all[e.on] (List.getElem?_eq_getElem hlt') (hL e.on _ (List.getElem?_eq_getElem hlt') (hall e he hb)) j ?_
        rw [List.getElem?_take, if_pos (by omega)] at h
        exact h

section
variable {S : Sys} {c : Ctx} {Q : Exit → Act → World → Prop} {ops : Array Oper}

theorem wanted_gOn {g : G} {w : World} {n nt : Nat} {tm : Array Value} {t : List V} (h : TInv g w n nt tm t) {o : Oper} {b : Bool} (hg : gOn ops.toList o t = some b) : Region.wanted o (yielded ops tm) = b := by
  unfold gOn at hg
  unfold Region.wanted
  cases ho : o.guard with
  | none => rw [ho] at hg; simpa using hg
  | some jw =>
    obtain ⟨j, want⟩ := jw
    rw [ho] at hg
    simp only at hg ⊢
    cases hj : (ops.toList[j]?).bind (·.dst) with
    | none => rw [hj] at hg; cases hg
    | some d =>
      rw [hj] at hg
      simp only at hg
      cases hv : t[d]? with
      | none => rw [hv] at hg; cases hg
      | some v =>
        rw [hv] at hg
        obtain ⟨y1, y2⟩ := yield_some h hj hv
        split at hg
        · rename_i b' e
          cases e
          rw [(y1 b' rfl).1]
          cases hg
          cases b' <;> cases want <;> rfl
        · cases hg
        · rename_i v' e1 e2 e
          cases e
          cases hg
          rw [y2 (fun h => e2 (by rw [h])) (fun b h => e1 b (by rw [h]))]
          cases want <;> rfl
        · rename_i e; cases e

theorem mask_put {g : G} {w : World} {b : Act} {s : St} {U : List Nat} {i : Nat} {o : Oper} {u : V} {x : Value} (ho : ops.toList[i]? = some o) (hi : i ∈ U) (hU : U.Nodup)
    (hd : ∀ d, o.dst = some d → s.t[d]? = some u ∧ slotIn ops.toList (U.erase i) d = false) (hs : Sim c g w b (maskS (slotIn ops.toList U) s)) (hv : VT g w s.objs.length s.nt u x) :
    Sim c g w (b.put o.dst x) (maskS (slotIn ops.toList (U.erase i)) s) := by
  obtain ⟨t, ob, nt, df⟩ := s
  have hslot : ∀ k, o.dst ≠ some k → slotIn ops.toList (U.erase i) k = slotIn ops.toList U k := fun k hk => by
    rw [Bool.eq_iff_iff, slotIn_iff, slotIn_iff]
    constructor
    · rintro ⟨j, hj, p, hp, e⟩; exact ⟨j, List.mem_of_mem_erase hj, p, hp, e⟩
    · rintro ⟨j, hj, p, hp, e⟩
      refine ⟨j, (List.Nodup.mem_erase_iff hU).2 ⟨fun e' => ?_, hj⟩, p, hp, e⟩
      subst e'
      rw [ho] at hp; cases hp
      exact hk e
  cases hdst : o.dst with
  | none =>
    have : slotIn ops.toList (U.erase i) = slotIn ops.toList U := by funext k; exact hslot k (by rw [hdst]; simp)
    rw [this]; exact hs
  | some d =>
    obtain ⟨h1, h2⟩ := hd d hdst
    have ht : (masked (slotIn ops.toList U) t).set d u = masked (slotIn ops.toList (U.erase i)) t := by
      apply List.ext_getElem?
      intro k
      rw [List.getElem?_set, masked_length]
      by_cases hk : d = k
      · subst hk
        have hlt := (List.getElem?_eq_some_iff.1 h1).1
        simp only at hlt
        rw [if_pos rfl, if_pos hlt, masked_get, h1]
        simp [h2]
      · rw [if_neg hk, masked_get, masked_get, hslot k (by rw [hdst]; simpa using hk)]
    exact ⟨hs.wi, by
      show TInv g w ob.length nt (b.tmps.setIfInBounds d x) (masked (slotIn ops.toList (U.erase i)) t)
      rw [← ht]; exact hs.ti.set hv, hs.di⟩

theorem tinv_weaker {g : G} {w : World} {n nt : Nat} {tm : Array Value} {t t' : List V} (h : TInv g w n nt tm t) (hl : t'.length = t.length) (ht : ∀ (k : Nat) v, t'[k]? = some v → v = .undef ∨ t[k]? = some v) : TInv g w n nt tm t' :=
  ⟨by rw [hl]; exact h.size, fun k v x hv hx => by
    rcases ht k v hv with rfl | h1
    · exact ⟨.undef, trivial⟩
    · exact h.rel k v x h1 hx, h.gl⟩

theorem dstIn_iff {o : Option Tmp} {l : List Nat} : dstIn o l = true ↔ ∃ d, o = some d ∧ d ∈ l := by
  cases o with
  | none => simp [dstIn]
  | some d => simp [dstIn, memN_iff]

theorem sameDst_iff {o p : Option Tmp} : sameDst o p = true ↔ ∃ d, o = some d ∧ p = some d := by
  cases o <;> cases p <;> simp [sameDst]
  exact ⟨fun h => h.symm, fun h => h.symm⟩

/-- what stands of those that have come, as far as the reckoning goes -/
structure DoneOk (all : List Oper) (done : List Nat) : Prop where
  self : ∀ i ∈ done, ∀ o, all[i]? = some o → dstIn o.dst (looks all o) = false
  same : ∀ i ∈ done, ∀ j ∈ done, i ≠ j → ∀ o p, all[i]? = some o → all[j]? = some p → sameDst o.dst p.dst = false
  look : ∀ i ∈ done, ∀ j ∈ done, i ≠ j → ∀ o p, all[i]? = some o → all[j]? = some p → dstIn p.dst (looks all o) = true → isAnc (ancs all []) i j = true

structure HeadOk (all : List Oper) (n : Nat) (fl : Bool) (r : List (Nat × Bool)) (done : List Nat) (o : Oper) : Prop where
  op : all[n]? = some o
  apart : ∀ i ∈ done, ∃ p, all[i]? = some p ∧ sameDst o.dst p.dst = false ∧ (fl = true → dstIn o.dst (looks all p) = false) ∧ (dstIn p.dst (looks all o) = true → isAnc (ancs all []) n i = true)
  self : fl = true → dstIn o.dst (looks all o) = false
  last : fl = false → ∀ j ∈ r, isAnc (ancs all []) j.1 n = true
  rest : planOk all (ancs all []) r (if fl then n :: done else done) = true

theorem planOk_cons {all : List Oper} {n : Nat} {fl : Bool} {r : List (Nat × Bool)} {done : List Nat} (h : planOk all (ancs all []) ((n, fl) :: r) done = true) : ∃ o, HeadOk all n fl r done o := by
  unfold planOk at h
  rw [Bool.and_eq_true] at h
  obtain ⟨h, hr⟩ := h
  split at h
  case h_2 => cases h
  rename_i o ho
  rw [Bool.and_eq_true, Bool.and_eq_true] at h
  obtain ⟨⟨h1, h2⟩, h3⟩ := h
  refine ⟨o, ho, fun i hi => ?_, fun hf => by subst hf; simpa using h2, fun hf => by subst hf; simpa using h3, hr⟩
  have := List.all_eq_true.1 h1 i hi
  split at this
  case h_2 => cases this
  rename_i p hp
  rw [Bool.and_eq_true, Bool.and_eq_true] at this
  obtain ⟨⟨a1, a2⟩, a3⟩ := this
  refine ⟨p, hp, by simpa using a1, fun hf => by subst hf; simpa using a2, fun hd => ?_⟩
  rw [hd] at a3; simpa using a3

theorem DoneOk.cons {all : List Oper} {done : List Nat} {n : Nat} {o : Oper} {r : List (Nat × Bool)} (h : DoneOk all done) (hh : HeadOk all n true r done o) : DoneOk all (n :: done) := by
  have hop : ∀ p, all[n]? = some p → p = o := fun p hp => by rw [hh.op] at hp; exact (Option.some.inj hp).symm
  have ap : ∀ i ∈ done, ∀ p, all[i]? = some p → sameDst o.dst p.dst = false ∧ dstIn o.dst (looks all p) = false ∧ (dstIn p.dst (looks all o) = true → isAnc (ancs all []) n i = true) := fun i hi p hp => by
    obtain ⟨p', hp', a1, a2, a3⟩ := hh.apart i hi
    rw [hp] at hp'; cases hp'
    exact ⟨a1, a2 rfl, a3⟩
  have symm : ∀ a b : Option Tmp, sameDst a b = false → sameDst b a = false := fun a b h => by
    cases hb : sameDst b a with
    | false => rfl
    | true =>
      obtain ⟨d, e1, e2⟩ := sameDst_iff.1 hb
      rw [sameDst_iff.2 ⟨d, e2, e1⟩] at h; cases h
  refine ⟨fun i hi p hp => ?_, fun i hi j hj hij p q hp hq => ?_, fun i hi j hj hij p q hp hq hd => ?_⟩
  · rcases List.mem_cons.1 hi with rfl | hi
    · rw [hop p hp]; exact hh.self rfl
    · exact h.self i hi p hp
  · rcases List.mem_cons.1 hi with hi | hi <;> rcases List.mem_cons.1 hj with hj | hj
    · exact absurd (hi.trans hj.symm) hij
    · subst hi; rw [hop p hp]; exact (ap j ‹j ∈ done› q hq).1
    · subst hj; rw [hop q hq]; exact symm _ _ (ap i ‹i ∈ done› p hp).1
    · exact h.same i hi j hj hij p q hp hq
  · rcases List.mem_cons.1 hi with hi | hi <;> rcases List.mem_cons.1 hj with hj | hj
    · exact absurd (hi.trans hj.symm) hij
    · subst hi; rw [hop p hp] at hd; exact (ap j ‹j ∈ done› q hq).2.2 hd
    · subst hj; rw [hop q hq] at hd; rw [(ap i ‹i ∈ done› p hp).2.1] at hd; cases hd
    · exact h.look i hi j hj hij p q hp hq hd

theorem put_iff {t : List V} {ob : List VObj} {nt : Nat} {df : List (Fn × List V × List V)} {dst : Option Tmp} {v : V} {K : St → Prop} (h : St.put ⟨t, ob, nt, df⟩ dst v K) :
    ∃ t', K ⟨t', ob, nt, df⟩ ∧ t'.length = t.length ∧ (∀ d, dst = some d → t'[d]? = some v) ∧ ∀ k, dst ≠ some k → t'[k]? = t[k]? := by
  cases dst with
  | none => exact ⟨t, h, rfl, by simp, fun _ _ => rfl⟩
  | some d =>
    simp only [St.put, force_eq] at h
    obtain ⟨hlt, h⟩ := setK_iff h
    refine ⟨_, h, by simp, fun d' e => ?_, fun k hk => ?_⟩
    · cases e; rw [List.getElem?_set_self hlt]
    · rw [List.getElem?_set_ne (fun e => hk (by rw [e]))]

theorem unlisted_iff {listed : Array Bool} {i : Nat} : listed.getD i true = false ↔ i < listed.size ∧ listed.getD i false = false := by
  by_cases h : i < listed.size <;> simp [Array.getD, h]

theorem listed_set {listed : Array Bool} {i j : Nat} (hi : i < listed.size) : (listed.setIfInBounds i true).getD j false = true ↔ j = i ∨ listed.getD j false = true := by
  by_cases h : i = j
  · subst h; simp [Array.getD, hi]
  · rw [getD_set_ne false h]
    exact ⟨.inr, fun h' => h'.resolve_left fun e => h e.symm⟩

theorem sim_put {g : G} {w : World} {b : Act} {m : Nat → Bool} {t t' : List V} {ob : List VObj} {nt : Nat} {df : List (Fn × List V × List V)} {dst : Option Tmp} {v : V} {x : Value} (hs : Sim c g w b (maskS m ⟨t, ob, nt, df⟩)) (hv : VT g w ob.length nt v x)
    (hl : t'.length = t.length) (h1 : ∀ d, dst = some d → t'[d]? = some v) (h2 : ∀ k, dst ≠ some k → t'[k]? = t[k]?) : Sim c g w (b.put dst x) (maskS m ⟨t', ob, nt, df⟩) := by
  cases dst with
  | none =>
    have : t' = t := List.ext_getElem? fun k => h2 k (by simp)
    rw [this]; exact hs
  | some d =>
    refine ⟨hs.wi, tinv_weaker (hs.ti.set (i := d) hv) (by simp [masked_length, hl, maskS]) fun k u hu => ?_, hs.di⟩
    simp only [maskS, masked_get] at hu
    by_cases hk : d = k
    · subst hk
      rw [h1 d rfl] at hu
      simp only [Option.map_some, Option.some.injEq] at hu
      split at hu
      · exact .inl hu.symm
      · refine .inr ?_
        have : d < t.length := by rw [← hl]; exact (List.getElem?_eq_some_iff.1 (h1 d rfl)).1
        show ((masked m t).set d v)[d]? = _
        rw [List.getElem?_set_self (by rw [masked_length]; exact this), hu]
    · rw [h2 k (by simpa using hk)] at hu
      refine .inr ?_
      show ((masked m t).set d v)[k]? = _
      rw [List.getElem?_set_ne hk, masked_get]; exact hu

end
end VL

namespace VL
open Go
set_option linter.unusedVariables false
set_option linter.unusedSimpArgs false

theorem getK_snoc {α : Type} {l : List α} {x : α} {i : Nat} {K : α → Prop} (h : getK l i K) : getK (l ++ [x]) i K := by
  obtain ⟨v, h1, h2⟩ := getK_iff h
  rw [getK_eq, List.getElem?_append_left (List.getElem?_eq_some_iff.1 h1).1, h1]
  exact h2

/-- one object more changes nothing of what yields a value -/
theorem vflo_snoc (S : Sys) {o : Oper} {t : List V} {ob : List VObj} {x : VObj} {K : V → Prop} (h : vflo S o t ob K) : vflo S o t (ob ++ [x]) K := by
  unfold vflo at h ⊢
  split at h
  case h_6 =>
    refine (det_ev _ _).mono (fun v h => ?_) h
    split at h
    · exact getK_snoc h
    · exact h
    · exact getK_snoc h
    · exact h
  case h_10 =>
    refine (det_ev _ _).mono (fun v h => ?_) h
    refine (det_ev _ _).mono (fun u h => ?_) h
    unfold lookupK at h ⊢
    split at h
    · split at h
      · cases v <;> try exact h
        exact getK_snoc h
      · exact h
    · exact h
  case h_11 =>
    refine (det_ev _ _).mono (fun v h => ?_) h
    split at h
    · split at h
      · split at h
        · exact getK_snoc h
        · exact h
      · exact h
    · exact getK_snoc h
    · exact h
  case h_16 =>
    refine (det_ev _ _).mono (fun v h => ?_) h
    refine (det_ev _ _).mono (fun u h => ?_) h
    split at h
    · split at h
      · rename_i e j off _
        exact (det_szK S.P _).mono (fun z h => ⟨h.1, h.2.1, getK_snoc h.2.2⟩) h
      all_goals exact h
    · exact h
  all_goals exact h

theorem FOK.snoc {S : Sys} {all : List Oper} {m : Nat} {t : List V} {ob : List VObj} {x : VObj} (h : FOK S all m t ob) : FOK S all m t (ob ++ [x]) := by
  obtain ⟨o, u, h1, h2, h3⟩ := h
  refine ⟨o, u, h1, h2, ?_⟩
  rcases h3 with ⟨a, b⟩ | h3
  · exact .inl ⟨a, vflo_snoc S b⟩
  · exact .inr h3

theorem isAl_iff {o : Oper} (h : isAl o = true) : ∃ T d, o.op = .alloc T ∧ o.guard = none ∧ depsOf o = [] ∧ o.dst = some d := by
  unfold isAl at h
  split at h
  · rename_i e1 e2 e3 e4
    exact ⟨_, _, e1, e2, e3, e4⟩
  · cases h

theorem isAlAt_iff {all : List Oper} {i : Nat} : isAlAt all i = true ↔ ∃ o, all[i]? = some o ∧ isAl o = true := by
  unfold isAlAt
  cases all[i]? <;> simp

theorem al_noanc {all : List Oper} {i j : Nat} (h : isAlAt all j = true) : isAnc (ancs all []) j i = false := by
  obtain ⟨o, ho, ha⟩ := isAlAt_iff.1 h
  obtain ⟨T, d, _, _, hd, _⟩ := isAl_iff ha
  have hg := ancs_get all [] j o ho
  simp only [List.length_nil, Nat.zero_add] at hg
  unfold isAnc
  rw [hg, hd]
  simp [maskOf]

theorem alObj_none {all : List Oper} {t : List V} {i : Nat} (h : isAlAt all i = false) : alObj all t i = none := by
  unfold isAlAt at h
  unfold alObj
  cases e : all[i]? with
  | none => rfl
  | some o =>
    rw [e] at h
    simp only at h ⊢
    rw [h]

theorem alObj_some {all : List Oper} {t : List V} {i k : Nat} (h : alObj all t i = some k) : ∃ o d, all[i]? = some o ∧ isAl o = true ∧ o.dst = some d ∧ t[d]? = some (.ptr k 0) := by
  unfold alObj at h
  cases e : all[i]? with
  | none => rw [e] at h; cases h
  | some o =>
    rw [e] at h
    simp only at h
    split at h
    · rename_i d e1 e2
      refine ⟨o, d, rfl, e1, e2, ?_⟩
      split at h
      · cases h; assumption
      · cases h
    · cases h

theorem alObj_of {all : List Oper} {t : List V} {i k : Nat} {o : Oper} {d : Nat} (h1 : all[i]? = some o) (h2 : isAl o = true) (h3 : o.dst = some d) (h4 : t[d]? = some (.ptr k 0)) : alObj all t i = some k := by
  unfold alObj
  rw [h1]
  simp only
  rw [h2, h3]
  simp only
  rw [h4]
  rfl

theorem alObj_congr {all : List Oper} {t t' : List V} {i : Nat} (h : ∀ o d, all[i]? = some o → o.dst = some d → t'[d]? = t[d]?) : alObj all t' i = alObj all t i := by
  unfold alObj
  cases e : all[i]? with
  | none => rfl
  | some o =>
    simp only
    cases e1 : isAl o with
    | false => rfl
    | true =>
      cases e2 : o.dst with
      | none => rfl
      | some d => simp only; rw [h o d e e2]

theorem filterMap_erase {f : Nat → Option Nat} {i : Nat} (h : f i = none) : ∀ U : List Nat, (U.erase i).filterMap f = U.filterMap f
  | [] => rfl
  | x :: r => by
    by_cases e : x = i
    · subst e; simp [h]
    · rw [List.erase_cons_tail (by simpa using e), List.filterMap_cons, List.filterMap_cons, filterMap_erase h r]

theorem hid_congr {all : List Oper} {U : List Nat} {t t' : List V} (h : ∀ i ∈ U, alObj all t' i = alObj all t i) : hidL all U t' = hidL all U t := by
  unfold hidL
  induction U with
  | nil => rfl
  | cons x r ih => rw [List.filterMap_cons, List.filterMap_cons, h x (by simp), ih fun i hi => h i (by simp [hi])]

theorem slotsClean_of {k : Nat} {ok : Nat → Bool} : ∀ {l : List V} {d : Nat}, (∀ (i : Nat) v, l[i]? = some v → k ∈ ptrs v → ok (d + i) = true) → slotsClean k ok d l = true
  | [], d, h => rfl
  | x :: r, d, h => by
    simp only [slotsClean, Bool.and_eq_true]
    refine ⟨?_, slotsClean_of fun i v hv hk => by have := h (i + 1) v (by simpa using hv) hk; rwa [show d + (i + 1) = d + 1 + i by omega] at this⟩
    cases e : memN k (ptrs x) with
    | true => exact h 0 x (by simp) (memN_iff.1 e)
    | false => rfl

theorem objsClean_of {k : Nat} : ∀ {l : List VObj} {d : Nat}, (∀ (i : Nat) x, l[i]? = some x → k ∈ ptrsO x → d + i = k) → objsClean k d l = true
  | [], d, h => rfl
  | x :: r, d, h => by
    simp only [objsClean, Bool.and_eq_true]
    refine ⟨?_, objsClean_of fun i v hv hk => by have := h (i + 1) v (by simpa using hv) hk; omega⟩
    cases e : memN k (ptrsO x) with
    | true => have := h 0 x (by simp) (memN_iff.1 e); simp only [Nat.add_zero] at this; subst this; simp
    | false => rfl

theorem mayName_of {all : List Oper} {A : List Nat} {a d : Nat} : ∀ {done : List Nat} {i : Nat}, i ∈ done → (all[i]?).bind (·.dst) = some d → (i = a ∨ isAnc A i a = true) → mayName all A done a d = true
  | [], i, h, _, _ => by cases h
  | j :: r, i, h, h1, h2 => by
    simp only [mayName, Bool.or_eq_true, Bool.and_eq_true]
    cases h with
    | head =>
      refine .inl ⟨by rw [h1]; simp, ?_⟩
      rcases h2 with rfl | h2
      · exact .inl (by simp)
      · exact .inr h2
    | tail _ h => exact .inr (mayName_of h h1 h2)

theorem mayName_cons {all : List Oper} {A : List Nat} {done : List Nat} {n a d : Nat} (h : mayName all A done a d = true) : mayName all A (n :: done) a d = true := by
  obtain ⟨i, hi, h1, h2⟩ := mayName_iff h
  exact mayName_of (List.mem_cons_of_mem _ hi) h1 h2

/-- another slot gets a value that names it not, or hangs on it -/
theorem AOK.slot {S : Sys} {all : List Oper} {done : List Nat} {m n : Nat} {t t' : List V} {ob : List VObj} {df : List (Fn × List V × List V)} {o : Oper} {v : V} (h : AOK S all done m t ob df) (ho : all[n]? = some o)
    (h0 : ∀ p d, all[m]? = some p → p.dst = some d → t'[d]? = t[d]?) (h1 : ∀ d, o.dst = some d → t'[d]? = some v) (h2 : ∀ k, o.dst ≠ some k → t'[k]? = t[k]?)
    (hv : ∀ k, alObj all t m = some k → k ∈ ptrs v → isAnc (ancs all []) n m = true) (ha : isAlAt all m = true) : AOK S all (n :: done) m t' ob df := by
  obtain ⟨k, hk, _⟩ := h.obj ha
  obtain ⟨o', T, d, j, i, cz, a1, a2, a3, a4, a5, a6, a7, a8⟩ := h
  obtain ⟨p, d', b1, b2, b3, b4⟩ := alObj_some hk
  rw [a1] at b1; cases b1
  rw [a3] at b3; cases b3
  rw [a4] at b4; cases b4
  refine ⟨o', T, d, _, i, cz, a1, a2, a3, by rw [h0 o' d a1 a3]; exact a4, a5, a6, a7, ?_⟩
  unfold allClean at a8 ⊢
  simp only [Bool.and_eq_true] at a8 ⊢
  refine ⟨⟨slotsClean_of fun q u hu hm => ?_, a8.1.2⟩, a8.2⟩
  rw [Nat.zero_add]
  by_cases hq : o.dst = some q
  · rw [h1 q hq] at hu; cases hu
    exact mayName_of (List.mem_cons_self ..) (by rw [ho]; exact hq) (.inr (hv _ hk hm))
  · rw [h2 q hq] at hu
    have := slotsClean_get a8.1.1 hu hm
    rw [Nat.zero_add] at this
    exact mayName_cons this

/-- one object more, that names none -/
theorem AOK.snoc {S : Sys} {all : List Oper} {done : List Nat} {m : Nat} {t : List V} {ob : List VObj} {df : List (Fn × List V × List V)} {x : VObj} (h : AOK S all done m t ob df) (hx : ptrsO x = []) : AOK S all done m t (ob ++ [x]) df := by
  obtain ⟨o', T, d, j, i, cz, a1, a2, a3, a4, a5, a6, a7, a8⟩ := h
  refine ⟨o', T, d, j, i, cz, a1, a2, a3, a4, a5, a6, by rw [List.getElem?_append_left (List.getElem?_eq_some_iff.1 a7).1]; exact a7, ?_⟩
  unfold allClean at a8 ⊢
  simp only [Bool.and_eq_true] at a8 ⊢
  refine ⟨⟨a8.1.1, objsClean_of fun q y hy hm => ?_⟩, a8.2⟩
  rcases snoc_get hy with ⟨_, hy⟩ | ⟨_, rfl⟩
  · exact objsClean_get a8.1.2 hy hm
  · rw [hx] at hm; cases hm

/-- two of them are two objects -/
theorem AOK.apart {S : Sys} {all : List Oper} {done : List Nat} {i j k : Nat} {t : List V} {ob : List VObj} {df : List (Fn × List V × List V)} (hd : DoneOk all done) (hj : j ∈ done) (hij : i ≠ j) (aj : isAlAt all j = true)
    (h : AOK S all done i t ob df) (hki : alObj all t i = some k) (hkj : alObj all t j = some k) : False := by
  obtain ⟨o', T, d, k', _, cz, a1, a2, a3, a4, a5, a6, a7, a8⟩ := h
  obtain ⟨p, d', b1, b2, b3, b4⟩ := alObj_some hki
  rw [a1] at b1; cases b1
  rw [a3] at b3; cases b3
  rw [a4] at b4; cases b4
  obtain ⟨p, d', b1, b2, b3, b4⟩ := alObj_some hkj
  unfold allClean at a8
  simp only [Bool.and_eq_true] at a8
  have := slotsClean_get a8.1.1 b4 (by simp [ptrs])
  rw [Nat.zero_add] at this
  obtain ⟨q, hq, e1, e2⟩ := mayName_iff this
  by_cases hqj : q = j
  · subst hqj
    rcases e2 with rfl | e2
    · exact hij rfl
    · rw [al_noanc aj] at e2; cases e2
  · obtain ⟨oq, e3, e4⟩ := Option.bind_eq_some_iff.1 e1
    have := hd.same q hq j hj hqj oq p e3 b1
    rw [sameDst_iff.2 ⟨d', e4, b3⟩] at this; cases this

theorem pendK_iff {all : List Oper} {n : Nat} {t : List V} {v : V} {k : Prop} : ∀ {done : List Nat}, pendK all (ancs all []) n t v done k → k ∧ ∀ a ∈ done, isAlAt all a = true → isAnc (ancs all []) n a = false → ∀ j, alObj all t a = some j → j ∉ ptrs v
  | [], h => ⟨h, by simp⟩
  | a :: r, h => by
    unfold pendK at h
    split at h
    case h_2 => exact h.elim
    rename_i o ho
    have key : k ∧ (∀ a ∈ r, isAlAt all a = true → isAnc (ancs all []) n a = false → ∀ j, alObj all t a = some j → j ∉ ptrs v) ∧ (isAlAt all a = true → isAnc (ancs all []) n a = false → ∀ j, alObj all t a = some j → j ∉ ptrs v) := by
      split at h
      · rename_i hc
        obtain ⟨h1, h2⟩ := pendK_iff (done := r) h
        refine ⟨h1, h2, fun ha hn => ?_⟩
        obtain ⟨o', ho', ha⟩ := isAlAt_iff.1 ha
        rw [ho] at ho'; cases ho'
        rw [ha, hn] at hc; cases hc
      · split at h
        case h_2 => exact h.elim
        rename_i d hd
        obtain ⟨p, hp, h⟩ := getK_iff h
        split at h
        case h_2 => exact h.elim
        rename_i j
        split at h
        · exact h.elim
        · rename_i hm
          obtain ⟨h1, h2⟩ := pendK_iff (done := r) h
          refine ⟨h1, h2, fun ha hn j' hj' hm' => ?_⟩
          obtain ⟨o', d', b1, b2, b3, b4⟩ := alObj_some hj'
          rw [ho] at b1; cases b1
          rw [hd] at b3; cases b3
          rw [hp] at b4; cases b4
          rw [memN_iff.2 hm'] at hm; cases hm
    refine ⟨key.1, fun b hb => ?_⟩
    cases hb with
    | head => exact key.2.2
    | tail _ hb => exact key.2.1 b hb

section
variable {c : Ctx} {g : G} {w : World} {ob : List VObj} {nt : Nat}

theorem Ext.more (g : G) (w : World) (n nt : Nat) : Ext g w n nt g w (n + 1) nt := ⟨by omega, Nat.le_refl _, fun _ _ => rfl, fun _ _ h => ⟨h, rfl⟩, fun _ _ => rfl⟩

/-- one object more, without a block -/
theorem WInv.snocNone (h : WInv c g w ob nt) : WInv c g w (ob ++ [.none]) nt := by
  have he := Ext.more g w ob.length nt
  have hlen := h.len
  refine ⟨h.os, h.tape, h.output, h.size, h.keep, by simp; omega, ?_, ?_, ?_, ?_, ?_, h.i1, h.i2, h.i3, ?_, ?_, ?_, h.f2, h.i6⟩
  · intro i y hy
    rw [List.length_append, List.length_singleton]
    rcases snoc_get hy with ⟨hi, hy⟩ | ⟨rfl, rfl⟩
    · exact he.orel' (h.obj i _ hy) fun _ => rfl
    · trivial
  · intro i y hy hr
    rcases snoc_get hy with ⟨hi, hy⟩ | ⟨rfl, rfl⟩
    · exact h.lt i y hy hr
    · cases hr
  · intro i j y z hy hz hr hr'
    rcases snoc_get hy with ⟨hi, hy⟩ | ⟨rfl, rfl⟩
    · rcases snoc_get hz with ⟨hj, hz⟩ | ⟨rfl, rfl⟩
      · exact h.inj i j y z hy hz hr hr'
      · cases hr'
    · cases hr
  · intro i y hi hy hm
    rcases snoc_get hy with ⟨_, hy⟩ | ⟨e, rfl⟩
    · exact h.old i y hi hy hm
    · omega
  · intro i y hy hr
    rcases snoc_get hy with ⟨_, hy⟩ | ⟨e, rfl⟩
    · exact h.new i y hy hr
    · cases hr
  · intro i T cs k hy
    rcases snoc_get hy with ⟨_, hy⟩ | ⟨e, e'⟩
    · exact h.i4 i T cs k hy
    · cases e'
  · intro i y k hy hl
    rcases snoc_get hy with ⟨_, hy⟩ | ⟨e, rfl⟩
    · exact h.i5 i y k hy hl
    · cases hl
  · intro i hi hn
    obtain ⟨h1, h2, h3, h4⟩ := h.f1 i hi hn
    refine ⟨h1, h2, h3, fun o' y hy hr => ?_⟩
    rcases snoc_get hy with ⟨_, hy⟩ | ⟨e, rfl⟩
    · exact h4 o' y hy hr
    · cases hr

end

section
variable {S : Sys} {c : Ctx} {Q : Exit → Act → World → Prop} {ops : Array Oper}

/-- a new variable comes: its object had no block -/
theorem exec_al {P : Program} {g : G} {w : World} {a : Act} {o : Oper} {T : TypeId} {t : List V} {ob : List VObj} {nt : Nat} {df : List (Fn × List V × List V)} {k : Nat} {i : TypeInfo} {z : Value} {next : Act → World → Prop} (ho : o.op = .alloc T)
    (hs : Sim c g w a ⟨t, ob, nt, df⟩) (hk : ob[k]? = some .none) (hn : c.n0 ≤ k) (ht : ∀ v ∈ t, k ∉ ptrs v) (hob : ∀ (i : Nat) y, ob[i]? = some y → k ∉ ptrsO y) (hdf : noneIn [k] df = true) (hi : P.info? T = some i) (hz : i.zero = some z)
    (h1 : (ofConstAgg z).cells.all V.okCell = true) (h2 : (ofConstAgg z).tokOk = true)
    (H : ∀ g' w' x, Sim c g' w' a ⟨t, ob.set k (.cells true T (ofConstAgg z).cells), nt, df⟩ → VT g' w' ob.length nt (.ptr k 0) x → next (a.put o.dst x) w') : o.wp P a w next Q := by
  have hkl := (List.getElem?_eq_some_iff.1 hk).1
  have hrun : (execOp a.eval o).run P w = .ok (.value (.pointer (some ⟨w.heap.size, 0, none⟩))) (w.alloc (.cells z.cells T)) := by
    simp [execOp, ho, Instr.alloc, zeroValue, typeInfo, hi, hz, newVar, newRow]
  unfold Oper.wp
  rw [hrun]
  have hI := hs.wi.i3
  have hx : ORel (g.lay k w.heap.size) (w.alloc (.cells z.cells T)) ob.length nt w.heap.size (.cells true T (ofConstAgg z).cells) := by
    obtain ⟨hcl, hcr⟩ := cells_rel (ofConstAgg_rel (bs := (g.lay k w.heap.size).bs) (I := g.I) (w := w.alloc (.cells z.cells T)) (n := ob.length) z) h1
    have hone := cells_one (ofConstAgg_rel (bs := (g.lay k w.heap.size).bs) (I := g.I) (w := w.alloc (.cells z.cells T)) (n := ob.length) z) h1
    have htok := cells_tok (g := g) (w := w) (ob := ob) (nt := nt) (fam := g.fam) (ofConstAgg_rel z) (.of_no (ofConstAgg_noTok z)) h1 h2
    exact ⟨z.cells, heap_alloc_new w _, hcl, fun q u y hu hy => ⟨⟨hcr q u y hu hy, htok q u y hu hy⟩, hone y (Array.mem_toList_iff.2 (Array.mem_of_getElem? hy))⟩⟩
  have hlay : ∀ v x, VRel g.bs g.I w ob.length v x → k ∉ ptrs v → VRel (g.lay k w.heap.size).bs (g.lay k w.heap.size).I (w.alloc (.cells z.cells T)) ob.length v x := fun v x h hv => by
    have h1 : VRel (g.lay k w.heap.size).bs g.I w ob.length v x := h.reb fun o ho _ => by
      show (if o = k then w.heap.size else g.bs o) = g.bs o
      rw [if_neg (fun (e : o = k) => hv (e ▸ ho))]
    exact h1.mono (fun o ho => ⟨ho, rfl⟩) fun b q hb => ⟨hb, by
      have := hI b q hb
      simp only [World.cell?]
      rw [heap_alloc_lt _ _ this]⟩
  refine H (g.lay k w.heap.size) _ _ ⟨hs.wi.lay hk hn hob hx, ?_, ?_⟩ ?_
  · refine ⟨hs.ti.size, fun q v x hv hx => ?_, fun b l hb q v hv => by
      obtain ⟨h1, h2⟩ := hs.ti.gl b l hb q v hv
      refine ⟨?_, h2⟩
      rw [← h1]
      have := hI b q h2
      simp only [World.cell?]
      rw [heap_alloc_lt _ _ this]⟩
    have := hs.ti.rel q v x hv hx
    show VT _ _ (ob.set k _).length _ _ _
    rw [List.length_set]
    exact ⟨hlay v x this.rel (ht v (List.mem_of_getElem? hv)), this.tok⟩
  · show DRel _ _ (ob.set k _).length _ _
    rw [List.length_set]
    exact DRel.forget (ms := [k]) (fun v x h hno => hlay v x h fun hm => hno k hm (by simp)) hs.di hdf
  · refine ⟨?_, trivial⟩
    have : VRel (g.lay k w.heap.size).bs (g.lay k w.heap.size).I (w.alloc (.cells z.cells T)) ob.length (.ptr k 0) (.pointer (some ⟨(g.lay k w.heap.size).bs k, 0, none⟩)) := .ptr hkl
    have e : (g.lay k w.heap.size).bs k = w.heap.size := by simp [G.lay]
    rw [e] at this
    exact this

end
end VL

namespace VL
open Go
set_option linter.unusedVariables false
set_option linter.unusedSimpArgs false

section
variable {S : Sys} {c : Ctx} {Q : Exit → Act → World → Prop} {ops : Array Oper}

/-- what stands of one that is still to come -/
structure UOK (S : Sys) (c : Ctx) (all : List Oper) (done : List Nat) (i : Nat) (t : List V) (ob : List VObj) (df : List (Fn × List V × List V)) : Prop where
  flo : isAlAt all i = false → FOK S all i t ob
  al : isAlAt all i = true → AOK S all done i t ob df
  low : isAlAt all i = true → ∀ k, alObj all t i = some k → c.n0 ≤ k
  zero : isAlAt all i = true → ∀ o T p z, all[i]? = some o → o.op = .alloc T → S.P.info? T = some p → p.zero = some z → (ofConstAgg z).cells.all V.okCell = true ∧ (ofConstAgg z).tokOk = true

theorem UOK.unseen {all : List Oper} {done U : List Nat} {t : List V} {ob : List VObj} {df : List (Fn × List V × List V)} (hu : ∀ i ∈ U, UOK S c all done i t ob df) (hU : ∀ m ∈ U, ∀ i ∈ done, isAnc (ancs all []) i m = true → i ∈ U) :
    ∀ k ∈ hidL all U t, Unseen k (masked (slotIn all U) t) ob := by
  intro k hk
  obtain ⟨m, hm, hk⟩ := List.mem_filterMap.1 hk
  have ha : isAlAt all m = true := by
    cases e : isAlAt all m with
    | true => rfl
    | false => rw [alObj_none e] at hk; cases hk
  refine ((hu m hm).al ha).unseen hk fun i hi h => ?_
  rcases h with rfl | h
  · exact hm
  · exact hU m hm i hi h

theorem hideObs_snoc (ks : List Nat) (ob : List VObj) : hideObs ks (ob ++ [.none]) = hideObs ks ob ++ [.none] := by
  apply List.ext_getElem?
  intro q
  rw [hideObs_get]
  rcases Nat.lt_trichotomy q ob.length with h | h | h
  · rw [List.getElem?_append_left h, List.getElem?_append_left (by rw [hideObs_length]; exact h), hideObs_get]
  · subst h
    rw [List.getElem?_append_right (Nat.le_refl _), List.getElem?_append_right (by rw [hideObs_length]; exact Nat.le_refl _), hideObs_length]
    simp
  · rw [List.getElem?_eq_none (by simp; omega), List.getElem?_eq_none (by simp [hideObs_length]; omega)]
    simp

theorem hidesS_nil (s : St) : hidesS [] s = s := by obtain ⟨t, ob, nt, df⟩ := s; rfl

theorem vop_hidesL (S : Sys) (hm : CallMono S) {o : Oper} {t : List V} {nt : Nat} {df : List (Fn × List V × List V)} {ks : List Nat} {ob : List VObj} {K : V → St → Prop} (hu : ∀ j ∈ ks, Unseen j t ob)
    (h : vop S o ⟨t, ob, nt, df⟩ K fun _ _ => False) : vop S o ⟨t, hideObs ks ob, nt, df⟩ (fun v s' => ∃ s, K v s ∧ s' = hidesS ks s) fun _ _ => False := by
  cases ks with
  | cons k r => exact vop_hides S hm hu (fun v s h => ⟨s, h, rfl⟩) h
  | nil =>
    have : (fun v s' => ∃ s, K v s ∧ s' = hidesS [] s) = K := by
      funext v s'
      apply propext
      constructor
      · rintro ⟨s, h, rfl⟩; rw [hidesS_nil]; exact h
      · intro h; exact ⟨s', h, (hidesS_nil s').symm⟩
    rw [this]; exact h

/-- one that is still to come, comes now -/
theorem exec_flo {g : G} {w : World} {a : Act} {s : St} {U : List Nat} {i : Nat} {o : Oper} (ho : ops.toList[i]? = some o) (hi : i ∈ U) (hU : U.Nodup) (hal : isAlAt ops.toList i = false) (hf : FOK S ops.toList i s.t s.objs)
    (hlook : ∀ d ∈ looks ops.toList o, slotIn ops.toList U d = false) (hd : ∀ d, o.dst = some d → slotIn ops.toList (U.erase i) d = false) (hun : ∀ k ∈ hidL ops.toList U s.t, Unseen k (masked (slotIn ops.toList U) s.t) s.objs)
    (hs : Sim c g w a (maskU ops.toList U s)) {Kc : Act → World → Prop} (hk : ∀ g w a, Sim c g w a (maskU ops.toList (U.erase i) s) → Kc a w) : wpOp S.P ops Q i Kc a w := by
  obtain ⟨o', u, ho', h1, h2⟩ := hf
  have : o' = o := by rw [ho] at ho'; exact (Option.some.inj ho').symm
  subst this
  obtain ⟨t, ob, nt, df⟩ := s
  have hag : ∀ d ∈ looks ops.toList o', t[d]? = (masked (slotIn ops.toList U) t)[d]? := fun d hd => by
    rw [masked_get, hlook d hd]; cases t[d]? <;> rfl
  have hop : ops[i]? = some o' := by simpa using ho
  have her : hidL ops.toList (U.erase i) t = hidL ops.toList U t := filterMap_erase (alObj_none hal) U
  have hput : ∀ {g : G} {w : World} {b : Act} {x : Value}, Sim c g w b (maskU ops.toList U ⟨t, ob, nt, df⟩) → VT g w ob.length nt u x → Sim c g w (b.put o'.dst x) (maskU ops.toList (U.erase i) ⟨t, ob, nt, df⟩) := fun hs' hv => by
    have := mask_put (s := ⟨t, hideObs (hidL ops.toList U t) ob, nt, df⟩) ho hi hU (fun d hd' => ⟨h1 d hd', hd d hd'⟩) hs' (by rw [hideObs_length]; exact hv)
    show Sim c _ _ _ ⟨_, hideObs (hidL ops.toList (U.erase i) t) ob, nt, df⟩
    rw [her]; exact this
  unfold wpOp
  rw [hop]
  simp only at h1 h2 ⊢
  rw [looks_gOn hag, vflo_congr S ob (looks_ev hag)] at h2
  rcases h2 with ⟨hg, h2⟩ | ⟨hg, rfl⟩
  · rw [wanted_gOn hs.ti hg, if_pos rfl]
    have h2 := vflo_hides S hun h2
    refine .inl (sound_flo (S := S) (K := fun v s' => v = u ∧ s' = maskU ops.toList U ⟨t, ob, nt, df⟩) (KP := fun _ _ => False) (next := Kc) ?_ hs ?_)
    · refine ⟨fun v x s' g' w' b hk' hs' _ hv => ?_, fun _ _ _ _ _ _ h => h.elim⟩
      obtain ⟨rfl, rfl⟩ := hk'
      refine hk _ _ _ (hput hs' ?_)
      have hv : VT g' w' (hideObs (hidL ops.toList U t) ob).length nt v x := hv
      rw [hideObs_length] at hv; exact hv
    · obtain ⟨v, rfl, h3⟩ := det_vflo S o' _ _ _ h2
      exact h3 _ ⟨rfl, rfl⟩
  · rw [wanted_gOn hs.ti hg, if_neg (by simp)]
    exact hk _ _ _ (hput hs (.of (.tup rfl (by simp)) rfl))

/-- a new variable that was still to come, comes now -/
theorem exec_alU {g : G} {w : World} {a : Act} {s : St} {done U : List Nat} {i : Nat} {o : Oper} (ho : ops.toList[i]? = some o) (hi : i ∈ U) (hU : U.Nodup) (hal : isAlAt ops.toList i = true) (hdone : DoneOk ops.toList done) (hUd : ∀ j ∈ U, j ∈ done)
    (hu : ∀ j ∈ U, UOK S c ops.toList done j s.t s.objs s.defers) (hd : ∀ d, o.dst = some d → slotIn ops.toList (U.erase i) d = false) (hun : ∀ k ∈ hidL ops.toList U s.t, Unseen k (masked (slotIn ops.toList U) s.t) s.objs)
    (hs : Sim c g w a (maskU ops.toList U s)) {Kc : Act → World → Prop} (hk : ∀ g w a, Sim c g w a (maskU ops.toList (U.erase i) s) → Kc a w) : wpOp S.P ops Q i Kc a w := by
  obtain ⟨t, ob, nt, df⟩ := s
  have hA := (hu i hi).al hal
  obtain ⟨k, hkO, hkl⟩ := hA.obj hal
  have hlow := (hu i hi).low hal k hkO
  have hA' := hA
  obtain ⟨o', T, d, j, p, z, a1, a2, a3, a4, a5, a6, a7, a8⟩ := hA
  rw [ho] at a1; cases a1
  obtain ⟨o2, d', b1, b2, b3, b4⟩ := alObj_some hkO
  rw [ho] at b1; cases b1
  rw [a3] at b3; cases b3
  simp only at a4 b4
  rw [a4] at b4; cases b4
  obtain ⟨T', d', e1, e2, e3, e4⟩ := isAl_iff b2
  have hz := (hu i hi).zero hal o T p z ho a2 a5 a6
  have hm : k ∈ hidL ops.toList U t := List.mem_filterMap.2 ⟨i, hi, hkO⟩
  have hun' := hun k hm
  have hjn : (hideObs (hidL ops.toList U t) ob)[k]? = some .none := by
    rw [hideObs_get, if_pos hm]
    simp only at a7
    rw [a7]; rfl
  have hop : ops[i]? = some o := by simpa using ho
  have hg : gOn ops.toList o (masked (slotIn ops.toList U) t) = some true := by unfold gOn; rw [e2]
  unfold wpOp
  rw [hop]
  simp only
  rw [wanted_gOn hs.ti hg, if_pos rfl]
  unfold allClean at a8
  simp only [Bool.and_eq_true] at a8
  refine .inl (exec_al (P := S.P) (k := k) a2 hs hjn hlow hun'.slots (fun q y hy hm' => ?_) a8.2 a5 a6 hz.1 hz.2 fun g' w' x hs' hv => ?_)
  · have hy : (hideObs (hidL ops.toList U t) ob)[q]? = some y := hy
    rw [hideObs_get] at hy
    split at hy
    · obtain ⟨_, _, rfl⟩ := Option.map_eq_some_iff.1 hy
      simp [ptrsO] at hm'
    · rename_i hq
      exact hun'.objs q y (fun e => hq (e ▸ hm)) hy hm'
  · refine hk g' w' _ ?_
    have hob : (hideObs (hidL ops.toList U t) ob).set k (.cells true T (ofConstAgg z).cells) = hideObs (hidL ops.toList (U.erase i) t) ob := by
      apply List.ext_getElem?
      intro q
      have hmem : ∀ q, q ∈ hidL ops.toList U t ↔ q = k ∨ q ∈ hidL ops.toList (U.erase i) t := fun q => by
        constructor
        · intro h
          obtain ⟨m, hm1, hm2⟩ := List.mem_filterMap.1 h
          by_cases e : m = i
          · subst e; rw [hkO] at hm2; cases hm2; exact .inl rfl
          · exact .inr (List.mem_filterMap.2 ⟨m, (List.Nodup.mem_erase_iff hU).2 ⟨e, hm1⟩, hm2⟩)
        · rintro (rfl | h)
          · exact hm
          · obtain ⟨m, hm1, hm2⟩ := List.mem_filterMap.1 h
            exact List.mem_filterMap.2 ⟨m, List.mem_of_mem_erase hm1, hm2⟩
      have hnot : k ∉ hidL ops.toList (U.erase i) t := fun h => by
        obtain ⟨m, hm1, hm2⟩ := List.mem_filterMap.1 h
        obtain ⟨hmi, hm1⟩ := (List.Nodup.mem_erase_iff hU).1 hm1
        have ham : isAlAt ops.toList m = true := by
          cases e : isAlAt ops.toList m with
          | true => rfl
          | false => rw [alObj_none e] at hm2; cases hm2
        exact AOK.apart hdone (hUd m hm1) (Ne.symm hmi) ham hA' hkO hm2
      by_cases hq : q = k
      · subst hq
        rw [List.getElem?_set_self (by rw [hideObs_length]; exact hkl), hideObs_get, if_neg hnot]
        exact a7.symm
      · rw [List.getElem?_set_ne (Ne.symm hq), hideObs_get, hideObs_get]
        by_cases h : q ∈ hidL ops.toList (U.erase i) t
        · rw [if_pos h, if_pos ((hmem q).2 (.inr h))]
        · rw [if_neg h, if_neg fun h' => by
            rcases (hmem q).1 h' with h' | h'
            · exact hq h'
            · exact h h']
    have := mask_put (s := ⟨t, (hideObs (hidL ops.toList U t) ob).set k (.cells true T (ofConstAgg z).cells), nt, df⟩) ho hi hU (u := .ptr k 0)
      (fun d2 hd2 => ⟨by rw [a3] at hd2; cases hd2; exact a4, hd d2 hd2⟩) hs' (by rw [List.length_set]; exact hv)
    show Sim c _ _ _ ⟨_, hideObs (hidL ops.toList (U.erase i) t) ob, nt, df⟩
    rw [← hob]; exact this

theorem undefK_iff {all : List Oper} : ∀ {done : List Nat} {t : List V} {K : List V → Prop}, undefK all done t K → ∃ t', K t' ∧ t'.length = t.length ∧ ∀ (k : Nat) v, t'[k]? = some v → v = .undef ∨ (slotIn all done k = false ∧ t[k]? = some v)
  | [], t, K, h => ⟨t, h, rfl, fun k v hv => .inr ⟨by simp [slotIn], hv⟩⟩
  | i :: r, t, K, h => by
    simp only [undefK] at h
    cases hd : (all[i]?).bind (·.dst) with
    | none =>
      rw [hd] at h
      obtain ⟨t', h1, h2, h3⟩ := undefK_iff h
      refine ⟨t', h1, h2, fun k v hv => ?_⟩
      rcases h3 k v hv with e | ⟨e, e2⟩
      · exact .inl e
      · refine .inr ⟨?_, e2⟩
        simp only [slotIn, List.any_cons, hd] at e ⊢
        simpa using e
    | some d =>
      rw [hd] at h
      simp only at h
      obtain ⟨hlt, h⟩ := setK_iff h
      obtain ⟨t', h1, h2, h3⟩ := undefK_iff h
      refine ⟨t', h1, by rw [h2, List.length_set], fun k v hv => ?_⟩
      rcases h3 k v hv with e | ⟨e, e2⟩
      · exact .inl e
      · by_cases hk : d = k
        · subst hk
          rw [List.getElem?_set_self hlt] at e2
          exact .inl (Option.some.inj e2).symm
        · rw [List.getElem?_set_ne hk] at e2
          refine .inr ⟨?_, e2⟩
          simp only [slotIn, List.any_cons, hd] at e ⊢
          simpa [hk] using e

theorem noAl_iff {all : List Oper} : ∀ {done : List Nat}, noAl all done = true → ∀ i ∈ done, isAlAt all i = false
  | i :: r, h, j, hj => by
    simp only [noAl, Bool.and_eq_true] at h
    rcases List.mem_cons.1 hj with rfl | hj
    · unfold isAlAt
      have := h.1
      split at this
      · rename_i o ho; rw [ho]; simpa using this
      · rename_i ho; rw [ho]
    · exact noAl_iff h.2 j hj

theorem draw_any (hm : CallMono S) (hS : ∀ g args ob K, S.call g args ob K → VCall0 S.P g args ob K) {K : St → Prop} {KP : V → St → Prop} (hk : ∀ s g w a, K s → Sim c g w a s → Q .normal a w) (hkp : ∀ v x s g w a, KP v s → Sim c g w a s → VRel g.bs g.I w s.objs.length v x → Q (.panic [{ v := x, recovered := false }]) a w) (hd : depsOk ops.toList 0 = true) :
    ∀ (N : Nat) (π : List (Nat × Bool)) (done : List Nat) (s : St) (fuel : Nat) (listed : Array Bool) (U : List Nat) (g : G) (w : World) (a : Act), π.length + fuel ≤ N →
      planOk ops.toList (ancs ops.toList []) π done = true → (π.map (·.1)).Nodup → (∀ i ∈ done, i ∉ π.map (·.1)) → (∀ i ∈ done, i < ops.size) → vdraw S ops.toList (ancs ops.toList []) π done s K KP → DoneOk ops.toList done →
      Sim c g w a (maskU ops.toList U s) → U.Nodup → (∀ i ∈ U, i ∈ done ∧ listed.getD i true = false ∧ i ∉ π.map (·.1) ∧ UOK S c ops.toList done i s.t s.objs s.defers) →
      (∀ i, i < ops.size → listed.getD i true = false → i ∈ U ∨ i ∈ π.map (·.1)) → (∀ i ∈ π.map (·.1), listed.getD i true = false) → listed.size = ops.size →
      (∀ (i : Nat) o, ops.toList[i]? = some o → listed.getD i false = true → ∀ e ∈ o.after, Region.binds .any e = true → listed.getD e.on false = true) → U.length + π.length ≤ fuel →
      wpAny S.P .any ops Q fuel listed a w := by
  have hmask : ∀ s : St, maskU ops.toList [] s = s := fun s => by
    obtain ⟨t, ob, nt, df⟩ := s
    have : masked (slotIn ops.toList []) t = t := List.ext_getElem? fun k => by
      rw [masked_get]; simp [slotIn]
    simp only [maskU, this]; rfl
  -- all have come
  have fin : ∀ (s : St) (g : G) (w : World) (a : Act), vdraw S ops.toList (ancs ops.toList []) [] [] s K KP ∨ K s → Sim c g w a (maskU ops.toList [] s) → Q .normal a w := fun s g w a h hs => by
    rw [hmask] at hs
    rcases h with h | h
    · obtain ⟨t, ob, nt, df⟩ := s; exact hk _ _ _ _ h hs
    · exact hk _ _ _ _ h hs
  intro N
  induction N with
  | zero =>
    intro π done s fuel listed U g w a hN hplan hnd hdis hdl h hdone hs hUn hU hcov hun hsize hcl hcount
    have hf : fuel = 0 := by omega
    have hπ : π = [] := List.eq_nil_of_length_eq_zero (by omega)
    have hU0 : U = [] := List.eq_nil_of_length_eq_zero (by omega)
    subst hf; subst hπ; subst hU0
    refine ⟨?_, fin s g w a (.inr (by obtain ⟨t, ob, nt, df⟩ := s; exact h)) hs⟩
    cases hr : Region.ready .any ops listed with
    | nil => rfl
    | cons j r =>
      obtain ⟨h1, o, h2, _⟩ := mem_ready.1 (show j ∈ Region.ready .any ops listed by rw [hr]; simp)
      have := hcov j (Array.getElem?_eq_some_iff.1 h2).1 h1
      simp at this
  | succ N ih =>
    intro π done s fuel listed U g w a hN hplan hnd hdis hdl h hdone hs hUn hU hcov hun hsize hcl hcount
    cases fuel with
    | zero =>
      have hπ : π = [] := List.eq_nil_of_length_eq_zero (by omega)
      have hU0 : U = [] := List.eq_nil_of_length_eq_zero (by omega)
      subst hπ; subst hU0
      refine ⟨?_, fin s g w a (.inr (by obtain ⟨t, ob, nt, df⟩ := s; exact h)) hs⟩
      cases hr : Region.ready .any ops listed with
      | nil => rfl
      | cons j r =>
        obtain ⟨h1, o, h2, _⟩ := mem_ready.1 (show j ∈ Region.ready .any ops listed by rw [hr]; simp)
        have := hcov j (Array.getElem?_eq_some_iff.1 h2).1 h1
        simp at this
    | succ f =>
      have hsizeL : ops.toList.length = ops.size := by simp
      have hnoU : ∀ i ∈ U, ¬ listed.getD i false = true := fun i hi h => by
        have := (unlisted_iff.1 (hU i hi).2.1).2; rw [this] at h; cases h
      have hnoπ : ∀ i ∈ π.map (·.1), ¬ listed.getD i false = true := fun i hi h => by
        have := (unlisted_iff.1 (hun i hi)).2; rw [this] at h; cases h
      refine ⟨fun hr => ?_, fun i hi => ?_⟩
      · -- nothing is ready: all have come
        have hall : ∀ k, k < ops.size → listed.getD k false = true := by
          intro k
          induction k using Nat.strongRecOn with
          | _ k ihk =>
            intro hk'
            cases hl : listed.getD k false with
            | true => rfl
            | false =>
              have hop : ops[k]? = some ops[k] := Array.getElem?_eq_getElem hk'
              have : k ∈ Region.ready .any ops listed := mem_ready.2 ⟨unlisted_iff.2 ⟨by omega, hl⟩, ops[k], hop, fun e he hb => by
                have := depsOk_iff ops.toList hd k ops[k] (by simp) e he hb
                exact ihk e.on (by omega) (by omega)⟩
              rw [hr] at this; cases this
        have hU0 : U = [] := by
          cases U with
          | nil => rfl
          | cons i U =>
            have h1 := unlisted_iff.1 (hU i (by simp)).2.1
            exact absurd (hall i (by omega)) (hnoU i (by simp))
        have hπ0 : π = [] := by
          cases π with
          | nil => rfl
          | cons p r =>
            have h1 := unlisted_iff.1 (hun p.1 (by simp))
            exact absurd (hall p.1 (by omega)) (hnoπ p.1 (by simp))
        subst hU0; subst hπ0
        exact fin s g w a (.inr (by obtain ⟨t, ob, nt, df⟩ := s; exact h)) hs
      · obtain ⟨hi1, o, ho, hdeps⟩ := mem_ready.1 hi
        have hoL : ops.toList[i]? = some o := by simpa using ho
        have hilt : i < ops.size := (Array.getElem?_eq_some_iff.1 ho).1
        have hanc : ∀ j, isAnc (ancs ops.toList []) i j = true → listed.getD j false = true := anc_closed hd (L := fun k => listed.getD k false = true) (fun k p hp hL e he hb => hcl k p hp hL e he hb) i o hoL hdeps
        have hls : ∀ j, (listed.setIfInBounds i true).getD j false = true ↔ j = i ∨ listed.getD j false = true := fun j => listed_set (by omega)
        have hcl' : ∀ (k : Nat) p, ops.toList[k]? = some p → (listed.setIfInBounds i true).getD k false = true → ∀ e ∈ p.after, Region.binds .any e = true → (listed.setIfInBounds i true).getD e.on false = true := fun k p hp hL e he hb => by
          rw [hls] at hL ⊢
          rcases hL with rfl | hL
          · rw [hoL] at hp; cases hp; exact .inr (hdeps e he hb)
          · exact .inr (hcl k p hp hL e he hb)
        have hun' : ∀ j, j ≠ i → (listed.setIfInBounds i true).getD j true = listed.getD j true := fun j hj => getD_set_ne true (Ne.symm hj)
        have hself' : ¬ (listed.setIfInBounds i true).getD i true = false := fun h => by
          have := (unlisted_iff.1 h).2
          rw [(hls i).2 (.inl rfl)] at this; cases this
        have hancl : ∀ m ∈ U, ∀ j ∈ done, isAnc (ancs ops.toList []) j m = true → j ∈ U := fun m hm j hj hjm => by
          have hjl := hdl j hj
          have hjo : ops.toList[j]? = some ops[j] := by simp [hjl]
          have hjn : listed.getD j true = false := by
            cases e : listed.getD j false with
            | false => exact unlisted_iff.2 ⟨by omega, e⟩
            | true => exact absurd (anc_closed hd (L := fun k => listed.getD k false = true) (fun k p hp hL e he hb => hcl k p hp hL e he hb) j _ hjo (fun e he hb => hcl j _ hjo ‹_› e he hb) m hjm) (hnoU m hm)
          rcases hcov j hjl hjn with h | h
          · exact h
          · exact absurd h (hdis j hj)
        have hunS : ∀ k ∈ hidL ops.toList U s.t, Unseen k (masked (slotIn ops.toList U) s.t) s.objs := UOK.unseen (fun m hm => (hU m hm).2.2.2) hancl
        rcases hcov i hilt hi1 with hiU | hiπ
        · -- it is one that is still to come
          obtain ⟨b1, b2, b3, b4⟩ := hU i hiU
          have hexec : (∀ d ∈ looks ops.toList o, slotIn ops.toList U d = false) → (∀ d, o.dst = some d → slotIn ops.toList (U.erase i) d = false) → (∀ g w a, Sim c g w a (maskU ops.toList (U.erase i) s) → wpAny S.P .any ops Q f (listed.setIfInBounds i true) a w) →
              wpOp S.P ops Q i (wpAny S.P .any ops Q f (listed.setIfInBounds i true)) a w := fun e1 e2 e3 => by
            cases hal : isAlAt ops.toList i with
            | false => exact exec_flo hoL hiU hUn hal (b4.flo hal) e1 e2 hunS hs e3
            | true => exact exec_alU hoL hiU hUn hal hdone (fun j hj => (hU j hj).1) (fun j hj => (hU j hj).2.2.2) e2 hunS hs e3
          refine hexec (fun d hdl => ?_) (fun d hdd => ?_) fun g' w' a' hs' => ?_
          · cases hsl : slotIn ops.toList U d with
            | false => rfl
            | true =>
              obtain ⟨j, hj, p, hp, e⟩ := slotIn_iff.1 hsl
              by_cases hji : j = i
              · subst hji
                rw [hoL] at hp; cases hp
                have := hdone.self j b1 o hoL
                rw [dstIn_iff.2 ⟨d, e, hdl⟩] at this; cases this
              · have := hdone.look i b1 j (hU j hj).1 (Ne.symm hji) o p hoL hp (dstIn_iff.2 ⟨d, e, hdl⟩)
                exact absurd (hanc j this) (hnoU j hj)
          · cases hsl : slotIn ops.toList (U.erase i) d with
            | false => rfl
            | true =>
              obtain ⟨j, hj, p, hp, e⟩ := slotIn_iff.1 hsl
              obtain ⟨hji, hj⟩ := (List.Nodup.mem_erase_iff hUn).1 hj
              have := hdone.same i b1 j (hU j hj).1 (Ne.symm hji) o p hoL hp
              rw [sameDst_iff.2 ⟨d, hdd, e⟩] at this; cases this
          · have hpos : 0 < U.length := List.length_pos_of_mem hiU
            refine ih π done s f (listed.setIfInBounds i true) (U.erase i) g' w' a' (by omega) hplan hnd hdis hdl h hdone hs' (hUn.erase i) (fun j hj => ?_) (fun j hj hjl => ?_) (fun j hj => ?_) (by simp [hsize]) hcl' (by rw [List.length_erase_of_mem hiU]; omega)
            · obtain ⟨hji, hj⟩ := (List.Nodup.mem_erase_iff hUn).1 hj
              obtain ⟨q1, q2, q3, q4⟩ := hU j hj
              exact ⟨q1, by rw [hun' j hji]; exact q2, q3, q4⟩
            · have hji : j ≠ i := fun e => by subst e; exact hself' hjl
              rw [hun' j hji] at hjl
              rcases hcov j hj hjl with h | h
              · exact .inl ((List.Nodup.mem_erase_iff hUn).2 ⟨hji, h⟩)
              · exact .inr h
            · have hji : j ≠ i := fun e => by subst e; exact b3 hj
              rw [hun' j hji]; exact hun j hj
        · -- the reckoning goes on
          cases π with
          | nil => simp at hiπ
          | cons p r =>
            obtain ⟨n, fl⟩ := p
            obtain ⟨o', hh⟩ := planOk_cons hplan
            have hnr : n ∉ r.map (·.1) ∧ (r.map (·.1)).Nodup := by simpa using hnd
            have hdis' : ∀ m ∈ done, m ∉ r.map (·.1) := fun m hm h => hdis m hm (by simp only [List.map_cons, List.mem_cons]; exact .inr h)
            have hnd' : n ∉ done := fun h => hdis n h (by simp)
            have hnlt : n < ops.size := by have := (List.getElem?_eq_some_iff.1 hh.op).1; simpa using this
            cases fl with
            | true =>
              obtain ⟨t, ob, nt, df⟩ := s
              have hapart : ∀ {t' : List V}, (∀ k, o'.dst ≠ some k → t'[k]? = t[k]?) → ∀ m ∈ U, ∀ p d, ops.toList[m]? = some p → p.dst = some d → t'[d]? = t[d]? := fun {t'} e2 m hm p d hp hpd => by
                obtain ⟨p', hp', a1, _, _⟩ := hh.apart m (hU m hm).1
                rw [hp] at hp'; cases hp'
                exact e2 d fun e => by rw [sameDst_iff.2 ⟨d, e, hpd⟩] at a1; cases a1
              have hfok : ∀ {t' : List V}, (∀ k, o'.dst ≠ some k → t'[k]? = t[k]?) → ∀ m ∈ U, FOK S ops.toList m t ob → FOK S ops.toList m t' ob := fun {t'} e2 m hm hf => by
                have hno : ∀ l : List Nat, dstIn o'.dst l = false → ∀ d ∈ l, t[d]? = t'[d]? := fun l hl d hdl => (e2 d fun e => by rw [dstIn_iff.2 ⟨d, e, hdl⟩] at hl; cases hl).symm
                obtain ⟨p, hp, a1, a2, a3⟩ := hh.apart m (hU m hm).1
                exact hf.congr hp (hno _ (a2 rfl)) fun d hdd => (e2 d fun e => by rw [sameDst_iff.2 ⟨d, e, hdd⟩] at a1; cases a1).symm
              have hgo : ∀ (t' : List V) (ob' : List VObj) (v : V), t'.length = t.length → (∀ d, o'.dst = some d → t'[d]? = some v) → (∀ k, o'.dst ≠ some k → t'[k]? = t[k]?) →
                  Sim c g w a ⟨masked (slotIn ops.toList U) t, hideObs (hidL ops.toList (n :: U) t') ob', nt, df⟩ → (∀ m ∈ n :: U, UOK S c ops.toList (n :: done) m t' ob' df) → vdraw S ops.toList (ancs ops.toList []) r (n :: done) ⟨t', ob', nt, df⟩ K KP →
                  wpOp S.P ops Q i (wpAny S.P .any ops Q f (listed.setIfInBounds i true)) a w := fun t' ob' v e0 e1 e2 hs' hu' hv => by
                refine (ih r (n :: done) ⟨t', ob', nt, df⟩ (f + 1) listed (n :: U) g w a (by simp at hN; omega) hh.rest hnr.2 (fun m hm => ?_) (fun m hm => ?_) hv (hdone.cons hh) ?_ ?_ (fun j hj => ?_) (fun j hj hjl => ?_) (fun j hj => hun j (by simp at hj ⊢; exact .inr hj)) hsize hcl (by simp at hcount ⊢; omega)).2 i hi
                · rcases List.mem_cons.1 hm with rfl | hm
                  · exact hnr.1
                  · exact hdis' m hm
                · rcases List.mem_cons.1 hm with rfl | hm
                  · exact hnlt
                  · exact hdl m hm
                · refine ⟨hs'.wi, tinv_weaker hs'.ti (by simp [maskU, masked_length, e0]) fun k u hu => ?_, hs'.di⟩
                  simp only [maskU, masked_get] at hu ⊢
                  by_cases hsl : slotIn ops.toList (n :: U) k = true
                  · cases ht' : t'[k]? with
                    | none => rw [ht'] at hu; cases hu
                    | some u' => rw [ht'] at hu; simp [hsl] at hu; exact .inl hu.symm
                  · have hk1 : o'.dst ≠ some k := fun e => hsl (slotIn_iff.2 ⟨n, by simp, o', hh.op, e⟩)
                    have hk2 : slotIn ops.toList U k = false := by
                      cases h : slotIn ops.toList U k with
                      | false => rfl
                      | true =>
                        obtain ⟨j, hj, p, hp, e⟩ := slotIn_iff.1 h
                        exact absurd (slotIn_iff.2 ⟨j, by simp [hj], p, hp, e⟩) hsl
                    rw [e2 k hk1] at hu
                    simp only [hsl, hk2] at hu ⊢
                    exact .inr hu
                · exact List.nodup_cons.2 ⟨fun hnU => (hU n hnU).2.2.1 (by simp), hUn⟩
                · refine ⟨?_, ?_, ?_, hu' j hj⟩
                  · rcases List.mem_cons.1 hj with rfl | hj
                    · simp
                    · exact List.mem_cons_of_mem _ (hU j hj).1
                  · rcases List.mem_cons.1 hj with rfl | hj
                    · exact hun j (by simp)
                    · exact (hU j hj).2.1
                  · rcases List.mem_cons.1 hj with rfl | hj
                    · exact hnr.1
                    · exact fun h => (hU j hj).2.2.1 (by simp at h ⊢; exact .inr h)
                · rcases hcov j hj hjl with h | h
                  · exact .inl (by simp [h])
                  · simp at h
                    rcases h with rfl | h
                    · exact .inl (by simp)
                    · exact .inr (by simpa using h)
              simp only [vdraw, hh.op] at h
              cases hal : isAl o' with
              | true =>
                rw [hal] at h
                simp only at h
                have halA : isAlAt ops.toList n = true := isAlAt_iff.2 ⟨o', hh.op, hal⟩
                split at h
                case h_2 => exact h.elim
                rename_i T d hop hdst
                obtain ⟨p, z, hp, hz, h⟩ := zeroV_iff h
                split at h
                case h_2 => exact h.elim
                rename_i hck
                simp only [Bool.and_eq_true] at hck
                have hpt : ptrsL (ofConstAgg z).cells = [] := by
                  have := hck.2
                  split at this
                  · assumption
                  · cases this
                have h := snocK_iff h
                split at h
                case h_2 => exact h.elim
                rename_i hcl'
                obtain ⟨hlt, h⟩ := setK_iff h
                have hob : (ob ++ [VObj.cells true T (ofConstAgg z).cells])[ob.length]? = some (.cells true T (ofConstAgg z).cells) := by simp
                have e1 : ∀ d', o'.dst = some d' → (t.set d (.ptr ob.length 0))[d']? = some (.ptr ob.length 0) := fun d' e => by
                  rw [hdst] at e; cases e; rw [List.getElem?_set_self hlt]
                have e2 : ∀ k, o'.dst ≠ some k → (t.set d (.ptr ob.length 0))[k]? = t[k]? := fun k hk => by
                  rw [List.getElem?_set_ne (fun e => hk (by rw [← e]; exact hdst))]
                have hobj : alObj ops.toList (t.set d (.ptr ob.length 0)) n = some ob.length := alObj_of hh.op hal hdst (e1 d hdst)
                have hhid : hidL ops.toList (n :: U) (t.set d (.ptr ob.length 0)) = ob.length :: hidL ops.toList U t := by
                  show (n :: U).filterMap _ = _
                  rw [List.filterMap_cons, hobj]
                  show _ :: hidL ops.toList U _ = _
                  rw [hid_congr fun m hm => alObj_congr (hapart e2 m hm)]
                refine hgo (t.set d (.ptr ob.length 0)) _ (.ptr ob.length 0) (by simp) e1 e2 ?_ (fun m hm => ?_) h
                · have : hideObs (hidL ops.toList (n :: U) (t.set d (.ptr ob.length 0))) (ob ++ [VObj.cells true T (ofConstAgg z).cells]) = hideObs (hidL ops.toList U t) ob ++ [.none] := by
                    rw [hhid, hideObs, ← hideObs_snoc]
                    congr 1
                    simp
                  rw [this]
                  refine ⟨hs.wi.snocNone, ?_, ?_⟩
                  · show TInv _ _ (hideObs (hidL ops.toList U t) ob ++ [VObj.none]).length _ _ _
                    rw [List.length_append, List.length_singleton]
                    exact (Ext.more g w _ nt).tinv hs.ti
                  · show DRel _ _ (hideObs (hidL ops.toList U t) ob ++ [VObj.none]).length _ _
                    rw [List.length_append, List.length_singleton]
                    exact (Ext.more g w _ nt).drel hs.di
                · rcases List.mem_cons.1 hm with rfl | hm
                  · refine ⟨(fun e => by rw [halA] at e; cases e), fun _ => ⟨o', T, d, ob.length, p, z, hh.op, hop, hdst, e1 d hdst, hp, hz, hob, ?_⟩, fun _ k hk => ?_, fun _ o2 T2 p2 z2 q1 q2 q3 q4 => ?_⟩
                    · unfold allClean at hcl' ⊢
                      simp only [Bool.and_eq_true] at hcl' ⊢
                      refine ⟨⟨slotsClean_of fun q u hu hmm => ?_, hcl'.1.2⟩, hcl'.2⟩
                      rw [Nat.zero_add]
                      by_cases hq : o'.dst = some q
                      · exact mayName_of (List.mem_cons_self ..) (by rw [hh.op]; exact hq) (.inl rfl)
                      · rw [e2 q hq] at hu
                        have := slotsClean_get hcl'.1.1 hu hmm
                        rw [Nat.zero_add] at this
                        exact mayName_cons this
                    · rw [hobj] at hk; cases hk
                      have := hs.wi.len
                      have e : (maskU ops.toList U ⟨t, ob, nt, df⟩).objs.length = ob.length := hideObs_length _ _
                      rw [e] at this
                      exact this
                    · rw [hh.op] at q1; cases q1
                      rw [hop] at q2; cases q2
                      rw [hp] at q3; cases q3
                      rw [hz] at q4; cases q4
                      exact ⟨hck.1.1, hck.1.2⟩
                  · have hum := (hU m hm).2.2.2
                    have hcong := alObj_congr (hapart e2 m hm)
                    refine ⟨fun e => (hfok e2 m hm (hum.flo e)).snoc, fun e => ?_, fun e k hk => hum.low e k (by rw [← hcong]; exact hk), hum.zero⟩
                    refine ((hum.al e).slot hh.op (hapart e2 m hm) e1 e2 (fun k hk hkm => ?_) e).snoc hpt
                    obtain ⟨k', hk', hlt'⟩ := (hum.al e).obj e
                    rw [hk] at hk'; cases hk'
                    simp [ptrs] at hkm
                    simp only at hlt'
                    omega
              | false =>
                rw [hal] at h
                simp only at h
                have halA : isAlAt ops.toList n = false := by
                  unfold isAlAt; rw [hh.op]; exact hal
                have hflo : ∀ (t' : List V) (v : V), t'.length = t.length → (∀ d, o'.dst = some d → t'[d]? = some v) → (∀ k, o'.dst ≠ some k → t'[k]? = t[k]?) →
                    ((gOn ops.toList o' t = some true ∧ vflo S o' t ob fun u => u = v) ∨ (gOn ops.toList o' t = some false ∧ v = .tup [])) →
                    (∀ m ∈ U, isAlAt ops.toList m = true → isAnc (ancs ops.toList []) n m = false → ∀ j, alObj ops.toList t m = some j → j ∉ ptrs v) → vdraw S ops.toList (ancs ops.toList []) r (n :: done) ⟨t', ob, nt, df⟩ K KP →
                    wpOp S.P ops Q i (wpAny S.P .any ops Q f (listed.setIfInBounds i true)) a w := fun t' v e0 e1 e2 e3 e4 hv => by
                  have hhid : hidL ops.toList (n :: U) t' = hidL ops.toList U t := by
                    show (n :: U).filterMap _ = _
                    rw [List.filterMap_cons, alObj_none halA]
                    exact hid_congr fun m hm => alObj_congr (hapart e2 m hm)
                  refine hgo t' ob v e0 e1 e2 (by rw [hhid]; exact hs) (fun m hm => ?_) hv
                  rcases List.mem_cons.1 hm with rfl | hm
                  · have hno : ∀ l : List Nat, dstIn o'.dst l = false → ∀ d ∈ l, t[d]? = t'[d]? := fun l hl d hdl => (e2 d fun e => by rw [dstIn_iff.2 ⟨d, e, hdl⟩] at hl; cases hl).symm
                    have hag := hno _ (hh.self rfl)
                    exact ⟨fun _ => ⟨o', v, hh.op, e1, by rw [← looks_gOn hag, ← vflo_congr S ob (looks_ev hag)]; exact e3⟩, (fun e => by rw [halA] at e; cases e), (fun e => by rw [halA] at e; cases e), (fun e => by rw [halA] at e; cases e)⟩
                  · have hum := (hU m hm).2.2.2
                    have hcong := alObj_congr (hapart e2 m hm)
                    refine ⟨fun e => hfok e2 m hm (hum.flo e), fun e => ?_, fun e k hk => hum.low e k (by rw [← hcong]; exact hk), hum.zero⟩
                    refine (hum.al e).slot hh.op (hapart e2 m hm) e1 e2 (fun k hk hkm => ?_) e
                    cases hanm : isAnc (ancs ops.toList []) n m with
                    | true => rfl
                    | false => exact absurd hkm (e4 m hm e hanm k hk)
                rcases guardK_iff h with ⟨hg, h⟩ | ⟨hg, h⟩
                · obtain ⟨v, hv, h2⟩ := det_vflo S o' t ob _ h
                  obtain ⟨hv, hp⟩ := pendK_iff hv
                  obtain ⟨t', hv, e0, e1, e2⟩ := put_iff hv
                  exact hflo t' v e0 e1 e2 (.inl ⟨hg, h2 _ rfl⟩) (fun m hm => hp m (hU m hm).1) hv
                · obtain ⟨t', hv, e0, e1, e2⟩ := put_iff h
                  exact hflo t' (.tup []) e0 e1 e2 (.inr ⟨hg, rfl⟩) (fun m hm _ _ j _ h => by simp [ptrs, ptrsL] at h) hv
            | false =>
              have hin : i = n := by
                have hiπ : i = n ∨ i ∈ r.map (·.1) := by simpa only [List.map_cons, List.mem_cons] using hiπ
                rcases hiπ with rfl | hr
                · rfl
                · obtain ⟨p, hp, hpi⟩ := List.mem_map.1 hr
                  have := hh.last rfl p hp
                  rw [hpi] at this
                  exact absurd (hanc n this) (hnoπ n (by simp))
              subst hin
              have hoo : o' = o := by have := hh.op; rw [hoL] at this; exact (Option.some.inj this).symm
              subst hoo
              have hnoanc : ∀ j ∈ U, isAnc (ancs ops.toList []) i j = false := fun j hj => by
                cases h : isAnc (ancs ops.toList []) i j with
                | false => rfl
                | true => exact absurd (hanc j h) (hnoU j hj)
              have hlook : ∀ d ∈ looks ops.toList o', slotIn ops.toList U d = false := fun d hdl => by
                cases hsl : slotIn ops.toList U d with
                | false => rfl
                | true =>
                  obtain ⟨j, hj, p, hp, e⟩ := slotIn_iff.1 hsl
                  obtain ⟨p', hp', a1, a2, a3⟩ := hh.apart j (hU j hj).1
                  rw [hp] at hp'; cases hp'
                  have := a3 (dstIn_iff.2 ⟨d, e, hdl⟩)
                  rw [hnoanc j hj] at this; cases this
              obtain ⟨t, ob, nt, df⟩ := s
              have hag : ∀ d ∈ looks ops.toList o', t[d]? = (masked (slotIn ops.toList U) t)[d]? := fun d hd => by
                rw [masked_get, hlook d hd]; cases t[d]? <;> rfl
              have hgo : ∀ (t1 t2 : List V) (ob' : List VObj) (nt' : Nat) (df' : List (Fn × List V × List V)) (v : V) (x : Value) (g' : G) (w' : World) (b : Act), t2.length = t1.length → (∀ d, o'.dst = some d → t2[d]? = some v) → (∀ k, o'.dst ≠ some k → t2[k]? = t1[k]?) →
                  (St.re S ops.toList (ancs ops.toList []) i t done ⟨t2, ob', nt', df'⟩ fun s => vdraw S ops.toList (ancs ops.toList []) r done s K KP) → Sim c g' w' b ⟨masked (slotIn ops.toList U) t1, hideObs (hidL ops.toList U t) ob', nt', df'⟩ → VT g' w' ob'.length nt' v x →
                  wpAny S.P .any ops Q f (listed.setIfInBounds i true) (b.put o'.dst x) w' := fun t1 t2 ob' nt' df' v x g' w' b e0 e1 e2 hre hsb hv => by
                obtain ⟨h1, h2⟩ := recheck_iff hre
                have hcong : ∀ m ∈ U, alObj ops.toList t2 m = alObj ops.toList t m := fun m hm => by
                  cases hal : isAlAt ops.toList m with
                  | false => rw [alObj_none hal, alObj_none hal]
                  | true => exact alObj_congr ((h2 m (hU m hm).1 (hnoanc m hm)).1 hal).2
                have hhid : hidL ops.toList U t2 = hidL ops.toList U t := hid_congr hcong
                refine ih r done ⟨t2, ob', nt', df'⟩ f (listed.setIfInBounds i true) U g' w' _ (by simp at hN; omega) hh.rest hnr.2 hdis' hdl h1 hdone ?_ hUn (fun j hj => ?_) (fun j hj hjl => ?_) (fun j hj => ?_) (by simp [hsize]) hcl' (by simp at hcount; omega)
                · show Sim c _ _ _ ⟨masked (slotIn ops.toList U) t2, hideObs (hidL ops.toList U t2) ob', nt', df'⟩
                  rw [hhid]
                  exact sim_put (m := slotIn ops.toList U) (ob := hideObs (hidL ops.toList U t) ob') hsb (by rw [hideObs_length]; exact hv) e0 e1 e2
                · obtain ⟨q1, q2, q3, q4⟩ := hU j hj
                  have hji : j ≠ i := fun e => by subst e; exact q3 (by simp)
                  have hrc := h2 j q1 (hnoanc j hj)
                  exact ⟨q1, by rw [hun' j hji]; exact q2, fun h => q3 (by simp at h ⊢; exact .inr h), hrc.2, fun e => (hrc.1 e).1, fun e k hk => q4.low e k (by rw [← hcong j hj]; exact hk), q4.zero⟩
                · have hji : j ≠ i := fun e => by subst e; exact hself' hjl
                  rw [hun' j hji] at hjl
                  rcases hcov j hj hjl with h | h
                  · exact .inl h
                  · simp at h
                    rcases h with rfl | h
                    · exact absurd rfl hji
                    · exact .inr (by simpa using h)
                · have hji : j ≠ i := fun e => by subst e; exact hnr.1 hj
                  rw [hun' j hji]; exact hun j (by simp at hj ⊢; exact .inr hj)
              simp only [vdraw, hh.op] at h
              unfold wpOp
              rw [ho]
              simp only
              rcases guardK_iff h with ⟨hg, h⟩ | ⟨hg, h⟩
              · rw [looks_gOn hag] at hg
                rw [wanted_gOn hs.ti hg, if_pos rfl]
                have h := vop_mask S hm (m := slotIn ops.toList U) (fun x hx d e => hlook d (List.mem_append_left _ (List.mem_filterMap.2 ⟨x, hx, by rw [e]⟩))) h
                cases hna : noAl ops.toList done with
                | true =>
                  have hno := noAl_iff hna
                  have hh0 : ∀ t : List V, hidL ops.toList U t = [] := fun t => by
                    unfold hidL
                    rw [List.filterMap_eq_nil_iff]
                    exact fun j hj => alObj_none (hno j (hU j hj).1)
                  have hs0 : Sim c g w a ⟨masked (slotIn ops.toList U) t, ob, nt, df⟩ := by
                    have := hs
                    simp only [maskU, hh0] at this
                    exact this
                  refine .inl (sound_op (S := S) hS (next := wpAny S.P .any ops Q f (listed.setIfInBounds i true)) ?_ hs0 h)
                  refine ⟨fun v x s' g' w' b hk' hs' _ hv => ?_, fun v x s' g' w' b hk' hs' hv => ?_⟩
                  · obtain ⟨s1, hk', rfl⟩ := hk'
                    obtain ⟨t1, ob1, nt1, df1⟩ := s1
                    obtain ⟨t2, hk', e0, e1, e2⟩ := put_iff hk'
                    refine hgo t1 t2 ob1 nt1 df1 v x g' w' b e0 e1 e2 hk' ?_ hv
                    rw [hh0]; exact hs'
                  · obtain ⟨s1, hk', rfl⟩ := hk'
                    obtain ⟨t1, ob1, nt1, df1⟩ := s1
                    simp only [pdraw, hna] at hk'
                    obtain ⟨t2, hk', e0, e1⟩ := undefK_iff hk'
                    refine hkp v x ⟨t2, ob1, nt1, df1⟩ g' w' b hk' ⟨hs'.wi, tinv_weaker hs'.ti (by simp [maskS, masked_length, e0]) fun k u hu => ?_, hs'.di⟩ hv
                    rcases e1 k u hu with e | ⟨e, e2⟩
                    · exact .inl e
                    · refine .inr ?_
                      have : slotIn ops.toList U k = false := by
                        cases h : slotIn ops.toList U k with
                        | false => rfl
                        | true =>
                          obtain ⟨j, hj, p, hp, e3⟩ := slotIn_iff.1 h
                          rw [slotIn_iff.2 ⟨j, (hU j hj).1, p, hp, e3⟩] at e; cases e
                      simp only [maskS, masked_get, e2, this]
                      rfl
                | false =>
                have hpf : (fun v s' => ∃ s1, pdraw ops.toList done s1 (KP v) ∧ s' = maskS (slotIn ops.toList U) s1) = fun (_ : V) (_ : St) => False := by
                  funext v s'
                  apply propext
                  constructor
                  · rintro ⟨⟨t1, ob1, nt1, df1⟩, hp, _⟩
                    simp only [pdraw, hna] at hp
                  · exact False.elim
                rw [hpf] at h
                have h := vop_hidesL S hm hunS h
                refine .inl (sound_op (S := S) hS (next := wpAny S.P .any ops Q f (listed.setIfInBounds i true)) ?_ hs h)
                refine ⟨fun v x s' g' w' b hk' hs' _ hv => ?_, fun _ _ _ _ _ _ h => h.elim⟩
                obtain ⟨_, ⟨s1, hk', rfl⟩, rfl⟩ := hk'
                obtain ⟨t1, ob1, nt1, df1⟩ := s1
                obtain ⟨t2, hk', e0, e1, e2⟩ := put_iff hk'
                refine hgo t1 t2 ob1 nt1 df1 v x g' w' b e0 e1 e2 hk' hs' ?_
                have hv : VT g' w' (hideObs (hidL ops.toList U t) ob1).length nt1 v x := hv
                rw [hideObs_length] at hv; exact hv
              · rw [looks_gOn hag] at hg
                rw [wanted_gOn hs.ti hg, if_neg (by simp)]
                obtain ⟨t2, hk', e0, e1, e2⟩ := put_iff h
                exact hgo t t2 ob nt df (.tup []) undef g w a e0 e1 e2 hk' hs (.of (.tup rfl (by simp)) rfl)

theorem draw_sound (hm : CallMono S) (hS : ∀ g args ob K, S.call g args ob K → VCall0 S.P g args ob K) {id : Nat} {s : St} {K : St → Prop} {KP : V → St → Prop} {g : G} {w : World} {a : Act}
    (h : drawOk S.P ops.toList (planOf S.mu ops.toList) = true ∧ vdraw S ops.toList (ancs ops.toList []) (planOf S.mu ops.toList) [] s K KP) (hkp : ∀ v x s g w a, KP v s → Sim c g w a s → VRel g.bs g.I w s.objs.length v x → Q (.panic [{ v := x, recovered := false }]) a w) (hk : ∀ s g w a, K s → Sim c g w a s → Q .normal a w) (hs : Sim c g w a s) :
    (Code.region id ops true).wp S.P Q a w := by
  obtain ⟨hok, h⟩ := h
  simp only [drawOk, Bool.and_eq_true] at hok
  obtain ⟨⟨⟨⟨h1, h2⟩, h3⟩, h4⟩, h5⟩ := hok
  refine wp_region_any h1 ?_
  have hs' : Sim c g w.drew a s := ⟨hs.wi.drew, (Ext.drew g w s.objs.length s.nt).tinv hs.ti, (Ext.drew g w s.objs.length s.nt).drel hs.di⟩
  have hmask : maskU ops.toList [] s = s := by
    obtain ⟨t, ob, nt, df⟩ := s
    have : masked (slotIn ops.toList []) t = t := List.ext_getElem? fun k => by
      rw [masked_get]; simp [slotIn]
    simp only [maskU, this]; rfl
  have hnd := nodupN_iff h3
  have hin : ∀ i, i < ops.size → i ∈ (planOf S.mu ops.toList).map (·.1) := fun i hi => allIn_iff h4 i (by simpa using hi)
  have hlt : ∀ i ∈ (planOf S.mu ops.toList).map (·.1), i < ops.size := by
    have : ∀ (π : List (Nat × Bool)) (done : List Nat), planOk ops.toList (ancs ops.toList []) π done = true → ∀ i ∈ π.map (·.1), i < ops.size := by
      intro π
      induction π with
      | nil => intro _ _ i hi; simp at hi
      | cons p r ih =>
        obtain ⟨n, fl⟩ := p
        intro done h i hi
        obtain ⟨o, hh⟩ := planOk_cons h
        have hi : i = n ∨ i ∈ r.map (·.1) := by simpa only [List.map_cons, List.mem_cons] using hi
        rcases hi with rfl | hr
        · have := (List.getElem?_eq_some_iff.1 hh.op).1; simpa using this
        · exact ih _ hh.rest i hr
    exact this _ _ h5
  have hun : ∀ i, i < ops.size → (Array.replicate ops.size false).getD i true = false := fun i hi => by simp [Array.getD, hi]
  have hlen : (planOf S.mu ops.toList).length ≤ ops.size := by
    have : ((planOf S.mu ops.toList).map (·.1)).length ≤ (List.range ops.size).length := List.Nodup.length_le_of_subset hnd fun i hi => by simpa using hlt i hi
    simpa using this
  exact draw_any hm hS hk hkp h2 _ (planOf S.mu ops.toList) [] s ops.size _ [] g w.drew a (Nat.le_refl _) h5 hnd (by simp) (by simp) h ⟨by simp, by simp, by simp⟩ (by rw [hmask]; exact hs') .nil (by simp) (fun i hi _ => .inr (hin i hi))
    (fun i hi => hun i (hlt i hi)) (by simp) (fun i o _ h => by simp [Array.getD] at h) (by simpa using hlen)

end
end VL

namespace VL
open Go
set_option linter.unusedVariables false
set_option linter.unusedSimpArgs false

section
variable {S : Sys} {c : Ctx} {Q : Exit → Act → World → Prop}

theorem sound_code (hm : CallMono S) (hS : ∀ g args ob K, S.call g args ob K → VCall0 S.P g args ob K)
    (hL : ∀ (code : Code) (s : St) (K : Ex → St → Prop) (Q : Exit → Act → World → Prop) (g : G) (w : World) (a : Act), S.loop code s K → Fits c K Q → Sim c g w a s → (Code.loop code).wp S.P Q a w)
    (hT : ∀ (code : Code) (s : St) (K : Ex → St → Prop) (Q : Exit → Act → World → Prop) (g : G) (w : World) (a : Act), S.step code s K → Fits c K Q → Sim c g w a s → code.wp S.P Q a w) :
    ∀ (code : Code) (s : St) (K : Ex → St → Prop) (Q : Exit → Act → World → Prop) (g : G) (w : World) (a : Act), vwp S code s K → Fits c K Q → Sim c g w a s → code.wp S.P Q a w := by
  intro code
  induction code with
  | skip => intro s K Q g w a h hf hs; exact wp_skip (hf.normal _ _ _ _ h hs)
  | region id ops draw =>
    intro s K Q g w a h hf hs
    cases draw with
    | true => exact draw_sound hm hS h (fun v x s g w a hk hs hv => hf.pan v x s g w a hk hs hv) (fun s g w a hk hs => hf.normal s g w a hk hs) hs
    | false => exact wp_region_list (sound_ops hS (fun s g w a hk hs => hf.normal s g w a hk hs) (fun v x s g w a hk hs hv => hf.pan v x s g w a hk hs hv) _ s g w a hs h)
  | seq x y ihx ihy =>
    intro s K Q g w a h hf hs
    refine wp_seq (ihx s _ _ g w a h ?_ hs)
    exact ⟨fun s g w a hk hs => hT y s K Q g w a hk hf hs, fun i s g w a hk hs => hf.exit i s g w a hk hs, fun s g w a hk hs => hf.ret s g w a hk hs, fun v x s g w a hk hs hv => hf.pan v x s g w a hk hs hv⟩
  | cond x a' b' iha ihb =>
    intro s K Q g w a h hf hs
    obtain ⟨t, ob, nt, df⟩ := s
    obtain ⟨v, hv, hk⟩ := ev_sound hs.ti h
    cases v <;> try exact hk.elim
    rename_i b
    have hx : a.eval x = .bool b := by
      have := hv.rel
      generalize a.eval x = e at this
      cases this; rfl
    rcases bif_elim hk with ⟨rfl, hk⟩ | ⟨rfl, hk⟩
    · exact wp_cond_true hx (iha _ K Q g w a hk hf hs)
    · exact wp_cond_false hx (ihb _ K Q g w a hk hf hs)
  | block i x ih =>
    intro s K Q g w a h hf hs
    refine wp_block (ih s _ _ g w a h ?_ hs)
    refine ⟨fun s g w a hk hs => hf.normal s g w a hk hs, fun j s g w a hk hs => ?_, fun s g w a hk hs => hf.ret s g w a hk hs, fun v x s g w a hk hs hv => hf.pan v x s g w a hk hs hv⟩
    simp only at hk
    by_cases e : j = i
    · subst e
      simp only [Nat.beq_refl] at hk
      simp only [Exit.inBlock, if_true]
      exact hf.normal _ _ _ _ hk hs
    · have hb : Nat.beq j i = false := by cases hb : Nat.beq j i with
        | true => exact absurd (Nat.eq_of_beq_eq_true hb) e
        | false => rfl
      rw [hb] at hk
      simp only [Exit.inBlock, if_neg e]
      exact hf.exit _ _ _ _ _ hk hs
  | loop x ih => intro s K Q g w a h hf hs; exact hL x s K Q g w a h hf hs
  | exit i => intro s K Q g w a h hf hs; exact wp_exit (hf.exit _ _ _ _ _ h hs)
  | ret => intro s K Q g w a h hf hs; exact wp_ret (hf.ret _ _ _ _ h hs)
  | _ => intro s K Q g w a h hf hs; exact h.elim

end
end VL
