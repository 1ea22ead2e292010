/- Part Rb of the proof: VLOp9 VLOp10 VLOpB VLOpC VLOpD VLOpE VLUns VLOpF VLCall VLCall2 VLSound VLSound2 VLDraw1 VLDraw2 VLObs VLDraw3 VLReal VLHide VLAl. -/
import Derived.Test.YtdjbfmfkeokfaaaGreatDoorRa
import Derived.Laws.MakeOwn
import Derived.MapKept
import Derived.Lib.UnsafeStr
set_option linter.unusedVariables false
set_option linter.unusedSimpArgs false
set_option maxRecDepth 100000
namespace VL
open Go
theorem mapK_strip {K : List V -> Prop} {i : Nat} : ∀ {l : List V}, mapK (fun v K => (V.strip i v).force K) l K -> K (l.map (V.strip i))
 | [], h => h
 | x :: r, h => by
   have h : (V.strip i x).force _ := h
   rw [force_eq] at h
   exact mapK_strip (l := r) h
theorem mapK_stripO {K : List VObj -> Prop} {i : Nat} : ∀ {l : List VObj}, mapK (fun o K => match o with
 | VObj.cells w T cs => mapK (fun v K => (V.strip i v).force K) cs fun cs => K (VObj.cells w T cs)
 | o => K o) l K -> K (l.map (stripO i))
 | [], h => h
 | x :: r, h => by
   simp only [mapK] at h
   cases x with
   | cells w T cs => exact mapK_stripO (l := r) (mapK_strip h)
   | none => exact mapK_stripO (l := r) h
   | map es => exact mapK_stripO (l := r) h
   | buf m z l => exact mapK_stripO (l := r) h
theorem strips_iff {i : Nat} {t : List V} {ob : List VObj} {nt : Nat} {df : List (Fn × List V × List V)} {K : St -> Prop} (h : strips i ⟨t, ob, nt, df⟩ K) : K ⟨t.map (V.strip i), ob.map (stripO i), nt, df⟩ :=
 mapK_stripO (mapK_strip h)
section
variable {S : Sys} {c : Ctx} {g : G} {w : World} {a : Act} {o : Oper} {K KP : V -> St -> Prop} {next : Act -> World -> Prop} {Q : Exit -> Act -> World -> Prop}
 {t : List V} {ob : List VObj} {nt : Nat} {df : List (Fn × List V × List V)}
theorem Sim.strips (h : Sim c g w a ⟨t, ob, nt, df⟩) (i : Nat) : Sim c g w a ⟨t.map (V.strip i), ob.map (stripO i), nt, df⟩ := by
 have hl : (ob.map (stripO i)).length = ob.length := List.length_map ..
 refine ⟨h.wi.strips i, ⟨by simp [h.ti.size], fun k v x hv hx => ?_, h.ti.gl⟩, ?_⟩
 · rw [List.getElem?_map] at hv
   obtain ⟨u, hu, rfl⟩ := Option.map_eq_some_iff.1 hv
   show VT g w (ob.map (stripO i)).length nt _ _
   rw [hl]
   exact (h.ti.rel k u x hu hx).strip i
 · show DRel g w (ob.map (stripO i)).length _ _
   rw [hl]; exact h.di
theorem append_sound {ts : Array TypeId} {e ty : TypeId} {T : TypeId} (h0 : ts[0]? = some T) (hu : S.P.underlying T = some (.slice e)) (hso : srcOk S.P ts = true) (H : Nexts c a o.dst K KP next Q) (hs : Sim c g w a ⟨t, ob, nt, df⟩)
 {l m : List V} {r : Room} {cs cx : Value} (hl : VT g w ob.length nt (.sl l r) cs) (hx : ∀ z, (∀ y ∈ m, y.cells.length = z) -> z = szOf S.P e -> ∃ news, Src S.P g w z cx m news)
 (hrun : ∀ x' w', (Builtin.append_ ts ty #[cs, cx]).run S.P w = .ok x' w' -> (execOp a.eval o).run S.P w = .ok (.value x') w')
 (h : appendK S.P e l r m ⟨t, ob, nt, df⟩ K) : o.wp S.P a w next Q := by
 unfold appendK at h
 obtain ⟨inf, hi, hpos, h⟩ := szK_iff h
 split at h
 case h_2 => exact h.elim
 rename_i zv by_ hzv hby
 split at h
 case h_2 => exact h.elim
 rename_i hzs
 have hzs : zv.cells.size = inf.size := by simpa using hzs
 have hz : inf.zero = some zv := by simpa [hi] using hzv
 have hbi : inf.bytes = by_ + 1 := by simpa [byOf, hi] using hby
 obtain ⟨hfit, hmz, h⟩ := h
 obtain ⟨news, hsrc⟩ := hx _ hmz (szOf_info hi).symm
 obtain ⟨base, len, cap, rfl, hcl⟩ : ∃ base len cap, cs = .slice base len cap /\ len = l.length := by
  cases hl.rel with
  | slnil => exact ⟨_, _, _, rfl, rfl⟩
  | sl u h1 => exact ⟨_, _, _, rfl, h1⟩
 have hl0 : VRel g.bs g.I w ob.length (.sl l .no) (.slice base len cap) := hl.rel.room _ (by simp)
 cases r with
 | no => exact h.elim
 | ex =>
   obtain ⟨hlz, hk⟩ := h
   have hcap : cap = len := by
    cases hl.rel with
    | slnil => rfl
    | sl u h1 h2 h3 => exact h3 rfl
   have hs' : Sim c (g.claim nt ⟨0, 0, 0⟩) w a ⟨t, ob, nt + 1, df⟩ := by
    refine ⟨hs.wi.more ⟨0, 0, 0⟩ (fun h => absurd h (by simp)), ⟨hs.ti.size, fun k v x hv hx => ?_, hs.ti.gl⟩, hs.di.same rfl rfl⟩
    have := hs.ti.rel k v x hv hx
    exact ⟨this.rel, (this.tok.fam this.tok.nt fun j hj => by simp [G.claim, hj]).ext (Nat.le_succ nt) fun _ _ => rfl⟩
   have hsrc' : Src S.P (g.claim nt ⟨0, 0, 0⟩) w inf.size cx m news := ⟨hsrc.len, hsrc.first, hsrc.size, hsrc.one, hsrc.rel, hsrc.ok⟩
   have hft : ∀ v ∈ t, V.free nt v := fun v hv => by
    obtain ⟨k, hk⟩ := List.mem_iff_getElem?.1 hv
    have hlt : k < a.tmps.size := by rw [← hs.ti.size]; exact (List.getElem?_eq_some_iff.1 hk).1
    exact (hs.ti.rel k v a.tmps[k] hk (by simp [hlt])).tok.nt
   have hfo : freeO nt ob := fun o wr U cs ho v hv => by
    obtain ⟨arr, _, g2, g3⟩ := obj_cells hs.wi ho
    obtain ⟨k, hk⟩ := List.mem_iff_getElem?.1 hv
    have hlt : k < arr.size := by rw [← g2]; exact (List.getElem?_eq_some_iff.1 hk).1
    exact (g3 k v arr[k] hk (by simp [hlt])).1.tok.nt
   obtain ⟨x', w', g', h1, h2, h3⟩ := append_tok (ty := ty) h0 hso hu hi hz hzs hpos (by omega) hs' (i := nt) (Nat.lt_succ_self nt) hft hfo hl0 hlz (.inl hcap) hsrc' (by rw [hbi]; exact hfit)
   unfold Oper.wp
   rw [hrun _ _ h1]
   exact H.val _ _ _ _ _ a hk h2 rfl h3
 | tok i sz =>
   simp only at h
   split at h
   case h_2 => exact h.elim
   rename_i hsz
   have hsz : sz = inf.size := Nat.eq_of_beq_eq_true hsz
   subst hsz
   have hk := strips_iff h
   obtain ⟨hnt, _, hlz, ad, len', cap', he, hroom⟩ := hl.tok
   cases he
   have hs' := hs.strips i
   have hft : ∀ v ∈ t.map (V.strip i), V.free i v := fun v hv => by
    obtain ⟨u, _, rfl⟩ := List.mem_map.1 hv
    exact strip_free i u
   have hlen : (ob.map (stripO i)).length = ob.length := List.length_map ..
   obtain ⟨x', w', g', h1, h2, h3⟩ := append_tok (ty := ty) h0 hso hu hi hz hzs hpos (by omega) hs' (i := i) hnt hft (strips_free i ob) (by rw [hlen]; exact hl0) hlz hroom hsrc (by rw [hbi]; exact hfit)
   unfold Oper.wp
   rw [hrun _ _ h1]
   exact H.val _ _ _ _ _ a hk h2 rfl h3
end
end VL

namespace VL
open Go
section
variable {S : Sys} {c : Ctx} {g : G} {w : World} {a : Act} {o : Oper} {K KP : V -> St -> Prop} {next : Act -> World -> Prop} {Q : Exit -> Act -> World -> Prop}
 {t : List V} {ob : List VObj} {nt : Nat} {df : List (Fn × List V × List V)}
theorem args_of {n nt : Nat} {cl : Call} {vs : List V} (h1 : vs.length = cl.args.toList.length) (h2 : ∀ (k : Nat) v x, vs[k]? = some v -> cl.args.toList[k]? = some x -> VT g w n nt v (a.eval x)) :
 vs.length = (cl.args.map a.eval).size /\ ∀ (k : Nat) v x, vs[k]? = some v -> (cl.args.map a.eval)[k]? = some x -> VT g w n nt v x := by
 refine ⟨by simp [h1], fun k v x hv hx => ?_⟩
 rw [Array.getElem?_map] at hx
 obtain ⟨y, hy, rfl⟩ := Option.map_eq_some_iff.1 hx
 exact h2 k v y hv (by simpa using hy)
theorem arg1 {n nt : Nat} {ca : Array Value} {x : V} (h1 : [x].length = ca.size) (h2 : ∀ (k : Nat) v y, [x][k]? = some v -> ca[k]? = some y -> VT g w n nt v y) :
 ∃ c1, ca = #[c1] /\ VT g w n nt x c1 := by
 obtain ⟨l⟩ := ca
 match l, h1 with
 | [c1], _ => exact ⟨c1, rfl, h2 0 x c1 rfl rfl⟩
theorem arg2 {n nt : Nat} {ca : Array Value} {x y : V} (h1 : [x, y].length = ca.size) (h2 : ∀ (k : Nat) v z, [x, y][k]? = some v -> ca[k]? = some z -> VT g w n nt v z) :
 ∃ c1 c2, ca = #[c1, c2] /\ VT g w n nt x c1 /\ VT g w n nt y c2 := by
 obtain ⟨l⟩ := ca
 match l, h1 with
 | [c1, c2], _ => exact ⟨c1, c2, rfl, h2 0 x c1 rfl rfl, h2 1 y c2 rfl rfl⟩
theorem exec_builtin {b : Builtin} {cl : Call} (ho : o.op = .call cl) (hc : cl.callee = .builtin b) :
 execOp a.eval o = Go.builtin b cl.argTypes o.type (cl.args.map fun | .const _ => true | _ => false) (cl.args.map a.eval) := by
 simp only [execOp, ho, resolve, hc]
 rfl
theorem argT_some {P : Program} {ts : Array TypeId} {d : TypeDesc} (h : argT P ts = some d) : ∃ T, ts[0]? = some T /\ P.underlying T = some d := by
 unfold argT at h
 cases h0 : ts[0]? with
 | none => simp [h0] at h
 | some T => exact ⟨T, rfl, by simpa [h0] using h⟩
theorem sl_shape {n : Nat} {v : V} {x : Value} {l : List V} (h : VRel g.bs g.I w n v x) (hv : (∃ r, v = .sl l r) \/ v = .slp l \/ ∃ m, v = .spare l m) : ∃ base cap, x = .slice base l.length cap /\ ∀ m, v = .spare l m -> cap = l.length + m.length := by
 cases h <;> simp at hv
 · obtain ⟨rfl, _⟩ := hv; exact ⟨_, _, rfl, by simp⟩
 · rename_i hl _ _ _ _ _; obtain ⟨rfl, _⟩ := hv; exact ⟨_, _, by rw [hl], by simp⟩
 · rename_i hl _ _ _ _; subst hv; exact ⟨_, _, by rw [hl], by simp⟩
 · rename_i hl hcap _ _ _
   obtain rfl := hv
   exact ⟨_, _, by rw [hl], fun m e => by cases e; exact hcap⟩
theorem sound_builtinF {b : Builtin} {cl : Call} (ho : o.op = .call cl) (hc : cl.callee = .builtin b) (H : Nexts c a o.dst K KP next Q) (hs : Sim c g w a ⟨t, ob, nt, df⟩)
 (hh : evs t cl.args.toList fun args => vbuiltinF S b cl.argTypes args fun v => K v ⟨t, ob, nt, df⟩) : o.wp S.P a w next Q := by
 obtain ⟨vs, k1, k2, h⟩ := evs_sound hs.ti hh
 clear hh
 obtain ⟨h1, h2⟩ := args_of k1 k2
 clear k1 k2
 have hx := exec_builtin (a := a) ho hc
 generalize cl.args.map a.eval = ca at h1 h2 hx
 have hval : ∀ {v : V} {x : Value}, (Go.builtin b cl.argTypes o.type (cl.args.map fun | .const _ => true | _ => false) ca).run S.P w = .ok (.value x) w -> VT g w ob.length nt v x -> K v ⟨t, ob, nt, df⟩ -> o.wp S.P a w next Q :=
  fun hr hv hk => H.same hs (by rw [hx]; exact hr) hv hk
 unfold vbuiltinF at h
 split at h
 · rename_i hT
   obtain ⟨T, h0, hu⟩ := argT_some hT
   obtain ⟨c1, rfl, r1⟩ := arg1 h1 h2
   have hr := r1.rel
   cases hr
   exact hval (x := _) (by simp [Go.builtin, Builtin.len_, h0, run_underlying hu]; rfl) (.of .int rfl) h
 · rename_i hT
   obtain ⟨T, h0, hu⟩ := argT_some hT
   obtain ⟨c1, rfl, r1⟩ := arg1 h1 h2
   obtain ⟨base, cap, rfl, _⟩ := sl_shape r1.rel (.inl ⟨_, rfl⟩)
   exact hval (x := _) (by simp [Go.builtin, Builtin.len_, h0, run_underlying hu]; rfl) (.of .int rfl) h
 · rename_i hT
   obtain ⟨T, h0, hu⟩ := argT_some hT
   obtain ⟨c1, rfl, r1⟩ := arg1 h1 h2
   obtain ⟨base, cap, rfl, _⟩ := sl_shape r1.rel (.inr (.inl rfl))
   exact hval (x := _) (by simp [Go.builtin, Builtin.len_, h0, run_underlying hu]; rfl) (.of .int rfl) h
 · rename_i hT
   obtain ⟨T, h0, hu⟩ := argT_some hT
   obtain ⟨c1, rfl, r1⟩ := arg1 h1 h2
   obtain ⟨base, cap, rfl, _⟩ := sl_shape r1.rel (.inr (.inr ⟨_, rfl⟩))
   exact hval (x := _) (by simp [Go.builtin, Builtin.len_, h0, run_underlying hu]; rfl) (.of .int rfl) h
 · rename_i hT
   obtain ⟨T, h0, hu⟩ := argT_some hT
   obtain ⟨c1, rfl, r1⟩ := arg1 h1 h2
   have hr := r1.rel
   cases hr
   exact hval (x := _) (by simp [Go.builtin, Builtin.len_, h0, run_underlying hu]; rfl) (.of .int rfl) h
 · rename_i hT
   obtain ⟨T, h0, hu⟩ := argT_some hT
   obtain ⟨c1, rfl, r1⟩ := arg1 h1 h2
   have hr := r1.rel
   cases hr
   exact hval (x := _) (by simp only [Go.builtin, Builtin.cap_, h0]; simp [run_underlying hu]; rfl) (.of .int rfl) h
 · rename_i hT
   obtain ⟨T, h0, hu⟩ := argT_some hT
   obtain ⟨c1, rfl, r1⟩ := arg1 h1 h2
   exact hval (x := _) (by simp [Go.builtin, Builtin.len_, h0, run_underlying hu]; rfl) (.of .int rfl) h
 · rename_i e0 o1 z lo n cp hT
   obtain ⟨T, h0, hu⟩ := argT_some hT
   obtain ⟨c1, rfl, r1⟩ := arg1 h1 h2
   obtain ⟨hc, h⟩ := h
   have hr := r1.rel
   cases hr with | slo ho' hl ha hf =>
   have ha := ha.resolve_left (by omega)
   subst ha
   have hbp : VRel g.bs g.I w ob.length (.bp o1 z lo 0) (.pointer (some ⟨g.bs o1, lo * z + 0, none⟩)) := .bp ho'
   refine hval (x := _) ?_ (.of hbp rfl) h
   have hne : cp ≠ 0 := by omega
   have e : ∀ (ts : Array TypeId) (ty : TypeId) (ad : Addr), (Builtin.unsafeSliceData_ ts ty #[.slice (some ad) n cp]).run S.P w = .ok (.pointer (some ad)) w := fun ts ty ad => by
    have : Builtin.unsafeSliceData_ ts ty #[.slice (some ad) n cp] = (if cp ≠ 0 then pure (.pointer (some ad)) else do
     if (← viewAt ad.block).isSome then pure (.pointer (some ad)) else pure (.pointer (some ⟨← newObj (.view ad (← elemOf ty)), 0, none⟩))) := rfl
    rw [this, if_pos hne]; rfl
   simp only [Go.builtin, Sem.run_bind, e, Result.andThen_ok, Nat.add_zero]
   rfl
 · rename_i hT
   obtain ⟨T, h0, hu⟩ := argT_some hT
   obtain ⟨c1, rfl, r1⟩ := arg1 h1 h2
   obtain ⟨base, cap, rfl, hcap⟩ := sl_shape r1.rel (.inr (.inr ⟨_, rfl⟩))
   rw [hcap _ rfl] at hx hval
   exact hval (x := _) (by simp only [Go.builtin, Builtin.cap_, h0]; simp [run_underlying hu]; rfl) (.of .int rfl) h
 · obtain ⟨c1, c2, rfl, r1, r2⟩ := arg2 h1 h2
   have e1 := r1.rel
   have e2 := r2.rel
   cases e1; cases e2
   exact hval (x := _) (by simp [Go.builtin, Builtin.min_, Builtin.min2]) (.of .int rfl) h.2
 · obtain ⟨c1, c2, rfl, r1, r2⟩ := arg2 h1 h2
   have e1 := r1.rel
   have e2 := r2.rel
   cases e1; cases e2
   exact hval (x := _) (by simp [Go.builtin, Builtin.max_, Builtin.max2]) (.of .int rfl) h.2
 · exact h.elim
theorem untok_args {n : Nat} {vs : List V} {ca : Array Value} (h1 : vs.length = ca.size) (h2 : ∀ (k : Nat) v x, vs[k]? = some v -> ca[k]? = some x -> VRel g.bs g.I w n v x) :
 (vs.map V.untok).length = ca.size /\ ∀ (k : Nat) v x, (vs.map V.untok)[k]? = some v -> ca[k]? = some x -> VRel g.bs g.I w n v x := by
 refine ⟨by simp [h1], fun k v x hv hx => ?_⟩
 rw [List.getElem?_map] at hv
 obtain ⟨u, hu, rfl⟩ := Option.map_eq_some_iff.1 hv
 exact (h2 k u x hu hx).untok
theorem append_args {n : Nat} {vs us : List V} {ca da : Array Value} (h1 : vs.length = ca.size) (h2 : ∀ (k : Nat) v x, vs[k]? = some v -> ca[k]? = some x -> VRel g.bs g.I w n v x)
 (h3 : us.length = da.size) (h4 : ∀ (k : Nat) v x, us[k]? = some v -> da[k]? = some x -> VRel g.bs g.I w n v x) :
 (vs ++ us).length = (ca ++ da).size /\ ∀ (k : Nat) v x, (vs ++ us)[k]? = some v -> (ca ++ da)[k]? = some x -> VRel g.bs g.I w n v x := by
 refine ⟨by simp [h1, h3], fun k v x hv hx => ?_⟩
 rw [List.getElem?_append] at hv
 rw [Array.getElem?_append] at hx
 rw [h1] at hv
 split at hv
 · rename_i hk; rw [if_pos hk] at hx; exact h2 k v x hv hx
 · rename_i hk; rw [if_neg hk] at hx; exact h4 _ v x hv hx
theorem sound_panic {x : Operand} (ho : o.op = .panic x) (H : Nexts c a o.dst K KP next Q) (hs : Sim c g w a ⟨t, ob, nt, df⟩)
 (h : ev t x fun x => match x with
   | .ifc T v => KP (.ifc T v) ⟨t, ob, nt, df⟩
   | _ => False) : o.wp S.P a w next Q := by
 obtain ⟨v, hv, hk⟩ := ev_sound hs.ti h
 cases v <;> try exact hk.elim
 rename_i T v
 have hr := hv.rel
 generalize hx : a.eval x = e at hr
 cases hr
 rename_i y hy
 unfold Oper.wp
 have : (execOp a.eval o).run S.P w = .halt (.panic (.iface T y)) w := by simp [execOp, ho, hx, Instr.panic, goPanic]
 rw [this, Oper.upon_panic]
 exact H.pan _ _ _ g w a hk hs (.ifc hy)
theorem sound_defer {cl : Call} {f : Operand} (ho : o.op = .defer cl) (hc : cl.callee = .value f) (H : Nexts c a o.dst K KP next Q) (hs : Sim c g w a ⟨t, ob, nt, df⟩)
 (h0 : ev t f fun f => evs t cl.args.toList fun args => match f with
   | .fn (.func g) first cap => mapK V.untokK (first ++ args) fun a => mapK V.untokK cap fun cap => K (.tup []) ⟨t, ob, nt, (.func g, a, cap) :: df⟩
   | _ => False) : o.wp S.P a w next Q := by
 obtain ⟨v, hv, h00⟩ := ev_sound hs.ti h0
 clear h0
 obtain ⟨vs, k1, k2, h⟩ := evs_sound hs.ti h00
 clear h00
 obtain ⟨h1, h2⟩ := args_of k1 k2
 cases v <;> try exact h.elim
 rename_i f' first cap
 cases f' <;> try exact h.elim
 rename_i fid
 have h := mapK_untok (mapK_untok h)
 have hr := hv.rel
 generalize hx : a.eval f = e at hr
 cases hr
 rename_i ca cb ha hb i1 i2
 unfold Oper.wp
 have hrun : (execOp a.eval o).run S.P w = .ok (.defer { target := .fn (.func fid) cb, args := ca ++ cl.args.map a.eval }) w := by
  simp [execOp, ho, resolve, hc, hx, Deferred.ofValue]
 rw [hrun, Oper.upon_defer]
 obtain ⟨j1, j2⟩ := append_args ha hb h1 fun k v x hv hx => (h2 k v x hv hx).rel
 obtain ⟨m1, m2⟩ := untok_args j1 j2
 obtain ⟨n1, n2⟩ := untok_args i1 i2
 exact H.val _ _ ⟨t, ob, nt, _⟩ g w { a with defers := _ :: a.defers } h ⟨hs.wi, hs.ti, .cons ⟨cb, rfl, m1, n1, m2, n2⟩ hs.di⟩ rfl (.of (.tup rfl (by simp)) rfl)
end
end VL

namespace VL
open Go
section
variable {S : Sys} {c : Ctx} {g : G} {w : World} {a : Act} {o : Oper} {K KP : V -> St -> Prop} {next : Act -> World -> Prop} {Q : Exit -> Act -> World -> Prop}
 {t : List V} {ob : List VObj} {nt : Nat} {df : List (Fn × List V × List V)}
theorem Sim.drew (hs : Sim c g w a ⟨t, ob, nt, df⟩) : Sim c g w.drew a ⟨t, ob, nt, df⟩ :=
 ⟨hs.wi.drew, (Ext.drew g w ob.length nt).tinv hs.ti, (Ext.drew g w ob.length nt).drel hs.di⟩
theorem buf_alloc (hs : Sim c g w a ⟨t, ob, nt, df⟩) {row : Array Value} {e : TypeId} {z : Nat} {L : List V} (hsz : row.size = L.length * z) (hok : ∀ x ∈ L, x.cells.length = z /\ x.cells.all V.okCell = true)
 (hr : ∀ (k : Nat) v y, (L.flatMap V.cells)[k]? = some v -> row[k]? = some y -> VRel g.bs g.I w 0 v y /\ y.oneCell' = true) {n cap : Nat} (hn : n <= cap) {wt : Option TypeId} (hwt : ∀ t, wt = some t -> t = e) :
 ∃ g', Sim c g' (w.alloc (.cells row e)) a ⟨t, ob ++ [.buf false z L wt], nt, df⟩ /\ VT g' (w.alloc (.cells row e)) (ob.length + 1) nt (.slo ob.length z 0 n cap) (.slice (some ⟨w.heap.size, 0, none⟩) n cap) := by
 have he := Ext.alloc hs.wi (.cells row e)
 have hw := WInv.alloc hs.wi (.cells row e) (.buf false z L wt) (.inr ⟨row, e, heap_alloc_new w _, hwt, hsz, hok, fun k v y hv hy => ⟨he.rel0 (hr k v y hv hy).1, (hr k v y hv hy).2⟩⟩)
 have hlen : (ob ++ [VObj.buf false z L wt]).length = ob.length + 1 := by simp
 refine ⟨_, ⟨hw, ?_, ?_⟩, .of ?_ rfl⟩
 · show TInv _ _ (ob ++ [VObj.buf false z L wt]).length _ _ _
   rw [hlen]; exact he.tinv hs.ti
 · show DRel _ _ (ob ++ [VObj.buf false z L wt]).length _ _
   rw [hlen]; exact he.drel hs.di
 · refine .slo (by omega) hn (.inr ?_) (.inr ⟨_, _, rfl⟩)
   simp
theorem slo_src {P : Program} {n : Nat} (hw : WInv c g w ob nt) {o z lo m cp : Nat} {l : List V} {mv : Bool} {ty : Option TypeId} {x : Value} (ho : ob[o]? = some (.buf mv z l ty)) (h : VRel g.bs g.I w n (.slo o z lo m cp) x) (hb : lo + m <= l.length) :
 ∃ news, Src P g w z x ((l.drop lo).take m) news := by
 cases h with | @slo _ _ _ _ _ _ ad hlt hl ha hf =>
 have hml : ((l.drop lo).take m).length = m := by simp; omega
 by_cases hm : m = 0
 · subst hm
   refine ⟨[], fun w' => by simp [Builtin.lenOf], fun w' _ k hk => ?_, by simp, by simp, by simp, by simp⟩
   have hk : k = 0 := by simpa using hk
   subst hk
   cases ad with
   | none => simp [Builtin.firstCells]
   | some b => simpa using run_firstCells_some (P := P) w' z 0 b 0 cp [] (by simp) (by simp)
 · obtain rfl := ha.resolve_left (by omega)
   have hne : l ≠ [] := by intro e; rw [e] at hb; simp at hb; omega
   obtain ⟨arr, T, g1, _, g2, g3, g4⟩ := (hw.obj o _ ho).resolve_left hne
   have hz : ∀ y ∈ l, y.cells.length = z := fun y hy => (g3 y hy).1
   have hz' : ∀ y ∈ (l.drop lo).take m, y.cells.length = z := fun y hy => hz y (List.mem_of_mem_drop (List.mem_of_mem_take hy))
   have hfl := flat_length hz
   have hfl' := flat_length hz'
   rw [hml] at hfl'
   have hmul : lo * z + m * z <= arr.size := by rw [g2, ← Nat.add_mul]; exact Nat.mul_le_mul_right z hb
   have hflat : ∀ k, k < m * z -> (((l.drop lo).take m).flatMap V.cells)[k]? = (l.flatMap V.cells)[lo * z + k]? := fun k hk => by
    rw [flat_take (sz := z) (fun y hy => g3 y (List.mem_of_mem_drop hy)), flat_drop g3, List.getElem?_take, if_pos hk, List.getElem?_drop]
   have hex : ∀ k, k < m * z -> ∃ v, (l.flatMap V.cells)[lo * z + k]? = some v := fun k hk => ⟨_, List.getElem?_eq_getElem (by rw [hfl, ← g2]; omega)⟩
   refine ⟨(List.range (m * z)).map fun k => arr.getD (lo * z + k) undef, fun w' => by rw [hml]; rfl, fun w' hw' k hk => ?_, by rw [hml]; simp, fun y hy => ?_, fun k v y hv hy => ?_, fun y hy => g3 y (List.mem_of_mem_drop (List.mem_of_mem_take hy))⟩
   · rw [hml] at hk
     refine run_firstCells_some (P := P) w' z k ⟨g.bs o, lo * z, none⟩ m cp _ (by simp [List.length_take]; first | exact Nat.min_eq_left (Nat.mul_le_mul_right z hk) | rw [Nat.min_eq_left hk]) fun j v hj => ?_
     rw [List.getElem?_take] at hj
     split at hj
     case isFalse => cases hj
     rename_i hjk
     have hlt : j < m * z := Nat.lt_of_lt_of_le hjk (Nat.mul_le_mul_right z hk)
     rw [List.getElem?_map, List.getElem?_range hlt] at hj
     cases hj
     have hja : lo * z + j < arr.size := by omega
     rw [Addr.add_mid]
     simp [World.cell?, hw', g1, Array.getD, hja]
   · obtain ⟨k, hk, rfl⟩ := List.mem_map.1 hy
     have hlt : k < m * z := by simpa using hk
     obtain ⟨v, hv⟩ := hex k hlt
     have hja : lo * z + k < arr.size := by omega
     have := (g4 _ v arr[lo * z + k] hv (by simp [hja])).2
     simpa [Array.getD, hja] using this
   · have hlt : k < m * z := by have := (List.getElem?_eq_some_iff.1 hy).1; simpa using this
     rw [List.getElem?_map, List.getElem?_range hlt] at hy
     cases hy
     rw [hflat k hlt] at hv
     have hja : lo * z + k < arr.size := by omega
     have := (g4 _ v arr[lo * z + k] hv (by simp [hja])).1
     simpa [Array.getD, hja] using this
theorem srcK_sound {P : Program} {e : TypeId} {ts : Array TypeId} {v : V} {x : Value} {K : List V -> Prop} (hw : WInv c g w ob nt) (hv : VRel g.bs g.I w ob.length v x) (h : srcK P e ts ob v K) :
 ∃ m, K m /\ ∀ z, (∀ y ∈ m, y.cells.length = z) -> z = szOf P e -> ∃ news, Src P g w z x m news := by
 unfold srcK at h
 split at h
 · exact ⟨_, h, fun z hz _ => src_slice hv hz⟩
 · rename_i m sp
   refine ⟨_, h, fun z hz _ => ?_⟩
   cases hv with
   | spare u hl hcap hz' hc hu =>
     rename_i b0 off0 len0 cap0 sz0
     have hr3 : VRel g.bs g.I w ob.length (.sl m .no) (.slice (some ⟨b0, off0, none⟩) len0 cap0) := .sl u hl (by omega) (by simp) (fun x hx => hz' x (List.mem_append_left _ hx))
      (fun k v hk => hc k v (by rw [List.flatMap_append, List.getElem?_append_left (List.getElem?_eq_some_iff.1 hk).1]; exact hk))
      (fun k v hk => hu k v (by rw [List.flatMap_append, List.getElem?_append_left (List.getElem?_eq_some_iff.1 hk).1]; exact hk))
     exact src_slice hr3 hz
 · rename_i s
   split at h
   · rename_i hz1
     refine ⟨_, h, fun z hz he => ?_⟩
     cases hv
     rw [he, hz1]; exact src_string s
   · exact h.elim
 · rename_i o1 z1 lo n cp
   obtain ⟨x1, h1, h⟩ := getK_iff h
   cases x1 <;> try exact h.elim
   rename_i mv z' l ty'
   simp only at h
   split at h
   case h_2 => exact h.elim
   rename_i hz
   have hz := Nat.eq_of_beq_eq_true hz
   subst hz
   obtain ⟨hb, h⟩ := h
   refine ⟨_, h, fun z hz he => ?_⟩
   obtain ⟨news, hn⟩ := slo_src (P := P) hw h1 hv hb
   by_cases hm : (l.drop lo).take n = []
   · rw [hm] at hn ⊢
     refine ⟨news, hn.len, fun w' hw' k hk => ?_, by rw [hn.size]; simp, hn.one, hn.rel, by simp⟩
     have hnn : news = [] := List.eq_nil_of_length_eq_zero (by rw [hn.size]; simp)
     subst hnn
     have hk : k = 0 := by simpa using hk
     subst hk
     cases hv with | @slo _ _ _ _ _ _ ad hlt hl ha hf =>
     cases ad with
     | none => simp [Builtin.firstCells]
     | some b => simpa using run_firstCells_some (P := P) w' z 0 b n cp [] (by simp) (by simp)
   · obtain ⟨y, hy⟩ := List.exists_mem_of_ne_nil _ hm
     have : z = z1 := by rw [← hz y hy, (hn.ok y hy).1]
     subst this
     exact ⟨news, hn⟩
 · exact h.elim
theorem Src.drewW {P : Program} {z : Nat} {x : Value} {m : List V} {news : List Value} (h : Src P g w z x m news) : Src P g w.drew z x m news :=
 ⟨h.len, fun w' hw' => h.first w' hw', h.size, h.one, fun k v y hv hy => (Ext.drew g w 0 0).rel0 (h.rel k v y hv hy), h.ok⟩
theorem elems_of_zero {P : Program} {e : TypeId} {inf : TypeInfo} {zv : Value} (hi : P.info? e = some inf) (hzs : zv.cells.size = inf.size) (hok : (ofConstAgg zv).cells.all V.okCell = true) (n : Nat) :
 (∀ x ∈ List.replicate n (ofConstAgg zv), x.cells.length = inf.size /\ x.cells.all V.okCell = true) /\
 ∀ (k : Nat) v y, ((List.replicate n (ofConstAgg zv)).flatMap V.cells)[k]? = some v -> (Builtin.zeroCells zv.cells n)[k]? = some y -> VRel g.bs g.I w 0 v y /\ y.oneCell' = true := by
 have hag := agg_cells (bs := g.bs) (I := g.I) (w := w) (n := 0) zv
 have hl : (ofConstAgg zv).cells.length = inf.size := by rw [hag.1, hzs]
 refine ⟨fun x hx => by rw [List.eq_of_mem_replicate hx]; exact ⟨hl, hok⟩, fun k v y hv hy => ?_⟩
 have hz : ∀ x ∈ List.replicate n (ofConstAgg zv), x.cells.length = inf.size := fun x hx => by rw [List.eq_of_mem_replicate hx]; exact hl
 have hlt : k < n * inf.size := by
  have := (List.getElem?_eq_some_iff.1 hv).1
  rwa [flat_length hz, List.length_replicate] at this
 have hpos : 0 < inf.size := by
  rcases Nat.eq_zero_or_pos inf.size with h | h
  · rw [h] at hlt; simp at hlt
  · exact h
 have hdiv : k / inf.size < n := Nat.div_lt_of_lt_mul (by rw [Nat.mul_comm]; exact hlt)
 have hmod : k % inf.size < inf.size := Nat.mod_lt _ hpos
 have hget := flat_at hz (i := k / inf.size) (x := ofConstAgg zv) (by rw [List.getElem?_replicate, if_pos hdiv]) (k % inf.size) hmod
 rw [Nat.div_add_mod' k inf.size, hv] at hget
 have hy' : zv.cells[k % inf.size]? = some y := by
  simp only [Builtin.zeroCells, hzs] at hy
  rw [Array.getElem?_map] at hy
  obtain ⟨j, hj, rfl⟩ := Option.map_eq_some_iff.1 hy
  have hjk : j = k := by
   by_cases hkl : k < n * inf.size
   · rw [Array.getElem?_eq_getElem (by simpa using hkl)] at hj
     simp at hj; exact hj.symm
   · exact absurd hlt hkl
  subst hjk
  have : j % inf.size < zv.cells.size := by omega
  simp [this]
 have hr := hag.2 _ v y hget.symm hy'
 exact ⟨hr, hr.oneCell (List.all_eq_true.1 hok v (List.mem_of_getElem? hget.symm))⟩
theorem zero_row {zv : Value} {n : Nat} : (Builtin.zeroCells zv.cells n).size = n * zv.cells.size := by simp [Builtin.zeroCells]
theorem rows_append {L M : List V} {ra rb : Array Value} {z : Nat} (hL : ∀ x ∈ L, x.cells.length = z) (hsa : ra.size = L.length * z)
 (h1 : ∀ (k : Nat) v y, (L.flatMap V.cells)[k]? = some v -> ra[k]? = some y -> VRel g.bs g.I w 0 v y /\ y.oneCell' = true) (h2 : ∀ (k : Nat) v y, (M.flatMap V.cells)[k]? = some v -> rb[k]? = some y -> VRel g.bs g.I w 0 v y /\ y.oneCell' = true) :
 ∀ (k : Nat) v y, ((L ++ M).flatMap V.cells)[k]? = some v -> (ra ++ rb)[k]? = some y -> VRel g.bs g.I w 0 v y /\ y.oneCell' = true := by
 intro k v y hv hy
 rw [List.flatMap_append, List.getElem?_append, flat_length hL] at hv
 rw [Array.getElem?_append, hsa] at hy
 split at hv
 · rename_i hk; rw [if_pos hk] at hy; exact h1 k v y hv hy
 · rename_i hk; rw [if_neg hk] at hy; exact h2 _ v y hv hy
theorem Src.rows {P : Program} {z : Nat} {x : Value} {m : List V} {news : List Value} (h : Src P g w z x m news) : ∀ (k : Nat) v y, (m.flatMap V.cells)[k]? = some v -> news.toArray[k]? = some y -> VRel g.bs g.I w 0 v y /\ y.oneCell' = true := fun k v y hv hy => by
 rw [List.getElem?_toArray] at hy
 exact ⟨h.rel k v y hv hy, h.one y (List.mem_of_getElem? hy)⟩
theorem append_grow (hs : Sim c g w a ⟨t, ob, nt, df⟩) {ts : Array TypeId} {T e ty : TypeId} {inf : TypeInfo} {zv : Value} (h0 : ts[0]? = some T) (hso : srcOk S.P ts = true) (hu : S.P.underlying T = some (.slice e)) (hi : S.P.info? e = some inf) (hz : inf.zero = some zv)
 (hzs : zv.cells.size = inf.size) (hzok : (ofConstAgg zv).cells.all V.okCell = true) (hby : 0 < inf.bytes) {base : Option Addr} {n cap : Nat} {x : Value} {l m : List V} {olds news : List Value}
 (hl : Src S.P g w inf.size (.slice base n cap) l olds) (hln : l.length = n) (hm : Src S.P g w inf.size x m news) (hgrow : cap < n + m.length) (hfit : (n + m.length) * inf.bytes <= 140737488355328) {wt : Option TypeId} (hwt : ∀ t, wt = some t -> t = e) :
 ∃ (sp : List V) (w' : World) (g' : G), (∀ y ∈ sp, y.cells.length = inf.size) /\ (Builtin.append_ ts ty #[.slice base n cap, x]).run S.P w = .ok (.slice (some ⟨w.heap.size, 0, none⟩) (n + m.length) (n + m.length + sp.length)) w' /\
  Sim c g' w' a ⟨t, ob ++ [.buf false inf.size (l ++ m ++ sp) wt], nt, df⟩ /\ VT g' w' (ob.length + 1) nt (.slo ob.length inf.size 0 (n + m.length) (n + m.length + sp.length)) (.slice (some ⟨w.heap.size, 0, none⟩) (n + m.length) (n + m.length + sp.length)) := by
 have hneed : n + m.length <= 140737488355328 := Nat.le_trans (Nat.le_mul_of_pos_right _ hby) hfit
 have hol : (Builtin.firstCells inf.size n (.slice base n cap)).run S.P w.drew = .ok olds.toArray w.drew := by have := hl.cells w.drew rfl; rwa [hln] at this
 have hrun := run_append_grow' (ty := ty) h0 hso hu hi hz (hm.len w) hol (hm.cells w.drew rfl) hgrow (by omega) hfit
 generalize hnc : grownCap w (n + m.length) cap e = nc at hrun
 have hge : n + m.length <= nc := by rw [← hnc]; exact grownCap_ge w _ _ e
 obtain ⟨hsp1, hsp2⟩ := elems_of_zero (g := g) (w := w.drew) hi hzs hzok (nc - (n + m.length))
 have hlz : ∀ y ∈ l, y.cells.length = inf.size := fun y hy => (hl.ok y hy).1
 have hmz : ∀ y ∈ m, y.cells.length = inf.size := fun y hy => (hm.ok y hy).1
 have hok : ∀ y ∈ l ++ m ++ List.replicate (nc - (n + m.length)) (ofConstAgg zv), y.cells.length = inf.size /\ y.cells.all V.okCell = true := fun y hy => by
  rcases List.mem_append.1 hy with hy | hy
  · rcases List.mem_append.1 hy with hy | hy
    · exact hl.ok y hy
    · exact hm.ok y hy
  · exact hsp1 y hy
 have hrel := rows_append (g := g) (w := w.drew) (L := l ++ m) (M := List.replicate (nc - (n + m.length)) (ofConstAgg zv)) (ra := olds.toArray ++ news.toArray) (rb := Builtin.zeroCells zv.cells (nc - (n + m.length))) (z := inf.size)
  (fun y hy => (List.mem_append.1 hy).elim (hlz y) (hmz y)) (by simp [hl.size, hm.size, Nat.add_mul]) (rows_append hlz (by simp [hl.size]) hl.drewW.rows hm.drewW.rows) hsp2
 obtain ⟨g', h1, h2⟩ := buf_alloc hs.drew (row := olds.toArray ++ news.toArray ++ Builtin.zeroCells zv.cells (nc - (n + m.length))) (e := e) (z := inf.size) (L := l ++ m ++ List.replicate (nc - (n + m.length)) (ofConstAgg zv))
  (by simp [hl.size, hm.size, zero_row, hzs, Nat.add_mul, Nat.add_assoc]) hok hrel (n := n + m.length) (cap := nc) hge hwt
 have hcap : n + m.length + (List.replicate (nc - (n + m.length)) (ofConstAgg zv)).length = nc := by simp; omega
 refine ⟨List.replicate (nc - (n + m.length)) (ofConstAgg zv), _, g', fun y hy => (hsp1 y hy).1, ?_, h1, ?_⟩
 · rw [hcap]; exact hrun
 · rw [hcap]; exact h2
theorem run_append_any {P : Program} {ts : Array TypeId} {T e ty : TypeId} {inf : TypeInfo} (h0 : ts[0]? = some T) (hs : srcOk P ts = true) (hu : P.underlying T = some (.slice e)) (hi : P.info? e = some inf) {base : Option Addr} {len cap m : Nat} {x : Value}
 (hlen : (Builtin.lenOf x).run P w = .ok m w) {news : List Value} (hf : (Builtin.firstCells inf.size m x).run P w = .ok news.toArray w) (hfit : len + m <= cap) {w' : World}
 (hst : ∀ b, base = some b -> (storeCells (b.add (len * inf.size)) news).run P w = .ok () w') (hno : base = none -> w' = w) :
 (Builtin.append_ ts ty #[.slice base len cap, x]).run P w = .ok (.slice base (len + m) cap) w' := by
 have hsz : (Go.sizeOf e).run P w = .ok inf.size w := run_size hi
 rw [append_one h0 hs]
 cases base with
 | none => rw [hno rfl]; simp [Builtin.append_, run_underlying hu, hsz, hlen, hfit, hf]
 | some b => simp [Builtin.append_, run_underlying hu, hsz, hlen, hfit, hf, hst b rfl]
theorem over_row (hs : Sim c g w a ⟨t, ob, nt, df⟩) {mv : Bool} {ty : Option TypeId} {o1 z i : Nat} {l m : List V} {news : List Value} (ho : ob[o1]? = some (.buf mv z l ty)) (hm : ∀ y ∈ m, y.cells.length = z /\ y.cells.all V.okCell = true) (hns : news.length = m.length * z)
 (hr : ∀ (k : Nat) v y, (m.flatMap V.cells)[k]? = some v -> news[k]? = some y -> VRel g.bs g.I w 0 v y /\ y.oneCell' = true) (hb : i + m.length <= l.length) (hne : m ≠ []) :
 ∃ w', (storeCells ⟨g.bs o1, i * z, none⟩ news).run S.P w = .ok () w' /\ Sim c g w' a ⟨t, ob.set o1 (.buf mv z (l.take i ++ m ++ l.drop (i + m.length)) ty), nt, df⟩ /\ Ext g w ob.length nt g w' ob.length nt := by
 have hmpos : 0 < m.length := List.length_pos_iff.2 hne
 have hlne : l ≠ [] := fun e => by rw [e, List.length_nil] at hb; omega
 obtain ⟨arr, T, g1, _, g2, g3, g4⟩ := (hs.wi.obj o1 _ ho).resolve_left hlne
 have hlz : ∀ y ∈ l, y.cells.length = z := fun y hy => (g3 y hy).1
 have hmul : i * z + m.length * z <= arr.size := by rw [g2, ← Nat.add_mul]; exact Nat.mul_le_mul_right z hb
 have hone : ∀ y ∈ news, y.oneCell' = true := fun y hy => by
  obtain ⟨k, hk⟩ := List.mem_iff_getElem?.1 hy
  have hlt : k < m.length * z := by rw [← hns]; exact (List.getElem?_eq_some_iff.1 hk).1
  have hfl := flat_length fun y hy => (hm y hy).1
  obtain ⟨v, this⟩ : ∃ v, (m.flatMap V.cells)[k]? = some v := ⟨_, List.getElem?_eq_getElem (by rw [hfl]; exact hlt)⟩
  exact (hr k _ y this hk).2
 have hst := run_storeCells_at (P := S.P) (g.bs o1) (i * z) T news 0 arr w g1 (by rw [Nat.add_zero, hns]; exact hmul) hone
 simp only [Nat.add_zero] at hst
 have hlen : (l.take i ++ m ++ l.drop (i + m.length)).length = l.length := by simp; omega
 obtain ⟨hw2, he2⟩ := buf_write (l' := l.take i ++ m ++ l.drop (i + m.length)) hs.wi ho g1 g2 hlen hlne (fun y hy => by
  rcases List.mem_append.1 hy with hy | hy
  · rcases List.mem_append.1 hy with hy | hy
    · exact g3 y (List.mem_of_mem_take hy)
    · exact hm y hy
  · exact g3 y (List.mem_of_mem_drop hy)) (arr' := (arr.toList.take (i * z) ++ news ++ arr.toList.drop (i * z + news.length)).toArray) (by simp only [List.size_toArray, List.length_append, List.length_take, List.length_drop, Array.length_toList]; omega)
  (fun k v y hv hy => by
    rw [flat_splice hlz (fun y hy => (hm y hy).1) hb] at hv
    rw [row_splice (by rw [hns]; exact hmul), hns] at hy
    split at hv
    · rename_i hk; rw [if_pos hk] at hy; exact hr _ v y hv hy
    · rename_i hk; rw [if_neg hk] at hy; exact g4 k v y hv hy)
 exact ⟨_, hst, ⟨hw2, by simpa using he2.tinv hs.ti, by simpa using he2.drel hs.di⟩, he2⟩
theorem set_self_get {l : List VObj} {i : Nat} {x : VObj} (h : l[i]? = some x) : l.set i x = l := by
 apply List.ext_getElem?
 intro k
 rw [List.getElem?_set]
 split
 · rename_i e; subst e
   split
   · exact h.symm
   · rename_i hlt; rw [List.getElem?_eq_none (by omega)]
 · rfl
end
end VL

namespace VL
open Go
section
variable {S : Sys} {c : Ctx} {g : G} {w : World} {a : Act} {o : Oper} {K KP : V -> St -> Prop} {next : Act -> World -> Prop} {Q : Exit -> Act -> World -> Prop}
 {t : List V} {ob : List VObj} {nt : Nat} {df : List (Fn × List V × List V)}
theorem Nexts.grown (H : Nexts c a o.dst K KP next Q) {P : Program} {v : V} {x : Value} {s' : St} {w' : World} {g' : G} (hr : (execOp a.eval o).run P w = .ok (.value x) w') (hs : Sim c g' w' a s') (hv : VT g' w' s'.objs.length s'.nt v x) (hk : K v s') : o.wp P a w next Q := by
 unfold Oper.wp
 rw [hr]
 exact H.val v x s' g' w' a hk hs rfl hv
theorem zeros_src {e : TypeId} {inf : TypeInfo} {zv : Value} (hi : S.P.info? e = some inf) (hzs : zv.cells.size = inf.size) (hok : (ofConstAgg zv).cells.all V.okCell = true) (n : Nat) :
 (∀ x ∈ List.replicate n (ofConstAgg zv), x.cells.length = inf.size /\ x.cells.all V.okCell = true) /\
 (∀ (k : Nat) v y, ((List.replicate n (ofConstAgg zv)).flatMap V.cells)[k]? = some v -> (Builtin.zeroCells zv.cells n).toList[k]? = some y -> VRel g.bs g.I w 0 v y /\ y.oneCell' = true) := by
 obtain ⟨h1, h2⟩ := elems_of_zero (g := g) (w := w) hi hzs hok n
 exact ⟨h1, fun k v y hv hy => h2 k v y hv (by simpa using hy)⟩
theorem info_bits {e : TypeId} {by_ : Nat} {zv : Value} {inf : TypeInfo} (hi : S.P.info? e = some inf) (hzv : ((S.P.info? e).bind (·.zero)) = some zv) (hby : byOf S.P e = by_ + 1) : inf.zero = some zv /\ inf.bytes = by_ + 1 :=
 ⟨by simpa [hi] using hzv, by simpa [byOf, hi] using hby⟩
theorem appendNew_sound {ts : Array TypeId} {e ty T : TypeId} (h0 : ts[0]? = some T) (hu : S.P.underlying T = some (.slice e)) (hso : srcOk S.P ts = true) (H : Nexts c a o.dst K KP next Q) (hs : Sim c g w a ⟨t, ob, nt, df⟩) {m : List V} {cs cx : Value}
 (hl : VRel g.bs g.I w ob.length (.sl [] .ex) cs) (hx : ∀ z, (∀ y ∈ m, y.cells.length = z) -> z = szOf S.P e -> ∃ news, Src S.P g w z cx m news)
 (hrun : ∀ x' w', (Builtin.append_ ts ty #[cs, cx]).run S.P w = .ok x' w' -> (execOp a.eval o).run S.P w = .ok (.value x') w')
 (h : appendNewK S.P e m ⟨t, ob, nt, df⟩ K) : o.wp S.P a w next Q := by
 unfold appendNewK at h
 obtain ⟨inf, hi, hpos, h⟩ := szK_iff h
 split at h
 case h_2 => exact h.elim
 rename_i zv by_ hzv hby
 split at h
 case h_2 => exact h.elim
 rename_i hck
 simp only [Bool.and_eq_true, beq_iff_eq] at hck
 obtain ⟨⟨hzs, _⟩, hzok⟩ := hck
 obtain ⟨hz, hbi⟩ := info_bits hi hzv hby
 obtain ⟨hfit, hmz, h⟩ := h
 obtain ⟨news, hsrc⟩ := hx _ hmz (szOf_info hi).symm
 obtain ⟨base, rfl, hbp⟩ : ∃ base, cs = .slice base 0 0 /\ Plain base := by
  cases hl with
  | slnil => exact ⟨_, rfl, .inl rfl⟩
  | sl u h1 h2 h3 => simp at h1; subst h1; have := h3 rfl; subst this; exact ⟨_, rfl, .inr ⟨_, _, rfl⟩⟩
 by_cases hm : m = []
 · subst hm
   have hf0 : (Builtin.firstCells inf.size 0 cx).run S.P w = .ok #[] w := by
    have := hsrc.cells w rfl
    have hn : news = [] := List.eq_nil_of_length_eq_zero (by rw [hsrc.size]; simp)
    rw [hn] at this; exact this
   have hr := run_append_zero (ty := ty) (base := base) (len := 0) (cap := 0) h0 hso hu hi (hsrc.len w) hf0 (Nat.le_refl _)
   have hk := snocK_iff (h [] (fun _ => rfl) (by simp))
   have hw : WInv c { g with bs := fun i => if i = ob.length then w.heap.size else g.bs i } w (ob ++ [.buf false inf.size []]) nt := by
    have hwi := hs.wi
    have hget := fun (i : Nat) (y : VObj) => snoc_get (ob := ob) (x := .buf false inf.size []) (y := y) (i := i)
    have he : Ext g w ob.length nt { g with bs := fun i => if i = ob.length then w.heap.size else g.bs i } w (ob.length + 1) nt := ⟨by omega, Nat.le_refl _, fun i hi => by simp; intro e; omega, fun b k h => ⟨h, rfl⟩, fun _ _ => rfl⟩
    have hbs : ∀ i, i < ob.length -> (if i = ob.length then w.heap.size else g.bs i) = g.bs i := fun i hi => by rw [if_neg (by omega)]
    refine ⟨hwi.os, hwi.tape, hwi.output, hwi.size, hwi.keep, by rw [List.length_append]; exact Nat.le_trans (show c.n0 <= ob.length from hwi.len) (Nat.le_add_right _ _), ?_, ?_, ?_, ?_, ?_, hwi.i1, hwi.i2, hwi.i3, ?_, ?_, ?_, hwi.f2, hwi.i6⟩
    · intro i y hy
      rw [List.length_append, List.length_singleton]
      rcases hget i y hy with ⟨hi', hy⟩ | ⟨rfl, rfl⟩
      · show ORel _ _ _ _ (if i = ob.length then w.heap.size else g.bs i) y
        rw [hbs i hi']; exact he.orel (hwi.obj i _ hy) rfl
      · exact .inl rfl
    · intro i y hy hr
      show (if i = ob.length then w.heap.size else g.bs i) < _
      rcases hget i y hy with ⟨hi', hy⟩ | ⟨rfl, rfl⟩
      · rw [hbs i hi']; exact hwi.lt i y hy hr
      · cases hr
    · intro i j y z hy hz hr hr'
      rcases hget i y hy with ⟨hi', hy⟩ | ⟨rfl, rfl⟩ <;> rcases hget j z hz with ⟨hj, hz⟩ | ⟨rfl, rfl⟩
      · show (if i = ob.length then w.heap.size else g.bs i) = (if j = ob.length then w.heap.size else g.bs j) -> _
        rw [hbs i hi', hbs j hj]; exact hwi.inj i j y z hy hz hr hr'
      · cases hr'
      · cases hr
      · cases hr
    · intro i y hi0 hy hmv
      rcases hget i y hy with ⟨hi', hy⟩ | ⟨rfl, rfl⟩
      · show (if i = ob.length then w.heap.size else g.bs i) = _
        rw [hbs i hi']; exact hwi.old i y hi0 hy hmv
      · have : c.n0 <= ob.length := hwi.len
        omega
    · intro i y hy hr
      show _ <= (if i = ob.length then w.heap.size else g.bs i) \/ c.own (if i = ob.length then w.heap.size else g.bs i)
      rcases hget i y hy with ⟨hi', hy⟩ | ⟨rfl, rfl⟩
      · rw [hbs i hi']; exact hwi.new i y hy hr
      · cases hr
    · intro i U ds k hy
      show ¬ g.I (if i = ob.length then w.heap.size else g.bs i) k
      rcases hget i _ hy with ⟨hi', hy⟩ | ⟨rfl, h⟩
      · rw [hbs i hi']; exact hwi.i4 i _ _ k hy
      · cases h
    · intro i y k hy hlo
      show ¬ g.I (if i = ob.length then w.heap.size else g.bs i) k
      rcases hget i _ hy with ⟨hi', hy⟩ | ⟨rfl, rfl⟩
      · rw [hbs i hi']; exact hwi.i5 i _ k hy hlo
      · cases hlo
    · intro i hi0 hn
      obtain ⟨f1, f2, f3, f4⟩ := hwi.f1 i hi0 hn
      refine ⟨f1, f2, f3, fun j y hy hr => ?_⟩
      show (if j = ob.length then w.heap.size else g.bs j) ≠ _
      rcases hget j y hy with ⟨hj, hy⟩ | ⟨rfl, rfl⟩
      · rw [hbs j hj]; exact f4 j y hy hr
      · cases hr
   have he : Ext g w ob.length nt { g with bs := fun i => if i = ob.length then w.heap.size else g.bs i } w (ob.length + 1) nt := ⟨by omega, Nat.le_refl _, fun i hi => by simp; intro e; omega, fun b k h => ⟨h, rfl⟩, fun _ _ => rfl⟩
   refine H.grown (hrun _ _ hr) (g' := { g with bs := fun i => if i = ob.length then w.heap.size else g.bs i }) ⟨hw, ?_, ?_⟩ (.of ?_ rfl) hk
   · simpa using he.tinv hs.ti
   · simpa using he.drel hs.di
   · exact .slo (by simp) (by simp) (.inl rfl) hbp
 · have hmpos : 0 < m.length := List.length_pos_iff.2 hm
   have hold : Src S.P g w inf.size (.slice base 0 0) [] [] := ⟨fun _ => rfl, fun w' _ k hk => by
    have hk : k = 0 := by simpa using hk
    subst hk
    cases base with
    | none => simp [Builtin.firstCells]
    | some b => simpa using run_firstCells_some (P := S.P) w' inf.size 0 b 0 0 [] (by simp) (by simp), by simp, by simp, by simp, by simp⟩
   obtain ⟨sp, w', g', h1, h2, h3, h4⟩ := append_grow (ty := ty) hs h0 hso hu hi hz hzs hzok (by omega) hold rfl hsrc (by omega) (by rw [hbi]; simpa using hfit) (wt := none) (by simp)
   have hk := snocK_iff (h sp (fun e => absurd e hm) h1)
   simp only [Nat.zero_add, List.nil_append] at h2 h3 h4
   exact H.grown (hrun _ _ h2) h3 (by simpa using h4) hk
theorem growT_ok {wt : Option TypeId} {e : TypeId} : ∀ t, growT wt e = some t -> t = e := fun t h => by
 cases wt with
 | none => cases h
 | some T =>
   unfold growT at h
   simp only at h
   split at h
   · rename_i hb; cases h; exact Nat.eq_of_beq_eq_true hb
   · cases h
theorem appendBuf_sound {ts : Array TypeId} {e ty T : TypeId} (h0 : ts[0]? = some T) (hu : S.P.underlying T = some (.slice e)) (H : Nexts c a o.dst K KP next Q) (hs : Sim c g w a ⟨t, ob, nt, df⟩) {m : List V} {o1 z lo n cp : Nat} {cs cx : Value}
 (hl : VRel g.bs g.I w ob.length (.slo o1 z lo n cp) cs)
 (hrun : ∀ x' w', (Builtin.append_ ts ty #[cs, cx]).run S.P w = .ok x' w' -> (execOp a.eval o).run S.P w = .ok (.value x') w')
 (hroom : ∀ inf zv base, S.P.info? e = some inf -> inf.zero = some zv -> zv.cells.size = inf.size -> (ofConstAgg zv).cells.all V.okCell = true -> cs = .slice base n cp -> n + m.length <= cp -> (∀ x ∈ m, x.cells.length = inf.size) -> (n + m.length) * inf.bytes <= 140737488355328 ->
   ∃ news : List Value, news.length = m.length * inf.size /\ (∀ x ∈ m, x.cells.length = inf.size /\ x.cells.all V.okCell = true) /\ (∀ (k : Nat) v y, (m.flatMap V.cells)[k]? = some v -> news[k]? = some y -> VRel g.bs g.I w 0 v y /\ y.oneCell' = true) /\
    ∀ w', (∀ b, base = some b -> (storeCells (b.add (n * inf.size)) news).run S.P w = .ok () w') -> (base = none -> w' = w) -> (Builtin.append_ ts ty #[cs, cx]).run S.P w = .ok (.slice base (n + m.length) cp) w')
 (hgrow : ∀ inf zv base l mv wt, S.P.info? e = some inf -> inf.zero = some zv -> zv.cells.size = inf.size -> (ofConstAgg zv).cells.all V.okCell = true -> 0 < inf.bytes -> cs = .slice base n cp -> cp < n + m.length -> (∀ x ∈ m, x.cells.length = inf.size) ->
   (n + m.length) * inf.bytes <= 140737488355328 -> ob[o1]? = some (.buf mv inf.size l wt) -> z = inf.size -> lo + n <= l.length ->
   ∃ (sp : List V) (w' : World) (g' : G), (∀ y ∈ sp, y.cells.length = inf.size) /\ (Builtin.append_ ts ty #[cs, cx]).run S.P w = .ok (.slice (some ⟨w.heap.size, 0, none⟩) (n + m.length) (n + m.length + sp.length)) w' /\
    Sim c g' w' a ⟨t, ob ++ [.buf false inf.size ((l.drop lo).take n ++ m ++ sp) (growT wt e)], nt, df⟩ /\ VT g' w' (ob.length + 1) nt (.slo ob.length inf.size 0 (n + m.length) (n + m.length + sp.length)) (.slice (some ⟨w.heap.size, 0, none⟩) (n + m.length) (n + m.length + sp.length)))
 (h : appendBufK S.P e o1 z lo n cp m ⟨t, ob, nt, df⟩ K) : o.wp S.P a w next Q := by
 unfold appendBufK at h
 obtain ⟨inf, hi, hpos, h⟩ := szK_iff h
 split at h
 case h_2 => exact h.elim
 rename_i zv by_ hzv hby hzz
 have hzz := Nat.eq_of_beq_eq_true hzz
 split at h
 case h_2 => exact h.elim
 rename_i hck
 simp only [Bool.and_eq_true, beq_iff_eq] at hck
 obtain ⟨⟨hzs, _⟩, hzok⟩ := hck
 subst hzz
 obtain ⟨hz, hbi⟩ := info_bits hi hzv hby
 obtain ⟨hfit, hmz, h⟩ := h
 rw [← hbi] at hfit
 obtain ⟨x1, h1, h⟩ := getK_iff h
 cases x1 <;> try exact h.elim
 rename_i mv z' l wt
 simp only at h
 split at h
 case h_2 => exact h.elim
 rename_i hzz
 have hzz := Nat.eq_of_beq_eq_true hzz
 subst hzz
 cases hl with | @slo _ _ _ _ _ _ ad hlt hle ha hf =>
 rcases bif_elim h with ⟨hb, h⟩ | ⟨hb, h⟩
 · -- in the room
   have hb := Nat.le_of_ble_eq_true hb
   obtain ⟨hcl, h⟩ := h
   obtain ⟨hol, hk⟩ := setK_iff h
   obtain ⟨news, hns, hmok, hnr, happ⟩ := hroom inf zv ad hi hz hzs hzok rfl hb hmz hfit
   by_cases hm : m = []
   · subst hm
     have hnn : news = [] := List.eq_nil_of_length_eq_zero (by rw [hns]; simp)
     subst hnn
     have hr := happ w (fun b _ => by simp [storeCells]) (fun _ => rfl)
     have hll : l.take (lo + n) ++ [] ++ l.drop (lo + n + ([] : List V).length) = l := by simp
     rw [hll, set_self_get h1] at hk
     exact H.grown (hrun _ _ hr) hs (.of (.slo hlt hb ha hf) rfl) hk
   · have hmpos : 0 < m.length := List.length_pos_iff.2 hm
     obtain rfl := ha.resolve_left (by omega)
     obtain ⟨w', q1, q2, q3⟩ := over_row hs h1 (i := lo + n) (m := m) hmok hns hnr (by omega) hm
     have hr := happ w' (fun b hb => by cases hb; rw [Addr.add_mid, ← Nat.add_mul]; exact q1) (fun e => by cases e)
     exact H.grown (hrun _ _ hr) q2 (.of (.slo (by simpa using hlt) hb (.inr rfl) hf) rfl) hk
 · -- a new row
   have hb : cp < n + m.length := by
    rcases Nat.lt_or_ge cp (n + m.length) with h | h
    · exact h
    · rw [Nat.ble_eq_true_of_le h] at hb; cases hb
   obtain ⟨hln, h⟩ := h
   obtain ⟨sp, w', g', q1, q2, q3, q4⟩ := hgrow inf zv ad l mv wt hi hz hzs hzok (by omega) rfl hb hmz hfit h1 rfl hln
   have hk := snocK_iff (h sp q1)
   exact H.grown (hrun _ _ q2) q3 (by simpa using q4) hk
theorem run_append_zeros {P : Program} {ts : Array TypeId} {T e ty u : TypeId} {ik : IntKind} {inf : TypeInfo} {zv : Value} (h0 : ts[0]? = some T) (h1 : ts[1]? = some u) (hu1 : P.underlying u = some (.int ik)) (hu : P.underlying T = some (.slice e)) (hi : P.info? e = some inf)
 (hz : inf.zero = some zv) (hzs : zv.cells.size = inf.size) {base : Option Addr} {len cap : Nat} {kk : IntKind} {n : Nat} (hn : (n : Int) < 281474976710656) (hfit : n * inf.bytes <= 281474976710656) (hroom : len + n <= cap) {w' : World}
 (hst : ∀ b, base = some b -> (storeCells (b.add (len * inf.size)) (Builtin.zeroCells zv.cells n).toList).run P w = .ok () w') (hno : base = none -> w' = w) :
 (Builtin.append_ ts ty #[.slice base len cap, .int kk n]).run P w = .ok (.slice base (len + n) cap) w' := by
 have hsz : (Go.sizeOf e).run P w = .ok inf.size w := run_size hi
 have hwr : IntKind.i64.wrap (n : Int) = n := by
  have h1 : (n : Int) % 2 ^ 64 = n := Int.emod_eq_of_lt (by omega) (by omega)
  have h2 : ¬ ((n : Int) ≥ 2 ^ 63) := by omega
  simp only [IntKind.wrap, IntKind.bits, IntKind.signed, h1, Bool.true_and, decide_eq_true_eq]
  rw [if_neg h2]
 have hneg : ¬ ((n : Int) < 0) := by omega
 have hbig : ¬ ((281474976710656 : Int) < (n : Int) * (inf.bytes : Int)) := by
  have h := Int.ofNat_le.2 hfit
  rw [Int.natCast_mul] at h; omega
 have hzc : n * inf.size = 0 -> Builtin.zeroCells zv.cells n = #[] := fun h => by
  apply Array.eq_empty_of_size_eq_zero
  rw [zero_row, hzs]; exact h
 cases base with
 | none =>
   rw [hno rfl]
   by_cases h00 : n * inf.size = 0
   · simp [Builtin.append_, h0, h1, run_underlying hu, run_underlying hu1, hsz, asInt, asIntOf, hwr, hneg, typeInfo, hi, hbig, hroom, h00]
   · simp [Builtin.append_, h0, h1, run_underlying hu, run_underlying hu1, hsz, asInt, asIntOf, hwr, hneg, typeInfo, hi, hbig, hroom, h00, zeroValue, hz]
 | some b =>
   have hst := hst b rfl
   by_cases h00 : n * inf.size = 0
   · rw [hzc h00] at hst
     simp [Builtin.append_, h0, h1, run_underlying hu, run_underlying hu1, hsz, asInt, asIntOf, hwr, hneg, typeInfo, hi, hbig, hroom, h00, hst]
   · simp [Builtin.append_, h0, h1, run_underlying hu, run_underlying hu1, hsz, asInt, asIntOf, hwr, hneg, typeInfo, hi, hbig, hroom, h00, zeroValue, hz, hst]
theorem run_append_zeros_grow {P : Program} {ts : Array TypeId} {T e ty u : TypeId} {ik : IntKind} {inf : TypeInfo} {zv : Value} (h0 : ts[0]? = some T) (h1 : ts[1]? = some u) (hu1 : P.underlying u = some (.int ik)) (hu : P.underlying T = some (.slice e)) (hi : P.info? e = some inf)
 (hz : inf.zero = some zv) {base : Option Addr} {len cap : Nat} {kk : IntKind} {n : Nat} (hn : (n : Int) < 281474976710656) {olds : List Value} (ho : (Builtin.firstCells inf.size len (.slice base len cap)).run P w.drew = .ok olds.toArray w.drew)
 (hgrow : cap < len + n) (hfit : (len + n) * inf.bytes <= 140737488355328) (h63 : ((len + n : Nat) : Int) <= 9223372036854775807) (h00 : ¬ n * inf.size = 0) :
 (Builtin.append_ ts ty #[.slice base len cap, .int kk n]).run P w = .ok (.slice (some ⟨w.heap.size, 0, none⟩) (len + n) (grownCap w (len + n) cap e))
   (w.drew.alloc (.cells (olds.toArray ++ Builtin.zeroCells zv.cells n ++ Builtin.zeroCells zv.cells (grownCap w (len + n) cap e - (len + n))) e)) := by
 have hsz : (Go.sizeOf e).run P w = .ok inf.size w := run_size hi
 have hwr : IntKind.i64.wrap (n : Int) = n := by
  have h1 : (n : Int) % 2 ^ 64 = n := Int.emod_eq_of_lt (by omega) (by omega)
  have h2 : ¬ ((n : Int) ≥ 2 ^ 63) := by omega
  simp only [IntKind.wrap, IntKind.bits, IntKind.signed, h1, Bool.true_and, decide_eq_true_eq]
  rw [if_neg h2]
 have hneg : ¬ ((n : Int) < 0) := by omega
 have hfit2 : n * inf.bytes <= 140737488355328 := Nat.le_trans (Nat.mul_le_mul_right _ (by omega)) hfit
 have hbig : ¬ ((281474976710656 : Int) < (n : Int) * (inf.bytes : Int)) := by
  have h := Int.ofNat_le.2 hfit2
  rw [Int.natCast_mul] at h; omega
 have hnr : ¬ (len + n <= cap) := by omega
 have h63' : ¬ (9223372036854775807 < ((len : Int) + (n : Int))) := by omega
 have h48 := growslice_fits (bytes := inf.bytes) hgrow hfit
 have h48' : ¬ (281474976710656 < Builtin.nextslicecap (len + n) cap * inf.bytes) := by omega
 simp [Builtin.append_, h0, h1, run_underlying hu, run_underlying hu1, hsz, asInt, asIntOf, hwr, hneg, typeInfo, hi, hbig, hnr, h00, h63', h48', zeroValue, hz, Question.forced, ho, newRow, grownCap]
theorem zeros_grow (hs : Sim c g w a ⟨t, ob, nt, df⟩) {ts : Array TypeId} {T e ty u : TypeId} {ik kk : IntKind} {inf : TypeInfo} {zv : Value} (h0 : ts[0]? = some T) (h1' : ts[1]? = some u) (hu1 : S.P.underlying u = some (.int ik)) (hu : S.P.underlying T = some (.slice e))
 (hi : S.P.info? e = some inf) (hz : inf.zero = some zv) (hzs : zv.cells.size = inf.size) (hpos : 0 < inf.size) (hzok : (ofConstAgg zv).cells.all V.okCell = true) (hby : 0 < inf.bytes) {base : Option Addr} {n cap k : Nat} {l : List V} {olds : List Value}
 (hl : Src S.P g w inf.size (.slice base n cap) l olds) (hln : l.length = n) (hk : (k : Int) < 281474976710656) (hnc : n <= cap) (hgrow : cap < n + k) (hfit : (n + k) * inf.bytes <= 140737488355328) {wt : Option TypeId} (hwt : ∀ t, wt = some t -> t = e) :
 ∃ (sp : List V) (w' : World) (g' : G), (∀ y ∈ sp, y.cells.length = inf.size) /\ (Builtin.append_ ts ty #[.slice base n cap, .int kk k]).run S.P w = .ok (.slice (some ⟨w.heap.size, 0, none⟩) (n + k) (n + k + sp.length)) w' /\
  Sim c g' w' a ⟨t, ob ++ [.buf false inf.size (l ++ List.replicate k (ofConstAgg zv) ++ sp) wt], nt, df⟩ /\ VT g' w' (ob.length + 1) nt (.slo ob.length inf.size 0 (n + k) (n + k + sp.length)) (.slice (some ⟨w.heap.size, 0, none⟩) (n + k) (n + k + sp.length)) := by
 have hneed : n + k <= 140737488355328 := Nat.le_trans (Nat.le_mul_of_pos_right _ hby) hfit
 have hol : (Builtin.firstCells inf.size n (.slice base n cap)).run S.P w.drew = .ok olds.toArray w.drew := by have := hl.cells w.drew rfl; rwa [hln] at this
 have hrun := run_append_zeros_grow (ty := ty) (kk := kk) h0 h1' hu1 hu hi hz hk hol hgrow hfit (by omega) (by
  have : 0 < k * inf.size := Nat.mul_pos (by omega) hpos
  omega)
 generalize hnc' : grownCap w (n + k) cap e = nc at hrun
 have hge : n + k <= nc := by rw [← hnc']; exact grownCap_ge w _ _ e
 obtain ⟨hm1, hm2⟩ := elems_of_zero (g := g) (w := w.drew) hi hzs hzok k
 obtain ⟨hsp1, hsp2⟩ := elems_of_zero (g := g) (w := w.drew) hi hzs hzok (nc - (n + k))
 have hlz : ∀ y ∈ l, y.cells.length = inf.size := fun y hy => (hl.ok y hy).1
 have hok : ∀ y ∈ l ++ List.replicate k (ofConstAgg zv) ++ List.replicate (nc - (n + k)) (ofConstAgg zv), y.cells.length = inf.size /\ y.cells.all V.okCell = true := fun y hy => by
  rcases List.mem_append.1 hy with hy | hy
  · rcases List.mem_append.1 hy with hy | hy
    · exact hl.ok y hy
    · exact hm1 y hy
  · exact hsp1 y hy
 have hrel := rows_append (g := g) (w := w.drew) (L := l ++ List.replicate k (ofConstAgg zv)) (M := List.replicate (nc - (n + k)) (ofConstAgg zv)) (ra := olds.toArray ++ Builtin.zeroCells zv.cells k) (rb := Builtin.zeroCells zv.cells (nc - (n + k))) (z := inf.size)
  (fun y hy => (List.mem_append.1 hy).elim (hlz y) (fun h => (hm1 y h).1)) (by simp [hl.size, zero_row, hzs, Nat.add_mul]) (rows_append hlz (by simp [hl.size]) hl.drewW.rows hm2) hsp2
 obtain ⟨g', h1, h2⟩ := buf_alloc hs.drew (row := olds.toArray ++ Builtin.zeroCells zv.cells k ++ Builtin.zeroCells zv.cells (nc - (n + k))) (e := e) (z := inf.size) (L := l ++ List.replicate k (ofConstAgg zv) ++ List.replicate (nc - (n + k)) (ofConstAgg zv))
  (by simp [hl.size, zero_row, hzs, Nat.add_mul, Nat.add_assoc]) hok hrel (n := n + k) (cap := nc) hge hwt
 have hcap : n + k + (List.replicate (nc - (n + k)) (ofConstAgg zv)).length = nc := by simp; omega
 refine ⟨List.replicate (nc - (n + k)) (ofConstAgg zv), _, g', fun y hy => (hsp1 y hy).1, ?_, h1, ?_⟩
 · rw [hcap]; exact hrun
 · rw [hcap]; exact h2
end
end VL

namespace VL
open Go
section
variable {S : Sys} {c : Ctx} {g : G} {w : World} {a : Act} {o : Oper} {K KP : V -> St -> Prop} {next : Act -> World -> Prop} {Q : Exit -> Act -> World -> Prop}
 {t : List V} {ob : List VObj} {nt : Nat} {df : List (Fn × List V × List V)}
theorem sound_append2 {mu : Bool} {cl : Call} (ho : o.op = .call cl) (hc : cl.callee = .builtin .append) (H : Nexts c a o.dst K KP next Q) (hs : Sim c g w a ⟨t, ob, nt, df⟩)
 (hh : evs t cl.args.toList fun args => vappend S mu cl.argTypes args ⟨t, ob, nt, df⟩ K) : o.wp S.P a w next Q := by
 obtain ⟨vs, k1, k2, h⟩ := evs_sound hs.ti hh
 clear hh
 obtain ⟨h1, h2⟩ := args_of k1 k2
 clear k1 k2
 have hx := exec_builtin (a := a) ho hc
 generalize cl.args.map a.eval = ca at h1 h2 hx
 have hrun : ∀ {cs cx : Value}, ca = #[cs, cx] -> ∀ x' w', (Builtin.append_ cl.argTypes o.type #[cs, cx]).run S.P w = .ok x' w' -> (execOp a.eval o).run S.P w = .ok (.value x') w' := fun e x' w' hr => by
  rw [hx, e]; simp [Go.builtin, hr]
 unfold vappend at h
 split at h
 case h_2 => exact h.elim
 rename_i e b v hT
 obtain ⟨T, h0, hu⟩ := argT_some hT
 obtain ⟨c1, c2, hca, r1, r2⟩ := arg2 h1 h2
 have hrun := hrun hca
 split at h
 · rename_i hso
   obtain ⟨m, h, hsrc⟩ := srcK_sound hs.wi r2.rel h
   cases b <;> try exact h.elim
   case sl l r =>
    simp only at h
    split at h
    · exact appendNew_sound (ty := o.type) h0 hu hso H hs r1.rel (cx := c2) hsrc hrun h
    · exact append_sound (ty := o.type) h0 hu hso H hs r1 (cx := c2) hsrc hrun h
   case slo o1 z lo n cp =>
    refine appendBuf_sound (ty := o.type) h0 hu H hs r1.rel hrun ?_ ?_ h
    · intro inf zv base hi hz hzs hzok hcs hroom hmz hfit
      subst hcs
      obtain ⟨news, hn⟩ := hsrc _ hmz (szOf_info hi).symm
      refine ⟨news, hn.size, hn.ok, fun k v y hv hy => ⟨hn.rel k v y hv hy, hn.one y (List.mem_of_getElem? hy)⟩, fun w' hst hno => ?_⟩
      exact run_append_any h0 hso hu hi (hn.len w) (hn.cells w rfl) hroom hst hno
    · intro inf zv base l mv wt hi hz hzs hzok hby hcs hgrow hmz hfit hob hzz hln
      subst hcs; subst hzz
      obtain ⟨news, hn⟩ := hsrc _ hmz (szOf_info hi).symm
      obtain ⟨olds, hol⟩ := slo_src (P := S.P) hs.wi hob r1.rel hln
      exact append_grow (ty := o.type) hs h0 hso hu hi hz hzs hzok hby hol (by simp; omega) hn hgrow hfit growT_ok
 · rename_i hso
   split at h
   case h_2 => exact h.elim
   rename_i o1 z lo n cp ik k ik' hu1'
   obtain ⟨u, h1', hu1⟩ := Option.bind_eq_some_iff.1 hu1'
   split at h
   case h_2 => exact h.elim
   rename_i zv0 hzv0
   obtain ⟨hk0, hk1, h⟩ := h
   have hr2 := r2.rel
   cases hr2
   have hzp : ∀ inf, S.P.info? e = some inf -> 0 < inf.size := fun inf hi => by
    unfold appendBufK at h
    obtain ⟨inf', hi', hpos, _⟩ := szK_iff h
    rw [hi] at hi'; cases hi'; exact hpos
   have hkn : ((k.toNat : Nat) : Int) = k := Int.toNat_of_nonneg hk0
   refine appendBuf_sound (ty := o.type) h0 hu H hs r1.rel hrun ?_ ?_ h
   · intro inf zv base hi hz hzs hzok hcs hroom hmz hfit
     subst hcs
     have hzz : zv0 = zv := by rw [hi] at hzv0; simp [hz] at hzv0; exact hzv0.symm
     subst hzz
     obtain ⟨q1, q2⟩ := zeros_src (S := S) (g := g) (w := w) hi hzs hzok k.toNat
     refine ⟨(Builtin.zeroCells zv0.cells k.toNat).toList, by rw [Array.length_toList, zero_row, hzs, List.length_replicate], q1, q2, fun w' hst hno => ?_⟩
     rw [List.length_replicate] at hroom hfit ⊢
     have := run_append_zeros (ty := o.type) (kk := ik) (n := k.toNat) h0 h1' hu1 hu hi hz hzs (by omega) (by
      have := Nat.mul_le_mul_right inf.bytes (show k.toNat <= n + k.toNat by omega); omega) hroom hst hno
     rw [hkn] at this
     exact this
   · intro inf zv base l mv wt hi hz hzs hzok hby hcs hgrow hmz hfit hob hzz hln
     subst hcs; subst hzz
     have hzz : zv0 = zv := by rw [hi] at hzv0; simp [hz] at hzv0; exact hzv0.symm
     subst hzz
     obtain ⟨olds, hol⟩ := slo_src (P := S.P) hs.wi hob r1.rel hln
     rw [List.length_replicate] at hgrow hfit ⊢
     have hpos : 0 < inf.size := hzp inf hi
     have hle : n <= cp := by have := r1.rel; cases this; assumption
     have := zeros_grow (ty := o.type) (kk := ik) hs h0 h1' hu1 hu hi hz hzs hpos hzok hby hol (by simp; omega) (k := k.toNat) (by omega) hle hgrow hfit (wt := growT wt e) growT_ok
     rw [hkn] at this
     exact this
end
end VL

namespace VL
open Go
section
variable {S : Sys} {c : Ctx} {g : G} {w : World} {a : Act} {o : Oper} {K KP : V -> St -> Prop} {next : Act -> World -> Prop} {Q : Exit -> Act -> World -> Prop}
 {t : List V} {ob : List VObj} {nt : Nat} {df : List (Fn × List V × List V)}
theorem sound_copy {cl : Call} (ho : o.op = .call cl) (hc : cl.callee = .builtin .copy) (H : Nexts c a o.dst K KP next Q) (hs : Sim c g w a ⟨t, ob, nt, df⟩)
 (hh : evs t cl.args.toList fun args => vcopy S cl.argTypes args ⟨t, ob, nt, df⟩ K) : o.wp S.P a w next Q := by
 obtain ⟨vs, k1, k2, h⟩ := evs_sound hs.ti hh
 clear hh
 obtain ⟨h1, h2⟩ := args_of k1 k2
 clear k1 k2
 have hx := exec_builtin (a := a) ho hc
 generalize cl.args.map a.eval = ca at h1 h2 hx
 unfold vcopy at h
 simp only at h
 split at h
 case h_2 => exact h.elim
 rename_i e o1 z lo n cp v hT
 obtain ⟨T, h0, hu⟩ := argT_some hT
 obtain ⟨c1, c2, hca, r1, r2⟩ := arg2 h1 h2
 obtain ⟨m, h, hsrc⟩ := srcK_sound hs.wi r2.rel h
 obtain ⟨inf, hi, hpos, h⟩ := szK_iff h
 split at h
 case h_2 => exact h.elim
 rename_i hzb
 have hz := Nat.eq_of_beq_eq_true hzb
 subst hz
 obtain ⟨hmz, h⟩ := h
 obtain ⟨x1, ho1, h⟩ := getK_iff h
 cases x1 <;> try exact h.elim
 rename_i mv z' l ty
 simp only at h
 split at h
 case h_2 => exact h.elim
 rename_i hzb
 have hz := Nat.eq_of_beq_eq_true hzb
 subst hz
 obtain ⟨hln, h⟩ := h
 obtain ⟨_, h⟩ := setK_iff h
 obtain ⟨news, hn⟩ := hsrc _ hmz (szOf_info hi).symm
 have hmin : (Nat.min m.length n) = min m.length n := rfl
 have hf := hn.first w rfl (min m.length n) (Nat.min_le_left _ _)
 obtain ⟨ad, hc1, hlt, hncp, hadr⟩ : ∃ ad, c1 = .slice ad n cp /\ o1 < ob.length /\ n <= cp /\ (cp = 0 \/ ad = some ⟨g.bs o1, lo * inf.size, none⟩) := by
  have := r1.rel
  cases this with | slo a1 a2 a3 a4 => exact ⟨_, rfl, a1, a2, a3⟩
 subst hca
 subst hc1
 have fin : ∀ w', (∀ b, ad = some b -> (storeCells b (news.take (min m.length n * inf.size))).run S.P w = .ok () w') -> (ad = none -> w' = w) -> (execOp a.eval o).run S.P w = .ok (.value (.int .i64 ((min m.length n : Nat) : Int))) w' := fun w' hst hno => by
  rw [hx]
  have hsz : (Go.sizeOf e).run S.P w = .ok inf.size w := run_size hi
  cases ad with
  | none =>
    rw [hno rfl]
    simp [Go.builtin, Builtin.copy_, h0, run_underlying hu, hsz, hn.len w, hmin, hf, goInt]
  | some b =>
    simp [Go.builtin, Builtin.copy_, h0, run_underlying hu, hsz, hn.len w, hmin, hf, hst b rfl, goInt]
 by_cases hk : min m.length n = 0
 · have ht : m.take n = [] := by
    apply List.eq_nil_of_length_eq_zero
    rw [List.length_take, Nat.min_comm]; exact hk
   have hl : l.take lo ++ m.take n ++ l.drop (lo + min m.length n) = l := by rw [ht, hk]; simp
   rw [hl, set_self_get ho1] at h
   refine H.grown (fin w (fun b _ => ?_) fun _ => rfl) hs (.of .int rfl) h
   rw [hk]; simp [storeCells]
 · have hlen : (m.take n).length = min m.length n := by rw [List.length_take, Nat.min_comm]
   have hne : m.take n ≠ [] := fun e => by rw [e] at hlen; exact hk hlen.symm
   have hns : (news.take (min m.length n * inf.size)).length = (m.take n).length * inf.size := by
    rw [List.length_take, hn.size, hlen]; exact Nat.min_eq_left (Nat.mul_le_mul_right _ (Nat.min_le_left _ _))
   have hflat := flat_take hn.ok n
   obtain ⟨w', s1, s2, s3⟩ := over_row (S := S) hs ho1 (i := lo) (m := m.take n) (news := news.take (min m.length n * inf.size)) (fun y hy => hn.ok y (List.mem_of_mem_take hy)) hns
    (fun k v y hv hy => by
      rw [hflat, List.getElem?_take] at hv
      rw [List.getElem?_take] at hy
      split at hv
      case isFalse => cases hv
      split at hy
      case isFalse => cases hy
      exact ⟨hn.rel k v y hv hy, hn.one y (List.mem_of_getElem? hy)⟩) (by omega) hne
   rw [hlen] at s2
   obtain rfl := hadr.resolve_left (by omega)
   refine H.grown (fin w' (fun b hb => by cases hb; exact s1) fun e => by cases e) s2 (.of .int rfl) ?_
   exact h
theorem made_zero {zv : Value} {n : Nat} : madeCells zv.cells (n * zv.cells.size) = Builtin.zeroCells zv.cells n := rfl
theorem sound_makeSlice {T : TypeId} {len cap : Operand} (ho : o.op = .makeSlice T len cap) (H : Nexts c a o.dst K KP next Q) (hs : Sim c g w a ⟨t, ob, nt, df⟩)
 (h : ev t len fun len => ev t cap fun cap => vmakeSlice S T len cap ⟨t, ob, nt, df⟩ K) : o.wp S.P a w next Q := by
 obtain ⟨vl, hvl, h'⟩ := ev_sound hs.ti h
 clear h
 obtain ⟨vc, hvc, h⟩ := ev_sound hs.ti h'
 clear h'
 unfold vmakeSlice at h
 simp only at h
 split at h
 case h_2 => exact h.elim
 rename_i kl n kc cp e hu
 obtain ⟨inf, hi, hpos, h'⟩ := szK_iff h
 clear h
 have h := h'
 clear h'
 split at h
 case h_2 => exact h.elim
 rename_i zv hzv
 split at h
 case h_2 => exact h.elim
 rename_i hck
 simp only [Bool.and_eq_true, beq_iff_eq] at hck
 obtain ⟨⟨hzs, _⟩, hzok⟩ := hck
 have hz : inf.zero = some zv := by simpa [hi] using hzv
 obtain ⟨h0, hlc, hby, h63, h⟩ := h
 have h := snocK_iff h
 have hrl := hvl.rel
 have hrc := hvc.rel
 generalize hxl : a.eval len = el at hrl
 generalize hxc : a.eval cap = ec at hrc
 cases hrl
 cases hrc
 have hb2 : (inf.bytes : Int) * cp <= 281474976710656 := by
  rw [Int.mul_comm]
  have : byOf S.P e = inf.bytes := by simp [byOf, hi]
  rw [this] at hby
  omega
 have hrun := run_make (P := S.P) w T e inf zv hu hi hz kl kc n cp h0 hlc hb2 (by omega)
 rw [← hzs, made_zero] at hrun
 obtain ⟨hsp1, hsp2⟩ := elems_of_zero (g := g) (w := w) hi hzs hzok cp.toNat
 obtain ⟨g', h1, h2⟩ := buf_alloc hs (wt := none) (hwt := by simp) (row := Builtin.zeroCells zv.cells cp.toNat) (e := e) (z := inf.size) (L := List.replicate cp.toNat (ofConstAgg zv))
  (by simp [zero_row, hzs]) hsp1 hsp2 (n := n.toNat) (cap := cp.toNat) (by omega)
 refine H.grown (g' := g') (w' := w.alloc (.cells (Builtin.zeroCells zv.cells cp.toNat) e)) ?_ h1 (by simpa using h2) h
 simp only [execOp, ho, hxl, hxc, Sem.run_bind, hrun, Result.andThen_ok]
 rfl
theorem sound_makeMap {T : TypeId} (ho : o.op = .makeMap T none) (H : Nexts c a o.dst K KP next Q) (hs : Sim c g w a ⟨t, ob, nt, df⟩)
 (h : match S.P.underlying T with
 | some (.map _ _) => snocK ob (.map []) fun n ob => K (.mp n) ⟨t, ob, nt, df⟩
 | _ => False) : o.wp S.P a w next Q := by
 split at h
 case h_2 => exact h.elim
 have h := snocK_iff h
 have he := Ext.alloc hs.wi (.map #[] 0)
 have hw := WInv.alloc hs.wi (.map #[] 0) (.map []) ⟨#[], 0, heap_alloc_new w _, rfl, by simp⟩
 have hlen : (ob ++ [VObj.map []]).length = ob.length + 1 := by simp
 have hrun : (execOp a.eval o).run S.P w = .ok (.value (.map (some w.heap.size))) (w.alloc (.map #[] 0)) := by
  simp [execOp, ho, Instr.makeMap]
 refine H.grown hrun ⟨hw, ?_, ?_⟩ (v := .mp ob.length) (.of ?_ rfl) h
 · show TInv _ _ (ob ++ [VObj.map []]).length _ _ _
   rw [hlen]; exact he.tinv hs.ti
 · show DRel _ _ (ob ++ [VObj.map []]).length _ _
   rw [hlen]; exact he.drel hs.di
 · show VRel _ _ _ (ob ++ [VObj.map []]).length _ _
   rw [hlen]
   have := VRel.mp (bs := fun i => if i = ob.length then w.heap.size else g.bs i) (I := g.I) (w := w.alloc (.map #[] 0)) (o := ob.length) (n := ob.length + 1) (by omega)
   simpa using this
open Go.MapKept
theorem keys_now {P : Program} {kt : TypeId} {x y : V} {cx cy : Value} {n m : Nat} (hx : plainKey P kt x = true) (hy : plainKey P kt y = true) (rx : VRel g.bs g.I w n x cx) (ry : VRel g.bs g.I w m y cy) :
 ∃ d, P.underlying kt = some d /\ IsKey d cx /\ IsKey d cy /\ Instr.sameNow d cx cy = some (keyB x y) /\ (keyB x y = true -> cy = cx) := by
 unfold plainKey at hx hy
 cases hu : P.underlying kt with
 | none => rw [hu] at hx; simp at hx
 | some d =>
   rw [hu] at hx hy
   refine ⟨d, rfl, ?_⟩
   cases d <;> try (simp at hx; done)
   · cases x <;> try (simp at hx; done)
     cases y <;> try (simp at hy; done)
     cases rx; cases ry
     refine ⟨trivial, trivial, by simp [Instr.sameNow, keyB], fun h => ?_⟩
     simp [keyB] at h; rw [h]
   · cases x <;> try (simp at hx; done)
     cases y <;> try (simp at hy; done)
     cases rx; cases ry
     have hx : _ = _ := of_decide_eq_true hx
     have hy : _ = _ := of_decide_eq_true hy
     subst hx; subst hy
     refine ⟨rfl, rfl, by simp [Instr.sameNow, keyB], fun h => ?_⟩
     simp [keyB] at h; rw [h]
   · cases x <;> try (simp at hx; done)
     cases y <;> try (simp at hy; done)
     cases rx; cases ry
     refine ⟨trivial, trivial, by simp [Instr.sameNow, keyB], fun h => ?_⟩
     have := (bytes_beq _ _).1 h
     rw [this]
theorem find_now {P : Program} {kt : TypeId} {k : V} {ck : Value} {n : Nat} {d : TypeDesc} (hd : P.underlying kt = some d) (hk : plainKey P kt k = true) (rk : VRel g.bs g.I w n k ck) : ∀ (es : List (V × V)) (cs : List MapEntry) (i : Nat), es.length = cs.length ->
 (∀ (j : Nat) e (c : MapEntry), es[j]? = some e -> cs[j]? = some c -> VRel g.bs g.I w 0 e.1 c.key /\ VRel g.bs g.I w 0 e.2 c.val) -> (∀ e ∈ es, plainKey P kt e.1 = true) ->
 (es.find? (fun e => keyB k e.1) = none /\ Instr.findNow d ck cs i = some none /\ ∀ v, updV k v es = es ++ [(k, v)]) \/
 ∃ j e c, es[j]? = some e /\ cs[j]? = some c /\ es.find? (fun e => keyB k e.1) = some e /\ Instr.findNow d ck cs i = some (some (i + j, c.val)) /\ c.key = ck /\ ∀ v, updV k v es = es.set j (k, v)
 | [], [], _, _, _, _ => .inl ⟨rfl, rfl, fun _ => rfl⟩
 | [], _ :: _, _, h, _, _ => by simp at h
 | _ :: _, [], _, h, _, _ => by simp at h
 | e :: es, c :: cs, i, hl, hr, hp => by
   obtain ⟨r1, r2⟩ := hr 0 e c rfl rfl
   obtain ⟨d', hd', i1, i2, hsn, heq⟩ := keys_now hk (hp e (.head _)) rk r1
   rw [hd] at hd'; cases hd'
   cases hb : keyB k e.1 with
   | true =>
     rw [hb] at hsn
     exact .inr ⟨0, e, c, rfl, rfl, by simp [List.find?, hb], by simp [Instr.findNow, hsn], heq hb, fun v => by simp [updV, hb]⟩
   | false =>
     rw [hb] at hsn
     rcases find_now hd hk rk es cs (i + 1) (by simpa using hl) (fun j e c h1 h2 => hr (j + 1) e c (by simpa using h1) (by simpa using h2)) (fun x hx => hp x (.tail _ hx)) with ⟨h1, h2, h3⟩ | ⟨j, e', c', h1, h2, h3, h4, h5, h6⟩
     · exact .inl ⟨by simp [List.find?, hb, h1], by simp [Instr.findNow, hsn, h2], fun v => by simp [updV, hb, h3]⟩
     · exact .inr ⟨j + 1, e', c', by simpa using h1, by simpa using h2, by simp [List.find?, hb, h3], by simp [Instr.findNow, hsn, h4]; omega, h5, fun v => by simp [updV, hb, h6]⟩
theorem key_is {P : Program} {kt : TypeId} {x : V} {cx : Value} {n : Nat} (hx : plainKey P kt x = true) (rx : VRel g.bs g.I w n x cx) : ∃ d, P.underlying kt = some d /\ IsKey d cx := by
 obtain ⟨d, h1, h2, _⟩ := keys_now hx hx rx rx
 exact ⟨d, h1, h2⟩
theorem only_set (w : World) (b : Nat) (x : Obj) : Only w { w with heap := w.heap.setIfInBounds b x } b :=
 ⟨rfl, rfl, rfl, by simp, fun k hk => by simp [Ne.symm hk]⟩
theorem sound_mapUpdate {T : TypeId} {x k v : Operand} (ho : o.op = .mapUpdate T x k v) (H : Nexts c a o.dst K KP next Q) (hs : Sim c g w a ⟨t, ob, nt, df⟩)
 (h : ev t x fun x => ev t k fun k => ev t v fun v => vmapUpdate S T x k v ⟨t, ob, nt, df⟩ K) : o.wp S.P a w next Q := by
 obtain ⟨vx, hvx, h1⟩ := ev_sound hs.ti h
 clear h
 obtain ⟨vk, hvk, h2⟩ := ev_sound hs.ti h1
 clear h1
 obtain ⟨vv, hvv, h⟩ := ev_sound hs.ti h2
 clear h2
 unfold vmapUpdate at h
 simp only at h
 split at h
 case h_2 => exact h.elim
 rename_i kt et o1 hu
 simp only [V.untokK, force_eq] at h
 split at h
 case h_2 => exact h.elim
 rename_i hck
 simp only [Bool.and_eq_true] at hck
 obtain ⟨hkp, hlow⟩ := hck
 obtain ⟨x1, ho1, h⟩ := getK_iff h
 cases x1 <;> try exact h.elim
 rename_i es
 obtain ⟨hes, h⟩ := h
 obtain ⟨_, h⟩ := setK_iff h
 obtain ⟨arr, clk, g1, g2, g3⟩ := hs.wi.obj o1 _ ho1
 obtain ⟨d, hd, hik⟩ := key_is hkp hvk.rel
 have hrx := hvx.rel
 generalize hx : a.eval x = ex at hrx
 cases hrx with | mp hlt =>
 generalize hck : a.eval k = ck at hvk hik
 have hvr := hvv.rel.untok.low hlow
 generalize hcv : a.eval v = cv at hvr
 have hI : ∀ j, ¬ g.I (g.bs o1) j := fun j => hs.wi.i5 o1 _ j ho1 rfl
 have fin : ∀ (arr' : Array MapEntry) (clk' : Nat), (Instr.mapUpdate T (.map (some (g.bs o1))) ck cv).run S.P w = .ok () { w with heap := w.heap.setIfInBounds (g.bs o1) (.map arr' clk') } ->
  (updV vk vv.untok es).length = arr'.size -> (∀ (j : Nat) e (c : MapEntry), (updV vk vv.untok es)[j]? = some e -> arr'[j]? = some c -> VRel g.bs g.I w 0 e.1 c.key /\ VRel g.bs g.I w 0 e.2 c.val) -> o.wp S.P a w next Q := fun arr' clk' hrun hl hr => by
  have hon := only_set w (g.bs o1) (.map arr' clk')
  have he : Ext g w ob.length nt g { w with heap := w.heap.setIfInBounds (g.bs o1) (.map arr' clk') } ob.length nt := Ext.only hon hI
  have hw := hs.wi.put (x' := .map (updV vk vv.untok es)) ho1 rfl hI hon ⟨arr', clk', (heap_set g1).1, hl, fun j e c h1 h2 => ⟨he.rel0 (hr j e c h1 h2).1, he.rel0 (hr j e c h1 h2).2⟩⟩ fun _ => rfl
  have hex : (execOp a.eval o).run S.P w = .ok .skip { w with heap := w.heap.setIfInBounds (g.bs o1) (.map arr' clk') } := by
   simp only [execOp, ho, hx, hck, hcv, Sem.run_bind, hrun, Result.andThen_ok]
   rfl
  unfold Oper.wp
  rw [hex]
  exact H.val (.tup []) _ _ _ _ a h ⟨hw, by simpa using he.tinv hs.ti, by simpa using he.drel hs.di⟩ rfl (.of (.tup rfl (by simp)) rfl)
 have hk0 : VRel g.bs g.I w 0 vk ck := hvk.rel.low (by
  unfold plainKey at hkp
  cases vk <;> simp_all [V.low])
 rcases find_now hd hkp hk0 es arr.toList 0 (by simpa using g2) (fun j e c h1 h2 => g3 j e c h1 (by simpa using h2)) hes with ⟨h1, h2, h3⟩ | ⟨j, e, c', h1, h2, h3, h4, h5, h6⟩
 · refine fin (arr.push { key := ck, val := cv, born := clk }) (clk + 1) ?_ (by rw [h3]; simp [g2]) fun j e c hj hc => ?_
   · simp [Instr.mapUpdate, run_underlying hu, run_getObj_map g1, run_checkKey hd hik, run_findKey hd h2, run_setObj_map _ g1]
   · rw [h3, List.getElem?_append] at hj
     rw [Array.getElem?_push] at hc
     split at hj
     · rename_i hlt'
       rw [if_neg (by omega)] at hc
       exact g3 j e c hj hc
     · rename_i hge
       have hj0 : j - es.length = 0 := by
        have := (List.getElem?_eq_some_iff.1 hj).1
        simpa using this
       rw [hj0] at hj
       cases hj
       rw [if_pos (by omega)] at hc
       cases hc
       exact ⟨hk0, hvr⟩
 · have hjc : arr[j]? = some c' := by simpa using h2
   refine fin (arr.modify j fun e => { e with key := ck, val := cv }) clk ?_ (by rw [h6]; simp [g2]) fun j' e' c hj hc => ?_
   · simp [Instr.mapUpdate, run_underlying hu, run_getObj_map g1, run_checkKey hd hik, run_findKey hd h4, hjc, h5, run_keyThatStays hik, run_setObj_map _ g1]
   · rw [h6] at hj
     rw [Array.getElem?_modify] at hc
     rcases set_get hj with ⟨rfl, rfl⟩ | ⟨hne, hj⟩
     · rw [if_pos rfl, hjc] at hc
       cases hc
       exact ⟨hk0, hvr⟩
     · rw [if_neg hne] at hc
       exact g3 _ _ _ hj hc
theorem lookup_res {ok : Bool} {v : V} {x y : V -> Prop} (hk : v.untokK fun v => (match ok with | true => x v | false => y v)) : (ok = true -> x v.untok) /\ (ok = false -> y v.untok) := by
 simp only [V.untokK, force_eq] at hk
 exact ⟨fun e => by subst e; exact hk, fun e => by subst e; exact hk⟩
theorem sound_lookup {T : TypeId} {x k : Operand} {ok : Bool} (ho : o.op = .lookup T x k ok) (H : Nexts c a o.dst K KP next Q) (hs : Sim c g w a ⟨t, ob, nt, df⟩)
 (h : ev t x fun x => ev t k fun k => lookupK S.P T ob x k ok fun v => K v ⟨t, ob, nt, df⟩) : o.wp S.P a w next Q := by
 obtain ⟨vx, hvx, h1⟩ := ev_sound hs.ti h
 clear h
 obtain ⟨vk, hvk, h⟩ := ev_sound hs.ti h1
 clear h1
 unfold lookupK at h
 split at h
 case h_2 => exact h.elim
 rename_i kt et hu
 split at h
 case h_2 => exact h.elim
 rename_i hkp
 simp only at h
 obtain ⟨d, hd, hik⟩ := key_is hkp hvk.rel
 have hrx := hvx.rel
 generalize hx : a.eval x = ex at hrx
 generalize hck : a.eval k = ck at hvk hik
 have fin : ∀ {v : V} {cv : Value} {b : Bool}, (Instr.lookup T ex ck ok).run S.P w = .ok (if ok then .tuple #[cv, .bool b] else cv) w -> VRel g.bs g.I w ob.length v cv ->
  ((ok = true -> K (.tup [v.untok, .bool b]) ⟨t, ob, nt, df⟩) /\ (ok = false -> K v.untok ⟨t, ob, nt, df⟩)) -> o.wp S.P a w next Q := fun {v cv b} hrun hv hk => by
  have hv := hv.untok
  cases ok with
  | true =>
    refine H.same hs (x := .tuple #[cv, .bool b]) ?_ (.of (.tup rfl fun j u y h1 h2 => ?_) rfl) (hk.1 rfl)
    · simp only [execOp, ho, hx, hck, Sem.run_bind, hrun, Result.andThen_ok]; rfl
    · match j with
      | 0 => simp at h1 h2; subst h1; subst h2; exact hv
      | 1 => simp at h1 h2; subst h1; subst h2; exact .bool
      | j + 2 => simp at h1
  | false =>
    refine H.same hs (x := cv) ?_ (.of hv (untok_noTok v)) (hk.2 rfl)
    simp only [execOp, ho, hx, hck, Sem.run_bind, hrun, Result.andThen_ok]; rfl
 cases vx <;> try exact h.elim
 case nilm =>
  cases hrx
  obtain ⟨i, z, hi, hz, hk⟩ := zeroV_iff h
  refine fin (cv := z) (b := false) ?_ (ofConstAgg_rel z) (lookup_res hk)
  simp [Instr.lookup, run_underlying hu, run_checkKey hd hik, Instr.findKey, run_underlying hd, Instr.findNow, zeroValue, typeInfo, hi, hz]
 case mp o1 =>
  obtain ⟨x1, ho1, h⟩ := getK_iff h
  cases x1 <;> try exact h.elim
  rename_i es
  obtain ⟨hes, r, hr, h⟩ := h
  obtain ⟨arr, clk, g1, g2, g3⟩ := hs.wi.obj o1 _ ho1
  cases hrx with | mp hlt =>
  rcases find_now hd hkp hvk.rel es arr.toList 0 (by simpa using g2) (fun j e c h1 h2 => g3 j e c h1 (by simpa using h2)) hes with ⟨h1, h2, h3⟩ | ⟨j, e, c', h1, h2, h3, h4, h5, h6⟩
  · rw [h1] at hr
    subst hr
    obtain ⟨i, z, hi, hz, hk⟩ := zeroV_iff h
    refine fin (cv := z) (b := false) ?_ (ofConstAgg_rel z) (lookup_res hk)
    simp [Instr.lookup, run_underlying hu, run_getObj_map g1, run_checkKey hd hik, run_findKey hd h2, zeroValue, typeInfo, hi, hz]
  · rw [h3] at hr
    subst hr
    have hr := (g3 j e c' h1 (by simpa using h2)).2
    refine fin (cv := c'.val) (b := true) ?_ (hr.mono (fun o ho => absurd ho (by omega)) fun b k h => ⟨h, rfl⟩) (lookup_res h)
    simp [Instr.lookup, run_underlying hu, run_getObj_map g1, run_checkKey hd hik, run_findKey hd h4]
end
end VL

namespace VL
open Go
section
variable {S : Sys} {c : Ctx} {g : G} {w : World} {a : Act} {o : Oper} {K KP : V -> St -> Prop} {next : Act -> World -> Prop} {Q : Exit -> Act -> World -> Prop}
 {t : List V} {ob : List VObj} {nt : Nat} {df : List (Fn × List V × List V)}
theorem run_shape {P : Program} {b : Nat} {arr : Array Value} {T : TypeId} {fz : Nat × Nat} (h : w.heap[b]? = some (.cells arr T fz)) : (shape b).run P w = .ok (some (T, arr.size)) w := by
 have : w.shape? b = some (T, arr.size) := by unfold World.shape?; rw [h]
 simp [shape, Sem.run, this]
theorem run_viewAt {P : Program} {b : Nat} {arr : Array Value} {T : TypeId} {fz : Nat × Nat} (h : w.heap[b]? = some (.cells arr T fz)) : (viewAt b).run P w = .ok none w := by
 simp [viewAt, run_shape h, Result.andThen]
theorem run_cellsIn {P : Program} {b : Nat} {arr : Array Value} {T : TypeId} {fz : Nat × Nat} (h : w.heap[b]? = some (.cells arr T fz)) : (cellsIn b).run P w = .ok (some arr.size) w := by
 simp [cellsIn, run_shape h, Result.andThen]
theorem run_seenAt {P : Program} {b off : Nat} {arr : Array Value} {T : TypeId} {fz : Nat × Nat} (h : w.heap[b]? = some (.cells arr T fz)) : (Conv.seenAt ⟨b, off, none⟩).run P w = .ok ⟨b, off, none⟩ w := by
 simp [Conv.seenAt, run_viewAt h, Result.andThen]
theorem run_variablesAt {P : Program} {b off n : Nat} {u : TypeId} {arr : Array Value} {T : TypeId} {fz : Nat × Nat} (h : w.heap[b]? = some (.cells arr T fz)) : (variablesAt ⟨b, off, none⟩ u n).run P w = .ok (liesAt P P.depth T (arr.size / P.cellsOf T) off u n) w := by
 simp [variablesAt, run_shape h, Result.andThen, program, Sem.run]
theorem run_toUnsafe {P : Program} {A B e : TypeId} {b off : Nat} {arr : Array Value} {T : TypeId} {fz : Nat × Nat} (hA : P.underlying A = some (.pointer e)) (hB : P.underlying B = some .unsafePointer)
 (hs : 0 < szOf P e) (ho : off < arr.size) (h : w.heap[b]? = some (.cells arr T fz)) : (convert A B (.pointer (some ⟨b, off, none⟩))).run P w = .ok (.pointer (some ⟨b, off, none⟩)) w := by
 obtain ⟨m, hm⟩ : ∃ m, szOf P e = m + 1 := ⟨szOf P e - 1, by omega⟩
 obtain ⟨inf, hi, hs'⟩ := szOf_pos hm
 have hsz : (Go.sizeOf e).run P w = .ok inf.size w := by simp [Go.sizeOf, typeInfo, hi]
 have h1 : ¬ arr.size <= off := by omega
 have h2 : inf.size ≠ 0 := by omega
 simp [convert, run_underlying hA, run_underlying hB, Conv.unsafePointer, run_seenAt h, run_cellsIn h, hsz, Result.andThen, h1, h2]
theorem run_ofUnsafe {P : Program} {A B e : TypeId} {b off : Nat} {arr : Array Value} {T : TypeId} {fz : Nat × Nat} (hA : P.underlying A = some .unsafePointer) (hB : P.underlying B = some (.pointer e))
 (hs : 0 < szOf P e) (hl : liesAt P P.depth T (arr.size / P.cellsOf T) off e 1 = true) (h : w.heap[b]? = some (.cells arr T fz)) : (convert A B (.pointer (some ⟨b, off, none⟩))).run P w = .ok (.pointer (some ⟨b, off, none⟩)) w := by
 obtain ⟨m, hm⟩ : ∃ m, szOf P e = m + 1 := ⟨szOf P e - 1, by omega⟩
 obtain ⟨inf, hi, hs'⟩ := szOf_pos hm
 have hsz : (Go.sizeOf e).run P w = .ok inf.size w := by simp [Go.sizeOf, typeInfo, hi]
 have h2 : inf.size ≠ 0 := by omega
 simp [convert, run_underlying hA, run_underlying hB, Conv.unsafePointer, run_seenAt h, run_variablesAt h, hsz, hl, Result.andThen, h2]
theorem sound_unsafe {A B : TypeId} {x : Operand} {i off : Nat} (ho : o.op = .convert A B x) (H : Nexts c a o.dst K KP next Q) (hs : Sim c g w a ⟨t, ob, nt, df⟩) (hp : VT g w ob.length nt (.ptr i off) (a.eval x))
 (hk : getK ob i fun o1 => unsafeK S.P A B o1 off fun b => (match b with | true => K (.ptr i off) ⟨t, ob, nt, df⟩ | false => False)) : o.wp S.P a w next Q := by
 obtain ⟨x1, ho1, hk⟩ := getK_iff hk
 unfold unsafeK at hk
 have hu : unsafeOk S.P A B x1 off = true := by
  cases h : unsafeOk S.P A B x1 off with
  | true => rfl
  | false => rw [h] at hk; exact hk.elim
 rw [hu] at hk
 simp only at hk
 have hr := hp.rel
 generalize hx : a.eval x = e at hr
 cases hr
 rename_i hlt
 have ho2 := hs.wi.obj i x1 ho1
 unfold unsafeOk at hu
 have hrun : (convert A B (.pointer (some ⟨g.bs i, off, none⟩))).run S.P w = .ok (.pointer (some ⟨g.bs i, off, none⟩)) w := by
  split at hu
  · rename_i hA hB
    simp only [Bool.and_eq_true, Nat.blt_eq] at hu
    obtain ⟨arr, a1, a2, _⟩ := ho2
    exact run_toUnsafe hA hB hu.1 (by rw [← a2]; exact hu.2) a1
  · rename_i hA hB
    simp only [Bool.and_eq_true, Nat.blt_eq] at hu
    obtain ⟨arr, a1, a2, _⟩ := ho2
    exact run_ofUnsafe hA hB hu.1 (by rw [← a2]; exact hu.2) a1
  · cases hu
 refine H.same hs (x := .pointer (some ⟨g.bs i, off, none⟩)) ?_ (.of (.ptr hlt) rfl) hk
 simp only [execOp, ho, hx, Sem.run_bind, hrun, Result.andThen_ok]
 rfl
theorem run_unsafeStr {P : Program} {ts : Array TypeId} {pt ty e : TypeId} (h0 : ts[0]? = some pt) (hp : P.underlying pt = some (.pointer e)) (hc : P.cellsOf e = 1) {b cells : Nat} (hsh : w.shape? b = some (e, cells)) (l : List UInt8) (hl0 : l ≠ []) (hn : l.length <= cells)
 (h63 : l.length <= 9223372036854775807) (hcell : ∀ j x, l[j]? = some x -> w.cell? ((⟨b, 0, none⟩ : Addr).add j) = some (.int .u8 x.toNat)) :
 (Builtin.unsafeString_ ts ty #[.pointer (some ⟨b, 0, none⟩), .int .i64 l.length]).run P w = .ok (.string ⟨l.toArray⟩) (w.freeze ⟨b, 0, none⟩ l.length) := by
 have e0 : Builtin.unsafeString_ ts ty #[.pointer (some ⟨b, 0, none⟩), .int .i64 l.length] = Builtin.unsafeString_ #[pt, pt] ty #[.pointer (some ⟨b, 0, none⟩), .int .i64 l.length] := by
  unfold Builtin.unsafeString_
  rw [h0]; rfl
 rw [e0]
 exact Go.Lib.run_unsafeString_row w pt pt ty e hp hc b cells hsh l hl0 hn h63 hcell
theorem run_unsafeStr0 {P : Program} {ts : Array TypeId} {pt ty : TypeId} (h0 : ts[0]? = some pt) (p : Option Addr) :
 (Builtin.unsafeString_ ts ty #[.pointer p, .int .i64 0]).run P w = .ok (.string .empty) w := by
 have e0 : Builtin.unsafeString_ ts ty #[.pointer p, .int .i64 0] = Builtin.unsafeString_ #[pt, pt] ty #[.pointer p, .int .i64 0] := by
  unfold Builtin.unsafeString_
  rw [h0]; rfl
 rw [e0]
 exact Go.Lib.run_unsafeString_none w pt pt ty p
theorem only_freeze (w : World) (b off n : Nat) : Only w (w.freeze ⟨b, off, none⟩ n) b := by
 unfold World.freeze
 split
 · exact ⟨rfl, rfl, rfl, rfl, fun _ _ => rfl⟩
 · exact ⟨rfl, rfl, rfl, by simp, fun k hk => by simp [Array.getElem?_modify, Ne.symm hk]⟩
theorem sound_unsafeString {cl : Call} (ho : o.op = .call cl) (hc : cl.callee = .builtin .unsafeString) (H : Nexts c a o.dst K KP next Q) (hs : Sim c g w a ⟨t, ob, nt, df⟩)
 (hh : evs t cl.args.toList fun args => vunsafeString S cl.argTypes args ⟨t, ob, nt, df⟩ K) : o.wp S.P a w next Q := by
 obtain ⟨vs, k1, k2, h⟩ := evs_sound hs.ti hh
 clear hh
 obtain ⟨h1, h2⟩ := args_of k1 k2
 clear k1 k2
 have hx := exec_builtin (a := a) ho hc
 generalize cl.args.map a.eval = ca at h1 h2 hx
 unfold vunsafeString at h
 simp only at h
 split at h
 case h_2 => exact h.elim
 rename_i e o1 z n hT
 obtain ⟨T, h0, hu⟩ := argT_some hT
 obtain ⟨c1, c2, hca, r1, r2⟩ := arg2 h1 h2
 obtain ⟨x1, ho1, h'⟩ := getK_iff h
 clear h
 split at h'
 case h_2 => exact h'.elim
 rename_i mv z' l T'
 split at h'
 case h_2 => exact h'.elim
 rename_i hck
 simp only [Bool.and_eq_true] at hck
 obtain ⟨⟨⟨hz1, hz⟩, hT'⟩, hce⟩ := hck
 have hz1 := Nat.eq_of_beq_eq_true hz1
 have hz := Nat.eq_of_beq_eq_true hz
 have hT' := Nat.eq_of_beq_eq_true hT'
 have hce := Nat.eq_of_beq_eq_true hce
 subst hz1; subst hz; subst hT'
 obtain ⟨hn0, hnb, hnl, bs, hbs, h⟩ := h'
 have hr1 := r1.rel
 have hr2 := r2.rel
 cases hr1 with | bp hlt =>
 cases hr2
 subst hca
 have hlen : bs.size = n.toNat := by
  have := congrArg List.length hbs
  rw [bytesV_length, List.length_take] at this; omega
 simp only [Nat.zero_mul, Nat.add_zero] at hx
 rcases bif_elim h with ⟨hb, h⟩ | ⟨hb, h⟩
 · have hb := Nat.eq_of_beq_eq_true hb
   have hn : n = 0 := by omega
   subst hn
   have hbe : bs = .empty := by
    apply ByteArray.ext
    apply Array.eq_empty_of_size_eq_zero
    show bs.size = 0
    omega
   subst hbe
   refine H.grown (w' := w) ?_ hs (.of .str rfl) h
   rw [hx]
   simp [Go.builtin, run_unsafeStr0 (w := w) h0]
 · have hb : n.toNat ≠ 0 := fun e => by rw [e] at hb; cases hb
   obtain ⟨hol, h⟩ := setK_iff h
   have hlne : l ≠ [] := fun e => by rw [e] at hnl; simp at hnl; omega
   obtain ⟨arr, U, g1, g2, g3, g4, g5⟩ := (hs.wi.obj o1 _ ho1).resolve_left hlne
   have hU := g2 _ rfl
   subst hU
   have hreal : (VObj.buf mv 1 l (some T')).real = true := by simp [VObj.real, hlne]
   have hI : ∀ k, ¬ g.I (g.bs o1) k := fun k => hs.wi.i5 o1 _ k ho1 (by simp [VObj.loose, hlne])
   have hon := only_freeze w (g.bs o1) 0 n.toNat
   have he : Ext g w ob.length nt g (w.freeze ⟨g.bs o1, 0, none⟩ n.toNat) ob.length nt := Ext.only hon hI
   have hw2 := hs.wi.put ho1 hreal hI hon (x' := .buf true 1 []) (.inl rfl) (fun h => by cases h)
   have hsh : w.shape? (g.bs o1) = some (T', arr.size) := by unfold World.shape?; rw [g1]
   have hbl : bs.data.toList.length = n.toNat := by rw [Array.length_toList]; exact hlen
   have hrun := run_unsafeStr (w := w) (ty := o.type) h0 hu hce hsh bs.data.toList (fun e => by rw [e] at hbl; simp at hbl; omega) (by rw [hbl, g3]; omega) (by rw [hbl]; omega) (fun j x hj => by
    have hjl : j < n.toNat := by rw [← hbl]; exact (List.getElem?_eq_some_iff.1 hj).1
    have hv : (l.take n.toNat)[j]? = some (.int .u8 x.toNat) := by rw [hbs]; unfold bytesV; rw [List.getElem?_map, hj]; rfl
    rw [List.getElem?_take, if_pos hjl] at hv
    have hf := flat_at (fun y hy => (g4 y hy).1) hv 0 (by omega)
    simp only [Nat.mul_one, Nat.add_zero, V.cells, List.getElem?_cons_zero] at hf
    have hjs : j < arr.size := by rw [g3]; omega
    have hrl := (g5 j _ arr[j] hf (by simp [hjs])).1
    generalize hy : arr[j] = y at hrl
    cases hrl
    rw [Addr.add_mid]
    simp [World.cell?, g1, hjs, hy])
   rw [hbl] at hrun
   have hni : ((n.toNat : Nat) : Int) = n := Int.toNat_of_nonneg hn0
   rw [hni] at hrun
   refine H.grown (w' := w.freeze ⟨g.bs o1, 0, none⟩ n.toNat) ?_ ⟨hw2, by simpa using he.tinv hs.ti, by simpa using he.drel hs.di⟩ (.of .str rfl) h
   rw [hx]
   simp [Go.builtin, hrun]
end
end VL

namespace VL
open Go
section
variable {S : Sys} {c : Ctx} {g : G} {w : World} {a : Act} {o : Oper} {K KP : V -> St -> Prop} {next : Act -> World -> Prop} {Q : Exit -> Act -> World -> Prop}
 {t : List V} {ob : List VObj} {nt : Nat} {df : List (Fn × List V × List V)}
theorem sound_buildMu {T : TypeId} {n : Nat} {parts : Array (Nat × Operand)} (ho : o.op = .buildSlice T n parts) (H : Nexts c a o.dst K KP next Q) (hs : Sim c g w a ⟨t, ob, nt, df⟩)
 (h : vbuildMu S T n parts t ob fun v ob => K v ⟨t, ob, nt, df⟩) : o.wp S.P a w next Q := by
 unfold vbuildMu at h
 obtain ⟨ps, hl, hr, hk⟩ := partsK_sound hs.ti h
 clear h
 split at hk
 case h_2 => exact hk.elim
 rename_i l hio
 split at hk
 case h_2 => exact hk.elim
 rename_i hck
 simp only [Bool.and_eq_true, beq_iff_eq] at hck
 obtain ⟨hln, hsz⟩ := hck
 obtain ⟨inf, hinf, hpos, hk⟩ := szK_iff hk
 split at hk
 case h_2 => exact hk.elim
 rename_i zv hb hzv
 have hb : ¬ 16777216 < n * inf.size := by
  intro e
  have : Nat.blt 16777216 (n * inf.size) = true := by rw [Nat.blt_eq]; exact e
  rw [this] at hb; cases hb
 split at hk
 case h_2 => exact hk.elim
 rename_i hzs
 have hzs : zv.cells.size = inf.size := by simpa using hzs
 rw [szOf_info hinf] at hsz
 have hzz := sizesOk_get hsz
 have hzero : inf.zero = some zv := by simpa [hinf] using hzv
 have main : ∀ {e : TypeId}, S.P.underlying T = some (.slice e) -> ∃ cells : Array Value, (execOp a.eval o).run S.P w = .ok (.value (.slice (some ⟨w.heap.size, 0, none⟩) n n)) (w.alloc (.cells cells e)) /\ cells.size = n * inf.size /\
  (∀ (k : Nat) v c, (l.flatMap V.cells)[k]? = some v -> cells[k]? = some c -> VRel g.bs g.I w ob.length v c) /\ l.length = n := fun {e} hu => by
  have he : elemT S.P T = e := by simp [elemT, hu]
  rw [he] at hinf
  have hpl : ps.length = l.length := inOrder_len hio
  have hbase : ((Array.range (n * inf.size)).map (zv.cells[· % zv.cells.size]!)).size = n * inf.size := by simp
  obtain ⟨ca, h1, h2, h3, h4, h5⟩ := fill_row (w := w) (bs := g.bs) (I := g.I) (n := ob.length) (size := inf.size) (ca := (Array.range (n * inf.size)).map (zv.cells[· % zv.cells.size]!)) hio
   (qs := parts.toList.map fun (i, x) => (i, a.eval x)) (by simp [hl]) (run_parts hl hr) hzz (by rw [hbase, Nat.zero_add, hpl, hln]; exact Nat.le_refl _)
  refine ⟨ca, ?_, by rw [h2, hbase], fun k v c hv hc => h5 k v c hv (by simpa using hc), hln⟩
  simp only [execOp, ho, Instr.buildSlice, Sem.run_bind, run_underlying hu, Result.andThen_ok, run_size hinf]
  rw [if_neg hb]
  by_cases h0 : n * inf.size = 0
  · have hca : ca = #[] := Array.eq_empty_of_size_eq_zero (by rw [h2, hbase, h0])
    rw [h0] at h1
    simp only [h0, if_true, Sem.run_pure, Result.andThen_ok]
    have h1' : Instr.fill (fun i => some (i * inf.size, inf.size)) ((Array.range 0).map fun x => (#[] : Array Value)[x % (#[] : Array Value).size]!) (parts.map fun (i, x) => (i, a.eval x)).toList = some ca := by
     rw [Array.toList_map]
     have e0 : ∀ f : Nat -> Value, (Array.range 0).map f = #[] := fun f => by simp [Array.range]
     rw [e0] at h1 ⊢
     exact h1
    simp only [h1', newRow, Sem.run_bind, run_newObj_alloc, Result.andThen_ok, Sem.run_pure]
  · have hzr : (zeroValue e).run S.P w = .ok zv w := by simp [zeroValue, typeInfo, hinf, hzero]
    have h1' : Instr.fill (fun i => some (i * inf.size, inf.size)) ((Array.range (n * inf.size)).map fun x => zv.cells[x % zv.cells.size]!) (parts.map fun (i, x) => (i, a.eval x)).toList = some ca := by
     rw [Array.toList_map]; exact h1
    simp only [h0, if_false, Sem.run_bind, hzr, Sem.run_pure, Result.andThen_ok, h1', newRow, run_newObj_alloc]
 split at hk
 case h_2 => exact hk.elim
 rename_i e hu hlow
 have hk := snocK_iff hk
 obtain ⟨cells, hrun, h1, h2, h3⟩ := main hu
 have hok : ∀ x ∈ l, x.cells.length = inf.size /\ x.cells.all V.okCell = true := fun x hx => ⟨(hzz x hx).1, (hzz x hx).2.1⟩
 obtain ⟨g', s1, s2⟩ := buf_alloc hs (wt := none) (hwt := by simp) (row := cells) (e := e) (z := inf.size) (L := l) (by rw [h1, h3]) hok
  (fun k v y hv hy => by
    have hr := (h2 k v y hv hy).low (flat_low hlow hv)
    obtain ⟨x, hx, hvx⟩ := List.mem_flatMap.1 (List.mem_of_getElem? hv)
    exact ⟨hr, hr.oneCell (List.all_eq_true.1 (hok x hx).2 v hvx)⟩) (Nat.le_refl n)
 exact H.grown hrun s1 (by simpa using s2) hk
def IsOpt (a : Act) (lo : Option Operand) (n : Option Int) : Prop :=
 match lo, n with
 | none, none => True
 | some y, some n => ∃ k, a.eval y = .int k n
 | _, _ => False
theorem optK_sound {g : G} {n nt : Nat} (h : TInv g w n nt a.tmps t) {lo : Option Operand} {K : Option Int -> Prop} (hk : optK t lo K) : ∃ n, IsOpt a lo n /\ K n := by
 unfold optK at hk
 cases lo with
 | none => exact ⟨none, trivial, hk⟩
 | some y =>
   obtain ⟨v, hv, hk⟩ := ev_sound h hk
   cases v <;> try exact hk.elim
   rename_i k n
   have hr := hv.rel
   generalize hx : a.eval y = e at hr
   cases hr
   exact ⟨some n, ⟨k, hx⟩, hk⟩
theorem slice_buf {T e : TypeId} {x : Operand} {lo hi : Option Operand} (ho : o.op = .slice T x lo hi none) (H : Nexts c a o.dst K KP next Q) (hs : Sim c g w a ⟨t, ob, nt, df⟩) {i n z l m : Nat} {inf : TypeInfo}
 (hp : VT g w ob.length nt (.ptr i 0) (a.eval x)) (hu : S.P.underlying T = some (.array n e)) (hi' : S.P.info? e = some inf) (hz : z = inf.size)
 (hb : (Instr.sliceBounds false n n (lo.map a.eval) (hi.map a.eval) none).run S.P w = .ok (l, m, n) w) (h1 : l <= m) (h2 : m <= n) (hk : K (.slo i z l (m - l) (n - l)) ⟨t, ob, nt, df⟩) : o.wp S.P a w next Q := by
 have hr := hp.rel
 generalize hx : a.eval x = ex at hr
 cases hr with | ptr hlt =>
 subst hz
 refine H.same hs (x := .slice (some (if n = l then ⟨g.bs i, 0, none⟩ else (⟨g.bs i, 0, none⟩ : Addr).add (l * inf.size))) (m - l) (n - l)) ?_ (.of ?_ rfl) hk
 · have hb' : (Instr.sliceBounds false n n (lo.map a.eval) (hi.map a.eval) none).run S.P w = .ok (l, m, n) w := hb
   simp only [execOp, ho, hx, Sem.run_bind, Instr.sliceAt, run_underlying hu, Result.andThen_ok, Instr.sureAddr, Sem.run_pure, Option.map_none, hb', run_size hi']
 · have hpl : Plain (some (if n = l then ⟨g.bs i, 0, none⟩ else (⟨g.bs i, 0, none⟩ : Addr).add (l * inf.size))) := by
    split
    · exact .inr ⟨_, _, rfl⟩
    · exact .inr ⟨g.bs i, 0 + l * inf.size, by rw [Addr.add_mid]⟩
   refine .slo hlt (by omega) ?_ hpl
   by_cases hn : n = l
   · exact .inl (by omega)
   · rw [if_neg hn, Addr.add_mid]; exact .inr (by simp)
theorem getK_some {α : Type} {K : α -> Prop} : ∀ {l : List α} {i : Nat} {x : α}, l[i]? = some x -> K x -> getK l i K
 | _ :: _, 0, x, h, k => by simp at h; subst h; exact k
 | _ :: r, i + 1, x, h, k => getK_some (l := r) (i := i) (by simpa using h) k
def onlyIf (b : Bool) (X : Prop) : Prop := match b with | true => X | false => False
theorem match_true {b : Bool} {X : Prop} (hb : b = true) (hx : X) : onlyIf b X := by subst hb; exact hx
theorem sound_sliceA {T : TypeId} {x : Operand} {lo hi mx : Option Operand} {i : Nat}
 (h : match S.P.underlying T, hi, lo, mx with
   | some (.array n e), hi, lo, none => getK ob i fun o1 => match o1 with
     | .buf _ z l _ => szK S.P e fun z' => optK t lo fun l1 => optK t hi fun h1 => (match Nat.beq z z', l1, h1 with
       | true, none, none => K (.slo i z 0 n n) ⟨t, ob, nt, df⟩
       | true, some a, none => 0 <= a /\ a <= n /\ K (.slo i z a.toNat (n - a.toNat) (n - a.toNat)) ⟨t, ob, nt, df⟩
       | true, none, some b => 0 <= b /\ b <= n /\ K (.slo i z 0 b.toNat n) ⟨t, ob, nt, df⟩
       | true, some a, some b => 0 <= a /\ a <= b /\ b <= n /\ K (.slo i z a.toNat (b.toNat - a.toNat) (n - a.toNat)) ⟨t, ob, nt, df⟩
       | _, _, _ => False)
     | .cells _ U cs => match lo.isNone && hi.isNone && cs.length == n && szOf S.P e == 1 && cs.all (fun c => match c with | .int _ _ => true | _ => false) with
       | true => setK ob i (.cells false U cs) fun objs => K (.sl cs .ex) ⟨t, objs, nt, df⟩
       | false => False
     | _ => False
   | _, _, _, _ => False)
 (ho : o.op = .slice T x lo hi mx) (H : Nexts c a o.dst K KP next Q) (hs : Sim c g w a ⟨t, ob, nt, df⟩)
 (hp : VT g w ob.length nt (.ptr i 0) (a.eval x)) : o.wp S.P a w next Q := by
 split at h
 case h_2 => exact h.elim
 rename_i hi lo _ _ _ _ n e hu
 obtain ⟨x1, ho1, h'⟩ := getK_iff h
 clear h
 cases x1 <;> try exact h'.elim
 case cells wr U cs =>
  simp only at h'
  split at h'
  case h_2 => exact h'.elim
  rename_i hck
  simp only [Bool.and_eq_true, Option.isNone_iff_eq_none] at hck
  obtain ⟨⟨⟨⟨rfl, rfl⟩, c1⟩, c2⟩, c3⟩ := hck
  exact sound_sliceP ho H hs hp hu (getK_some ho1 (match_true (b := cs.length == n && szOf S.P e == 1 && cs.all (fun c => match c with | .int _ _ => true | _ => false)) (by rw [c1, c2]; exact c3) h'))
 case buf mv z l ty =>
  simp only at h'
  obtain ⟨inf, hi', hpos, h1'⟩ := szK_iff h'
  clear h'
  obtain ⟨l1, hl1, h2'⟩ := optK_sound hs.ti h1'
  clear h1'
  obtain ⟨h1, hh1, h'⟩ := optK_sound hs.ti h2'
  clear h2'
  cases hzb : Nat.beq z inf.size with
  | false => rw [hzb] at h'; cases l1 <;> cases h1 <;> exact h'.elim
  | true =>
    rw [hzb] at h'
    have hz := Nat.eq_of_beq_eq_true hzb
    unfold IsOpt at hl1 hh1
    cases l1 <;> cases h1 <;> cases lo <;> cases hi <;> simp only at hl1 hh1 h' <;> try exact hl1.elim
    all_goals try exact hh1.elim
    · exact slice_buf ho H hs hp hu hi' hz (l := 0) (m := n) (bounds_to (lo := none) (n := 0) (P := S.P) (w := w) (a := a) rfl (by omega) (by omega)) (by omega) (by omega) h'
    · obtain ⟨k, hk⟩ := hh1
      obtain ⟨b0, b1, h'⟩ := h'
      rename_i b y
      have := bounds_in (lo := none) (n := 0) (m := b) (k := k) (isSlice := false) (len := n) (cap := n) (P := S.P) (w := w) (a := a) rfl (by omega) (by omega) (by omega)
      refine slice_buf ho H hs hp hu hi' hz (l := 0) (m := b.toNat) (by rw [Option.map_some, hk]; exact this) (by omega) (by omega) ?_
      simpa using h'
    · obtain ⟨k, hk⟩ := hl1
      obtain ⟨b0, b1, h'⟩ := h'
      rename_i b y
      have := bounds_to (lo := some y) (n := b) (isSlice := false) (len := n) (cap := n) (P := S.P) (w := w) (a := a) ⟨k, hk⟩ (by omega) (by omega)
      exact slice_buf ho H hs hp hu hi' hz (l := b.toNat) (m := n) this (by omega) (by omega) h'
    · obtain ⟨k, hk⟩ := hl1
      obtain ⟨k', hk'⟩ := hh1
      obtain ⟨b0, b1, b2, h'⟩ := h'
      rename_i b d y y'
      have := bounds_in (lo := some y) (n := b) (m := d) (k := k') (isSlice := false) (len := n) (cap := n) (P := S.P) (w := w) (a := a) ⟨k, hk⟩ (by omega) (by omega) (by omega)
      exact slice_buf ho H hs hp hu hi' hz (l := b.toNat) (m := d.toNat) (by rw [Option.map_some (a := y'), hk']; exact this) (by omega) (by omega) h'
theorem sound_sliceB {T : TypeId} {x : Operand} {lo hi mx : Option Operand} {i off : Nat}
 (h : match S.P.underlying T, hi, lo, mx with
   | some (.array n e), some hi, none, none => getK ob i fun o1 => match o1 with
     | .cells _ _ _ => szK S.P e fun z => optK t (some hi) fun h1 => (match Nat.beq z 1, h1 with
       | true, some b => 0 <= b /\ b <= n /\ K (.slo i 1 (off + 1) b.toNat n) ⟨t, ob, nt, df⟩
       | _, _ => False)
     | _ => False
   | _, _, _, _ => False)
 (ho : o.op = .slice T x lo hi mx) (H : Nexts c a o.dst K KP next Q) (hs : Sim c g w a ⟨t, ob, nt, df⟩)
 (hp : VT g w ob.length nt (.ptr i (off + 1)) (a.eval x)) : o.wp S.P a w next Q := by
 split at h
 case h_2 => exact h.elim
 rename_i n e hi hu
 obtain ⟨x1, ho1, h'⟩ := getK_iff h
 clear h
 cases x1 <;> try exact h'.elim
 case cells wr U cs =>
  simp only at h'
  obtain ⟨inf, hi', hpos, h1'⟩ := szK_iff h'
  clear h'
  obtain ⟨h1, hh1, h'⟩ := optK_sound hs.ti h1'
  clear h1'
  cases hzb : Nat.beq inf.size 1 with
  | false => rw [hzb] at h'; cases h1 <;> exact h'.elim
  | true =>
    rw [hzb] at h'
    have hz := Nat.eq_of_beq_eq_true hzb
    unfold IsOpt at hh1
    cases h1 with
    | none => exact h'.elim
    | some b =>
      simp only at hh1 h'
      obtain ⟨k, hk⟩ := hh1
      obtain ⟨b0, b1, h'⟩ := h'
      have hb := bounds_in (lo := none) (n := 0) (m := b) (k := k) (isSlice := false) (len := n) (cap := n) (P := S.P) (w := w) (a := a) rfl (by omega) (by omega) (by omega)
      have hb' : (Instr.sliceBounds false n n none (Option.map a.eval (some hi)) none).run S.P w = .ok (0, b.toNat, n) w := by rw [Option.map_some, hk]; exact hb
      have hr := hp.rel
      generalize hx : a.eval x = ex at hr
      cases hr with | ptr hlt =>
      refine H.same hs (x := .slice (some (if n = 0 then ⟨g.bs i, off + 1, none⟩ else (⟨g.bs i, off + 1, none⟩ : Addr).add (0 * inf.size))) (b.toNat - 0) (n - 0)) ?_ (.of ?_ rfl) h'
      · simp only [execOp, ho, hx, Sem.run_bind, Instr.sliceAt, run_underlying hu, Result.andThen_ok, Instr.sureAddr, Sem.run_pure, Option.map_none, hb', run_size hi']
      · have hpl : Plain (some (if n = 0 then ⟨g.bs i, off + 1, none⟩ else (⟨g.bs i, off + 1, none⟩ : Addr).add (0 * inf.size))) := by
         split
         · exact .inr ⟨_, _, rfl⟩
         · exact .inr ⟨g.bs i, off + 1 + 0 * inf.size, by rw [Addr.add_mid]⟩
        refine .slo hlt (by omega) ?_ hpl
        by_cases hn : n = 0
        · exact .inl (by omega)
        · rw [if_neg hn, Addr.add_mid]; exact .inr (by simp)
theorem nil_rel {n : Nat} {v : V} {x : Value} {K : Bool -> Prop} (h : VRel g.bs g.I w n v x) (hk : nilSlK.nilB v K) : ∃ ad l c, x = .slice ad l c /\ K ad.isNone := by
 unfold nilSlK.nilB at hk
 cases h <;> try exact hk.elim
 case slnil => exact ⟨none, _, _, rfl, hk _ fun _ => rfl⟩
 case sl => exact ⟨_, _, _, rfl, hk _ (by simp)⟩
 case slp => exact ⟨_, _, _, rfl, hk _ (by simp)⟩
 case spare => exact ⟨_, _, _, rfl, hk _ (by simp)⟩
 case slo =>
  rename_i ad _ ha _ _
  exact ⟨ad, _, _, rfl, hk _ fun e => by
   rcases ha with ha | ha
   · exact ha
   · rw [ha] at e; simp at e⟩
theorem eqIn_sl_nil (d : Nat) {T e : TypeId} {P : Program} (ad : Option Addr) (l c l' c' : Nat) (hu : P.underlying T = some (.slice e)) : (Op.equalIn (d + 1) T (.slice ad l c) (.slice none l' c')).run P w = .ok ad.isNone w := by
 cases ad <;> simp [Op.equalIn, run_underlying hu]
theorem sound_nilSl {op : BinOp} {T U : TypeId} {x y : Operand} (ho : o.op = .binOp op T x y U) (hy : isNilSl y = true) (H : Nexts c a o.dst K KP next Q) (hs : Sim c g w a ⟨t, ob, nt, df⟩)
 (h : ev t x fun x => nilSlK S.P op T x fun v => K v ⟨t, ob, nt, df⟩) : o.wp S.P a w next Q := by
 obtain ⟨v, hv, hk⟩ := ev_sound hs.ti h
 obtain ⟨l0, c0, rfl⟩ : ∃ l0 c0, y = .const (.slice none l0 c0) := by
  unfold isNilSl at hy
  split at hy
  · exact ⟨_, _, rfl⟩
  · cases hy
 have hey : a.eval (.const (.slice none l0 c0)) = .slice none l0 c0 := rfl
 unfold nilSlK at hk
 split at hk
 · rename_i e hu
   obtain ⟨ad, l, cp, hx, hk⟩ := nil_rel hv.rel hk
   have he : (Op.equal T (.slice ad l cp) (.slice none l0 c0)).run S.P w = .ok ad.isNone w := eqIn_sl_nil 9999 ad l cp l0 c0 hu
   refine H.same hs (x := .bool ad.isNone) ?_ (.of .bool rfl) hk
   simp only [execOp, ho, hx, hey]
   simp [eqGuard, binOp, he]
 · rename_i e hu
   obtain ⟨ad, l, cp, hx, hk⟩ := nil_rel hv.rel hk
   have he : (Op.equal T (.slice ad l cp) (.slice none l0 c0)).run S.P w = .ok ad.isNone w := eqIn_sl_nil 9999 ad l cp l0 c0 hu
   refine H.same hs (x := .bool !ad.isNone) ?_ (.of .bool rfl) hk
   simp only [execOp, ho, hx, hey]
   simp [eqGuard, binOp, he]
 · exact hk.elim
theorem sound_convert2 {A B : TypeId} {x : Operand} (ho : o.op = .convert A B x) (H : Nexts c a o.dst K KP next Q) (hs : Sim c g w a ⟨t, ob, nt, df⟩)
 (h : ev t x fun x => (match x with
 | .slo _ _ _ _ _ => (match S.P.underlying A, S.P.underlying B with
   | some (.slice e), some .string => (match S.P.underlying e with
     | some (.int .u8) => srcK S.P e #[] ob x fun m => ∃ bs : ByteArray, m = bytesV bs /\ K (.str bs) ⟨t, ob, nt, df⟩
     | _ => False)
   | _, _ => False)
 | .ptr i off => getK ob i fun o1 => unsafeK S.P A B o1 off fun b => (match b with | true => K (.ptr i off) ⟨t, ob, nt, df⟩ | false => False)
 | x => convK S.P A B x fun v => K v ⟨t, ob, nt, df⟩)) : o.wp S.P a w next Q := by
 obtain ⟨p, hp, hk⟩ := ev_sound hs.ti h
 clear h
 split at hk
 case h_2 => exact sound_unsafe ho H hs hp hk
 case h_3 => exact sound_convertV ho H hs hp hk
 rename_i o1 z lo n cp
 split at hk
 case h_2 => exact hk.elim
 rename_i e hA hB
 split at hk
 case h_2 => exact hk.elim
 rename_i he
 have hr := hp.rel
 unfold srcK at hk
 simp only at hk
 obtain ⟨x1, ho1, hk⟩ := getK_iff hk
 cases x1 <;> try exact hk.elim
 rename_i mv z' l ty
 simp only at hk
 split at hk
 case h_2 => exact hk.elim
 rename_i hzb
 have hz := Nat.eq_of_beq_eq_true hzb
 subst hz
 obtain ⟨hb, s, hm, hk⟩ := hk
 obtain ⟨news, hn⟩ := slo_src (P := S.P) hs.wi ho1 hr hb
 have hml : ((l.drop lo).take n).length = n := by simp; omega
 have hsn : s.size = n := by rw [hm, bytesV_length] at hml; exact hml
 have hnews : news = s.data.toList.map fun b => Value.int .u8 b.toNat := by
  by_cases h0 : n = 0
  · have hn0 : news = [] := List.eq_nil_of_length_eq_zero (by rw [hn.size, hml, h0]; simp)
    have hs0 : s.data.toList = [] := List.eq_nil_of_length_eq_zero (by rw [Array.length_toList]; show s.size = 0; omega)
    rw [hn0, hs0]; rfl
  · have hz1 : z = 1 := by
     obtain ⟨y, hy⟩ := List.exists_mem_of_ne_nil ((l.drop lo).take n) (fun e => by rw [e] at hml; simp at hml; omega)
     rw [← (hn.ok y hy).1]
     rw [hm] at hy
     exact (bytesV_ok s y hy).1
    subst hz1
    apply List.ext_getElem?
    intro k
    by_cases hk : k < s.data.size
    · have hk' : k < news.length := by rw [hn.size, hml, ← hsn]; simpa using hk
      have hv : (((l.drop lo).take n).flatMap V.cells)[k]? = some (.int .u8 (s.data[k]).toNat) := by
       rw [hm, bytesV_cells]; unfold bytesV; rw [List.getElem?_map, Array.getElem?_toList, Array.getElem?_eq_getElem hk]; rfl
      have hrl := hn.rel k _ _ hv (List.getElem?_eq_getElem hk')
      rw [List.getElem?_eq_getElem hk']
      generalize news[k] = y at hrl
      cases hrl
      rw [List.getElem?_map, Array.getElem?_toList, Array.getElem?_eq_getElem hk]; rfl
    · have h1 : news.length <= k := by rw [hn.size, hml, ← hsn]; simpa using hk
      rw [List.getElem?_eq_none h1, List.getElem?_eq_none (by simpa using hk)]
 have hf := hn.cells w rfl
 rw [hml] at hf
 have hrun : (convert A B (a.eval x)).run S.P w = .ok (.string s) w := by
  generalize a.eval x = ex at hr hf
  cases hr with | @slo _ _ _ _ _ _ ad hlt hl ha hf =>
  cases ad with
  | none =>
    rw [run_convert_bytes_nil w A e hA he n cp B hB]
    have hnn : news = [] := by simpa [Builtin.firstCells] using hf.symm
    have : s = ByteArray.empty := by
     obtain ⟨d⟩ := s
     have : d = #[] := by simpa [hnn] using hnews.symm
     subst this; rfl
    rw [this]
  | some b =>
    rw [run_convert_bytes_string w A B e (some b) n cp hA he hB]
    by_cases h0 : n = 0
    · subst h0
      have hs0 : s.data.toList = [] := List.eq_nil_of_length_eq_zero (by rw [Array.length_toList]; exact hsn)
      have hz0 : (loadCells b 0).run S.P w = .ok (([] : List Int).map (Value.int .u8)).toArray w := by
       have : (Builtin.firstCells z 0 (.slice (some b) 0 cp)).run S.P w = .ok news.toArray w := hf
       simp only [Builtin.firstCells, Nat.zero_mul] at this
       rw [this, hnews, hs0]; rfl
      rw [run_bytesToString w b 0 cp [] hz0]
      have : s = ByteArray.empty := by
       obtain ⟨d⟩ := s
       have : d = #[] := by simpa using hs0
       subst this; rfl
      rw [this]; rfl
    · have hz1 : z = 1 := by
       obtain ⟨y, hy⟩ := List.exists_mem_of_ne_nil ((l.drop lo).take n) (fun e => by rw [e] at hml; simp at hml; omega)
       rw [← (hn.ok y hy).1]
       rw [hm] at hy
       exact (bytesV_ok s y hy).1
      subst hz1
      have hld : (loadCells b n).run S.P w = .ok ((s.data.toList.map fun b => (b.toNat : Int)).map (Value.int .u8)).toArray w := by
       have : (Builtin.firstCells 1 n (.slice (some b) n cp)).run S.P w = .ok news.toArray w := hf
       simp only [Builtin.firstCells, Nat.mul_one] at this
       rw [this, hnews, List.map_map]; rfl
      rw [run_bytesToString w b n cp _ hld, foldl_push_byteCells]
      have he0 : ByteArray.empty.data = #[] := rfl
      rw [he0]
      simp
 refine H.same hs (x := .string s) ?_ (.of .str rfl) hk
 simp only [execOp, ho, Sem.run_bind, hrun, Result.andThen_ok]
 rfl
end
end VL

namespace VL
open Go
def Ends (g : G) (w : World) (n : Nat) : Out -> Ending -> Prop
 | .ret v, .returned x => VT g w n 0 v x
 | .pan v, .panicked ch => ∃ x, ch = [{ v := x, recovered := false }] /\ VRel g.bs g.I w n v x
 | _, _ => False
def Owns (g : G) (ob : List VObj) (b : Nat) : Prop := ∃ (o : Nat) (x : VObj), ob[o]? = some x /\ x.real = true /\ g.bs o = b
def Does (P : Program) (f : FuncId) (cargs : Array Value) (w : World) (R : Ending -> World -> Prop) : Prop :=
 match (callFunc f cargs).run P w with
 | .ok (.enter f' args') w' => Calls P f' args' w' R
 | .ok (.value v) w' => R (.returned v) w'
 | .ok (.row row args) w' => Rows P row args w' fun v w'' => R (.returned v) w''
 | _ => False
theorem Does.mono {P : Program} {f : FuncId} {cargs : Array Value} {w : World} {R R' : Ending -> World -> Prop} (h : Does P f cargs w R) (hr : ∀ e w', R e w' -> R' e w') : Does P f cargs w R' := by
 unfold Does at h ⊢
 split at h
 · exact h.mono hr
 · exact hr _ _ h
 · exact h.mono fun v w' hv => hr _ _ hv
 · exact h.elim
theorem run_callFunc {P : Program} {f : FuncId} {fn : Func} {body : Code} (hf : P.funcs[f]? = some fn) (hb : fn.body = some body) (hn : (fn.name == "runtime.NumGoroutine") = false) (cargs : Array Value) (w : World) :
 (callFunc f cargs).run P w = .ok (.enter f cargs) w := by
 have hname' : ¬ fn.name = "runtime.NumGoroutine" := by simpa using hn
 simp [callFunc, hf, hname', hb]
theorem Does.calls {P : Program} {f : FuncId} {fn : Func} {body : Code} (hf : P.funcs[f]? = some fn) (hb : fn.body = some body) (hn : (fn.name == "runtime.NumGoroutine") = false) {cargs : Array Value} {w : World} {R : Ending -> World -> Prop} :
 Does P f cargs w R ↔ Calls P f cargs w R := by
 unfold Does
 rw [run_callFunc hf hb hn]
def VCall0 (P : Program) (f : FuncId) (args : List V) (ob : List VObj) (K : Out -> List VObj -> Prop) : Prop :=
 ∀ (w : World) (g : G) (cargs : Array Value), WInv ⟨w, ob.length, g.bs, g.I, Owns g ob⟩ g w ob 0 -> args.length = cargs.size ->
  (∀ (k : Nat) v x, args[k]? = some v -> cargs[k]? = some x -> VT g w ob.length 0 v x) -> GlOk g w ->
  Does P f cargs w fun e w' => ∃ out ob' g', K out ob' /\ WInv ⟨w, ob.length, g.bs, g.I, Owns g ob⟩ g' w' ob' 0 /\ Ends g' w' ob'.length out e
structure VCall (P : Program) (f : FuncId) (args : List V) (ob : List VObj) (K : Out -> List VObj -> Prop) : Prop where
 shut :: «open» : VCall0 P f args ob K
theorem memN_iff {i : Nat} : ∀ {l : List Nat}, memN i l = true ↔ i ∈ l
 | [] => by simp [memN]
 | j :: r => by
   simp only [memN, List.mem_cons]
   cases h : Nat.beq i j with
   | true => simp [Nat.eq_of_beq_eq_true h]
   | false => simp only [memN_iff (l := r)]; exact ⟨.inr, fun h' => h'.resolve_left fun e => by subst e; simp at h⟩
theorem nodupN_iff : ∀ {l : List Nat}, nodupN l = true -> l.Nodup
 | [], _ => .nil
 | i :: r, h => by
   simp only [nodupN, Bool.and_eq_true, Bool.not_eq_true'] at h
   refine List.nodup_cons.2 ⟨fun hm => ?_, nodupN_iff h.2⟩
   rw [memN_iff.2 hm] at h; simp at h
theorem allIn_iff {idx : List Nat} : ∀ {l : List Nat}, allIn idx l = true -> ∀ i ∈ l, i ∈ idx
 | j :: r, h, i, hi => by
   simp only [allIn, Bool.and_eq_true] at h
   cases hi with
   | head => exact memN_iff.1 h.1
   | tail _ hi => exact allIn_iff h.2 i hi
theorem shutN_iff {ob : List VObj} {idx : List Nat} : ∀ {l : List Nat}, shutN ob idx l = true -> ∀ i ∈ l, ∀ x, ob[i]? = some x -> ∀ o ∈ ptrsO x, o ∈ idx
 | j :: r, h, i, hi, x, hx, o, ho => by
   simp only [shutN, Bool.and_eq_true] at h
   cases hi with
   | head => exact allIn_iff h.1 o (by rw [hx]; simpa using ho)
   | tail _ hi => exact shutN_iff h.2 i hi x hx o ho
theorem posN_get : ∀ {l : List Nat} {i k : Nat}, i ∈ l -> k <= posN i l k /\ posN i l k < k + l.length /\ l[posN i l k - k]? = some i
 | j :: r, i, k, h => by
   simp only [posN]
   cases hb : Nat.beq i j with
   | true => rw [Nat.eq_of_beq_eq_true hb]; simp
   | false =>
     have hr : i ∈ r := by
      cases h with
      | head => simp at hb
      | tail _ h => exact h
     obtain ⟨h1, h2, h3⟩ := posN_get (k := k + 1) hr
     refine ⟨by simp only; omega, by simp only [List.length_cons]; omega, ?_⟩
     simp only
     rw [show posN i r (k + 1) - k = (posN i r (k + 1) - (k + 1)) + 1 by omega]
     simpa using h3
def untokO : VObj -> VObj
 | .cells w T cs => .cells w T (cs.map V.untok)
 | o => o
theorem untokO_iff {o : VObj} {K : VObj -> Prop} (h : o.untokK K) : K (untokO o) := by
 cases o with
 | cells w T cs => exact mapK_untok h
 | _ => exact h
def inO : VObj -> VObj
 | .buf _ z l ty => .buf false z l ty
 | o => o
theorem inO_iff {o : VObj} {K : VObj -> Prop} (h : o.inK K) : K (inO o) := by
 cases o <;> exact h
theorem insK_iff : ∀ {l : List VObj} {K : List VObj -> Prop}, insK l K -> K (l.map inO)
 | [], K, h => h
 | o :: r, K, h => insK_iff (l := r) (inO_iff h)
theorem mvK_iff {o : VObj} {K : Bool -> Prop} (h : o.mvK K) : K o.mv := by
 unfold VObj.mvK at h
 split at h
 · exact h
 · cases o with
   | buf m z l => cases m <;> first | exact h | (rename_i hn; exact absurd rfl (hn _ _ _))
   | _ => exact h
def movedOf : List Nat -> List VObj -> List Nat
 | i :: r, o :: os => if o.mv then i :: movedOf r os else movedOf r os
 | _, _ => []
theorem movedK_iff : ∀ {idx : List Nat} {os : List VObj} {K : List Nat -> Prop}, movedK idx os K -> K (movedOf idx os)
 | [], os, K, h => by cases os <;> exact h
 | _ :: _, [], K, h => h
 | i :: r, o :: os, K, h => by
   have h := mvK_iff h
   simp only [movedOf]
   cases hm : o.mv with
   | true => rw [hm] at h; exact movedK_iff h
   | false => rw [hm] at h; exact movedK_iff h
theorem movedOf_get : ∀ {idx : List Nat} {os : List VObj} {j i : Nat} {o : VObj}, idx[j]? = some i -> os[j]? = some o -> o.mv = true -> i ∈ movedOf idx os
 | [], os, j, i, o, h, _, _ => by simp at h
 | _ :: _, [], j, i, o, _, h, _ => by simp at h
 | k :: r, p :: os, 0, i, o, h1, h2, h3 => by
   simp at h1 h2; subst h1; subst h2; simp [movedOf, h3]
 | k :: r, p :: os, j + 1, i, o, h1, h2, h3 => by
   have := movedOf_get (idx := r) (os := os) (by simpa using h1) (by simpa using h2) h3
   simp only [movedOf]; split
   · exact List.mem_cons_of_mem _ this
   · exact this
mutual
theorem ren_nil (f : Nat -> Nat) : ∀ v : V, ptrs v = [] -> ren f v = v
 | .undef, _ | .int _ _, _ | .bool _, _ | .str _, _ | .nilp, _ | .sl _ _, _ | .spare _ _, _ | .niln, _ | .nili, _ | .nilm, _ => rfl
 | .ptr _ _, h => by simp [ptrs] at h
 | .mp _, h => by simp [ptrs] at h
 | .slo _ _ _ _ _, h => by simp [ptrs] at h
 | .bp _ _ _ _, h => by simp [ptrs] at h
 | .slp l, h => by simp only [ren, renL_nil f l (by simpa [ptrs] using h)]
 | .dp l, h => by simp only [ren, renL_nil f l (by simpa [ptrs] using h)]
 | .agg l, h => by simp only [ren, renL_nil f l (by simpa [ptrs] using h)]
 | .tup l, h => by simp only [ren, renL_nil f l (by simpa [ptrs] using h)]
 | .ifc t v, h => by simp only [ren, ren_nil f v (by simpa [ptrs] using h)]
 | .fn g a b, h => by
   have h : ptrsL a = [] /\ ptrsL b = [] := by simpa [ptrs] using h
   simp only [ren, renL_nil f a h.1, renL_nil f b h.2]
theorem renL_nil (f : Nat -> Nat) : ∀ l : List V, ptrsL l = [] -> renL f l = l
 | [], _ => rfl
 | v :: r, h => by
   have h : ptrs v = [] /\ ptrsL r = [] := by simpa [ptrsL] using h
   simp only [renL, ren_nil f v h.1, renL_nil f r h.2]
end
theorem natK_iff {n : Nat} {K : Nat -> Prop} (h : natK n K) : K n := by cases n <;> exact h
theorem listK_iff : ∀ {l : List Nat} {K : List Nat -> Prop}, listK l K -> K l
 | [], K, h => h
 | i :: r, K, h => listK_iff (l := r) (natK_iff h)
theorem renP_iff {f : Nat -> Nat} {v : V} {K : V -> Prop} (h : renP f v K) : K (ren f v) := by
 unfold renP at h
 split at h
 · exact natK_iff h
 · exact natK_iff h
 · exact natK_iff h
 · exact natK_iff h
 · split at h
   · rename_i e; rw [ren_nil f v e]; exact h
   · exact h
theorem mapK_renP {f : Nat -> Nat} {K : List V -> Prop} : ∀ {l : List V}, mapK (renP f) l K -> K (renL f l)
 | [], h => h
 | x :: r, h => mapK_renP (l := r) (renP_iff h)
theorem renOP_iff {f : Nat -> Nat} {o : VObj} {K : VObj -> Prop} (h : renOP f o K) : K (renO f o) := by
 unfold renOP at h
 split at h
 · rename_i w T cs
   split at h
   · rename_i e
     simp only [renO, renL_nil f cs e]; exact h
   · exact mapK_renP h
 · cases o with
   | cells w T cs => rename_i hn; exact absurd rfl (hn w T cs)
   | _ => exact h
theorem mapK_renOP {f : Nat -> Nat} {K : List VObj -> Prop} : ∀ {l : List VObj}, mapK (renOP f) l K -> K (l.map (renO f))
 | [], h => h
 | x :: r, h => mapK_renOP (l := r) (renOP_iff h)
theorem getsK_iff {ob : List VObj} {f : Nat -> Nat} : ∀ {idx : List Nat} {K : List VObj -> Prop}, getsK ob f idx K ->
 ∃ sub, sub.length = idx.length /\ (∀ (j i : Nat), idx[j]? = some i -> ∃ o, ob[i]? = some o /\ sub[j]? = some (renO f (untokO o))) /\ K sub
 | [], K, h => ⟨[], rfl, by simp, h⟩
 | i :: r, K, h => by
   obtain ⟨o, h1, h2⟩ := getK_iff h
   have h4 := untokO_iff h2
   obtain ⟨sub, h5, h6, h7⟩ := getsK_iff h4
   have h7 := renOP_iff h7
   refine ⟨_ :: sub, by simp [h5], fun j k hj => ?_, h7⟩
   cases j with
   | zero => simp at hj; subst hj; exact ⟨o, h1, rfl⟩
   | succ j => exact h6 j k (by simpa using hj)
theorem orMvK_iff {m : Bool} {o : VObj} {K : VObj -> Prop} (h : o.orMvK m K) : K (o.orMv m) /\ (m = true -> ∃ m' z l ty, o = .buf m' z l ty) := by
 unfold VObj.orMvK at h
 split at h
 · exact ⟨h, fun _ => ⟨_, _, _, _, rfl⟩⟩
 · exact ⟨h, fun _ => ⟨_, _, _, _, rfl⟩⟩
 · refine ⟨?_, fun h => by cases h⟩
   cases o with
   | buf m' z l => cases m' <;> (rename_i h1 h2; first | exact absurd rfl (h1 _ _ _) | exact absurd rfl (h2 _ _ _))
   | _ => exact h
 · exact h.elim
theorem renO_buf {f : Nat -> Nat} {o : VObj} {m : Bool} {z : Nat} {l : List V} {ty : Option TypeId} (h : renO f o = .buf m z l ty) : o = .buf m z l ty := by
 cases o <;> simp [renO] at h ⊢
 exact h
theorem backK_iff {f : Nat -> Nat} : ∀ {idx : List Nat} {os ob : List VObj} {K : List VObj -> Prop}, idx.Nodup -> backK f idx os ob K ->
 ∃ ob', idx.length <= os.length /\ ob'.length = ob.length + (os.length - idx.length) /\ (∀ (j i : Nat) o, idx[j]? = some i -> os[j]? = some o -> ∃ o0, ob[i]? = some o0 /\ ob'[i]? = some ((renO f o).orMv o0.mv) /\ (o0.mv = true -> ∃ m z l ty, o = .buf m z l ty)) /\
  (∀ i, i < ob.length -> i ∉ idx -> ob'[i]? = ob[i]?) /\ (∀ (k : Nat) o, os[idx.length + k]? = some o -> ob'[ob.length + k]? = some (renO f o)) /\ K ob'
 | [], os, ob, K, _, h => ⟨ob ++ os.map (renO f), by simp, by simp, by simp, fun i hi _ => by rw [List.getElem?_append_left hi], fun k o ho => by
    rw [List.getElem?_append_right (by omega), Nat.add_sub_cancel_left, List.getElem?_map]
    simp at ho; simp [ho], mapK_renOP h⟩
 | i :: r, [], ob, K, _, h => h.elim
 | i :: r, o :: os, ob, K, hn, h => by
   obtain ⟨o0, h0, h⟩ := getK_iff (renOP_iff h)
   obtain ⟨h, hgr⟩ := orMvK_iff (mvK_iff h)
   obtain ⟨hi, h⟩ := setK_iff h
   obtain ⟨hir, hr⟩ := List.nodup_cons.1 hn
   obtain ⟨ob', h1, h2, h3, h4, h5, h6⟩ := backK_iff hr h
   simp only [List.length_set] at h2 h4 h5
   refine ⟨ob', by simp; omega, by simp only [List.length_cons]; omega, fun j k x hj hx => ?_, fun k hk hk' => ?_, fun k x hx => ?_, h6⟩
   · cases j with
     | zero =>
       simp at hj hx; subst hj; subst hx
       exact ⟨o0, h0, by rw [h4 i hi hir, List.getElem?_set_self hi], fun hm => by
        obtain ⟨m, z, l, ty, e⟩ := hgr hm
        exact ⟨m, z, l, ty, renO_buf e⟩⟩
     | succ j =>
       obtain ⟨o1, g1, g2⟩ := h3 j k x (by simpa using hj) (by simpa using hx)
       have hik : i ≠ k := fun e => by subst e; exact hir (List.mem_of_getElem? (by simpa using hj))
       rw [List.getElem?_set_ne hik] at g1
       exact ⟨o1, g1, g2⟩
   · simp only [List.mem_cons, not_or] at hk'
     rw [h4 k hk hk'.2, List.getElem?_set_ne (by omega)]
   · exact h5 k x (by
      have : (i :: r).length + k = (r.length + k) + 1 := by simp; omega
      rw [this] at hx; simpa using hx)
theorem anyIn_iff {ms : List Nat} : ∀ {l : List Nat}, anyIn ms l = false ↔ ∀ o ∈ l, o ∉ ms
 | [] => by simp [anyIn]
 | i :: r => by
   simp only [anyIn, List.mem_cons, forall_eq_or_imp]
   cases h : memN i ms with
   | true => simp [memN_iff.1 h]
   | false =>
     simp only [anyIn_iff (l := r)]
     refine ⟨fun h' => ⟨fun hm => ?_, h'⟩, fun h' => h'.2⟩
     rw [memN_iff.2 hm] at h; cases h
theorem forget_cases (ms : List Nat) (v : V) : V.forget ms v = .undef \/ (V.forget ms v = v /\ ∀ o ∈ ptrs v, o ∉ ms) := by
 unfold V.forget
 cases h : anyIn ms (ptrs v) with
 | true => exact .inl rfl
 | false => exact .inr ⟨rfl, anyIn_iff.1 h⟩
def forgetO (ms : List Nat) : VObj -> VObj
 | .cells w T cs => .cells w T (cs.map (V.forget ms))
 | o => o
theorem mapK_forget {ms : List Nat} {K : List V -> Prop} : ∀ {l : List V}, mapK (fun v K => (V.forget ms v).force K) l K -> K (l.map (V.forget ms))
 | [], h => h
 | x :: r, h => by
   have h : (V.forget ms x).force _ := h
   rw [force_eq] at h
   exact mapK_forget (l := r) h
theorem mapK_forgetO {ms : List Nat} {K : List VObj -> Prop} : ∀ {l : List VObj}, mapK (VObj.forgetK ms) l K -> K (l.map (forgetO ms))
 | [], h => h
 | x :: r, h => by
   cases x with
   | cells w T cs => exact mapK_forgetO (l := r) (mapK_forget (show mapK (fun v K => (V.forget ms v).force K) cs _ from h))
   | _ => exact mapK_forgetO (l := r) h
theorem anyIn_nil : ∀ l : List Nat, anyIn [] l = false
 | [] => rfl
 | _ :: r => by simp [anyIn, memN, anyIn_nil r]
theorem forget_nil (v : V) : V.forget [] v = v := by simp [V.forget, anyIn_nil]
theorem forgetO_nil (o : VObj) : forgetO [] o = o := by
 cases o with
 | cells w T cs => simp [forgetO, funext forget_nil]
 | _ => rfl
theorem noneIn_nil : ∀ df, noneIn [] df = true
 | [] => rfl
 | (_, a, b) :: r => by simp [noneIn, anyIn_nil, noneIn_nil r]
theorem forgetK_iff {ms : List Nat} {t : List V} {ob : List VObj} {df : List (Fn × List V × List V)} {K : List V -> List VObj -> Prop} (h : forgetK ms t ob df K) : noneIn ms df = true /\ K (t.map (V.forget ms)) (ob.map (forgetO ms)) := by
 unfold forgetK at h
 split at h
 · refine ⟨noneIn_nil df, ?_⟩
   rw [show V.forget [] = id from funext forget_nil, show forgetO [] = id from funext forgetO_nil, List.map_id, List.map_id]; exact h
 · split at h
   · exact h.elim
   · rename_i hn
     exact ⟨hn, mapK_forgetO (mapK_forget h)⟩
end VL

namespace VL
open Go
theorem noTok_ren {f : Nat -> Nat} {v : V} (h : v.noTok = true) : (ren f v).noTok = true := by
 cases v <;> simp [ren, V.noTok] at h ⊢
 exact h
theorem noTok_of {fam : Nat -> Fam} {v : V} {x : Value} (h : Tok fam 0 v x) : v.noTok = true := by
 cases v with
 | sl l r => cases r with
   | tok i sz => exact absurd h.1 (by omega)
   | _ => rfl
 | _ => rfl
theorem ptrs_untok (v : V) : ptrs (V.untok v) = ptrs v := by
 unfold V.untok; split <;> simp [ptrs]
theorem ptrsL_untok (l : List V) : ptrsL (l.map V.untok) = ptrsL l := by
 induction l with
 | nil => rfl
 | cons x r ih => simp [ptrsL, ptrs_untok, ih]
section
variable {c : Ctx} {g : G} {w : World} {ob : List VObj} {nt : Nat} {idx : List Nat} {sub : List VObj}
def inG (g : G) (idx : List Nat) : G := { g with bs := fun j => g.bs ((idx[j]?).getD 0) }
theorem in_rel {n m : Nat} {v : V} {x : Value} (h : VRel g.bs g.I w n v x) (hp : ∀ o ∈ ptrs v, o ∈ idx) (hm : m = idx.length) :
 VRel (inG g idx).bs (inG g idx).I w m (ren (fun i => posN i idx 0) v) x := by
 refine h.ren fun o ho _ => ?_
 obtain ⟨_, h2, h3⟩ := posN_get (k := 0) (hp o ho)
 rw [Nat.sub_zero] at h3
 refine ⟨by omega, ?_⟩
 show g.bs ((idx[posN o idx 0]?).getD 0) = _
 rw [h3]; rfl
theorem VRel.ren_id {bs : Nat -> Nat} {I : Nat -> Nat -> Prop} {n : Nat} {v : V} {x : Value} {bs' : Nat -> Nat} {n' : Nat} (h : VRel bs I w n v x) (hp : ∀ o ∈ ptrs v, o < n -> o < n' /\ bs' o = bs o) : VRel bs' I w n' v x := by
 have h1 := h.ren (f := id) (bs' := bs') (n' := n') hp
 have : ∀ v : V, VL.ren id v = v := by
  intro v
  have aux : ∀ n : Nat, ∀ v : V, sizeOf v < n -> VL.ren id v = v := by
   intro n
   induction n with
   | zero => intro v h; omega
   | succ n ih =>
     intro v hv
     have hl : ∀ l : List V, sizeOf l < n -> renL id l = l := by
      intro l
      induction l with
      | nil => intro _; rfl
      | cons a r ihr => intro hr; simp only [renL]; rw [ih a (by simp at hr; omega), ihr (by simp at hr; omega)]
     cases v with
     | fn f a b => simp at hv; simp only [VL.ren]; rw [hl a (by omega), hl b (by omega)]
     | _ => simp only [VL.ren, id] <;> first | rfl | (simp at hv; congr 1; first | exact hl _ (by omega) | exact ih _ (by omega))
  exact aux (sizeOf v + 1) v (by omega)
 rw [this] at h1; exact h1
theorem DRel.forget {g g' : G} {w w' : World} {n n' : Nat} {ms : List Nat} (hm : ∀ v x, VRel g.bs g.I w n v x -> (∀ o ∈ ptrs v, o ∉ ms) -> VRel g'.bs g'.I w' n' v x) {ds : List Deferred} {df : List (Fn × List V × List V)} (h : DRel g w n ds df) (hd : noneIn ms df = true) : DRel g' w' n' ds df := by
 induction h with
 | nil => exact .nil
 | @cons d x ds xs h1 _ ih =>
   obtain ⟨f0, p, q⟩ := x
   simp only [noneIn, Bool.and_eq_true, Bool.not_eq_true'] at hd
   obtain ⟨⟨d1, d2⟩, d3⟩ := hd
   obtain ⟨cap', e1, e2, e3, e4, e5⟩ := h1
   exact .cons ⟨cap', e1, e2, e3, fun k v y hv hy => hm v y (e4 k v y hv hy) fun o ho => anyIn_iff.1 d1 o (ptrsL_get hv ho),
    fun k v y hv hy => hm v y (e5 k v y hv hy) fun o ho => anyIn_iff.1 d2 o (ptrsL_get hv ho)⟩ (ih d3)
theorem call_in (h : WInv c g w ob nt) (hnd : idx.Nodup) (hshut : ∀ i ∈ idx, ∀ x, ob[i]? = some x -> ∀ o ∈ ptrsO x, o ∈ idx) (hl : sub.length = idx.length)
 (hsub : ∀ (j i : Nat), idx[j]? = some i -> ∃ o, ob[i]? = some o /\ sub[j]? = some (inO (renO (fun i => posN i idx 0) (untokO o)))) :
 WInv ⟨w, sub.length, (inG g idx).bs, g.I, Owns (inG g idx) sub⟩ (inG g idx) w sub 0 := by
 have hget : ∀ (j : Nat) x, sub[j]? = some x -> ∃ i o, idx[j]? = some i /\ ob[i]? = some o /\ x = inO (renO (fun i => posN i idx 0) (untokO o)) /\ (inG g idx).bs j = g.bs i /\ (x.real = true -> o.real = true) := fun j x hx => by
  have hlt : j < idx.length := by rw [← hl]; exact (List.getElem?_eq_some_iff.1 hx).1
  obtain ⟨o, h1, h3⟩ := hsub j idx[j] (List.getElem?_eq_getElem hlt)
  rw [hx] at h3
  have hx' := Option.some.inj h3
  refine ⟨idx[j], o, List.getElem?_eq_getElem hlt, h1, hx', by simp [inG, hlt], ?_⟩
  rw [hx']; cases o <;> exact fun h => h
 refine ⟨rfl, rfl, rfl, Nat.le_refl _, fun _ _ _ => rfl, Nat.le_refl _, ?_, ?_, ?_, fun _ _ _ _ _ => rfl, fun o x ho hr => .inr ⟨o, x, ho, hr, rfl⟩, fun _ _ h => h, fun _ _ _ _ h => h, h.i3, ?_, ?_, fun i hi => absurd hi (by omega), fun i j hi => absurd hi (by omega), fun _ _ _ => rfl⟩
 · intro j x hx
   obtain ⟨i, o, h1, h2, rfl, hb, _⟩ := hget j x hx
   have ho := h.obj i o h2
   have hsh := hshut i (List.mem_of_getElem? h1) o h2
   rw [hb]
   cases o with
   | none => trivial
   | map es =>
     obtain ⟨arr, clk, a1, a2, a3⟩ := ho
     exact ⟨arr, clk, a1, a2, fun k e c he hc => ⟨(a3 k e c he hc).1.mono (fun o ho => absurd ho (by omega)) fun b k hi => ⟨hi, rfl⟩, (a3 k e c he hc).2.mono (fun o ho => absurd ho (by omega)) fun b k hi => ⟨hi, rfl⟩⟩⟩
   | buf m z l =>
     rcases ho with ho | ⟨arr, T, a1, aty, a2, a3, a4⟩
     · exact .inl ho
     · exact .inr ⟨arr, T, a1, aty, a2, a3, fun k v c he hc => ⟨(a4 k v c he hc).1.mono (fun o ho => absurd ho (by omega)) fun b k hi => ⟨hi, rfl⟩, (a4 k v c he hc).2⟩⟩
   | cells wr T cs =>
     obtain ⟨arr, a1, a2, a3⟩ := ho
     refine ⟨arr, a1, by rw [renL_length]; simp [a2], fun k v c hv hc => ?_⟩
     rw [renL_get, List.getElem?_map] at hv
     obtain ⟨v', hv', rfl⟩ := Option.map_eq_some_iff.1 hv
     obtain ⟨v'', hv'', rfl⟩ := Option.map_eq_some_iff.1 hv'
     refine ⟨⟨in_rel (a3 k v'' c hv'' hc).1.rel.untok (fun o ho => hsh o ?_) hl, .of_no (noTok_ren (untok_noTok _))⟩, (a3 k v'' c hv'' hc).2⟩
     rw [ptrs_untok] at ho
     exact ptrsL_get hv'' ho
 · intro j x hx hne
   obtain ⟨i, o, h1, h2, _, hb, h3⟩ := hget j x hx
   rw [hb]; exact h.lt i o h2 (h3 hne)
 · intro j j' x x' hx hx' hr hr' e
   obtain ⟨i, o, h1, h2, _, hb, h3⟩ := hget j x hx
   obtain ⟨i', o', h1', h2', _, hb', h3'⟩ := hget j' x' hx'
   rw [hb, hb'] at e
   have e' := h.inj i i' o o' h2 h2' (h3 hr) (h3' hr') e
   subst e'
   have l1 := (List.getElem?_eq_some_iff.1 h1).1
   have l2 := (List.getElem?_eq_some_iff.1 h1').1
   have hp := List.pairwise_iff_getElem.1 hnd
   have he : idx[j] = idx[j'] := by rw [(List.getElem?_eq_some_iff.1 h1).2, (List.getElem?_eq_some_iff.1 h1').2]
   rcases Nat.lt_trichotomy j j' with hlt | rfl | hlt
   · exact absurd he (hp j j' l1 l2 hlt)
   · rfl
   · exact absurd he.symm (hp j' j l2 l1 hlt)
 · intro j T cs k hx
   obtain ⟨i, o, h1, h2, he, hb, _⟩ := hget j _ hx
   cases o with
   | cells wr U ds =>
     simp [untokO, renO, inO] at he
     obtain ⟨rfl, _, _⟩ := he
     rw [hb]; exact h.i4 i _ _ k h2
   | _ => simp [untokO, renO, inO] at he
 · intro j x k hx hlo
   obtain ⟨i, o, h1, h2, he, hb, _⟩ := hget j _ hx
   rw [hb]
   refine h.i5 i o k h2 ?_
   subst he
   cases o <;> exact hlo
def backN (idx : List Nat) (n : Nat) (j : Nat) : Nat := (idx[j]?).getD (n + (j - idx.length))
def outG (g g' : G) (idx : List Nat) (n : Nat) : G := { bs := fun o => if o < n then (if o ∈ idx then g'.bs (posN o idx 0) else g.bs o) else g'.bs (o - n + idx.length), I := g'.I, fam := g.fam }
variable {g' : G} {w' : World} {os ob' : List VObj}
theorem real_orMv {o : VObj} {m : Bool} : (o.orMv m).real = o.real := by
 cases o with
 | buf m' z l => cases m' <;> rfl
 | _ => rfl
theorem loose_orMv {o : VObj} {m : Bool} : (o.orMv m).loose = o.loose := by
 cases o with
 | buf m' z l => cases m' <;> rfl
 | _ => rfl
theorem real_renO {f : Nat -> Nat} {o : VObj} : (renO f o).real = o.real := by cases o <;> rfl
theorem loose_renO {f : Nat -> Nat} {o : VObj} : (renO f o).loose = o.loose := by cases o <;> rfl
theorem mv_renO {f : Nat -> Nat} {o : VObj} : (renO f o).mv = o.mv := by cases o <;> rfl
theorem mv_orMv {o : VObj} {m : Bool} : (o.orMv m).mv = true ↔ o.mv = true \/ (m = true /\ ∃ z l ty, o = .buf false z l ty) := by
 cases o with
 | buf m' z l => cases m' <;> simp [VObj.orMv, VObj.mv]
 | _ => simp [VObj.orMv, VObj.mv]
theorem orel_orMv {g : G} {n nt b : Nat} {o : VObj} {m : Bool} (h : ORel g w n nt b o) : ORel g w n nt b (o.orMv m) := by
 cases o with
 | buf m' z l => cases m' <;> exact h
 | _ => exact h
theorem call_out (h : WInv c g w ob nt) (hnd : idx.Nodup) (hidx : ∀ i ∈ idx, ∃ o, ob[i]? = some o) (hl : sub.length = idx.length)
 (hsub : ∀ (j i : Nat), idx[j]? = some i -> ∃ o, ob[i]? = some o /\ ∀ s, sub[j]? = some s -> s.real = o.real)
 (h' : WInv ⟨w, idx.length, (inG g idx).bs, g.I, Owns (inG g idx) sub⟩ g' w' os 0) (hlen : ob'.length = ob.length + (os.length - idx.length))
 (h1 : ∀ (j i : Nat) o, idx[j]? = some i -> os[j]? = some o -> ∃ o0, ob[i]? = some o0 /\ ob'[i]? = some ((renO (backN idx ob.length) o).orMv o0.mv) /\ (o0.mv = true -> ∃ m z l ty, o = .buf m z l ty))
 (h2 : ∀ i, i < ob.length -> i ∉ idx -> ob'[i]? = (ob[i]?).map (forgetO (movedOf idx os))) (h3 : ∀ (k : Nat) o, os[idx.length + k]? = some o -> ob'[ob.length + k]? = some (renO (backN idx ob.length) o)) :
 WInv c (outG g g' idx ob.length) w' ob' nt /\ (∀ v x, VT g w ob.length nt v x -> (∀ o ∈ ptrs v, o ∉ movedOf idx os) -> VT (outG g g' idx ob.length) w' ob'.length nt v x) /\
  (∀ v x, VT g' w' os.length 0 v x -> VT (outG g g' idx ob.length) w' ob'.length nt (ren (backN idx ob.length) v) x) /\
  (∀ v x, VRel g'.bs g'.I w' os.length v x -> VRel (outG g g' idx ob.length).bs (outG g g' idx ob.length).I w' ob'.length (ren (backN idx ob.length) v) x) /\
  ∀ v x, VRel g.bs g.I w ob.length v x -> (∀ o ∈ ptrs v, o ∉ movedOf idx os) -> VRel (outG g g' idx ob.length).bs (outG g g' idx ob.length).I w' ob'.length v x := by
 have hle : idx.length <= os.length := h'.len
 have hsz : w.heap.size <= w'.heap.size := h'.size
 have hb0 : ∀ j i, idx[j]? = some i -> (inG g idx).bs j = g.bs i := fun j i hj => by simp [inG, hj]
 have hpos : ∀ j i, idx[j]? = some i -> posN i idx 0 = j := fun j i hj => by
  obtain ⟨_, q2, q3⟩ := posN_get (k := 0) (List.mem_of_getElem? hj)
  rw [Nat.sub_zero] at q3
  have l1 := (List.getElem?_eq_some_iff.1 hj).1
  have l2 : posN i idx 0 < idx.length := by omega
  have hp := List.pairwise_iff_getElem.1 hnd
  have he : idx[posN i idx 0] = idx[j] := by rw [(List.getElem?_eq_some_iff.1 q3).2, (List.getElem?_eq_some_iff.1 hj).2]
  rcases Nat.lt_trichotomy (posN i idx 0) j with hlt | h | hlt
  · exact absurd he (hp _ _ l2 l1 hlt)
  · exact h
  · exact absurd he.symm (hp _ _ l1 l2 hlt)
 have hout : ∀ j i, idx[j]? = some i -> (outG g g' idx ob.length).bs i = g'.bs j := fun j i hj => by
  have hm := List.mem_of_getElem? hj
  obtain ⟨o, ho⟩ := hidx i hm
  have hb : i < ob.length := (List.getElem?_eq_some_iff.1 ho).1
  simp only [outG, if_pos hb, if_pos hm, hpos j i hj]
 have hbs : ∀ j i o, idx[j]? = some i -> os[j]? = some o -> o.mv = false -> g'.bs j = g.bs i := fun j i o hj ho hm => by
  rw [← hb0 j i hj]; exact h'.old j o (List.getElem?_eq_some_iff.1 hj).1 ho hm
 have hno : ∀ i, i < ob.length -> i ∉ movedOf idx os -> (outG g g' idx ob.length).bs i = g.bs i := fun i hi hm => by
  by_cases hx : i ∈ idx
  · obtain ⟨j, hj⟩ := List.mem_iff_getElem?.1 hx
    have hjl := (List.getElem?_eq_some_iff.1 hj).1
    have hjo : os[j]? = some os[j] := List.getElem?_eq_getElem (by omega)
    rw [hout j i hj]
    refine hbs j i _ hj hjo ?_
    cases hmv : os[j].mv with
    | false => rfl
    | true => exact absurd (movedOf_get hj hjo hmv) hm
  · simp only [outG, if_pos hi, if_neg hx]
 have hown : ∀ b, Owns (inG g idx) sub b -> ∃ i o, i ∈ idx /\ ob[i]? = some o /\ o.real = true /\ g.bs i = b := fun b hb => by
  obtain ⟨j, x, hj, hr, rfl⟩ := hb
  have hjl : j < idx.length := by rw [← hl]; exact (List.getElem?_eq_some_iff.1 hj).1
  obtain ⟨o, q1, q2⟩ := hsub j idx[j] (List.getElem?_eq_getElem hjl)
  exact ⟨idx[j], o, List.getElem_mem hjl, q1, by rw [← q2 x hj]; exact hr, (hb0 j _ (List.getElem?_eq_getElem hjl)).symm⟩
 have hkeep : ∀ b, b < w.heap.size -> (∀ i ∈ idx, ∀ o, ob[i]? = some o -> o.real = true -> b ≠ g.bs i) -> w'.heap[b]? = w.heap[b]? /\ ∀ k, g'.I b k -> g.I b k := fun b hb hn => by
  have hx : ¬ Owns (inG g idx) sub b := fun hb => by
   obtain ⟨i, o, q1, q2, q3, q4⟩ := hown b hb
   exact hn i q1 o q2 q3 q4.symm
  exact ⟨h'.keep b hb hx, fun k => h'.i2 b k hb hx⟩
 have hcell : ∀ b k, g.I b k -> g'.I b k /\ w'.cell? ⟨b, k, none⟩ = w.cell? ⟨b, k, none⟩ := fun b k hI => ⟨h'.i1 b k hI, h'.i6 b k hI⟩
 have hextr : ∀ v x, VRel g.bs g.I w ob.length v x -> (∀ o ∈ ptrs v, o ∉ movedOf idx os) -> VRel (outG g g' idx ob.length).bs (outG g g' idx ob.length).I w' ob'.length v x := fun v x hv hp =>
  (hv.ren_id (bs' := (outG g g' idx ob.length).bs) (n' := ob.length) fun o ho hlt => ⟨hlt, hno o hlt (hp o ho)⟩).mono (fun o ho => ⟨by omega, rfl⟩) hcell
 have hext : ∀ v x, VT g w ob.length nt v x -> (∀ o ∈ ptrs v, o ∉ movedOf idx os) -> VT (outG g g' idx ob.length) w' ob'.length nt v x := fun v x hv hp =>
  ⟨hextr v x hv.rel hp, hv.tok⟩
 have hext0 : ∀ {v x}, VRel g.bs g.I w 0 v x -> VRel (outG g g' idx ob.length).bs (outG g g' idx ob.length).I w' 0 v x := fun hv => hv.mono (fun o ho => absurd ho (by omega)) hcell
 have hback : ∀ j, j < os.length -> backN idx ob.length j < ob'.length /\ (outG g g' idx ob.length).bs (backN idx ob.length j) = g'.bs j := fun j hj => by
  rcases Nat.lt_or_ge j idx.length with hlt | hge
  · obtain ⟨o, ho⟩ := hidx idx[j] (List.getElem_mem hlt)
    have hb : idx[j] < ob.length := (List.getElem?_eq_some_iff.1 ho).1
    have hbn : backN idx ob.length j = idx[j] := by simp [backN, hlt]
    rw [hbn]
    exact ⟨by omega, hout j _ (List.getElem?_eq_getElem hlt)⟩
  · have hbn : backN idx ob.length j = ob.length + (j - idx.length) := by simp [backN, List.getElem?_eq_none hge]
    rw [hbn]
    refine ⟨by omega, ?_⟩
    simp only [outG]
    rw [if_neg (by omega)]
    congr 1; omega
 have hrel : ∀ v x, VRel g'.bs g'.I w' os.length v x -> VRel (outG g g' idx ob.length).bs (outG g g' idx ob.length).I w' ob'.length (ren (backN idx ob.length) v) x :=
  fun v x hv => hv.ren fun o _ ho => hback o ho
 have hvt : ∀ v x, VT g' w' os.length 0 v x -> VT (outG g g' idx ob.length) w' ob'.length nt (ren (backN idx ob.length) v) x :=
  fun v x hv => ⟨hrel v x hv.rel, .of_no (noTok_ren (noTok_of hv.tok))⟩
 have horel : ∀ b o, ORel g' w' os.length 0 b o -> ORel (outG g g' idx ob.length) w' ob'.length nt b (renO (backN idx ob.length) o) := fun b o ho => by
  cases o with
  | none => trivial
  | map es =>
    obtain ⟨arr, clk, a1, a2, a3⟩ := ho
    exact ⟨arr, clk, a1, a2, fun k e c he hc => ⟨(a3 k e c he hc).1.mono (fun o ho => absurd ho (by omega)) fun b k hi => ⟨hi, rfl⟩, (a3 k e c he hc).2.mono (fun o ho => absurd ho (by omega)) fun b k hi => ⟨hi, rfl⟩⟩⟩
  | buf m z l =>
    rcases ho with ho | ⟨arr, T, a1, aty, a2, a3, a4⟩
    · exact .inl ho
    · exact .inr ⟨arr, T, a1, aty, a2, a3, fun k v c he hc => ⟨(a4 k v c he hc).1.mono (fun o ho => absurd ho (by omega)) fun b k hi => ⟨hi, rfl⟩, (a4 k v c he hc).2⟩⟩
  | cells wr T cs =>
    obtain ⟨arr, a1, a2, a3⟩ := ho
    refine ⟨arr, a1, by rw [renL_length, a2], fun k v c hv hc => ?_⟩
    rw [renL_get] at hv
    obtain ⟨v', hv', rfl⟩ := Option.map_eq_some_iff.1 hv
    exact ⟨hvt v' c (a3 k v' c hv' hc).1, (a3 k v' c hv' hc).2⟩
 have horel1 : ∀ b o, ORel g w ob.length nt b o -> (o.real = true -> w'.heap[b]? = w.heap[b]?) -> ORel (outG g g' idx ob.length) w' ob'.length nt b (forgetO (movedOf idx os) o) := fun b o ho hb => by
  cases o with
  | none => trivial
  | map es =>
    obtain ⟨arr, clk, a1, a2, a3⟩ := ho
    exact ⟨arr, clk, by rw [hb rfl]; exact a1, a2, fun k e c he hc => ⟨hext0 (a3 k e c he hc).1, hext0 (a3 k e c he hc).2⟩⟩
  | buf m z l =>
    by_cases hl : l = []
    · exact .inl hl
    · rcases ho with ho | ⟨arr, T, a1, aty, a2, a3, a4⟩
      · exact .inl ho
      · exact .inr ⟨arr, T, by rw [hb (by simp [VObj.real, hl])]; exact a1, aty, a2, a3, fun k v c he hc => ⟨hext0 (a4 k v c he hc).1, (a4 k v c he hc).2⟩⟩
  | cells wr T cs =>
    obtain ⟨arr, a1, a2, a3⟩ := ho
    refine ⟨arr, by rw [hb rfl]; exact a1, by simp [a2], fun k v c hv hc => ?_⟩
    rw [List.getElem?_map] at hv
    obtain ⟨v', hv', rfl⟩ := Option.map_eq_some_iff.1 hv
    refine ⟨?_, (a3 k v' c hv' hc).2⟩
    rcases forget_cases (movedOf idx os) v' with e | ⟨e, hp⟩
    · rw [e]; exact ⟨.undef, trivial⟩
    · rw [e]; exact hext v' c (a3 k v' c hv' hc).1 hp
 have hget : ∀ (i : Nat) y, ob'[i]? = some y ->
  (i < ob.length /\ i ∉ idx /\ (∃ x, ob[i]? = some x /\ y = forgetO (movedOf idx os) x /\ x.real = y.real /\ x.loose = y.loose /\ x.mv = y.mv) /\ (outG g g' idx ob.length).bs i = g.bs i) \/
  (∃ j o m, os[j]? = some o /\ y = (renO (backN idx ob.length) o).orMv m /\ (outG g g' idx ob.length).bs i = g'.bs j /\ i = backN idx ob.length j /\ o.real = y.real /\ o.loose = y.loose /\
    ((j < idx.length /\ i < ob.length /\ idx[j]? = some i /\ ∃ o0, ob[i]? = some o0 /\ m = o0.mv /\ (o0.mv = true -> ∃ m z l ty, o = .buf m z l ty)) \/ (idx.length <= j /\ ob.length <= i))) := fun i y hy => by
  have hi := (List.getElem?_eq_some_iff.1 hy).1
  rcases Nat.lt_or_ge i ob.length with hlt | hge
  · by_cases hm : i ∈ idx
    · obtain ⟨j, hj⟩ := List.mem_iff_getElem?.1 hm
      have hjl := (List.getElem?_eq_some_iff.1 hj).1
      have hjo : os[j]? = some os[j] := List.getElem?_eq_getElem (by omega)
      obtain ⟨o0, q0, q1, q2⟩ := h1 j i _ hj hjo
      rw [hy] at q1
      have q1 := Option.some.inj q1
      exact .inr ⟨j, _, o0.mv, hjo, q1, hout j i hj, by simp [backN, hj], by rw [q1, real_orMv, real_renO], by rw [q1, loose_orMv, loose_renO], .inl ⟨hjl, hlt, hj, o0, q0, rfl, q2⟩⟩
    · have := h2 i hlt hm
      rw [hy] at this
      obtain ⟨x, hx, e⟩ := Option.map_eq_some_iff.1 this.symm
      refine .inl ⟨hlt, hm, ⟨x, hx, e.symm, ?_, ?_, ?_⟩, by simp [outG, hlt, hm]⟩ <;> rw [← e] <;> cases x <;> rfl
  · have hjo : os[idx.length + (i - ob.length)]? = some os[idx.length + (i - ob.length)] := List.getElem?_eq_getElem (by omega)
    have := h3 _ _ hjo
    rw [show ob.length + (i - ob.length) = i by omega, hy] at this
    have q1 := Option.some.inj this
    refine .inr ⟨_, _, false, hjo, ?_, ?_, ?_, by rw [q1, real_renO], by rw [q1, loose_renO], .inr ⟨by omega, hge⟩⟩
    · rw [q1]
      generalize os[idx.length + (i - ob.length)] = oo
      cases oo with
      | buf m z l => cases m <;> rfl
      | _ => rfl
    · simp only [outG]; rw [if_neg (by omega)]; congr 1; omega
    · simp only [backN]; rw [List.getElem?_eq_none (by omega)]; simp; omega
 have hold : ∀ i y, i < ob.length -> i ∉ idx -> ob[i]? = some y -> y.real = true -> w'.heap[g.bs i]? = w.heap[g.bs i]? /\ ∀ k, g'.I (g.bs i) k -> g.I (g.bs i) k := fun i y hi hm hy hne => by
  refine hkeep _ (h.lt i y hy hne) fun i' hi' o ho hr e => ?_
  have := h.inj i i' y o hy ho hne hr e
  subst this; exact hm hi'
 have hblk : ∀ j o, os[j]? = some o -> o.real = true -> w.heap.size <= g'.bs j \/ ∃ i x, i ∈ idx /\ ob[i]? = some x /\ x.real = true /\ g.bs i = g'.bs j := fun j o ho hr => by
  rcases h'.new j o ho hr with h | h
  · exact .inl h
  · obtain ⟨i, x, q1, q2, q3, q4⟩ := hown _ h
    exact .inr ⟨i, x, q1, q2, q3, q4⟩
 refine ⟨⟨?_, ?_, ?_, ?_, ?_, ?_, ?_, ?_, ?_, ?_, ?_, ?_, ?_, ?_, ?_, ?_, ?_, ?_, ?_⟩, hext, hvt, hrel, hextr⟩
 · exact h'.os.trans h.os
 · exact h'.tape.trans h.tape
 · exact h'.output.trans h.output
 · exact Nat.le_trans h.size hsz
 · intro b hb hw
   rw [(hkeep b (by have := h.size; omega) fun i hi o ho hr e => ?_).1]
   · exact h.keep b hb hw
   · rcases h.new i o ho hr with h1 | h1
     · omega
     · exact hw (e ▸ h1)
 · have := h.len; omega
 · intro i y hy
   rcases hget i y hy with ⟨a1, a2, ⟨x, a3, rfl, _, _, _⟩, a4⟩ | ⟨j, o, m, a1, rfl, a3, _, _, _, _⟩
   · rw [a4]; exact horel1 _ _ (h.obj i x a3) fun hr => (hold i _ a1 a2 a3 hr).1
   · rw [a3]; exact orel_orMv (horel _ _ (h'.obj j o a1))
 · intro i y hy hne
   rcases hget i y hy with ⟨a1, a2, ⟨x, a3, _, ar, _, _⟩, a4⟩ | ⟨j, o, m, a1, _, a3, _, ar, _, _⟩
   · rw [a4]; have := h.lt i x a3 (by rw [ar]; exact hne); omega
   · rw [a3]; exact h'.lt j o a1 (by rw [ar]; exact hne)
 · intro i i' y y' hy hy' hne hne' e
   rcases hget i y hy with ⟨a1, a2, ⟨x, a3, _, ar, _, _⟩, a4⟩ | ⟨j, o, m, a1, _, a3, a4, ar, _, a5⟩ <;> rcases hget i' y' hy' with ⟨b1, b2, ⟨x', b3, _, br, _, _⟩, b4⟩ | ⟨j', o', m', b1, _, b3, b4, br, _, b5⟩
   · rw [a4, b4] at e; exact h.inj i i' x x' a3 b3 (by rw [ar]; exact hne) (by rw [br]; exact hne') e
   · rw [a4, b3] at e
     rcases hblk j' o' b1 (by rw [br]; exact hne') with q | ⟨i2, x2, q1, q2, q3, q4⟩
     · have := h.lt i x a3 (by rw [ar]; exact hne); omega
     · have := h.inj i i2 x x2 a3 q2 (by rw [ar]; exact hne) q3 (e.trans q4.symm)
       subst this; exact absurd q1 a2
   · rw [a3, b4] at e
     rcases hblk j o a1 (by rw [ar]; exact hne) with q | ⟨i2, x2, q1, q2, q3, q4⟩
     · have := h.lt i' x' b3 (by rw [br]; exact hne'); omega
     · have := h.inj i' i2 x' x2 b3 q2 (by rw [br]; exact hne') q3 (e.symm.trans q4.symm)
       subst this; exact absurd q1 b2
   · rw [a3, b3] at e
     have := h'.inj j j' o o' a1 b1 (by rw [ar]; exact hne) (by rw [br]; exact hne') e
     subst this; rw [a4, b4]
 · intro i y hi hy hm
   have hlt : i < ob.length := by have := h.len; omega
   rcases hget i y hy with ⟨a1, a2, ⟨x, a3, _, _, _, am⟩, a4⟩ | ⟨j, o, m, a1, ay, a3, a4, _, _, a5⟩
   · rw [a4]; exact h.old i x hi a3 (by rw [am]; exact hm)
   · rcases a5 with ⟨q1, q2, q3, o0, q4, q5, q6⟩ | ⟨_, q2⟩
     · have hom : o.mv = false /\ (o0.mv = true -> ¬ ∃ z l ty, o = .buf false z l ty) := by
        have hx : ¬ (o.mv = true \/ (m = true /\ ∃ z l ty, renO (backN idx ob.length) o = .buf false z l ty)) := fun hx => by
         rw [← mv_renO (f := backN idx ob.length), ← mv_orMv, ← ay, hm] at hx; cases hx
        refine ⟨by cases hh : o.mv <;> first | rfl | exact absurd (.inl hh) hx, fun hh ⟨z, l, ty, e⟩ => hx (.inr ⟨by rw [q5]; exact hh, z, l, ty, by rw [e]; rfl⟩)⟩
       rw [a3, hbs j i o q3 a1 hom.1]
       refine h.old i o0 hi q4 ?_
       cases hh : o0.mv with
       | false => rfl
       | true =>
         exfalso
         obtain ⟨m', z, l, ty, e⟩ := q6 hh
         refine hom.2 hh ⟨z, l, ty, ?_⟩
         have := hom.1
         rw [e] at this ⊢
         simp only [VObj.mv] at this
         rw [this]
     · omega
 · intro i y hy hne
   rcases hget i y hy with ⟨a1, a2, ⟨x, a3, _, ar, _, _⟩, a4⟩ | ⟨j, o, m, a1, _, a3, _, ar, _, a5⟩
   · rw [a4]; exact h.new i x a3 (by rw [ar]; exact hne)
   · rw [a3]
     rcases hblk j o a1 (by rw [ar]; exact hne) with q | ⟨i2, x2, q1, q2, q3, q4⟩
     · have := h.size; exact .inl (by omega)
     · rw [← q4]; exact h.new i2 x2 q2 q3
 · intro b k hI; exact h'.i1 b k (h.i1 b k hI)
 · intro b k hb hw hI
   refine h.i2 b k hb hw ((hkeep b (by have := h.size; omega) fun i hi o ho hr e => ?_).2 k hI)
   rcases h.new i o ho hr with h1 | h1
   · omega
   · exact hw (e ▸ h1)
 · exact h'.i3
 · intro i T cs k hy
   rcases hget i _ hy with ⟨a1, a2, ⟨x, a3, e, ar, _, _⟩, a4⟩ | ⟨j, o, m, a1, he, a3, a4, _, _, a5⟩
   · rw [a4]
     cases x with
     | cells wr U ds =>
       simp [forgetO] at e
       obtain ⟨rfl, _, _⟩ := e
       exact fun hI => h.i4 i _ _ k a3 ((hold i _ a1 a2 a3 rfl).2 k hI)
     | _ => simp [forgetO] at e
   · rw [a3]
     cases o with
     | cells wr U ds => simp [renO, VObj.orMv] at he; obtain ⟨rfl, _, _⟩ := he; exact h'.i4 j _ _ k a1
     | buf m' z l => cases m' <;> simp [renO, VObj.orMv] at he
     | _ => simp [renO, VObj.orMv] at he
 · intro i y k hy hlo
   rcases hget i _ hy with ⟨a1, a2, ⟨x, a3, _, ar, al, _⟩, a4⟩ | ⟨j, o, m, a1, he, a3, a4, _, al, a5⟩
   · rw [a4]; exact fun hI => h.i5 i x k a3 (by rw [al]; exact hlo) ((hold i _ a1 a2 a3 (by rw [ar]; exact loose_real hlo)).2 k hI)
   · rw [a3]; exact h'.i5 j _ k a1 (by rw [al]; exact hlo)
 · intro i hi hn
   obtain ⟨f1, ⟨arr, T, f2, f2'⟩, f3, f4⟩ := h.f1 i hi hn
   have hlt : (g.fam i).blk < w.heap.size := by
    rcases Nat.lt_or_ge (g.fam i).blk w.heap.size with h | h
    · exact h
    · rw [Array.getElem?_eq_none h] at f2; cases f2
   obtain ⟨k1, k2⟩ := hkeep (g.fam i).blk hlt fun i' hi' o ho hr e => f4 i' o ho hr e.symm
   refine ⟨f1, ⟨arr, T, by rw [← f2]; exact k1, f2'⟩, fun k hk hI => f3 k hk (k2 k hI), fun i' y hy hne => ?_⟩
   rcases hget i' y hy with ⟨a1, a2, ⟨x, a3, _, ar, _, _⟩, a4⟩ | ⟨j, o, m, a1, _, a3, _, ar, _, a5⟩
   · rw [a4]; exact f4 i' x a3 (by rw [ar]; exact hne)
   · rw [a3]
     rcases hblk j o a1 (by rw [ar]; exact hne) with q | ⟨i2, x2, q1, q2, q3, q4⟩
     · intro e
       have e' : g'.bs j = (g.fam i).blk := e
       omega
     · rw [← q4]; exact f4 i2 x2 q2 q3
 · exact h.f2
 · intro b k hI
   rw [h'.i6 b k (h.i1 b k hI)]; exact h.i6 b k hI
end
section
variable {S : Sys} {c : Ctx} {g : G} {w : World} {a : Act} {o : Oper} {K KP : V -> St -> Prop} {next : Act -> World -> Prop} {Q : Exit -> Act -> World -> Prop}
 {t : List V} {ob : List VObj} {nt : Nat} {df : List (Fn × List V × List V)}
theorem sound_call {cl : Call} {f : Operand} (hS : ∀ g args ob K, S.call g args ob K -> VCall0 S.P g args ob K) (ho : o.op = .call cl) (hc : cl.callee = .value f) (H : Nexts c a o.dst K KP next Q)
 (hs : Sim c g w a ⟨t, ob, nt, df⟩) (h0 : ev t f fun f => evs t cl.args.toList fun args => vcall S f args ⟨t, ob, nt, df⟩ K KP) : o.wp S.P a w next Q := by
 obtain ⟨v, hv, h00⟩ := ev_sound hs.ti h0
 clear h0
 obtain ⟨vs, k1, k2, h⟩ := evs_sound hs.ti h00
 clear h00
 obtain ⟨h1, h2⟩ := args_of k1 k2
 cases v <;> try exact h.elim
 rename_i f' first cap
 cases f' <;> try exact h.elim
 rename_i fid
 have h := mapK_untok h
 have hr := hv.rel
 generalize hx : a.eval f = e at hr
 cases hr
 rename_i ca cb ha hb i1 i2
 obtain ⟨j1, j2⟩ := append_args ha hb h1 fun k v x hv hx => (h2 k v x hv hx).rel
 obtain ⟨j1, j2⟩ := append_args j1 j2 i1 i2
 obtain ⟨m1, m2⟩ := untok_args j1 j2
 have hno : ∀ v ∈ (first ++ vs ++ cap).map V.untok, v.noTok = true := fun v hv => by
  obtain ⟨u, _, rfl⟩ := List.mem_map.1 hv; exact untok_noTok u
 have hexec : execOp a.eval o = callFunc fid (ca ++ cl.args.map a.eval ++ cb) := by
  simp only [execOp, ho, resolve, hc, hx]
  rfl
 generalize (first ++ vs ++ cap).map V.untok = args at h m1 m2 hno
 generalize ca ++ cl.args.map a.eval ++ cb = cargs at m1 m2 hexec
 simp only at h
 have h := listK_iff h
 generalize reach ob 64 (ptrsL args) [] = idx at h
 split at h
 case h_1 => exact h.elim
 rename_i hchk
 simp only [Bool.and_eq_true] at hchk
 obtain ⟨⟨hnd, hin⟩, hshut⟩ := hchk
 have hnd := nodupN_iff hnd
 obtain ⟨sub0, hl0, hsub0, h⟩ := getsK_iff h
 have h := insK_iff h
 obtain ⟨sub, hsub', hl, hsub⟩ : ∃ sub, sub = sub0.map inO /\ sub.length = idx.length /\ ∀ (j i : Nat), idx[j]? = some i -> ∃ o, ob[i]? = some o /\ sub[j]? = some (inO (renO (fun i => posN i idx 0) (untokO o))) := by
  refine ⟨_, rfl, by simp [hl0], fun j i hj => ?_⟩
  obtain ⟨o, q1, q2⟩ := hsub0 j i hj
  exact ⟨o, q1, by rw [List.getElem?_map, q2]; rfl⟩
 rw [← hsub'] at h
 have h := mapK_renP h
 have hcall := hS _ _ _ _ h
 have hwi := call_in hs.wi hnd (shutN_iff hshut) hl hsub
 have hidx : ∀ i ∈ idx, ∃ o, ob[i]? = some o := fun i hi => by
  obtain ⟨j, hj⟩ := List.mem_iff_getElem?.1 hi
  obtain ⟨o, ho, _⟩ := hsub j i hj
  exact ⟨o, ho⟩
 have hcalls := hcall w (inG g idx) cargs hwi (by rw [renL_length]; exact m1) (fun k v x hv hx => by
  rw [renL_get] at hv
  obtain ⟨u, hu, rfl⟩ := Option.map_eq_some_iff.1 hv
  exact ⟨in_rel (m2 k u x hu hx) (fun o ho => allIn_iff hin o (ptrsL_get hu ho)) hl, .of_no (noTok_ren (hno u (List.mem_of_getElem? hu)))⟩) hs.ti.gl
 have fin : ∀ (e : Ending) (w' : World), (∃ out os g', (movedK idx os fun ms => forgetK ms t ob df fun t ob_1 => backK (fun j => (idx[j]?).getD (ob.length + (j - idx.length))) idx os ob_1 fun ob => match out with
  | .ret v => renP (fun j => (idx[j]?).getD (ob.length + (j - idx.length))) v fun v => K v ⟨t, ob, nt, df⟩
  | .pan v => renP (fun j => (idx[j]?).getD (ob.length + (j - idx.length))) v fun v => KP v ⟨t, ob, nt, df⟩) /\
  WInv ⟨w, sub.length, (inG g idx).bs, (inG g idx).I, Owns (inG g idx) sub⟩ g' w' os 0 /\ Ends g' w' os.length out e) -> True := fun _ _ _ => trivial
 clear fin
 have key : ∀ (out : Out) (os : List VObj) (g' : G) (w' : World), (movedK idx os fun ms => forgetK ms t ob df fun t ob_1 => backK (fun j => (idx[j]?).getD (ob.length + (j - idx.length))) idx os ob_1 fun ob_2 => match out with
  | .ret v => renP (fun j => (idx[j]?).getD (ob.length + (j - idx.length))) v fun v => K v ⟨t, ob_2, nt, df⟩
  | .pan v => renP (fun j => (idx[j]?).getD (ob.length + (j - idx.length))) v fun v => KP v ⟨t, ob_2, nt, df⟩) ->
  WInv ⟨w, sub.length, (inG g idx).bs, (inG g idx).I, Owns (inG g idx) sub⟩ g' w' os 0 ->
  (∀ v x, VT g' w' os.length 0 v x -> out = .ret v -> next (a.put o.dst x) w') /\ (∀ v x, VRel g'.bs g'.I w' os.length v x -> out = .pan v -> Q (.panic [{ v := x, recovered := false }]) a w') := by
  intro out os g' w' hk hw'
  rw [hl] at hw'
  obtain ⟨hdf, hk⟩ := forgetK_iff (movedK_iff hk)
  obtain ⟨ob', b1, b2, b3, b4, b5, b6⟩ := backK_iff hnd hk
  rw [List.length_map] at b2 b4 b5
  have b3' : ∀ (j i : Nat) o, idx[j]? = some i -> os[j]? = some o -> ∃ o0, ob[i]? = some o0 /\ ob'[i]? = some ((renO (backN idx ob.length) o).orMv o0.mv) /\ (o0.mv = true -> ∃ m z l ty, o = .buf m z l ty) := fun j i o hj ho => by
   obtain ⟨o0, q1, q2, q3⟩ := b3 j i o hj ho
   rw [List.getElem?_map] at q1
   obtain ⟨o1, q4, rfl⟩ := Option.map_eq_some_iff.1 q1
   have : (forgetO (movedOf idx os) o1).mv = o1.mv := by cases o1 <;> rfl
   rw [this] at q2 q3
   exact ⟨o1, q4, q2, q3⟩
  obtain ⟨q1, q2, q3, q4, q5⟩ := call_out hs.wi hnd hidx hl (fun j i hj => by
   obtain ⟨o, r1, r2⟩ := hsub j i hj
   refine ⟨o, r1, fun s hs => ?_⟩
   rw [r2] at hs
   cases hs
   cases o <;> rfl) hw' b2 b3' (fun i hi hm => by rw [b4 i hi hm, List.getElem?_map]) b5
  have q2u : ∀ v x, VRel g.bs g.I w ob.length v x -> (∀ o ∈ ptrs v, o ∉ movedOf idx os) -> VRel (outG g g' idx ob.length).bs (outG g g' idx ob.length).I w' ob'.length v x := fun v x hv hp => by
   exact q5 v x hv hp
  have hsim : Sim c (outG g g' idx ob.length) w' a ⟨t.map (V.forget (movedOf idx os)), ob', nt, df⟩ := by
   refine ⟨q1, ⟨by simp [hs.ti.size], fun k v x hv hx => ?_, hs.ti.gl.out hw' rfl⟩, ?_⟩
   · rw [List.getElem?_map] at hv
     obtain ⟨u, hu, rfl⟩ := Option.map_eq_some_iff.1 hv
     rcases forget_cases (movedOf idx os) u with e | ⟨e, hp⟩
     · rw [e]; exact ⟨.undef, trivial⟩
     · rw [e]; exact q2 u x (hs.ti.rel k u x hu hx) hp
   · exact hs.di.forget (fun v x hv hp => (q2u v x hv hp)) hdf
  cases out with
  | ret v =>
    refine ⟨fun v' x hv he => ?_, fun _ _ _ he => by cases he⟩
    cases he
    exact H.val _ _ _ _ _ a (renP_iff b6) hsim rfl (q3 _ _ hv)
  | pan v =>
    refine ⟨(fun _ _ _ he => by cases he), fun v' x hv he => ?_⟩
    cases he
    exact H.pan _ _ _ _ _ a (renP_iff b6) hsim (q4 _ _ hv)
 unfold Oper.wp
 rw [hexec]
 unfold Does at hcalls
 split at hcalls
 · rename_i f' args' w1 hrun
   rw [hrun, Oper.upon_enter]
   refine hcalls.mono fun e w' he => ?_
   obtain ⟨out, os, g', hk, hw', hend⟩ := he
   obtain ⟨k1, k2⟩ := key out os g' w' hk hw'
   cases out with
   | ret v =>
     cases e <;> try exact hend.elim
     exact k1 v _ hend rfl
   | pan v =>
     cases e <;> try exact hend.elim
     obtain ⟨x, rfl, hx⟩ := hend
     exact k2 v x hx rfl
 · rename_i x w1 hrun
   rw [hrun, Oper.upon_value]
   obtain ⟨out, os, g', hk, hw', hend⟩ := hcalls
   cases out with
   | ret v => exact (key (.ret v) os g' _ hk hw').1 v _ hend rfl
   | pan v => exact hend.elim
 · rename_i row args' w1 hrun
   rw [hrun, Oper.upon_row]
   refine hcalls.mono fun x w' he => ?_
   obtain ⟨out, os, g', hk, hw', hend⟩ := he
   cases out with
   | ret v => exact (key (.ret v) os g' _ hk hw').1 v _ hend rfl
   | pan v => exact hend.elim
 · exact hcalls.elim
end
end VL

namespace VL
open Go
section
variable {S : Sys} {c : Ctx} {g : G} {w : World} {a : Act} {o : Oper} {K KP : V -> St -> Prop} {next : Act -> World -> Prop} {Q : Exit -> Act -> World -> Prop}
 {t : List V} {ob : List VObj} {nt : Nat} {df : List (Fn × List V × List V)}
theorem sound_binOp {op : BinOp} {T U : TypeId} {x y : Operand} (ho : o.op = .binOp op T x y U) (H : Nexts c a o.dst K KP next Q) (hs : Sim c g w a ⟨t, ob, nt, df⟩)
 (h : ev t x fun x => ev t y fun y => binopK S.P op T x y fun v => K v ⟨t, ob, nt, df⟩) : o.wp S.P a w next Q := by
 obtain ⟨u, hu, hk⟩ := ev_sound hs.ti h
 obtain ⟨v, hv, hk⟩ := ev_sound hs.ti hk
 obtain ⟨r, cr, h1, h2, h3, h4⟩ := binop_sound (w := w) (ox := x) (oy := y) hu.rel hv.rel hk
 refine H.same hs (x := cr) ?_ (.of h2 h3) h1
 simp only [execOp, ho]
 simp only [Sem.run_bind, Sem.run_pure] at h4 ⊢
 generalize Sem.run S.P (eqGuard op T x y (a.eval x) (a.eval y)) w = r at h4 ⊢
 cases r with
 | ok u w1 =>
   simp only [Result.andThen] at h4 ⊢
   rw [h4]
 | halt h w1 => simp [Result.andThen] at h4
theorem sound_flo (H : Nexts c a o.dst K KP next Q) (hs : Sim c g w a ⟨t, ob, nt, df⟩) (h : vflo S o t ob fun v => K v ⟨t, ob, nt, df⟩) : o.wp S.P a w next Q := by
 unfold vflo at h
 split at h
 next ho => exact sound_move (.inl ho) H hs h
 next ho => exact sound_move (.inr ho) H hs h
 next ho => exact sound_pick ho H hs h
 next ho => exact sound_build ho H hs h
 next ho => exact sound_buildSlice ho H hs h
 next ho => exact sound_load ho H hs h
 next ho => exact sound_nilCheck ho H hs h
 next ho => exact sound_binOp ho H hs h
 next ho => exact sound_unOp ho H hs h
 next ho => exact sound_lookup ho H hs h
 next ho => exact sound_convert2 ho H hs h
 next ho => exact sound_makeInterface ho H hs h
 next ho => exact sound_makeFunc ho H hs h
 next ho => exact sound_fieldAddr ho H hs h
 next ho => exact sound_field ho H hs h
 next ho => exact sound_indexAddr ho H hs h
 next ho => exact sound_index ho H hs h
 next ho => exact sound_typeAssert ho H hs h
 next ho => exact sound_extract ho H hs h
 next ho => exact sound_sliceF ho H hs h
 next ho => exact sound_slice3 ho H hs h
 next ho =>
  split at h
  next hc => exact sound_builtinF ho hc H hs h
  next hc => exact h.elim
 next ho => exact h.elim
theorem sound_op (hS : ∀ g args ob K, S.call g args ob K -> VCall0 S.P g args ob K) (H : Nexts c a o.dst K KP next Q) (hs : Sim c g w a ⟨t, ob, nt, df⟩)
 (h : vop S o ⟨t, ob, nt, df⟩ K KP) : o.wp S.P a w next Q := by
 simp only [vop] at h
 split at h
 next ho => exact sound_alloc ho H hs h
 next ho => exact sound_box ho H hs h
 next ho => exact sound_store ho H hs h
 next ho => exact sound_makeSlice ho H hs h
 next ho => exact sound_makeMap ho H hs h
 next ho => exact sound_mapUpdate ho H hs h
 next ho =>
  split at h
  next hy => exact sound_nilSl ho hy H hs h
  next => exact sound_flo H hs h
 next ho =>
  split at h
  next => exact sound_buildMu ho H hs h
  next => exact sound_flo H hs h
 next ho =>
  obtain ⟨p, hp, hk⟩ := ev_sound hs.ti h
  split at hk
  · exact sound_sliceA hk ho H hs hp
  · exact sound_sliceB hk ho H hs hp
  · exact sound_flo H hs hk
 next ho =>
  split at h
  next hc => exact sound_call hS ho hc H hs h
  next hc => exact sound_append2 ho hc H hs h
  next hc => exact sound_copy ho hc H hs h
  next hc => exact sound_unsafeString ho hc H hs h
  next hc => exact sound_flo H hs h
  next hc => exact h.elim
 next ho =>
  split at h
  next hc => exact sound_defer ho hc H hs h
  next hc => exact h.elim
 next ho => exact sound_panic ho H hs h
 next => exact sound_flo H hs h
end
end VL

namespace VL
open Go
structure Fits (c : Ctx) (K : Ex -> St -> Prop) (Q : Exit -> Act -> World -> Prop) : Prop where
 normal : ∀ s g w a, K .normal s -> Sim c g w a s -> Q .normal a w
 exit : ∀ i s g w a, K (.exit i) s -> Sim c g w a s -> Q (.exit i) a w
 ret : ∀ s g w a, K .ret s -> Sim c g w a s -> Q .ret a w
 pan : ∀ v x s g w a, K (.pan v) s -> Sim c g w a s -> VRel g.bs g.I w s.objs.length v x -> Q (.panic [{ v := x, recovered := false }]) a w
section
variable {S : Sys} {c : Ctx} {Q : Exit -> Act -> World -> Prop}
theorem TInv.set {g : G} {w : World} {n nt : Nat} {tm : Array Value} {t : List V} (h : TInv g w n nt tm t) {i : Nat} {v : V} {x : Value} (hv : VT g w n nt v x) : TInv g w n nt (tm.setIfInBounds i x) (t.set i v) := by
 refine ⟨by simp [h.size], fun k u y hu hy => ?_, h.gl⟩
 rw [List.getElem?_set] at hu
 rw [Array.getElem?_setIfInBounds] at hy
 by_cases e : i = k
 · subst e
   by_cases hlt : i < t.length
   · rw [if_pos rfl, if_pos hlt] at hu
     rw [if_pos rfl, if_pos (by rw [← h.size]; exact hlt)] at hy
     cases hu; cases hy
     exact hv
   · rw [if_pos rfl, if_neg hlt] at hu; cases hu
 · rw [if_neg e] at hu hy
   exact h.rel k u y hu hy
theorem put_sound {s : St} {g : G} {w : World} {b : Act} {dst : Option Tmp} {v : V} {x : Value} {K : St -> Prop} (hs : Sim c g w b s) (hv : VT g w s.objs.length s.nt v x) (h : s.put dst v K) :
 ∃ s', K s' /\ Sim c g w (b.put dst x) s' := by
 obtain ⟨t, ob, nt, df⟩ := s
 cases dst with
 | none => exact ⟨_, h, hs⟩
 | some i =>
   simp only [St.put, force_eq] at h
   obtain ⟨_, h⟩ := setK_iff h
   exact ⟨_, h, hs.wi, hs.ti.set hv, hs.di⟩
theorem not_bool {bs : Nat -> Nat} {I : Nat -> Nat -> Prop} {w : World} {n : Nat} {v : V} {b : Bool} (h : VRel bs I w n v (.bool b)) : v = .undef \/ v = .bool b := by
 cases h <;> simp
theorem yield_some {g : G} {w : World} {n nt : Nat} {tm : Array Value} {t : List V} (h : TInv g w n nt tm t) {ops : Array Oper} {j d : Nat} (hj : (ops.toList[j]?).bind (·.dst) = some d) {v : V} (hv : t[d]? = some v) :
 (∀ b, v = .bool b -> yielded ops tm j = some b /\ tm[d]? = some (.bool b)) /\ (v ≠ .undef -> (∀ b, v ≠ .bool b) -> yielded ops tm j = none) := by
 have hlt : d < tm.size := by rw [← h.size]; exact (List.getElem?_eq_some_iff.1 hv).1
 obtain ⟨e, he⟩ : ∃ e, tm[d]? = some e := ⟨tm[d], Array.getElem?_eq_getElem hlt⟩
 have hr := (h.rel d v e hv he).rel
 have hj' : (ops[j]?).bind (·.dst) = some d := by simpa using hj
 have hy : ∀ e, tm[d]? = some e -> yielded ops tm j = (match e with | .bool b => some b | _ => none) := by
  intro e he
  unfold yielded
  rw [hj', Option.bind_some, he]
  cases e <;> rfl
 have hy := hy e he
 constructor
 · rintro b rfl
   cases hr
   exact ⟨hy, he⟩
 · intro h1 h2
   rw [hy]
   cases e <;> simp
   rcases not_bool hr with h | h
   · exact h1 h
   · exact h2 _ h
theorem sound_ops (hS : ∀ g args ob K, S.call g args ob K -> VCall0 S.P g args ob K) {ops : Array Oper} {K : St -> Prop} {KP : V -> St -> Prop}
 (hk : ∀ s g w a, K s -> Sim c g w a s -> Q .normal a w)
 (hp : ∀ v x s g w a, KP v s -> Sim c g w a s -> VRel g.bs g.I w s.objs.length v x -> Q (.panic [{ v := x, recovered := false }]) a w) :
 ∀ (l : List Oper) (s : St) (g : G) (w : World) (a : Act), Sim c g w a s -> vops S ops.toList l s K KP -> wpList S.P ops Q l a w
 | [], s, g, w, a, hs, h => hk s g w a h hs
 | o :: r, ⟨t, ob, nt, df⟩, g, w, a, hs, h => by
   have hrest : ∀ (s : St) g w a, Sim c g w a s -> vops S ops.toList r s K KP -> wpList S.P ops Q r a w := fun s g w a => sound_ops hS hk hp r s g w a
   have hnext : ∀ a, Nexts c a o.dst (fun v s => s.put o.dst v fun s => vops S ops.toList r s K KP) KP (wpList S.P ops Q r) Q := fun a => {
    val := fun v x s g w b hk' hs' _ hv => by
     obtain ⟨s', h1, h2⟩ := put_sound hs' hv hk'
     exact hrest s' g w _ h2 h1
    pan := fun v x s g w b hk' hs' hv => hp v x s g w b hk' hs' hv }
   have hskip : ∀ {t : List V}, Sim c g w a ⟨t, ob, nt, df⟩ -> (St.put ⟨t, ob, nt, df⟩ o.dst (.tup []) fun s => vops S ops.toList r s K KP) -> wpList S.P ops Q r (a.put o.dst undef) w := fun hs' h => by
    obtain ⟨s', h1, h2⟩ := put_sound (v := .tup []) (x := undef) hs' (.of (.tup rfl (by simp)) rfl) h
    exact hrest s' g w _ h2 h1
   unfold wpList
   cases hg : o.guard with
   | none =>
     simp only [vops, hg] at h
     have hw : Region.wanted o (yielded ops a.tmps) = true := by simp [Region.wanted, hg]
     rw [hw, if_pos rfl]
     exact .inl (sound_op hS (hnext a) hs h)
   | some jw =>
     obtain ⟨j, want⟩ := jw
     simp only [vops, hg] at h
     cases hj : (ops.toList[j]?).bind (·.dst) with
     | none => rw [hj] at h; exact h.elim
     | some d =>
       rw [hj] at h
       obtain ⟨v, h1, h2⟩ := getK_iff h
       obtain ⟨y1, y2⟩ := yield_some hs.ti hj h1
       split at h2
       · rename_i b
         obtain ⟨y1, yd⟩ := y1 b rfl
         have hset : ∀ b', b' = b -> Sim c g w a ⟨t.set d (.bool b'), ob, nt, df⟩ := fun b' e => by
          subst e
          have := hs.ti.set (i := d) (v := .bool b') (x := .bool b') (.of .bool rfl)
          have heq : a.tmps.setIfInBounds d (.bool b') = a.tmps := by
           apply Array.ext_getElem?
           intro k
           rw [Array.getElem?_setIfInBounds]
           split
           · rename_i e; subst e
             split
             · exact yd.symm
             · rename_i hlt; rw [Array.getElem?_eq_none (by omega)]
           · rfl
          rw [heq] at this
          exact ⟨hs.wi, this, hs.di⟩
         have hw : Region.wanted o (yielded ops a.tmps) = (b == want) := by
          simp [Region.wanted, hg, y1]
         rw [hw]
         rcases bif_elim h2 with ⟨rfl, h2⟩ | ⟨rfl, h2⟩
         · obtain ⟨_, h2⟩ := setK_iff h2
           cases want with
           | true => rw [if_pos (by simp)]; exact .inl (sound_op hS (hnext a) (hset true rfl) h2)
           | false => rw [if_neg (by simp)]; exact hskip (hset true rfl) h2
         · obtain ⟨_, h2⟩ := setK_iff h2
           cases want with
           | false => rw [if_pos (by simp)]; exact .inl (sound_op hS (hnext a) (hset false rfl) h2)
           | true => rw [if_neg (by simp)]; exact hskip (hset false rfl) h2
       · exact h2.elim
       · rename_i hn1 hn2
         have hw : Region.wanted o (yielded ops a.tmps) = false := by
          simp [Region.wanted, hg, y2 (fun e => hn2 e) (fun b e => hn1 b e)]
         rw [hw, if_neg (by simp)]
         exact hskip hs h2
end
end VL

namespace VL
open Go
def Det {α : Type} (F : (α -> Prop) -> Prop) : Prop := ∀ K, F K -> ∃ v, K v /\ ∀ K' : α -> Prop, K' v -> F K'
theorem Det.bind {α β : Type} {F : (α -> Prop) -> Prop} {G : α -> (β -> Prop) -> Prop} (hF : Det F) (hG : ∀ a, Det (G a)) : Det fun K => F fun a => G a K := fun K h => by
 obtain ⟨a, h1, h2⟩ := hF _ h
 obtain ⟨b, h3, h4⟩ := hG a _ h1
 exact ⟨b, h3, fun K' h => h2 _ (h4 K' h)⟩
theorem Det.ret {α : Type} (v : α) : Det fun K : α -> Prop => K v := fun K h => ⟨v, h, fun _ h => h⟩
theorem Det.no {α : Type} : Det fun _ : α -> Prop => False := fun _ h => h.elim
theorem Det.and {α : Type} {A : Prop} {F : (α -> Prop) -> Prop} (h : A -> Det F) : Det fun K => A /\ F K := fun K ⟨ha, hk⟩ => by
 obtain ⟨v, h1, h2⟩ := h ha K hk
 exact ⟨v, h1, fun K' h => ⟨ha, h2 K' h⟩⟩
theorem Det.ex {α β : Type} {F : β -> (α -> Prop) -> Prop} (h : ∀ b, Det (F b)) : Det fun K => ∃ b, F b K := fun K ⟨b, hk⟩ => by
 obtain ⟨v, h1, h2⟩ := h b K hk
 exact ⟨v, h1, fun K' h => ⟨b, h2 K' h⟩⟩
theorem Det.bif {α : Type} {b : Bool} {F G : (α -> Prop) -> Prop} (hF : Det F) (hG : Det G) : Det fun K => @Bool.rec (fun _ => Prop) (G K) (F K) b := by
 cases b
 · exact hG
 · exact hF
theorem det_force (v : V) : Det v.force := by cases v <;> exact .ret _
theorem det_natK (n : Nat) : Det (natK n) := by cases n <;> exact .ret _
theorem det_listK : ∀ l : List Nat, Det (listK l)
 | [] => .ret _
 | i :: r => show Det fun K => natK i fun i => listK r fun r => K (i :: r) from Det.bind (det_natK i) fun i => Det.bind (det_listK r) fun r => .ret (i :: r)
theorem det_renP (f : Nat -> Nat) (v : V) : Det (renP f v) := fun K h => by
 unfold renP at h ⊢
 split at h
 · exact (Det.bind (det_natK _) fun o => .ret _) K h
 · exact (Det.bind (det_natK _) fun o => .ret _) K h
 · exact (Det.bind (det_natK _) fun o => .ret _) K h
 · exact (Det.bind (det_natK _) fun o => .ret _) K h
 · split at h
   · exact ⟨_, h, fun _ h => h⟩
   · exact ⟨_, h, fun _ h => h⟩
theorem det_getK {α : Type} : ∀ (l : List α) (i : Nat), Det (getK l i)
 | [], _ => .no
 | x :: _, 0 => .ret x
 | _ :: r, n + 1 => det_getK r n
theorem det_setK {α : Type} : ∀ (l : List α) (i : Nat) (v : α), Det (setK l i v)
 | [], _, _ => .no
 | x :: r, 0, v => .ret (v :: r)
 | x :: r, n + 1, v => show Det fun K => setK r n v fun r' => K (x :: r') from Det.bind (det_setK r n v) fun r' => .ret (x :: r')
theorem det_dropK {α : Type} : ∀ (l : List α) (i : Nat), Det (dropK l i)
 | l, 0 => by cases l <;> exact .ret _
 | [], _ + 1 => .no
 | _ :: r, n + 1 => det_dropK r n
theorem det_takeK {α : Type} : ∀ (l : List α) (i : Nat), Det (takeK l i)
 | l, 0 => by cases l <;> exact .ret _
 | [], _ + 1 => .no
 | x :: r, n + 1 => show Det fun K => takeK r n fun l => K (x :: l) from Det.bind (det_takeK r n) fun l => .ret (x :: l)
theorem det_spliceK {α : Type} : ∀ (l : List α) (n : Nat) (vs : List α), Det (spliceK l n vs)
 | l, 0, [] => by cases l <;> exact .ret _
 | [], 0, _ :: _ => .no
 | _ :: r, 0, v :: vs => show Det fun K => spliceK r 0 vs fun l => K (v :: l) from Det.bind (det_spliceK r 0 vs) fun l => .ret (v :: l)
 | [], _ + 1, _ => .no
 | x :: r, n + 1, vs => show Det fun K => spliceK r n vs fun l => K (x :: l) from Det.bind (det_spliceK r n vs) fun l => .ret (x :: l)
theorem det_mapK {α β : Type} {f : α -> (β -> Prop) -> Prop} (hf : ∀ x, Det (f x)) : ∀ l : List α, Det (mapK f l)
 | [] => .ret _
 | x :: r => show Det fun K => f x fun y => mapK f r fun ys => K (y :: ys) from Det.bind (hf x) fun y => Det.bind (det_mapK hf r) fun ys => .ret (y :: ys)
theorem det_untok (v : V) : Det v.untokK := show Det fun K => v.force fun v => v.untok.force K from Det.bind (det_force v) fun v => det_force _
theorem det_snocK {α : Type} : ∀ (l : List α) (v : α), Det fun K : (Nat × List α) -> Prop => snocK l v fun n l => K (n, l)
 | [], v => .ret (0, [v])
 | x :: r, v => fun K h => by
   obtain ⟨p, h1, h2⟩ := det_snocK r v (fun p => K (p.1 + 1, x :: p.2)) h
   exact ⟨_, h1, fun K' h => h2 (fun p => K' (p.1 + 1, x :: p.2)) h⟩
theorem det_ev (t : List V) (x : Operand) : Det (ev t x) := by
 cases x with
 | tmp i => exact det_getK t i
 | const c => exact det_force _
 | func f => exact .ret _
 | global b =>
   show Det fun K => match glob b with
    | some l => K (V.dp (l.map ofConst))
    | none => False
   generalize glob b = q
   cases q with
   | some l => exact .ret _
   | none => exact .no
theorem det_evs (t : List V) : ∀ l, Det (evs t l)
 | [] => .ret _
 | x :: r => show Det fun K => ev t x fun v => evs t r fun vs => K (v :: vs) from Det.bind (det_ev t x) fun v => Det.bind (det_evs t r) fun vs => .ret (v :: vs)
theorem det_szK (P : Program) (T : TypeId) : Det (szK P T) := fun K h => by
 unfold szK at h ⊢
 split at h
 · exact h.elim
 · exact ⟨_, h, fun _ h => h⟩
theorem det_loadK (P : Program) (T : TypeId) (cs : List V) : Det (loadK P T cs) := fun K h => by
 unfold loadK at h ⊢
 split at h
 · exact (Det.bind (det_takeK cs _) fun l => Det.bind (det_mapK det_untok l) fun l => .ret (.agg l)) K h
 · exact (Det.bind (det_takeK cs _) fun l => Det.bind (det_mapK det_untok l) fun l => .ret (.agg l)) K h
 · split at h
   · exact det_force _ K h
   · exact h.elim
 · exact h.elim
theorem det_zeroV (P : Program) (T : TypeId) : Det (zeroV P T) := fun K h => by
 unfold zeroV at h ⊢
 split at h
 · exact det_force _ K h
 · exact h.elim
theorem det_assertK (P : Program) (T : TypeId) (ok : Bool) (x : V) : Det (assertK P T ok x) := fun K h => by
 unfold assertK at h ⊢
 split at h
 · split at h
   · cases ok
     · exact (Det.bind (det_untok _) fun v => .ret v) K h
     · exact (Det.bind (det_untok _) fun v => .ret _) K h
   · cases ok
     · exact h.elim
     · exact (Det.bind (det_zeroV P T) fun z => .ret _) K h
 · cases ok
   · exact h.elim
   · exact (Det.bind (det_zeroV P T) fun z => .ret _) K h
 · exact h.elim
theorem det_fillK (place : Nat -> Option (Nat × Nat)) : ∀ (ps : List (Nat × V)) (cs : List V), Det (fillK place cs ps)
 | [], cs => .ret cs
 | (i, v) :: r, cs => fun K h => by
  unfold fillK at h ⊢
  split at h
  · refine (Det.bind (det_force v) fun v K h => ?_) K h
    split at h
    · rename_i hc
      obtain ⟨u, h1, h2⟩ := (Det.bind (det_spliceK _ _ _) fun cs => det_fillK place r cs) K h
      exact ⟨u, h1, fun K' h => h2 K' h⟩
    · exact h.elim
  · exact h.elim
theorem det_partsK (t : List V) : ∀ l, Det (partsK t l)
 | [] => .ret _
 | (i, x) :: r => show Det fun K => ev t x fun v => v.untokK fun v => partsK t r fun ps => K ((i, v) :: ps) from Det.bind (det_ev t x) fun v => Det.bind (det_untok v) fun v => Det.bind (det_partsK t r) fun ps => .ret ((i, v) :: ps)
theorem det_buildK (P : Program) (T : TypeId) (ps : List (Nat × V)) : Det (buildK P T ps) := by
 show Det fun K => buildK P T ps K
 unfold buildK
 refine Det.bind (det_zeroV P T) fun z K h => ?_
 split at h
 · split at h
   · rename_i hc
     obtain ⟨u, h1, h2⟩ := (Det.bind (det_fillK _ ps _) fun cs => .ret (V.agg cs)) K h
     exact ⟨u, h1, fun K' h => h2 K' h⟩
   · exact h.elim
 · split at h
   · rename_i hc
     obtain ⟨u, h1, h2⟩ := (Det.bind (det_fillK _ ps _) fun cs => .ret (V.agg cs)) K h
     exact ⟨u, h1, fun K' h => h2 K' h⟩
   · exact h.elim
 · exact h.elim
theorem det_lowK (t : List V) (lo : Option Operand) : Det (lowK t lo) := by
 cases lo with
 | none => exact .ret 0
 | some y =>
   show Det fun K => lowK t (some y) K
   unfold lowK
   refine Det.bind (det_ev t y) fun v => ?_
   cases v <;> first | exact .no | exact .ret _
theorem det_binopK (P : Program) (op : BinOp) (T : TypeId) (x y : V) : Det (binopK P op T x y) := fun K h => by
 unfold binopK at h ⊢
 split at h
 all_goals first
  | exact h.elim
  | exact ⟨_, h, fun _ h => h⟩
  | (obtain ⟨a, h⟩ := h; exact ⟨_, h, fun _ h => ⟨a, h⟩⟩)
  | (by_cases hk : ‹IntKind› = ‹IntKind›
     · rename_i k _ k' _ _ _
       by_cases hk : k = k'
       · subst hk
         simp only [if_true] at h ⊢
         split at h
         all_goals first
          | exact h.elim
          | exact ⟨_, h, fun _ h => h⟩
          | (obtain ⟨a, h⟩ := h; exact ⟨_, h, fun _ h => ⟨a, h⟩⟩)
       · simp only [if_neg hk] at h
     · exact absurd rfl hk)
  | (split at h
     all_goals first
      | exact h.elim
      | exact ⟨_, h, fun _ h => h⟩
      | exact (Det.bind (det_szK P _) fun _ => .ret _) K h
      | (split at h
         all_goals first
          | exact h.elim
          | exact ⟨_, h, fun _ h => h⟩
          | exact (Det.bind (det_szK P _) fun _ => .ret _) K h))
theorem det_convK (P : Program) (A B : TypeId) (x : V) : Det (convK P A B x) := fun K h => by
 unfold convK at h ⊢
 split at h
 all_goals first
  | exact h.elim
  | exact ⟨_, h, fun _ h => h⟩
  | (split at h
     all_goals first
      | exact h.elim
      | exact ⟨_, h, fun _ h => h⟩
      | (obtain ⟨a, b, h⟩ := h; exact ⟨_, h, fun _ h => ⟨a, b, h⟩⟩))
variable (S : Sys)
theorem det_vbuiltinF (b : Builtin) (ts : Array TypeId) (args : List V) : Det (vbuiltinF S b ts args) := fun K h => by
 unfold vbuiltinF at h ⊢
 split at h
 all_goals first
  | exact h.elim
  | exact ⟨_, h, fun _ h => h⟩
  | (obtain ⟨a, h⟩ := h; exact ⟨_, h, fun _ h => ⟨a, h⟩⟩)
theorem det_srcK (P : Program) (e : TypeId) (ts : Array TypeId) (ob : List VObj) (v : V) : Det (srcK P e ts ob v) := fun K h => by
 unfold srcK at h ⊢
 split at h
 · exact ⟨_, h, fun _ h => h⟩
 · exact ⟨_, h, fun _ h => h⟩
 · split at h
   · exact ⟨_, h, fun _ h => h⟩
   · exact h.elim
 · refine (Det.bind (det_getK ob _) fun x => ?_) K h
   cases x <;> try exact .no
   simp only
   split
   · exact .and fun _ => .ret _
   · exact .no
 · exact h.elim
theorem det_res (ok : Bool) (v : V) (b : Bool) : Det fun K : V -> Prop => v.untokK fun v => (match ok with | true => K (.tup [v, .bool b]) | false => K v) :=
 Det.bind (det_untok v) fun v => by cases ok <;> exact .ret _
theorem det_lookupK (P : Program) (T : TypeId) (ob : List VObj) (x k : V) (ok : Bool) : Det (lookupK P T ob x k ok) := fun K h => by
 unfold lookupK at h ⊢
 split at h
 · split at h
   · cases x <;> try exact h.elim
     · refine (Det.bind (det_getK ob _) fun x => ?_) K h
       cases x <;> try exact .no
       refine .and fun _ => .ex fun r => .and fun _ => ?_
       cases r
       · exact Det.bind (det_zeroV P _) fun z => det_res ok _ _
       · exact det_res ok _ _
     · exact (Det.bind (det_zeroV P _) fun z => det_res ok _ _) K h
   · exact h.elim
 · exact h.elim
theorem det_slice (T : TypeId) (t : List V) (hi : Option Operand) (x : V) (l : Int) : Det fun K : V -> Prop => (match x with
 | .str b => match S.P.underlying T with
   | some .string => (match hi with
     | none => 0 <= l /\ l <= b.size /\ K (.str (b.extract l.toNat b.size))
     | some y => ev t y fun y => match y with
       | .int _ h => 0 <= l /\ l <= h /\ h <= b.size /\ K (.str (b.extract l.toNat h.toNat))
       | _ => False)
   | _ => False
 | .sl xs r => match S.P.underlying T with
   | some (.slice e) => szK S.P e fun z => (match hi with
     | none => 0 <= l /\ l <= xs.length /\ (∀ x ∈ xs, x.cells.length = z) /\ K (.sl (xs.drop l.toNat) r)
     | some y => ev t y fun y => match y with
       | .int _ h => 0 <= l /\ l <= h /\ h <= xs.length /\ (∀ x ∈ xs, x.cells.length = z) /\ K (.sl ((xs.take h.toNat).drop l.toNat) .no)
       | _ => False)
   | _ => False
 | .spare xs sp => match S.P.underlying T with
   | some (.slice e) => szK S.P e fun z => (match hi with
     | none => False
     | some y => ev t y fun y => match y with
       | .int _ h => 0 <= l /\ l <= h /\ h <= xs.length + sp.length /\ (∀ x ∈ xs ++ sp, x.cells.length = z) /\ K (.sl (((xs ++ sp).take h.toNat).drop l.toNat) .no)
       | _ => False)
   | _ => False
 | .slo o z a n c => match S.P.underlying T with
   | some (.slice e) => szK S.P e fun z' => (match Nat.beq z z', hi with
     | true, none => 0 <= l /\ l <= n /\ K (.slo o z (a + l.toNat) (n - l.toNat) (c - l.toNat))
     | true, some y => ev t y fun y => match y with
       | .int _ h => 0 <= l /\ l <= h /\ h <= c /\ K (.slo o z (a + l.toNat) (h.toNat - l.toNat) (c - l.toNat))
       | _ => False
     | _, _ => False)
   | _ => False
 | _ => False) := by
 cases x with
 | str b =>
   simp only
   split
   · cases hi with
     | none => exact .and fun _ => .and fun _ => .ret _
     | some y =>
       refine Det.bind (det_ev t y) fun v => ?_
       cases v <;> first | exact .no | exact .and fun _ => .and fun _ => .and fun _ => .ret _
   · exact .no
 | sl xs r =>
   simp only
   split
   · refine Det.bind (det_szK S.P _) fun z => ?_
     cases hi with
     | none => exact .and fun _ => .and fun _ => .and fun _ => .ret _
     | some y =>
       refine Det.bind (det_ev t y) fun v => ?_
       cases v <;> first | exact .no | exact .and fun _ => .and fun _ => .and fun _ => .and fun _ => .ret _
   · exact .no
 | spare xs sp =>
   simp only
   split
   · refine Det.bind (det_szK S.P _) fun z => ?_
     cases hi with
     | none => exact .no
     | some y =>
       show Det fun K : V -> Prop => ev t y fun y => match y with
        | .int _ h => 0 <= l /\ l <= h /\ h <= xs.length + sp.length /\ (∀ x ∈ xs ++ sp, x.cells.length = z) /\ K (.sl (((xs ++ sp).take h.toNat).drop l.toNat) .no)
        | _ => False
       refine Det.bind (det_ev t y) fun v => ?_
       cases v <;> first | exact .no | exact .and fun _ => .and fun _ => .and fun _ => .and fun _ => .ret _
   · exact .no
 | slo o z a n c =>
   simp only
   split
   · refine Det.bind (det_szK S.P _) fun z' => ?_
     cases hb : Nat.beq z z' with
     | false => cases hi <;> exact .no
     | true =>
       cases hi with
       | none => exact .and fun _ => .and fun _ => .ret _
       | some y =>
         refine Det.bind (det_ev t y) fun v => ?_
         cases v <;> first | exact .no | exact .and fun _ => .and fun _ => .and fun _ => .ret _
   · exact .no
 | _ => exact .no
theorem det_slice3 (T : TypeId) (x h m : V) (l : Int) : Det fun K : V -> Prop => (match x, h, m, S.P.underlying T with
 | .sl xs _, .int _ h, .int _ m, some (.slice e) => szK S.P e fun z => 0 <= l /\ l <= h /\ h = m /\ h <= xs.length /\ (∀ x ∈ xs, x.cells.length = z) /\ K (.sl ((xs.take h.toNat).drop l.toNat) .ex)
 | .slo o z a n c, .int _ h, .int _ m, some (.slice e) => szK S.P e fun z' => (match Nat.beq z z' with
   | true => 0 <= l /\ l <= h /\ h <= m /\ m <= c /\ K (.slo o z (a + l.toNat) (h.toNat - l.toNat) (m.toNat - l.toNat))
   | false => False)
 | _, _, _, _ => False) := by
 split
 · exact Det.bind (det_szK S.P _) fun z => .and fun _ => .and fun _ => .and fun _ => .and fun _ => .and fun _ => .ret _
 · refine Det.bind (det_szK S.P _) fun z => ?_
   split
   · exact .and fun _ => .and fun _ => .and fun _ => .and fun _ => .ret _
   · exact .no
 · exact .no
theorem det_vflo (o : Oper) (t : List V) (ob : List VObj) : Det (vflo S o t ob) := by
 show Det fun K => vflo S o t ob K
 unfold vflo
 split
 · exact det_ev t _
 · exact det_ev t _
 · refine Det.bind (det_ev t _) fun v => ?_
   cases v <;> first | exact .no | exact .bif (det_ev t _) (det_ev t _)
 · exact Det.bind (det_partsK t _) fun ps => det_buildK _ _ _
 · refine Det.bind (det_partsK t _) fun ps K h => ?_
   split at h
   · split at h
     · obtain ⟨z, h1, h2⟩ := det_szK S.P _ _ h
       split at h1
       · split at h1
         · split at h1
           · exact ⟨_, h1, fun K' h => h2 _ (by simp_all)⟩
           · exact ⟨_, h1, fun K' h => h2 _ (by simp_all)⟩
           · split at h1
             · exact ⟨_, h1, fun K' h => h2 _ (by simp_all)⟩
             · exact h1.elim
           · exact h1.elim
         · exact h1.elim
       · exact h1.elim
     · exact h.elim
   · exact h.elim
 · refine Det.bind (det_ev t _) fun v => ?_
   cases v <;> try exact .no
   · refine Det.bind (det_getK ob _) fun x => ?_
     cases x <;> try exact .no
     exact Det.bind (det_dropK _ _) fun cs => det_loadK _ _ _
   · exact Det.bind (det_loadK _ _ _) fun v => det_untok v
   · refine Det.bind (det_getK ob _) fun x => ?_
     cases x <;> try exact .no
     simp only
     split
     · exact .ex fun x => .and fun _ => Det.bind (det_dropK _ _) fun cs => Det.bind (det_loadK _ _ _) fun v => det_untok v
     · exact .no
 · refine Det.bind (det_ev t _) fun v => ?_
   cases v <;> try first | exact .no | exact .ret _
   rename_i f a b
   cases f <;> first | exact .no | exact .ret _
 · exact Det.bind (det_ev t _) fun x => Det.bind (det_ev t _) fun y => det_binopK _ _ _ _ _
 · refine Det.bind (det_ev t _) fun v => ?_
   split <;> first | exact .no | exact .ret _
 · exact Det.bind (det_ev t _) fun x => Det.bind (det_ev t _) fun k => det_lookupK _ _ _ _ _ _
 · refine Det.bind (det_ev t _) fun x => ?_
   split
   · split
     · split
       · exact Det.bind (det_srcK _ _ _ _ _) fun m => .ex fun bs => .and fun _ => .ret _
       · exact .no
     · exact .no
   · exact Det.bind (det_getK ob _) fun o1 => Det.bind (F := unsafeK S.P _ _ o1 _) (Det.ret _) fun b => by
      cases b
      · exact .no
      · exact .ret _
   · exact det_convK _ _ _ _
 · refine Det.bind (det_ev t _) fun v => Det.bind (det_untok v) fun v => ?_
   split <;> first | exact .no | exact .ret _
 · exact Det.bind (det_evs t _) fun a => Det.bind (det_evs t _) fun b => Det.bind (det_mapK det_untok a) fun a => Det.bind (det_mapK det_untok b) fun b => .ret _
 · refine Det.bind (det_ev t _) fun v => ?_
   split
   · split
     · exact .no
     · cases v <;> first | exact .no | exact .ret _ | exact Det.bind (det_dropK _ _) fun c => .ret _
   · exact .no
 · refine Det.bind (det_ev t _) fun v => ?_
   split
   · exact Det.bind (det_dropK _ _) fun cs => Det.bind (det_loadK _ _ _) fun v => det_untok v
   · exact .no
 · refine Det.bind (det_ev t _) fun p => Det.bind (det_ev t _) fun i => ?_
   cases i <;> try exact .no
   simp only
   split
   · refine Det.bind (det_szK _ _) fun z => .and fun _ => .and fun _ => Det.bind (det_getK ob _) fun x => ?_
     cases x <;> try exact .ret _
     simp only
     split
     · exact .ret _
     · exact .no
   · refine Det.bind (det_szK _ _) fun z => ?_
     split
     · exact .and fun _ => .and fun _ => .ret _
     · exact .no
   · exact Det.bind (det_szK _ _) fun z => .and fun _ => .and fun _ => Det.bind (det_dropK _ _) fun c => .ret _
   · exact Det.bind (det_szK _ _) fun z => .and fun _ => .ex fun _ => .and fun _ => .and fun _ => .ret _
   · exact Det.bind (det_szK _ _) fun z => .and fun _ => .ex fun _ => .and fun _ => .and fun _ => .ret _
   · exact Det.bind (det_szK _ _) fun z => .and fun _ => .ex fun _ => .and fun _ => .and fun _ => .ret _
   · exact .no
 · refine Det.bind (det_ev t _) fun p => Det.bind (det_ev t _) fun i => ?_
   cases i <;> try exact .no
   simp only
   split
   · exact .and fun _ => .ex fun _ => .and fun _ => .ret _
   · exact Det.bind (det_szK _ _) fun z => .and fun _ => .and fun _ => Det.bind (det_dropK _ _) fun c => Det.bind (det_loadK _ _ _) fun v => det_untok v
   · exact .no
 · refine Det.bind (det_ev t _) fun v => ?_
   split
   · exact .no
   · exact det_assertK _ _ _ _
   · exact .no
 · refine Det.bind (det_ev t _) fun v => ?_
   cases v <;> try exact .no
   exact Det.bind (det_getK _ _) fun v => det_untok v
 · exact Det.bind (det_ev t _) fun x => Det.bind (det_lowK t _) fun l => det_slice S _ t _ x l
 · exact Det.bind (det_ev t _) fun x => Det.bind (det_lowK t _) fun l => Det.bind (det_ev t _) fun h => Det.bind (det_ev t _) fun m => det_slice3 S _ x h m l
 · split
   · exact Det.bind (det_evs t _) fun args => det_vbuiltinF S _ _ _
   · exact .no
 · exact .no
end VL

namespace VL
open Go
theorem evs_congr {t t' : List V} : ∀ {l : List Operand}, (∀ x ∈ l, ev t x = ev t' x) -> evs t l = evs t' l
 | [], _ => by funext K; rfl
 | x :: r, h => by
   funext K
   simp only [evs, h x (by simp), evs_congr (l := r) fun y hy => h y (by simp [hy])]
theorem partsK_congr {t t' : List V} : ∀ {l : List (Nat × Operand)}, (∀ x ∈ l.map (·.2), ev t x = ev t' x) -> partsK t l = partsK t' l
 | [], _ => by funext K; rfl
 | (i, x) :: r, h => by
  funext K
  simp only [partsK, h x (by simp), partsK_congr (l := r) fun y hy => h y (by simp at hy ⊢; exact .inr hy)]
theorem lowK_congr {t t' : List V} {lo : Option Operand} (h : ∀ x ∈ lo.toList, ev t x = ev t' x) : lowK t lo = lowK t' lo := by
 funext K
 cases lo with
 | none => rfl
 | some y => simp only [lowK, h y (by simp)]
theorem optK_congr {t t' : List V} {lo : Option Operand} (h : ∀ x ∈ lo.toList, ev t x = ev t' x) : optK t lo = optK t' lo := by
 funext K
 cases lo with
 | none => rfl
 | some y => simp only [optK, h y (by simp)]
theorem vflo_congr (S : Sys) {o : Oper} {t t' : List V} (ob : List VObj) (h : ∀ x ∈ o.op.operands.toList, ev t x = ev t' x) : vflo S o t ob = vflo S o t' ob := by
 funext K
 unfold vflo
 split
 next x ho => rw [h x (by simp [ho, Op.operands])]
 next x ho => rw [h x (by simp [ho, Op.operands])]
 next x y z ho => rw [h x (by simp [ho, Op.operands]), h y (by simp [ho, Op.operands]), h z (by simp [ho, Op.operands])]
 next T ps ho => rw [partsK_congr fun x hx => h x (by simp [ho, Op.operands] at hx ⊢; exact hx)]
 next T n ps ho => rw [partsK_congr fun x hx => h x (by simp [ho, Op.operands] at hx ⊢; exact hx)]
 next x ho => rw [h _ (by rw [ho]; simp [Op.operands])]
 next x ho => rw [h _ (by rw [ho]; simp [Op.operands])]
 next ho =>
  rename_i x y U
  rw [h x (by simp [ho, Op.operands]), h y (by simp [ho, Op.operands])]
 next ho => rw [h _ (by rw [ho]; simp [Op.operands])]
 next T x k ok ho => rw [h x (by simp [ho, Op.operands]), h k (by simp [ho, Op.operands])]
 next ho => rw [h _ (by rw [ho]; simp [Op.operands])]
 next ho => rw [h _ (by rw [ho]; simp [Op.operands])]
 next f a b ho => rw [evs_congr fun x hx => h x (by simp [ho, Op.operands]; exact .inl (by simpa using hx)), evs_congr fun x hx => h x (by simp [ho, Op.operands]; exact .inr (by simpa using hx))]
 next ho => rw [h _ (by rw [ho]; simp [Op.operands])]
 next ho => rw [h _ (by rw [ho]; simp [Op.operands])]
 next T x ix ho => rw [h x (by simp [ho, Op.operands]), h ix (by simp [ho, Op.operands])]
 next T x ix ho => rw [h x (by simp [ho, Op.operands]), h ix (by simp [ho, Op.operands])]
 next ho => rw [h _ (by rw [ho]; simp [Op.operands])]
 next ho => rw [h _ (by rw [ho]; simp [Op.operands])]
 next T x lo hi ho =>
  rw [h x (by simp [ho, Op.operands]), lowK_congr (lo := lo) fun y hy => h y (by simp [ho, Op.operands]; simp at hy; simp [hy])]
  cases hi with
  | none =>
    congr 1; funext x; congr 1; funext l
    cases x <;> try rfl
    simp only
    split <;> try rfl
    congr 1; funext z'
    cases Nat.beq _ z' <;> rfl
  | some y =>
    simp only [h y (by simp [ho, Op.operands])]
    congr 1; funext x; congr 1; funext l
    cases x <;> try rfl
    simp only
    split <;> try rfl
    congr 1; funext z'
    cases Nat.beq _ z' <;> try rfl
    simp only [h y (by simp [ho, Op.operands])]
 next T x lo hi mx ho =>
  rw [h x (by simp [ho, Op.operands]), h hi (by simp [ho, Op.operands]), h mx (by simp [ho, Op.operands]), lowK_congr (lo := lo) fun y hy => h y (by simp [ho, Op.operands]; simp at hy; simp [hy])]
 next c ho =>
  split
  next hc => rw [evs_congr fun x hx => h x (by simp [ho, Op.operands, Call.operands, hc]; simpa using hx)]
  next => rfl
 next => rfl
def masked (m : Nat -> Bool) (t : List V) : List V := t.mapIdx fun i v => if m i then .undef else v
theorem masked_get {m : Nat -> Bool} {t : List V} {i : Nat} : (masked m t)[i]? = (t[i]?).map fun v => if m i then .undef else v := by
 simp [masked, List.getElem?_mapIdx]
theorem masked_length {m : Nat -> Bool} {t : List V} : (masked m t).length = t.length := by simp [masked]
theorem getK_eq {α : Type} {K : α -> Prop} : ∀ (l : List α) (i : Nat), getK l i K = match l[i]? with | some x => K x | none => False
 | [], _ => by simp [getK]
 | x :: _, 0 => by simp [getK]
 | _ :: r, n + 1 => by simp only [getK, getK_eq r n, List.getElem?_cons_succ]
theorem ev_masked {m : Nat -> Bool} {t : List V} {x : Operand} (h : ∀ d, x = .tmp d -> m d = false) : ev (masked m t) x = ev t x := by
 funext K
 cases x with
 | tmp d =>
   simp only [ev, getK_eq, masked_get, h d rfl]
   cases t[d]? <;> rfl
 | _ => rfl
theorem masked_map {m : Nat -> Bool} {t : List V} {i : Nat} : masked m (t.map (V.strip i)) = (masked m t).map (V.strip i) := by
 apply List.ext_getElem?
 intro k
 rw [masked_get, List.getElem?_map, List.getElem?_map, masked_get]
 cases t[k]? with
 | none => rfl
 | some v =>
   simp only [Option.map_some]
   split <;> rfl
theorem masked_forget {m : Nat -> Bool} {t : List V} {ms : List Nat} : masked m (t.map (V.forget ms)) = (masked m t).map (V.forget ms) := by
 apply List.ext_getElem?
 intro k
 rw [masked_get, List.getElem?_map, List.getElem?_map, masked_get]
 cases t[k]? with
 | none => rfl
 | some v =>
   simp only [Option.map_some]
   split
   · simp [V.forget, ptrs, anyIn]
   · rfl
theorem mapK_forget_of {ms : List Nat} : ∀ {l : List V} {K : List V -> Prop}, K (l.map (V.forget ms)) -> mapK (fun v K => (V.forget ms v).force K) l K
 | [], K, h => h
 | x :: r, K, h => by
   show (V.forget ms x).force _
   rw [force_eq]; exact mapK_forget_of (l := r) h
theorem mapK_forgetO_of {ms : List Nat} : ∀ {l : List VObj} {K : List VObj -> Prop}, K (l.map (forgetO ms)) -> mapK (VObj.forgetK ms) l K
 | [], K, h => h
 | x :: r, K, h => by
   cases x with
   | cells w T cs => exact mapK_forget_of (mapK_forgetO_of (l := r) h)
   | _ => exact mapK_forgetO_of (l := r) h
theorem forgetK_of {ms : List Nat} {t : List V} {ob : List VObj} {df : List (Fn × List V × List V)} {K : List V -> List VObj -> Prop} (h1 : noneIn ms df = true) (h : K (t.map (V.forget ms)) (ob.map (forgetO ms))) : forgetK ms t ob df K := by
 unfold forgetK
 split
 · rw [show V.forget [] = id from funext forget_nil, show forgetO [] = id from funext forgetO_nil, List.map_id, List.map_id] at h; exact h
 · rw [h1]
   exact mapK_forget_of (mapK_forgetO_of h)
def maskS (m : Nat -> Bool) : St -> St
 | ⟨t, ob, nt, df⟩ => ⟨masked m t, ob, nt, df⟩
theorem det_renOP (f : Nat -> Nat) (o : VObj) : Det (renOP f o) := fun K h => by
 unfold renOP at h ⊢
 split at h
 · split at h
   · exact ⟨_, h, fun _ h => h⟩
   · exact (Det.bind (det_mapK (det_renP f) _) fun cs => .ret _) K h
 · exact ⟨_, h, fun _ h => h⟩
theorem det_mvK (o : VObj) : Det o.mvK := fun K h => by
 unfold VObj.mvK at h ⊢
 split at h
 · exact ⟨_, h, fun _ h => h⟩
 · exact ⟨_, h, fun _ h => h⟩
theorem det_orMvK (m : Bool) (o : VObj) : Det (o.orMvK m) := fun K h => by
 unfold VObj.orMvK at h ⊢
 split at h
 · exact ⟨_, h, fun _ h => h⟩
 · exact ⟨_, h, fun _ h => h⟩
 · exact ⟨_, h, fun _ h => h⟩
 · exact h.elim
theorem det_inK (o : VObj) : Det o.inK := by cases o <;> exact .ret _
theorem det_insK : ∀ l : List VObj, Det (insK l)
 | [] => .ret _
 | o :: r => show Det fun K => o.inK fun o => insK r fun r => K (o :: r) from Det.bind (det_inK o) fun o => Det.bind (det_insK r) fun r => .ret _
theorem det_movedK : ∀ (idx : List Nat) (os : List VObj), Det (movedK idx os)
 | [], os => by cases os <;> exact .ret _
 | _ :: _, [] => .ret _
 | i :: r, o :: os => fun K h => by
   refine (Det.bind (det_mvK o) fun m => ?_ : Det fun K => o.mvK fun m => match m with | true => movedK r os fun l => K (i :: l) | false => movedK r os K) K h
   cases m with
   | true => exact Det.bind (det_movedK r os) fun l => .ret _
   | false => exact det_movedK r os
theorem det_backK (f : Nat -> Nat) : ∀ (idx : List Nat) (os ob : List VObj), Det (backK f idx os ob)
 | i :: r, o :: os, ob => show Det fun K => renOP f o fun o => getK ob i fun o0 => o0.mvK fun m => o.orMvK m fun o => setK ob i o fun ob => backK f r os ob K from Det.bind (det_renOP _ _) fun o => Det.bind (det_getK _ _) fun o0 => Det.bind (det_mvK o0) fun m => Det.bind (det_orMvK m o) fun o => Det.bind (det_setK _ _ _) fun ob => det_backK f r os ob
 | [], os, ob => show Det fun K => mapK (renOP f) os fun os => K (ob ++ os) from Det.bind (det_mapK (det_renOP f) os) fun os => .ret _
 | _ :: _, [], _ => .no
theorem det_untokO (o : VObj) : Det o.untokK := by
 cases o with
 | cells w T cs => exact (Det.bind (det_mapK det_untok cs) fun cs => .ret (VObj.cells w T cs) : Det fun K => mapK V.untokK cs fun cs => K (VObj.cells w T cs))
 | _ => exact .ret _
theorem det_getsK (ob : List VObj) (f : Nat -> Nat) : ∀ idx, Det (getsK ob f idx)
 | [] => .ret _
 | i :: r => show Det fun K => getK ob i fun o => o.untokK fun o => getsK ob f r fun os => renOP f o fun o => K (o :: os) from
    Det.bind (det_getK _ _) fun o => Det.bind (det_untokO o) fun o => Det.bind (det_getsK ob f r) fun os => Det.bind (det_renOP _ _) fun o => .ret _
theorem det_strips (i : Nat) (s : St) : Det (strips i s) := by
 obtain ⟨t, ob, nt, df⟩ := s
 show Det fun K => strips i ⟨t, ob, nt, df⟩ K
 unfold strips
 refine Det.bind (det_mapK (fun v => det_force _) t) fun t => ?_
 refine Det.bind (det_mapK (fun o => ?_) ob) fun ob => .ret _
 cases o with
 | cells w T cs => exact (Det.bind (det_mapK (fun v => det_force _) cs) fun cs => .ret (VObj.cells w T cs) : Det fun K => mapK (fun v K => (V.strip i v).force K) cs fun cs => K (VObj.cells w T cs))
 | _ => exact .ret _
theorem strips_of {i : Nat} {t : List V} {ob : List VObj} {nt : Nat} {df : List (Fn × List V × List V)} {K : St -> Prop} (h : K ⟨t.map (V.strip i), ob.map (stripO i), nt, df⟩) : strips i ⟨t, ob, nt, df⟩ K := by
 obtain ⟨v, h1, h2⟩ := det_strips i ⟨t, ob, nt, df⟩ (fun s => s = ⟨t.map (V.strip i), ob.map (stripO i), nt, df⟩) (by
  have hm : ∀ l : List V, ∀ K : List V -> Prop, K (l.map (V.strip i)) -> mapK (fun v K => (V.strip i v).force K) l K := fun l => by
   induction l with
   | nil => intro K h; exact h
   | cons x r ih => intro K h; show (V.strip i x).force _; rw [force_eq]; exact ih _ h
  have ho : ∀ l : List VObj, ∀ K : List VObj -> Prop, K (l.map (stripO i)) -> mapK (fun o K => match o with
   | VObj.cells w T cs => mapK (fun v K => (V.strip i v).force K) cs fun cs => K (VObj.cells w T cs)
   | o => K o) l K := fun l => by
   induction l with
   | nil => intro K h; exact h
   | cons x r ih =>
     intro K h
     cases x with
     | cells w T cs => exact hm cs _ (ih _ h)
     | _ => exact ih _ h
  exact hm t _ (ho ob _ rfl))
 exact h2 K (h1 ▸ h)
variable (S : Sys)
theorem Det.mono {α : Type} {F : (α -> Prop) -> Prop} (hF : Det F) {K K' : α -> Prop} (hK : ∀ v, K v -> K' v) (h : F K) : F K' := by
 obtain ⟨v, h1, h2⟩ := hF K h
 exact h2 K' (hK v h1)
theorem det_optK (t : List V) (lo : Option Operand) : Det (optK t lo) := by
 cases lo with
 | none => exact .ret none
 | some y =>
   show Det fun K => optK t (some y) K
   unfold optK
   refine Det.bind (det_ev t y) fun v => ?_
   cases v <;> first | exact .no | exact .ret _
theorem up_snocK {α : Type} {l : List α} {v : α} {K K' : Nat -> List α -> Prop} (hK : ∀ n l, K n l -> K' n l) (h : snocK l v K) : snocK l v K' :=
 (det_snocK l v).mono (K := fun p => K p.1 p.2) (K' := fun p => K' p.1 p.2) (fun p h => hK _ _ h) h
section
variable {t t' : List V} {df : List (Fn × List V × List V)} {K K' : V -> St -> Prop}
theorem up_appendNew {P : Program} {e : TypeId} {m : List V} {ob : List VObj} {nt : Nat} (hK : ∀ v ob nt, K v ⟨t, ob, nt, df⟩ -> K' v ⟨t', ob, nt, df⟩) (h : appendNewK P e m ⟨t, ob, nt, df⟩ K) : appendNewK P e m ⟨t', ob, nt, df⟩ K' := by
 unfold appendNewK at h ⊢
 refine (det_szK P e).mono (fun z h => ?_) h
 split at h
 · split at h
   · obtain ⟨a, b, h⟩ := h
     exact ⟨a, b, fun sp c d => up_snocK (fun i ob h => hK _ _ _ h) (h sp c d)⟩
   · exact h.elim
 · exact h.elim
theorem up_appendBuf {P : Program} {e : TypeId} {o z lo n c : Nat} {m : List V} {ob : List VObj} {nt : Nat} (hK : ∀ v ob nt, K v ⟨t, ob, nt, df⟩ -> K' v ⟨t', ob, nt, df⟩) (h : appendBufK P e o z lo n c m ⟨t, ob, nt, df⟩ K) : appendBufK P e o z lo n c m ⟨t', ob, nt, df⟩ K' := by
 unfold appendBufK at h ⊢
 refine (det_szK P e).mono (fun z' h => ?_) h
 split at h
 · split at h
   · obtain ⟨a, b, h⟩ := h
     refine ⟨a, b, (det_getK ob o).mono (fun x h => ?_) h⟩
     split at h
     · split at h
       · cases hb : Nat.ble (n + m.length) c with
         | true =>
           rw [hb] at h
           obtain ⟨c1, h⟩ := h
           exact ⟨c1, (det_setK _ _ _).mono (fun ob h => hK _ _ _ h) h⟩
         | false =>
           rw [hb] at h
           obtain ⟨c1, h⟩ := h
           exact ⟨c1, fun sp hsp => up_snocK (fun i ob h => hK _ _ _ h) (h sp hsp)⟩
       · exact h.elim
     · exact h.elim
   · exact h.elim
 · exact h.elim
theorem up_copy {S : Sys} {ts : Array TypeId} {args : List V} {ob : List VObj} {nt : Nat} (hK : ∀ v ob nt, K v ⟨t, ob, nt, df⟩ -> K' v ⟨t', ob, nt, df⟩) (h : vcopy S ts args ⟨t, ob, nt, df⟩ K) : vcopy S ts args ⟨t', ob, nt, df⟩ K' := by
 unfold vcopy at h ⊢
 simp only at h ⊢
 split at h
 · refine (det_srcK _ _ _ _ _).mono (fun m h => ?_) h
   refine (det_szK _ _).mono (fun z' h => ?_) h
   split at h
   · obtain ⟨a, h⟩ := h
     refine ⟨a, (det_getK ob _).mono (fun x h => ?_) h⟩
     split at h
     · split at h
       · exact ⟨h.1, (det_setK _ _ _).mono (fun ob h => hK _ _ _ h) h.2⟩
       · exact h.elim
     · exact h.elim
   · exact h.elim
 · exact h.elim
theorem up_unsafeString {S : Sys} {ts : Array TypeId} {args : List V} {ob : List VObj} {nt : Nat} (hK : ∀ v ob nt, K v ⟨t, ob, nt, df⟩ -> K' v ⟨t', ob, nt, df⟩) (h : vunsafeString S ts args ⟨t, ob, nt, df⟩ K) : vunsafeString S ts args ⟨t', ob, nt, df⟩ K' := by
 unfold vunsafeString at h ⊢
 simp only at h ⊢
 split at h
 · refine (det_getK ob _).mono (fun x h => ?_) h
   split at h
   · split at h
     · obtain ⟨a, b, c, bs, d, h⟩ := h
       refine ⟨a, b, c, bs, d, ?_⟩
       generalize Nat.beq _ 0 = b0 at h ⊢
       cases b0 with
       | true => exact hK _ _ _ h
       | false => exact (det_setK _ _ _).mono (fun ob h => hK _ _ _ h) h
     · exact h.elim
   · exact h.elim
 · exact h.elim
theorem up_makeSlice {S : Sys} {T : TypeId} {len cap : V} {ob : List VObj} {nt : Nat} (hK : ∀ v ob nt, K v ⟨t, ob, nt, df⟩ -> K' v ⟨t', ob, nt, df⟩) (h : vmakeSlice S T len cap ⟨t, ob, nt, df⟩ K) : vmakeSlice S T len cap ⟨t', ob, nt, df⟩ K' := by
 unfold vmakeSlice at h ⊢
 simp only at h ⊢
 split at h
 · refine (det_szK _ _).mono (fun z' h => ?_) h
   split at h
   · split at h
     · obtain ⟨a, b, c, d, h⟩ := h
       exact ⟨a, b, c, d, up_snocK (fun i ob h => hK _ _ _ h) h⟩
     · exact h.elim
   · exact h.elim
 · exact h.elim
theorem up_mapUpdate {S : Sys} {T : TypeId} {x k v : V} {ob : List VObj} {nt : Nat} (hK : ∀ v ob nt, K v ⟨t, ob, nt, df⟩ -> K' v ⟨t', ob, nt, df⟩) (h : vmapUpdate S T x k v ⟨t, ob, nt, df⟩ K) : vmapUpdate S T x k v ⟨t', ob, nt, df⟩ K' := by
 unfold vmapUpdate at h ⊢
 simp only at h ⊢
 split at h
 · refine (det_untok _).mono (fun v h => ?_) h
   split at h
   · refine (det_getK ob _).mono (fun x h => ?_) h
     split at h
     · exact ⟨h.1, (det_setK _ _ _).mono (fun ob h => hK _ _ _ h) h.2⟩
     · exact h.elim
   · exact h.elim
 · exact h.elim
theorem up_nilSl {P : Program} {op : BinOp} {T : TypeId} {x : V} {K K' : V -> Prop} (hK : ∀ v, K v -> K' v) (h : nilSlK P op T x K) : nilSlK P op T x K' := by
 have hn : ∀ {K K' : Bool -> Prop}, (∀ b, K b -> K' b) -> nilSlK.nilB x K -> nilSlK.nilB x K' := fun {K K'} hk h => by
  unfold nilSlK.nilB at h ⊢
  split at h
  all_goals first
   | exact h.elim
   | exact fun b hb => hk _ (h b hb)
 unfold nilSlK at h ⊢
 split at h
 · exact hn (fun b h => hK _ h) h
 · exact hn (fun b h => hK _ h) h
 · exact h.elim
theorem up_buildMu {S : Sys} {T : TypeId} {n : Nat} {parts : Array (Nat × Operand)} {ob : List VObj} {K K' : V -> List VObj -> Prop} (hp : partsK t parts.toList = partsK t' parts.toList) (hK : ∀ v ob, K v ob -> K' v ob) (h : vbuildMu S T n parts t ob K) : vbuildMu S T n parts t' ob K' := by
 unfold vbuildMu at h ⊢
 rw [← hp]
 refine (det_partsK _ _).mono (fun ps h => ?_) h
 split at h
 · split at h
   · refine (det_szK _ _).mono (fun z h => ?_) h
     split at h
     · split at h
       · split at h
         · exact up_snocK (fun i ob h => hK _ _ h) h
         · exact h.elim
       · exact h.elim
     · exact h.elim
   · exact h.elim
 · exact h.elim
end
def CallMono : Prop := ∀ g args ob (K K' : Out -> List VObj -> Prop), (∀ o ob, K o ob -> K' o ob) -> S.call g args ob K -> S.call g args ob K'
theorem vop_mask (hm : CallMono S) {o : Oper} {m : Nat -> Bool} (hU : ∀ x ∈ o.op.operands.toList, ∀ d, x = .tmp d -> m d = false) {t : List V} {ob : List VObj} {nt : Nat} {df : List (Fn × List V × List V)}
 {K KP : V -> St -> Prop} (h : vop S o ⟨t, ob, nt, df⟩ K KP) : vop S o (maskS m ⟨t, ob, nt, df⟩) (fun v s' => ∃ s1, K v s1 /\ s' = maskS m s1) fun v s' => ∃ s1, KP v s1 /\ s' = maskS m s1 := by
 have hev : ∀ x ∈ o.op.operands.toList, ev (masked m t) x = ev t x := fun x hx => ev_masked (hU x hx)
 have hK : ∀ v ob nt, K v ⟨t, ob, nt, df⟩ -> ∃ s1, K v s1 /\ (⟨masked m t, ob, nt, df⟩ : St) = maskS m s1 := fun v ob nt h => ⟨_, h, rfl⟩
 have hflo : ∀ {K0 : V -> St -> Prop}, (vflo S o t ob fun v => K0 v ⟨t, ob, nt, df⟩) -> vflo S o (masked m t) ob fun v => (fun v s' => ∃ s1, K0 v s1 /\ s' = maskS m s1) v ⟨masked m t, ob, nt, df⟩ := fun {K0} h => by
  rw [vflo_congr S ob hev]
  obtain ⟨v, h1, h2⟩ := det_vflo S o t ob _ h
  exact h2 _ ⟨_, h1, rfl⟩
 show vop S o ⟨masked m t, ob, nt, df⟩ _ _
 unfold vop at h ⊢
 simp only at h ⊢
 split at h
 next T ho =>
  obtain ⟨z, h1, h2⟩ := det_zeroV _ _ _ h
  refine h2 _ ?_
  split at h1
  next hc =>
   split at h1
   next hd =>
    obtain ⟨p, h3, h4⟩ := det_snocK _ _ (fun p => K (.ptr p.1 0) ⟨t, p.2, nt, df⟩) h1
    exact h4 (fun p => ∃ s1, K (.ptr p.1 0) s1 /\ (⟨masked m t, p.2, nt, df⟩ : St) = maskS m s1) ⟨_, h3, rfl⟩
   next hd =>
    obtain ⟨p, h3, h4⟩ := det_snocK _ _ (fun p => K (.ptr p.1 0) ⟨t, p.2, nt, df⟩) h1
    exact h4 (fun p => ∃ s1, K (.ptr p.1 0) s1 /\ (⟨masked m t, p.2, nt, df⟩ : St) = maskS m s1) ⟨_, h3, rfl⟩
  next => exact h1.elim
 next T x ho =>
  rw [hev x (by simp [ho, Op.operands])]
  obtain ⟨v, h1, h2⟩ := det_ev _ _ _ h
  refine h2 _ ?_
  obtain ⟨v', h1, h3⟩ := det_untok _ _ h1
  refine h3 _ ?_
  split at h1
  next hc =>
   obtain ⟨p, h3, h4⟩ := det_snocK _ _ (fun p => K (.ptr p.1 0) ⟨t, p.2, nt, df⟩) h1
   exact h4 (fun p => ∃ s1, K (.ptr p.1 0) s1 /\ (⟨masked m t, p.2, nt, df⟩ : St) = maskS m s1) ⟨_, h3, rfl⟩
  next => exact h1.elim
 next T x y ho =>
  rw [hev x (by simp [ho, Op.operands]), hev y (by simp [ho, Op.operands])]
  obtain ⟨p, h1, h2⟩ := det_ev _ _ _ h
  refine h2 _ ?_
  obtain ⟨v, h1, h3⟩ := det_ev _ _ _ h1
  refine h3 _ ?_
  obtain ⟨v, h1, h4⟩ := det_force _ _ h1
  refine h4 _ ?_
  split at h1
  next i off =>
   obtain ⟨x1, h1, h5⟩ := det_getK _ _ _ h1
   refine h5 _ ?_
   split at h1
   next U cs =>
    split at h1
    next hc =>
     obtain ⟨cs', h1, h6⟩ := det_spliceK _ _ _ _ h1
     refine h6 _ ?_
     obtain ⟨ob', h1, h7⟩ := det_setK _ _ _ _ h1
     exact h7 _ ⟨_, h1, rfl⟩
    next => exact h1.elim
   next => exact h1.elim
  next o z i off =>
   refine (det_untok _).mono (fun v h => ?_) h1
   refine (det_getK ob _).mono (fun x1 h => ?_) h
   split at h
   next =>
    split at h
    next =>
     obtain ⟨y, hy, h⟩ := h
     exact ⟨y, hy, (det_spliceK _ _ _).mono (fun cs h => (det_setK _ _ _).mono (fun ob h => hK _ _ _ h) h) h⟩
    next => exact h.elim
   next => exact h.elim
  next => exact h1.elim
 next T len cap ho =>
  rw [hev len (by simp [ho, Op.operands]), hev cap (by simp [ho, Op.operands])]
  refine (det_ev _ _).mono (fun x h => ?_) h
  refine (det_ev _ _).mono (fun y h => ?_) h
  exact up_makeSlice hK h
 next T ho =>
  split at h
  next => exact up_snocK (fun i ob h => hK _ _ _ h) h
  next => exact h.elim
 next T x k v ho =>
  rw [hev x (by simp [ho, Op.operands]), hev k (by simp [ho, Op.operands]), hev v (by simp [ho, Op.operands])]
  refine (det_ev _ _).mono (fun x h => ?_) h
  refine (det_ev _ _).mono (fun y h => ?_) h
  refine (det_ev _ _).mono (fun z h => ?_) h
  exact up_mapUpdate hK h
 next op T x y U ho =>
  split at h
  next hy =>
   rw [hev x (by simp [ho, Op.operands])]
   exact (det_ev _ _).mono (fun x h => up_nilSl (fun v h => hK _ _ _ h) h) h
  next => exact hflo h
 next T n parts ho =>
  split at h
  next => exact up_buildMu (partsK_congr fun x hx => (hev x (by simp [ho, Op.operands] at hx ⊢; exact hx)).symm) (fun v ob h => hK _ _ _ h) h
  next => exact hflo h
 next T x lo hi mx ho =>
  rw [hev x (by simp [ho, Op.operands])]
  obtain ⟨p, h1, h2⟩ := det_ev _ _ _ h
  refine h2 _ ?_
  have hlo : optK (masked m t) lo = optK t lo := optK_congr fun y hy => hev y (by simp [ho, Op.operands]; simp at hy; simp [hy])
  have hhi : optK (masked m t) hi = optK t hi := optK_congr fun y hy => hev y (by simp [ho, Op.operands]; simp at hy; simp [hy])
  split at h1
  · cases hu : S.P.underlying T with
    | none => simp only [hu] at h1
    | some d =>
      cases d <;> simp only [hu] at h1 ⊢
      cases mx with
      | some _ => exact h1.elim
      | none =>
        refine (det_getK ob _).mono (fun x1 h => ?_) h1
        cases x1 with
        | cells wr U cs =>
          simp only at h ⊢
          split at h
          next hc => exact (det_setK _ _ _).mono (fun ob h => hK _ _ _ h) h
          next => exact h.elim
        | buf mv z l =>
          simp only [hlo, hhi] at h ⊢
          refine (det_szK _ _).mono (fun z' h => ?_) h
          refine (det_optK _ _).mono (fun l1 h => ?_) h
          refine (det_optK _ _).mono (fun h1 h => ?_) h
          split at h
          next => exact hK _ _ _ h
          next => exact ⟨h.1, h.2.1, hK _ _ _ h.2.2⟩
          next => exact ⟨h.1, h.2.1, hK _ _ _ h.2.2⟩
          next => exact ⟨h.1, h.2.1, h.2.2.1, hK _ _ _ h.2.2.2⟩
          next => exact h.elim
        | _ => exact h.elim
  · cases hu : S.P.underlying T with
    | none => simp only [hu] at h1
    | some d =>
      cases d <;> simp only [hu] at h1 ⊢
      cases hi with
      | none => exact h1.elim
      | some hi =>
        cases lo with
        | some _ => exact h1.elim
        | none =>
          cases mx with
          | some _ => exact h1.elim
          | none =>
            refine (det_getK ob _).mono (fun x1 h => ?_) h1
            cases x1 with
            | cells wr U cs =>
              simp only [hhi] at h ⊢
              refine (det_szK _ _).mono (fun z' h => ?_) h
              refine (det_optK _ _).mono (fun h1 h => ?_) h
              split at h
              next => exact ⟨h.1, h.2.1, hK _ _ _ h.2.2⟩
              next => exact h.elim
            | _ => exact h.elim
  · exact hflo h1
 next c ho =>
  split at h
  next f hc =>
   rw [hev f (by simp [ho, Op.operands, Call.operands, hc]), evs_congr fun x hx => hev x (by simp [ho, Op.operands, Call.operands, hc]; exact .inr (by simpa using hx))]
   obtain ⟨f, h1, h2⟩ := det_ev _ _ _ h
   refine h2 _ ?_
   obtain ⟨args, h1, h3⟩ := det_evs _ _ _ h1
   refine h3 _ ?_
   clear h2 h3
   cases f with
   | fn f first cap =>
     cases f with
     | func g =>
       simp only [vcall] at h1 ⊢
       obtain ⟨as1, h1, h4⟩ := det_mapK det_untok _ _ h1
       refine h4 _ ?_
       obtain ⟨idx, h1, h8⟩ := det_listK _ _ h1
       refine h8 _ ?_
       split at h1
       next => exact h1.elim
       next hck =>
        obtain ⟨sub, h1, h5⟩ := det_getsK _ _ _ _ h1
        refine h5 _ ?_
        obtain ⟨sub, h1, h10⟩ := det_insK _ _ h1
        refine h10 _ ?_
        obtain ⟨as1, h1, h9⟩ := det_mapK (det_renP _) _ _ h1
        refine h9 _ ?_
        refine hm _ _ _ _ _ (fun out sub' hk => ?_) h1
        obtain ⟨ms, h1, h11⟩ := det_movedK _ _ _ hk
        refine h11 _ ?_
        obtain ⟨hd, h1⟩ := forgetK_iff h1
        refine forgetK_of hd ?_
        obtain ⟨ob', h1, h6⟩ := det_backK _ _ _ _ _ h1
        refine h6 _ ?_
        cases out with
        | ret v =>
          obtain ⟨v', h1, h7⟩ := det_renP _ _ _ h1
          exact h7 _ ⟨_, h1, by simp only [maskS, masked_forget]⟩
        | pan v =>
          obtain ⟨v', h1, h7⟩ := det_renP _ _ _ h1
          exact h7 _ ⟨_, h1, by simp only [maskS, masked_forget]⟩
     | _ => exact h1.elim
   | _ => exact h1.elim
  next hc =>
   rw [evs_congr fun x hx => hev x (by simp [ho, Op.operands, Call.operands, hc]; simpa using hx)]
   obtain ⟨args, h1, h3⟩ := det_evs _ _ _ h
   refine h3 _ ?_
   have happ : ∀ {e : TypeId} {l : List V} {r : Room} {u : List V}, appendK S.P e l r u ⟨t, ob, nt, df⟩ K -> appendK S.P e l r u ⟨masked m t, ob, nt, df⟩ fun v s' => ∃ s1, K v s1 /\ s' = maskS m s1 := fun {e l r u} h => by
    unfold appendK at h ⊢
    obtain ⟨z, h1, h2⟩ := det_szK _ _ _ h
    refine h2 _ ?_
    split at h1
    next =>
     split at h1
     next hz =>
      obtain ⟨a1, a2, h1⟩ := h1
      refine ⟨a1, a2, ?_⟩
      cases r with
      | no => exact h1
      | ex => exact ⟨h1.1, _, h1.2, rfl⟩
      | tok i sz =>
        simp only at h1 ⊢
        split at h1
        next =>
         refine strips_of ?_
         have := strips_iff h1
         exact ⟨_, this, by simp only [maskS, masked_map]⟩
        next => exact h1.elim
     next => exact h1.elim
    next => exact h1.elim
   unfold vappend at h1 ⊢
   split at h1
   · split at h1
     · refine (det_srcK _ _ _ _ _).mono (fun u h => ?_) h1
       split at h
       · split at h
         · exact up_appendNew hK h
         · exact happ h
       · exact up_appendBuf hK h
       · exact h.elim
     · split at h1
       · split at h1
         · exact ⟨h1.1, h1.2.1, up_appendBuf hK h1.2.2⟩
         · exact h1.elim
       · exact h1.elim
   · exact h1.elim
  next hc =>
   rw [evs_congr fun x hx => hev x (by simp [ho, Op.operands, Call.operands, hc]; simpa using hx)]
   exact (det_evs _ _).mono (fun args h => up_copy hK h) h
  next hc =>
   rw [evs_congr fun x hx => hev x (by simp [ho, Op.operands, Call.operands, hc]; simpa using hx)]
   exact (det_evs _ _).mono (fun args h => up_unsafeString hK h) h
  next => exact hflo h
  next => exact h.elim
 next c ho =>
  split at h
  next f hc =>
   rw [hev f (by simp [ho, Op.operands, Call.operands, hc]), evs_congr fun x hx => hev x (by simp [ho, Op.operands, Call.operands, hc]; exact .inr (by simpa using hx))]
   obtain ⟨f, h1, h2⟩ := det_ev _ _ _ h
   refine h2 _ ?_
   obtain ⟨args, h1, h3⟩ := det_evs _ _ _ h1
   refine h3 _ ?_
   split at h1
   next =>
    obtain ⟨a, h1, h4⟩ := det_mapK det_untok _ _ h1
    refine h4 _ ?_
    obtain ⟨b, h1, h5⟩ := det_mapK det_untok _ _ h1
    exact h5 _ ⟨_, h1, rfl⟩
   next => exact h1.elim
  next => exact h.elim
 next x ho =>
  rw [hev x (by simp [ho, Op.operands])]
  refine (det_ev _ _).mono (fun v h => ?_) h
  split at h
  next => exact ⟨_, h, rfl⟩
  next => exact h.elim
 next => exact hflo h
end VL

namespace VL
open Go
section
variable {k : Nat} {t : List V} {ob : List VObj} {nt : Nat} {df : List (Fn × List V × List V)}
theorem getK_hide {i : Nat} {K : VObj -> Prop} (hi : i ≠ k) (h : getK ob i K) : getK (ob.set k .none) i K := by
 rw [getK_eq] at h ⊢
 rw [List.getElem?_set_ne (Ne.symm hi)]; exact h
theorem setK_of {x : VObj} : ∀ {l : List VObj} {i : Nat}, i < l.length -> setK l i x fun l' => l' = l.set i x
 | [], i, h => by simp at h
 | y :: r, 0, h => rfl
 | y :: r, i + 1, h => by
   show setK r i x fun r' => y :: r' = (y :: r).set (i + 1) x
   obtain ⟨l, h1, h2⟩ := det_setK r i x _ (setK_of (l := r) (i := i) (by simpa using h))
   exact h2 _ (by rw [h1]; rfl)
theorem setK_hide {i : Nat} {x : VObj} {K K' : List VObj -> Prop} (hi : i ≠ k) (hK : ∀ l, K l -> K' (l.set k .none)) (h : setK ob i x K) : setK (ob.set k .none) i x K' := by
 obtain ⟨hlt, h⟩ := setK_iff h
 obtain ⟨l, h1, h2⟩ := det_setK (ob.set k .none) i x (fun l => l = (ob.set k .none).set i x) (setK_of (by simpa using hlt))
 refine h2 _ ?_
 rw [h1, List.set_comm _ _ (Ne.symm hi)]
 exact hK _ h
theorem snocK_of {α : Type} : ∀ {l : List α} {v : α} {K : Nat -> List α -> Prop}, K l.length (l ++ [v]) -> snocK l v K
 | [], v, K, h => h
 | x :: r, v, K, h => by
   show snocK r v fun n l => K (n + 1) (x :: l)
   exact snocK_of (l := r) (by simpa using h)
theorem snocK_hide {x : VObj} {K K' : Nat -> List VObj -> Prop} (hk : k < ob.length) (hK : ∀ n l, K n l -> K' n (l.set k .none)) (h : snocK ob x K) : snocK (ob.set k .none) x K' := by
 have h := hK _ _ (snocK_iff h)
 refine snocK_of ?_
 rw [List.length_set]
 rwa [List.set_append_left _ _ hk] at h
theorem ofConst_ptrs0 (c : Value) : ptrs (ofConst c) = [] := by
 unfold ofConst
 split <;> rfl
theorem ofConst_ptrs (c : Value) : ptrs (ofConstAgg c) = [] := by
 have h1 : ∀ c, ptrs (ofConst c) = [] := fun c => by
  unfold ofConst
  split <;> rfl
 unfold ofConstAgg
 split
 · rename_i cs
   simp only [ptrs]
   generalize cs.toList = l
   induction l with
   | nil => rfl
   | cons x r ih => simp [ptrsL, h1, ih]
 · exact h1 _
def Clean (k : Nat) (t : List V) : Prop := ∀ v ∈ t, k ∉ ptrs v
theorem ev_clean (ht : Clean k t) {x : Operand} {K : V -> Prop} (h : ev t x K) : ∃ v, k ∉ ptrs v /\ K v /\ ∀ K' : V -> Prop, K' v -> ev t x K' := by
 obtain ⟨v, h1, h2⟩ := det_ev t x (fun v => k ∉ ptrs v /\ K v) (by
  cases x with
  | tmp i =>
    obtain ⟨v, h1, h2⟩ := getK_iff h
    exact (by rw [ev, getK_eq, h1]; exact ⟨ht v (List.mem_of_getElem? h1), h2⟩)
  | const c =>
    show (ofConstAgg c).force _
    have h : (ofConstAgg c).force _ := h
    rw [force_eq] at h ⊢
    exact ⟨by rw [ofConst_ptrs]; simp, h⟩
  | func f => exact ⟨by simp [ptrs, ptrsL], h⟩
  | global g =>
    have h : match glob g with
     | some l => K (V.dp (l.map ofConst))
     | none => False := h
    show match glob g with
     | some l => k ∉ ptrs (V.dp (l.map ofConst)) /\ K (V.dp (l.map ofConst))
     | none => False
    revert h
    generalize glob g = q
    cases q with
    | some l =>
      intro h
      refine ⟨fun hk => ?_, h⟩
      have : ∀ l : List Value, ptrsL (l.map ofConst) = [] := fun l => by
       induction l with
       | nil => rfl
       | cons a r ih => simp [ptrsL, ofConst_ptrs0, ih]
      rw [show ptrs (V.dp (l.map ofConst)) = ptrsL (l.map ofConst) from rfl, this] at hk
      cases hk
    | none => exact fun h => h)
 exact ⟨v, h1.1, h1.2, h2⟩
theorem vflo_obs (S : Sys) {o : Oper} (ht : Clean k t) {K : V -> Prop} (h : vflo S o t ob K) : vflo S o t (ob.set k .none) K := by
 unfold vflo at h ⊢
 split at h
 case h_6 =>
  obtain ⟨v, hv, h, h2⟩ := ev_clean ht h
  refine h2 _ ?_
  split at h
  · rename_i i off
    exact getK_hide (by simpa [ptrs, eq_comm] using hv) h
  · exact h
  · rename_i o1 z i off
    exact getK_hide (by simpa [ptrs, eq_comm] using hv) h
  · exact h
 case h_10 =>
  obtain ⟨v, hv, h, h2⟩ := ev_clean ht h
  refine h2 _ ?_
  obtain ⟨u, hu, h, h3⟩ := ev_clean ht h
  refine h3 _ ?_
  unfold lookupK at h ⊢
  split at h
  · split at h
    · cases v <;> try exact h
      exact getK_hide (by simpa [ptrs, eq_comm] using hv) h
    · exact h
  · exact h
 case h_11 =>
  obtain ⟨v, hv, h, h2⟩ := ev_clean ht h
  refine h2 _ ?_
  split at h
  · split at h
    · split at h
      · exact getK_hide (by simpa [ptrs, eq_comm] using hv) h
      · exact h
    · exact h
  · exact getK_hide (by simpa [ptrs, eq_comm] using hv) h
  · exact h
 case h_16 =>
  obtain ⟨v, hv, h, h2⟩ := ev_clean ht h
  refine h2 _ ?_
  obtain ⟨u, hu, h, h3⟩ := ev_clean ht h
  refine h3 _ ?_
  split at h
  · split at h
    · rename_i e j off _
      exact (det_szK S.P _).mono (fun z h => ⟨h.1, h.2.1, getK_hide (by simpa [ptrs, eq_comm] using hv) h.2.2⟩) h
    all_goals exact h
  · exact h
 all_goals exact h
def hideS (k : Nat) : St -> St
 | ⟨t, ob, nt, df⟩ => ⟨t, ob.set k .none, nt, df⟩
theorem reach_hide (hob : ∀ (j : Nat) x, j ≠ k -> ob[j]? = some x -> k ∉ ptrsO x) : ∀ (n : Nat) (todo acc : List Nat), k ∉ todo -> k ∉ acc -> reach (ob.set k .none) n todo acc = reach ob n todo acc /\ k ∉ reach ob n todo acc
 | 0, todo, acc, _, h => by cases todo <;> exact ⟨rfl, h⟩
 | n + 1, [], acc, _, h => ⟨rfl, h⟩
 | n + 1, i :: r, acc, ht, ha => by
   have hik : i ≠ k := fun e => ht (by simp [e])
   have hr : k ∉ r := fun h => ht (by simp [h])
   unfold reach
   cases memN i acc with
   | true => exact reach_hide hob n r acc hr ha
   | false =>
     simp only
     rw [List.getElem?_set_ne (Ne.symm hik)]
     refine reach_hide hob n _ _ (fun h => ?_) (fun h => ?_)
     · rcases List.mem_append.1 h with h | h
       · exact hr h
       · cases hi : ob[i]? with
         | none => rw [hi] at h; simp at h
         | some x => rw [hi] at h; exact hob i x hik hi (by simpa using h)
     · rcases List.mem_append.1 h with h | h
       · exact ha h
       · simp at h; exact hik h.symm
theorem shut_hide {idx : List Nat} : ∀ {l : List Nat}, k ∉ l -> shutN (ob.set k .none) idx l = shutN ob idx l
 | [], _ => rfl
 | i :: r, h => by
   have hik : i ≠ k := fun e => h (by simp [e])
   unfold shutN
   rw [List.getElem?_set_ne (Ne.symm hik), shut_hide fun hr => h (by simp [hr])]
theorem gets_hide {f : Nat -> Nat} : ∀ {idx : List Nat} {K : List VObj -> Prop}, k ∉ idx -> getsK ob f idx K -> getsK (ob.set k .none) f idx K
 | [], K, _, h => h
 | i :: r, K, hk, h => by
   have hik : i ≠ k := fun e => hk (by simp [e])
   exact getK_hide hik (by
    refine (det_getK ob i).mono (fun o h => ?_) h
    refine (det_untokO o).mono (fun o h => ?_) h
    exact gets_hide (fun hr => hk (by simp [hr])) h)
theorem back_hide {f : Nat -> Nat} : ∀ {idx : List Nat} {os ob : List VObj} {K K' : List VObj -> Prop}, k < ob.length -> k ∉ idx -> (∀ l, K l -> K' (l.set k .none)) -> backK f idx os ob K -> backK f idx os (ob.set k .none) K'
 | [], os, ob, K, K', hl, hk, hK, h => by
   have h : mapK (renOP f) os fun os => K (ob ++ os) := h
   show mapK (renOP f) os fun os => K' (ob.set k .none ++ os)
   refine (det_mapK (det_renOP f) os).mono (fun os h => ?_) h
   have := hK _ h
   rwa [List.set_append_left _ _ hl] at this
 | i :: r, o :: os, ob, K, K', hl, hk, hK, h => by
   have hik : i ≠ k := fun e => hk (by simp [e])
   have h : renOP f o fun o => getK ob i fun o0 => o0.mvK fun m => o.orMvK m fun o => setK ob i o fun ob => backK f r os ob K := h
   show renOP f o fun o => getK (ob.set k .none) i fun o0 => o0.mvK fun m => o.orMvK m fun o => setK (ob.set k .none) i o fun ob => backK f r os ob K'
   refine (det_renOP f o).mono (fun o h => ?_) h
   refine getK_hide hik ?_
   refine (det_getK ob i).mono (fun o0 h => ?_) h
   refine (det_mvK o0).mono (fun m h => ?_) h
   refine (det_orMvK m o).mono (fun o h => ?_) h
   obtain ⟨hlt, h⟩ := setK_iff h
   have h2 : setK ob i o fun l => l = ob.set i o := by
    obtain ⟨l, h1, h2⟩ := det_setK ob i o (fun l => l = ob.set i o) (by
     have := setK_of (l := ob) (x := o) hlt
     exact this)
    exact h2 _ h1
   exact setK_hide (K := fun l => l = ob.set i o) hik (fun l hl' => by
    subst hl'
    exact back_hide (by simpa using hl) (fun hr => hk (by simp [hr])) hK h) h2
 | _ :: _, [], _, _, _, _, _, _, h => h.elim
theorem map_hide {f : VObj -> VObj} (hf : f .none = .none) : (ob.set k .none).map f = (ob.map f).set k .none := by
 rw [List.map_set, hf]
theorem untok_ptrs {v : V} (h : k ∉ ptrs v) : k ∉ ptrs v.untok := by
 unfold V.untok
 split
 · simp [ptrs]
 · exact h
theorem evs_clean (ht : Clean k t) : ∀ {l : List Operand} {K : List V -> Prop}, evs t l K -> ∃ vs, (∀ v ∈ vs, k ∉ ptrs v) /\ K vs /\ ∀ K' : List V -> Prop, K' vs -> evs t l K'
 | [], K, h => ⟨[], by simp, h, fun _ h => h⟩
 | x :: r, K, h => by
   obtain ⟨v, h1, h2, h3⟩ := ev_clean ht h
   obtain ⟨vs, h4, h5, h6⟩ := evs_clean ht h2
   refine ⟨v :: vs, fun u hu => ?_, h5, fun K' h => h3 _ (h6 _ h)⟩
   cases hu with
   | head => exact h1
   | tail _ hu => exact h4 u hu
theorem ptrsL_clean : ∀ {l : List V}, (∀ v ∈ l, k ∉ ptrs v) -> k ∉ ptrsL l
 | [], _ => by simp [ptrsL]
 | x :: r, h => by
   simp only [ptrsL, List.mem_append, not_or]
   exact ⟨h x (by simp), ptrsL_clean fun v hv => h v (by simp [hv])⟩
theorem of_ptrsL {l : List V} (h : k ∉ ptrsL l) : ∀ v ∈ l, k ∉ ptrs v := fun v hv hk => by
 obtain ⟨i, hi⟩ := List.mem_iff_getElem?.1 hv
 exact h (ptrsL_get hi hk)
theorem src_hide {P : Program} {e : TypeId} {ts : Array TypeId} {v : V} {K : List V -> Prop} (hv : k ∉ ptrs v) (h : srcK P e ts ob v K) : srcK P e ts (ob.set k .none) v K := by
 unfold srcK at h ⊢
 split at h
 · exact h
 · exact h
 · exact h
 · exact getK_hide (by simpa [ptrs, eq_comm] using hv) h
 · exact h
theorem appendNew_hide {P : Program} {e : TypeId} {m : List V} {K K' : V -> St -> Prop} (hk : k < ob.length) (hK : ∀ v t ob nt df, K v ⟨t, ob, nt, df⟩ -> K' v ⟨t, ob.set k .none, nt, df⟩) (h : appendNewK P e m ⟨t, ob, nt, df⟩ K) : appendNewK P e m ⟨t, ob.set k .none, nt, df⟩ K' := by
 unfold appendNewK at h ⊢
 refine (det_szK P e).mono (fun z h => ?_) h
 split at h
 · split at h
   · obtain ⟨a, b, h⟩ := h
     exact ⟨a, b, fun sp c d => snocK_hide hk (fun i l h => hK _ _ _ _ _ h) (h sp c d)⟩
   · exact h.elim
 · exact h.elim
theorem append_hide {P : Program} {e : TypeId} {l : List V} {r : Room} {m : List V} {K K' : V -> St -> Prop} (hK : ∀ v t ob nt df, K v ⟨t, ob, nt, df⟩ -> K' v ⟨t, ob.set k .none, nt, df⟩) (h : appendK P e l r m ⟨t, ob, nt, df⟩ K) : appendK P e l r m ⟨t, ob.set k .none, nt, df⟩ K' := by
 unfold appendK at h ⊢
 refine (det_szK P e).mono (fun z h => ?_) h
 split at h
 · split at h
   · obtain ⟨a, b, h⟩ := h
     refine ⟨a, b, ?_⟩
     cases r with
     | no => exact h
     | ex => exact ⟨h.1, hK _ _ _ _ _ h.2⟩
     | tok i sz =>
       simp only at h ⊢
       split at h
       · refine strips_of ?_
         have := strips_iff h
         rw [map_hide rfl]
         exact hK _ _ _ _ _ this
       · exact h.elim
   · exact h.elim
 · exact h.elim
theorem appendBuf_hide {P : Program} {e : TypeId} {o z lo n c : Nat} {m : List V} {K K' : V -> St -> Prop} (hk : k < ob.length) (ho : o ≠ k) (hK : ∀ v t ob nt df, K v ⟨t, ob, nt, df⟩ -> K' v ⟨t, ob.set k .none, nt, df⟩) (h : appendBufK P e o z lo n c m ⟨t, ob, nt, df⟩ K) : appendBufK P e o z lo n c m ⟨t, ob.set k .none, nt, df⟩ K' := by
 unfold appendBufK at h ⊢
 refine (det_szK P e).mono (fun z' h => ?_) h
 split at h
 · split at h
   · obtain ⟨a, b, h⟩ := h
     refine ⟨a, b, getK_hide ho ?_⟩
     refine (det_getK ob o).mono (fun x h => ?_) h
     split at h
     · split at h
       · cases hb : Nat.ble (n + m.length) c with
         | true =>
           rw [hb] at h
           obtain ⟨c1, h⟩ := h
           exact ⟨c1, setK_hide ho (fun l h => hK _ _ _ _ _ h) h⟩
         | false =>
           rw [hb] at h
           obtain ⟨c1, h⟩ := h
           exact ⟨c1, fun sp hsp => snocK_hide hk (fun i l h => hK _ _ _ _ _ h) (h sp hsp)⟩
       · exact h.elim
     · exact h.elim
   · exact h.elim
 · exact h.elim
theorem vop_obs (S : Sys) (hm : CallMono S) (hk : k < ob.length) (ht : Clean k t) (hob : ∀ (j : Nat) x, j ≠ k -> ob[j]? = some x -> k ∉ ptrsO x) {o : Oper} {K K' : V -> St -> Prop} (hKK : ∀ v s, K v s -> K' v (hideS k s)) (h : vop S o ⟨t, ob, nt, df⟩ K fun _ _ => False) :
 vop S o ⟨t, ob.set k .none, nt, df⟩ K' fun _ _ => False := by
 have hK : ∀ v t ob nt df, K v ⟨t, ob, nt, df⟩ -> K' v ⟨t, ob.set k .none, nt, df⟩ := fun v t ob nt df h => hKK v _ h
 have hflo : (vflo S o t ob fun v => K v ⟨t, ob, nt, df⟩) -> vflo S o t (ob.set k .none) fun v => K' v ⟨t, ob.set k .none, nt, df⟩ := fun h => by
  have h := vflo_obs S ht h
  exact (det_vflo S o t _).mono (fun v h => hK _ _ _ _ _ h) h
 have hne : ∀ {i : Nat} {v : V}, k ∉ ptrs v -> i ∈ ptrs v -> i ≠ k := fun hv hi e => hv (e ▸ hi)
 unfold vop at h ⊢
 simp only at h ⊢
 split at h
 next T ho =>
  refine (det_zeroV _ _).mono (fun z h => ?_) h
  split at h
  next =>
   split at h
   next => exact snocK_hide hk (fun n l h => hK _ _ _ _ _ h) h
   next => exact snocK_hide hk (fun n l h => hK _ _ _ _ _ h) h
  next => exact h.elim
 next T x ho =>
  refine (det_ev _ _).mono (fun v h => ?_) h
  refine (det_untok _).mono (fun v h => ?_) h
  split at h
  next => exact snocK_hide hk (fun n l h => hK _ _ _ _ _ h) h
  next => exact h.elim
 next T x y ho =>
  obtain ⟨p, hp, h', h2⟩ := ev_clean ht h
  clear h
  refine h2 _ ?_
  clear h2
  refine (det_ev _ _).mono (fun v h3 => ?_) h'
  clear h'
  refine (det_force _).mono (fun v h4 => ?_) h3
  clear h3
  split at h4
  next i off =>
   have hik := hne (i := i) hp (by simp [ptrs])
   refine getK_hide hik ?_
   refine (det_getK ob _).mono (fun x1 h => ?_) h4
   split at h
   next =>
    split at h
    next => exact (det_spliceK _ _ _).mono (fun cs h => setK_hide hik (fun l h => hK _ _ _ _ _ h) h) h
    next => exact h.elim
   next => exact h.elim
  next o1 z i off =>
   have hik := hne (i := o1) hp (by simp [ptrs])
   refine (det_untok _).mono (fun v h5 => ?_) h4
   refine getK_hide hik ?_
   refine (det_getK ob _).mono (fun x1 h => ?_) h5
   split at h
   next =>
    split at h
    next =>
     obtain ⟨y, hy, h⟩ := h
     exact ⟨y, hy, (det_spliceK _ _ _).mono (fun cs h => setK_hide hik (fun l h => hK _ _ _ _ _ h) h) h⟩
    next => exact h.elim
   next => exact h.elim
  next => exact h4.elim
 next T len cap ho =>
  refine (det_ev _ _).mono (fun x h1 => ?_) h
  refine (det_ev _ _).mono (fun y h2 => ?_) h1
  unfold vmakeSlice at h2 ⊢
  simp only at h2 ⊢
  split at h2
  · refine (det_szK _ _).mono (fun z' h => ?_) h2
    split at h
    · split at h
      · obtain ⟨a, b, c, d, h⟩ := h
        exact ⟨a, b, c, d, snocK_hide hk (fun i l h => hK _ _ _ _ _ h) h⟩
      · exact h.elim
    · exact h.elim
  · exact h2.elim
 next T ho =>
  split at h
  next => exact snocK_hide hk (fun n l h => hK _ _ _ _ _ h) h
  next => exact h.elim
 next T x k1 v ho =>
  obtain ⟨p, hp, h1, h2⟩ := ev_clean ht h
  refine h2 _ ?_
  clear h h2
  refine (det_ev _ _).mono (fun y h3 => ?_) h1
  refine (det_ev _ _).mono (fun z h4 => ?_) h3
  unfold vmapUpdate at h4 ⊢
  simp only at h4 ⊢
  split at h4
  · rename_i o1 _
    have hik := hne (i := o1) hp (by simp [ptrs])
    refine (det_untok _).mono (fun v h => ?_) h4
    split at h
    · refine getK_hide hik ?_
      refine (det_getK ob _).mono (fun x h => ?_) h
      split at h
      · exact ⟨h.1, setK_hide hik (fun l h => hK _ _ _ _ _ h) h.2⟩
      · exact h.elim
    · exact h.elim
  · exact h4.elim
 next op T x y U ho =>
  split at h
  next hy => exact (det_ev _ _).mono (fun x h => up_nilSl (fun v h => hK _ _ _ _ _ h) h) h
  next => exact hflo h
 next T n parts ho =>
  split at h
  next =>
   unfold vbuildMu at h ⊢
   refine (det_partsK _ _).mono (fun ps h => ?_) h
   split at h
   · split at h
     · refine (det_szK _ _).mono (fun z h => ?_) h
       split at h
       · split at h
         · split at h
           · exact snocK_hide hk (fun i l h => hK _ _ _ _ _ h) h
           · exact h.elim
         · exact h.elim
       · exact h.elim
     · exact h.elim
   · exact h.elim
  next => exact hflo h
 next T x lo hi mx ho =>
  obtain ⟨p, hp, h1, h2⟩ := ev_clean ht h
  refine h2 _ ?_
  clear h h2
  split at h1
  · rename_i i
    have hik := hne (i := i) hp (by simp [ptrs])
    cases hu : S.P.underlying T with
    | none => simp only [hu] at h1
    | some d =>
      cases d <;> simp only [hu] at h1 ⊢
      cases mx with
      | some _ => exact h1.elim
      | none =>
        refine getK_hide hik ?_
        refine (det_getK ob _).mono (fun x1 h => ?_) h1
        cases x1 with
        | cells wr U cs =>
          simp only at h ⊢
          split at h
          next hc => exact setK_hide hik (fun l h => hK _ _ _ _ _ h) h
          next => exact h.elim
        | buf mv z l =>
          simp only at h ⊢
          refine (det_szK _ _).mono (fun z' h => ?_) h
          refine (det_optK _ _).mono (fun l1 h => ?_) h
          refine (det_optK _ _).mono (fun h1 h => ?_) h
          split at h
          next => exact hK _ _ _ _ _ h
          next => exact ⟨h.1, h.2.1, hK _ _ _ _ _ h.2.2⟩
          next => exact ⟨h.1, h.2.1, hK _ _ _ _ _ h.2.2⟩
          next => exact ⟨h.1, h.2.1, h.2.2.1, hK _ _ _ _ _ h.2.2.2⟩
          next => exact h.elim
        | _ => exact h.elim
  · rename_i i off
    have hik := hne (i := i) hp (by simp [ptrs])
    cases hu : S.P.underlying T with
    | none => simp only [hu] at h1
    | some d =>
      cases d <;> simp only [hu] at h1 ⊢
      cases hi with
      | none => exact h1.elim
      | some hi =>
        cases lo with
        | some _ => exact h1.elim
        | none =>
          cases mx with
          | some _ => exact h1.elim
          | none =>
            refine getK_hide hik ?_
            refine (det_getK ob _).mono (fun x1 h => ?_) h1
            cases x1 with
            | cells wr U cs =>
              simp only at h ⊢
              refine (det_szK _ _).mono (fun z' h => ?_) h
              refine (det_optK _ _).mono (fun h1 h => ?_) h
              split at h
              next => exact ⟨h.1, h.2.1, hK _ _ _ _ _ h.2.2⟩
              next => exact h.elim
            | _ => exact h.elim
  · exact hflo h1
 next c ho =>
  split at h
  next f hc =>
   obtain ⟨fv, hfv, h1, h2⟩ := ev_clean ht h
   refine h2 _ ?_
   clear h h2
   obtain ⟨args, hargs, h3, h4⟩ := evs_clean ht h1
   refine h4 _ ?_
   clear h1 h4
   cases fv with
   | fn f first cap =>
     cases f with
     | func g =>
       simp only [vcall] at h3 ⊢
       have h5 := mapK_untok h3
       have hcl : k ∉ ptrsL ((first ++ args ++ cap).map V.untok) := by
        simp only [ptrs, List.mem_append, not_or] at hfv
        refine ptrsL_clean fun v hv => ?_
        obtain ⟨u, hu, rfl⟩ := List.mem_map.1 hv
        refine untok_ptrs ?_
        rcases List.mem_append.1 hu with hu | hu
        · rcases List.mem_append.1 hu with hu | hu
          · exact of_ptrsL hfv.1 u hu
          · exact hargs u hu
        · exact of_ptrsL hfv.2 u hu
       have hun : ∀ (l : List V) (K : List V -> Prop), K (l.map V.untok) -> mapK V.untokK l K := fun l => by
        induction l with
        | nil => intro K h; exact h
        | cons x r ih =>
          intro K h
          show x.untokK _
          simp only [V.untokK, force_eq]
          exact ih _ h
       refine hun _ _ ?_
       obtain ⟨hr1, hr2⟩ := reach_hide hob 64 _ [] hcl (by simp)
       rw [hr1]
       have hl1 : ∀ (l : List Nat) (K : List Nat -> Prop), listK l K -> K l := fun l => by
        induction l with
        | nil => intro K h; exact h
        | cons x r ih =>
          intro K h
          have h : natK x fun i => listK r fun r => K (i :: r) := h
          cases x <;> exact ih _ h
       have hl2 : ∀ (l : List Nat) (K : List Nat -> Prop), K l -> listK l K := fun l => by
        induction l with
        | nil => intro K h; exact h
        | cons x r ih =>
          intro K h
          show natK x fun i => listK r fun r => K (i :: r)
          cases x <;> exact ih _ h
       have h6 := hl1 _ _ h5
       refine hl2 _ _ ?_
       clear h5 h3
       generalize reach ob 64 (ptrsL ((first ++ args ++ cap).map V.untok)) [] = idx at h6 hr2
       rw [shut_hide hr2]
       split at h6
       next => exact h6.elim
       next hck =>
        refine gets_hide hr2 ?_
        refine (det_getsK _ _ _).mono (fun sub h => ?_) h6
        refine (det_insK _).mono (fun sub h => ?_) h
        refine (det_mapK (det_renP _) _).mono (fun as1 h => ?_) h
        refine hm _ _ _ _ _ (fun out sub' h => ?_) h
        rw [List.length_set]
        refine (det_movedK _ _).mono (fun ms h => ?_) h
        obtain ⟨hd, h⟩ := forgetK_iff h
        refine forgetK_of hd ?_
        rw [map_hide rfl]
        refine back_hide (by simpa using hk) hr2 (fun l h => ?_) h
        cases out with
        | ret v => exact (det_renP _ _).mono (fun v h => hK _ _ _ _ _ h) h
        | pan v => exact (det_renP _ _).mono (fun v h => h.elim) h
     | _ => exact h3.elim
   | _ => exact h3.elim
  next hc =>
   obtain ⟨args, hargs, h1, h2⟩ := evs_clean ht h
   refine h2 _ ?_
   clear h h2
   have hK' := hK
   unfold vappend at h1 ⊢
   split at h1
   · rename_i e b v _
     have hb := hargs b (by simp)
     have hv := hargs v (by simp)
     split at h1
     · refine src_hide hv ((det_srcK _ _ _ _ _).mono (fun u h => ?_) h1)
       split at h
       · split at h
         · exact appendNew_hide hk hK' h
         · exact append_hide hK' h
       · rename_i o1 z lo n cp
         exact appendBuf_hide hk (hne (i := o1) hb (by simp [ptrs])) hK' h
       · exact h.elim
     · split at h1
       · rename_i o1 z lo n cp _ _ _ _
         split at h1
         · exact ⟨h1.1, h1.2.1, appendBuf_hide hk (hne (i := o1) hb (by simp [ptrs])) hK' h1.2.2⟩
         · exact h1.elim
       · exact h1.elim
   · exact h1.elim
  next hc =>
   obtain ⟨args, hargs, h1, h2⟩ := evs_clean ht h
   refine h2 _ ?_
   clear h h2
   unfold vcopy at h1 ⊢
   simp only at h1 ⊢
   split at h1
   · rename_i e o1 z lo n cp v _
     have hik := hne (i := o1) (hargs (.slo o1 z lo n cp) (by simp)) (by simp [ptrs])
     refine src_hide (hargs v (by simp)) ((det_srcK _ _ _ _ _).mono (fun m h => ?_) h1)
     refine (det_szK _ _).mono (fun z' h => ?_) h
     split at h
     · obtain ⟨a, h⟩ := h
       refine ⟨a, getK_hide hik ((det_getK ob _).mono (fun x h => ?_) h)⟩
       split at h
       · split at h
         · exact ⟨h.1, setK_hide hik (fun l h => hK _ _ _ _ _ h) h.2⟩
         · exact h.elim
       · exact h.elim
     · exact h.elim
   · exact h1.elim
  next hc =>
   obtain ⟨args, hargs, h1, h2⟩ := evs_clean ht h
   refine h2 _ ?_
   clear h h2
   unfold vunsafeString at h1 ⊢
   simp only at h1 ⊢
   split at h1
   · rename_i e o1 z n _
     have hik := hne (i := o1) (hargs (.bp o1 z 0 0) (by simp)) (by simp [ptrs])
     refine getK_hide hik ((det_getK ob _).mono (fun x h => ?_) h1)
     split at h
     · split at h
       · obtain ⟨a, b, c, bs, d, h⟩ := h
         refine ⟨a, b, c, bs, d, ?_⟩
         generalize Nat.beq _ 0 = b0 at h ⊢
         cases b0 with
         | true => exact hK _ _ _ _ _ h
         | false => exact setK_hide hik (fun l h => hK _ _ _ _ _ h) h
       · exact h.elim
     · exact h.elim
   · exact h1.elim
  next => exact hflo h
  next => exact h.elim
 next c ho =>
  split at h
  next f hc =>
   refine (det_ev _ _).mono (fun f h => ?_) h
   refine (det_evs _ _).mono (fun args h => ?_) h
   split at h
   next =>
    refine (det_mapK det_untok _).mono (fun a h => ?_) h
    exact (det_mapK det_untok _).mono (fun b h => hK _ _ _ _ _ h) h
   next => exact h.elim
  next => exact h.elim
 next x ho => exact h
 next => exact hflo h
end
end VL

namespace VL
open Go
def gOn (all : List Oper) (o : Oper) (t : List V) : Option Bool :=
 match o.guard with
 | none => some true
 | some (j, want) => match (all[j]?).bind (·.dst) with
   | some d => match t[d]? with
     | some (.bool b) => some (b == want)
     | some .undef => none
     | some _ => some false
     | none => none
   | none => none
theorem set_same {t : List V} {d : Nat} {v : V} (h : t[d]? = some v) : t.set d v = t := by
 apply List.ext_getElem?
 intro k
 rw [List.getElem?_set]
 split
 · rename_i e; subst e
   split
   · exact h.symm
   · rename_i hlt; rw [List.getElem?_eq_none (by omega)]
 · rfl
theorem guardK_iff {all : List Oper} {o : Oper} {t : List V} {KT KF : List V -> Prop} (h : guardK all o t KT KF) : (gOn all o t = some true /\ KT t) \/ (gOn all o t = some false /\ KF t) := by
 unfold guardK at h
 unfold gOn
 cases hg : o.guard with
 | none => rw [hg] at h; exact .inl ⟨rfl, h⟩
 | some jw =>
   obtain ⟨j, want⟩ := jw
   rw [hg] at h
   simp only at h ⊢
   cases hj : (all[j]?).bind (·.dst) with
   | none => rw [hj] at h; exact h.elim
   | some d =>
     rw [hj] at h
     simp only at h ⊢
     obtain ⟨v, h1, h2⟩ := getK_iff h
     rw [h1]
     split at h2
     · rename_i b
       rcases bif_elim h2 with ⟨rfl, h2⟩ | ⟨rfl, h2⟩
       · obtain ⟨_, h2⟩ := setK_iff h2
         rw [set_same h1] at h2
         cases want
         · exact .inr ⟨rfl, h2⟩
         · exact .inl ⟨rfl, h2⟩
       · obtain ⟨_, h2⟩ := setK_iff h2
         rw [set_same h1] at h2
         cases want
         · exact .inl ⟨rfl, h2⟩
         · exact .inr ⟨rfl, h2⟩
     · exact h2.elim
     · rename_i hn1 hn2
       refine .inr ⟨?_, h2⟩
       cases v <;> first | rfl | exact absurd rfl (hn1 _) | exact absurd rfl hn2
def FOK (S : Sys) (all : List Oper) (m : Nat) (t : List V) (ob : List VObj) : Prop :=
 ∃ o u, all[m]? = some o /\ (∀ d, o.dst = some d -> t[d]? = some u) /\ ((gOn all o t = some true /\ vflo S o t ob fun v => v = u) \/ (gOn all o t = some false /\ u = .tup []))
theorem looks_ev {all : List Oper} {o : Oper} {t t' : List V} (h : ∀ d ∈ looks all o, t[d]? = t'[d]?) : ∀ x ∈ o.op.operands.toList, ev t x = ev t' x := by
 intro x hx
 funext K
 cases x with
 | tmp d => simp only [ev, getK_eq, h d (List.mem_append_left _ (List.mem_filterMap.2 ⟨.tmp d, hx, rfl⟩))]
 | _ => rfl
theorem looks_gOn {all : List Oper} {o : Oper} {t t' : List V} (h : ∀ d ∈ looks all o, t[d]? = t'[d]?) : gOn all o t = gOn all o t' := by
 unfold gOn
 cases hg : o.guard with
 | none => rfl
 | some jw =>
   obtain ⟨j, want⟩ := jw
   simp only
   cases hj : (all[j]?).bind (·.dst) with
   | none => rfl
   | some d => simp only [h d (List.mem_append_right _ (by simp [hg, hj]))]
theorem FOK.congr {S : Sys} {all : List Oper} {m : Nat} {t t' : List V} {ob : List VObj} {o : Oper} (ho : all[m]? = some o) (h : FOK S all m t ob) (h1 : ∀ d ∈ looks all o, t[d]? = t'[d]?) (h2 : ∀ d, o.dst = some d -> t[d]? = t'[d]?) : FOK S all m t' ob := by
 obtain ⟨o', u, e, a1, a2⟩ := h
 have : o' = o := by rw [ho] at e; exact (Option.some.inj e).symm
 subst this
 exact ⟨o', u, ho, fun d hd => by rw [← h2 d hd]; exact a1 d hd, by rw [← looks_gOn h1, ← vflo_congr S ob (looks_ev h1)]; exact a2⟩
theorem isSlot_iff {o : Option Tmp} {t : List V} {v : V} {k : Prop} (h : isSlot o t v k) : (∀ d, o = some d -> t[d]? = some v) /\ k := by
 cases o with
 | none => exact ⟨by simp, h⟩
 | some d =>
   obtain ⟨u, h1, rfl, h2⟩ := getK_iff h
   exact ⟨fun d' e => by cases e; exact h1, h2⟩
def AOK (S : Sys) (all : List Oper) (done : List Nat) (m : Nat) (t : List V) (ob : List VObj) (df : List (Fn × List V × List V)) : Prop :=
 ∃ o T d j i cz, all[m]? = some o /\ o.op = .alloc T /\ o.dst = some d /\ t[d]? = some (.ptr j 0) /\ S.P.info? T = some i /\ i.zero = some cz /\ ob[j]? = some (.cells true T (ofConstAgg cz).cells) /\ allClean all (ancs all []) done m j t ob df = true
def isAlAt (all : List Oper) (m : Nat) : Bool := match all[m]? with | some o => isAl o | none => false
theorem recheck_iff {S : Sys} {all : List Oper} {n : Nat} {t0 : List V} {done0 : List Nat} {t : List V} {ob : List VObj} {df : List (Fn × List V × List V)} {k : Prop} : ∀ {done : List Nat}, recheck S all (ancs all []) n t0 done0 done t ob df k ->
 k /\ ∀ m ∈ done, isAnc (ancs all []) n m = false -> (isAlAt all m = true -> AOK S all done0 m t ob df /\ ∀ o d, all[m]? = some o -> o.dst = some d -> t[d]? = t0[d]?) /\ (isAlAt all m = false -> FOK S all m t ob)
 | [], h => ⟨h, by simp⟩
 | m :: r, h => by
   unfold recheck at h
   split at h
   · rename_i ha
     obtain ⟨h1, h2⟩ := recheck_iff (done := r) h
     refine ⟨h1, fun j hj hn => ?_⟩
     cases hj with
     | head => rw [ha] at hn; cases hn
     | tail _ hj => exact h2 j hj hn
   · split at h
     case h_2 => exact h.elim
     rename_i o ho
     have key : k /\ (∀ m ∈ r, isAnc (ancs all []) n m = false -> (isAlAt all m = true -> AOK S all done0 m t ob df /\ ∀ o d, all[m]? = some o -> o.dst = some d -> t[d]? = t0[d]?) /\ (isAlAt all m = false -> FOK S all m t ob)) /\ (isAlAt all m = true -> AOK S all done0 m t ob df /\ ∀ o d, all[m]? = some o -> o.dst = some d -> t[d]? = t0[d]?) /\ (isAlAt all m = false -> FOK S all m t ob) := by
      split at h
      · rename_i hal
        have hal' : isAlAt all m = true := by unfold isAlAt; rw [ho]; exact hal
        split at h
        case h_2 => exact h.elim
        rename_i T d hop hdst
        obtain ⟨p, hp, h⟩ := getK_iff h
        obtain ⟨q, hq, h⟩ := getK_iff h
        split at h
        case h_2 => exact h.elim
        rename_i j j0
        obtain ⟨x, hx, h⟩ := getK_iff h
        obtain ⟨i, cz, hi, hz, h9⟩ := zeroV_iff h
        clear h
        split at h9
        case h_2 => exact h9.elim
        rename_i hcl
        rw [Bool.and_eq_true] at hcl
        obtain ⟨hjj, hcl⟩ := hcl
        have hjj := Nat.eq_of_beq_eq_true hjj
        subst hjj
        obtain ⟨rfl, h8⟩ := h9
        obtain ⟨h3, h4⟩ := recheck_iff (done := r) h8
        refine ⟨h3, h4, fun _ => ⟨⟨o, T, d, _, i, cz, ho, hop, hdst, hp, hi, hz, hx, hcl⟩, fun o' d' e1 e2 => ?_⟩, (fun hf => by rw [hal'] at hf; cases hf)⟩
        rw [ho] at e1; cases e1
        rw [hdst] at e2; cases e2
        rw [hp, hq]
      · rename_i hal
        have hal' : isAlAt all m = false := by unfold isAlAt; rw [ho]; exact hal
        rcases guardK_iff h with ⟨hg, h⟩ | ⟨hg, h⟩
        · obtain ⟨v, hv, h2⟩ := det_vflo S o t ob _ h
          obtain ⟨h0, h1⟩ := isSlot_iff hv
          obtain ⟨h3, h4⟩ := recheck_iff (done := r) h1
          exact ⟨h3, h4, (fun hf => by rw [hal'] at hf; cases hf), fun _ => ⟨o, v, ho, h0, .inl ⟨hg, h2 _ rfl⟩⟩⟩
        · obtain ⟨h0, h1⟩ := isSlot_iff h
          obtain ⟨h3, h4⟩ := recheck_iff (done := r) h1
          exact ⟨h3, h4, (fun hf => by rw [hal'] at hf; cases hf), fun _ => ⟨o, .tup [], ho, h0, .inr ⟨hg, rfl⟩⟩⟩
     refine ⟨key.1, fun j hj hn => ?_⟩
     cases hj with
     | head => exact key.2.2
     | tail _ hj => exact key.2.1 j hj hn
def slotIn (all : List Oper) (U : List Nat) (d : Nat) : Bool := U.any fun i => decide ((all[i]?).bind (·.dst) = some d)
theorem slotIn_iff {all : List Oper} {U : List Nat} {d : Nat} : slotIn all U d = true ↔ ∃ i ∈ U, ∃ o, all[i]? = some o /\ o.dst = some d := by
 simp [slotIn, List.any_eq_true, Option.bind_eq_some_iff]
end VL

namespace VL
open Go
mutual
theorem renV_id : ∀ v : V, ren (fun o => o) v = v
 | .slp l => by simp [ren, renVL_id l]
 | .dp l => by simp [ren, renVL_id l]
 | .fn g a b => by simp [ren, renVL_id a, renVL_id b]
 | .ifc t v => by simp [ren, renV_id v]
 | .agg l => by simp [ren, renVL_id l]
 | .tup l => by simp [ren, renVL_id l]
 | .ptr _ _ => rfl
 | .mp _ => rfl
 | .slo .. => rfl
 | .bp .. => rfl
 | .undef => rfl
 | .int _ _ => rfl
 | .bool _ => rfl
 | .str _ => rfl
 | .nilp => rfl
 | .sl _ _ => rfl
 | .spare _ _ => rfl
 | .niln => rfl
 | .nili => rfl
 | .nilm => rfl
theorem renVL_id : ∀ l : List V, renL (fun o => o) l = l
 | [] => rfl
 | v :: r => by simp [renL, renV_id v, renVL_id r]
end
theorem VRel.reb {bs bs' : Nat -> Nat} {I : Nat -> Nat -> Prop} {w : World} {n : Nat} {v : V} {c : Value} (h : VRel bs I w n v c) (hb : ∀ o ∈ ptrs v, o < n -> bs' o = bs o) : VRel bs' I w n v c := by
 have := VRel.ren (f := fun o => o) (n' := n) (bs' := bs') h fun o ho hn => ⟨hn, hb o ho hn⟩
 rwa [renV_id] at this
def G.lay (g : G) (j b : Nat) : G := { g with bs := fun i => if i = j then b else g.bs i }
section
variable {c : Ctx} {g : G} {w : World} {ob : List VObj} {nt : Nat}
theorem VT.lay {n j b : Nat} {o : Obj} {v : V} {x : Value} (hI : ∀ b k, g.I b k -> b < w.heap.size) (h : VT g w n nt v x) (hv : j ∉ ptrs v) : VT (g.lay j b) (w.alloc o) n nt v x := by
 refine ⟨?_, h.tok⟩
 have h1 : VRel (g.lay j b).bs g.I w n v x := h.rel.reb fun o ho _ => by
  show (if o = j then b else g.bs o) = g.bs o
  rw [if_neg (fun (e : o = j) => hv (e ▸ ho))]
 exact h1.mono (fun o ho => ⟨ho, rfl⟩) fun b k hb => ⟨hb, by
  have := hI b k hb
  simp only [World.cell?]
  rw [heap_alloc_lt _ _ this]⟩
theorem WInv.lay {j : Nat} {o : Obj} {x : VObj} (h : WInv c g w ob nt) (hj : ob[j]? = some .none) (hc : c.n0 <= j) (hob : ∀ (i : Nat) y, ob[i]? = some y -> j ∉ ptrsO y)
 (hx : ORel (g.lay j w.heap.size) (w.alloc o) ob.length nt w.heap.size x) : WInv c (g.lay j w.heap.size) (w.alloc o) (ob.set j x) nt := by
 have hjl := (List.getElem?_eq_some_iff.1 hj).1
 have hI := h.i3
 have hbs : ∀ i, i ≠ j -> (g.lay j w.heap.size).bs i = g.bs i := fun i hi => by simp [G.lay, hi]
 have hbj : (g.lay j w.heap.size).bs j = w.heap.size := by simp [G.lay]
 have hcell : ∀ b k, g.I b k -> (w.alloc o).cell? ⟨b, k, none⟩ = w.cell? ⟨b, k, none⟩ := fun b k hb => by
  simp only [World.cell?]; rw [heap_alloc_lt _ _ (hI b k hb)]
 have h0 : ∀ {v : V} {c : Value}, VRel g.bs g.I w 0 v c -> VRel (g.lay j w.heap.size).bs (g.lay j w.heap.size).I (w.alloc o) 0 v c := fun hv => hv.mono (fun o ho => absurd ho (by omega)) fun b k hb => ⟨hb, hcell b k hb⟩
 have hor : ∀ (i : Nat) y, i ≠ j -> ob[i]? = some y -> ORel (g.lay j w.heap.size) (w.alloc o) ob.length nt (g.bs i) y := fun i y hi hy => by
  have ho := h.obj i y hy
  cases y with
  | none => trivial
  | cells wr T cs =>
    obtain ⟨arr, a1, a2, a3⟩ := ho
    refine ⟨arr, by rw [heap_alloc_lt _ _ (h.lt i _ hy rfl)]; exact a1, a2, fun k v c hv hc => ⟨(a3 k v c hv hc).1.lay hI fun hm => hob i _ hy (ptrsL_get hv hm), (a3 k v c hv hc).2⟩⟩
  | map es =>
    obtain ⟨arr, clk, a1, a2, a3⟩ := ho
    exact ⟨arr, clk, by rw [heap_alloc_lt _ _ (h.lt i _ hy rfl)]; exact a1, a2, fun k e c he hc => ⟨h0 (a3 k e c he hc).1, h0 (a3 k e c he hc).2⟩⟩
  | buf m z l =>
    rcases ho with ho | ⟨arr, T, a1, aty, a2, a3, a4⟩
    · exact .inl ho
    · by_cases hl : l = []
      · exact .inl hl
      · exact .inr ⟨arr, T, by rw [heap_alloc_lt _ _ (h.lt i _ hy (by simp [VObj.real, hl]))]; exact a1, aty, a2, a3, fun k v c he hc => ⟨h0 (a4 k v c he hc).1, (a4 k v c he hc).2⟩⟩
 refine ⟨h.os, h.tape, h.output, ?_, ?_, by simp [h.len], ?_, ?_, ?_, ?_, ?_, h.i1, h.i2, ?_, ?_, ?_, ?_, h.f2, fun b k hI' => by rw [hcell b k (h.i1 b k hI')]; exact h.i6 b k hI'⟩
 · have := h.size; simp; omega
 · intro b hb hw; rw [heap_alloc_lt _ _ (by have := h.size; omega)]; exact h.keep b hb hw
 · intro i y hy
   rw [List.length_set]
   rcases set_get hy with ⟨rfl, rfl⟩ | ⟨hne, hy⟩
   · rw [hbj]; exact hx
   · rw [hbs i (Ne.symm hne)]; exact hor i y (Ne.symm hne) hy
 · intro i y hy hr
   rcases set_get hy with ⟨rfl, rfl⟩ | ⟨hne, hy⟩
   · rw [hbj]; simp
   · rw [hbs i (Ne.symm hne)]; have := h.lt i y hy hr; simp; omega
 · intro i i' y z hy hz hr hr'
   rcases set_get hy with ⟨e1, e1'⟩ | ⟨hne, hy⟩ <;> rcases set_get hz with ⟨e2, e2'⟩ | ⟨hne', hz⟩
   · intro _; rw [← e1, ← e2]
   · rw [← e1, hbj, hbs i' (Ne.symm hne')]; have := h.lt i' z hz hr'; intro e; omega
   · rw [← e2, hbj, hbs i (Ne.symm hne)]; have := h.lt i y hy hr; intro e; omega
   · rw [hbs i (Ne.symm hne), hbs i' (Ne.symm hne')]; exact h.inj i i' y z hy hz hr hr'
 · intro i y hi hy hm
   rcases set_get hy with ⟨e1, _⟩ | ⟨hne, hy⟩
   · omega
   · rw [hbs i (Ne.symm hne)]; exact h.old i y hi hy hm
 · intro i y hy hr
   rcases set_get hy with ⟨e1, _⟩ | ⟨hne, hy⟩
   · rw [← e1, hbj]; exact .inl h.size
   · rw [hbs i (Ne.symm hne)]; exact h.new i y hy hr
 · intro b k hb; have := hI b k hb; simp; omega
 · intro i T cs k hy hb
   rcases set_get hy with ⟨e1, _⟩ | ⟨hne, hy⟩
   · rw [← e1, hbj] at hb; have := hI _ _ hb; omega
   · rw [hbs i (Ne.symm hne)] at hb; exact h.i4 i T cs k hy hb
 · intro i y k hy hl hb
   rcases set_get hy with ⟨e1, _⟩ | ⟨hne, hy⟩
   · rw [← e1, hbj] at hb; have := hI _ _ hb; omega
   · rw [hbs i (Ne.symm hne)] at hb; exact h.i5 i y k hy hl hb
 · intro i hi hn
   obtain ⟨f1, ⟨arr0, U, f2, f2'⟩, f3, f4⟩ := h.f1 i hi hn
   have hlt : (g.fam i).blk < w.heap.size := by
    rcases Nat.lt_or_ge (g.fam i).blk w.heap.size with h | h
    · exact h
    · rw [Array.getElem?_eq_none h] at f2; cases f2
   refine ⟨f1, ⟨arr0, U, by show (w.alloc o).heap[(g.fam i).blk]? = _; rw [heap_alloc_lt _ _ hlt]; exact f2, f2'⟩, f3, fun o' y hy hr => ?_⟩
   show (g.lay j w.heap.size).bs o' ≠ (g.fam i).blk
   rcases set_get hy with ⟨e1, _⟩ | ⟨hne, hy⟩
   · rw [← e1, hbj]; omega
   · rw [hbs o' (Ne.symm hne)]; exact f4 o' y hy hr
end
end VL

namespace VL
open Go
def hideObs : List Nat -> List VObj -> List VObj
 | [], ob => ob
 | k :: r, ob => hideObs r (ob.set k .none)
def hidesS (ks : List Nat) : St -> St
 | ⟨t, ob, nt, df⟩ => ⟨t, hideObs ks ob, nt, df⟩
theorem hideObs_length : ∀ (ks : List Nat) (ob : List VObj), (hideObs ks ob).length = ob.length
 | [], _ => rfl
 | k :: r, ob => by simp [hideObs, hideObs_length r]
theorem hideObs_get : ∀ (ks : List Nat) (ob : List VObj) (i : Nat), (hideObs ks ob)[i]? = if i ∈ ks then (ob[i]?).map (fun _ => VObj.none) else ob[i]?
 | [], ob, i => by simp [hideObs]
 | k :: r, ob, i => by
   rw [hideObs, hideObs_get r]
   by_cases h1 : i = k
   · subst h1
     by_cases h2 : i < ob.length
     · rw [List.getElem?_set_self h2, List.getElem?_eq_getElem h2]
       simp
     · have e1 : ob[i]? = none := List.getElem?_eq_none (by omega)
       have e2 : (ob.set i .none)[i]? = none := List.getElem?_eq_none (by simp; omega)
       rw [e1, e2]; simp
   · rw [List.getElem?_set_ne (Ne.symm h1)]
     simp [h1]
structure Unseen (k : Nat) (t : List V) (ob : List VObj) : Prop where
 lt : k < ob.length
 slots : Clean k t
 objs : ∀ (j : Nat) x, j ≠ k -> ob[j]? = some x -> k ∉ ptrsO x
theorem Unseen.hide {k k' : Nat} {t : List V} {ob : List VObj} (h : Unseen k t ob) : Unseen k t (ob.set k' .none) :=
 ⟨by simpa using h.lt, h.slots, fun j x hj hx => by
  rcases set_get hx with ⟨rfl, rfl⟩ | ⟨_, hx⟩
  · simp [ptrsO]
  · exact h.objs j x hj hx⟩
theorem vflo_hides (S : Sys) {o : Oper} {t : List V} {K : V -> Prop} : ∀ {ks : List Nat} {ob : List VObj}, (∀ k ∈ ks, Unseen k t ob) -> vflo S o t ob K -> vflo S o t (hideObs ks ob) K
 | [], ob, _, h => h
 | k :: r, ob, hu, h => vflo_hides S (ks := r) (fun k' hk' => (hu k' (by simp [hk'])).hide) (vflo_obs S (hu k (by simp)).slots h)
theorem vop_hides (S : Sys) (hm : CallMono S) {o : Oper} {t : List V} {nt : Nat} {df : List (Fn × List V × List V)} : ∀ {ks : List Nat} {k : Nat} {ob : List VObj} {K K' : V -> St -> Prop}, (∀ j ∈ k :: ks, Unseen j t ob) -> (∀ v s, K v s -> K' v (hidesS (k :: ks) s)) ->
 vop S o ⟨t, ob, nt, df⟩ K (fun _ _ => False) -> vop S o ⟨t, hideObs (k :: ks) ob, nt, df⟩ K' fun _ _ => False
 | [], k, ob, K, K', hu, hKK, h => by
   have hk := hu k (by simp)
   exact vop_obs S hm hk.lt hk.slots hk.objs (fun v s h => by obtain ⟨t, ob, nt, df⟩ := s; exact hKK v _ h) h
 | k' :: r, k, ob, K, K', hu, hKK, h => by
   have hk := hu k (by simp)
   have h1 := vop_obs S hm hk.lt hk.slots hk.objs (K' := fun v s' => ∃ s, K v s /\ s' = hideS k s) (fun v s h => ⟨s, h, rfl⟩) h
   refine vop_hides S hm (ks := r) (k := k') (fun j hj => (hu j (by simp at hj ⊢; exact .inr hj)).hide) (fun v s' h => ?_) h1
   obtain ⟨s, hs, rfl⟩ := h
   have := hKK v s hs
   obtain ⟨t, ob, nt, df⟩ := s
   exact this
end VL

namespace VL
open Go
def alObj (all : List Oper) (t : List V) (i : Nat) : Option Nat :=
 match all[i]? with
 | some o => (match isAl o, o.dst with
   | true, some d => (match t[d]? with | some (.ptr k 0) => some k | _ => none)
   | _, _ => none)
 | none => none
def hidL (all : List Oper) (U : List Nat) (t : List V) : List Nat := U.filterMap (alObj all t)
def maskU (all : List Oper) (U : List Nat) : St -> St
 | ⟨t, ob, nt, df⟩ => ⟨masked (slotIn all U) t, hideObs (hidL all U t) ob, nt, df⟩
theorem AOK.obj {S : Sys} {all : List Oper} {done : List Nat} {m : Nat} {t : List V} {ob : List VObj} {df : List (Fn × List V × List V)} (h : AOK S all done m t ob df) (ha : isAlAt all m = true) :
 ∃ k, alObj all t m = some k /\ k < ob.length := by
 obtain ⟨o, T, d, j, i, cz, h1, h2, h3, h4, h5, h6, h7, h8⟩ := h
 refine ⟨j, ?_, (List.getElem?_eq_some_iff.1 h7).1⟩
 unfold isAlAt at ha
 rw [h1] at ha
 unfold alObj
 rw [h1]
 simp only at ha ⊢
 rw [ha, h3]
 simp only
 rw [h4]; rfl
theorem slotsClean_get {k : Nat} {ok : Nat -> Bool} : ∀ {l : List V} {d : Nat}, slotsClean k ok d l = true -> ∀ {i : Nat} {v : V}, l[i]? = some v -> k ∈ ptrs v -> ok (d + i) = true
 | x :: r, d, h, 0, v, hv, hk => by
   simp only [slotsClean, Bool.and_eq_true] at h
   simp at hv; subst hv
   have := h.1
   rw [memN_iff.2 hk] at this
   simpa using this
 | x :: r, d, h, i + 1, v, hv, hk => by
   simp only [slotsClean, Bool.and_eq_true] at h
   have := slotsClean_get h.2 (i := i) (by simpa using hv) hk
   rwa [show d + 1 + i = d + (i + 1) by omega] at this
 | [], d, h, i, v, hv, hk => by simp at hv
theorem objsClean_get {k : Nat} : ∀ {l : List VObj} {d : Nat}, objsClean k d l = true -> ∀ {i : Nat} {x : VObj}, l[i]? = some x -> k ∈ ptrsO x -> d + i = k
 | x :: r, d, h, 0, v, hv, hk => by
   simp only [objsClean, Bool.and_eq_true] at h
   simp at hv; subst hv
   have := h.1
   rw [memN_iff.2 hk] at this
   simpa using Nat.eq_of_beq_eq_true this
 | x :: r, d, h, i + 1, v, hv, hk => by
   simp only [objsClean, Bool.and_eq_true] at h
   have := objsClean_get h.2 (i := i) (by simpa using hv) hk
   omega
 | [], d, h, i, v, hv, hk => by simp at hv
theorem mayName_iff {all : List Oper} {A : List Nat} {a d : Nat} : ∀ {done : List Nat}, mayName all A done a d = true -> ∃ i ∈ done, (all[i]?).bind (·.dst) = some d /\ (i = a \/ isAnc A i a = true)
 | [], h => by cases h
 | i :: r, h => by
   simp only [mayName, Bool.or_eq_true, Bool.and_eq_true] at h
   rcases h with ⟨h1, h2⟩ | h
   · refine ⟨i, by simp, ?_, ?_⟩
     · split at h1
       · rename_i d' e; rw [e]; rw [Nat.eq_of_beq_eq_true h1]
       · cases h1
     · rcases h2 with h2 | h2
       · exact .inl (Nat.eq_of_beq_eq_true h2)
       · exact .inr h2
   · obtain ⟨j, hj, h1, h2⟩ := mayName_iff h
     exact ⟨j, by simp [hj], h1, h2⟩
theorem AOK.unseen {S : Sys} {all : List Oper} {done U : List Nat} {m : Nat} {t : List V} {ob : List VObj} {df : List (Fn × List V × List V)} (h : AOK S all done m t ob df) {k : Nat} (hk : alObj all t m = some k)
 (hU : ∀ i ∈ done, (i = m \/ isAnc (ancs all []) i m = true) -> i ∈ U) : Unseen k (masked (slotIn all U) t) ob := by
 obtain ⟨o, T, d, j, i, cz, h1, h2, h3, h4, h5, h6, h7, h8⟩ := h
 have hjk : j = k := by
  unfold alObj at hk
  rw [h1] at hk
  simp only at hk
  split at hk
  · rename_i d' e1 e2
    rw [h3] at e2; cases e2
    rw [h4] at hk
    simpa using hk
  · cases hk
 subst hjk
 unfold allClean at h8
 simp only [Bool.and_eq_true] at h8
 obtain ⟨⟨c1, c2⟩, c3⟩ := h8
 refine ⟨(List.getElem?_eq_some_iff.1 h7).1, fun v hv hm => ?_, fun i x hi hx hm => ?_⟩
 · obtain ⟨q, hq⟩ := List.mem_iff_getElem?.1 hv
   rw [masked_get] at hq
   obtain ⟨u, hu, e⟩ := Option.map_eq_some_iff.1 hq
   split at e
   · subst e; simp [ptrs] at hm
   · rename_i hs
     subst e
     have := slotsClean_get c1 hu hm
     rw [Nat.zero_add] at this
     obtain ⟨p, hp, e1, e2⟩ := mayName_iff this
     obtain ⟨op, e3, e4⟩ := Option.bind_eq_some_iff.1 e1
     exact hs (slotIn_iff.2 ⟨p, hU p hp e2, op, e3, e4⟩)
 · have := objsClean_get c2 hx hm
   omega
end VL

