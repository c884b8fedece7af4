/-
  The abstract machine on regions that draw their order: plans in which two operations with an effect may come up at once. Condition: as A16.
  The abstract machine: operations that do more than the evaluator knows (calls that lend an own block, that write it, that hand one back), by what they do to a state. Condition: as A14.
  The abstract machine: contracts of functions that hand back a slice of their own making, and of functions that write a slice that they are given. Condition: as A21.
-/
import Derived.Test.YtamjajacnfmgeaaGreatK09
set_option linter.all false
namespace Go.Proofs.YtamjajacnfmgeaaGreat
open Go Go.RowKit
inductive Plan where
  | done
  | sil (i : Nat) (p : Plan)
  | one (i : Nat) (p : Plan)
  | two (i j : Nat) (p q : Plan)
def Plan.len : Plan → Nat
  | .done => 0
  | .sil _ p | .one _ p => p.len + 1
  | .two _ _ p q => max p.len q.len + 1
def planOk (ops : Array Oper) : Plan → Array Bool → Bool
  | .done, L => (Region.ready .any ops L).isEmpty
  | .sil i p, L => (Region.ready .any ops L).contains i && Region.free .any ops L i && planOk ops p (L.setIfInBounds i true)
  | .one i p, L => Region.ready .any ops L == [i] && planOk ops p (L.setIfInBounds i true)
  | .two i j p q, L => Region.ready .any ops L == [i, j] && planOk ops p (L.setIfInBounds i true) && planOk ops q (L.setIfInBounds j true)
def stepP (P : Program) (T : Nat → Option TI) (ops : Array Oper) (ov : Store → Store) (i : Nat) (K : St → Prop) (σ : St) : Prop :=
  ∃ o, ops[i]? = some o ∧ stepWp P T ops σ o fun σ' => ov σ'.store = σ'.store ∧ K σ'
def walkP (P : Program) (T : Nat → Option TI) (ops : Array Oper) (ov : Store → Store) (Q : St → Prop) : Plan → St → Prop
  | .done, σ => Q σ
  | .sil i p, σ => ∃ o, ops[i]? = some o ∧ SilW P T ops ov σ o (walkP P T ops ov Q p)
  | .one i p, σ => stepP P T ops ov i (walkP P T ops ov Q p) σ
  | .two i j p q, σ => stepP P T ops ov i (walkP P T ops ov Q p) σ ∧ stepP P T ops ov j (walkP P T ops ov Q q) σ
theorem walkP_sound {P : Program} {T : Nat → Option TI} {ops : Array Oper} {ov : Store → Store} {Q : St → Prop} : ∀ (p : Plan) (f : Nat) (L : Array Bool) (σ : St), p.len ≤ f → planOk ops p L = true → ov σ.store = σ.store →
    walkP P T ops ov Q p σ → anyH P T ops (fun s => ov s = s) Q f L σ
  | .done, f, L, σ, _, hw, _, h => by
    have hr : Region.ready .any ops L = [] := by simpa [planOk] using hw
    cases f with
    | zero => exact ⟨hr, h⟩
    | succ f => exact ⟨fun _ => h, by rw [hr]; simp⟩
  | .sil i p, 0, L, σ, hl, _, _, _ => by simp [Plan.len] at hl
  | .one i p, 0, L, σ, hl, _, _, _ => by simp [Plan.len] at hl
  | .two i j p q, 0, L, σ, hl, _, _, _ => by simp [Plan.len] at hl
  | .sil i p, f + 1, L, σ, hl, hw, hS, h => by
    simp only [planOk, Bool.and_eq_true] at hw
    obtain ⟨⟨h1, h2⟩, h3⟩ := hw
    obtain ⟨o, ho, d, h4, h5⟩ := h
    refine anyH_first ho f L σ.n σ.regs σ.store (Region.free_spec ho h2) (by simpa using h1) (fun s hs => ?_) hS (walkP_sound p f _ _ (by simpa [Plan.len] using hl) h3 hS h5)
    have := h4 s
    rw [hs] at this; exact this
  | .one i p, f + 1, L, σ, hl, hw, hS, h => by
    simp only [planOk, Bool.and_eq_true] at hw
    have hr : Region.ready .any ops L = [i] := by simpa using hw.1
    obtain ⟨o, ho, h4⟩ := h
    refine ⟨fun h0 => (by rw [hr] at h0; cases h0), fun j hj o' ho' => ?_⟩
    rw [hr] at hj
    have : j = i := by simpa using hj
    subst this
    rw [ho] at ho'; cases ho'
    exact stepWp_mono (fun σ' ⟨a, b⟩ => ⟨fun _ => a, walkP_sound p f _ σ' (by simpa [Plan.len] using hl) hw.2 a b⟩) h4
  | .two i j p q, f + 1, L, σ, hl, hw, hS, h => by
    simp only [planOk, Bool.and_eq_true] at hw
    obtain ⟨⟨h1, h2⟩, h3⟩ := hw
    have hr : Region.ready .any ops L = [i, j] := by simpa using h1
    have hl' : p.len ≤ f ∧ q.len ≤ f := by simp [Plan.len] at hl; omega
    obtain ⟨⟨o, ho, h4⟩, ⟨u, hu, h5⟩⟩ := h
    refine ⟨fun h0 => (by rw [hr] at h0; cases h0), fun k hk o' ho' => ?_⟩
    rw [hr] at hk
    have : k = i ∨ k = j := by simpa using hk
    rcases this with rfl | rfl
    · rw [ho] at ho'; cases ho'
      exact stepWp_mono (fun σ' ⟨a, b⟩ => ⟨fun _ => a, walkP_sound p f _ σ' hl'.1 h2 a b⟩) h4
    · rw [hu] at ho'; cases ho'
      exact stepWp_mono (fun σ' ⟨a, b⟩ => ⟨fun _ => a, walkP_sound q f _ σ' hl'.2 h3 a b⟩) h5
theorem walkP_mono {P : Program} {T : Nat → Option TI} {ops : Array Oper} {ov : Store → Store} {Q Q' : St → Prop} (hq : ∀ σ, Q σ → Q' σ) : ∀ {p : Plan} {σ : St}, walkP P T ops ov Q p σ → walkP P T ops ov Q' p σ
  | .done, σ, h => hq σ h
  | .sil i p, σ, ⟨o, ho, d, h1, h2⟩ => ⟨o, ho, d, h1, walkP_mono hq h2⟩
  | .one i p, σ, ⟨o, ho, h⟩ => ⟨o, ho, stepWp_mono (fun _ h => ⟨h.1, walkP_mono hq h.2⟩) h⟩
  | .two i j p q, σ, ⟨⟨o, ho, h⟩, ⟨u, hu, h'⟩⟩ => ⟨⟨o, ho, stepWp_mono (fun _ h => ⟨h.1, walkP_mono hq h.2⟩) h⟩, ⟨u, hu, stepWp_mono (fun _ h => ⟨h.1, walkP_mono hq h.2⟩) h'⟩⟩
theorem Sat.dp {P : Program} {T : Nat → Option TI} {id : Nat} {ops : Array Oper} {Q : Exit → St → Prop} {n : Nat} {rl : List (Nat × D)} {s : Store} (hT : TabOk P T) (hm : P.follows .mixedOrders = true) (N : List Nat) (p : Plan) (σ1 : St) (hl : p.len ≤ ops.size) (hw : planOk ops p (Array.replicate ops.size false) = true)
    (h : walkP P T ops (ovr N s) (fun σ' => Weak σ' σ1) p ⟨n, lk rl, s⟩) (k : Q .normal σ1) : Sat P (.region id ops true) ⟨n, lk rl, s⟩ Q := by
 refine Sat.post (fun Φ a W hf => ?_)
 refine wp_region_any hm ?_
 exact anyH_sound hT (fun σ a W h1 h2 => ⟨σ, h1, h2⟩) _ _ _ a _ (walkP_sound p _ _ _ hl hw (ovr_self N s) (walkP_mono (fun _ hw => ⟨σ1, hw, k⟩) h)) hf.drew
section
variable {P : Program} {T : Nat → Option TI} {ops : Array Oper} {ov : Store → Store} {Q : St → Prop} {i j : Nat} {p q : Plan} {σ : St} {o u : Oper}
theorem pn (h : Q σ) : walkP P T ops ov Q .done σ := h
theorem p_sil (ho : ops[i]? = some o) (h : SilW P T ops ov σ o (walkP P T ops ov Q p)) : walkP P T ops ov Q (.sil i p) σ := ⟨o, ho, h⟩
theorem p_one (ho : ops[i]? = some o) (h : stepWp P T ops σ o fun σ' => ov σ'.store = σ'.store ∧ walkP P T ops ov Q p σ') : walkP P T ops ov Q (.one i p) σ := ⟨o, ho, h⟩
theorem p_two (h1 : walkP P T ops ov Q (.one i p) σ) (h2 : walkP P T ops ov Q (.one j q) σ) : walkP P T ops ov Q (.two i j p q) σ := ⟨h1, h2⟩
end
section
variable {P : Program} {T : Nat → Option TI} {all : Array Oper} {ov : Store → Store} {K : St → Prop} {n : Nat} {r : List (Nat × D)} {s : Store}
theorem sil_take {α : Type} [Inhabited α] {f : α → List V} {l : List α} {q t : Nat} {x hi : Operand} {ty : TypeId} {pos : String} {af : Array Edge} {es eb sz : Nat} {ez z : List D} {e : Bool} {k' : IntKind} {b : Int} (hd : (decide (q < n)) = true)
    (ht : T t = some ⟨.sl es eb ez, sz, z, e⟩) (hx : ev (lk r) x = some (.v (.sl (l.map f)))) (hhi : ev (lk r) hi = some (.v (.int k' b))) (h0 : 0 ≤ b) (hl : b ≤ l.length) (hf : ∀ x, (f x).length = es)
    (h : K ⟨n, lk ((q, .v (.sl ((l.take b.toNat).map f))) :: r), s⟩) :
    SilW P T all ov ⟨n, lk r, s⟩ ⟨some q, .slice t x none (some hi) none, ty, pos, af, none⟩ K := by
 refine sil_op hd rfl (fun s => ?_) h
 have hcond : 0 ≤ b.toNat ∧ b.toNat ≤ (l.map f).length ∧ rowFits es ((l.map f)[0]?) := by
   refine ⟨by omega, by simp; omega, ?_⟩
   rw [List.getElem?_map]
   cases l[0]? with
   | none => trivial
   | some x => exact hf x
 simp only [opEval, ht, hx, hhi, Option.isNone_none, if_true, Option.bind_some, idx, if_pos h0, if_pos hcond, List.drop_zero, Nat.sub_zero, List.map_take]
theorem sil_quo {t : Nat} {ty ty2 ty3 : TypeId} {pos : String} {af : Array Edge} {x y : Operand} {a b : Int} (hd : (decide (t < n)) = true) (hx : ev (lk r) x = some (.v (.int .i64 a))) (hy : ev (lk r) y = some (.v (.int .i64 b))) (h0 : b ≠ 0) (hb : i64R (a.tdiv b)) (h : K ⟨n, lk ((t, .v (.int .i64 (a.tdiv b))) :: r), s⟩) :
    SilW P T all ov ⟨n, lk r, s⟩ ⟨some t, .binOp .quo ty x y ty3, ty2, pos, af, none⟩ K := by
 refine sil_op hd rfl (fun s => ?_) h
 simp only [opEval, hx, hy, binEval, intOp, if_true, if_neg h0, Option.map_some, wrap64 hb]
end
end Go.Proofs.YtamjajacnfmgeaaGreat
namespace Go.Proofs.YtamjajacnfmgeaaGreat
open Go Go.RowKit
def Does (P : Program) (σ : St) (o : Oper) (s' : Store) (d : D) : Prop :=
  ∀ (Φ : Fr) (a : Act) (W : World) (E : Env), SR Φ W E σ.store → (∀ t d, σ.regs t = some d → RD W E d (a.tmps.getD t undef)) →
    ∀ (K' : Act → World → Prop) (Q' : Exit → Act → World → Prop), (∀ v W' E', Ext W E W' E' → SR Φ W' E' s' → RD W' E' d v → K' (a.put o.dst v) W') → o.wp P a W K' Q'
def Leads (P : Program) (σ : St) (o : Oper) (K : St → Prop) : Prop :=
  ∀ (Φ : Fr) (a : Act) (W : World), Fits Φ σ a W → ∀ (K' : Act → World → Prop) (Q' : Exit → Act → World → Prop), (∀ σ' a' W', K σ' → Fits Φ σ' a' W' → K' a' W') → o.wp P a W K' Q'
def stepX (P : Program) (T : Nat → Option TI) (all : Array Oper) (σ : St) (o : Oper) (K : St → Prop) : Prop :=
  stepWp P T all σ o K ∨ (o.guard = none ∧ Leads P σ o K)
theorem Does.leads {P : Program} {σ : St} {o : Oper} {s' : Store} {d : D} {K : St → Prop} (h : Does P σ o s' d) (hd : dstOk σ.n o.dst = true) (hK : K (σ.put o.dst s' d)) : Leads P σ o K :=
  fun Φ a W ⟨⟨E, hs, hr⟩, hsz, hdf⟩ K' Q' hk => h Φ a W E hs hr K' Q' fun v W' E' hx hs' hv => hk _ _ _ hK (Fits.put hr hsz hdf hx hs' hv hd)
def opsX (P : Program) (T : Nat → Option TI) (all : Array Oper) (Q : St → Prop) : List Oper → St → Prop
  | [], σ => Q σ
  | o :: os, σ => stepX P T all σ o (opsX P T all Q os)
theorem stepX_sound {P : Program} {T : Nat → Option TI} (hT : TabOk P T) {all : Array Oper} {σ : St} {o : Oper} {K : St → Prop} (h : stepX P T all σ o K) {Φ : Fr} {a : Act} {W : World} (hf : Fits Φ σ a W) {K' : Act → World → Prop} {Q' : Exit → Act → World → Prop}
    (hk : ∀ σ' a' W', K σ' → Fits Φ σ' a' W' → K' a' W') :
    if Region.wanted o (yielded all a.tmps) then o.wp P a W K' Q' else K' (a.put o.dst undef) W := by
 rcases h with h | ⟨hg, hd⟩
 · exact stepWp_sound hT h hf hk
 · have : Region.wanted o (yielded all a.tmps) = true := by simp [Region.wanted, hg]
   rw [if_pos this]
   exact hd Φ a W hf K' Q' hk
theorem opsX_sound {P : Program} {T : Nat → Option TI} (hT : TabOk P T) {ops : Array Oper} {K : St → Prop} {Φ : Fr} {Q2 : Exit → Act → World → Prop} (hk : ∀ σ a W, K σ → Fits Φ σ a W → Q2 .normal a W) : ∀ (os : List Oper) (k : Nat) (σ : St) (a : Act) (W : World), (∀ j, os[j]? = ops[k + j]?) →
    opsX P T ops K os σ → Fits Φ σ a W → wpOps P ops Q2 (List.range' k os.length) a W
  | [], k, σ, a, W, _, h, hf => hk σ a W h hf
  | o :: os, k, σ, a, W, hj, h, hf => by
    have h0 : ops[k]? = some o := by simpa using (hj 0).symm
    simp only [List.length_cons, List.range'_succ, wpOps, h0]
    have ih : ∀ σ' a' W', opsX P T ops K os σ' → Fits Φ σ' a' W' → wpOps P ops Q2 (List.range' (k + 1) os.length) a' W' := fun σ' a' W' h' hf' =>
      opsX_sound hT hk os (k + 1) σ' a' W' (fun j => by have := hj (j + 1); simpa [Nat.add_assoc, Nat.add_comm 1 j] using this) h' hf'
    have := stepX_sound hT (all := ops) (o := o) h hf (K' := wpOps P ops Q2 (List.range' (k + 1) os.length)) (Q' := Q2) ih
    split
    · rename_i hw
      rw [if_pos hw] at this
      exact .inl this
    · rename_i hw
      rw [if_neg hw] at this
      exact this
theorem Sat.rx {P : Program} {T : Nat → Option TI} {σ : St} {Q : Exit → St → Prop} (hT : TabOk P T) {id : Nat} {ops : Array Oper} (h : opsX P T ops (fun σ' => Q .normal σ') ops.toList σ) : Sat P (.region id ops false) σ Q := by
 intro Φ a W hf
 refine wp_region ?_
 have := opsX_sound (P := P) hT (ops := ops) (K := fun σ' => Q .normal σ') (Φ := Φ) (Q2 := fun e a' W' => ∃ σ', Q e σ' ∧ Fits Φ σ' a' W') (fun s a' W' h1 h2 => ⟨s, h1, h2⟩) ops.toList 0 σ a W (by simp) h hf
 rwa [Array.length_toList, ← List.range_eq_range'] at this
section
variable {P : Program} {T : Nat → Option TI} {all : Array Oper} {Q : St → Prop} {σ : St} {o : Oper} {os : List Oper}
theorem wnX (h : Q σ) : opsX P T all Q [] σ := h
theorem wx (h : stepWp P T all σ o (opsX P T all Q os)) : opsX P T all Q (o :: os) σ := .inl h
end
def CallDo (P : Program) (g : Nat) (ds : List D) (s s' : Store) (d : D) : Prop :=
  Enters P g ∧ ∀ (Φ : Fr) (W : World) (E : Env) (vs : List Value), SR Φ W E s → vs.length = ds.length → (∀ (i : Nat) (d : D) (v : Value), ds[i]? = some d → vs[i]? = some v → RD W E d v) →
    Calls P g vs.toArray W fun e W' => ∃ v E', e = .returned v ∧ Ext W E W' E' ∧ SR Φ W' E' s' ∧ RD W' E' d v
theorem does_call {P : Program} {σ : St} {o : Oper} {g : Nat} {ds : List D} {s' : Store} {d : D} (hc : callOf σ.regs o.op = some (g, ds)) (h : CallDo P g ds σ.store s' d) : Does P σ o s' d := by
 obtain ⟨hent, hcall⟩ := h
 intro Φ a W E hs hr K' Q' hk
 have hev : ∀ x d, ev σ.regs x = some d → RD W E d (a.eval x) := fun x d hx => RD_ev hr hx
 obtain ⟨dst, op, type, pos, after, guard⟩ := o
 simp only at hc
 unfold callOf at hc
 split at hc
 · rename_i c
   obtain ⟨callee, args, ts⟩ := c
   simp only at hc
   split at hc
   · rename_i f
     have key : ∀ (caps : Array Value) (cds : List D), a.eval f = .func (.func g) #[] caps → (∃ as, optList (ev σ.regs) args.toList = some as ∧ ds = as ++ cds) → caps.toList.length = cds.length →
         (∀ (i : Nat) (d : D) (v : Value), cds[i]? = some d → caps.toList[i]? = some v → RD W E d v) → Oper.wp P ⟨dst, .call ⟨.value f, args, ts⟩, type, pos, after, guard⟩ a W K' Q' := by
       intro caps cds hfv ⟨as, has, hds⟩ hcl hcr
       obtain ⟨h1, h2⟩ := opt_operands hev has
       have hvl : (args.toList.map a.eval ++ caps.toList).length = ds.length := by rw [hds, List.length_append, List.length_append, h1, hcl]
       have hvr : ∀ (i : Nat) (d : D) (v : Value), ds[i]? = some d → (args.toList.map a.eval ++ caps.toList)[i]? = some v → RD W E d v := by
         intro i d v hd hv
         rw [hds, List.getElem?_append] at hd
         rw [List.getElem?_append] at hv
         by_cases hi : i < as.length
         · rw [if_pos hi] at hd
           rw [if_pos (by omega)] at hv
           exact h2 i d v hd hv
         · rw [if_neg hi] at hd
           rw [if_neg (by omega), h1] at hv
           exact hcr _ d v hd hv
       have hC := hcall Φ W E (args.toList.map a.eval ++ caps.toList) hs hvl hvr
       have hrun := run_resolve (P := P) (W := W) (args := args) (ts := ts) (ty := type) hent hfv
       have harr : args.map a.eval ++ caps = (args.toList.map a.eval ++ caps.toList).toArray := by apply Array.ext'; simp
       unfold Oper.wp
       simp only [execOp]
       rw [hrun, Oper.upon_enter, harr]
       refine hC.mono fun e W' ⟨v, E', he, hx, hs', hv⟩ => ?_
       subst he
       exact hk _ _ _ hx hs' hv
     have hfv := hev f
     split at hc
     · rename_i g' caps as hfe has
       cases hc
       have hfr := hfv _ hfe
       generalize hff : a.eval f = fv at hfr
       cases hfr with
       | fn _ _ vs hl hcr => exact key vs.toArray caps hff ⟨as, has, rfl⟩ (by simpa using hl) (by simpa using hcr)
     · rename_i g' caps as hfe has
       cases hc
       have hfr := hfv _ hfe
       generalize hff : a.eval f = fv at hfr
       cases hfr with
       | v _ _ hfr => cases hfr with
         | fn _ _ vs hl hcr =>
           refine key vs.toArray (caps.map .v) hff ⟨as, has, rfl⟩ (by simpa using hl) ?_
           intro i d v hd hv
           simp only [List.getElem?_map, Option.map_eq_some_iff] at hd
           obtain ⟨x, hx, rfl⟩ := hd
           exact .v x v (hcr i x v hx (by simpa using hv))
     · cases hc
   · cases hc
 · cases hc
section
variable {P : Program} {T : Nat → Option TI} {all : Array Oper} {Q : St → Prop} {n : Nat} {r : List (Nat × D)} {s : Store} {os : List Oper}
theorem x_call {t : Nat} {op : Op} {ty : TypeId} {pos : String} {af : Array Edge} {g : Nat} {ds : List D} {s' : Store} {d : D} (hd : (decide (t < n)) = true) (hc : callOf (lk r) op = some (g, ds)) (h : CallDo P g ds s s' d)
    (k : opsX P T all Q os ⟨n, lk ((t, d) :: r), s'⟩) : opsX P T all Q (⟨some t, op, ty, pos, af, none⟩ :: os) ⟨n, lk r, s⟩ :=
  .inr ⟨rfl, (does_call hc h).leads hd k⟩
end
def V.sc1 : V → Bool
  | .int _ _ | .bool _ | .str _ | .np => true
  | _ => false
def V.sc : V → Bool
  | .tp vs => vs.all V.sc1
  | x => x.sc1
theorem RV.sc1 {W W' : World} {ok ok' : Nat → Prop} {x : V} {v : Value} (h : RV W ok x v) (hs : x.sc1 = true) : RV W' ok' x v := by
 cases h with
 | int k n => exact .int k n
 | bool b => exact .bool b
 | str s => exact .str s
 | np => exact .np
 | yl l => exact .yl l
 | _ => cases hs
theorem RV.sc {W W' : World} {ok ok' : Nat → Prop} {x : V} {v : Value} (h : RV W ok x v) (hs : x.sc = true) : RV W' ok' x v := by
 cases x with
 | tp vs =>
   cases h with
   | tp _ us hl h => exact .tp _ us hl fun i x v hx hv => (h i x v hx hv).sc1 (List.all_eq_true.1 hs x (List.mem_of_getElem? hx))
 | _ => exact h.sc1 hs
theorem pub_args {Φ : Fr} {W : World} {E : Env} {s : Store} (hs : SR Φ W E s) {ds : List D} {xs : List V} {vs : List Value} (hl : vs.length = ds.length) (hr : ∀ (i : Nat) (d : D) (v : Value), ds[i]? = some d → vs[i]? = some v → RD W E d v) (hxs : optList (pub s pubD) ds = some xs) :
    vs.length = xs.length ∧ ∀ (i : Nat) (x : V) (v : Value), xs[i]? = some x → vs[i]? = some v → RV W (envFrz Φ W E s (ds.flatMap (pubN s pubD))).ok x v := by
 obtain ⟨p1, p2⟩ := optList_some hxs
 refine ⟨by omega, fun i x v hx hv => ?_⟩
 obtain ⟨d, hd⟩ := get_of_len p1.symm hx
 exact pub_sound hs _ pubD d v x (hr i d v hd hv) (p2 i d x hd hx) fun m hm => List.mem_flatMap.2 ⟨d, List.mem_of_getElem? hd, hm⟩
theorem call_lend {P : Program} {g : Nat} {ds : List D} {xs : List V} {s : Store} {r : V} (hok : Ok P g xs r) (hxs : optList (pub s pubD) ds = some xs) (hsc : r.sc = true) : CallDo P g ds s s (.v r) := by
 obtain ⟨hent, hcall⟩ := hok
 refine ⟨hent, fun Φ W E vs hs hl hr => ?_⟩
 obtain ⟨h1, h2⟩ := pub_args hs hl hr hxs
 have hsf := hs.frz_sr (ds.flatMap (pubN s pubD))
 refine (hcall W _ vs (fun b hb => ((hsf.okd b).1 hb).1) h1 h2).mono fun e W' ⟨v, he, hb, hv⟩ => ?_
 obtain ⟨hs', hx'⟩ := hs.called hb
 exact ⟨v, _, he, hx', hs', .v r v (hv.sc hsc)⟩
theorem call_ok {P : Program} {g : Nat} {ds : List D} {xs : List V} {s : Store} {r : V} (hok : Ok P g xs r) (hxs : optList (pub s pubD) ds = some xs) : CallDo P g ds s (frz s (ds.flatMap (pubN s pubD))) (.v r) := by
 obtain ⟨hent, hcall⟩ := hok
 refine ⟨hent, fun Φ W E vs hs hl hr => ?_⟩
 obtain ⟨h1, h2⟩ := pub_args hs hl hr hxs
 have hsf := hs.frz_sr (ds.flatMap (pubN s pubD))
 have hxf := hs.frz_ext (ds.flatMap (pubN s pubD))
 refine (hcall W _ vs (fun b hb => ((hsf.okd b).1 hb).1) h1 h2).mono fun e W' ⟨v, he, hb, hv⟩ => ?_
 obtain ⟨hs', hx'⟩ := hsf.called hb
 refine ⟨v, _, he, hxf.trans hx', hs', .v r v (hv.mono fun b hbk => ⟨?_, rfl⟩)⟩
 rcases hbk with hbk | ⟨h1, h2⟩
 · exact (hx'.ok b hbk).1
 · refine ⟨h2, fun hF => ?_, fun n e i hn hf' hi => ?_⟩
   · have := (hs.fb b hF).1
     have := hs.keep.size
     omega
   · obtain ⟨j, hj, hrr⟩ := hsf.ent n e hn
     simp only [envFrz] at hi hj
     rw [hi] at hj; cases hj
     have := hrr.block_lt
     omega
end Go.Proofs.YtamjajacnfmgeaaGreat
namespace Go.Proofs.YtamjajacnfmgeaaGreat
open Go Go.RowKit
def All2 {α β : Type} (R : α → β → Prop) : List α → List β → Prop
  | [], [] => True
  | a :: as, b :: bs => R a b ∧ All2 R as bs
  | _, _ => False
theorem All2.of {α β : Type} {R : α → β → Prop} : ∀ {as : List α} {bs : List β}, bs.length = as.length → (∀ (i : Nat) (a : α) (b : β), as[i]? = some a → bs[i]? = some b → R a b) → All2 R as bs
  | [], [], _, _ => trivial
  | a :: as, b :: bs, hl, h => ⟨h 0 a b rfl rfl, All2.of (by simpa using hl) fun i x y hx hy => h (i + 1) x y (by simpa using hx) (by simpa using hy)⟩
  | [], _ :: _, hl, _ => by simp at hl
  | _ :: _, [], hl, _ => by simp at hl
theorem All2.len {α β : Type} {R : α → β → Prop} : ∀ {as : List α} {bs : List β}, All2 R as bs → bs.length = as.length
  | [], [], _ => rfl
  | _ :: _, _ :: _, h => by simp [h.2.len]
  | [], _ :: _, h => h.elim
  | _ :: _, [], h => h.elim
theorem All2.at {α β : Type} {R : α → β → Prop} : ∀ {as : List α} {bs : List β} {i : Nat} {a : α} {b : β}, All2 R as bs → as[i]? = some a → bs[i]? = some b → R a b
  | _ :: _, _ :: _, 0, _, _, h, ha, hb => by simp at ha hb; subst ha; subst hb; exact h.1
  | _ :: _, _ :: _, i + 1, _, _, h, ha, hb => All2.at h.2 (by simpa using ha) (by simpa using hb)
theorem All2.mono {α β : Type} {R R' : α → β → Prop} (hr : ∀ a b, R a b → R' a b) : ∀ {as : List α} {bs : List β}, All2 R as bs → All2 R' as bs
  | [], [], _ => trivial
  | _ :: _, _ :: _, h => ⟨hr _ _ h.1, h.2.mono hr⟩
  | [], _ :: _, h => h.elim
  | _ :: _, [], h => h.elim
theorem All2.mapL {α β γ : Type} {R : α → β → Prop} {f : γ → α} : ∀ {as : List γ} {bs : List β}, All2 R (as.map f) bs ↔ All2 (fun a b => R (f a) b) as bs
  | [], [] => Iff.rfl
  | _ :: _, _ :: _ => and_congr Iff.rfl All2.mapL
  | [], _ :: _ => Iff.rfl
  | _ :: _, [] => Iff.rfl
theorem All2.split {α β : Type} {R : α → β → Prop} : ∀ {as as' : List α} {bs : List β}, All2 R (as ++ as') bs → ∃ b1 b2, bs = b1 ++ b2 ∧ All2 R as b1 ∧ All2 R as' b2
  | [], _, bs, h => ⟨[], bs, rfl, trivial, h⟩
  | a :: as, as', b :: bs, h => by
    obtain ⟨b1, b2, e, h1, h2⟩ := All2.split (as := as) h.2
    exact ⟨b :: b1, b2, by rw [e]; rfl, ⟨h.1, h1⟩, h2⟩
  | _ :: _, _, [], h => h.elim
theorem All2.append {α β : Type} {R : α → β → Prop} : ∀ {as as' : List α} {bs bs' : List β}, All2 R as bs → All2 R as' bs' → All2 R (as ++ as') (bs ++ bs')
  | [], _, [], _, _, h => h
  | _ :: _, _, _ :: _, _, h, h' => ⟨h.1, h.2.append h'⟩
  | [], _, _ :: _, _, h, _ => h.elim
  | _ :: _, _, [], _, h, _ => h.elim
theorem RD.tp_of {W : World} {E : Env} {as : List D} {vs : List Value} (h : All2 (RD W E) as vs) : RD W E (.tp as) (.tuple vs.toArray) := .tp as vs h.len fun _ _ _ => h.at
structure BelowBut (n b : Nat) (W W' : World) : Prop where
  os : W'.os = W.os
  tape : W'.tape = W.tape
  output : W'.output = W.output
  size : W.heap.size ≤ W'.heap.size
  block : ∀ k, k < n → k ≠ b → W'.heap[k]? = W.heap[k]?
def env0 (B : Nat → Prop) (own : Option Own) : Env := ⟨B, fun m => if m = 0 then own else none⟩
def OwnOut (W : World) (B : Nat → Prop) (own : Option Own) (k : Nat) (rows : List (List V)) (v : Value) : Prop :=
  RD W (env0 B own) (slD 0 k rows) v ∧ (∀ e, slS k rows = some e → ∃ i, own = some i ∧ EntR W (env0 B own) i e) ∧ (rows = [] → own = none)
def OkO (P : Program) (f : Nat) (xs : List V) (k : Nat) (rows : List (List V)) (pre post : List V) : Prop :=
  Enters P f ∧ ∀ (W : World) (ok : Nat → Prop) (vs : List Value), (∀ b, ok b → b < W.heap.size) → vs.length = xs.length → (∀ (i : Nat) (x : V) (v : Value), xs[i]? = some x → vs[i]? = some v → RV W ok x v) →
    Calls P f vs.toArray W fun e W' => ∃ us sv ws, e = .returned (.tuple (us ++ sv :: ws).toArray) ∧ Below W.heap.size W W' ∧ ∃ (B : Nat → Prop) (own : Option Own),
      (∀ b, B b → ok b ∨ (W.heap.size ≤ b ∧ b < W'.heap.size)) ∧ (∀ i, own = some i → W.heap.size ≤ i.block ∧ ¬B i.block) ∧ All2 (RV W' B) pre us ∧ All2 (RV W' B) post ws ∧ OwnOut W' B own k rows sv
def updO (s : Store) (m : Nat) (o : Option Ent) : Store := fun n => if n = m then o else s n
theorem updO_some (s : Store) (m : Nat) (e : Ent) : updO s m (some e) = upd s m e := rfl
theorem updO_none {s : Store} {m : Nat} (h : s m = none) : updO s m none = s := by
 funext n; unfold updO; split
 · rename_i e; rw [e, h]
 · rfl
theorem frz_isNone {s : Store} {ns : List Nat} {m : Nat} (h : s m = none) : frz s ns m = none := by
 cases hf : frz s ns m with
 | none => rfl
 | some e => obtain ⟨e0, h0, _⟩ := frz_some hf; rw [h] at h0; cases h0
theorem call_own {P : Program} {f : Nat} {xs : List V} {k : Nat} {rows : List (List V)} {pre post : List V} {ds : List D} {s : Store} (m : Nat) (hok : OkO P f xs k rows pre post) (hxs : optList (pub s pubD) ds = some xs) (hm : s m = none) :
    CallDo P f ds s (updO (frz s (ds.flatMap (pubN s pubD))) m (slS k rows)) (.tp (pre.map .v ++ slD m k rows :: post.map .v)) := by
 obtain ⟨hent, hcall⟩ := hok
 refine ⟨hent, fun Φ W E vs hs hl hr => ?_⟩
 obtain ⟨h1, h2⟩ := pub_args hs hl hr hxs
 have hsf := hs.frz_sr (ds.flatMap (pubN s pubD))
 have hxf := hs.frz_ext (ds.flatMap (pubN s pubD))
 have hm1 := frz_isNone (ns := ds.flatMap (pubN s pubD)) hm
 refine (hcall W _ vs (fun b hb => ((hsf.okd b).1 hb).1) h1 h2).mono fun e W' ⟨us, sv, ws, he, hb, B, own, hB, hown, hus, hws, hrd, hent, hnil⟩ => ?_
 generalize frz s (ds.flatMap (pubN s pubD)) = s1 at *
 have hconv : ∀ (own' : Nat → Option Own) (s2 : Store), (∀ n e j, s2 n = some e → e.frz = false → own' n = some j → (s1 n = some e ∧ E.own n = some j) ∨ own = some j) → ∀ b, B b → okOf Φ W' own' s2 b := by
   intro own' s2 hall b hbB
   have hbo : ∀ j, own = some j → j.block ≠ b := fun j hj he => (hown j hj).2 (he ▸ hbB)
   rcases hB b hbB with hbk | ⟨g1, g2⟩
   · obtain ⟨c1, c2, c3⟩ := (hsf.okd b).1 hbk
     refine ⟨by have := hb.size; omega, c2, fun n e j hn hf hj => ?_⟩
     rcases hall n e j hn hf hj with ⟨q1, q2⟩ | q
     · exact c3 n e j q1 hf q2
     · exact hbo j q
   · refine ⟨g2, fun hF => by have := (hs.fb b hF).1; have := hs.keep.size; omega, fun n e j hn hf hj => ?_⟩
     rcases hall n e j hn hf hj with ⟨q1, q2⟩ | q
     · obtain ⟨j', hj', hrr⟩ := hsf.ent n e q1
       simp only [envFrz] at hj'
       rw [q2] at hj'; cases hj'
       have := hrr.block_lt
       omega
     · exact hbo j q
 cases rows with
 | nil =>
   have : updO s1 m (slS k []) = s1 := updO_none hm1
   rw [this]
   obtain ⟨hs', hx'⟩ := hsf.called hb
   have hc := hconv E.own s1 fun n e j hn _ hj => .inl ⟨hn, hj⟩
   have hv : ∀ {x : V} {v : Value}, RV W' B x v → RD W' ⟨okOf Φ W' E.own s1, E.own⟩ (.v x) v := fun h => .v _ _ (h.mono fun b hb => ⟨hc b hb, rfl⟩)
   refine ⟨_, _, he, hxf.trans hx', hs', RD.tp_of ?_⟩
   refine All2.append (All2.mapL.2 (hus.mono fun _ _ h => hv h)) ⟨?_, All2.mapL.2 (hws.mono fun _ _ h => hv h)⟩
   cases hrd with
   | nil => exact .nil
 | cons row rest =>
   obtain ⟨i, rfl, hE⟩ := hent _ rfl
   obtain ⟨hfr, hnB⟩ := hown i rfl
   have hturn : Turn Φ W W' (envFrz Φ W E s (ds.flatMap (pubN s pubD))) s1 m i := ⟨hb.os, hb.tape, hb.output, fun b hbl _ => hb.block b hbl, hb.size, hE.block_lt, .inl (by have := hs.keep.size; omega), .inl ⟨hm1, hfr⟩⟩
   have hc := hconv (upd E.own m i) (upd s1 m ⟨.sl k (row :: rest), false⟩) fun n e j hn _ hj => by
     by_cases hnm : n = m
     · subst hnm; rw [upd_same] at hj; exact .inr hj
     · rw [upd_ne _ _ hnm] at hn hj; exact .inl ⟨hn, hj⟩
   have hE1 : EntR W' (envOf Φ W' (envFrz Φ W E s (ds.flatMap (pubN s pubD))) (upd s1 m ⟨.sl k (row :: rest), false⟩) m i) i ⟨.sl k (row :: rest), false⟩ := by
     cases hE with
     | sl b k cs rows f vs t hb hl hk hn h => exact .sl b k cs _ false vs t hb hl hk hn fun i j row x v hr hx hv => (h i j row x v hr hx hv).mono fun b hb => ⟨hc b hb, rfl⟩
   have hsr := hturn.sr hsf hE1
   have hv : ∀ {x : V} {v : Value}, RV W' B x v → RD W' (envOf Φ W' (envFrz Φ W E s (ds.flatMap (pubN s pubD))) (upd s1 m ⟨.sl k (row :: rest), false⟩) m i) (.v x) v := fun h => .v _ _ (h.mono fun b hb => ⟨hc b hb, rfl⟩)
   refine ⟨_, _, he, hxf.trans (hturn.ext hsf), hsr, RD.tp_of ?_⟩
   refine All2.append (All2.mapL.2 (hus.mono fun _ _ h => hv h)) ⟨?_, All2.mapL.2 (hws.mono fun _ _ h => hv h)⟩
   cases hE with
   | sl b k cs rows f vs t hb hl hk hn h =>
     cases hrd with
     | osl _ _ tot off len b' cs' cap h' ho hc' hlc =>
       simp only [env0, if_true, Option.some.injEq, Own.sl.injEq] at h'
       obtain ⟨rfl, _, _, rfl⟩ := h'
       exact .osl m k _ 0 _ b cs cap (by simp [envOf, upd_same]) ho hc' hlc
     | oslOld _ _ tot off len b' tot' cs' a l c h' ht =>
       simp only [env0, if_true, Option.some.injEq, Own.sl.injEq] at h'
       obtain ⟨_, _, h3, _⟩ := h'
       simp only [List.length_cons] at h3
       omega
theorem results_run {P : Program} {T : Nat → Option TI} (hT : TabOk P T) {Φ : Fr} {σ : St} {a : Act} {W : World} {E : Env} (hs : SR Φ W E σ.store) (hr : ∀ t d, σ.regs t = some d → RD W E d (a.tmps.getD t undef)) {fn : Func} {ds : List D}
    (hds : optList (resD T σ) fn.results.toList = some ds) : ∃ vs : List Value, (results fn a.tmps).run P W = .ok (if hh : vs.toArray.size = 1 then vs.toArray[0] else .tuple vs.toArray) W ∧ All2 (RD W E) ds vs := by
 obtain ⟨d1, d2⟩ := optList_some hds
 have hone : ∀ rv ∈ fn.results.toList, ∃ v, (resSem a.tmps rv).run P W = .ok v W ∧ ∀ d, resD T σ rv = some d → RD W E d v := by
   intro rv hrv
   obtain ⟨i, hi⟩ := List.getElem?_of_mem hrv
   obtain ⟨d, hd⟩ := get_of_len d1 hi
   have hrd := d2 i rv d hi hd
   cases rv with
   | tmp t => exact ⟨_, rfl, fun d' hd' => hr t d' hd'⟩
   | cell b t =>
     simp only [resD] at hrd
     split at hrd
     · rename_i ti db ht hb
       obtain ⟨ii, u, z, h1, h2, h3, h4, _, htd⟩ := tab hT ht
       rw [h4, ← aggD_of htd] at hrd
       have hrb := hr b _ hb
       obtain ⟨w, hw, hrw⟩ := loadD_sound (P := P) hs h1 h2 hrb hrd
       have hpt : ∃ ad, a.tmps.getD b undef = .pointer (some ad) := by
         generalize a.tmps.getD b undef = v at hrb
         cases hrb with
         | v x v hx => cases x <;> simp only [loadD, reduceCtorEq] at hrd
                       cases hx; exact ⟨_, rfl⟩
         | ptr n off b hb => exact ⟨_, rfl⟩
         | optr n tot off b k cs hb => exact ⟨_, rfl⟩
         | optrOld n tot off b k tot' cs ad hb ht => exact ⟨_, rfl⟩
         | _ => simp only [loadD, reduceCtorEq] at hrd
       obtain ⟨ad, had⟩ := hpt
       refine ⟨w, ?_, fun d' hd' => ?_⟩
       · rw [had] at hw
         simp only [resSem, had]
         simpa [Instr.loadAt, Instr.sureAddr, asAddr] using hw
       · simp only [resD, ht, hb] at hd'
         rw [h4, ← aggD_of htd] at hd'
         rw [hrd] at hd'; cases hd'; exact hrw
     · cases hrd
 obtain ⟨vs, hvs, hl, hrel⟩ := run_mapM_some (P := P) (W := W) (f := resSem a.tmps) (R := fun rv v => ∀ d, resD T σ rv = some d → RD W E d v) fn.results.toList hone
 refine ⟨vs, ?_, All2.of (by omega) fun i d v hd hv => ?_⟩
 · rw [results_eq]
   simp only [Sem.run_bind, Sem.run_map, Array.mapM_eq_mapM_toList, hvs, Result.andThen_ok]
   rfl
 · obtain ⟨rv, hrv⟩ := get_of_len (l := vs) (m := fn.results.toList) (by omega) hv
   exact hrel i rv v hrv hv d (d2 i rv d hrv hd)
def EndsO (T : Nat → Option TI) (fn : Func) (n k : Nat) (rows : List (List V)) (pre post : List V) (e : Exit) (σ : St) : Prop :=
  (match e with | .normal | .ret => True | _ => False) ∧ optList (resD T σ) fn.results.toList = some (pre.map .v ++ slD n k rows :: post.map .v) ∧ σ.store n = slS k rows
theorem okO_of_sat {P : Program} {T : Nat → Option TI} (hT : TabOk P T) {f : Nat} {fn : Func} {c : Code} {xs : List V} {n k : Nat} {rows : List (List V)} {pre post : List V} (hf : P.funcs[f]? = some fn) (hb : fn.body = some c) (he : Enters P f) (h2 : 0 < pre.length + post.length)
    (h : Sat P c ⟨xs.length + (fn.ntmps - xs.length), lk (initL 0 xs), lk []⟩ (EndsO T fn n k rows pre post)) : OkO P f xs k rows pre post := by
 refine ⟨he, fun W ok vs hok hl hv => ?_⟩
 refine calls_of_wp hf hb ?_
 have hfit : Fits ⟨fun b => b < W.heap.size ∧ ¬ok b, fun _ => False, W⟩ ⟨xs.length + (fn.ntmps - xs.length), lk (initL 0 xs), lk []⟩ { tmps := vs.toArray ++ Array.replicate (fn.ntmps - vs.toArray.size) undef, defers := [] } W := by
   refine ⟨⟨⟨okOf ⟨fun b => b < W.heap.size ∧ ¬ok b, fun _ => False, W⟩ W (fun _ => none) (lk []), fun _ => none⟩, ⟨⟨rfl, rfl, rfl, Nat.le_refl _, fun _ _ _ => rfl⟩, fun _ _ => rfl, fun n e hn => by simp [lk] at hn, fun n e i hn => by simp [lk] at hn, fun b => Iff.rfl, fun n m e e' i i' _ hn => by simp [lk] at hn, fun b hF => ⟨hF.1, fun h => h⟩⟩, ?_⟩, by simp [hl], rfl⟩
   intro t d ht
   obtain ⟨j, x, rfl, hx, rfl⟩ := lk_initL ht
   obtain ⟨v, hvj⟩ := get_of_len hl hx
   have hjl : j < vs.length := (List.getElem?_eq_some_iff.1 hvj).1
   have : (vs.toArray ++ Array.replicate (fn.ntmps - vs.toArray.size) undef).getD (0 + j) undef = v := by
     rw [Array.getD_eq_getD_getElem?, Array.getElem?_append_left (by simpa using hjl)]
     simp [hvj]
   simp only [this]
   exact .v x v ((hv j x v hx hvj).mono fun b hb => ⟨⟨hok b hb, fun hF => hF.2 hb, fun n e i hn => by simp [lk] at hn⟩, rfl⟩)
 refine wp_mono (h _ _ W hfit) fun e a' W' ⟨s, ⟨hq1, hq2, hq3⟩, hfs⟩ => ?_
 obtain ⟨⟨E, hs, hr⟩, hsz, hdf⟩ := hfs
 obtain ⟨us, hrun, hall⟩ := results_run hT hs hr hq2
 obtain ⟨u1, u2, rfl, hu1, hu2⟩ := hall.split
 cases u2 with
 | nil => exact hu2.elim
 | cons sv ws =>
 obtain ⟨hsv, hws⟩ := hu2
 have hlen : ¬ (u1 ++ sv :: ws).toArray.size = 1 := by
   have e1 := hu1.len
   have e2 := hws.len
   simp at e1 e2 ⊢
   omega
 rw [dif_neg hlen] at hrun
 have rv_of : ∀ {x : V} {v : Value}, RD W' E (.v x) v → RV W' E.ok x v := fun h => by cases h with | v _ _ h => exact h
 have fin : a'.defers = [] ∧ ∃ v, (results fn a'.tmps).run P W' = .ok v W' ∧ ∃ us sv ws, Ending.returned v = .returned (.tuple (us ++ sv :: ws).toArray) ∧ Below W.heap.size W W' ∧ ∃ (B : Nat → Prop) (own : Option Own),
     (∀ b, B b → ok b ∨ (W.heap.size ≤ b ∧ b < W'.heap.size)) ∧ (∀ i, own = some i → W.heap.size ≤ i.block ∧ ¬B i.block) ∧ All2 (RV W' B) pre us ∧ All2 (RV W' B) post ws ∧ OwnOut W' B own k rows sv := by
   refine ⟨hdf, _, hrun, u1, sv, ws, rfl, ⟨hs.keep.os, hs.keep.tape, hs.keep.output, hs.keep.size, fun k hk => hs.keep.block k hk (fun h => h)⟩, E.ok, (slS k rows).bind fun _ => E.own n, fun b hbk => ?_, fun i hi => ?_, (All2.mapL.1 hu1).mono fun _ _ h => rv_of h, (All2.mapL.1 hws).mono fun _ _ h => rv_of h, ?_⟩
   · obtain ⟨h1, h2, _⟩ := (hs.okd b).1 hbk
     by_cases hlt : b < W.heap.size
     · exact .inl (Classical.byContradiction fun hn => h2 ⟨hlt, hn⟩)
     · exact .inr ⟨by omega, h1⟩
   · cases rows with
     | nil => cases hi
     | cons row rest =>
       change E.own n = some i at hi
       refine ⟨(hs.base n _ i hq3 hi).elim (fun h => h) (fun h => h.elim), fun hB => ?_⟩
       exact ((hs.okd _).1 hB).2.2 n _ i hq3 rfl hi rfl
   · cases rows with
     | nil =>
       cases hsv with
       | nil => exact ⟨.nil, ⟨fun e he => (by simp [slS] at he), fun _ => rfl⟩⟩
     | cons row rest =>
       obtain ⟨i, hi, hE⟩ := hs.ent n _ hq3
       refine ⟨?_, fun e he => ⟨i, hi, ?_⟩, fun h => by cases h⟩
       · cases hsv with
         | osl _ _ tot off len b cs cap h ho hc hlc => exact .osl 0 k _ 0 _ b cs cap (by simpa [env0, slS] using h) ho hc hlc
         | oslOld _ _ tot off len b tot' cs a l c h ht => exact .oslOld 0 k _ 0 _ b tot' cs a l c (by simpa [env0, slS] using h) ht
       · cases he
         cases hE with
         | sl b k cs rows f vs t hb hl hk hn h => exact .sl b k cs _ false vs t hb hl hk hn h
 cases e with
 | normal => exact fin
 | ret => exact fin
 | _ => exact hq1.elim
end Go.Proofs.YtamjajacnfmgeaaGreat
