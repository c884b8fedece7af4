/-
  The abstract machine on code: states, what it means that code ends in a state, calls. Condition: the table of types is the program's.
  The abstract machine on code: the rules for each form of code, and a function's contract out of its body. Condition: the table of types is the program's.
-/
import Derived.Test.YtamjajacnfmgeaaGreatK06
set_option linter.all false
namespace Go.Proofs.YtamjajacnfmgeaaGreat
open Go Go.RowKit
def mentOk (has : Nat → Bool) : Nat → D → Bool
  | _, .v _ | _, .nil | _, .any => true
  | _, .ptr n _ | _, .osl n _ _ _ _ | _, .optr n _ _ | _, .omap n => has n
  | k + 1, .ag cs | k + 1, .tp cs | k + 1, .fn _ cs => cs.all (mentOk has k)
  | 0, _ => false
theorem RD.keepTo {W : World} {E E' : Env} {has : Nat → Bool} (hok : ∀ b, E.ok b → E'.ok b) (hown : ∀ n i, has n = true → E.own n = some i → E'.own n = some i) : ∀ (k : Nat) {d : D} {v : Value}, mentOk has k d = true → RD W E d v → RD W E' d v := by
 have hv : ∀ {x : V} {v : Value}, RV W E.ok x v → RV W E'.ok x v := fun h => h.mono fun b hb => ⟨hok b hb, rfl⟩
 have atom : ∀ (k : Nat) {d : D} {v : Value}, (∀ cs, d ≠ .ag cs) → (∀ cs, d ≠ .tp cs) → (∀ f cs, d ≠ .fn f cs) → mentOk has k d = true → RD W E d v → RD W E' d v := by
   intro k d v h1 h2 h3 hm h
   cases h with
   | any v => exact .any v
   | v x v h => exact .v x v (hv h)
   | nil => exact .nil
   | ptr n off b h => exact .ptr n off b (hown _ _ (by cases k <;> exact hm) h)
   | osl n k' tot off len b cs cap h ho hc hlc => exact .osl n k' tot off len b cs cap (hown _ _ (by cases k <;> exact hm) h) ho hc hlc
   | oslOld n k' tot off len b tot' cs a l c h ht => exact .oslOld n k' tot off len b tot' cs a l c (hown _ _ (by cases k <;> exact hm) h) ht
   | optr n tot off b k' cs h => exact .optr n tot off b k' cs (hown _ _ (by cases k <;> exact hm) h)
   | optrOld n tot off b k' tot' cs a h ht => exact .optrOld n tot off b k' tot' cs a (hown _ _ (by cases k <;> exact hm) h) ht
   | omap n b h => exact .omap n b (hown _ _ (by cases k <;> exact hm) h)
   | ag cs vs hl h => exact (h1 cs rfl).elim
   | tp cs vs hl h => exact (h2 cs rfl).elim
   | fn f cs vs hl h => exact (h3 f cs rfl).elim
 intro k
 induction k with
 | zero =>
   intro d v hm h
   cases d with
   | ag cs => cases hm
   | tp cs => cases hm
   | fn f cs => cases hm
   | _ => exact atom 0 (by simp) (by simp) (by simp) hm h
 | succ k ih =>
   intro d v hm h
   cases d with
   | ag cs =>
     cases h with
     | ag _ vs hl h => exact .ag cs vs hl fun i x v hx hv' => ih (List.all_eq_true.1 hm x (List.mem_of_getElem? hx)) (h i x v hx hv')
   | tp cs =>
     cases h with
     | tp _ vs hl h => exact .tp cs vs hl fun i x v hx hv' => ih (List.all_eq_true.1 hm x (List.mem_of_getElem? hx)) (h i x v hx hv')
   | fn f cs =>
     cases h with
     | fn _ _ vs hl h => exact .fn f cs vs hl fun i x v hx hv' => ih (List.all_eq_true.1 hm x (List.mem_of_getElem? hx)) (h i x v hx hv')
   | _ => exact atom (k + 1) (by simp) (by simp) (by simp) hm h
def Ent.mentOk (has : Nat → Bool) (k : Nat) (e : Ent) : Bool :=
  match e.obj with
  | .cells cs => cs.all (Go.Proofs.YtamjajacnfmgeaaGreat.mentOk has k)
  | _ => true
structure Fits (Φ : Fr) (σ : St) (a : Act) (W : World) : Prop where
  ex : ∃ E, SR Φ W E σ.store ∧ ∀ t d, σ.regs t = some d → RD W E d (a.tmps.getD t undef)
  size : a.tmps.size = σ.n
  defers : a.defers = []
structure Weak (σ σ' : St) : Prop where
  n : σ'.n = σ.n
  regs : ∀ t d, σ'.regs t = some d → σ.regs t = some d ∧ mentOk (fun n => (σ'.store n).isSome) pubD d = true
  store : ∀ n e, σ'.store n = some e → σ.store n = some e ∧ e.mentOk (fun n => (σ'.store n).isSome) pubD = true
theorem Fits.weak {Φ : Fr} {σ σ' : St} {a : Act} {W : World} (h : Fits Φ σ a W) (hw : Weak σ σ') : Fits Φ σ' a W := by
 obtain ⟨⟨E, hs, hr⟩, hsz, hd⟩ := h
 let own' : Nat → Option Own := fun n => if (σ'.store n).isSome then E.own n else none
 let E' : Env := ⟨okOf Φ W own' σ'.store, own'⟩
 have hok : ∀ b, E.ok b → E'.ok b := by
   intro b hb
   obtain ⟨h1, h2, h3⟩ := (hs.okd b).1 hb
   refine ⟨h1, h2, fun n e i hn hf hi => ?_⟩
   have h4 := (hw.store n e hn).1
   simp only [own', hn, Option.isSome_some, if_true] at hi
   exact h3 n e i h4 hf hi
 have hown : ∀ n i, (σ'.store n).isSome = true → E.own n = some i → E'.own n = some i := by
   intro n i hn hi
   simp only [E', own', hn, if_true]; exact hi
 have some_of : ∀ n e i, σ'.store n = some e → own' n = some i → E.own n = some i := by
   intro n e i hn hi
   simpa only [own', hn, Option.isSome_some, if_true] using hi
 refine ⟨⟨E', ⟨hs.keep, fun n hn => by simp [E', own', hn], fun n e hn => ?_, fun n e i hn hi => hs.base n e i (hw.store n e hn).1 (some_of n e i hn hi), fun b => Iff.rfl, ?_, hs.fb⟩, fun t d ht => ?_⟩, by rw [hsz, hw.n], hd⟩
 · obtain ⟨h1, h2⟩ := hw.store n e hn
   obtain ⟨i, hi, hr⟩ := hs.ent n e h1
   refine ⟨i, by simp [E', own', hn, hi], ?_⟩
   have hvm : ∀ {x : V} {v : Value}, RV W E.ok x v → RV W E'.ok x v := fun h => h.mono fun b hb => ⟨hok b hb, rfl⟩
   cases hr with
   | cells b ds f vs t hb hl hc => exact .cells b ds f vs t hb hl fun i d v hd' hv => (hc i d v hd' hv).keepTo hok hown pubD (List.all_eq_true.1 h2 d (List.mem_of_getElem? hd'))
   | sl b k cs rows f vs t hb hl hk hn' hc => exact .sl b k cs rows f vs t hb hl hk hn' fun i j row x v hr hx hv => hvm (hc i j row x v hr hx hv)
   | mp b es f ents clock hb hl hc => exact .mp b es f ents clock hb hl fun i x e hx he => ⟨hvm (hc i x e hx he).1, hvm (hc i x e hx he).2⟩
 · intro n m e e' i i' hnm hn hm hf hi hi'
   exact hs.inj n m e e' i i' hnm (hw.store n e hn).1 (hw.store m e' hm).1 hf (some_of n e i hn hi) (some_of m e' i' hm hi')
 · obtain ⟨h1, h2⟩ := hw.regs t d ht
   exact (hr t d h1).keepTo hok hown pubD h2
theorem SR.called {Φ : Fr} {W W' : World} {E : Env} {s : Store} (hs : SR Φ W E s) (hb : Below W.heap.size W W') :
    SR Φ W' ⟨okOf Φ W' E.own s, E.own⟩ s ∧ Ext W E W' ⟨okOf Φ W' E.own s, E.own⟩ := by
 have hext : Ext W E W' ⟨okOf Φ W' E.own s, E.own⟩ := by
   refine ⟨fun b hbk => ?_, fun n i hi => ⟨i, hi, Own.le_refl i⟩⟩
   obtain ⟨h1, h2, h3⟩ := (hs.okd b).1 hbk
   exact ⟨⟨by have := hb.size; omega, h2, h3⟩, hb.block b h1⟩
 refine ⟨⟨⟨hb.os.trans hs.keep.os, hb.tape.trans hs.keep.tape, hb.output.trans hs.keep.output, Nat.le_trans hs.keep.size hb.size, fun k hk hg => (hb.block k (by have := hs.keep.size; omega)).trans (hs.keep.block k hk hg)⟩, hs.none, fun n e hn => ?_, hs.base, fun b => Iff.rfl, hs.inj, hs.fb⟩, hext⟩
 obtain ⟨i, hi, hr⟩ := hs.ent n e hn
 exact ⟨i, hi, hr.mono hext (hb.block _ hr.block_lt)⟩
def Enters (P : Program) (f : Nat) : Prop := ∀ (args : Array Value) (W : World), (callFunc f args).run P W = .ok (.enter f args) W
def Ok (P : Program) (f : Nat) (xs : List V) (r : V) : Prop :=
  Enters P f ∧ ∀ (W : World) (ok : Nat → Prop) (vs : List Value), (∀ b, ok b → b < W.heap.size) → vs.length = xs.length → (∀ (i : Nat) (x : V) (v : Value), xs[i]? = some x → vs[i]? = some v → RV W ok x v) →
    Calls P f vs.toArray W fun e W' => ∃ v, e = .returned v ∧ Below W.heap.size W W' ∧ RV W' (fun b => ok b ∨ (W.heap.size ≤ b ∧ b < W'.heap.size)) r v
def callOf (r : Nat → Option D) (op : Op) : Option (Nat × List D) :=
  match op with
  | .call c => match c.callee with
    | .value f => match ev r f, optList (ev r) c.args.toList with
      | some (.fn g caps), some ds => some (g, ds ++ caps)
      | some (.v (.fn g caps)), some ds => some (g, ds ++ caps.map .v)
      | _, _ => none
    | _ => none
  | _ => none
def dstOk (n : Nat) : Option Tmp → Bool
  | some t => t < n
  | none => true
def St.put (σ : St) (dst : Option Tmp) (s : Store) (d : D) : St :=
  { σ with store := s, regs := match dst with
    | some t => upd σ.regs t d
    | none => σ.regs }
theorem Fits.put {Φ : Fr} {σ : St} {a : Act} {W W' : World} {E E' : Env} {s' : Store} (hr : ∀ t d, σ.regs t = some d → RD W E d (a.tmps.getD t undef)) (hsz : a.tmps.size = σ.n) (hdf : a.defers = []) (hx : Ext W E W' E') (hs' : SR Φ W' E' s') {dst : Option Tmp} {d : D} {v : Value}
    (hd : RD W' E' d v) (hk : dstOk σ.n dst = true) : Fits Φ (σ.put dst s' d) (a.put dst v) W' := by
 cases dst with
 | none => exact ⟨⟨E', hs', fun t d ht => (hr t d ht).mono hx⟩, hsz, hdf⟩
 | some t =>
   have ht : t < a.tmps.size := by simpa [dstOk, hsz] using hk
   refine ⟨⟨E', hs', fun q e hq => ?_⟩, by simpa [Act.put, St.put] using hsz, hdf⟩
   simp only [St.put, upd] at hq
   by_cases hqt : q = t
   · subst hqt
     rw [if_pos rfl] at hq
     cases hq
     have : (a.put (some q) v).tmps.getD q undef = v := by simp [Act.put, ht]
     rw [this]; exact hd
   · rw [if_neg hqt] at hq
     have : (a.put (some t) v).tmps.getD q undef = a.tmps.getD q undef := by simp [Act.put, Array.getElem?_setIfInBounds_ne (Ne.symm hqt)]
     rw [this]; exact (hr q e hq).mono hx
def guardD (all : Array Oper) (r : Nat → Option D) : Option (Nat × Bool) → Option Bool
  | none => some true
  | some (j, want) => match ((all[j]?).bind (·.dst)).bind r with
    | some (.v (.bool b)) => some (b == want)
    | some (.v (.tp [])) => some false
    | _ => none
def stepGo (P : Program) (T : Nat → Option TI) (σ : St) (o : Oper) (K : St → Prop) : Prop :=
  match callOf σ.regs o.op with
  | some (g, ds) => ∃ xs r, optList (pub σ.store pubD) ds = some xs ∧ Ok P g xs r ∧ K (σ.put o.dst (frz σ.store (ds.flatMap (pubN σ.store pubD))) (.v r))
  | none => match opEval T σ.store o.dst (ev σ.regs) o.op with
    | some (d, s') => K (σ.put o.dst s' d)
    | none => False
def stepWp (P : Program) (T : Nat → Option TI) (all : Array Oper) (σ : St) (o : Oper) (K : St → Prop) : Prop :=
  dstOk σ.n o.dst = true ∧ match guardD all σ.regs o.guard with
    | some true => stepGo P T σ o K
    | some false => K (σ.put o.dst σ.store (.v (.tp [])))
    | none => False
def opsWp (P : Program) (T : Nat → Option TI) (all : Array Oper) (Q : St → Prop) : List Oper → St → Prop
  | [], σ => Q σ
  | o :: os, σ => stepWp P T all σ o (opsWp P T all Q os)
theorem yielded_bool {all : Array Oper} {tmps : Array Value} {j t : Nat} {b : Bool} (h : (all[j]?).bind (·.dst) = some t) (ht : t < tmps.size) (hv : tmps.getD t undef = .bool b) : yielded all tmps j = some b := by
 have : tmps[t]? = some (.bool b) := by
   rw [Array.getElem?_eq_getElem ht]
   simp only [Array.getD_eq_getD_getElem?, Array.getElem?_eq_getElem ht, Option.getD_some] at hv
   rw [hv]
 simp [yielded, h, this]
theorem yielded_tuple {all : Array Oper} {tmps : Array Value} {j t : Nat} {vs : Array Value} (h : (all[j]?).bind (·.dst) = some t) (hv : tmps.getD t undef = .tuple vs) : yielded all tmps j = none := by
 simp only [yielded, h, Option.bind_some]
 cases ht : tmps[t]? with
 | none => rfl
 | some v =>
   simp only [Array.getD_eq_getD_getElem?, ht, Option.getD_some] at hv
   subst hv; rfl
theorem run_resolve {P : Program} {W : World} {ρ : Operand → Value} {f : Operand} {g : Nat} {caps : Array Value} {args : Array Operand} {ts : Array TypeId} {ty : TypeId} (he : Enters P g) (hf : ρ f = .func (.func g) #[] caps) :
    (do let d ← resolve ρ ⟨.value f, args, ts⟩ ty; invoke d.target d.args : Sem Next).run P W = .ok (.enter g (args.map ρ ++ caps)) W := by
 simp [resolve, hf, Deferred.ofValue, invoke]
 exact he _ _
theorem stepWp_sound {P : Program} {T : Nat → Option TI} (hT : TabOk P T) {all : Array Oper} {σ : St} {o : Oper} {K : St → Prop} (h : stepWp P T all σ o K) {Φ : Fr} {a : Act} {W : World} (hf : Fits Φ σ a W) {K' : Act → World → Prop} {Q' : Exit → Act → World → Prop}
    (hk : ∀ σ' a' W', K σ' → Fits Φ σ' a' W' → K' a' W') :
    if Region.wanted o (yielded all a.tmps) then o.wp P a W K' Q' else K' (a.put o.dst undef) W := by
 obtain ⟨hdst, h⟩ := h
 obtain ⟨⟨E, hs, hr⟩, hsz, hdf⟩ := hf
 have hev : ∀ x d, ev σ.regs x = some d → RD W E d (a.eval x) := fun x d hx => RD_ev hr hx
 have go : stepGo P T σ o K → o.wp P a W K' Q' := by
   intro h
   unfold stepGo at h
   split at h
   ·
     rename_i g ds hc
     obtain ⟨xs, r, hxs, hok, hK⟩ := h
     obtain ⟨hent, hcall⟩ := hok
     obtain ⟨dst, op, type, pos, after, guard⟩ := o
     simp only at hc hdst hK
     unfold callOf at hc
     split at hc
     · rename_i c
       obtain ⟨callee, args, ts⟩ := c
       simp only at hc
       split at hc
       · rename_i f
         have key : ∀ (caps : Array Value) (cds : List D), a.eval f = .func (.func g) #[] caps → (∃ as, optList (ev σ.regs) args.toList = some as ∧ ds = as ++ cds) → caps.toList.length = cds.length →
             (∀ (i : Nat) (d : D) (v : Value), cds[i]? = some d → caps.toList[i]? = some v → RD W E d v) → Oper.wp P ⟨dst, .call ⟨.value f, args, ts⟩, type, pos, after, guard⟩ a W K' Q' := by
           intro caps cds hfv ⟨as, has, hds⟩ hcl hcr
           obtain ⟨h1, h2⟩ := opt_operands hev has
           have hvl : (args.toList.map a.eval ++ caps.toList).length = ds.length := by rw [hds, List.length_append, List.length_append, h1, hcl]
           have hvr : ∀ (i : Nat) (d : D) (v : Value), ds[i]? = some d → (args.toList.map a.eval ++ caps.toList)[i]? = some v → RD W E d v := by
             intro i d v hd hv
             rw [hds, List.getElem?_append] at hd
             rw [List.getElem?_append] at hv
             by_cases hi : i < as.length
             · rw [if_pos hi] at hd
               rw [if_pos (by omega)] at hv
               exact h2 i d v hd hv
             · rw [if_neg hi] at hd
               rw [if_neg (by omega), h1] at hv
               exact hcr _ d v hd hv
           obtain ⟨p1, p2⟩ := optList_some hxs
           have hsf := hs.frz_sr (ds.flatMap (pubN σ.store pubD))
           have hxf := hs.frz_ext (ds.flatMap (pubN σ.store pubD))
           have hrv : ∀ (i : Nat) (x : V) (v : Value), xs[i]? = some x → (args.toList.map a.eval ++ caps.toList)[i]? = some v → RV W (envFrz Φ W E σ.store (ds.flatMap (pubN σ.store pubD))).ok x v := by
             intro i x v hx hv
             obtain ⟨d, hd⟩ := get_of_len p1.symm hx
             exact pub_sound hs _ pubD d v x (hvr i d v hd hv) (p2 i d x hd hx) fun m hm => List.mem_flatMap.2 ⟨d, List.mem_of_getElem? hd, hm⟩
           have hC := hcall W _ (args.toList.map a.eval ++ caps.toList) (fun b hb => ((hsf.okd b).1 hb).1) (by omega) hrv
           have hrun := run_resolve (P := P) (W := W) (args := args) (ts := ts) (ty := type) hent hfv
           have harr : args.map a.eval ++ caps = (args.toList.map a.eval ++ caps.toList).toArray := by apply Array.ext'; simp
           unfold Oper.wp
           simp only [execOp]
           rw [hrun, Oper.upon_enter, harr]
           refine hC.mono fun e W' ⟨v, he, hb, hv⟩ => ?_
           subst he
           obtain ⟨hs', hx'⟩ := hsf.called hb
           refine hk _ _ _ hK (Fits.put hr hsz hdf (hxf.trans hx') hs' (.v r v (hv.mono fun b hbk => ⟨?_, rfl⟩)) hdst)
           rcases hbk with hbk | ⟨h1, h2⟩
           · exact (hx'.ok b hbk).1
           · refine ⟨h2, fun hF => ?_, fun n e i hn hf' hi => ?_⟩
             · have := (hs.fb b hF).1
               have := hs.keep.size
               omega
             · obtain ⟨j, hj, hrr⟩ := hsf.ent n e hn
               simp only [envFrz] at hi hj
               rw [hi] at hj; cases hj
               have := hrr.block_lt
               omega
         have hfv := hev f
         split at hc
         · rename_i g' caps as hfe has
           cases hc
           have hfr := hfv _ hfe
           generalize hff : a.eval f = fv at hfr
           cases hfr with
           | fn _ _ vs hl hcr => exact key vs.toArray caps hff ⟨as, has, rfl⟩ (by simpa using hl) (by simpa using hcr)
         · rename_i g' caps as hfe has
           cases hc
           have hfr := hfv _ hfe
           generalize hff : a.eval f = fv at hfr
           cases hfr with
           | v _ _ hfr => cases hfr with
             | fn _ _ vs hl hcr =>
               refine key vs.toArray (caps.map .v) hff ⟨as, has, rfl⟩ (by simpa using hl) ?_
               intro i d v hd hv
               simp only [List.getElem?_map, Option.map_eq_some_iff] at hd
               obtain ⟨x, hx, rfl⟩ := hd
               exact .v x v (hcr i x v hx (by simpa using hv))
         · cases hc
       · cases hc
     · cases hc
   ·
     split at h
     · rename_i d s' he
       obtain ⟨nx, v, W', E', h1, h2, h3, h4, h5⟩ := opEval_sound hT hs hev he
       unfold Oper.wp
       rw [h1]
       rcases h2 with rfl | ⟨rfl, rfl⟩
       · exact hk _ _ _ h (Fits.put hr hsz hdf h3 h4 h5 hdst)
       · exact hk _ _ _ h (Fits.put hr hsz hdf h3 h4 h5 hdst)
     · exact h.elim
 have skip : K (σ.put o.dst σ.store (.v (.tp []))) → K' (a.put o.dst undef) W := fun h =>
   hk _ _ _ h (Fits.put hr hsz hdf (Ext.refl W E) hs (.v _ _ (.tp [] [] rfl fun i x v hx => by simp at hx)) hdst)
 have wanted : ∀ b, guardD all σ.regs o.guard = some b → Region.wanted o (yielded all a.tmps) = b := by
   intro b hb
   cases hg : o.guard with
   | none => rw [hg] at hb; simp only [guardD, Option.some.injEq] at hb; subst hb; simp [Region.wanted, hg]
   | some gw =>
     obtain ⟨j, want⟩ := gw
     rw [hg] at hb
     simp only [guardD] at hb
     cases hd : (all[j]?).bind (·.dst) with
     | none => simp [hd] at hb
     | some t =>
       simp only [hd, Option.bind_some] at hb
       split at hb
       · rename_i c hrt
         cases hb
         have hrd := hr t _ hrt
         have hvb : a.tmps.getD t undef = .bool c := by
           generalize a.tmps.getD t undef = v at hrd
           cases hrd with
           | v _ _ hrd => cases hrd; rfl
         have htl : t < a.tmps.size := by
           rcases Nat.lt_or_ge t a.tmps.size with h' | h'
           · exact h'
           · simp [Array.getElem?_eq_none h', undef] at hvb
         simp only [Region.wanted, hg, yielded_bool hd htl hvb]
         cases c <;> cases want <;> rfl
       · rename_i hrt
         cases hb
         have hrd := hr t _ hrt
         have hvb : ∃ vs, a.tmps.getD t undef = .tuple vs := by
           generalize a.tmps.getD t undef = v at hrd
           cases hrd with
           | v _ _ hrd => cases hrd; exact ⟨_, rfl⟩
         obtain ⟨vs, hvb⟩ := hvb
         simp only [Region.wanted, hg, yielded_tuple hd hvb]
         rfl
       · cases hb
 split at h
 · rename_i hb
   rw [wanted _ hb, if_pos rfl]
   exact go h
 · rename_i hb
   rw [wanted _ hb]
   simp only [Bool.false_eq_true, if_false]
   exact skip h
 · exact h.elim
end Go.Proofs.YtamjajacnfmgeaaGreat
namespace Go.Proofs.YtamjajacnfmgeaaGreat
open Go Go.RowKit
def Sat (P : Program) (c : Code) (σ : St) (Q : Exit → St → Prop) : Prop :=
  ∀ (Φ : Fr) (a : Act) (W : World), Fits Φ σ a W → c.wp P (fun e a' W' => ∃ σ', Q e σ' ∧ Fits Φ σ' a' W') a W
def thenQ (k : St → Prop) (Q : Exit → St → Prop) : Exit → St → Prop
  | .normal, σ => k σ
  | e, σ => Q e σ
def blockQ (id : Nat) (Q : Exit → St → Prop) : Exit → St → Prop
  | .exit i, σ => if i = id then Q .normal σ else Q (.exit i) σ
  | e, σ => Q e σ
section
variable {P : Program} {σ σ' : St} {Q Q' : Exit → St → Prop}
theorem Sat.mono {c : Code} (h : Sat P c σ Q) (hq : ∀ e σ, Q e σ → Q' e σ) : Sat P c σ Q' :=
  fun Φ a W hf => wp_mono (h Φ a W hf) fun e _ _ ⟨s, h1, h2⟩ => ⟨s, hq e s h1, h2⟩
theorem Sat.weak {c : Code} (hw : Weak σ σ') (h : Sat P c σ' Q) : Sat P c σ Q := fun Φ a W hf => h Φ a W (hf.weak hw)
theorem Sat.skip (h : Q .normal σ) : Sat P .skip σ Q := fun _ _ _ hf => wp_skip ⟨σ, h, hf⟩
theorem Sat.exit {id : Nat} (h : Q (.exit id) σ) : Sat P (.exit id) σ Q := fun _ _ _ hf => wp_exit ⟨σ, h, hf⟩
theorem Sat.ret (h : Q .ret σ) : Sat P .ret σ Q := fun _ _ _ hf => wp_ret ⟨σ, h, hf⟩
theorem Sat.seq {x y : Code} (h : Sat P x σ (thenQ (fun σ' => Sat P y σ' Q) Q)) : Sat P (.seq x y) σ Q := by
 intro Φ a W hf
 refine wp_seq (wp_mono (h Φ a W hf) fun e a' W' ⟨s, h1, h2⟩ => ?_)
 cases e with
 | normal => exact h1 Φ a' W' h2
 | _ => exact ⟨s, h1, h2⟩
theorem Sat.cond {c : Operand} {x y : Code} {t : Bool} (hc : ev σ.regs c = some (.v (.bool t))) (ht : t = true → Sat P x σ Q) (hf : t = false → Sat P y σ Q) : Sat P (.cond c x y) σ Q := by
 intro Φ a W hfit
 have hfit' := hfit
 obtain ⟨⟨E, hs, hr⟩, _, _⟩ := hfit'
 have hcv := RD_ev hr hc
 have hcv : a.eval c = .bool t := by
   generalize a.eval c = v at hcv
   cases hcv with
   | v _ _ h => cases h; rfl
 refine wp_cond hcv ?_
 cases t
 · exact hf rfl Φ a W hfit
 · exact ht rfl Φ a W hfit
theorem Sat.block {id : Nat} {c : Code} (h : Sat P c σ (blockQ id Q)) : Sat P (.block id c) σ Q := by
 intro Φ a W hf
 refine wp_block (wp_mono (h Φ a W hf) fun e a' W' ⟨s, h1, h2⟩ => ?_)
 cases e with
 | exit i =>
   simp only [blockQ] at h1
   simp only [Exit.inBlock]
   split at h1
   · rename_i hi; rw [if_pos hi]; exact ⟨s, h1, h2⟩
   · rename_i hi; rw [if_neg hi]; exact ⟨s, h1, h2⟩
 | _ => exact ⟨s, h1, h2⟩
def LSat (P : Program) (c : Code) (σ : St) (Q : Exit → St → Prop) : Prop :=
  ∀ (Φ : Fr) (a : Act) (W : World), Fits Φ σ a W → ∀ (b : Frame) (k : List Item) (cs : List Frame), ∃ e a' W', (∃ σ', Q e σ' ∧ Fits Φ σ' a' W') ∧ Arrives P (lone (b.at a (.code c :: .inLoop c :: k)) cs W) b k cs e a' W'
theorem Sat.loop {c : Code} (h : LSat P c σ Q) : Sat P (.loop c) σ Q := by
 intro Φ a W hf b k cs
 obtain ⟨e, a', W', hq, harr⟩ := h Φ a W hf b k cs
 exact ⟨e, a', W', hq, .of_steps (.one step_loop) harr⟩
theorem LSat.weak {c : Code} (hw : Weak σ σ') (h : LSat P c σ' Q) : LSat P c σ Q := fun Φ a W hf => h Φ a W (hf.weak hw)
theorem LSat.step {c : Code} (h : Sat P c σ (thenQ (fun σ' => LSat P c σ' Q) Q)) : LSat P c σ Q := by
 intro Φ a W hf b k cs
 obtain ⟨e, a₁, W₁, ⟨s, hq, hfs⟩, harr⟩ := h Φ a W hf b (.inLoop c :: k) cs
 cases e with
 | normal =>
   obtain ⟨e₂, a₂, W₂, hq₂, harr₂⟩ := hq Φ a₁ W₁ hfs b k cs
   exact ⟨e₂, a₂, W₂, hq₂, .of_steps (Steps.trans harr (.one step_inLoop)) harr₂⟩
 | exit id => exact ⟨_, a₁, W₁, ⟨s, hq, hfs⟩, .pass (x := .inLoop c) rfl (fun _ _ => .inl (by simp)) harr⟩
 | goto l => exact ⟨_, a₁, W₁, ⟨s, hq, hfs⟩, .pass (x := .inLoop c) rfl (fun _ _ => .inl (by simp)) harr⟩
 | ret => exact ⟨_, a₁, W₁, ⟨s, hq, hfs⟩, .pass (x := .inLoop c) rfl (fun _ _ => .inl (by simp)) harr⟩
 | panic ch => exact ⟨_, a₁, W₁, ⟨s, hq, hfs⟩, .pass (x := .inLoop c) rfl (fun _ _ => .inl (by simp)) harr⟩
 | outgrown => exact ⟨_, a₁, W₁, ⟨s, hq, hfs⟩, .pass (x := .inLoop c) rfl (fun _ _ => .inl (by simp)) harr⟩
theorem ops_sound {T : Nat → Option TI} (hT : TabOk P T) {ops : Array Oper} {K : St → Prop} {Φ : Fr} {Q2 : Exit → Act → World → Prop} (hk : ∀ σ a W, K σ → Fits Φ σ a W → Q2 .normal a W) : ∀ (os : List Oper) (k : Nat) (σ : St) (a : Act) (W : World), (∀ j, os[j]? = ops[k + j]?) →
    opsWp P T ops K os σ → Fits Φ σ a W → wpOps P ops Q2 (List.range' k os.length) a W
  | [], k, σ, a, W, _, h, hf => hk σ a W h hf
  | o :: os, k, σ, a, W, hj, h, hf => by
    have h0 : ops[k]? = some o := by simpa using (hj 0).symm
    simp only [List.length_cons, List.range'_succ, wpOps, h0]
    have ih : ∀ σ' a' W', opsWp P T ops K os σ' → Fits Φ σ' a' W' → wpOps P ops Q2 (List.range' (k + 1) os.length) a' W' := fun σ' a' W' h' hf' =>
      ops_sound hT hk os (k + 1) σ' a' W' (fun j => by have := hj (j + 1); simpa [Nat.add_assoc, Nat.add_comm 1 j] using this) h' hf'
    have := stepWp_sound hT (all := ops) (o := o) h hf (K' := wpOps P ops Q2 (List.range' (k + 1) os.length)) (Q' := Q2) ih
    split
    · rename_i hw
      rw [if_pos hw] at this
      exact .inl this
    · rename_i hw
      rw [if_neg hw] at this
      exact this
theorem Sat.region {T : Nat → Option TI} (hT : TabOk P T) {id : Nat} {ops : Array Oper} (h : opsWp P T ops (fun σ' => Q .normal σ') ops.toList σ) : Sat P (.region id ops false) σ Q := by
 intro Φ a W hf
 refine wp_region ?_
 have := ops_sound (P := P) hT (ops := ops) (K := fun σ' => Q .normal σ') (Φ := Φ) (Q2 := fun e a' W' => ∃ σ', Q e σ' ∧ Fits Φ σ' a' W') (fun s a' W' h1 h2 => ⟨s, h1, h2⟩) ops.toList 0 σ a W (by simp) h hf
 rwa [Array.length_toList, ← List.range_eq_range'] at this
end
def lk {α : Type} : List (Nat × α) → Nat → Option α
  | [], _ => none
  | (a, x) :: r, t => if t = a then some x else lk r t
theorem upd_lk {α : Type} (l : List (Nat × α)) (n : Nat) (x : α) : upd (lk l) n x = lk ((n, x) :: l) := by
 funext m; rfl
def initL : Nat → List V → List (Nat × D)
  | _, [] => []
  | i, x :: xs => (i, .v x) :: initL (i + 1) xs
theorem lk_initL : ∀ {xs : List V} {i t : Nat} {d : D}, lk (initL i xs) t = some d → ∃ j x, t = i + j ∧ xs[j]? = some x ∧ d = .v x
  | [], i, t, d, h => by simp [initL, lk] at h
  | x :: xs, i, t, d, h => by
    simp only [initL, lk] at h
    split at h
    · rename_i ht
      cases h
      exact ⟨0, x, by omega, rfl, rfl⟩
    · obtain ⟨j, y, h1, h2, h3⟩ := lk_initL h
      exact ⟨j + 1, y, by omega, h2, h3⟩
def resD (T : Nat → Option TI) (σ : St) : ResultVar → Option D
  | .tmp t => σ.regs t
  | .cell a t => match T t, σ.regs a with
    | some ti, some d => loadD σ.store ti.size ti.d.agg d
    | _, _ => none
def resV (T : Nat → Option TI) (σ : St) (rs : List ResultVar) : Option V :=
  match optList (resD T σ) rs with
  | some ds => match optList (pub σ.store pubD) ds with
    | some [x] => some x
    | some xs => some (.tp xs)
    | none => none
  | none => none
theorem run_mapM_some {α β : Type} {P : Program} {W : World} {f : α → Sem β} {R : α → β → Prop} : ∀ (l : List α), (∀ a ∈ l, ∃ b, (f a).run P W = .ok b W ∧ R a b) → ∃ bs, (l.mapM f).run P W = .ok bs W ∧ bs.length = l.length ∧ ∀ (i : Nat) (a : α) (b : β), l[i]? = some a → bs[i]? = some b → R a b
  | [], _ => ⟨[], rfl, rfl, fun i a b h => by simp at h⟩
  | a :: l, h => by
    obtain ⟨b, hb, hR⟩ := h a (List.mem_cons_self ..)
    obtain ⟨bs, hbs, hl, hr⟩ := run_mapM_some l (fun c hc => h c (List.mem_cons_of_mem _ hc))
    refine ⟨b :: bs, by simp [hb, hbs], by simp [hl], fun i c d hc hd => ?_⟩
    cases i with
    | zero => simp at hc hd; subst hc; subst hd; exact hR
    | succ i => simp at hc hd; exact hr i c d hc hd
def resSem (tmps : Array Value) : ResultVar → Sem Value
  | .tmp t => pure (tmps.getD t undef)
  | .cell a t => do loadVar t (← asAddr (tmps.getD a undef))
theorem results_eq (fn : Func) (tmps : Array Value) : results fn tmps = (fn.results.mapM (resSem tmps) >>= fun vs => pure (if h : vs.size = 1 then vs[0] else .tuple vs)) := by
 unfold results
 congr 2
theorem results_sound {P : Program} {T : Nat → Option TI} (hT : TabOk P T) {Φ : Fr} {σ : St} {a : Act} {W : World} {E : Env} (hs : SR Φ W E σ.store) (hr : ∀ t d, σ.regs t = some d → RD W E d (a.tmps.getD t undef)) {fn : Func} {r : V}
    (h : resV T σ fn.results.toList = some r) : ∃ v ns, (results fn a.tmps).run P W = .ok v W ∧ RV W (envFrz Φ W E σ.store ns).ok r v := by
 unfold resV at h
 split at h
 · rename_i ds hds
   obtain ⟨d1, d2⟩ := optList_some hds
   have hone : ∀ rv ∈ fn.results.toList, ∃ v, (resSem a.tmps rv).run P W = .ok v W ∧ ∀ d, resD T σ rv = some d → RD W E d v := by
     intro rv hrv
     obtain ⟨i, hi⟩ := List.getElem?_of_mem hrv
     obtain ⟨d, hd⟩ := get_of_len d1 hi
     have hrd := d2 i rv d hi hd
     cases rv with
     | tmp t =>
       refine ⟨_, rfl, fun d' hd' => ?_⟩
       exact hr t d' hd'
     | cell b t =>
       simp only [resD] at hrd
       split at hrd
       · rename_i ti db ht hb
         obtain ⟨ii, u, z, h1, h2, h3, h4, _, htd⟩ := tab hT ht
         rw [h4, ← aggD_of htd] at hrd
         have hrb := hr b _ hb
         obtain ⟨w, hw, hrw⟩ := loadD_sound (P := P) hs h1 h2 hrb hrd
         have hpt : ∃ ad, a.tmps.getD b undef = .pointer (some ad) := by
           generalize a.tmps.getD b undef = v at hrb
           cases hrb with
           | v x v hx => cases x <;> simp only [loadD, reduceCtorEq] at hrd
                         cases hx; exact ⟨_, rfl⟩
           | ptr n off b hb => exact ⟨_, rfl⟩
           | optr n tot off b k cs hb => exact ⟨_, rfl⟩
           | optrOld n tot off b k tot' cs ad hb ht => exact ⟨_, rfl⟩
           | _ => simp only [loadD, reduceCtorEq] at hrd
         obtain ⟨ad, had⟩ := hpt
         refine ⟨w, ?_, fun d' hd' => ?_⟩
         · rw [had] at hw
           simp only [resSem, had]
           simpa [Instr.loadAt, Instr.sureAddr, asAddr] using hw
         · simp only [resD, ht, hb] at hd'
           rw [h4, ← aggD_of htd] at hd'
           rw [hrd] at hd'; cases hd'; exact hrw
       · cases hrd
   obtain ⟨vs, hvs, hl, hrel⟩ := run_mapM_some (P := P) (W := W) (f := resSem a.tmps) (R := fun rv v => ∀ d, resD T σ rv = some d → RD W E d v) fn.results.toList hone
   have hrun : (results fn a.tmps).run P W = .ok (if hh : vs.toArray.size = 1 then vs.toArray[0] else .tuple vs.toArray) W := by
     rw [results_eq]
     simp only [Sem.run_bind, Sem.run_map, Array.mapM_eq_mapM_toList, hvs, Result.andThen_ok]
     rfl
   split at h
   · rename_i x hxs
     cases h
     obtain ⟨p1, p2⟩ := optList_some hxs
     have hvl : vs.length = 1 := by simp at p1; omega
     obtain ⟨v, rfl⟩ := List.length_eq_one_iff.1 hvl
     obtain ⟨d, rfl⟩ := List.length_eq_one_iff.1 p1.symm
     have hrv : RD W E d v := by
       obtain ⟨rv, hrv⟩ := get_of_len (l := [v]) (m := fn.results.toList) (by rw [← hl]) (show [v][0]? = some v from rfl)
       exact hrel 0 rv v hrv rfl d (d2 0 rv d hrv rfl)
     refine ⟨v, pubN σ.store pubD d, by rw [hrun]; rfl, ?_⟩
     exact pub_sound hs _ pubD d v _ hrv (p2 0 d _ rfl rfl) fun m hm => hm
   · rename_i xs hnot hxs
     cases h
     obtain ⟨p1, p2⟩ := optList_some hxs
     have hvl : vs.length = xs.length := by omega
     have hne : ¬ vs.toArray.size = 1 := by
       intro hh
       have : xs.length = 1 := by simpa [← hvl] using hh
       obtain ⟨x, rfl⟩ := List.length_eq_one_iff.1 this
       exact hnot x rfl
     refine ⟨.tuple vs.toArray, ds.flatMap (pubN σ.store pubD), by rw [hrun, dif_neg hne], .tp xs vs hvl ?_⟩
     intro i x v hx hv
     obtain ⟨d, hd⟩ := get_of_len p1.symm hx
     obtain ⟨rv, hrv⟩ := get_of_len (l := vs) (m := fn.results.toList) (by omega) hv
     exact pub_sound hs _ pubD d v x (hrel i rv v hrv hv d (d2 i rv d hrv hd)) (p2 i d x hd hx) fun m hm => List.mem_flatMap.2 ⟨d, List.mem_of_getElem? hd, hm⟩
   · cases h
 · cases h
def Ends (T : Nat → Option TI) (fn : Func) (r : V) (e : Exit) (σ : St) : Prop :=
  (match e with | .normal | .ret => True | _ => False) ∧ resV T σ fn.results.toList = some r
theorem ok_of_sat {P : Program} {T : Nat → Option TI} (hT : TabOk P T) {f : Nat} {fn : Func} {c : Code} {xs : List V} {r : V} (hf : P.funcs[f]? = some fn) (hb : fn.body = some c) (he : Enters P f)
    (h : Sat P c ⟨xs.length + (fn.ntmps - xs.length), lk (initL 0 xs), lk []⟩ (Ends T fn r)) : Ok P f xs r := by
 refine ⟨he, fun W ok vs hok hl hv => ?_⟩
 refine calls_of_wp hf hb ?_
 have hfit : Fits ⟨fun b => b < W.heap.size ∧ ¬ok b, fun _ => False, W⟩ ⟨xs.length + (fn.ntmps - xs.length), lk (initL 0 xs), lk []⟩ { tmps := vs.toArray ++ Array.replicate (fn.ntmps - vs.toArray.size) undef, defers := [] } W := by
   refine ⟨⟨⟨okOf ⟨fun b => b < W.heap.size ∧ ¬ok b, fun _ => False, W⟩ W (fun _ => none) (lk []), fun _ => none⟩, ⟨⟨rfl, rfl, rfl, Nat.le_refl _, fun _ _ _ => rfl⟩, fun _ _ => rfl, fun n e hn => by simp [lk] at hn, fun n e i hn => by simp [lk] at hn, fun b => Iff.rfl, fun n m e e' i i' _ hn => by simp [lk] at hn, fun b hF => ⟨hF.1, fun h => h⟩⟩, ?_⟩, by simp [hl], rfl⟩
   intro t d ht
   obtain ⟨j, x, rfl, hx, rfl⟩ := lk_initL ht
   obtain ⟨v, hvj⟩ := get_of_len hl hx
   have hjl : j < vs.length := (List.getElem?_eq_some_iff.1 hvj).1
   have : (vs.toArray ++ Array.replicate (fn.ntmps - vs.toArray.size) undef).getD (0 + j) undef = v := by
     rw [Array.getD_eq_getD_getElem?, Array.getElem?_append_left (by simpa using hjl)]
     simp [hvj]
   simp only [this]
   exact .v x v ((hv j x v hx hvj).mono fun b hb => ⟨⟨hok b hb, fun hF => hF.2 hb, fun n e i hn => by simp [lk] at hn⟩, rfl⟩)
 refine wp_mono (h _ _ W hfit) fun e a' W' ⟨s, ⟨hq1, hq2⟩, hfs⟩ => ?_
 obtain ⟨⟨E, hs, hr⟩, hsz, hdf⟩ := hfs
 obtain ⟨v, ns, hrun, hrv⟩ := results_sound hT hs hr hq2
 have fin : a'.defers = [] ∧ ∃ v, (results fn a'.tmps).run P W' = .ok v W' ∧ ∃ v', Ending.returned v = .returned v' ∧ Below W.heap.size W W' ∧ RV W' (fun b => ok b ∨ (W.heap.size ≤ b ∧ b < W'.heap.size)) r v' := by
   refine ⟨hdf, v, hrun, v, rfl, ⟨hs.keep.os, hs.keep.tape, hs.keep.output, hs.keep.size, fun k hk => hs.keep.block k hk (fun h => h)⟩, hrv.mono fun b hbk => ⟨?_, rfl⟩⟩
   obtain ⟨h1, h2, _⟩ := ((hs.frz_sr ns).okd b).1 hbk
   by_cases hlt : b < W.heap.size
   · exact .inl (Classical.byContradiction fun hn => h2 ⟨hlt, hn⟩)
   · exact .inr ⟨by omega, h1⟩
 cases e with
 | normal => exact fin
 | ret => exact fin
 | _ => exact hq1.elim
end Go.Proofs.YtamjajacnfmgeaaGreat
