/-
  The abstract machine: contracts of functions that write a struct of the caller's own through a pointer. Condition: as A21; the struct's cells are plain.
  The abstract machine: contracts of functions that hand back a map of their own making. Condition: as A21; keys and values are plain.
-/
import Derived.Test.YtamjajacnfmgeaaGreatK14
set_option linter.all false
namespace Go.Proofs.YtamjajacnfmgeaaGreat
open Go Go.RowKit
structure FitsB (b : Nat) (Φ : Fr) (σ : St) (a : Act) (W : World) : Prop where
  ex : ∃ E, SR Φ W E σ.store ∧ (∀ t d, σ.regs t = some d → RD W E d (a.tmps.getD t undef)) ∧ E.own 0 = some (.cells b)
  size : a.tmps.size = σ.n
  defers : a.defers = []
def SatB (b : Nat) (P : Program) (c : Code) (σ : St) (Q : Exit → St → Prop) : Prop :=
  ∀ (Φ : Fr) (a : Act) (W : World), FitsB b Φ σ a W → c.wp P (fun e a' W' => ∃ σ', Q e σ' ∧ FitsB b Φ σ' a' W') a W
theorem FitsB.put {b : Nat} {Φ : Fr} {σ : St} {a : Act} {W W' : World} {E E' : Env} {s' : Store} {v : Value} {d : D} {dst : Option Tmp} (hr : ∀ t d, σ.regs t = some d → RD W E d (a.tmps.getD t undef)) (hsz : a.tmps.size = σ.n) (hdf : a.defers = []) (hp : E.own 0 = some (.cells b)) (hx : Ext W E W' E') (hs' : SR Φ W' E' s')
    (hd : RD W' E' d v) (hk : dstOk σ.n dst = true) : FitsB b Φ (σ.put dst s' d) (a.put dst v) W' := by
 have hp' : E'.own 0 = some (.cells b) := by
   obtain ⟨i', h1, h2⟩ := hx.own 0 _ hp
   cases i' <;> simp only [Own.le] at h2
   subst h2; exact h1
 cases dst with
 | none => exact ⟨⟨E', hs', fun t d ht => (hr t d ht).mono hx, hp'⟩, hsz, hdf⟩
 | some t =>
   have ht : t < a.tmps.size := by simpa [dstOk, hsz] using hk
   refine ⟨⟨E', hs', fun q e hq => ?_, hp'⟩, by simpa [Act.put, St.put] using hsz, hdf⟩
   simp only [St.put, upd] at hq
   by_cases hqt : q = t
   · subst hqt
     rw [if_pos rfl] at hq
     cases hq
     have : (a.put (some q) v).tmps.getD q undef = v := by simp [Act.put, ht]
     rw [this]; exact hd
   · rw [if_neg hqt] at hq
     have : (a.put (some t) v).tmps.getD q undef = a.tmps.getD q undef := by simp [Act.put, Array.getElem?_setIfInBounds_ne (Ne.symm hqt)]
     rw [this]; exact (hr q e hq).mono hx
def opsB (T : Nat → Option TI) (Q : St → Prop) : List Oper → St → Prop
  | [], σ => Q σ
  | o :: os, σ => o.guard = none ∧ callOf σ.regs o.op = none ∧ dstOk σ.n o.dst = true ∧ ∃ d s', opEval T σ.store o.dst (ev σ.regs) o.op = some (d, s') ∧ opsB T Q os (σ.put o.dst s' d)
section
variable {P : Program} {T : Nat → Option TI} {b : Nat} {σ : St} {Q : Exit → St → Prop}
theorem opsB_sound (hT : TabOk P T) {ops : Array Oper} {K : St → Prop} {Φ : Fr} {Q2 : Exit → Act → World → Prop} (hk : ∀ σ a W, K σ → FitsB b Φ σ a W → Q2 .normal a W) : ∀ (os : List Oper) (k : Nat) (σ : St) (a : Act) (W : World), (∀ j, os[j]? = ops[k + j]?) →
    opsB T K os σ → FitsB b Φ σ a W → wpOps P ops Q2 (List.range' k os.length) a W
  | [], k, σ, a, W, _, h, hf => hk σ a W h hf
  | o :: os, k, σ, a, W, hj, h, hf => by
    have h0 : ops[k]? = some o := by simpa using (hj 0).symm
    simp only [List.length_cons, List.range'_succ, wpOps, h0]
    obtain ⟨hg, _, hd, d, s', he, hK⟩ := h
    obtain ⟨⟨E, hs, hr, hp⟩, hsz, hdf⟩ := hf
    have hw : Region.wanted o (yielded ops a.tmps) = true := by simp [Region.wanted, hg]
    rw [if_pos hw]
    refine .inl ?_
    obtain ⟨nx, v, W', E', h1, h2, h3, h4, h5⟩ := opEval_sound hT hs (fun x d hx => RD_ev hr hx) he
    have ih := opsB_sound hT hk os (k + 1) _ (a.put o.dst v) W' (fun j => by have := hj (j + 1); simpa [Nat.add_assoc, Nat.add_comm 1 j] using this) hK (FitsB.put hr hsz hdf hp h3 h4 h5 hd)
    unfold Oper.wp
    rw [h1]
    rcases h2 with rfl | ⟨rfl, rfl⟩
    · exact ih
    · exact ih
theorem SatB.region (hT : TabOk P T) {id : Nat} {ops : Array Oper} (h : opsB T (fun σ' => Q .normal σ') ops.toList σ) : SatB b P (.region id ops false) σ Q := by
 intro Φ a W hf
 refine wp_region ?_
 have := opsB_sound (P := P) (b := b) hT (ops := ops) (K := fun σ' => Q .normal σ') (Φ := Φ) (Q2 := fun e a' W' => ∃ σ', Q e σ' ∧ FitsB b Φ σ' a' W') (fun s a' W' h1 h2 => ⟨s, h1, h2⟩) ops.toList 0 σ a W (by simp) h hf
 rwa [Array.length_toList, ← List.range_eq_range'] at this
theorem SatB.skip (h : Q .normal σ) : SatB b P .skip σ Q := fun _ _ _ hf => wp_skip ⟨σ, h, hf⟩
theorem SatB.exit {id : Nat} (h : Q (.exit id) σ) : SatB b P (.exit id) σ Q := fun _ _ _ hf => wp_exit ⟨σ, h, hf⟩
theorem SatB.ret (h : Q .ret σ) : SatB b P .ret σ Q := fun _ _ _ hf => wp_ret ⟨σ, h, hf⟩
theorem SatB.seq {x y : Code} (h : SatB b P x σ (thenQ (fun σ' => SatB b P y σ' Q) Q)) : SatB b P (.seq x y) σ Q := by
 intro Φ a W hf
 refine wp_seq (wp_mono (h Φ a W hf) fun e a' W' ⟨s, h1, h2⟩ => ?_)
 cases e with
 | normal => exact h1 Φ a' W' h2
 | _ => exact ⟨s, h1, h2⟩
theorem SatB.condF {c : Operand} {x y : Code} {t : Bool} (hc : ev σ.regs c = some (.v (.bool t))) (ht : t = false) (h : SatB b P y σ Q) : SatB b P (.cond c x y) σ Q := by
 intro Φ a W hfit
 have hfit' := hfit
 obtain ⟨⟨E, hs, hr, _⟩, _, _⟩ := hfit'
 have hcv := RD_ev hr hc
 have hcv : a.eval c = .bool t := by
   generalize a.eval c = v at hcv
   cases hcv with
   | v _ _ h => cases h; rfl
 subst ht
 exact wp_cond hcv (h Φ a W hfit)
theorem SatB.block {id : Nat} {c : Code} (h : SatB b P c σ (blockQ id Q)) : SatB b P (.block id c) σ Q := by
 intro Φ a W hf
 refine wp_block (wp_mono (h Φ a W hf) fun e a' W' ⟨s, h1, h2⟩ => ?_)
 cases e with
 | exit i =>
   simp only [blockQ] at h1
   simp only [Exit.inBlock]
   split at h1
   · rename_i hi; rw [if_pos hi]; exact ⟨s, h1, h2⟩
   · rename_i hi; rw [if_neg hi]; exact ⟨s, h1, h2⟩
 | _ => exact ⟨s, h1, h2⟩
theorem SatB.loop {c : Code} (h : SatB b P c σ (thenQ (fun _ => False) Q)) : SatB b P (.loop c) σ Q := by
 intro Φ a W hf k ks cs
 obtain ⟨e, a₁, W₁, ⟨s, hq, hfs⟩, harr⟩ := h Φ a W hf k (.inLoop c :: ks) cs
 have key : Arrives P (lone (k.at a (.code c :: .inLoop c :: ks)) cs W) k ks cs e a₁ W₁ := by
   cases e with
   | normal => exact hq.elim
   | exit id => exact .pass (x := .inLoop c) rfl (fun _ _ => .inl (by simp)) harr
   | goto l => exact .pass (x := .inLoop c) rfl (fun _ _ => .inl (by simp)) harr
   | ret => exact .pass (x := .inLoop c) rfl (fun _ _ => .inl (by simp)) harr
   | panic ch => exact .pass (x := .inLoop c) rfl (fun _ _ => .inl (by simp)) harr
   | outgrown => exact .pass (x := .inLoop c) rfl (fun _ _ => .inl (by simp)) harr
 refine ⟨e, a₁, W₁, ⟨s, ?_, hfs⟩, .of_steps (.one step_loop) key⟩
 cases e with
 | normal => exact hq.elim
 | _ => exact hq
variable {n : Nat} {r : List (Nat × D)} {s : Store} {os : List Oper} {K : St → Prop}
theorem ob {t : Nat} {op : Op} {ty : TypeId} {pos : String} {af : Array Edge} {d : D} {s' : Store} (hd : (decide (t < n)) = true) (hc : callOf (lk r) op = none) (he : opEval T s (some t) (ev (lk r)) op = some (d, s')) (h : opsB T K os ⟨n, lk ((t, d) :: r), s'⟩) : opsB T K (⟨some t, op, ty, pos, af, none⟩ :: os) ⟨n, lk r, s⟩ :=
  ⟨rfl, hc, hd, d, s', he, h⟩
theorem od {op : Op} {ty : TypeId} {pos : String} {af : Array Edge} {d : D} {s' : Store} (hc : callOf (lk r) op = none) (he : opEval T s none (ev (lk r)) op = some (d, s')) (h : opsB T K os ⟨n, lk r, s'⟩) : opsB T K (⟨none, op, ty, pos, af, none⟩ :: os) ⟨n, lk r, s⟩ :=
  ⟨rfl, hc, rfl, d, s', he, h⟩
theorem wnB (h : K σ) : opsB T K [] σ := h
end
def D.pl : D → Bool
  | .v x => x.sc1
  | .nil => true
  | _ => false
theorem RD.pl {W W' : World} {E E' : Env} {d : D} {v : Value} (h : RD W E d v) (hp : d.pl = true) : RD W' E' d v := by
 cases h with
 | v x v h => exact .v x v (h.sc1 hp)
 | nil => exact .nil
 | _ => cases hp
theorem EntR.pl {W : World} {E E' : Env} {b : Nat} {cs : List D} {f f' : Bool} (h : EntR W E (.cells b) ⟨.cells cs, f⟩) (hp : cs.all D.pl = true) : EntR W E' (.cells b) ⟨.cells cs, f'⟩ := by
 cases h with
 | cells b ds f vs t hb hl h => exact .cells b cs f' vs t hb hl fun i d v hd hv => (h i d v hd hv).pl (List.all_eq_true.1 hp d (List.mem_of_getElem? hd))
def OkP (P : Program) (f : Nat) (cs : List D) (xs : List V) (cs' : List D) : Prop :=
  Enters P f ∧ ∀ (W : World) (ok : Nat → Prop) (vs : List Value) (b : Nat), (∀ c, ok c → c < W.heap.size ∧ c ≠ b) → All2 (RV W ok) xs vs → EntR W (env0 ok (some (.cells b))) (.cells b) ⟨.cells cs, false⟩ →
    Calls P f (.pointer (some ⟨b, 0, none⟩) :: vs).toArray W fun e W' => e = .returned (.tuple #[]) ∧ BelowBut W.heap.size b W W' ∧ EntR W' (env0 (fun _ => False) none) (.cells b) ⟨.cells cs', false⟩
theorem call_ptr {P : Program} {f : Nat} {cs cs' : List D} {xs : List V} {ds : List D} {s : Store} {m : Nat} (hok : OkP P f cs xs cs') (hcs : cs.all D.pl = true) (hcs' : cs'.all D.pl = true) (hxs : optList (pub s pubD) ds = some xs) (hm : s m = some ⟨.cells cs, false⟩) (hn : m ∉ ds.flatMap (pubN s pubD)) :
    CallDo P f (.ptr m 0 :: ds) s (upd (frz s (ds.flatMap (pubN s pubD))) m ⟨.cells cs', false⟩) (.v (.tp [])) := by
 obtain ⟨hent, hcall⟩ := hok
 refine ⟨hent, fun Φ W E vs hs hl hr => ?_⟩
 cases vs with
 | nil => simp at hl
 | cons sv us =>
 have hsv : RD W E (.ptr m 0) sv := hr 0 _ _ rfl rfl
 obtain ⟨h1, h2⟩ := pub_args hs (ds := ds) (vs := us) (by simpa using hl) (fun i d v hd hv => hr (i + 1) d v (by simpa using hd) (by simpa using hv)) hxs
 have hsf := hs.frz_sr (ds.flatMap (pubN s pubD))
 have hxf := hs.frz_ext (ds.flatMap (pubN s pubD))
 have hm1 : frz s (ds.flatMap (pubN s pubD)) m = some ⟨.cells cs, false⟩ := by rw [frz_other (by simpa using hn)]; exact hm
 generalize hs1 : frz s (ds.flatMap (pubN s pubD)) = s1 at *
 obtain ⟨i, hi, hE⟩ := hsf.ent m _ hm1
 have hi' : E.own m = some i := hi
 obtain ⟨b, rfl⟩ : ∃ b, i = .cells b := by cases hE; exact ⟨_, rfl⟩
 have hnb : ∀ c, (envFrz Φ W E s (ds.flatMap (pubN s pubD))).ok c → c < W.heap.size ∧ c ≠ b := fun c hc => by
   obtain ⟨q1, q2, q3⟩ := (hsf.okd c).1 hc
   exact ⟨q1, fun h => q3 m _ _ hm1 rfl hi h.symm⟩
 have hsv' : sv = .pointer (some ⟨b, 0, none⟩) := by
   cases hsv with
   | ptr _ _ b' h' => rw [hi'] at h'; cases h'; rfl
 subst hsv'
 refine (hcall W _ us b hnb (All2.of h1 h2) (hE.pl hcs)).mono fun e W' ⟨he, hbb, hE'⟩ => ?_
 have hturn : Turn Φ W W' (envFrz Φ W E s (ds.flatMap (pubN s pubD))) s1 m (.cells b) :=
   ⟨hbb.os, hbb.tape, hbb.output, fun c hc hne => hbb.block c hc hne, hbb.size, hE'.block_lt, hsf.base m _ _ hm1 hi, .inr ⟨_, _, hm1, rfl, hi, Own.le_refl _, .inl rfl⟩⟩
 have hE1 : EntR W' (envOf Φ W' (envFrz Φ W E s (ds.flatMap (pubN s pubD))) (upd s1 m ⟨.cells cs', false⟩) m (.cells b)) (.cells b) ⟨.cells cs', false⟩ := hE'.pl hcs'
 exact ⟨.tuple #[], _, he, hxf.trans (hturn.ext hsf), hturn.sr hsf hE1, .v _ _ (.tp [] [] rfl fun i x v hx => by simp at hx)⟩
theorem okP_of_sat {P : Program} {T : Nat → Option TI} (hT : TabOk P T) {f : Nat} {fn : Func} {c : Code} {cs cs' : List D} {xs : List V} (hf : P.funcs[f]? = some fn) (hb : fn.body = some c) (he : Enters P f) (hres : fn.results = #[]) (hcs : cs.all D.pl = true) (hcs' : cs'.all D.pl = true)
    (h : ∀ b, SatB b P c ⟨xs.length + 1 + (fn.ntmps - (xs.length + 1)), lk ((0, .ptr 0 0) :: initL 1 xs), lk [(0, ⟨.cells cs, false⟩)]⟩ (fun e σ => (match e with | .normal | .ret => True | _ => False) ∧ σ.store 0 = some ⟨.cells cs', false⟩)) : OkP P f cs xs cs' := by
 refine ⟨he, fun W ok vs b hok hv hE => ?_⟩
 refine calls_of_wp hf hb ?_
 have hl := hv.len
 let Φ : Fr := ⟨fun c => c < W.heap.size ∧ ¬ok c ∧ c ≠ b, fun c => c = b, W⟩
 let own : Nat → Option Own := fun n => if n = 0 then some (.cells b) else none
 let E : Env := ⟨okOf Φ W own (lk [(0, ⟨.cells cs, false⟩)]), own⟩
 have st0 : ∀ n e, lk [(0, (⟨.cells cs, false⟩ : Ent))] n = some e → n = 0 ∧ e = ⟨.cells cs, false⟩ := fun n e hn => by
   rw [lk_cons] at hn
   split at hn
   · rename_i h0; cases hn; exact ⟨h0, rfl⟩
   · cases hn
 have ow0 : ∀ n i, own n = some i → n = 0 ∧ i = .cells b := fun n i hn => by
   simp only [own] at hn
   split at hn
   · rename_i h0; cases hn; exact ⟨h0, rfl⟩
   · cases hn
 have hok' : ∀ c, ok c → E.ok c := fun c hc => ⟨(hok c hc).1, fun hF => hF.2.1 hc, fun n e i hn hf hi => by
   obtain ⟨_, rfl⟩ := ow0 n i hi
   exact fun h => (hok c hc).2 h.symm⟩
 have hfit : FitsB b Φ ⟨xs.length + 1 + (fn.ntmps - (xs.length + 1)), lk ((0, .ptr 0 0) :: initL 1 xs), lk [(0, ⟨.cells cs, false⟩)]⟩ { tmps := (Value.pointer (some ⟨b, 0, none⟩) :: vs).toArray ++ Array.replicate (fn.ntmps - (Value.pointer (some ⟨b, 0, none⟩) :: vs).toArray.size) undef, defers := [] } W := by
   refine ⟨⟨E, ⟨⟨rfl, rfl, rfl, Nat.le_refl _, fun _ _ _ => rfl⟩, fun n hn => ?_, fun n e hn => ?_, fun n e i hn hi => ?_, fun b => Iff.rfl, fun n m e e' i i' hnm hn hm => ?_, fun c hF => ⟨hF.1, hF.2.2⟩⟩, ?_, rfl⟩, by simp [hl], rfl⟩
   · change lk [(0, (⟨.cells cs, false⟩ : Ent))] n = none at hn
     rw [lk_cons] at hn
     split at hn
     · cases hn
     · rename_i h0; simp [E, own, h0]
   · obtain ⟨rfl, rfl⟩ := st0 n e hn
     exact ⟨.cells b, rfl, hE.pl hcs⟩
   · obtain ⟨_, rfl⟩ := ow0 n i hi
     exact .inr rfl
   · obtain ⟨rfl, _⟩ := st0 n e hn
     obtain ⟨rfl, _⟩ := st0 m e' hm
     exact (hnm rfl).elim
   · intro t d ht
     rcases lk_init1 ht with ⟨rfl, rfl⟩ | ⟨j, x, rfl, hx, rfl⟩
     · have : ((Value.pointer (some ⟨b, 0, none⟩) :: vs).toArray ++ Array.replicate (fn.ntmps - (Value.pointer (some ⟨b, 0, none⟩) :: vs).toArray.size) undef).getD 0 undef = Value.pointer (some ⟨b, 0, none⟩) := by
         rw [Array.getD_eq_getD_getElem?, Array.getElem?_append_left (by simp)]; simp
       simp only [this]
       exact .ptr 0 0 b rfl
     · obtain ⟨v, hvj⟩ := get_of_len hl hx
       have hjl : j < vs.length := (List.getElem?_eq_some_iff.1 hvj).1
       have : ((Value.pointer (some ⟨b, 0, none⟩) :: vs).toArray ++ Array.replicate (fn.ntmps - (Value.pointer (some ⟨b, 0, none⟩) :: vs).toArray.size) undef).getD (j + 1) undef = v := by
         rw [Array.getD_eq_getD_getElem?, Array.getElem?_append_left (by simpa using hjl)]
         simp [hvj]
       simp only [this]
       exact .v x v ((hv.at hx hvj).mono fun c hc => ⟨hok' c hc, rfl⟩)
 refine wp_mono (h b _ _ W hfit) fun e a' W' ⟨s, ⟨hq1, hq2⟩, hfs⟩ => ?_
 obtain ⟨⟨E', hs, hr, hp⟩, hsz, hdf⟩ := hfs
 have hrun : (results fn a'.tmps).run P W' = .ok (.tuple #[]) W' := by simp [results, hres]
 obtain ⟨i, hi, hE'⟩ := hs.ent 0 _ hq2
 rw [hp] at hi; cases hi
 have fin : a'.defers = [] ∧ ∃ v, (results fn a'.tmps).run P W' = .ok v W' ∧ (Ending.returned v = .returned (.tuple #[]) ∧ BelowBut W.heap.size b W W' ∧ EntR W' (env0 (fun _ => False) none) (.cells b) ⟨.cells cs', false⟩) :=
   ⟨hdf, _, hrun, rfl, ⟨hs.keep.os, hs.keep.tape, hs.keep.output, hs.keep.size, fun k hk hne => hs.keep.block k hk hne⟩, hE'.pl hcs'⟩
 cases e with
 | normal => exact fin
 | ret => exact fin
 | _ => exact hq1.elim
end Go.Proofs.YtamjajacnfmgeaaGreat
namespace Go.Proofs.YtamjajacnfmgeaaGreat
open Go Go.RowKit
def plE (p : V × V) : Bool := p.1.sc1 && p.2.sc1
theorem EntR.plM {W : World} {E E' : Env} {b : Nat} {es : List (V × V)} {f f' : Bool} (h : EntR W E (.mp b) ⟨.mp es, f⟩) (hp : es.all plE = true) : EntR W E' (.mp b) ⟨.mp es, f'⟩ := by
 cases h with
 | mp b es f ents clock hb hl h =>
   refine .mp b es f' ents clock hb hl fun i x e hx he => ?_
   obtain ⟨h1, h2⟩ := h i x e hx he
   have h3 := List.all_eq_true.1 hp x (List.mem_of_getElem? hx)
   simp only [plE, Bool.and_eq_true] at h3
   exact ⟨h1.sc1 h3.1, h2.sc1 h3.2⟩
def OkMp (P : Program) (f : Nat) (xs : List V) (es : List (V × V)) : Prop :=
  Enters P f ∧ ∀ (W : World) (ok : Nat → Prop) (vs : List Value), (∀ b, ok b → b < W.heap.size) → vs.length = xs.length → (∀ (i : Nat) (x : V) (v : Value), xs[i]? = some x → vs[i]? = some v → RV W ok x v) →
    Calls P f vs.toArray W fun e W' => ∃ b, e = .returned (.map (some b)) ∧ Below W.heap.size W W' ∧ W.heap.size ≤ b ∧ EntR W' (env0 (fun _ => False) none) (.mp b) ⟨.mp es, false⟩
theorem call_map {P : Program} {f : Nat} {xs : List V} {es : List (V × V)} {ds : List D} {s : Store} (m : Nat) (hok : OkMp P f xs es) (hes : es.all plE = true) (hxs : optList (pub s pubD) ds = some xs) (hm : s m = none) :
    CallDo P f ds s (upd (frz s (ds.flatMap (pubN s pubD))) m ⟨.mp es, false⟩) (.omap m) := by
 obtain ⟨hent, hcall⟩ := hok
 refine ⟨hent, fun Φ W E vs hs hl hr => ?_⟩
 obtain ⟨h1, h2⟩ := pub_args hs hl hr hxs
 have hsf := hs.frz_sr (ds.flatMap (pubN s pubD))
 have hxf := hs.frz_ext (ds.flatMap (pubN s pubD))
 have hm1 := frz_isNone (ns := ds.flatMap (pubN s pubD)) hm
 refine (hcall W _ vs (fun b hb => ((hsf.okd b).1 hb).1) h1 h2).mono fun e W' ⟨b, he, hb, hfr, hE⟩ => ?_
 generalize frz s (ds.flatMap (pubN s pubD)) = s1 at *
 have hturn : Turn Φ W W' (envFrz Φ W E s (ds.flatMap (pubN s pubD))) s1 m (.mp b) := ⟨hb.os, hb.tape, hb.output, fun c hbl _ => hb.block c hbl, hb.size, hE.block_lt, .inl (by have := hs.keep.size; simp only [Own.block]; omega), .inl ⟨hm1, hfr⟩⟩
 have hE1 : EntR W' (envOf Φ W' (envFrz Φ W E s (ds.flatMap (pubN s pubD))) (upd s1 m ⟨.mp es, false⟩) m (.mp b)) (.mp b) ⟨.mp es, false⟩ := hE.plM hes
 exact ⟨_, _, he, hxf.trans (hturn.ext hsf), hturn.sr hsf hE1, .omap m b (by simp [envOf, upd_same])⟩
def EndsM (T : Nat → Option TI) (fn : Func) (q : Nat) (es : List (V × V)) (e : Exit) (σ : St) : Prop :=
  (match e with | .normal | .ret => True | _ => False) ∧ optList (resD T σ) fn.results.toList = some [.omap q] ∧ σ.store q = some ⟨.mp es, false⟩
theorem okM_of_sat {P : Program} {T : Nat → Option TI} (hT : TabOk P T) {f : Nat} {fn : Func} {c : Code} {xs : List V} {q : Nat} {es : List (V × V)} (hes : es.all plE = true) (hf : P.funcs[f]? = some fn) (hb : fn.body = some c) (he : Enters P f)
    (h : Sat P c ⟨xs.length + (fn.ntmps - xs.length), lk (initL 0 xs), lk []⟩ (EndsM T fn q es)) : OkMp P f xs es := by
 refine ⟨he, fun W ok vs hok hl hv => ?_⟩
 refine calls_of_wp hf hb ?_
 have hfit : Fits ⟨fun b => b < W.heap.size ∧ ¬ok b, fun _ => False, W⟩ ⟨xs.length + (fn.ntmps - xs.length), lk (initL 0 xs), lk []⟩ { tmps := vs.toArray ++ Array.replicate (fn.ntmps - vs.toArray.size) undef, defers := [] } W := by
   refine ⟨⟨⟨okOf ⟨fun b => b < W.heap.size ∧ ¬ok b, fun _ => False, W⟩ W (fun _ => none) (lk []), fun _ => none⟩, ⟨⟨rfl, rfl, rfl, Nat.le_refl _, fun _ _ _ => rfl⟩, fun _ _ => rfl, fun n e hn => by simp [lk] at hn, fun n e i hn => by simp [lk] at hn, fun b => Iff.rfl, fun n m e e' i i' _ hn => by simp [lk] at hn, fun b hF => ⟨hF.1, fun h => h⟩⟩, ?_⟩, by simp [hl], rfl⟩
   intro t d ht
   obtain ⟨j, x, rfl, hx, rfl⟩ := lk_initL ht
   obtain ⟨v, hvj⟩ := get_of_len hl hx
   have hjl : j < vs.length := (List.getElem?_eq_some_iff.1 hvj).1
   have : (vs.toArray ++ Array.replicate (fn.ntmps - vs.toArray.size) undef).getD (0 + j) undef = v := by
     rw [Array.getD_eq_getD_getElem?, Array.getElem?_append_left (by simpa using hjl)]
     simp [hvj]
   simp only [this]
   exact .v x v ((hv j x v hx hvj).mono fun b hb => ⟨⟨hok b hb, fun hF => hF.2 hb, fun n e i hn => by simp [lk] at hn⟩, rfl⟩)
 refine wp_mono (h _ _ W hfit) fun e a' W' ⟨s, ⟨hq1, hq2, hq3⟩, hfs⟩ => ?_
 obtain ⟨⟨E, hs, hr⟩, hsz, hdf⟩ := hfs
 obtain ⟨us, hrun, hall⟩ := results_run hT hs hr hq2
 match us, hall, hrun with
 | [sv], hall, hrun =>
   obtain ⟨hsv, _⟩ := hall
   cases hsv with
   | omap _ b hown =>
     obtain ⟨i, hi, hE⟩ := hs.ent q _ hq3
     rw [hown] at hi; cases hi
     have fin : a'.defers = [] ∧ ∃ v, (results fn a'.tmps).run P W' = .ok v W' ∧ ∃ b, Ending.returned v = .returned (.map (some b)) ∧ Below W.heap.size W W' ∧ W.heap.size ≤ b ∧ EntR W' (env0 (fun _ => False) none) (.mp b) ⟨.mp es, false⟩ :=
       ⟨hdf, _, hrun, b, rfl, ⟨hs.keep.os, hs.keep.tape, hs.keep.output, hs.keep.size, fun k hk => hs.keep.block k hk (fun h => h)⟩, (hs.base q _ _ hq3 hown).elim (fun h => h) (fun h => h.elim), hE.plM hes⟩
     cases e with
     | normal => exact fin
     | ret => exact fin
     | _ => exact hq1.elim
 | [], hall, _ => exact hall.elim
 | _ :: _ :: _, hall, _ => exact hall.2.elim
end Go.Proofs.YtamjajacnfmgeaaGreat
