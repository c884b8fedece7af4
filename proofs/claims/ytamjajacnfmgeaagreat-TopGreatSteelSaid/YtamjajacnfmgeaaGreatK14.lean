/-
  The abstract machine on code that may be left by a 'return' behind a yield that said 'no more'. Condition: as A14.
  The rounds of a range over a function whose body asks for one number and leaves with what came. Condition: none.
  The abstract machine: 'delete' of an own map. Condition: as A21.
-/
import Derived.Test.YtamjajacnfmgeaaGreatK13
import Derived.RangeFuncKeeps
import Derived.RangeFuncLeaves
set_option linter.all false
namespace Go.Proofs.YtamjajacnfmgeaaGreat
open Go Go.RowKit
def SX (P : Program) (Φ : Fr) (X : Act → World → Prop) (c : Code) (σ : St) (Q : Exit → St → Prop) : Prop :=
  ∀ (a : Act) (W : World), Fits Φ σ a W → c.wp P (fun e a' W' => (∃ σ', Q e σ' ∧ Fits Φ σ' a' W') ∨ (e = .ret ∧ X a' W')) a W
section
variable {P : Program} {Φ : Fr} {X : Act → World → Prop} {σ σ' : St} {Q Q' : Exit → St → Prop} {x y : Code}
theorem SX.of {c : Code} (h : Sat P c σ Q) : SX P Φ X c σ Q := fun a W hf => wp_mono (h Φ a W hf) fun _ _ _ h => .inl h
theorem SX.mono {c : Code} (h : SX P Φ X c σ Q) (hq : ∀ e σ, Q e σ → Q' e σ) : SX P Φ X c σ Q' :=
  fun a W hf => wp_mono (h a W hf) fun e _ _ h => h.imp (fun ⟨s, h1, h2⟩ => ⟨s, hq e s h1, h2⟩) id
theorem SX.weak {c : Code} (hw : Weak σ σ') (h : SX P Φ X c σ' Q) : SX P Φ X c σ Q := fun a W hf => h a W (hf.weak hw)
theorem SX.skip (h : Q .normal σ) : SX P Φ X .skip σ Q := SX.of (Sat.skip h)
theorem SX.exit {id : Nat} (h : Q (.exit id) σ) : SX P Φ X (.exit id) σ Q := SX.of (Sat.exit h)
theorem SX.ret (h : Q .ret σ) : SX P Φ X .ret σ Q := SX.of (Sat.ret h)
theorem SX.seq (h : SX P Φ X x σ (thenQ (fun σ' => SX P Φ X y σ' Q) Q)) : SX P Φ X (.seq x y) σ Q := by
 intro a W hf
 refine wp_seq (wp_mono (h a W hf) fun e a' W' h => ?_)
 rcases h with ⟨s, h1, h2⟩ | ⟨rfl, h⟩
 · cases e with
   | normal => exact h1 a' W' h2
   | _ => exact .inl ⟨s, h1, h2⟩
 · exact .inr ⟨rfl, h⟩
theorem SX.cond {c : Operand} {t : Bool} (hc : ev σ.regs c = some (.v (.bool t))) (ht : t = true → SX P Φ X x σ Q) (hf : t = false → SX P Φ X y σ Q) : SX P Φ X (.cond c x y) σ Q := by
 intro a W hfit
 have hfit' := hfit
 obtain ⟨⟨E, hs, hr⟩, _, _⟩ := hfit'
 have hcv := RD_ev hr hc
 have hcv : a.eval c = .bool t := by
   generalize a.eval c = v at hcv
   cases hcv with
   | v _ _ h => cases h; rfl
 refine wp_cond hcv ?_
 cases t
 · exact hf rfl a W hfit
 · exact ht rfl a W hfit
theorem SX.condT {c : Operand} {t : Bool} (hc : ev σ.regs c = some (.v (.bool t))) (ht : t = true) (h : SX P Φ X x σ Q) : SX P Φ X (.cond c x y) σ Q :=
  SX.cond hc (fun _ => h) fun hf => by rw [ht] at hf; cases hf
theorem SX.condF {c : Operand} {t : Bool} (hc : ev σ.regs c = some (.v (.bool t))) (ht : t = false) (h : SX P Φ X y σ Q) : SX P Φ X (.cond c x y) σ Q :=
  SX.cond hc (fun hf => by rw [ht] at hf; cases hf) (fun _ => h)
theorem SX.block {id : Nat} {c : Code} (h : SX P Φ X c σ (blockQ id Q)) : SX P Φ X (.block id c) σ Q := by
 intro a W hf
 refine wp_block (wp_mono (h a W hf) fun e a' W' h => ?_)
 rcases h with ⟨s, h1, h2⟩ | ⟨rfl, h⟩
 · cases e with
   | exit i =>
     simp only [blockQ] at h1
     simp only [Exit.inBlock]
     split at h1
     · rename_i hi; rw [if_pos hi]; exact .inl ⟨s, h1, h2⟩
     · rename_i hi; rw [if_neg hi]; exact .inl ⟨s, h1, h2⟩
   | _ => exact .inl ⟨s, h1, h2⟩
 · exact .inr ⟨rfl, h⟩
theorem SX.blk {id : Nat} {c : Code} (_ : noLoop c = true) (h : SX P Φ X c σ (blockQ id Q)) : SX P Φ X (.block id c) σ Q := SX.block h
def LSX (P : Program) (Φ : Fr) (X : Act → World → Prop) (c : Code) (σ : St) (Q : Exit → St → Prop) : Prop :=
  ∀ (a : Act) (W : World), Fits Φ σ a W → ∀ (b : Frame) (k : List Item) (cs : List Frame), ∃ e a' W', ((∃ σ', Q e σ' ∧ Fits Φ σ' a' W') ∨ (e = .ret ∧ X a' W')) ∧ Arrives P (lone (b.at a (.code c :: .inLoop c :: k)) cs W) b k cs e a' W'
theorem SX.loop {c : Code} (h : LSX P Φ X c σ Q) : SX P Φ X (.loop c) σ Q := by
 intro a W hf b k cs
 obtain ⟨e, a', W', hq, harr⟩ := h a W hf b k cs
 exact ⟨e, a', W', hq, .of_steps (.one step_loop) harr⟩
theorem LSX.weak {c : Code} (hw : Weak σ σ') (h : LSX P Φ X c σ' Q) : LSX P Φ X c σ Q := fun a W hf => h a W (hf.weak hw)
theorem LSX.step {c : Code} (h : SX P Φ X c σ (thenQ (fun σ' => LSX P Φ X c σ' Q) Q)) : LSX P Φ X c σ Q := by
 intro a W hf b k cs
 obtain ⟨e, a₁, W₁, hh, harr⟩ := h a W hf b (.inLoop c :: k) cs
 rcases hh with ⟨s, hq, hfs⟩ | ⟨rfl, hx⟩
 · cases e with
   | normal =>
     obtain ⟨e₂, a₂, W₂, hq₂, harr₂⟩ := hq a₁ W₁ hfs b k cs
     exact ⟨e₂, a₂, W₂, hq₂, .of_steps (Steps.trans harr (.one step_inLoop)) harr₂⟩
   | exit id => exact ⟨_, a₁, W₁, .inl ⟨s, hq, hfs⟩, .pass (x := .inLoop c) rfl (fun _ _ => .inl (by simp)) harr⟩
   | goto l => exact ⟨_, a₁, W₁, .inl ⟨s, hq, hfs⟩, .pass (x := .inLoop c) rfl (fun _ _ => .inl (by simp)) harr⟩
   | ret => exact ⟨_, a₁, W₁, .inl ⟨s, hq, hfs⟩, .pass (x := .inLoop c) rfl (fun _ _ => .inl (by simp)) harr⟩
   | panic ch => exact ⟨_, a₁, W₁, .inl ⟨s, hq, hfs⟩, .pass (x := .inLoop c) rfl (fun _ _ => .inl (by simp)) harr⟩
   | outgrown => exact ⟨_, a₁, W₁, .inl ⟨s, hq, hfs⟩, .pass (x := .inLoop c) rfl (fun _ _ => .inl (by simp)) harr⟩
 · exact ⟨_, a₁, W₁, .inr ⟨rfl, hx⟩, .pass (x := .inLoop c) rfl (fun _ _ => .inl (by simp)) harr⟩
theorem SX.for {b : Nat} {c : Code} {I : Nat → Prop} {S : Nat → St} {N : Nat}
    (hstep : ∀ i, i < N → I i → SX P Φ X c (S i) (stepQ b I S i Q))
    (hend : I N → SX P Φ X c (S N) (endQ b Q)) :
    ∀ k, k ≤ N → I (N - k) → LSX P Φ X c (S (N - k)) (blockQ b Q)
  | 0, _, h => by
    refine LSX.step (SX.mono (hend h) fun e σ' hq => ?_)
    cases e <;> simp only [thenQ, endQ] at hq ⊢ <;> first | exact hq | exact hq.elim
  | k + 1, hk, h => by
    refine LSX.step (SX.mono (hstep (N - (k + 1)) (by omega) h) fun e σ' hq => ?_)
    cases e <;> simp only [thenQ, stepQ] at hq ⊢ <;> try exact hq
    have e : N - (k + 1) + 1 = N - k := by omega
    rw [e] at hq
    exact LSX.weak hq.2 (SX.for hstep hend k (by omega) hq.1)
theorem SX.loop' {b : Nat} {c : Code} (I : Nat → Prop) (S : Nat → St) (N : Nat) (hw : Weak σ (S 0)) (h0 : I 0)
    (hstep : ∀ i, i < N → I i → SX P Φ X c (S i) (stepQ b I S i Q))
    (hend : I N → SX P Φ X c (S N) (endQ b Q)) :
    SX P Φ X (.block b (.loop c)) σ Q := by
 have := SX.for hstep hend N (Nat.le_refl _) (by rw [Nat.sub_self]; exact h0)
 rw [Nat.sub_self] at this
 exact SX.block (SX.loop (LSX.weak hw this))
theorem SX.region {T : Nat → Option TI} (hT : TabOk P T) {id : Nat} {ops : Array Oper} (h : opsWp P T ops (fun σ' => Q .normal σ') ops.toList σ) : SX P Φ X (.region id ops false) σ Q := SX.of (Sat.region hT h)
theorem SX.dp {T : Nat → Option TI} {id : Nat} {ops : Array Oper} {n : Nat} {rl : List (Nat × D)} {s : Store} (hT : TabOk P T) (hm : P.follows .mixedOrders = true) (N : List Nat) (p : Plan) (σ1 : St) (hl : p.len ≤ ops.size) (hw : planOk ops p (Array.replicate ops.size false) = true)
    (h : walkP P T ops (ovr N s) (fun σ' => Weak σ' σ1) p ⟨n, lk rl, s⟩) (k : Q .normal σ1) : SX P Φ X (.region id ops true) ⟨n, lk rl, s⟩ Q := SX.of (Sat.dp hT hm N p σ1 hl hw h k)
theorem SX.dwN {T : Nat → Option TI} {id : Nat} {ops : Array Oper} {n : Nat} {rl : List (Nat × D)} {s : Store} (hT : TabOk P T) (hm : P.follows .mixedOrders = true) (N eff ord : List Nat) (hl : ord.length ≤ ops.size) (hw : walkOk ops eff ord (Array.replicate ops.size false) = true)
    (h : walk P T ops (ovr N s) eff (fun σ' => Q .normal σ') ord ⟨n, lk rl, s⟩) : SX P Φ X (.region id ops true) ⟨n, lk rl, s⟩ Q := SX.of (Sat.dwN hT hm N eff ord hl hw h)
theorem SX.pub {c : Code} {n : Nat} {rl : List (Nat × D)} {s : Store} {t : Nat} {d : D} {x : V} (ht : lk rl t = some d) (hp : pub s pubD d = some x) (h : SX P Φ X c ⟨n, lk ((t, .v x) :: rl), frz s (pubN s pubD d)⟩ Q) : SX P Φ X c ⟨n, lk rl, s⟩ Q :=
  fun a W hf => h a W (hf.pub ht hp)
end
section
variable {P : Program} {T : Nat → Option TI} {Φ : Fr} {m : Nat} {σ : St} {a : Act} {W : World} {next : Act → World → Prop} {Q : Exit → Act → World → Prop}
theorem opIn (hT : TabOk P T) {o : Oper} {d : D} {s' : Store} (hd : dstOk σ.n o.dst = true) (he : opEval T σ.store o.dst (ev σ.regs) o.op = some (d, s')) (hnc : ∀ c, o.op ≠ .call c) (hf : Fits Φ σ a W) (h : ∀ a' W', Fits Φ (σ.put o.dst s' d) a' W' → next a' W') : o.wpIn Fence.wide m P a W next Q := by
 refine ⟨fun _ _ => trivial, ?_⟩
 obtain ⟨⟨E, hs, hr⟩, hsz, hdf⟩ := hf
 obtain ⟨nx, v, W', E', h1, h2, h3, h4, h5⟩ := opEval_sound hT hs (fun x d hx => RD_ev hr hx) he
 have hro : Fence.wide.round = none := rfl
 rw [hro, Oper.semAt_none, h1]
 rcases h2 with rfl | ⟨rfl, rfl⟩
 · exact h _ _ (Fits.put hr hsz hdf h3 h4 h5 hd)
 · exact h _ _ (Fits.put hr hsz hdf h3 h4 h5 hd)
theorem wanted_none {o : Oper} {ys : Tmp → Option Bool} (h : o.guard = none) : Region.wanted o ys = true := by simp [Region.wanted, h]
end
theorem put_eval {a : Act} {t : Nat} {v : Value} (h : t < a.tmps.size) : (a.put (some t) v).eval (.tmp t) = v := by
 simp [Act.put, Act.eval, Array.getD_eq_getD_getElem?, Array.getElem?_setIfInBounds, h]
theorem SX.yield {P : Program} {T : Nat → Option TI} (hT : TabOk P T) {Φ : Fr} {XW : World → Prop} {Q : Exit → St → Prop} {nn : Nat} {rl : List (Nat × D)} {s : Store} {id p0 p1 p2 p3 p4 q0 q1 q2 l : Nat} {k : Int} {rows : List (List V)} {t0 t1 t2 t3 t4 tn : TypeId} {s0 s1 s2 s3 s4 : String} {f0 f1 f2 f3 f4 : Array Edge} {ts : Array TypeId}
    (h0 : lk rl q0 = some (.v (.yl l))) (h1 : lk ((p0, .v (.yl l)) :: rl) q1 = some (.v (.int .i64 k))) (h2 : lk ((p1, .v (.int .i64 k)) :: (p0, .v (.yl l)) :: rl) q2 = some (.v (.sl rows)))
    (hp : (decide (p0 < nn) && decide (p1 < nn) && decide (p2 < nn) && decide (p3 < nn) && decide (p4 < nn) && p0 != p1 && p0 != p2 && p1 != p2) = true)
    (hgo : ∀ (W : World) (E : Env) (v : Value), SR Φ W E s → RV W E.ok (.sl rows) v → YieldAt Fence.wide 0 P l #[.int .i64 k, v] W fun e W' => (e = .returned (.bool true) ∧ W' = W ∧ Q .normal ⟨nn, lk ((p4, .v (.bool false)) :: (p3, .v (.bool true)) :: (p2, .v (.sl rows)) :: (p1, .v (.int .i64 k)) :: (p0, .v (.yl l)) :: rl), s⟩) ∨ (e = .returned (.bool false) ∧ XW W')) :
    SX P Φ (fun a W => a.defers = [] ∧ XW W) ((Code.region id #[⟨some p0, .move (.tmp q0), t0, s0, f0, none⟩, ⟨some p1, .move (.tmp q1), t1, s1, f1, none⟩, ⟨some p2, .move (.tmp q2), t2, s2, f2, none⟩, ⟨some p3, .call ⟨.value (.tmp p0), #[.tmp p1, .tmp p2], ts⟩, t3, s3, f3, none⟩, ⟨some p4, .unOp .not tn (.tmp p3), t4, s4, f4, none⟩] false).seq (Code.cond (.tmp p4) .ret .skip)) ⟨nn, lk rl, s⟩ Q := by
 simp only [Bool.and_eq_true, decide_eq_true_eq, bne_iff_ne, ne_eq] at hp
 obtain ⟨⟨⟨⟨⟨⟨⟨hn0, hn1⟩, hn2⟩, hn3⟩, hn4⟩, h01⟩, h02⟩, h12⟩ := hp
 intro a W hf
 refine wp_seq ((wpIn_wide (n := 1)).1 (wpIn_region ?_))
 simp only [List.size_toArray, List.length_cons, List.length_nil, Nat.zero_add, Nat.reduceAdd]
 have hr5 : List.range 5 = [0, 1, 2, 3, 4] := rfl
 rw [hr5]
 simp only [wpOpsIn, List.getElem?_toArray, List.getElem?_cons_zero, List.getElem?_cons_succ, wanted_none, if_true]
 refine opIn hT (σ := ⟨nn, lk rl, s⟩) (d := .v (.yl l)) (s' := s) (by simpa [dstOk] using hn0) (by simp only [opEval, ev, h0]; rfl) (fun c h => by cases h) hf fun a W hf => ?_
 refine opIn hT (σ := ⟨nn, lk ((p0, .v (.yl l)) :: rl), s⟩) (d := .v (.int .i64 k)) (s' := s) (by simpa [dstOk] using hn1) (by simp only [opEval, ev, h1]; rfl) (fun c h => by cases h) hf fun a W hf => ?_
 refine opIn hT (σ := ⟨nn, lk ((p1, .v (.int .i64 k)) :: (p0, .v (.yl l)) :: rl), s⟩) (d := .v (.sl rows)) (s' := s) (by simpa [dstOk] using hn2) (by simp only [opEval, ev, h2]; rfl) (fun c h => by cases h) hf fun a W hf => ?_
 have hfit : Fits Φ ⟨nn, lk ((p2, .v (.sl rows)) :: (p1, .v (.int .i64 k)) :: (p0, .v (.yl l)) :: rl), s⟩ a W := hf
 obtain ⟨⟨E, hs, hr⟩, hsz, hdf⟩ := hfit
 have e0 : a.eval (.tmp p0) = .func (.yield l) #[] #[] := by
   have := hr p0 (.v (.yl l)) (by simp [lk, h02, h01])
   change RD W E _ (a.eval (.tmp p0)) at this
   generalize a.eval (.tmp p0) = v at this
   cases this with | v _ _ h => cases h; rfl
 have e1 : a.eval (.tmp p1) = .int .i64 k := by
   have := hr p1 (.v (.int .i64 k)) (by simp [lk, h12])
   exact this.int
 have e2 : RV W E.ok (.sl rows) (a.eval (.tmp p2)) := by
   have := hr p2 (.v (.sl rows)) (by simp [lk])
   change RD W E _ (a.eval (.tmp p2)) at this
   cases this with | v _ _ h => exact h
 obtain ⟨fn, tmps, assign, body, hy, hR⟩ := hgo W E _ hs e2
 have hro : Fence.wide.round = none := rfl
 refine ⟨fun _ _ => trivial, ?_⟩
 have hrun : (Oper.semAt Fence.wide.round a.eval ⟨some p3, .call ⟨.value (.tmp p0), #[.tmp p1, .tmp p2], ts⟩, t3, s3, f3, none⟩).run P W = .ok (.round l fn tmps assign body) W := by
   rw [hro, Oper.semAt_none]
   simp only [execOp, resolve, e0]
   simp [Deferred.ofValue, invoke, e1, hy]
 rw [hrun, Oper.uponIn_round]
 refine ⟨fun h => by simp [Fence.wide] at h, hR.mono fun e W' hh => ?_⟩
 rcases hh with ⟨rfl, rfl, hq⟩ | ⟨rfl, hx⟩
 · have hf4 : Fits Φ ⟨nn, lk ((p3, .v (.bool true)) :: (p2, .v (.sl rows)) :: (p1, .v (.int .i64 k)) :: (p0, .v (.yl l)) :: rl), s⟩ (a.put (some p3) (.bool true)) W' :=
     Fits.put (σ := ⟨nn, lk ((p2, .v (.sl rows)) :: (p1, .v (.int .i64 k)) :: (p0, .v (.yl l)) :: rl), s⟩) (dst := some p3) hr hsz hdf (Ext.refl _ _) hs (.v _ _ (.bool true)) (by simpa [dstOk] using hn3)
   refine opIn hT (σ := ⟨nn, lk ((p3, .v (.bool true)) :: (p2, .v (.sl rows)) :: (p1, .v (.int .i64 k)) :: (p0, .v (.yl l)) :: rl), s⟩) (d := .v (.bool false)) (s' := s) (by simpa [dstOk] using hn4) (by simp [opEval, ev, lk]) (fun c h => by cases h) hf4 fun a W hf => ?_
   have hc : SX P Φ (fun a W => a.defers = [] ∧ XW W) (Code.cond (.tmp p4) .ret .skip) ⟨nn, lk ((p4, .v (.bool false)) :: (p3, .v (.bool true)) :: (p2, .v (.sl rows)) :: (p1, .v (.int .i64 k)) :: (p0, .v (.yl l)) :: rl), s⟩ Q :=
     SX.condF (t := false) (by simp only [ev, lk, if_true]) rfl (SX.skip hq)
   exact hc a W hf
 · have hz3 : p3 < a.tmps.size := by rw [hsz]; exact hn3
   have hz4 : p4 < (a.put (some p3) (.bool false)).tmps.size := by
     have : (a.put (some p3) (.bool false)).tmps.size = a.tmps.size := by simp [Act.put]
     rw [this, hsz]; exact hn4
   have e3 := put_eval (v := .bool false) hz3
   refine ⟨fun _ _ => trivial, ?_⟩
   have hrun2 : (Oper.semAt Fence.wide.round (a.put (some p3) (.bool false)).eval ⟨some p4, .unOp .not tn (.tmp p3), t4, s4, f4, none⟩).run P W' = .ok (.value (.bool true)) W' := by
     rw [hro, Oper.semAt_none]
     simp [execOp, e3, Op.unary]
   rw [hrun2, Oper.uponIn_value]
   refine wp_cond (t := true) (put_eval hz4) ?_
   exact wp_ret (.inr ⟨rfl, hdf, hx⟩)
theorem YieldAt.mono' {F : Fence} {m : Nat} {P : Program} {l : Nat} {args : Array Value} {W : World} {R R' : Ending → World → Prop} (h : YieldAt F m P l args W R) (hr : ∀ e w, R e w → R' e w) : YieldAt F m P l args W R' := by
 obtain ⟨fn, tmps, assign, body, hy, hR⟩ := h
 exact ⟨fn, tmps, assign, body, hy, hR.mono hr⟩
section
variable {P : Program} {T : Nat → Option TI} {Φ : Fr} {XW : World → Prop} {Q : Exit → St → Prop} {nn : Nat} {rl : List (Nat × D)} {s : Store} {id p0 p1 p2 p3 p4 q0 q1 q2 l : Nat} {k : Int} {rows : List (List V)} {t0 t1 t2 t3 t4 tn : TypeId} {s0 s1 s2 s3 s4 : String} {f0 f1 f2 f3 f4 : Array Edge} {ts : Array TypeId}
theorem SX.yieldG (hT : TabOk P T) (h0 : lk rl q0 = some (.v (.yl l))) (h1 : lk ((p0, .v (.yl l)) :: rl) q1 = some (.v (.int .i64 k))) (h2 : lk ((p1, .v (.int .i64 k)) :: (p0, .v (.yl l)) :: rl) q2 = some (.v (.sl rows)))
    (hp : (decide (p0 < nn) && decide (p1 < nn) && decide (p2 < nn) && decide (p3 < nn) && decide (p4 < nn) && p0 != p1 && p0 != p2 && p1 != p2) = true)
    (hgo : ∀ (W : World) (E : Env) (v : Value), SR Φ W E s → YieldAt Fence.wide 0 P l #[.int .i64 k, v] W fun e W' => e = .returned (.bool true) ∧ W' = W)
    (hq : Q .normal ⟨nn, lk ((p4, .v (.bool false)) :: (p3, .v (.bool true)) :: (p2, .v (.sl rows)) :: (p1, .v (.int .i64 k)) :: (p0, .v (.yl l)) :: rl), s⟩) :
    SX P Φ (fun a W => a.defers = [] ∧ XW W) ((Code.region id #[⟨some p0, .move (.tmp q0), t0, s0, f0, none⟩, ⟨some p1, .move (.tmp q1), t1, s1, f1, none⟩, ⟨some p2, .move (.tmp q2), t2, s2, f2, none⟩, ⟨some p3, .call ⟨.value (.tmp p0), #[.tmp p1, .tmp p2], ts⟩, t3, s3, f3, none⟩, ⟨some p4, .unOp .not tn (.tmp p3), t4, s4, f4, none⟩] false).seq (Code.cond (.tmp p4) .ret .skip)) ⟨nn, lk rl, s⟩ Q :=
  SX.yield hT h0 h1 h2 hp fun W E v hs _ => YieldAt.mono' (hgo W E v hs) fun e w h => .inl ⟨h.1, h.2, hq⟩
theorem SX.yieldS (hT : TabOk P T) (h0 : lk rl q0 = some (.v (.yl l))) (h1 : lk ((p0, .v (.yl l)) :: rl) q1 = some (.v (.int .i64 k))) (h2 : lk ((p1, .v (.int .i64 k)) :: (p0, .v (.yl l)) :: rl) q2 = some (.v (.sl rows)))
    (hp : (decide (p0 < nn) && decide (p1 < nn) && decide (p2 < nn) && decide (p3 < nn) && decide (p4 < nn) && p0 != p1 && p0 != p2 && p1 != p2) = true)
    (hst : ∀ (W : World) (E : Env) (v : Value), SR Φ W E s → RV W E.ok (.sl rows) v → YieldAt Fence.wide 0 P l #[.int .i64 k, v] W fun e W' => e = .returned (.bool false) ∧ XW W') :
    SX P Φ (fun a W => a.defers = [] ∧ XW W) ((Code.region id #[⟨some p0, .move (.tmp q0), t0, s0, f0, none⟩, ⟨some p1, .move (.tmp q1), t1, s1, f1, none⟩, ⟨some p2, .move (.tmp q2), t2, s2, f2, none⟩, ⟨some p3, .call ⟨.value (.tmp p0), #[.tmp p1, .tmp p2], ts⟩, t3, s3, f3, none⟩, ⟨some p4, .unOp .not tn (.tmp p3), t4, s4, f4, none⟩] false).seq (Code.cond (.tmp p4) .ret .skip)) ⟨nn, lk rl, s⟩ Q :=
  SX.yield hT h0 h1 h2 hp fun W E v hs hv => YieldAt.mono' (hst W E v hs hv) fun e w h => .inr h
end
section
variable {P : Program} {T : Nat → Option TI} {all : Array Oper} {K : St → Prop} {n : Nat} {r : List (Nat × D)} {s : Store}
theorem step_mk {q t es eb sz L : Nat} {lo co : Operand} {ty : TypeId} {pos : String} {af : Array Edge} {ez z : List D} {e : Bool} {zs : List V} (hd : (decide (q < n)) = true) (ht : T t = some ⟨.sl es eb ez, sz, z, e⟩) (hl : ev (lk r) lo = some (.v (.int .i64 (L : Int)))) (hc : ev (lk r) co = some (.v (.int .i64 (L : Int))))
    (h0 : 0 < L) (h1 : L ≤ 1048576) (hb : (decide (eb ≤ 1048576) && ez.length == es && decide (0 < es)) = true) (hz : pub s pubD (.ag ez) = some (.ag zs)) (hq : s q = none) (h : K ⟨n, lk ((q, .osl q es L 0 L) :: r), upd s q ⟨.sl es (List.replicate L zs), false⟩⟩) :
    stepWp P T all ⟨n, lk r, s⟩ ⟨some q, .makeSlice t lo co, ty, pos, af, none⟩ K := by
 simp only [Bool.and_eq_true, decide_eq_true_eq, beq_iff_eq] at hb
 obtain ⟨⟨hb1, hb2⟩, hb3⟩ := hb
 refine step_op hd rfl ?_ h
 have hcond : (L : Int) = (L : Int) ∧ 0 < (L : Int) ∧ (L : Int).toNat ≤ mostRows ∧ eb ≤ mostRows ∧ ez.length = es ∧ 0 < es := ⟨rfl, by omega, by simpa [mostRows] using h1, by simpa [mostRows] using hb1, hb2, hb3⟩
 simp only [opEval, ht, hl, hc, if_pos hcond, hz, ownNew, hq, Option.isNone_none, if_true, Option.map_some, Int.toNat_natCast, V.cells]
 rw [if_pos ⟨trivial, by omega, by simpa [mostRows] using h1, by simpa [mostRows] using hb1, hb2, hb3⟩]
end
end Go.Proofs.YtamjajacnfmgeaaGreat
namespace Go.Proofs.YtamjajacnfmgeaaGreat
open Go Go.RowKit
section
variable {F : Fence} {P : Program} {m : Nat} {a : Act} {W : World} {next : Act → World → Prop} {Q : Exit → Act → World → Prop}
theorem opV (hfn : ∀ f, F.fn f) {o : Oper} {v : Value} (hd : ∀ c, o.op ≠ .defer c) (hr : (execOp a.eval o).run P W = .ok (.value v) W) (k : next (a.put o.dst v) W) : o.wpIn F m P a W next Q := by
 refine ⟨fun _ _ => hfn _, ?_⟩
 rw [Oper.semAt_eq _ _ _ hd, hr]; exact k
theorem opK (hfn : ∀ f, F.fn f) {o : Oper} {W' : World} (hd : ∀ c, o.op ≠ .defer c) (hr : (execOp a.eval o).run P W = .ok .skip W') (k : next (a.put o.dst undef) W') : o.wpIn F m P a W next Q := by
 refine ⟨fun _ _ => hfn _, ?_⟩
 rw [Oper.semAt_eq _ _ _ hd, hr]; exact k
end
theorem put_eval_ne {a : Act} {t u : Nat} {v : Value} (h : u ≠ t) : (a.put (some t) v).eval (.tmp u) = a.eval (.tmp u) := by
 simp [Act.put, Act.eval, Array.getD_eq_getD_getElem?, Array.getElem?_setIfInBounds, Ne.symm h]
theorem put_size {a : Act} {t : Nat} {v : Value} : (a.put (some t) v).tmps.size = a.tmps.size := by simp [Act.put]
section
variable {F : Fence} {P : Program} {m : Nat} {a : Act} {W : World} {Q : Exit → Act → World → Prop} {K : Act → World → Prop} {N : Exit → Act → World → Prop}
theorem rndA (hfn : ∀ f, F.fn f) {i4 i5 : Nat} {y1 y2 : TypeId} {s1 s2 : String} {f1 f2 : Array Edge} (h : K ((a.put (some 8) (a.eval (.tmp 17))).put (some 9) ((a.put (some 8) (a.eval (.tmp 17))).eval (.tmp 18))) W) :
    ((Code.region i4 #[⟨some 8, .assign (.tmp 17), y1, s1, f1, none⟩] false).seq (Code.region i5 #[⟨some 9, .assign (.tmp 18), y2, s2, f2, none⟩] false)).wpIn F m P (Exit.then K N) a W := by
 refine wpIn_seq (wpIn_region ?_)
 have hr1 : List.range 1 = [0] := rfl
 simp only [List.size_toArray, List.length_cons, List.length_nil, Nat.zero_add, hr1, wpOpsIn, List.getElem?_toArray, List.getElem?_cons_zero, wanted_none, if_true]
 refine opV hfn (v := a.eval (.tmp 17)) (fun c h => by cases h) (by simp [execOp]) ?_
 refine wpIn_region ?_
 simp only [List.size_toArray, List.length_cons, List.length_nil, Nat.zero_add, hr1, wpOpsIn, List.getElem?_toArray, List.getElem?_cons_zero, wanted_none, if_true]
 exact opV hfn (v := (a.put (some 8) (a.eval (.tmp 17))).eval (.tmp 18)) (fun c h => by cases h) (by simp [execOp]) h
theorem run_load1 {t : TypeId} {u : TypeDesc} {b : Nat} {x : Value} {t' : TypeId} (hu : P.underlying t = some u) (ha : aggD u = false) (hb : W.heap[b]? = some (.cells #[x] t' (0, 0))) : (loadVar t ⟨b, 0, none⟩).run P W = .ok x W :=
  run_loadVar_one W hu ha b 0 x (by have := cell_of_heap (vs := [x]) hb 0; simpa using this)
theorem run_store1 {t : TypeId} {i : TypeInfo} {b : Nat} {x v : Value} {t' : TypeId} (hi : P.info? t = some i) (hs : i.size = 1) (hb : W.heap[b]? = some (.cells #[x] t' (0, 0))) (hv : v.cells.toList = [v]) (h1 : v.oneCell' = true) : (storeVar t ⟨b, 0, none⟩ v).run P W = .ok () (setBlk W b (.cells #[v] t' (0, 0))) := by
 have := run_storeVar (P := P) (W := W) (o := 0) (c := [x]) (v := v) hi hb (by rw [hv, hs]; rfl) (by rw [hs]; simp) (by rw [hv]; simpa using h1)
 rw [this, hv]; rfl
theorem rndB {T : Nat → Option TI} (hfn : ∀ f, F.fn f) {i6 i7 bl : Nat} {y0 y1 y2 y3 y4 y5 ta tb tc td te : TypeId} {s0 s1 s2 s3 s4 s5 : String} {f0 f1 f2 f3 f4 f5 : Array Edge} {b5 b6 b7 : Nat} {n k : Int} {v c6 c7 : Value} {t5 t6 t7 : TypeId} {u5 : TypeDesc} {i6' i7' : TypeInfo}
    (hsz : a.tmps.size = 23) (e8 : a.eval (.tmp 8) = .int .i64 k) (e9 : a.eval (.tmp 9) = v) (e5 : a.eval (.tmp 5) = .pointer (some ⟨b5, 0, none⟩)) (e6 : a.eval (.tmp 6) = .pointer (some ⟨b6, 0, none⟩)) (e7 : a.eval (.tmp 7) = .pointer (some ⟨b7, 0, none⟩))
    (h5 : W.heap[b5]? = some (.cells #[.int .i64 n] t5 (0, 0))) (h6 : W.heap[b6]? = some (.cells #[c6] t6 (0, 0))) (h7 : W.heap[b7]? = some (.cells #[c7] t7 (0, 0))) (h67 : b7 ≠ b6)
    (hu5 : P.underlying ta = some u5) (ha5 : aggD u5 = false) (hi6 : P.info? tc = some i6') (hs6 : i6'.size = 1) (hi7 : P.info? td = some i7') (hs7 : i7'.size = 1) (hT : TabOk P T)
    (hgo : k ≠ n → ∀ a', Q .normal a' W) (hst : k = n → v.cells.toList = [v] ∧ v.oneCell' = true ∧ ∀ a', Q .ret a' (setBlk (setBlk W b6 (.cells #[v] t6 (0, 0))) b7 (.cells #[.int .i64 0] t7 (0, 0)))) :
    (Code.block bl ((Code.region i6 #[⟨some 19, .move (.tmp 8), y0, s0, f0, none⟩, ⟨some 20, .load ta (.tmp 5), y1, s1, f1, none⟩, ⟨some 21, .binOp .eql tb (.tmp 19) (.tmp 20) te, y2, s2, f2, none⟩] false).seq (Code.cond (.tmp 21)
      ((Code.region i7 #[⟨some 22, .move (.tmp 9), y3, s3, f3, none⟩, ⟨none, .store tc (.tmp 6) (.tmp 22), y4, s4, f4, none⟩, ⟨none, .store td (.tmp 7) (.const (.int .i64 0)), y5, s5, f5, none⟩] false).seq Code.ret) Code.skip))).wpIn F m P Q a W := by
 have hr3 : List.range 3 = [0, 1, 2] := rfl
 refine wpIn_block (wpIn_seq (wpIn_region ?_))
 simp only [List.size_toArray, List.length_cons, List.length_nil, Nat.zero_add, Nat.reduceAdd, hr3, wpOpsIn, List.getElem?_toArray, List.getElem?_cons_zero, List.getElem?_cons_succ, wanted_none, if_true]
 refine opV hfn (v := .int .i64 k) (fun c h => by cases h) (by simp [execOp, e8]) ?_
 have g5 : (a.put (some 19) (.int .i64 k)).eval (.tmp 5) = .pointer (some ⟨b5, 0, none⟩) := by rw [put_eval_ne (by decide)]; exact e5
 refine opV hfn (v := .int .i64 n) (fun c h => by cases h) (by simp [execOp, g5, Instr.loadAt, Instr.sureAddr, run_load1 hu5 ha5 h5]) ?_
 have g19 : ((a.put (some 19) (.int .i64 k)).put (some 20) (.int .i64 n)).eval (.tmp 19) = .int .i64 k := by rw [put_eval_ne (by decide), put_eval (by rw [hsz]; decide)]
 have g20 : ((a.put (some 19) (.int .i64 k)).put (some 20) (.int .i64 n)).eval (.tmp 20) = .int .i64 n := put_eval (by rw [put_size, hsz]; decide)
 obtain ⟨w, hw, hrv⟩ := binEval_sound (P := P) (W := W) (E := ⟨fun _ => False, fun _ => none⟩) hT (xo := .tmp 19) (yo := .tmp 20) (op := .eql) (t := tb) (x := .v (.int .i64 k)) (y := .v (.int .i64 n)) (z := .bool (k == n)) (.v _ _ (.int .i64 k)) (.v _ _ (.int .i64 n)) (by simp [binEval, intOp])
 cases hrv
 refine opV hfn (v := .bool (k == n)) (fun c h => by cases h) (by
   simp only [Sem.run_bind] at hw
   simp only [execOp, g19, g20, Sem.run_bind, Sem.run_pure]
   revert hw
   generalize Sem.run P (eqGuard BinOp.eql tb (Operand.tmp 19) (Operand.tmp 20) (Value.int IntKind.i64 k) (Value.int IntKind.i64 n)) W = r
   intro hw
   cases r with
   | ok u w1 =>
     simp only [Result.andThen_ok] at hw ⊢
     rw [hw]; rfl
   | halt x w1 => cases hw) ?_
 have z21 : 21 < ((a.put (some 19) (.int .i64 k)).put (some 20) (.int .i64 n)).tmps.size := by rw [put_size, put_size, hsz]; decide
 obtain ⟨a1, ha1⟩ : ∃ a1, a1 = (((a.put (some 19) (.int .i64 k)).put (some 20) (.int .i64 n)).put (some 21) (.bool (k == n))) := ⟨_, rfl⟩
 have g21 : a1.eval (.tmp 21) = .bool (k == n) := by rw [ha1]; exact put_eval z21
 have q9 : a1.eval (.tmp 9) = v := by rw [ha1, put_eval_ne (by decide), put_eval_ne (by decide), put_eval_ne (by decide)]; exact e9
 have q6 : a1.eval (.tmp 6) = .pointer (some ⟨b6, 0, none⟩) := by rw [ha1, put_eval_ne (by decide), put_eval_ne (by decide), put_eval_ne (by decide)]; exact e6
 have q7 : a1.eval (.tmp 7) = .pointer (some ⟨b7, 0, none⟩) := by rw [ha1, put_eval_ne (by decide), put_eval_ne (by decide), put_eval_ne (by decide)]; exact e7
 have qsz : a1.tmps.size = 23 := by rw [ha1, put_size, put_size, put_size]; exact hsz
 change (Code.cond _ _ _).wpIn F m P _ _ W
 have hput : ((a.put (some 19) (.int .i64 k)).put (some 20) (.int .i64 n)).put (some 21) (.bool (k == n)) = a1 := ha1.symm
 simp only [hput]
 by_cases hk : k = n
 · obtain ⟨hv1, hv2, hq⟩ := hst hk
   refine wpIn_cond_true (by rw [g21]; simp [hk]) (wpIn_seq (wpIn_region ?_))
   simp only [List.size_toArray, List.length_cons, List.length_nil, Nat.zero_add, Nat.reduceAdd, hr3, wpOpsIn, List.getElem?_toArray, List.getElem?_cons_zero, List.getElem?_cons_succ, wanted_none, if_true]
   refine opV hfn (v := v) (fun c h => by cases h) (by simp [execOp, q9]) ?_
   have g6 : (a1.put (some 22) v).eval (.tmp 6) = .pointer (some ⟨b6, 0, none⟩) := by rw [put_eval_ne (by decide)]; exact q6
   have g7 : (a1.put (some 22) v).eval (.tmp 7) = .pointer (some ⟨b7, 0, none⟩) := by rw [put_eval_ne (by decide)]; exact q7
   have g22 : (a1.put (some 22) v).eval (.tmp 22) = v := put_eval (by rw [qsz]; decide)
   refine opK hfn (W' := setBlk W b6 (.cells #[v] t6 (0, 0))) (fun c h => by cases h) (by simp [execOp, g6, g22, Instr.storeAt, Instr.sureAddr, run_store1 hi6 hs6 h6 hv1 hv2]) ?_
   have h7' : (setBlk W b6 (.cells #[v] t6 (0, 0))).heap[b7]? = some (.cells #[c7] t7 (0, 0)) := by rw [setBlk_ne W _ h67]; exact h7
   have g7' : ((a1.put (some 22) v).put none undef).eval (.tmp 7) = .pointer (some ⟨b7, 0, none⟩) := g7
   have gc : ((a1.put (some 22) v).put none undef).eval (.const (.int .i64 0)) = .int .i64 0 := rfl
   refine opK hfn (W' := setBlk (setBlk W b6 (.cells #[v] t6 (0, 0))) b7 (.cells #[.int .i64 0] t7 (0, 0))) (fun c h => by cases h) (by simp [execOp, g7', gc, Instr.storeAt, Instr.sureAddr, run_store1 (v := .int .i64 0) hi7 hs7 h7' rfl rfl]) ?_
   exact wpIn_ret (hq _)
 · refine wpIn_cond_false (by rw [g21]; simp [hk]) (wpIn_skip ?_)
   exact hgo hk _
end
end Go.Proofs.YtamjajacnfmgeaaGreat
namespace Go.Proofs.YtamjajacnfmgeaaGreat
open Go Go.RowKit
section
variable {P : Program} {T : Nat → Option TI} {all : Array Oper} {Q : St → Prop} {n : Nat} {r : List (Nat × D)} {s : Store} {os : List Oper}
theorem x_del {t kt : TypeId} {x k : Operand} {ty : TypeId} {pos : String} {af : Array Edge} {st : Bool} {sz : Nat} {ez : D} {z : List D} {e : Bool} {m q : Nat} {key val : V} {es : List (V × V)} (ht : T t = some ⟨.mp st ez, sz, z, e⟩) (hT : TabOk P T)
    (hx : ev (lk r) x = some (.omap m)) (hk : ev (lk r) k = some (.v key)) (hm : s m = some ⟨.mp es, false⟩) (hko : keyOk st key = true) (hf : findE key es 0 = some (some (q, val)))
    (kk : opsX P T all Q os ⟨n, lk r, upd s m ⟨.mp (es.eraseIdx q), false⟩⟩) : opsX P T all Q (⟨none, .call ⟨.builtin .delete, #[x, k], #[t, kt]⟩, ty, pos, af, none⟩ :: os) ⟨n, lk r, s⟩ := by
 refine x_didN (d := .v (.tp [])) (fun Φ W E ρ hs hr => ?_) kk
 obtain ⟨i, u, z', hi', hu, hzz, _, hze, htd⟩ := tab hT ht
 have hv := hr x _ hx
 have hkv := hr k _ hk
 generalize hxv : ρ x = v at hv
 generalize hkk : ρ k = kv at hkv
 cases hkv with
 | v _ _ hkv =>
 cases hv with
 | omap _ b hb =>
   obtain ⟨j, hj, hE⟩ := hs.ent m _ hm
   rw [hb] at hj; cases hj
   cases u with
   | map ky et =>
     obtain ⟨_, hku⟩ := htd
     cases hE with
     | mp b es f ents clock hbb hl hcell =>
       have hck := run_checkKey (P := P) (W := W) (emp := ents.isEmpty) hkv hko hku
       have hlt : b < W.heap.size := (Array.getElem?_eq_some_iff.1 hbb).1
       obtain ⟨e0, y, g1, _, g3, g4, _, _, g5⟩ := findE_sound hkv hko hl hcell hf
       have hfk := run_findKey (P := P) (W := W) hku g1
       simp only [Nat.sub_zero] at g3 g4
       have hturn := turn_set hs hm hb (i' := .mp b) rfl rfl (.map (ents.toArray.eraseIdxIfInBounds q) clock)
       have hext := hturn.ext (o := .mp (es.eraseIdx q)) hs
       have her : ents.toArray.eraseIdxIfInBounds q = (ents.eraseIdx q).toArray := by
         apply Array.ext'
         simp
       refine ⟨.value (.tuple #[]), _, _, _, ?_, .inl rfl, hext, hturn.sr hs (.mp b _ false (ents.eraseIdx q) clock (by rw [← her]; exact setBlk_same W _ hlt) (by rw [List.length_eraseIdx, List.length_eraseIdx, hl]) ?_), .v _ _ (.tp [] [] rfl fun i x v hx => by simp at hx)⟩
       · simp [execOp, resolve, invoke, builtin, hxv, hkk, Builtin.delete_, Go.run_underlying hu, run_getMap hbb, hck, hfk, run_setMap hbb, Own.block]
       · intro i z e' hz he'
         rw [List.getElem?_eraseIdx] at hz he'
         split at hz
         · rename_i hlt
           rw [if_pos hlt] at he'
           obtain ⟨a, c⟩ := hcell i z e' hz he'
           exact ⟨a.mono hext.ok, c.mono hext.ok⟩
         · rename_i hlt
           rw [if_neg hlt] at he'
           obtain ⟨a, c⟩ := hcell (i + 1) z e' hz he'
           exact ⟨a.mono hext.ok, c.mono hext.ok⟩
   | _ => simp [TdOk] at htd
end
end Go.Proofs.YtamjajacnfmgeaaGreat
