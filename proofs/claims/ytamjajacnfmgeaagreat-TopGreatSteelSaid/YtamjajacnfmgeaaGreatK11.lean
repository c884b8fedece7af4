/-
  The abstract machine: contracts of functions that write a slice that they are given. Condition: as A21.
-/
import Derived.Test.YtamjajacnfmgeaaGreatK10
set_option linter.all false
namespace Go.Proofs.YtamjajacnfmgeaaGreat
open Go Go.RowKit
inductive WR where
  | unit
  | cut (n : Nat)
def WR.D (k tot : Nat) : WR → Nat → D
  | .unit, _ => .v (.tp [])
  | .cut n, m => .osl m k tot 0 n
def OkW (P : Program) (f k : Nat) (rows : List (List V)) (xs : List V) (rows' : List (List V)) (r : WR) : Prop :=
  Enters P f ∧ ∀ (W : World) (ok : Nat → Prop) (vs : List Value) (sv : Value) (b cs : Nat), (∀ c, ok c → c < W.heap.size ∧ c ≠ b) → All2 (RV W ok) xs vs →
    RD W (env0 ok (some (.sl b k rows.length cs))) (.osl 0 k rows.length 0 rows.length) sv → EntR W (env0 ok (some (.sl b k rows.length cs))) (.sl b k rows.length cs) ⟨.sl k rows, false⟩ →
    Calls P f (sv :: vs).toArray W fun e W' => ∃ v, e = .returned v ∧ BelowBut W.heap.size b W W' ∧ ∃ B : Nat → Prop, (∀ c, B c → (ok c ∨ (W.heap.size ≤ c ∧ c < W'.heap.size)) ∧ c ≠ b) ∧
      RD W' (env0 B (some (.sl b k rows.length cs))) (r.D k rows.length 0) v ∧ EntR W' (env0 B (some (.sl b k rows.length cs))) (.sl b k rows.length cs) ⟨.sl k rows', false⟩
theorem EntR.rename {W : World} {E E' : Env} {b k tot cs : Nat} {rows : List (List V)} {f f' : Bool} (h : EntR W E (.sl b k tot cs) ⟨.sl k rows, f⟩) (hok : ∀ c, E.ok c → E'.ok c) : EntR W E' (.sl b k tot cs) ⟨.sl k rows, f'⟩ := by
 cases h with
 | sl _ _ _ _ _ vs t hb hl hk hn h => exact .sl b k cs rows f' vs t hb hl hk hn fun i j row x v hr hx hv => (h i j row x v hr hx hv).mono fun c hc => ⟨hok c hc, rfl⟩
theorem call_write {P : Program} {f k : Nat} {rows : List (List V)} {xs : List V} {rows' : List (List V)} {r : WR} {ds : List D} {s : Store} {m : Nat} (hok : OkW P f k rows xs rows' r) (hxs : optList (pub s pubD) ds = some xs) (hm : s m = some ⟨.sl k rows, false⟩) (hn : m ∉ ds.flatMap (pubN s pubD)) :
    CallDo P f (.osl m k rows.length 0 rows.length :: ds) s (upd (frz s (ds.flatMap (pubN s pubD))) m ⟨.sl k rows', false⟩) (r.D k rows.length m) := by
 obtain ⟨hent, hcall⟩ := hok
 refine ⟨hent, fun Φ W E vs hs hl hr => ?_⟩
 cases vs with
 | nil => simp at hl
 | cons sv us =>
 have hsv : RD W E (.osl m k rows.length 0 rows.length) sv := hr 0 _ _ rfl rfl
 obtain ⟨h1, h2⟩ := pub_args hs (ds := ds) (vs := us) (by simpa using hl) (fun i d v hd hv => hr (i + 1) d v (by simpa using hd) (by simpa using hv)) hxs
 have hsf := hs.frz_sr (ds.flatMap (pubN s pubD))
 have hxf := hs.frz_ext (ds.flatMap (pubN s pubD))
 have hm1 : frz s (ds.flatMap (pubN s pubD)) m = some ⟨.sl k rows, false⟩ := by rw [frz_other (by simpa using hn)]; exact hm
 generalize hs1 : frz s (ds.flatMap (pubN s pubD)) = s1 at *
 obtain ⟨i, hi, hE⟩ := hsf.ent m _ hm1
 have hi' : E.own m = some i := hi
 obtain ⟨b, cs, rfl⟩ : ∃ b cs, i = .sl b k rows.length cs := by cases hE; exact ⟨_, _, rfl⟩
 have hnb : ∀ c, (envFrz Φ W E s (ds.flatMap (pubN s pubD))).ok c → c < W.heap.size ∧ c ≠ b := fun c hc => by
   obtain ⟨q1, q2, q3⟩ := (hsf.okd c).1 hc
   exact ⟨q1, fun h => q3 m _ _ hm1 rfl hi h.symm⟩
 refine (hcall W _ us sv b cs hnb (All2.of h1 h2) ?_ (hE.rename fun c hc => hc)).mono fun e W' ⟨v, he, hbb, B, hB, hrd, hE'⟩ => ?_
 · cases hsv with
   | osl _ _ tot off len b' cs' cap h' ho hc' hlc =>
     rw [hi'] at h'; cases h'
     exact .osl 0 k _ 0 _ b cs cap (by simp [env0]) ho hc' hlc
   | oslOld _ _ tot off len b' tot' cs' a l c h' ht =>
     rw [hi'] at h'; cases h'
     omega
 · have hturn : Turn Φ W W' (envFrz Φ W E s (ds.flatMap (pubN s pubD))) s1 m (.sl b k rows.length cs) :=
     ⟨hbb.os, hbb.tape, hbb.output, fun c hc hne => hbb.block c hc hne, hbb.size, hE'.block_lt, hsf.base m _ _ hm1 hi, .inr ⟨_, _, hm1, rfl, hi, Own.le_refl _, .inl rfl⟩⟩
   have hc : ∀ c, B c → okOf Φ W' (upd E.own m (.sl b k rows.length cs)) (upd s1 m ⟨.sl k rows', false⟩) c := by
     intro c hcB
     obtain ⟨h3, h4⟩ := hB c hcB
     have hold : ∀ n e j, n ≠ m → s1 n = some e → E.own n = some j → e.frz = false → j.block < W.heap.size ∧ ((envFrz Φ W E s (ds.flatMap (pubN s pubD))).ok c → j.block ≠ c) := fun n e j hne hn' hj hf => by
       obtain ⟨j', hj', hrr⟩ := hsf.ent n e hn'
       simp only [envFrz] at hj'
       rw [hj] at hj'; cases hj'
       exact ⟨hrr.block_lt, fun hk => ((hsf.okd c).1 hk).2.2 n e j hn' hf hj⟩
     rcases h3 with hk | ⟨g1, g2⟩
     · obtain ⟨q1, q2, q3⟩ := (hsf.okd c).1 hk
       refine ⟨by have := hbb.size; omega, q2, fun n e j hn' hf hj => ?_⟩
       by_cases hnm : n = m
       · subst hnm; rw [upd_same] at hj; cases hj; exact fun h => h4 h.symm
       · rw [upd_ne _ _ hnm] at hn' hj
         exact (hold n e j hnm hn' hj hf).2 hk
     · refine ⟨g2, fun hF => by have := (hs.fb c hF).1; have := hs.keep.size; omega, fun n e j hn' hf hj => ?_⟩
       by_cases hnm : n = m
       · subst hnm; rw [upd_same] at hj; cases hj; exact fun h => h4 h.symm
       · rw [upd_ne _ _ hnm] at hn' hj
         have := (hold n e j hnm hn' hj hf).1
         omega
   have hE1 : EntR W' (envOf Φ W' (envFrz Φ W E s (ds.flatMap (pubN s pubD))) (upd s1 m ⟨.sl k rows', false⟩) m (.sl b k rows.length cs)) (.sl b k rows.length cs) ⟨.sl k rows', false⟩ := hE'.rename fun c hcB => hc c hcB
   refine ⟨v, _, he, hxf.trans (hturn.ext hsf), hturn.sr hsf hE1, ?_⟩
   cases r with
   | unit =>
     cases hrd with
     | v _ _ h => exact .v _ _ (h.sc rfl)
   | cut n =>
     cases hrd with
     | osl _ _ tot off len b' cs' cap h' ho hc' hlc =>
       simp only [env0, if_true, Option.some.injEq, Own.sl.injEq] at h'
       obtain ⟨rfl, _, _, rfl⟩ := h'
       exact .osl m k _ 0 _ b cs cap (by simp [envOf, upd_same]) ho hc' hlc
     | oslOld _ _ tot off len b' tot' cs' a l c h' ht =>
       simp only [env0, if_true, Option.some.injEq, Own.sl.injEq] at h'
       obtain ⟨_, _, h3, _⟩ := h'
       omega
theorem call_pub {P : Program} {g : Nat} {ds : List D} {s s' : Store} {d : D} {x : V} (h : CallDo P g ds s s' d) (hp : pub s' pubD d = some x) : CallDo P g ds s (frz s' (pubN s' pubD d)) (.v x) := by
 obtain ⟨hent, hcall⟩ := h
 refine ⟨hent, fun Φ W E vs hs hl hr => (hcall Φ W E vs hs hl hr).mono fun e W' ⟨v, E', he, hx, hs', hv⟩ => ?_⟩
 exact ⟨v, _, he, hx.trans (hs'.frz_ext _), hs'.frz_sr _, .v x v (pub_sound hs' _ pubD d v x hv hp fun m hm => hm)⟩
theorem lk_init1 {xs : List V} {t : Nat} {d : D} {q : D} (h : lk ((0, q) :: initL 1 xs) t = some d) : (t = 0 ∧ d = q) ∨ ∃ j x, t = j + 1 ∧ xs[j]? = some x ∧ d = .v x := by
 rw [lk_cons] at h
 split at h
 · rename_i ht; cases h; exact .inl ⟨ht, rfl⟩
 · obtain ⟨j, x, h1, h2, h3⟩ := lk_initL h
   exact .inr ⟨j, x, by omega, h2, h3⟩
def OkC (P : Program) (f k : Nat) (rows : List (List V)) (xs : List V) (r : V) : Prop :=
  Enters P f ∧ ∀ (W : World) (ok : Nat → Prop) (vs : List Value) (sv : Value) (b cs : Nat), (∀ c, ok c → c < W.heap.size ∧ c ≠ b) → All2 (RV W ok) xs vs →
    RD W (env0 ok (some (.sl b k rows.length cs))) (.osl 0 k rows.length 0 rows.length) sv → EntR W (env0 ok (some (.sl b k rows.length cs))) (.sl b k rows.length cs) ⟨.sl k rows, false⟩ →
    Calls P f (sv :: vs).toArray W fun e W' => ∃ v, e = .returned v ∧ BelowBut W.heap.size b W W' ∧ RV W' (fun c => ok c ∨ (W.heap.size ≤ c ∧ c < W'.heap.size) ∨ c = b) r v
theorem okC_of_sat {P : Program} {T : Nat → Option TI} (hT : TabOk P T) {f : Nat} {fn : Func} {c : Code} {k : Nat} {rows : List (List V)} {xs : List V} {r : V} (hf : P.funcs[f]? = some fn) (hb : fn.body = some c) (he : Enters P f)
    (h : Sat P c ⟨xs.length + 1 + (fn.ntmps - (xs.length + 1)), lk ((0, .osl 0 k rows.length 0 rows.length) :: initL 1 xs), lk [(0, ⟨.sl k rows, false⟩)]⟩ (Ends T fn r)) : OkC P f k rows xs r := by
 refine ⟨he, fun W ok vs sv b cs hok hv hsv hE => ?_⟩
 refine calls_of_wp hf hb ?_
 have hl := hv.len
 let Φ : Fr := ⟨fun c => c < W.heap.size ∧ ¬ok c ∧ c ≠ b, fun c => c = b, W⟩
 let own : Nat → Option Own := fun n => if n = 0 then some (.sl b k rows.length cs) else none
 let E : Env := ⟨okOf Φ W own (lk [(0, ⟨.sl k rows, false⟩)]), own⟩
 have st0 : ∀ n e, lk [(0, (⟨.sl k rows, false⟩ : Ent))] n = some e → n = 0 ∧ e = ⟨.sl k rows, false⟩ := fun n e hn => by
   rw [lk_cons] at hn
   split at hn
   · rename_i h0; cases hn; exact ⟨h0, rfl⟩
   · cases hn
 have ow0 : ∀ n i, own n = some i → n = 0 ∧ i = .sl b k rows.length cs := fun n i hn => by
   simp only [own] at hn
   split at hn
   · rename_i h0; cases hn; exact ⟨h0, rfl⟩
   · cases hn
 have hok' : ∀ c, ok c → E.ok c := fun c hc => ⟨(hok c hc).1, fun hF => hF.2.1 hc, fun n e i hn hf hi => by
   obtain ⟨_, rfl⟩ := ow0 n i hi
   exact fun h => (hok c hc).2 h.symm⟩
 have hfit : Fits Φ ⟨xs.length + 1 + (fn.ntmps - (xs.length + 1)), lk ((0, .osl 0 k rows.length 0 rows.length) :: initL 1 xs), lk [(0, ⟨.sl k rows, false⟩)]⟩ { tmps := (sv :: vs).toArray ++ Array.replicate (fn.ntmps - (sv :: vs).toArray.size) undef, defers := [] } W := by
   refine ⟨⟨E, ⟨⟨rfl, rfl, rfl, Nat.le_refl _, fun _ _ _ => rfl⟩, fun n hn => ?_, fun n e hn => ?_, fun n e i hn hi => ?_, fun b => Iff.rfl, fun n m e e' i i' hnm hn hm => ?_, fun c hF => ⟨hF.1, hF.2.2⟩⟩, ?_⟩, by simp [hl], rfl⟩
   · change lk [(0, (⟨.sl k rows, false⟩ : Ent))] n = none at hn
     rw [lk_cons] at hn
     split at hn
     · cases hn
     · rename_i h0; simp [E, own, h0]
   · obtain ⟨rfl, rfl⟩ := st0 n e hn
     exact ⟨.sl b k rows.length cs, rfl, hE.rename fun c hc => hok' c hc⟩
   · obtain ⟨_, rfl⟩ := ow0 n i hi
     exact .inr rfl
   · obtain ⟨rfl, _⟩ := st0 n e hn
     obtain ⟨rfl, _⟩ := st0 m e' hm
     exact (hnm rfl).elim
   · intro t d ht
     rcases lk_init1 ht with ⟨rfl, rfl⟩ | ⟨j, x, rfl, hx, rfl⟩
     · have : ((sv :: vs).toArray ++ Array.replicate (fn.ntmps - (sv :: vs).toArray.size) undef).getD 0 undef = sv := by
         rw [Array.getD_eq_getD_getElem?, Array.getElem?_append_left (by simp)]; simp
       simp only [this]
       cases hsv with
       | osl _ _ tot off len b' cs' cap h' ho hc' hlc =>
         simp only [env0, if_true, Option.some.injEq, Own.sl.injEq] at h'
         obtain ⟨rfl, _, _, rfl⟩ := h'
         exact .osl 0 k _ 0 _ b cs cap rfl ho hc' hlc
       | oslOld _ _ tot off len b' tot' cs' a l c h' ht =>
         simp only [env0, if_true, Option.some.injEq, Own.sl.injEq] at h'
         obtain ⟨_, _, h3, _⟩ := h'
         omega
     · obtain ⟨v, hvj⟩ := get_of_len hl hx
       have hjl : j < vs.length := (List.getElem?_eq_some_iff.1 hvj).1
       have : ((sv :: vs).toArray ++ Array.replicate (fn.ntmps - (sv :: vs).toArray.size) undef).getD (j + 1) undef = v := by
         rw [Array.getD_eq_getD_getElem?, Array.getElem?_append_left (by simpa using hjl)]
         simp [hvj]
       simp only [this]
       exact .v x v ((hv.at hx hvj).mono fun c hc => ⟨hok' c hc, rfl⟩)
 refine wp_mono (h _ _ W hfit) fun e a' W' ⟨s, ⟨hq1, hq2⟩, hfs⟩ => ?_
 obtain ⟨⟨E', hs, hr⟩, hsz, hdf⟩ := hfs
 obtain ⟨v, ns, hrun, hrv⟩ := results_sound hT hs hr hq2
 have fin : a'.defers = [] ∧ ∃ v, (results fn a'.tmps).run P W' = .ok v W' ∧ ∃ v', Ending.returned v = .returned v' ∧ BelowBut W.heap.size b W W' ∧ RV W' (fun c => ok c ∨ (W.heap.size ≤ c ∧ c < W'.heap.size) ∨ c = b) r v' := by
   refine ⟨hdf, v, hrun, v, rfl, ⟨hs.keep.os, hs.keep.tape, hs.keep.output, hs.keep.size, fun k hk hne => hs.keep.block k hk hne⟩, hrv.mono fun c hbk => ⟨?_, rfl⟩⟩
   obtain ⟨h1, h2, _⟩ := ((hs.frz_sr ns).okd c).1 hbk
   by_cases hlt : c < W.heap.size
   · by_cases hcb : c = b
     · exact .inr (.inr hcb)
     · exact .inl (Classical.byContradiction fun hn => h2 ⟨hlt, hn, hcb⟩)
   · exact .inr (.inl ⟨by omega, h1⟩)
 cases e with
 | normal => exact fin
 | ret => exact fin
 | _ => exact hq1.elim
section
variable {P : Program} {T : Nat → Option TI} {all : Array Oper} {Q : St → Prop} {n : Nat} {r : List (Nat × D)} {s : Store}
theorem take_wp {t : Nat} {o : Oper} {g m k : Nat} {rows : List (List V)} {ds : List D} {xs : List V} {x : V} {rg : Nat → Option D} {s1 : Store} (hc : callOf (lk r) o.op = some (g, .osl m k rows.length 0 rows.length :: ds)) (hok : OkC P g k rows xs x) (hxs : optList (pub s pubD) ds = some xs)
    (hm : s m = some ⟨.sl k rows, false⟩) (hn : frz s (ds.flatMap (pubN s pubD)) = s) (hw : Weak ⟨n, lk r, s⟩ ⟨n, rg, s1⟩) (hm1 : s1 m = none)
    {Φ : Fr} {a : Act} {W : World} (hf : Fits Φ ⟨n, lk r, s⟩ a W) (hd : t < n) {K' : Act → World → Prop} {Q' : Exit → Act → World → Prop} (hdst : o.dst = some t) (hk : ∀ a' W', Fits Φ ⟨n, upd rg t (.v x), s1⟩ a' W' → K' a' W') : o.wp P a W K' Q' := by
 obtain ⟨⟨E, hs, hr⟩, hsz, hdf⟩ := hf
 obtain ⟨hent, hcall⟩ := hok
 obtain ⟨i, hi, hE⟩ := hs.ent m _ hm
 obtain ⟨b, cs, rfl⟩ : ∃ b cs, i = .sl b k rows.length cs := by cases hE; exact ⟨_, _, rfl⟩
 have hnb : ∀ c, E.ok c → c < W.heap.size ∧ c ≠ b := fun c hc => by
   obtain ⟨q1, q2, q3⟩ := (hs.okd c).1 hc
   exact ⟨q1, fun h => q3 m _ _ hm rfl hi h.symm⟩
 have key : ∀ vs : List Value, vs.length = ds.length + 1 → (∀ (i : Nat) (d : D) (v : Value), (D.osl m k rows.length 0 rows.length :: ds)[i]? = some d → vs[i]? = some v → RD W E d v) →
     Calls P g vs.toArray W fun e W' => ∃ v, e = .returned v ∧ BelowBut W.heap.size b W W' ∧ RV W' (fun c => E.ok c ∨ (W.heap.size ≤ c ∧ c < W'.heap.size) ∨ c = b) x v := by
   intro vs hl hvr
   cases vs with
   | nil => simp at hl
   | cons sv us =>
   have hsv : RD W E (.osl m k rows.length 0 rows.length) sv := hvr 0 _ _ rfl rfl
   obtain ⟨h1, h2⟩ := pub_args hs (ds := ds) (vs := us) (by simpa using hl) (fun i d v hd hv => hvr (i + 1) d v (by simpa using hd) (by simpa using hv)) hxs
   have hE0 : ∀ c, (envFrz Φ W E s (ds.flatMap (pubN s pubD))).ok c → E.ok c := fun c hc => by
     simp only [envFrz, hn] at hc
     exact (hs.okd c).2 hc
   refine hcall W E.ok us sv b cs hnb (All2.of h1 fun i x v hx hv => (h2 i x v hx hv).mono fun c hc => ⟨hE0 c hc, rfl⟩) ?_ (hE.rename fun c hc => hc)
   cases hsv with
   | osl _ _ tot off len b' cs' cap h' ho hc' hlc =>
     rw [hi] at h'; cases h'
     exact .osl 0 k _ 0 _ b cs cap (by simp [env0]) ho hc' hlc
   | oslOld _ _ tot off len b' tot' cs' a l c h' ht =>
     rw [hi] at h'; cases h'
     omega
 have after : ∀ (v : Value) (W' : World), BelowBut W.heap.size b W W' → RV W' (fun c => E.ok c ∨ (W.heap.size ≤ c ∧ c < W'.heap.size) ∨ c = b) x v → Fits Φ ⟨n, upd rg t (.v x), s1⟩ (a.put o.dst v) W' := by
   intro v W' hbb hv
   let own' : Nat → Option Own := fun q => if (s1 q).isSome then E.own q else none
   let E' : Env := ⟨okOf Φ W' own' s1, own'⟩
   let E2 : Env := ⟨E'.ok, E.own⟩
   have some_of : ∀ q e i, s1 q = some e → own' q = some i → E.own q = some i := by
     intro q e i hq hi
     simpa only [own', hq, Option.isSome_some, if_true] using hi
   have hneb : ∀ q e i, s1 q = some e → E.own q = some i → i.block ≠ b ∧ i.block < W.heap.size := by
     intro q e j hq hj
     have hqs := (hw.store q e hq).1
     obtain ⟨j', hj', hrr⟩ := hs.ent q e hqs
     rw [hj] at hj'; cases hj'
     have hqm : m ≠ q := fun h => by subst h; rw [hm1] at hq; cases hq
     exact ⟨fun h => hs.inj m q _ e _ j hqm hm hqs rfl hi hj h.symm, hrr.block_lt⟩
   have hok : ∀ c, E.ok c → E'.ok c := by
     intro c hcE
     obtain ⟨h1, h2, h3⟩ := (hs.okd c).1 hcE
     exact ⟨by have := hbb.size; omega, h2, fun q e j hq hf hj => h3 q e j (hw.store q e hq).1 hf (some_of q e j hq hj)⟩
   have hokW : ∀ c, E.ok c → E'.ok c ∧ W'.heap[c]? = W.heap[c]? := fun c hc => ⟨hok c hc, hbb.block c (hnb c hc).1 (hnb c hc).2⟩
   have hx2 : Ext W E W' E2 := ⟨hokW, fun q j hj => ⟨j, hj, Own.le_refl j⟩⟩
   have hown2 : ∀ q j, (s1 q).isSome = true → E2.own q = some j → E'.own q = some j := by
     intro q j hq hj
     simp only [E', own', hq, if_true]; exact hj
   have hrd : ∀ {d : D} {u : Value}, mentOk (fun q => (s1 q).isSome) pubD d = true → RD W E d u → RD W' E' d u := fun hmt h => RD.keepTo (E := E2) (E' := E') (has := fun q => (s1 q).isSome) (fun c hc => hc) hown2 pubD hmt (h.mono hx2)
   have hvm : ∀ {y : V} {u : Value}, RV W E.ok y u → RV W' E'.ok y u := fun h => h.mono hokW
   have hsr : SR Φ W' E' s1 := by
     refine ⟨⟨hbb.os.trans hs.keep.os, hbb.tape.trans hs.keep.tape, hbb.output.trans hs.keep.output, Nat.le_trans hs.keep.size hbb.size, fun c hc hg => ?_⟩, fun q hq => by simp [E', own', hq], fun q e hq => ?_, fun q e j hq hj => hs.base q e j (hw.store q e hq).1 (some_of q e j hq hj), fun c => Iff.rfl, fun q p e e' j j' hqp hq hp hf hj hj' => hs.inj q p e e' j j' hqp (hw.store q e hq).1 (hw.store p e' hp).1 hf (some_of q e j hq hj) (some_of p e' j' hp hj'), hs.fb⟩
     · have hcb : c ≠ b := fun h => by
         subst h
         rcases hs.base m _ _ hm hi with h | h
         · exact Nat.not_le.2 hc h
         · exact hg h
       exact (hbb.block c (by have := hs.keep.size; omega) hcb).trans (hs.keep.block c hc hg)
     · obtain ⟨h1, h2⟩ := hw.store q e hq
       obtain ⟨j, hj, hrr⟩ := hs.ent q e h1
       obtain ⟨hjb, hjl⟩ := hneb q e j hq hj
       have hblk := hbb.block j.block hjl hjb
       refine ⟨j, by simp [E', own', hq, hj], ?_⟩
       cases hrr with
       | cells b' ds' f vs' t' hb hl hc => exact .cells b' ds' f vs' t' (hblk.trans hb) hl fun i d u hd' hu => hrd (List.all_eq_true.1 h2 d (List.mem_of_getElem? hd')) (hc i d u hd' hu)
       | sl b' k' cs' rows' f vs' t' hb hl hk hn' hc => exact .sl b' k' cs' rows' f vs' t' (hblk.trans hb) hl hk hn' fun i j row y u hr' hy hu => hvm (hc i j row y u hr' hy hu)
       | mp b' es f ents clock hb hl hc => exact .mp b' es f ents clock (hblk.trans hb) hl fun i y e hy he => ⟨hvm (hc i y e hy he).1, hvm (hc i y e hy he).2⟩
   have hxv : RV W' E'.ok x v := hv.mono fun c hcv => ⟨by
     rcases hcv with h | ⟨h1, h2⟩ | h
     · exact hok c h
     · refine ⟨h2, fun hF => by have := (hs.fb c hF).1; have := hs.keep.size; omega, fun q e j hq hf hj => ?_⟩
       have := (hneb q e j hq (some_of q e j hq hj)).2
       omega
     · subst h
       refine ⟨by have := hE.block_lt; have := hbb.size; simp only [Own.block] at *; omega, fun hF => ?_, fun q e j hq hf hj => (hneb q e j hq (some_of q e j hq hj)).1⟩
       obtain ⟨h1, h2⟩ := hs.fb _ hF
       rcases hs.base m _ _ hm hi with h | h
       · simp only [Own.block] at h; omega
       · exact h2 h, rfl⟩
   rw [hdst]
   have ht : t < a.tmps.size := by simpa [hsz] using hd
   refine ⟨⟨E', hsr, fun q d hq => ?_⟩, by simpa [Act.put] using hsz, hdf⟩
   simp only [upd] at hq
   by_cases hqt : q = t
   · subst hqt
     rw [if_pos rfl] at hq
     cases hq
     have : (a.put (some q) v).tmps.getD q undef = v := by simp [Act.put, ht]
     rw [this]; exact .v x v hxv
   · rw [if_neg hqt] at hq
     have : (a.put (some t) v).tmps.getD q undef = a.tmps.getD q undef := by simp [Act.put, Array.getElem?_setIfInBounds_ne (Ne.symm hqt)]
     rw [this]
     obtain ⟨h1, h2⟩ := hw.regs q d hq
     exact hrd h2 (hr q d h1)
 have hev : ∀ x d, ev (lk r) x = some d → RD W E d (a.eval x) := fun x d hx => RD_ev hr hx
 obtain ⟨dst, op, type, pos, aft, guard⟩ := o
 simp only at hc hdst after
 unfold callOf at hc
 split at hc
 · rename_i c
   obtain ⟨callee, args, ts⟩ := c
   simp only at hc
   split at hc
   · rename_i f
     have key2 : ∀ (caps : Array Value) (cds : List D), a.eval f = .func (.func g) #[] caps → (∃ as, optList (ev (lk r)) args.toList = some as ∧ D.osl m k rows.length 0 rows.length :: ds = as ++ cds) → caps.toList.length = cds.length →
         (∀ (i : Nat) (d : D) (v : Value), cds[i]? = some d → caps.toList[i]? = some v → RD W E d v) → Oper.wp P ⟨dst, .call ⟨.value f, args, ts⟩, type, pos, aft, guard⟩ a W K' Q' := by
       intro caps cds hfv ⟨as, has, hds⟩ hcl hcr
       obtain ⟨h1, h2⟩ := opt_operands hev has
       have hvl : (args.toList.map a.eval ++ caps.toList).length = ds.length + 1 := by
         have := congrArg List.length hds
         rw [List.length_append] at this
         simp only [List.length_cons] at this
         rw [List.length_append, h1, hcl]; omega
       have hvr : ∀ (i : Nat) (d : D) (v : Value), (D.osl m k rows.length 0 rows.length :: ds)[i]? = some d → (args.toList.map a.eval ++ caps.toList)[i]? = some v → RD W E d v := by
         intro i d v hd hv
         rw [hds, List.getElem?_append] at hd
         rw [List.getElem?_append] at hv
         by_cases hi : i < as.length
         · rw [if_pos hi] at hd
           rw [if_pos (by omega)] at hv
           exact h2 i d v hd hv
         · rw [if_neg hi] at hd
           rw [if_neg (by omega), h1] at hv
           exact hcr _ d v hd hv
       have hC := key (args.toList.map a.eval ++ caps.toList) hvl hvr
       have hrun := run_resolve (P := P) (W := W) (args := args) (ts := ts) (ty := type) hent hfv
       have harr : args.map a.eval ++ caps = (args.toList.map a.eval ++ caps.toList).toArray := by apply Array.ext'; simp
       unfold Oper.wp
       simp only [execOp]
       rw [hrun, Oper.upon_enter, harr]
       refine hC.mono fun e W' ⟨v, he, hb, hv⟩ => ?_
       subst he
       exact hk _ _ (after v W' hb hv)
     have hfv := hev f
     split at hc
     · rename_i g' caps as hfe has
       simp only [Option.some.injEq, Prod.mk.injEq] at hc
       obtain ⟨rfl, hc⟩ := hc
       have hfr := hfv _ hfe
       generalize hff : a.eval f = fv at hfr
       cases hfr with
       | fn _ _ vs hl hcr => exact key2 vs.toArray caps hff ⟨as, has, hc.symm⟩ (by simpa using hl) (by simpa using hcr)
     · rename_i g' caps as hfe has
       simp only [Option.some.injEq, Prod.mk.injEq] at hc
       obtain ⟨rfl, hc⟩ := hc
       have hfr := hfv _ hfe
       generalize hff : a.eval f = fv at hfr
       cases hfr with
       | v _ _ hfr => cases hfr with
         | fn _ _ vs hl hcr =>
           refine key2 vs.toArray (caps.map .v) hff ⟨as, has, hc.symm⟩ (by simpa using hl) ?_
           intro i d v hd hv
           simp only [List.getElem?_map, Option.map_eq_some_iff] at hd
           obtain ⟨x, hx, rfl⟩ := hd
           exact .v x v (hcr i x v hx (by simpa using hv))
     · cases hc
   · cases hc
 · cases hc
theorem x_take {Q : St → Prop} {os : List Oper} {t : Nat} {op : Op} {ty : TypeId} {pos : String} {af : Array Edge} {g m k : Nat} {rows : List (List V)} {ds : List D} {xs : List V} {x : V} {rg : List (Nat × D)} {s1 : Store} (hd : (decide (t < n)) = true) (hc : callOf (lk r) op = some (g, .osl m k rows.length 0 rows.length :: ds)) (hok : OkC P g k rows xs x) (hxs : optList (pub s pubD) ds = some xs)
    (hm : s m = some ⟨.sl k rows, false⟩) (hn : frz s (ds.flatMap (pubN s pubD)) = s) (hw : Weak ⟨n, lk r, s⟩ ⟨n, lk rg, s1⟩) (hm1 : s1 m = none) (k : opsX P T all Q os ⟨n, lk ((t, .v x) :: rg), s1⟩) : opsX P T all Q (⟨some t, op, ty, pos, af, none⟩ :: os) ⟨n, lk r, s⟩ :=
  .inr ⟨rfl, fun _ _ _ hf _ _ hk => take_wp (o := ⟨some t, op, ty, pos, af, none⟩) hc hok hxs hm hn hw hm1 hf (of_decide_eq_true hd) rfl fun _ _ hf' => hk _ _ _ k hf'⟩
theorem x_takeS {Q : St → Prop} {os : List Oper} {t : Nat} {op : Op} {ty : TypeId} {pos : String} {af : Array Edge} {g m k : Nat} {rows : List (List V)} {ds : List D} {xs : List V} {x : V} {rg : List (Nat × D)} {s1 : Store} (hd : (decide (t < n)) = true) (hc : callOf (lk r) op = some (g, slD m k rows :: ds)) (h0 : rows = [] → Ok P g (.sl [] :: xs) x) (hok : rows ≠ [] → OkC P g k rows xs x) (hxs : optList (pub s pubD) ds = some xs)
    (hm : s m = slS k rows) (hn : frz s (ds.flatMap (pubN s pubD)) = s) (hw : Weak ⟨n, lk r, s⟩ ⟨n, lk rg, s1⟩) (hm1 : s1 m = none) (k : opsX P T all Q os ⟨n, lk ((t, .v x) :: rg), s1⟩) : opsX P T all Q (⟨some t, op, ty, pos, af, none⟩ :: os) ⟨n, lk r, s⟩ := by
 cases rows with
 | cons row rest =>
   exact x_take (rows := row :: rest) hd hc (hok (by simp)) hxs hm hn hw hm1 k
 | nil =>
   refine .inr ⟨rfl, fun Φ a W hf K' Q' hk => ?_⟩
   have hcd := call_ok (s := s) (ds := D.nil :: ds) (h0 rfl) (by simp only [optList, hxs]; rfl)
   have hfz : frz s ((D.nil :: ds).flatMap (pubN s pubD)) = s := by
     rw [show (D.nil :: ds).flatMap (pubN s pubD) = ds.flatMap (pubN s pubD) by rw [List.flatMap_cons]; rfl, hn]
   rw [hfz] at hcd
   refine (does_call (σ := ⟨n, lk r, s⟩) (o := ⟨some t, op, ty, pos, af, none⟩) hc hcd).leads (K := fun σ => ∃ σ1, Weak σ σ1 ∧ opsX P T all Q os σ1) hd ⟨_, ?_, k⟩ Φ a W hf K' Q' fun σ' a' W' ⟨σ1, h1, h2⟩ h3 => hk _ _ _ h2 (h3.weak h1)
   refine ⟨rfl, fun q d hq => ?_, hw.store⟩
   simp only [St.put, upd_lk, lk_cons] at hq ⊢
   split at hq
   · rename_i he
     rw [if_pos he]
     cases hq; exact ⟨rfl, rfl⟩
   · rename_i he
     rw [if_neg he]
     exact hw.regs q d hq
end
theorem Fits.frz {Φ : Fr} {σ : St} {a : Act} {W : World} (h : Fits Φ σ a W) (ns : List Nat) : Fits Φ ⟨σ.n, σ.regs, Go.Proofs.YtamjajacnfmgeaaGreat.frz σ.store ns⟩ a W := by
 obtain ⟨⟨E, hs, hr⟩, hsz, hd⟩ := h
 exact ⟨⟨_, hs.frz_sr ns, fun q e hq => (hr q e hq).mono (hs.frz_ext ns)⟩, hsz, hd⟩
theorem Sat.frz {P : Program} {c : Code} {n : Nat} {r : Nat → Option D} {s : Store} {Q : Exit → St → Prop} (ns : List Nat) (h : Sat P c ⟨n, r, Go.Proofs.YtamjajacnfmgeaaGreat.frz s ns⟩ Q) : Sat P c ⟨n, r, s⟩ Q :=
  fun Φ a W hf => h Φ a W (hf.frz ns)
theorem frz_twice (s : Store) (ns : List Nat) : Go.Proofs.YtamjajacnfmgeaaGreat.frz (Go.Proofs.YtamjajacnfmgeaaGreat.frz s ns) ns = Go.Proofs.YtamjajacnfmgeaaGreat.frz s ns := by
 funext m
 simp only [Go.Proofs.YtamjajacnfmgeaaGreat.frz]
 split
 · cases s m <;> rfl
 · rfl
end Go.Proofs.YtamjajacnfmgeaaGreat
