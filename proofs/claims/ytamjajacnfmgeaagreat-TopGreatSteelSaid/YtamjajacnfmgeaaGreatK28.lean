/-
  Contract: laid.path, whose body is a range over a function. Condition: runs valid in the reference.
-/
import Derived.Test.YtamjajacnfmgeaaGreatK27
set_option linter.all false
namespace Go.Proofs.YtamjajacnfmgeaaGreat
open Go Go.RowKit
set_option maxHeartbeats 1000000
theorem it243 (bars : List Bar) (runs : List Run) (h : runsOk bars runs = true) (n : Int) (hn0 : 0 ≤ n) (hn : n < total runs) (l : Nat) (W0 : World) (ok : Nat → Prop) (hok : ∀ b, ok b → b < W0.heap.size) (p1 p2 : Value)
    (hp1 : RV W0 ok (.cp [.sl (runs.map Run.c)] 0) p1) (hp2 : RV W0 ok (.cp [.sl (bars.map Bar.c)] 0) p2) (XW : World → Prop)
    (hgo : ∀ (k : Int) (W : World) (v : Value), Below W0.heap.size W0 W → k ≠ n → YieldAt Fence.wide 0 Tryz.prog l #[.int .i64 k, v] W fun e W' => e = .returned (.bool true) ∧ W' = W)
    (hst : ∀ (W : World) (v : Value), Below W0.heap.size W0 W → RV W (fun b => ok b ∨ (W0.heap.size ≤ b ∧ b < W.heap.size)) (.sl ((ptsAt bars runs n).map Pt.c)) v → YieldAt Fence.wide 0 Tryz.prog l #[.int .i64 n, v] W fun e W' => e = .returned (.bool false) ∧ XW W') :
    Calls Tryz.prog 243 #[.func (.yield l) #[] #[], p1, p2] W0 fun e W' => (∃ v, e = .returned v) ∧ XW W' := by
 refine calls_of_wp Tryz.func243 rfl ?_
 have hbelow : ∀ {W : World} {E : Env} {s : Store}, SR ⟨fun b => b < W0.heap.size ∧ ¬ok b, fun _ => False, W0⟩ W E s → Below W0.heap.size W0 W := fun hs =>
   ⟨hs.keep.os, hs.keep.tape, hs.keep.output, hs.keep.size, fun b hb => hs.keep.block b hb (fun h => h)⟩
 have hfit : Fits ⟨fun b => b < W0.heap.size ∧ ¬ok b, fun _ => False, W0⟩ ⟨66, lk [(0, .v (.yl l)), (1, .v (.cp [.sl (runs.map Run.c)] 0)), (2, .v (.cp [.sl (bars.map Bar.c)] 0))], lk []⟩ { tmps := #[.func (.yield l) #[] #[], p1, p2] ++ Array.replicate (Tryz.f243.ntmps - (#[.func (.yield l) #[] #[], p1, p2] : Array Value).size) undef, defers := [] } W0 := by
   refine ⟨⟨⟨okOf ⟨fun b => b < W0.heap.size ∧ ¬ok b, fun _ => False, W0⟩ W0 (fun _ => none) (lk []), fun _ => none⟩, ⟨⟨rfl, rfl, rfl, Nat.le_refl _, fun _ _ _ => rfl⟩, fun _ _ => rfl, fun n e hn => by simp [lk] at hn, fun n e i hn => by simp [lk] at hn, fun b => Iff.rfl, fun n m e e' i i' _ hn => by simp [lk] at hn, fun b hF => ⟨hF.1, fun h => h⟩⟩, ?_⟩, by show (_ ++ Array.replicate (66 - 3) undef).size = 66; rw [Array.size_append, Array.size_replicate]; rfl, rfl⟩
   have hget : ∀ (t : Nat) (v : Value), (#[.func (.yield l) #[] #[], p1, p2] : Array Value)[t]? = some v → (#[.func (.yield l) #[] #[], p1, p2] ++ Array.replicate (Tryz.f243.ntmps - (#[.func (.yield l) #[] #[], p1, p2] : Array Value).size) undef).getD t undef = v := fun t v hv => by
     have hlt := (Array.getElem?_eq_some_iff.1 hv).1
     rw [Array.getD_eq_getD_getElem?, Array.getElem?_append_left hlt, hv]; rfl
   have hm : ∀ {x : V} {v : Value}, RV W0 ok x v → RV W0 (okOf ⟨fun b => b < W0.heap.size ∧ ¬ok b, fun _ => False, W0⟩ W0 (fun _ => none) (lk [])) x v := fun h => h.mono fun b hb => ⟨⟨hok b hb, fun hF => hF.2 hb, fun n e i hn => by simp [lk] at hn⟩, rfl⟩
   intro t d ht
   simp only [lk] at ht
   split at ht
   · rename_i h0; subst h0; cases ht; rw [hget 0 _ rfl]; exact .v _ _ (.yl l)
   · split at ht
     · rename_i h0; subst h0; cases ht; rw [hget 1 _ rfl]; exact .v _ _ (hm hp1)
     · split at ht
       · rename_i h0; subst h0; cases ht; rw [hget 2 _ rfl]; exact .v _ _ (hm hp2)
       · cases ht
 have key := sx243 bars runs h n hn0 hn l ⟨fun b => b < W0.heap.size ∧ ¬ok b, fun _ => False, W0⟩ XW (fun k W E s v hk hs => hgo k W v (hbelow hs) hk) (fun W E s v hs hv => hst W v (hbelow hs) (hv.mono fun b hb => ⟨by
   obtain ⟨h1, h2, _⟩ := (hs.okd b).1 hb
   by_cases hlt : b < W0.heap.size
   · exact .inl (Classical.byContradiction fun hn => h2 ⟨hlt, hn⟩)
   · exact .inr ⟨by omega, h1⟩, rfl⟩)) _ rfl
 refine wp_mono (key _ _ hfit) fun e a' W' hh => ?_
 rcases hh with ⟨_, hf, _⟩ | ⟨rfl, hd, hx⟩
 · exact hf.elim
 · exact ⟨hd, _, results_none rfl _ _ _, ⟨_, rfl⟩, hx⟩
theorem fits_init {xs : List V} {W : World} {ok : Nat → Prop} {vs : List Value} {nt : Nat} (hok : ∀ b, ok b → b < W.heap.size) (hl : vs.length = xs.length) (hv : ∀ (i : Nat) (x : V) (v : Value), xs[i]? = some x → vs[i]? = some v → RV W ok x v) :
    Fits ⟨fun b => b < W.heap.size ∧ ¬ok b, fun _ => False, W⟩ ⟨xs.length + (nt - xs.length), lk (initL 0 xs), lk []⟩ { tmps := vs.toArray ++ Array.replicate (nt - vs.toArray.size) undef, defers := [] } W := by
 refine ⟨⟨⟨okOf ⟨fun b => b < W.heap.size ∧ ¬ok b, fun _ => False, W⟩ W (fun _ => none) (lk []), fun _ => none⟩, ⟨⟨rfl, rfl, rfl, Nat.le_refl _, fun _ _ _ => rfl⟩, fun _ _ => rfl, fun n e hn => by simp [lk] at hn, fun n e i hn => by simp [lk] at hn, fun b => Iff.rfl, fun n m e e' i i' _ hn => by simp [lk] at hn, fun b hF => ⟨hF.1, fun h => h⟩⟩, ?_⟩, by simp [hl], rfl⟩
 intro t d ht
 obtain ⟨j, x, rfl, hx, rfl⟩ := lk_initL ht
 obtain ⟨v, hvj⟩ := get_of_len hl hx
 have hjl : j < vs.length := (List.getElem?_eq_some_iff.1 hvj).1
 have : (vs.toArray ++ Array.replicate (nt - vs.toArray.size) undef).getD (0 + j) undef = v := by
   rw [Array.getD_eq_getD_getElem?, Array.getElem?_append_left (by simpa using hjl)]
   simp [hvj]
 simp only [this]
 exact .v x v ((hv j x v hx hvj).mono fun b hb => ⟨⟨hok b hb, fun hF => hF.2 hb, fun n e i hn => by simp [lk] at hn⟩, rfl⟩)
theorem own_cell {Φ : Fr} {W : World} {E : Env} {s : Store} {q : Nat} {d : D} {f : Bool} (hs : SR Φ W E s) (he : s q = some ⟨.cells [d], f⟩) : ∃ b x t, E.own q = some (.cells b) ∧ W.heap[b]? = some (.cells #[x] t (0, 0)) ∧ RD W E d x := by
 obtain ⟨i, hi, hE⟩ := hs.ent q _ he
 cases hE with
 | cells b ds f vs t hb hl h =>
   match vs, hl with
   | [x], _ => exact ⟨b, x, t, hi, hb, h 0 d x rfl rfl⟩
def σ3 (bars : List Bar) (runs : List Run) (n : Int) : St := ⟨23, lk [(5, .ptr 5 0), (6, .ptr 6 0), (7, .ptr 7 0), (16, .v (.fn 243 [.cp [.sl (runs.map Run.c)] 0, .cp [.sl (bars.map Bar.c)] 0]))], lk [(5, ⟨.cells [.v (vi n)], false⟩), (6, ⟨.cells [.nil], false⟩), (7, ⟨.cells [.v (vi 0)], false⟩)]⟩
def SM (P : Program) (Φ : Fr) (c : Code) (σ : St) (R : Exit → Act → World → Prop) : Prop := ∀ (a : Act) (W : World), Fits Φ σ a W → c.wpIn Fence.wide 3 P R a W
theorem SM.seq {P : Program} {Φ : Fr} {x y : Code} {σ : St} {R : Exit → Act → World → Prop} {K : St → Prop} (h : Sat P x σ (fun e σ' => e = .normal ∧ K σ')) (k : ∀ σ', K σ' → SM P Φ y σ' R) : SM P Φ (x.seq y) σ R := by
 intro a W hf
 refine wpIn_seq (wpIn_mono (wpIn_wide.2 (h Φ a W hf)) fun e a' W' ⟨σ', ⟨he, hk⟩, hf'⟩ => ?_)
 subst he
 exact k σ' hk a' W' hf'
theorem SM.seq2 {P : Program} {Φ : Fr} {x y z : Code} {σ : St} {R : Exit → Act → World → Prop} {K : St → Prop} (h : Sat P x σ (fun e σ' => e = .normal ∧ K σ')) (k : ∀ σ', K σ' → SM P Φ y σ' (Exit.then (z.wpIn Fence.wide 3 P R) R)) : SM P Φ ((x.seq y).seq z) σ R := by
 intro a W hf
 refine wpIn_seq (wpIn_seq (wpIn_mono (wpIn_wide.2 (h Φ a W hf)) fun e a' W' ⟨σ', ⟨he, hk⟩, hf'⟩ => ?_))
 subst he
 exact k σ' hk a' W' hf'
theorem SM.weak {P : Program} {Φ : Fr} {c : Code} {σ σ' : St} {R : Exit → Act → World → Prop} (hw : Weak σ σ') (h : SM P Φ c σ' R) : SM P Φ c σ R := fun a W hf => h a W (hf.weak hw)
theorem sl_one {W : World} {ok : Nat → Prop} {rows : List (List V)} {v : Value} (h : RV W ok (.sl rows) v) : v.cells.toList = [v] ∧ v.oneCell' = true := by cases h <;> exact ⟨rfl, rfl⟩
theorem core161 {bars : List Bar} {runs : List Run} (h : runsOk bars runs = true) {n : Int} (h0 : 0 ≤ n) (hn : n < total runs) {R : Exit → Act → World → Prop} {a3 : Act} {W3 : World} (hdf : a3.defers = []) (hsz : a3.tmps.size = 23) {ok3 : Nat → Prop} (hok3 : ∀ b, ok3 b → b < W3.heap.size) {p1 p2 : Value}
    (e16 : a3.eval (.tmp 16) = .func (.func 243) #[] #[p1, p2]) (hp1 : RV W3 ok3 (.cp [.sl (runs.map Run.c)] 0) p1) (hp2 : RV W3 ok3 (.cp [.sl (bars.map Bar.c)] 0) p2) {b5 b6 b7 : Nat} {x6 x7 : Value} {y5 y6 y7 : TypeId}
    (e5 : a3.eval (.tmp 5) = .pointer (some ⟨b5, 0, none⟩)) (e6 : a3.eval (.tmp 6) = .pointer (some ⟨b6, 0, none⟩)) (e7 : a3.eval (.tmp 7) = .pointer (some ⟨b7, 0, none⟩))
    (k5 : W3.heap[b5]? = some (.cells #[.int .i64 n] y5 (0, 0))) (k6 : W3.heap[b6]? = some (.cells #[x6] y6 (0, 0))) (k7 : W3.heap[b7]? = some (.cells #[x7] y7 (0, 0))) {A B : Code}
    (hA : ∀ (F : Fence) (m : Nat) (a : Act) (W : World) (K : Act → World → Prop) (N : Exit → Act → World → Prop), (∀ f, F.fn f) → K ((a.put (some 8) (a.eval (.tmp 17))).put (some 9) ((a.put (some 8) (a.eval (.tmp 17))).eval (.tmp 18))) W → A.wpIn F m Tryz.prog (Exit.then K N) a W)
    (hB : ∀ (F : Fence) (m : Nat) (a : Act) (W : World) (Q : Exit → Act → World → Prop) (k : Int) (v : Value), (∀ f, F.fn f) → a.tmps.size = 23 → a.eval (.tmp 8) = .int .i64 k → a.eval (.tmp 9) = v → a.eval (.tmp 5) = .pointer (some ⟨b5, 0, none⟩) → a.eval (.tmp 6) = .pointer (some ⟨b6, 0, none⟩) → a.eval (.tmp 7) = .pointer (some ⟨b7, 0, none⟩) →
      W.heap[b5]? = some (.cells #[.int .i64 n] y5 (0, 0)) → W.heap[b6]? = some (.cells #[x6] y6 (0, 0)) → W.heap[b7]? = some (.cells #[x7] y7 (0, 0)) → (k ≠ n → ∀ a', Q .normal a' W) → (k = n → v.cells.toList = [v] ∧ v.oneCell' = true ∧ ∀ a', Q .ret a' (setBlk (setBlk W b6 (.cells #[v] y6 (0, 0))) b7 (.cells #[.int .i64 0] y7 (0, 0)))) → B.wpIn F m Tryz.prog Q a W)
    (hR : ∀ (Wm : World) (v : Value) (o1 o2 o3 : Obj), Wm.os = W3.os → Wm.tape = W3.tape → Wm.output = W3.output → W3.heap.size + 2 ≤ Wm.heap.size → (∀ b, b < W3.heap.size → Wm.heap[b]? = W3.heap[b]?) → Wm.heap[W3.heap.size]? = some (.deferred (some [])) →
      RV Wm (fun b => ok3 b ∨ (W3.heap.size + 2 ≤ b ∧ b < Wm.heap.size)) (.sl ((ptsAt bars runs n).map Pt.c)) v →
      R .ret { a3 with defers := [{ target := .collected W3.heap.size, args := #[] }] } (((setBlk (setBlk (Wm.putObj (W3.heap.size + 1) o1) b6 (.cells #[v] y6 (0, 0))) b7 (.cells #[.int .i64 0] y7 (0, 0))).putObj (W3.heap.size + 1) o2).putObj (W3.heap.size + 1) o3)) :
    (Code.block 0 (Code.rangeFunc (.tmp 16) #[17, 18] A B)).wpIn Fence.wide 3 Tryz.prog R a3 W3 := by
 refine wpIn_block (wpIn_rangeFunc ?_)
 intro fn _
 obtain ⟨rec, hrec⟩ : ∃ rec : LoopState → Option Code → Loop, rec = fun st pe => { state := st, pending := pe, fn, tmps := a3.tmps, params := #[17, 18], assign := A, body := B, defers := W3.heap.size } := ⟨_, rfl⟩
 obtain ⟨W1, hW1⟩ : ∃ W1, (W3.alloc (.deferred (some []))).alloc (.loop (rec .ready none)) = W1 := ⟨_, rfl⟩
 have s1 : W1.heap.size = W3.heap.size + 2 := by rw [← hW1]; simp
 have hL1 : W1.heap[W3.heap.size + 1]? = some (.loop (rec .ready none)) := by
   rw [← hW1]; have := World.alloc_heap_new (W3.alloc (.deferred (some []))) (.loop (rec .ready none)); rwa [World.size_alloc] at this
 have hD1 : W1.heap[W3.heap.size]? = some (.deferred (some [])) := by
   rw [← hW1]; exact (Below.heap_alloc _ _ _ (by simp)).trans (World.alloc_heap_new W3 _)
 have hold : ∀ b, b < W3.heap.size → W1.heap[b]? = W3.heap[b]? := fun b hb => by
   rw [← hW1]; exact (Below.heap_alloc _ _ _ (by simp; omega)).trans (Below.heap_alloc _ _ _ hb)
 have lt : ∀ {b : Nat} {o : Obj}, W3.heap[b]? = some o → b < W3.heap.size := fun {b o} hb => (Array.getElem?_eq_some_iff.1 hb).1
 have l5 := lt k5
 have l6 := lt k6
 have l7 := lt k7
 have hro : Fence.wide.round = none := rfl
 refine ⟨W3.heap.size + 1, [{ target := .collected W3.heap.size, args := #[] }], W1, { target := .fn (.func 243) #[p1, p2], args := #[.func (.yield (W3.heap.size + 1)) #[] #[]] }, W1, 243, #[.func (.yield (W3.heap.size + 1)) #[] #[]] ++ #[p1, p2], W1, ?_, ?_, ?_, ?_, fun h => by simp [Fence.wide] at h, ?_⟩
 · rw [← hW1, hrec, hro]; exact run_enterLoop_outer _ _ _ _ _
 · simp only [resolve, e16]
   simp [rangeCall, e16, Deferred.ofValue, Act.eval]
 · intro f' hf'; trivial
 · have := Tryz.call243 (#[.func (.yield (W3.heap.size + 1)) #[] #[]] ++ #[p1, p2]) W1
   simp [invoke]
 have hround : ∀ (k : Int) (Wm : World) (v : Value) (Rr : Ending → World → Prop), Below W1.heap.size W1 Wm → (k ≠ n → Rr (.returned (.bool true)) Wm) →
     (k = n → v.cells.toList = [v] ∧ v.oneCell' = true ∧ Rr (.returned (.bool false)) ((setBlk (setBlk (Wm.putObj (W3.heap.size + 1) (.loop (rec .busy none))) b6 (.cells #[v] y6 (0, 0))) b7 (.cells #[.int .i64 0] y7 (0, 0))).putObj (W3.heap.size + 1) (.loop (rec .done (some .ret))))) →
     YieldAt Fence.wide 0 Tryz.prog (W3.heap.size + 1) #[.int .i64 k, v] Wm Rr := by
   intro k Wm v Rr hB1 hgo hst
   have hl : Wm.heap[W3.heap.size + 1]? = some (.loop (rec .ready none)) := (hB1.block _ (by omega)).trans hL1
   have hlt : W3.heap.size + 1 < Wm.heap.size := (Array.getElem?_eq_some_iff.1 hl).1
   have hy := run_yield (P := Tryz.prog) (args := #[.int .i64 k, v]) hl (by rw [hrec]; rfl)
   have hbg := run_beginRound (P := Tryz.prog) hl (by rw [hrec])
   have hbusy : ({ rec .ready none with state := .busy } : Loop) = rec .busy none := by rw [hrec]
   rw [hbusy] at hbg
   have hl2 : (Wm.putObj (W3.heap.size + 1) (.loop (rec .busy none))).heap[W3.heap.size + 1]? = some (.loop (rec .busy none)) := World.putObj_heap_same hlt
   have hblk : ∀ b, b < W3.heap.size → (Wm.putObj (W3.heap.size + 1) (.loop (rec .busy none))).heap[b]? = W3.heap[b]? := fun b hb => by
     rw [World.putObj_heap_other (by omega), hB1.block b (by omega), hold b hb]
   obtain ⟨ar, har⟩ : ∃ ar : Act, ar = { tmps := ((a3.tmps.setIfInBounds 17 (.int .i64 k)).setIfInBounds 18 v), defers := [] } := ⟨_, rfl⟩
   have zr : ar.tmps.size = 23 := by rw [har]; simp [hsz]
   have g17 : ar.eval (.tmp 17) = .int .i64 k := by rw [har]; simp [Act.eval, Array.getD_eq_getD_getElem?, Array.getElem?_setIfInBounds, hsz]
   have g18 : ar.eval (.tmp 18) = v := by rw [har]; simp [Act.eval, Array.getD_eq_getD_getElem?, Array.getElem?_setIfInBounds, hsz]
   have gold : ∀ t, t ≠ 17 → t ≠ 18 → ar.eval (.tmp t) = a3.eval (.tmp t) := fun t h1 h2 => by rw [har]; simp [Act.eval, Array.getD_eq_getD_getElem?, Array.getElem?_setIfInBounds, Ne.symm h1, Ne.symm h2]
   refine ⟨fn, (a3.tmps.setIfInBounds 17 (.int .i64 k)).setIfInBounds 18 v, A, B, by rw [hrec] at hy; simpa using hy, roundIn_of_wpIn trivial ?_⟩
   rw [← har]
   refine hA _ _ _ _ _ _ (fun _ => trivial) ⟨_, hbg, ?_⟩
   refine hB _ _ _ _ _ k v (fun _ => trivial) (by rw [put_size, put_size]; exact zr) ?_ ?_ ?_ ?_ ?_ ((hblk b5 l5).trans k5) ((hblk b6 l6).trans k6) ((hblk b7 l7).trans k7) ?_ ?_
   · rw [put_eval_ne (by decide), put_eval (by rw [zr]; decide)]; exact g17
   · rw [put_eval (by rw [put_size, zr]; decide), put_eval_ne (by decide)]; exact g18
   · rw [put_eval_ne (by decide), put_eval_ne (by decide), gold 5 (by decide) (by decide)]; exact e5
   · rw [put_eval_ne (by decide), put_eval_ne (by decide), gold 6 (by decide) (by decide)]; exact e6
   · rw [put_eval_ne (by decide), put_eval_ne (by decide), gold 7 (by decide) (by decide)]; exact e7
   · intro hk a'
     refine ⟨_, _, run_endRound none hl2, ?_⟩
     have e1 : ({ rec .busy none with state := if (none : Option Code).isNone then .ready else .done, pending := none } : Loop) = rec .ready none := by rw [hrec]; rfl
     rw [e1]
     have e2 : (Wm.putObj (W3.heap.size + 1) (.loop (rec .busy none))).putObj (W3.heap.size + 1) (.loop (rec .ready none)) = Wm := by
       change setBlk (setBlk Wm _ _) _ _ = Wm
       rw [setBlk_twice]; exact setBlk_id Wm hl
     rw [e2]; exact hgo hk
   · intro hk
     obtain ⟨hv1, hv2, hq⟩ := hst hk
     refine ⟨hv1, hv2, fun a' => ?_⟩
     have hl3 : (setBlk (setBlk (Wm.putObj (W3.heap.size + 1) (.loop (rec .busy none))) b6 (.cells #[v] y6 (0, 0))) b7 (.cells #[.int .i64 0] y7 (0, 0))).heap[W3.heap.size + 1]? = some (.loop (rec .busy none)) := by
       rw [setBlk_ne _ _ (by omega), setBlk_ne _ _ (by omega)]; exact hl2
     refine ⟨_, _, run_endRound (some .ret) hl3, ?_⟩
     have e1 : ({ rec .busy none with state := if (some Code.ret : Option Code).isNone then .ready else .done, pending := some .ret } : Loop) = rec .done (some .ret) := by rw [hrec]; rfl
     rw [e1]; exact hq
 have hm : ∀ {x : V} {v : Value}, RV W3 ok3 x v → RV W1 ok3 x v := fun hv => hv.mono fun b hb => ⟨hb, hold b (hok3 b hb)⟩
 have hcall := it243 bars runs h n h0 hn (W3.heap.size + 1) W1 ok3 (fun b hb => by have := hok3 b hb; omega) p1 p2 (hm hp1) (hm hp2)
   (fun W' => ∃ (Wm : World) (v : Value), Below W1.heap.size W1 Wm ∧ RV Wm (fun b => ok3 b ∨ (W1.heap.size ≤ b ∧ b < Wm.heap.size)) (.sl ((ptsAt bars runs n).map Pt.c)) v ∧
     W' = (setBlk (setBlk (Wm.putObj (W3.heap.size + 1) (.loop (rec .busy none))) b6 (.cells #[v] y6 (0, 0))) b7 (.cells #[.int .i64 0] y7 (0, 0))).putObj (W3.heap.size + 1) (.loop (rec .done (some .ret))))
   (fun k Wm v hB1 hk => hround k Wm v _ hB1 (fun _ => ⟨rfl, rfl⟩) (fun hk' => absurd hk' hk))
   (fun Wm v hB1 hv => hround n Wm v _ hB1 (fun hk => absurd rfl hk) (fun _ => ⟨(sl_one hv).1, (sl_one hv).2, rfl, Wm, v, hB1, hv, rfl⟩))
 refine (callsIn_wide.2 hcall).mono ?_
 rintro e W2 ⟨⟨v', rfl⟩, Wm, v, hB1, hv, rfl⟩
 have hlt : W3.heap.size + 1 < Wm.heap.size := by have := hB1.size; omega
 have hend := run_endLoop (P := Tryz.prog) (w := (setBlk (setBlk (Wm.putObj (W3.heap.size + 1) (.loop (rec .busy none))) b6 (.cells #[v] y6 (0, 0))) b7 (.cells #[.int .i64 0] y7 (0, 0))).putObj (W3.heap.size + 1) (.loop (rec .done (some .ret)))) (l := W3.heap.size + 1) (r := rec .done (some .ret)) (World.putObj_heap_same (by rw [setBlk_size, setBlk_size]; simpa [World.putObj] using hlt)) (by rw [hrec]; simp)
 refine ⟨_, _, hend, ?_⟩
 have hpen : (rec .done (some .ret)).pending = some .ret := by rw [hrec]
 rw [hpen]
 refine wpIn_ret ?_
 rw [hdf]
 change R .ret _ _
 exact hR Wm v _ _ _ (hB1.os.trans (by rw [← hW1]; rfl)) (hB1.tape.trans (by rw [← hW1]; rfl)) (hB1.output.trans (by rw [← hW1]; rfl)) (by have := hB1.size; omega)
   (fun b hb => (hB1.block b (by omega)).trans (hold b hb)) ((hB1.block _ (by omega)).trans hD1) (by rw [s1] at hv; exact hv)
theorem four_os (W : World) (l b b' : Nat) (o1 o2 o3 o4 o5 : Obj) : (((setBlk (setBlk (W.putObj l o1) b o4) b' o5).putObj l o2).putObj l o3).os = W.os ∧ (((setBlk (setBlk (W.putObj l o1) b o4) b' o5).putObj l o2).putObj l o3).tape = W.tape ∧ (((setBlk (setBlk (W.putObj l o1) b o4) b' o5).putObj l o2).putObj l o3).output = W.output := ⟨rfl, rfl, rfl⟩
theorem put_os (W : World) (l : Nat) (o : Obj) : (W.putObj l o).os = W.os ∧ (W.putObj l o).tape = W.tape ∧ (W.putObj l o).output = W.output := ⟨rfl, rfl, rfl⟩
theorem ok161 (bars : List Bar) (runs : List Run) (h : runsOk bars runs = true) (n : Int) (h0 : 0 ≤ n) (hn : n < total runs) : Ok Tryz.prog 161 [.sl (bars.map Bar.c), .sl (runs.map Run.c), vi n] (.tp [.sl ((ptsAt bars runs n).map Pt.c), vi 0]) := by
 refine ⟨Tryz.call161, fun W ok vs hok hl hv => callsIn_wide.1 (callsIn_of_wp_marks (n := 3) Tryz.func161 rfl trivial ?_ rfl)⟩
 have hfit := fits_init (nt := Tryz.f161.ntmps) hok hl hv
 revert hfit
 generalize ({ tmps := vs.toArray ++ Array.replicate (Tryz.f161.ntmps - vs.toArray.size) undef, defers := [] } : Act) = a0
 intro hfit
 refine (show SM _ _ _ _ _ from ?_) a0 W hfit
 refine SM.seq (K := fun σ' => Weak σ' ⟨23, lk [(0, .v (.sl (bars.map Bar.c))), (1, .v (.sl (runs.map Run.c))), (5, .ptr 5 0), (6, .ptr 6 0), (7, .ptr 7 0)], lk [(5, ⟨.cells [.v (vi n)], false⟩), (6, ⟨.cells [.nil], false⟩), (7, ⟨.cells [.v (vi 0)], false⟩)]⟩) ?_ (fun σ' hw => SM.weak hw ?_)
 refine zr (zo rfl (zo rfl (zo rfl (wn ?_))))
 exact ⟨rfl, zv rfl rfl rfl rfl⟩
 refine SM.seq (K := fun σ' => Weak σ' ⟨23, lk [(0, .v (.sl (bars.map Bar.c))), (1, .v (.sl (runs.map Run.c))), (5, .ptr 5 0), (6, .ptr 6 0), (7, .ptr 7 0)], lk [(5, ⟨.cells [.v (vi n)], false⟩), (6, ⟨.cells [.nil], false⟩), (7, ⟨.cells [.v (vi 0)], false⟩)]⟩) ?_ (fun σ' hw => SM.weak hw ?_)
 refine zR (zo rfl (zo rfl (zc rfl (ok115 bars runs h) (zo rfl (zw (zn rfl (rfl) (Sat.skip ?_)))))))
 exact ⟨rfl, zv rfl rfl rfl rfl⟩
 refine SM.seq2 (K := fun σ' => Weak σ' (σ3 bars runs n)) ?_ (fun σ' hw => SM.weak hw ?_)
 refine zr (zo rfl (zo rfl (zc rfl (ok211 bars runs) (wn ?_))))
 exact ⟨rfl, zv rfl rfl rfl rfl⟩
 intro a3 W3 hf3
 obtain ⟨⟨E, hs, hr⟩, hsz, hdf⟩ := hf3
 obtain ⟨b5, x5, y5, ow5, k5, r5⟩ := own_cell hs (q := 5) (d := .v (vi n)) (f := false) rfl
 obtain ⟨b6, x6, y6, ow6, k6, r6⟩ := own_cell hs (q := 6) (d := .nil) (f := false) rfl
 obtain ⟨b7, x7, y7, ow7, k7, r7⟩ := own_cell hs (q := 7) (d := .v (vi 0)) (f := false) rfl
 have ex5 := r5.int
 subst ex5
 have n67 : b7 ≠ b6 := hs.inj 7 6 ⟨.cells [.v (vi 0)], false⟩ ⟨.cells [.nil], false⟩ _ _ (by decide) rfl rfl rfl ow7 ow6
 have ptr : ∀ (q b : Nat), (σ3 bars runs n).regs q = some (.ptr q 0) → E.own q = some (.cells b) → a3.eval (.tmp q) = .pointer (some ⟨b, 0, none⟩) := fun q b hq ho => by
   have := hr q _ hq
   change RD W3 E _ (a3.eval (.tmp q)) at this
   generalize a3.eval (.tmp q) = w at this
   cases this with
   | ptr _ _ b' hb => rw [ho] at hb; cases hb; rfl
 have e5 := ptr 5 b5 rfl ow5
 have e6 := ptr 6 b6 rfl ow6
 have e7 := ptr 7 b7 rfl ow7
 have h16 := hr 16 (.v (.fn 243 [.cp [.sl (runs.map Run.c)] 0, .cp [.sl (bars.map Bar.c)] 0])) rfl
 change RD W3 E _ (a3.eval (.tmp 16)) at h16
 obtain ⟨p1, p2, e16, hp1, hp2⟩ : ∃ p1 p2, a3.eval (.tmp 16) = .func (.func 243) #[] #[p1, p2] ∧ RV W3 E.ok (.cp [.sl (runs.map Run.c)] 0) p1 ∧ RV W3 E.ok (.cp [.sl (bars.map Bar.c)] 0) p2 := by
   generalize a3.eval (.tmp 16) = w at h16
   cases h16 with
   | v _ _ hh =>
     cases hh with
     | fn f cs us hl hc =>
       match us, hl with
       | [p1, p2], _ => exact ⟨p1, p2, rfl, hc 0 _ _ rfl rfl, hc 1 _ _ rfl rfl⟩
 have g5 : W.heap.size ≤ b5 := (hs.base 5 ⟨.cells [.v (vi n)], false⟩ _ rfl ow5).elim (fun h => h) (fun h => h.elim)
 have g6 : W.heap.size ≤ b6 := (hs.base 6 ⟨.cells [.nil], false⟩ _ rfl ow6).elim (fun h => h) (fun h => h.elim)
 have g7 : W.heap.size ≤ b7 := (hs.base 7 ⟨.cells [.v (vi 0)], false⟩ _ rfl ow7).elim (fun h => h) (fun h => h.elim)
 have l6 := (Array.getElem?_eq_some_iff.1 k6).1
 have l7 := (Array.getElem?_eq_some_iff.1 k7).1
 obtain ⟨i3, u3, _, hi3, hu3, _, hs3, _, htd3⟩ := tab tabOk (show T 3 = some ti3 from rfl)
 obtain ⟨i6, u6, _, hi6, hu6, _, hs6, _, htd6⟩ := tab tabOk (show T 157 = some ti157 from rfl)
 obtain ⟨i7, u7, _, hi7, hu7, _, hs7, _, htd7⟩ := tab tabOk (show T 46 = some ti46 from rfl)
 refine core161 h h0 hn hdf hsz (ok3 := E.ok) (fun b hb => ((hs.okd b).1 hb).1) e16 hp1 hp2 e5 e6 e7 k5 k6 k7 (fun F m a W K N hf hk => rndA hf hk)
   (fun F m a W Q k v hf z q8 q9 q5 q6 q7 j5 j6 j7 hgo hst => rndB (T := T) hf z q8 q9 q5 q6 q7 j5 j6 j7 n67 hu3 (aggD_of htd3) hi6 hs6.symm hi7 hs7.symm tabOk hgo hst) ?_
 intro Wm v o1 o2 o3 hos htp hout hsz2 hblk hdef hv
 have w6 : b6 ≠ W3.heap.size ∧ b6 ≠ W3.heap.size + 1 := by omega
 have w7 : b7 ≠ W3.heap.size ∧ b7 ≠ W3.heap.size + 1 := by omega
 obtain ⟨w4, hw4⟩ : ∃ w4, w4 = (((setBlk (setBlk (Wm.putObj (W3.heap.size + 1) o1) b6 (.cells #[v] y6 (0, 0))) b7 (.cells #[.int .i64 0] y7 (0, 0))).putObj (W3.heap.size + 1) o2).putObj (W3.heap.size + 1) o3) := ⟨_, rfl⟩
 have f4 : w4.os = Wm.os ∧ w4.tape = Wm.tape ∧ w4.output = Wm.output := by rw [hw4]; exact four_os _ _ _ _ _ _ _ _ _
 have hoth : ∀ b, b ≠ W3.heap.size + 1 → b ≠ b6 → b ≠ b7 → w4.heap[b]? = Wm.heap[b]? := fun b h1 h2 h3 => by
   rw [hw4, World.putObj_heap_other h1, World.putObj_heap_other h1, setBlk_ne _ _ h3, setBlk_ne _ _ h2, World.putObj_heap_other h1]
 have hsz4 : w4.heap.size = Wm.heap.size := by rw [hw4]; simp [World.putObj, setBlk]
 have hc6 : w4.heap[b6]? = some (.cells #[v] y6 (0, 0)) := by
   rw [hw4, World.putObj_heap_other w6.2, World.putObj_heap_other w6.2, setBlk_ne _ _ (Ne.symm n67)]
   exact setBlk_same _ _ (by simp [World.putObj]; omega)
 have hc7 : w4.heap[b7]? = some (.cells #[.int .i64 0] y7 (0, 0)) := by
   rw [hw4, World.putObj_heap_other w7.2, World.putObj_heap_other w7.2]
   exact setBlk_same _ _ (by simp [World.putObj, setBlk]; omega)
 rw [← hw4]
 have hK : w4.heap[W3.heap.size]? = some (.deferred (some [])) := (hoth _ (by omega) (Ne.symm w6.1) (Ne.symm w7.1)).trans hdef
 refine ⟨by simp, .inl ⟨W3.heap.size, _, rfl, run_takeDeferred hK, ?_⟩⟩
 have hoth5 : ∀ b, b ≠ W3.heap.size → (w4.putObj W3.heap.size (.deferred none)).heap[b]? = w4.heap[b]? := fun b h1 => World.putObj_heap_other h1
 refine ⟨.tuple #[v, .int .i64 0], ?_, _, rfl, ⟨?_, ?_, ?_, ?_, ?_⟩, ?_⟩
 rw [results_eq]
 have q6 : a3.tmps.getD 6 undef = .pointer (some ⟨b6, 0, none⟩) := e6
 have q7 : a3.tmps.getD 7 undef = .pointer (some ⟨b7, 0, none⟩) := e7
 have z6 := run_load1 (P := Tryz.prog) (W := w4.putObj W3.heap.size (.deferred none)) hu6 (aggD_of htd6) ((hoth5 _ w6.1).trans hc6)
 have z7 := run_load1 (P := Tryz.prog) (W := w4.putObj W3.heap.size (.deferred none)) hu7 (aggD_of htd7) ((hoth5 _ w7.1).trans hc7)
 show Sem.run _ ((#[ResultVar.cell 6 157, ResultVar.cell 7 46].mapM (resSem a3.tmps)) >>= _) _ = _
 simp [Array.mapM_eq_mapM_toList, resSem, q6, q7, asAddr, z6, z7]
 exact ((put_os _ _ _).1.trans (f4.1.trans hos)).trans hs.keep.os
 exact ((put_os _ _ _).2.1.trans (f4.2.1.trans htp)).trans hs.keep.tape
 exact ((put_os _ _ _).2.2.trans (f4.2.2.trans hout)).trans hs.keep.output
 have := hs.keep.size
 have e : (w4.putObj W3.heap.size (.deferred none)).heap.size = w4.heap.size := by simp [World.putObj]
 change W.heap.size ≤ W3.heap.size at this
 omega
 intro b hb
 have hks := hs.keep.size
 change W.heap.size ≤ W3.heap.size at hks
 rw [hoth5 _ (by omega), hoth _ (by omega) (by omega) (by omega), hblk _ (by omega)]
 exact hs.keep.block b hb (fun h => h)
 have hks := hs.keep.size
 change W.heap.size ≤ W3.heap.size at hks
 have e : (w4.putObj W3.heap.size (.deferred none)).heap.size = w4.heap.size := by simp [World.putObj]
 have hvv := hv.mono (W' := w4.putObj W3.heap.size (.deferred none)) (ok' := fun b => ok b ∨ (W.heap.size ≤ b ∧ b < (w4.putObj W3.heap.size (.deferred none)).heap.size)) fun b hb => by
   rcases hb with hb | ⟨hb1, hb2⟩
   · obtain ⟨c1, c2, c3⟩ := (hs.okd b).1 hb
     have d6 : b ≠ b6 := fun hbe => c3 6 ⟨.cells [.nil], false⟩ _ rfl rfl ow6 hbe.symm
     have d7 : b ≠ b7 := fun hbe => c3 7 ⟨.cells [.v (vi 0)], false⟩ _ rfl rfl ow7 hbe.symm
     refine ⟨?_, by rw [hoth5 _ (by omega), hoth _ (by omega) d6 d7]⟩
     by_cases hlt : b < W.heap.size
     · exact .inl (Classical.byContradiction fun hn => c2 ⟨hlt, hn⟩)
     · exact .inr ⟨by omega, by omega⟩
   · exact ⟨.inr ⟨by omega, by omega⟩, by rw [hoth5 _ (by omega), hoth _ (by omega) (by omega) (by omega)]⟩
 refine .tp _ [v, .int .i64 0] rfl fun i x u hx hu => ?_
 match i with
 | 0 => simp at hx hu; subst hx; subst hu; exact hvv
 | 1 => simp at hx hu; subst hx; subst hu; exact .int _ _
 | i + 2 => simp at hx
end Go.Proofs.YtamjajacnfmgeaaGreat
