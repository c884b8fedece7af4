/-
  Stores and new blocks: the abstract machine's steps on memory are the model's. No condition.
  New blocks: variables, struct literals, slice literals, append, make: the abstract machine's steps are the model's. No condition.
-/
import Derived.Test.YtamjajacnfmgeaaGreatK02
import Derived.Laws.OwnMore
set_option linter.all false
namespace Go.Proofs.YtamjajacnfmgeaaGreat
open Go Go.RowKit
def setBlk (W : World) (b : Nat) (o : Obj) : World := { W with heap := W.heap.setIfInBounds b o }
theorem setBlk_size (W : World) (b : Nat) (o : Obj) : (setBlk W b o).heap.size = W.heap.size := by simp [setBlk]
theorem setBlk_ne (W : World) {b c : Nat} (o : Obj) (h : c ≠ b) : (setBlk W b o).heap[c]? = W.heap[c]? := by
 simp only [setBlk]; rw [Array.getElem?_setIfInBounds_ne (Ne.symm h)]
theorem setBlk_same (W : World) {b : Nat} (o : Obj) (h : b < W.heap.size) : (setBlk W b o).heap[b]? = some o := by
 simp [setBlk, h]
theorem setBlk_twice (W : World) (b : Nat) (o o' : Obj) : setBlk (setBlk W b o) b o' = setBlk W b o' := by
 simp [setBlk, Array.setIfInBounds_setIfInBounds]
theorem setBlk_id (W : World) {b : Nat} {o : Obj} (h : W.heap[b]? = some o) : setBlk W b o = W := by
 have : W.heap.setIfInBounds b o = W.heap := by
   apply Array.ext_getElem?
   intro i
   by_cases hi : b = i
   · subst hi
     have hb : b < W.heap.size := (Array.getElem?_eq_some_iff.1 h).1
     have := (Array.getElem?_eq_some_iff.1 h).2
     simp [hb, this]
   · rw [Array.getElem?_setIfInBounds_ne hi]
 simp [setBlk, this]
theorem splice_cons {α : Type} (c : List α) (o : Nat) (v : α) (vs : List α) (h : o < c.length) : splice (c.set o v) (o + 1) vs = splice c o (v :: vs) := by
 unfold splice
 rw [List.take_set, List.drop_set_of_lt (by omega), List.take_succ_eq_append_getElem h]
 rw [List.set_append_right _ _ (by simp; omega)]
 simp only [List.length_take, Nat.min_eq_left (Nat.le_of_lt h), Nat.sub_self, List.set_cons_zero, List.append_assoc, List.singleton_append, List.length_cons]
 congr 3
 omega
theorem splice_nil {α : Type} (c : List α) (o : Nat) : splice c o [] = c := by simp [splice]
theorem splice_length {α : Type} (c : List α) (o : Nat) (n : List α) (h : o + n.length ≤ c.length) : (splice c o n).length = c.length := by
 simp [splice]; omega
theorem splice_get {α : Type} (c : List α) (o : Nat) (n : List α) (h : o + n.length ≤ c.length) (j : Nat) : (splice c o n)[j]? = if o ≤ j ∧ j < o + n.length then n[j - o]? else c[j]? := by
 unfold splice
 rw [List.append_assoc, List.getElem?_append]
 simp only [List.length_take, Nat.min_eq_left (show o ≤ c.length by omega)]
 by_cases h1 : j < o
 · rw [if_pos h1, if_neg (by omega), List.getElem?_take, if_pos h1]
 · rw [if_neg h1, List.getElem?_append]
   by_cases h2 : j - o < n.length
   · rw [if_pos h2, if_pos (by omega)]
   · rw [if_neg h2, if_neg (by omega), List.getElem?_drop]
     congr 1; omega
theorem setCell_blk {W : World} {b o : Nat} {c : List Value} {t : TypeId} {f : Nat × Nat} (hb : W.heap[b]? = some (.cells c.toArray t f)) (v : Value) :
    W.setCell ⟨b, o, none⟩ v = setBlk W b (.cells (c.set o v).toArray t f) := by
 have hlt : b < W.heap.size := (Array.getElem?_eq_some_iff.1 hb).1
 have : ∀ g : Obj → Obj, g (.cells c.toArray t f) = .cells (c.set o v).toArray t f → W.heap.modify b g = W.heap.setIfInBounds b (.cells (c.set o v).toArray t f) := by
   intro g hg
   apply Array.ext_getElem?
   intro i
   rw [Array.getElem?_modify]
   by_cases hi : b = i
   · subst hi
     rw [if_pos rfl, hb]
     simp [hlt, hg]
   · rw [if_neg hi, Array.getElem?_setIfInBounds_ne hi]
 simp only [World.setCell, setBlk]
 rw [this _ (by simp)]
theorem run_storeCells {P : Program} {b o : Nat} {t : TypeId} : ∀ (vs : List Value) (i : Nat) (c : List Value) (W : World), W.heap[b]? = some (.cells c.toArray t (0, 0)) → o + i + vs.length ≤ c.length → (∀ v ∈ vs, v.oneCell' = true) →
    (storeCells ⟨b, o, none⟩ vs i).run P W = .ok () (setBlk W b (.cells (splice c (o + i) vs).toArray t (0, 0)))
  | [], i, c, W, hb, _, _ => by
    rw [splice_nil, setBlk_id W hb]; rfl
  | v :: vs, i, c, W, hb, hl, h1 => by
    simp only [List.length_cons] at hl
    have hlt : b < W.heap.size := (Array.getElem?_eq_some_iff.1 hb).1
    have hcell : W.cell? ⟨b, o + i, none⟩ = some (c[o + i]'(by omega)) := by rw [cell_of_heap hb]; exact List.getElem?_eq_getElem (by omega)
    have ih := run_storeCells (P := P) (b := b) (o := o) (t := t) vs (i + 1) (c.set (o + i) v) (setBlk W b (.cells (c.set (o + i) v).toArray t (0, 0))) (setBlk_same W _ hlt) (by simp; omega) (fun u hu => h1 u (List.mem_cons_of_mem _ hu))
    rw [← Nat.add_assoc, splice_cons c (o + i) v vs (by omega), setBlk_twice] at ih
    simp only [storeCells, Sem.run_bind]
    rw [add_plain, run_store P W _ v _ (h1 v (List.mem_cons_self ..)), hcell]
    simp only [frozen_of_heap hb, Bool.false_eq_true, if_false, Result.andThen_ok]
    rw [setCell_blk hb]
    exact ih
theorem RV.one {W : World} {ok : Nat → Prop} {x : V} {v : Value} (h : RV W ok x v) (h1 : x.one = true) : v.oneCell' = true := by
 cases h <;> first | rfl | simp [V.one] at h1
theorem RD.one {W : World} {E : Env} {x : D} {v : Value} (h : RD W E x v) (h1 : x.one = true) : v.oneCell' = true := by
 cases h with
 | v x v h => exact h.one h1
 | _ => first | rfl | simp [D.one] at h1
theorem cells_one {W : World} {E : Env} {x : D} {v : Value} (h : RD W E x v) (h1 : x.cells.all D.one = true) : ∀ u ∈ v.cells.toList, u.oneCell' = true := by
 obtain ⟨hl, hc⟩ := h.cells h1
 intro u hu
 obtain ⟨i, hi⟩ := List.getElem?_of_mem hu
 obtain ⟨y, hy⟩ := get_of_len hl.symm hi
 exact (hc i y u hy hi).one (List.all_eq_true.1 h1 y (List.mem_of_getElem? hy))
theorem run_storeVar {P : Program} {W : World} {b o : Nat} {t t' : TypeId} {i : TypeInfo} {c : List Value} {v : Value} (hi : P.info? t = some i) (hb : W.heap[b]? = some (.cells c.toArray t' (0, 0)))
    (hl : v.cells.toList.length = i.size) (ho : o + i.size ≤ c.length) (h1 : ∀ u ∈ v.cells.toList, u.oneCell' = true) :
    (storeVar t ⟨b, o, none⟩ v).run P W = .ok () (setBlk W b (.cells (splice c o v.cells.toList).toArray t' (0, 0))) := by
 have := run_storeCells (P := P) (o := o) v.cells.toList 0 c W hb (by omega) h1
 have hl' : v.cells.size = i.size := by simpa using hl
 simp [storeVar, run_sizeOf W hi, hl', this]
theorem turn_set {Φ : Fr} {W : World} {E : Env} {s : Store} (hs : SR Φ W E s) {n : Nat} {o : O} {i i' : Own} (hn : s n = some ⟨o, false⟩) (hi : E.own n = some i) (hle : i.le i') (hb : i'.block = i.block) (ob : Obj) :
    Turn Φ W (setBlk W i.block ob) E s n i' := by
 obtain ⟨j, hj, hr⟩ := hs.ent n _ hn
 rw [hi] at hj; cases hj
 refine ⟨rfl, rfl, rfl, fun b hlt hne => setBlk_ne W ob (by rw [hb] at hne; exact hne), by rw [setBlk_size]; exact Nat.le_refl _, by rw [setBlk_size, hb]; exact hr.block_lt, by rw [hb]; exact hs.base n _ i hn hi, .inr ⟨_, i, hn, rfl, hi, hle, .inl hb⟩⟩
theorem turn_new {Φ : Fr} {W : World} {E : Env} {s : Store} (hs : SR Φ W E s) {n : Nat} {i' : Own} (hn : s n = none) (hb : i'.block = W.heap.size) (ob : Obj) : Turn Φ W (W.alloc ob) E s n i' := by
 refine ⟨rfl, rfl, rfl, fun b hlt hne => ?_, by simp, by rw [hb]; simp, .inl (by rw [hb]; exact hs.keep.size), .inl ⟨hn, by omega⟩⟩
 exact Below.heap_alloc W ob b hlt
theorem storeD_sound {P : Program} {Φ : Fr} {W : World} {E : Env} {s s' : Store} (hs : SR Φ W E s) {t : Nat} {i : TypeInfo} (hi : P.info? t = some i) {d x : D} {v u : Value}
    (hd : RD W E d v) (hx : RD W E x u) (h : storeD s i.size x d = some s') : ∃ W' E', (Instr.storeAt t v u).run P W = .ok () W' ∧ Ext W E W' E' ∧ SR Φ W' E' s' := by
 cases d with
 | ptr n off =>
   simp only [storeD] at h
   split at h
   · rename_i cs he
     split at h
     · rename_i hc
       obtain ⟨hc1, hc2, hc3⟩ := hc
       cases h
       cases hd with
       | ptr n' off b hown =>
         obtain ⟨j, hj, hr⟩ := hs.ent n _ he
         rw [hown] at hj; cases hj
         obtain ⟨hl1, hcc⟩ := hx.cells hc3
         cases hr with
         | cells b ds f vs t' hb hl hcell =>
           have hrun := run_storeVar (P := P) (W := W) (o := off) (v := u) hi hb (by omega) (by omega) (cells_one hx hc3)
           have ht := turn_set hs he hown (i' := .cells b) rfl rfl (.cells (splice vs off u.cells.toList).toArray t' (0, 0))
           have hext := ht.ext (o := .cells (splice cs off x.cells)) hs
           have hlt : b < W.heap.size := (Array.getElem?_eq_some_iff.1 hb).1
           refine ⟨_, _, by simp [Instr.storeAt, Instr.sureAddr, hrun]; rfl, hext, ht.sr hs ?_⟩
           refine .cells b _ false (splice vs off u.cells.toList) t' (setBlk_same W _ hlt) (by rw [splice_length _ _ _ (by omega), splice_length _ _ _ (by omega)]; exact hl) ?_
           intro k d w hk hw
           rw [splice_get _ _ _ (by omega)] at hk hw
           rw [hl1] at hw
           split at hk
           · rename_i hr
             rw [if_pos hr] at hw
             exact (hcc _ d w hk hw).mono hext
           · rename_i hr
             rw [if_neg hr] at hw
             exact (hcell k d w hk hw).mono hext
     · cases h
   · cases h
 | optr n tot off =>
   simp only [storeD] at h
   split at h
   · rename_i k rows y he
     split at h
     · rename_i hc
       obtain ⟨hc1, hk0, hc2, hc3, hc4⟩ := hc
       split at h
       · rename_i row hrow
         cases h
         obtain ⟨j, hj, hr⟩ := hs.ent n _ he
         cases hr with
         | sl b k cs rows f vs t' hb hl hk hn hcell =>
           cases hd with
           | optrOld n' tot off b' k' tot' cs' a h ht => rw [h] at hj; cases hj; omega
           | optr n' tot off b' k' cs' hown =>
             have hown' := hown
             rw [hown] at hj
             simp only [Option.some.injEq, Own.sl.injEq] at hj
             obtain ⟨rfl, rfl, htot, rfl⟩ := hj
             subst htot
             cases hx with
             | v _ _ hy =>
               obtain ⟨hl1, hcc⟩ := hy.cells
               have hone : ∀ w ∈ u.cells.toList, w.oneCell' = true := by
                 intro w hw
                 obtain ⟨q, hq⟩ := List.getElem?_of_mem hw
                 obtain ⟨z, hz⟩ := get_of_len hl1.symm hq
                 exact (hcc q z w hz hq).one (List.all_eq_true.1 hc4 z (List.mem_of_getElem? hz))
               have hmod := Nat.div_add_mod off k'
               have hlt : off / k' < rows.length := (List.getElem?_eq_some_iff.1 hrow).1
               have hrl := hk row (List.mem_of_getElem? hrow)
               have hbnd : ∀ q, q < rows.length → q * k' + k' ≤ vs.length := by
                 intro q hq
                 have : (q + 1) * k' ≤ rows.length * k' := Nat.mul_le_mul_right k' (by omega)
                 rw [Nat.succ_mul] at this; omega
               have hb1 := hbnd _ hlt
               have hoff : off / k' * k' + off % k' = off := by rw [Nat.mul_comm]; exact hmod
               have hrun := run_storeVar (P := P) (W := W) (o := off) (v := u) hi hb (by omega) (by omega) hone
               have ht := turn_set hs he hown' (i' := .sl b' k' rows.length vs.length) ⟨rfl, .inr ⟨rfl, rfl, hl.symm⟩⟩ rfl (.cells (splice vs off u.cells.toList).toArray t' (0, 0))
               have hext := ht.ext (o := .sl k' (rows.set (off / k') (splice row (off % k') y.cells))) hs
               have hblt : b' < W.heap.size := (Array.getElem?_eq_some_iff.1 hb).1
               refine ⟨_, _, by simp [Instr.storeAt, Instr.sureAddr, hrun]; rfl, hext, ht.sr hs ?_⟩
               have hent := EntR.sl (W := setBlk W b' (.cells (splice vs off u.cells.toList).toArray t' (0, 0))) (E := envOf Φ (setBlk W b' (.cells (splice vs off u.cells.toList).toArray t' (0, 0))) E (upd s n ⟨.sl k' (rows.set (off / k') (splice row (off % k') y.cells)), false⟩) n (.sl b' k' rows.length vs.length))
                 b' k' vs.length (rows.set (off / k') (splice row (off % k') y.cells)) false (splice vs off u.cells.toList) t' (setBlk_same W _ hblt) (splice_length _ _ _ (by omega)) ?_ (by simp; omega) ?_
               · rwa [List.length_set] at hent
               · intro r hr
                 rcases List.mem_or_eq_of_mem_set hr with hr | rfl
                 · exact hk r hr
                 · rw [splice_length _ _ _ (by omega)]; exact hrl
               · intro q j r z w hq hz hw
                 rw [splice_get _ _ _ (by omega)] at hw
                 rw [List.getElem?_set] at hq
                 by_cases hqe : off / k' = q
                 · subst hqe
                   rw [if_pos rfl, if_pos hlt] at hq
                   cases hq
                   have hj : j < k' := by
                     have := (List.getElem?_eq_some_iff.1 hz).1
                     rw [splice_length _ _ _ (by omega)] at this; omega
                   rw [splice_get _ _ _ (by omega)] at hz
                   by_cases hin : off % k' ≤ j ∧ j < off % k' + y.cells.length
                   · rw [if_pos hin] at hz
                     rw [if_pos (by omega)] at hw
                     have : off / k' * k' + j - off = j - off % k' := by omega
                     rw [this] at hw
                     exact (hcc _ z w hz hw).mono hext.ok
                   · rw [if_neg hin] at hz
                     rw [if_neg (by omega)] at hw
                     exact (hcell (off / k') j row z w hrow hz hw).mono hext.ok
                 · rw [if_neg hqe] at hq
                   have hj : j < k' := by
                     have := (List.getElem?_eq_some_iff.1 hz).1
                     rw [hk r (List.mem_of_getElem? hq)] at this; exact this
                   have hqlt : q < rows.length := (List.getElem?_eq_some_iff.1 hq).1
                   rw [if_neg (by
                     intro ⟨h1, h2⟩
                     rcases Nat.lt_or_ge q (off / k') with hlt' | hge
                     · have : (q + 1) * k' ≤ off / k' * k' := Nat.mul_le_mul_right k' hlt'
                       rw [Nat.succ_mul] at this; omega
                     · have : (off / k' + 1) * k' ≤ q * k' := Nat.mul_le_mul_right k' (by omega)
                       rw [Nat.succ_mul] at this; omega)] at hw
                   exact (hcell q j r z w hq hz hw).mono hext.ok
       · cases h
     · cases h
   · cases h
 | _ => simp only [storeD, reduceCtorEq] at h
end Go.Proofs.YtamjajacnfmgeaaGreat
namespace Go.Proofs.YtamjajacnfmgeaaGreat
open Go Go.RowKit
def Out {α : Type} (P : Program) (Φ : Fr) (W : World) (E : Env) (x : Sem α) (s' : Store) (R : World → Env → α → Prop) : Prop :=
  ∃ a W' E', x.run P W = .ok a W' ∧ Ext W E W' E' ∧ SR Φ W' E' s' ∧ R W' E' a
theorem heap_alloc (W : World) (o : Obj) : (W.alloc o).heap[W.heap.size]? = some o := by
 show (W.heap.push o)[W.heap.size]? = some o
 simp
theorem new_cells {Φ : Fr} {W : World} {E : Env} {s : Store} (hs : SR Φ W E s) {n : Nat} (hn : s n = none) {vs : List Value} {ds : List D} (t : TypeId) (hl : vs.length = ds.length)
    (h : ∀ (i : Nat) (d : D) (v : Value), ds[i]? = some d → vs[i]? = some v → RD W E d v) :
    ∃ E', Ext W E (W.alloc (.cells vs.toArray t)) E' ∧ SR Φ (W.alloc (.cells vs.toArray t)) E' (upd s n ⟨.cells ds, false⟩) ∧ RD (W.alloc (.cells vs.toArray t)) E' (.ptr n 0) (.pointer (some ⟨W.heap.size, 0, none⟩)) := by
 have ht := turn_new hs hn (i' := .cells W.heap.size) rfl (.cells vs.toArray t)
 have hext := ht.ext (o := .cells ds) hs
 exact ⟨_, hext, ht.sr hs (.cells _ ds false vs t (heap_alloc W _) hl fun i d v hd hv => (h i d v hd hv).mono hext), .ptr n 0 _ (by simp [envOf, upd_same])⟩
theorem new_sl {Φ : Fr} {W : World} {E : Env} {s : Store} (hs : SR Φ W E s) {n : Nat} (hn : s n = none) {vs : List Value} {rows : List (List V)} {k cap : Nat} (t : TypeId)
    (hk : ∀ row ∈ rows, row.length = k) (hp : 0 < rows.length) (hc : cap * k ≤ vs.length) (hcap : rows.length ≤ cap)
    (h : ∀ (i j : Nat) (row : List V) (x : V) (v : Value), rows[i]? = some row → row[j]? = some x → vs[i * k + j]? = some v → RV W E.ok x v) :
    ∃ E', Ext W E (W.alloc (.cells vs.toArray t)) E' ∧ SR Φ (W.alloc (.cells vs.toArray t)) E' (upd s n ⟨.sl k rows, false⟩) ∧
      RD (W.alloc (.cells vs.toArray t)) E' (.osl n k rows.length 0 rows.length) (.slice (some ⟨W.heap.size, 0, none⟩) rows.length cap) := by
 have ht := turn_new hs hn (i' := .sl W.heap.size k rows.length vs.length) rfl (.cells vs.toArray t)
 have hext := ht.ext (o := .sl k rows) hs
 have hle : rows.length * k ≤ cap * k := Nat.mul_le_mul_right k hcap
 refine ⟨_, hext, ht.sr hs (.sl _ k vs.length rows false vs t (heap_alloc W _) rfl hk (by omega) fun i j row x v hr hx hv => (h i j row x v hr hx hv).mono hext.ok), ?_⟩
 have := RD.osl (W := W.alloc (.cells vs.toArray t)) (E := envOf Φ (W.alloc (.cells vs.toArray t)) E (upd s n ⟨.sl k rows, false⟩) n (.sl W.heap.size k rows.length vs.length)) n k rows.length 0 rows.length W.heap.size vs.length cap (by simp [envOf, upd_same]) (by omega) (by simpa using hc) hcap
 rwa [Nat.zero_mul] at this
theorem grow_sl {Φ : Fr} {W : World} {E : Env} {s : Store} (hs : SR Φ W E s) {n k cs b : Nat} {old : List (List V)} (hn : s n = some ⟨.sl k old, false⟩) (hi : E.own n = some (.sl b k old.length cs)) {vs : List Value} {rows : List (List V)} {cap : Nat} (t : TypeId)
    (hgt : old.length < rows.length) (hk : ∀ row ∈ rows, row.length = k) (hc : cap * k ≤ vs.length) (hcap : rows.length ≤ cap)
    (h : ∀ (i j : Nat) (row : List V) (x : V) (v : Value), rows[i]? = some row → row[j]? = some x → vs[i * k + j]? = some v → RV W E.ok x v) :
    ∃ E', Ext W E (W.alloc (.cells vs.toArray t)) E' ∧ SR Φ (W.alloc (.cells vs.toArray t)) E' (upd s n ⟨.sl k rows, false⟩) ∧
      RD (W.alloc (.cells vs.toArray t)) E' (.osl n k rows.length 0 rows.length) (.slice (some ⟨W.heap.size, 0, none⟩) rows.length cap) := by
 have ht : Turn Φ W (W.alloc (.cells vs.toArray t)) E s n (.sl W.heap.size k rows.length vs.length) := by
   refine ⟨rfl, rfl, rfl, fun b hlt hne => Below.heap_alloc W _ b hlt, by simp, by simp [Own.block], .inl (by simpa [Own.block] using hs.keep.size), .inr ⟨_, _, hn, rfl, hi, ⟨rfl, .inl hgt⟩, .inr (by simp [Own.block])⟩⟩
 have hext := ht.ext (o := .sl k rows) hs
 have hle : rows.length * k ≤ cap * k := Nat.mul_le_mul_right k hcap
 refine ⟨_, hext, ht.sr hs (.sl _ k vs.length rows false vs t (heap_alloc W _) rfl hk (by omega) fun i j row x v hr hx hv => (h i j row x v hr hx hv).mono hext.ok), ?_⟩
 have := RD.osl (W := W.alloc (.cells vs.toArray t)) (E := envOf Φ (W.alloc (.cells vs.toArray t)) E (upd s n ⟨.sl k rows, false⟩) n (.sl W.heap.size k rows.length vs.length)) n k rows.length 0 rows.length W.heap.size vs.length cap (by simp [envOf, upd_same]) (by omega) (by simpa using hc) hcap
 rwa [Nat.zero_mul] at this
theorem grow_in {Φ : Fr} {W : World} {E : Env} {s : Store} (hs : SR Φ W E s) {n k cs b : Nat} {old : List (List V)} (hn : s n = some ⟨.sl k old, false⟩) (hi : E.own n = some (.sl b k old.length cs)) {vs : List Value} {rows : List (List V)} {cap : Nat} (t : TypeId)
    (hgt : old.length < rows.length) (hk : ∀ row ∈ rows, row.length = k) (hl : vs.length = cs) (hc : cap * k ≤ cs) (hcap : rows.length ≤ cap)
    (h : ∀ (i j : Nat) (row : List V) (x : V) (v : Value), rows[i]? = some row → row[j]? = some x → vs[i * k + j]? = some v → RV W E.ok x v) :
    ∃ E', Ext W E (setBlk W b (.cells vs.toArray t)) E' ∧ SR Φ (setBlk W b (.cells vs.toArray t)) E' (upd s n ⟨.sl k rows, false⟩) ∧
      RD (setBlk W b (.cells vs.toArray t)) E' (.osl n k rows.length 0 rows.length) (.slice (some ⟨b, 0, none⟩) rows.length cap) := by
 have hlt : b < W.heap.size := by
   obtain ⟨j, hj, hr⟩ := hs.ent n _ hn
   rw [hi] at hj; cases hj
   exact hr.block_lt
 have ht := turn_set hs hn hi (i' := .sl b k rows.length cs) ⟨rfl, .inl hgt⟩ rfl (.cells vs.toArray t)
 have hext := ht.ext (o := .sl k rows) hs
 have hle : rows.length * k ≤ cap * k := Nat.mul_le_mul_right k hcap
 refine ⟨_, hext, ht.sr hs (.sl _ k cs rows false vs t (setBlk_same W _ hlt) hl hk (by omega) fun i j row x v hr hx hv => (h i j row x v hr hx hv).mono hext.ok), ?_⟩
 have := RD.osl (W := setBlk W b (.cells vs.toArray t)) (E := envOf Φ (setBlk W b (.cells vs.toArray t)) E (upd s n ⟨.sl k rows, false⟩) n (.sl b k rows.length cs)) n k rows.length 0 rows.length b cs cap (by simp [envOf, upd_same]) (by omega) (by simpa using hc) hcap
 rwa [Nat.zero_mul] at this
theorem new_mp {Φ : Fr} {W : World} {E : Env} {s : Store} (hs : SR Φ W E s) {n : Nat} (hn : s n = none) :
    ∃ E', Ext W E (W.alloc (.map #[] 0)) E' ∧ SR Φ (W.alloc (.map #[] 0)) E' (upd s n ⟨.mp [], false⟩) ∧ RD (W.alloc (.map #[] 0)) E' (.omap n) (.map (some W.heap.size)) := by
 have ht := turn_new hs hn (i' := .mp W.heap.size) rfl (.map #[] 0)
 have hext := ht.ext (o := .mp []) hs
 exact ⟨_, hext, ht.sr hs (.mp _ [] false [] 0 (heap_alloc W _) rfl fun i x e hx => by simp at hx), .omap n _ (by simp [envOf, upd_same])⟩
theorem ownNew_some {s s' : Store} {dst : Option Tmp} {o : O} {n : Nat} (h : ownNew s dst o = some (n, s')) : s n = none ∧ s' = upd s n ⟨o, false⟩ := by
 unfold ownNew at h
 split at h
 · split at h
   · rename_i hn
     cases h
     exact ⟨by simpa using hn, rfl⟩
   · cases h
 · cases h
theorem rowsOf_sound {Φ : Fr} {W : World} {E : Env} {s : Store} (hs : SR Φ W E s) {d : D} {v : Value} {rows : List (List V)} (hd : RD W E d v) (h : rowsOf s d = some rows) {k : Nat} (hk : ∀ row ∈ rows, row.length = k) :
    ∃ base cap, v = .slice base rows.length cap ∧ (rows = [] ∨ ∃ (b o : Nat) (news : List Value), base = some ⟨b, o, none⟩ ∧ news.length = rows.length * k ∧ (∀ (j : Nat) (u : Value), news[j]? = some u → W.cell? ⟨b, o + j, none⟩ = some u) ∧
      ∀ (i j : Nat) (row : List V) (x : V) (u : Value), rows[i]? = some row → row[j]? = some x → news[i * k + j]? = some u → RV W E.ok x u) := by
 have divmod : ∀ (j : Nat), j < rows.length * k → j / k < rows.length ∧ j % k < k ∧ j / k * k + j % k = j := by
   intro j hj
   have hk0 : 0 < k := by
     rcases Nat.eq_zero_or_pos k with h0 | h0
     · subst h0; simp at hj
     · exact h0
   refine ⟨(Nat.div_lt_iff_lt_mul hk0).2 hj, Nat.mod_lt _ hk0, ?_⟩
   rw [Nat.mul_comm]; exact Nat.div_add_mod j k
 cases d with
 | v x =>
   have hx : x = .sl rows := by cases x <;> simp_all [rowsOf]
   subst hx
   cases hd with
   | v _ _ h => cases h with
     | slE a cap => exact ⟨a, cap, rfl, .inl rfl⟩
     | sl _ b o k' cap hb hk' hc vs hv h =>
       refine ⟨_, cap, rfl, ?_⟩
       by_cases hne : rows = []
       · exact .inl hne
       have hkk : k' = k := by
         obtain ⟨r, hr⟩ := List.exists_mem_of_ne_nil _ hne
         rw [← hk r hr, hk' r hr]
       subst hkk
       refine .inr ⟨b, o, (List.range (rows.length * k')).map fun j => vs (j / k') (j % k'), rfl, by simp, ?_, ?_⟩
       · intro j u hj
         simp only [List.getElem?_map, Option.map_eq_some_iff] at hj
         obtain ⟨j', hj', rfl⟩ := hj
         obtain ⟨h1, h2⟩ := List.getElem?_eq_some_iff.1 hj'
         simp at h1 h2
         subst h2
         obtain ⟨d1, d2, d3⟩ := divmod j h1
         have hr : rows[j / k']? = some rows[j / k'] := List.getElem?_eq_getElem d1
         have hx : rows[j / k'][j % k']? = some (rows[j / k'][j % k']'(by rw [hk _ (List.getElem_mem d1)]; exact d2)) := List.getElem?_eq_getElem _
         have := hv (j / k') (j % k') _ _ hr hx
         rwa [d3] at this
       · intro i j row x u hr hx hu
         have hj : j < k' := by
           have := (List.getElem?_eq_some_iff.1 hx).1
           rw [hk row (List.mem_of_getElem? hr)] at this; exact this
         simp only [List.getElem?_map, Option.map_eq_some_iff] at hu
         obtain ⟨j', hj', rfl⟩ := hu
         obtain ⟨h1, h2⟩ := List.getElem?_eq_some_iff.1 hj'
         simp at h1 h2
         subst h2
         have e1 : (i * k' + j) / k' = i := by rw [Nat.mul_comm, Nat.mul_add_div (by omega), Nat.div_eq_of_lt hj]; omega
         have e2 : (i * k' + j) % k' = j := by rw [Nat.mul_comm, Nat.mul_add_mod, Nat.mod_eq_of_lt hj]
         rw [e1, e2]
         exact h i j row x hr hx
 | nil =>
   simp only [rowsOf, Option.some.injEq] at h; subst h
   cases hd
   exact ⟨none, 0, rfl, .inl rfl⟩
 | osl m k' tot off len =>
   simp only [rowsOf] at h
   split at h
   · rename_i k2 all f he
     split at h
     · rename_i hc
       obtain ⟨rfl, hc⟩ := hc
       injection h with h
       subst h
       obtain ⟨i, hi, hr⟩ := hs.ent m _ he
       cases hr with
       | sl b k cs rows f vs t hb hl hk' hn hcell =>
         cases hd with
         | oslOld n' k'' tot off len b' tot' cs' a l c h ht => rw [h] at hi; cases hi; omega
         | osl n' k'' tot off len b' cs' cap h ho hcap hlc =>
           rw [h] at hi
           simp only [Option.some.injEq, Own.sl.injEq] at hi
           obtain ⟨rfl, _, _, rfl⟩ := hi
           have hlen : ((all.drop off).take len).length = len := by simp; omega
           refine ⟨_, cap, by rw [hlen], ?_⟩
           by_cases hne : (all.drop off).take len = []
           · exact .inl hne
           have hrow : ∀ (i : Nat) (row : List V), ((all.drop off).take len)[i]? = some row → all[off + i]? = some row := by
             intro i row hr
             rw [List.getElem?_take] at hr
             split at hr
             · rwa [List.getElem?_drop] at hr
             · cases hr
           have hkk : k2 = k := by
             obtain ⟨r, hr⟩ := List.exists_mem_of_ne_nil _ hne
             rw [← hk r hr, hk' r (List.mem_of_mem_drop (List.mem_of_mem_take hr))]
           subst hkk
           have hb1 : off * k2 + len * k2 ≤ vs.length := by
             have : (off + len) * k2 ≤ all.length * k2 := Nat.mul_le_mul_right k2 (by omega)
             rw [Nat.add_mul] at this; omega
           refine .inr ⟨b', off * k2, (vs.drop (off * k2)).take (len * k2), rfl, by rw [hlen]; simp; omega, ?_, ?_⟩
           · intro j u hj
             rw [List.getElem?_take] at hj
             split at hj
             · rw [List.getElem?_drop] at hj; rw [cell_of_heap hb, hj]
             · cases hj
           · intro i j row x u hr hx hu
             rw [List.getElem?_take] at hu
             split at hu
             · rw [List.getElem?_drop] at hu
               refine hcell (off + i) j row x u (hrow i row hr) hx ?_
               rw [← hu, Nat.add_mul]; congr 1; omega
             · cases hu
     · cases h
   · cases h
 | _ => simp only [rowsOf, reduceCtorEq] at h
end Go.Proofs.YtamjajacnfmgeaaGreat
