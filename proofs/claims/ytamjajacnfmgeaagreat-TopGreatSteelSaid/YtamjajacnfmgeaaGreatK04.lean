/-
  append, make, slice literals, struct literals: the abstract machine's steps are the model's. No condition.
  Struct and slice literals, maps, arithmetic: the abstract machine's steps are the model's. No condition.
-/
import Derived.Test.YtamjajacnfmgeaaGreatK03
import Derived.Great.BuildSlice
set_option linter.all false
namespace Go.Proofs.YtamjajacnfmgeaaGreat
open Go Go.RowKit
theorem run_append_in {P : Program} {W : World} {t ty e t' : TypeId} {i : TypeInfo} (ht : P.underlying t = some (.slice e)) (hi : P.info? e = some i) {b len cap : Nat} {cur : List Value}
    (hb : W.heap[b]? = some (.cells cur.toArray t' (0, 0))) {a : Addr} {m c : Nat} {news : List Value} (hl : news.length = m * i.size) (hnews : ∀ (j : Nat) (u : Value), news[j]? = some u → W.cell? (a.add j) = some u)
    (h1 : ∀ u ∈ news, u.oneCell' = true) (hroom : len + m ≤ cap) (hfit : len * i.size + news.length ≤ cur.length) :
    (Builtin.append_ #[t, t] ty #[.slice (some ⟨b, 0, none⟩) len cap, .slice (some a) m c]).run P W =
      .ok (.slice (some ⟨b, 0, none⟩) (len + m) cap) (setBlk W b (.cells (splice cur (len * i.size) news).toArray t' (0, 0))) := by
 have hf := run_firstCells_some (P := P) W i.size m a m c news hl hnews
 have hst := run_storeCells (P := P) (b := b) (o := len * i.size) (t := t') news 0 cur W hb (by omega) h1
 simp only [Nat.add_zero] at hst
 simp [Builtin.append_, Go.run_underlying ht, sizeOf, typeInfo, hi, Builtin.lenOf, hroom, hf, add_plain, hst]
theorem run_append_none {P : Program} {W : World} {t ty e : TypeId} {i : TypeInfo} (ht : P.underlying t = some (.slice e)) (hi : P.info? e = some i) {base a : Option Addr} {len cap c : Nat} (hlc : len ≤ cap) :
    (Builtin.append_ #[t, t] ty #[.slice base len cap, .slice a 0 c]).run P W = .ok (.slice base len cap) W := by
 cases base <;> cases a <;> simp [Builtin.append_, Go.run_underlying ht, sizeOf, typeInfo, hi, Builtin.lenOf, hlc, Builtin.firstCells, loadCells, loadCellsFrom, storeCells]
theorem rows_one {W : World} {ok : Nat → Prop} {rows : List (List V)} {k : Nat} {news : List Value} (hl : news.length = rows.length * k) (hk : ∀ row ∈ rows, row.length = k) (h1 : ∀ row ∈ rows, row.all V.one = true)
    (h : ∀ (i j : Nat) (row : List V) (x : V) (u : Value), rows[i]? = some row → row[j]? = some x → news[i * k + j]? = some u → RV W ok x u) : ∀ u ∈ news, u.oneCell' = true := by
 intro u hu
 obtain ⟨j, hj⟩ := List.getElem?_of_mem hu
 have hlt : j < rows.length * k := by rw [← hl]; exact (List.getElem?_eq_some_iff.1 hj).1
 have hk0 : 0 < k := by
   rcases Nat.eq_zero_or_pos k with h0 | h0
   · subst h0; simp at hlt
   · exact h0
 have d1 : j / k < rows.length := (Nat.div_lt_iff_lt_mul hk0).2 hlt
 have d2 : j % k < k := Nat.mod_lt _ hk0
 have d3 : j / k * k + j % k = j := by rw [Nat.mul_comm]; exact Nat.div_add_mod j k
 have hr : rows[j / k]? = some rows[j / k] := List.getElem?_eq_getElem d1
 have hmem : rows[j / k] ∈ rows := List.getElem_mem d1
 have hx : rows[j / k][j % k]? = some (rows[j / k][j % k]'(by rw [hk _ hmem]; exact d2)) := List.getElem?_eq_getElem _
 exact (h (j / k) (j % k) _ _ u hr hx (by rw [d3]; exact hj)).one (List.all_eq_true.1 (h1 _ hmem) _ (List.mem_of_getElem? hx))
theorem concat_cells {W : World} {ok : Nat → Prop} {old new : List (List V)} {k : Nat} {olds news rest : List Value} (ho : olds.length = old.length * k) (hn : news.length = new.length * k)
    (hk : ∀ row ∈ old, row.length = k) (hk' : ∀ row ∈ new, row.length = k)
    (h : ∀ (i j : Nat) (row : List V) (x : V) (u : Value), old[i]? = some row → row[j]? = some x → olds[i * k + j]? = some u → RV W ok x u)
    (h' : ∀ (i j : Nat) (row : List V) (x : V) (u : Value), new[i]? = some row → row[j]? = some x → news[i * k + j]? = some u → RV W ok x u) :
    ∀ (i j : Nat) (row : List V) (x : V) (u : Value), (old ++ new)[i]? = some row → row[j]? = some x → (olds ++ news ++ rest)[i * k + j]? = some u → RV W ok x u := by
 intro i j row x u hr hx hu
 rw [List.getElem?_append] at hr
 have hlen : ∀ (l : List (List V)) (q : Nat), (∀ row ∈ l, row.length = k) → l[q]? = some row → q < l.length ∧ j < k ∧ q * k + k ≤ l.length * k := by
   intro l q hl hq
   have h1 := (List.getElem?_eq_some_iff.1 hq).1
   have h2 := (List.getElem?_eq_some_iff.1 hx).1
   rw [hl row (List.mem_of_getElem? hq)] at h2
   have : (q + 1) * k ≤ l.length * k := Nat.mul_le_mul_right k h1
   rw [Nat.succ_mul] at this
   exact ⟨h1, h2, by omega⟩
 split at hr
 · rename_i hi
   obtain ⟨h1, h2, h3⟩ := hlen old i hk hr
   rw [List.append_assoc, List.getElem?_append_left (by omega)] at hu
   exact h i j row x u hr hx hu
 · rename_i hi
   obtain ⟨h1, h2, h3⟩ := hlen new (i - old.length) hk' hr
   have e : i * k + j = olds.length + ((i - old.length) * k + j) := by
     rw [ho, ← Nat.add_assoc, ← Nat.add_mul]; congr 2; omega
   rw [e, List.append_assoc, List.getElem?_append_right (by omega)] at hu
   rw [Nat.add_sub_cancel_left, List.getElem?_append_left (by omega)] at hu
   exact h' (i - old.length) j row x u hr hx hu
theorem len_zeroCells (z : Array Value) (n : Nat) : (Builtin.zeroCells z n).toList.length = n * z.size := by rw [Array.length_toList, size_zeroCells]
theorem rows_cur {Φ : Fr} {W : World} {E : Env} {s : Store} (hs : SR Φ W E s) {d : D} {rows : List (List V)} (h : rowsOf s d = some rows) : ∀ n k tot off len b tot' cs, d = .osl n k tot off len → E.own n = some (.sl b k tot' cs) → tot < tot' → False := by
 intro n k tot off len b tot' cs hd ho ht
 subst hd
 simp only [rowsOf] at h
 split at h
 · rename_i k' rs f he
   split at h
   · rename_i hc
     obtain ⟨i, hi, hr⟩ := hs.ent n _ he
     cases hr with
     | sl b' k'' cs' rs f vs t hb hl hk hn hcell =>
       rw [ho] at hi
       simp only [Option.some.injEq, Own.sl.injEq] at hi
       omega
   · cases h
 · cases h
theorem appendD_sound {P : Program} {Φ : Fr} {W : World} {E : Env} {s s' : Store} (hs : SR Φ W E s) {t ty e : TypeId} {i : TypeInfo} {z : Value} (ht : P.underlying t = some (.slice e)) (hi : P.info? e = some i) (hz : i.zero = some z)
    (hzs : z.cells.size = i.size) (hsz : 0 < i.size) {dst : Option Tmp} {x y d : D} {v u : Value} {new : List (List V)} (hx : RD W E x v) (hy : RD W E y u) (hnew : rowsOf s y = some new)
    (hk : ∀ row ∈ new, row.length = i.size) (h1 : ∀ row ∈ new, row.all V.one = true) (h : appendD s dst i.size i.bytes x new = some (d, s')) :
    ∃ w W' E', (Builtin.append_ #[t, t] ty #[v, u]).run P W = .ok w W' ∧ Ext W E W' E' ∧ SR Φ W' E' s' ∧ RD W' E' d w := by
 obtain ⟨ub, uc, rfl, hu⟩ := rowsOf_sound hs hy hnew hk
 unfold appendD at h
 split at h
 ·
   simp only [Option.map_eq_some_iff, Prod.mk.injEq] at h
   obtain ⟨old, hold, rfl, rfl⟩ := h
   have : ∃ base n cap, v = .slice base n cap ∧ n ≤ cap := by
     have hcur := rows_cur hs hold
     cases x with
     | v y =>
       have hx' : y = .sl old := by cases y <;> simp_all [rowsOf]
       subst hx'
       cases hx with
       | v _ _ h => cases h with
         | slE a cap => exact ⟨a, 0, cap, rfl, Nat.zero_le _⟩
         | sl _ b o k' cap hb hk' hc vs hv h => exact ⟨_, _, cap, rfl, hc⟩
     | nil => cases hx; exact ⟨none, 0, 0, rfl, Nat.le_refl _⟩
     | osl m k' tot off len =>
       cases hx with
       | osl _ _ _ _ _ b cs cap h ho hcap hlc => exact ⟨_, _, cap, rfl, hlc⟩
       | oslOld _ _ _ _ _ b tot' cs' a l c h ht => exact (hcur _ _ _ _ _ _ _ _ rfl h ht).elim
     | _ => simp only [rowsOf, reduceCtorEq] at hold
   obtain ⟨base, n, cap, rfl, hle⟩ := this
   exact ⟨_, W, E, run_append_none ht hi hle, Ext.refl W E, hs, hx⟩
 · rename_i r0 rest
   rcases hu with h0 | ⟨b, o, news, rfl, hnl, hnc, hnr⟩
   · cases h0
   have hnews : ∀ (j : Nat) (w : Value), news[j]? = some w → W.cell? ((⟨b, o, none⟩ : Addr).add j) = some w := fun j w hj => by rw [add_plain]; exact hnc j w hj
   have hone := rows_one hnl hk h1 hnr
   split at h
   ·
     split at h
     · rename_i hb
       obtain ⟨hb1, hb2⟩ := hb
       simp only [Option.map_eq_some_iff, Prod.mk.injEq] at h
       obtain ⟨⟨n, s1⟩, hown, rfl, rfl⟩ := h
       obtain ⟨hn, rfl⟩ := ownNew_some hown
       cases hx
       have hb3 : (r0 :: rest).length * i.bytes ≤ 281474976710656 := by
         have : (r0 :: rest).length * i.bytes ≤ mostRows * mostRows := Nat.mul_le_mul hb1 hb2
         unfold mostRows at this; omega
       have hrun := run_append_nil (P := P) W t ty e i z ht hi hz ⟨b, o, none⟩ (r0 :: rest).length uc news hnl hnews (by simp) (by unfold mostRows at hb1; omega) hb3
       have hcap := grownCap_ge W (r0 :: rest).length 0 e
       have hsd : SR Φ W.drew E s := hs.same_heap rfl rfl rfl rfl
       have hxd : Ext W E W.drew E := Ext.same_heap rfl
       have hgl : (news ++ (Builtin.zeroCells z.cells (grownCap W (r0 :: rest).length 0 e - (r0 :: rest).length)).toList).length = grownCap W (r0 :: rest).length 0 e * i.size := by
         rw [List.length_append, len_zeroCells, hzs, hnl, ← Nat.add_mul]; congr 1; omega
       obtain ⟨E', he1, he2, he3⟩ := new_sl hsd hn (vs := news ++ (Builtin.zeroCells z.cells (grownCap W (r0 :: rest).length 0 e - (r0 :: rest).length)).toList) (rows := r0 :: rest) (k := i.size) (cap := grownCap W (r0 :: rest).length 0 e) e
         hk (by simp) (by rw [hgl]; exact Nat.le_refl _) hcap (by
           have := concat_cells (W := W.drew) (ok := E.ok) (old := []) (new := r0 :: rest) (k := i.size) (olds := []) (news := news) (rest := (Builtin.zeroCells z.cells (grownCap W (r0 :: rest).length 0 e - (r0 :: rest).length)).toList)
             (by simp) hnl (by simp) hk (by simp) (fun i j row x u hr hx hu => (hnr i j row x u hr hx hu).mono hxd.ok)
           simpa using this)
       have hw : (news ++ (Builtin.zeroCells z.cells (grownCap W (r0 :: rest).length 0 e - (r0 :: rest).length)).toList).toArray = news.toArray ++ Builtin.zeroCells z.cells (grownCap W (r0 :: rest).length 0 e - (r0 :: rest).length) := by simp
       rw [hw] at he1 he2 he3
       exact ⟨_, _, E', hrun, hxd.trans he1, he2, he3⟩
     · cases h
   ·
     rename_i n k tot len
     split at h
     · rename_i k' rows hent
       split at h
       · rename_i hc
         obtain ⟨rfl, rfl, hrows, rfl, hm, hby⟩ := hc
         cases h
         obtain ⟨j, hj, hr⟩ := hs.ent n _ hent
         cases hr with
         | sl bb _ cs _ f vs t' hbb hl hk' hn hcell =>
           cases hx with
           | oslOld _ _ _ _ _ b' tot' cs' a l c h ht => rw [h] at hj; cases hj; omega
           | osl _ _ _ _ _ b' cs' cap hown ho hcap hlc =>
             have hown' := hown
             rw [hown] at hj
             simp only [Option.some.injEq, Own.sl.injEq] at hj
             obtain ⟨rfl, _, htot, rfl⟩ := hj
             subst htot
             have hlen2 : (rows ++ (r0 :: rest)).length = rows.length + (r0 :: rest).length := List.length_append
             have hka : ∀ row ∈ rows ++ (r0 :: rest), row.length = i.size := by
               intro row hr
               rcases List.mem_append.1 hr with hr | hr
               · exact hk' row hr
               · exact hk row hr
             rw [Nat.zero_mul]
             by_cases hroom : rows.length + (r0 :: rest).length ≤ cap
             ·
               have hfit : rows.length * i.size + news.length ≤ vs.length := by
                 rw [hnl, ← Nat.add_mul]
                 have : (rows.length + (r0 :: rest).length) * i.size ≤ cap * i.size := Nat.mul_le_mul_right _ hroom
                 simp only [Nat.zero_add] at hcap
                 omega
               have hrun := run_append_in (P := P) (W := W) (ty := ty) ht hi hbb (a := ⟨b, o, none⟩) (m := (r0 :: rest).length) (c := uc) hnl hnews hone hroom hfit
               obtain ⟨E', he1, he2, he3⟩ := grow_in hs hent hown' (vs := splice vs (rows.length * i.size) news) (rows := rows ++ (r0 :: rest)) (cap := cap) t' (by simp) hka (by rw [splice_length _ _ _ hfit]; exact hl) (by simpa using hcap) (by rw [hlen2]; exact hroom) (by
                 have := concat_cells (W := W) (ok := E.ok) (old := rows) (new := r0 :: rest) (k := i.size) (olds := vs.take (rows.length * i.size)) (news := news) (rest := vs.drop (rows.length * i.size + news.length))
                   (by simp; omega) hnl hk' hk (fun q j row x u hr hx hu => by
                     rw [List.getElem?_take] at hu
                     split at hu
                     · exact hcell q j row x u hr hx hu
                     · cases hu) hnr
                 exact this)
               rw [hlen2] at he3
               exact ⟨_, _, E', hrun, he1, he2, he3⟩
             ·
               have hb3 : (rows.length + (r0 :: rest).length) * i.bytes ≤ 140737488355328 := by
                 have : (rows.length + (r0 :: rest).length) * i.bytes ≤ mostRows * mostRows := Nat.mul_le_mul hm hby
                 unfold mostRows at this; omega
               have hol : (vs.take (rows.length * i.size)).length = rows.length * i.size := by simp; omega
               have hrun := run_append_grow (P := P) W t ty e i z ht hi hz ⟨b', 0, none⟩ rows.length cap (vs.take (rows.length * i.size)) hol
                 (fun j w hj => by
                   rw [add_plain, Nat.zero_add, cell_of_heap hbb]
                   rw [List.getElem?_take] at hj
                   split at hj
                   · exact hj
                   · cases hj) ⟨b, o, none⟩ (r0 :: rest).length uc news hnl hnews (by omega) (by unfold mostRows at hm; omega) (growslice_fits (by omega) hb3)
               have hcap' := grownCap_ge W (rows.length + (r0 :: rest).length) cap e
               have hsd : SR Φ W.drew E s := hs.same_heap rfl rfl rfl rfl
               have hxd : Ext W E W.drew E := Ext.same_heap rfl
               generalize hg : grownCap W (rows.length + (r0 :: rest).length) cap e = gc at *
               have hgl : (vs.take (rows.length * i.size) ++ news ++ (Builtin.zeroCells z.cells (gc - (rows.length + (r0 :: rest).length))).toList).length = gc * i.size := by
                 rw [List.length_append, List.length_append, len_zeroCells, hzs, hnl, hol, ← Nat.add_mul, ← Nat.add_mul]; congr 1; omega
               obtain ⟨E', he1, he2, he3⟩ := grow_sl hsd hent hown' (vs := vs.take (rows.length * i.size) ++ news ++ (Builtin.zeroCells z.cells (gc - (rows.length + (r0 :: rest).length))).toList) (rows := rows ++ (r0 :: rest)) (cap := gc) e (by simp) hka
                 (by rw [hgl]; exact Nat.le_refl _) (by rw [hlen2]; exact hcap') (by
                 exact concat_cells (W := W.drew) (ok := E.ok) (old := rows) (new := r0 :: rest) (k := i.size) hol hnl hk' hk (fun q j row x u hr hx hu => by
                     rw [List.getElem?_take] at hu
                     split at hu
                     · exact (hcell q j row x u hr hx hu).mono hxd.ok
                     · cases hu) (fun q j row x u hr hx hu => (hnr q j row x u hr hx hu).mono hxd.ok))
               have hw : (vs.take (rows.length * i.size) ++ news ++ (Builtin.zeroCells z.cells (gc - (rows.length + (r0 :: rest).length))).toList).toArray = (vs.take (rows.length * i.size)).toArray ++ news.toArray ++ Builtin.zeroCells z.cells (gc - (rows.length + (r0 :: rest).length)) := by simp
               rw [hw] at he1 he2 he3
               rw [hlen2] at he3
               exact ⟨_, _, E', hrun, hxd.trans he1, he2, he3⟩
       · cases h
     · cases h
   · cases h
end Go.Proofs.YtamjajacnfmgeaaGreat
namespace Go.Proofs.YtamjajacnfmgeaaGreat
open Go Go.RowKit
theorem opt_operands {W : World} {E : Env} {r : Operand → Option D} {ρ : Operand → Value} (hr : ∀ x d, r x = some d → RD W E d (ρ x)) {xs : List Operand} {ds : List D} (h : optList r xs = some ds) :
    (xs.map ρ).length = ds.length ∧ ∀ (i : Nat) (d : D) (v : Value), ds[i]? = some d → (xs.map ρ)[i]? = some v → RD W E d v := by
 obtain ⟨h1, h2⟩ := optList_some h
 refine ⟨by simp [h1], fun i d v hd hv => ?_⟩
 simp only [List.getElem?_map, Option.map_eq_some_iff] at hv
 obtain ⟨x, hx, rfl⟩ := hv
 exact hr x d (h2 i x d hx hd)
theorem opt_parts {W : World} {E : Env} {r : Operand → Option D} {ρ : Operand → Value} (hr : ∀ x d, r x = some d → RD W E d (ρ x)) {ps : List (Nat × Operand)} {qs : List (Nat × D)}
    (h : optList (fun (p : Nat × Operand) => (r p.2).map fun d => (p.1, d)) ps = some qs) :
    ∃ vs : List (Nat × Value), (ps.map fun (i, x) => (i, ρ x)) = vs ∧ vs.length = qs.length ∧ ∀ (k : Nat) (q : Nat × D) (p : Nat × Value), qs[k]? = some q → vs[k]? = some p → q.1 = p.1 ∧ RD W E q.2 p.2 := by
 obtain ⟨h1, h2⟩ := optList_some h
 refine ⟨_, rfl, by simp [h1], fun k q p hq hp => ?_⟩
 simp only [List.getElem?_map, Option.map_eq_some_iff] at hp
 obtain ⟨⟨i, x⟩, hx, rfl⟩ := hp
 have := h2 k (i, x) q hx hq
 simp only [Option.map_eq_some_iff] at this
 obtain ⟨d, hd, rfl⟩ := this
 exact ⟨rfl, hr x d hd⟩
theorem foldl_splice (off : Nat) (v : Value) (cs : List Value) (h : off + v.cells.toList.length ≤ cs.length) :
    v.cells.zipIdx.foldl (fun cs (c, j) => cs.setIfInBounds (off + j) c) cs.toArray = (splice cs off v.cells.toList).toArray := by
 obtain ⟨h1, h2⟩ := Great.foldl_set off v.cells.toList 0 cs.toArray
 rw [← Array.foldl_toList, Array.toList_zipIdx]
 apply Array.ext_getElem?
 intro k
 rw [h2 k]
 simp only [Nat.add_zero, List.getElem?_toArray, List.size_toArray]
 rw [splice_get _ _ _ h]
 by_cases hk : off ≤ k ∧ k < off + v.cells.toList.length
 · rw [if_pos (by omega), if_pos hk]
 · rw [if_neg (by omega), if_neg hk]
theorem fillD_sound {W : World} {E : Env} {place : Nat → Option (Nat × Nat)} : ∀ {qs : List (Nat × D)} {vs : List (Nat × Value)} {ds ds' : List D} {cs : List Value}, vs.length = qs.length →
    (∀ (k : Nat) (q : Nat × D) (p : Nat × Value), qs[k]? = some q → vs[k]? = some p → q.1 = p.1 ∧ RD W E q.2 p.2) → cs.length = ds.length →
    (∀ (k : Nat) (d : D) (v : Value), ds[k]? = some d → cs[k]? = some v → RD W E d v) → fillD place ds qs = some ds' →
    ∃ cs' : List Value, Instr.fill place cs.toArray vs = some cs'.toArray ∧ cs'.length = ds'.length ∧ ∀ (k : Nat) (d : D) (v : Value), ds'[k]? = some d → cs'[k]? = some v → RD W E d v
  | [], vs, ds, ds', cs, hl, hp, hcl, hc, h => by
    have : vs = [] := List.eq_nil_of_length_eq_zero (by simpa using hl)
    subst this
    simp only [fillD, Option.some.injEq] at h; subst h
    exact ⟨cs, rfl, hcl, hc⟩
  | (i, d) :: qs, vs, ds, ds', cs, hl, hp, hcl, hc, h => by
    cases vs with
    | nil => simp at hl
    | cons p vs =>
      obtain ⟨i', v⟩ := p
      obtain ⟨hi, hd⟩ := hp 0 (i, d) (i', v) rfl rfl
      simp only at hi hd
      subst hi
      simp only [fillD] at h
      split at h
      · cases h
      · rename_i off size hpl
        split at h
        · rename_i hcond
          obtain ⟨h1, h2, h3⟩ := hcond
          obtain ⟨hl1, hcc⟩ := hd.cells h3
          have hle : off + v.cells.toList.length ≤ cs.length := by omega
          obtain ⟨cs', hf, hl', hc'⟩ := fillD_sound (W := W) (E := E) (place := place) (qs := qs) (vs := vs) (ds := splice ds off d.cells) (ds' := ds') (cs := splice cs off v.cells.toList)
            (by simpa using hl) (fun k q p hq hp' => hp (k + 1) q p hq hp') (by rw [splice_length _ _ _ hle, splice_length _ _ _ (by omega)]; exact hcl)
            (fun k e u he hu => by
              rw [splice_get _ _ _ (by omega)] at he
              rw [splice_get _ _ _ hle, hl1] at hu
              split at he
              · rename_i hr
                rw [if_pos hr] at hu
                exact hcc _ e u he hu
              · rename_i hr
                rw [if_neg hr] at hu
                exact hc k e u he hu) h
          refine ⟨cs', ?_, hl', hc'⟩
          have hsz : v.cells.size = size := by rw [← Array.length_toList]; omega
          simp only [Instr.fill, hpl]
          rw [if_neg (by simp only [List.size_toArray, hsz]; simp; omega), foldl_splice off v cs hle]
          exact hf
        · cases h
theorem run_mapM_list {α β : Type} {P : Program} {W : World} {f : α → Sem β} {g : α → β} : ∀ (l : List α), (∀ a ∈ l, (f a).run P W = .ok (g a) W) → (l.mapM f).run P W = .ok (l.map g) W
  | [], _ => rfl
  | a :: l, h => by
    simp only [List.mapM_cons, Sem.run_bind, h a (List.mem_cons_self ..), Result.andThen_ok, run_mapM_list l (fun b hb => h b (List.mem_cons_of_mem _ hb)), Sem.run_pure, List.map_cons]
theorem run_mapM_array {α β : Type} {P : Program} {W : World} {f : α → Sem β} {g : α → β} (l : Array α) (h : ∀ a ∈ l.toList, (f a).run P W = .ok (g a) W) : (l.mapM f).run P W = .ok (l.map g) W := by
 rw [Array.mapM_eq_mapM_toList]
 simp only [Sem.run_map, run_mapM_list l.toList h, Result.andThen_ok]
 congr 1
 apply Array.ext'
 simp
theorem RD_zero {P : Program} {W : World} {E : Env} (z : Value) : z.cells.toList.length = (z.cells.toList.map constV).length ∧
    ∀ (k : Nat) (d : D) (v : Value), (z.cells.toList.map constV)[k]? = some d → z.cells.toList[k]? = some v → RD W E d v := by
 refine ⟨by simp, fun k d v hd hv => ?_⟩
 simp only [List.getElem?_map, hv, Option.map_some, Option.some.injEq] at hd
 subst hd
 exact RD_constV W E v
theorem build_st {P : Program} {W : World} {E : Env} {t : TypeId} {i : TypeInfo} {fs : Array Field} {gs : List (Nat × Nat × Bool)} {z : Value} (hi : P.info? t = some i) (hu : P.underlying t = some (.struct fs)) (hz : i.zero = some z)
    (hg : TdOk P (.struct fs) (.st gs)) {qs : List (Nat × D)} {vs : Array (Nat × Value)} {ds : List D} (hl : vs.toList.length = qs.length)
    (hp : ∀ (k : Nat) (q : Nat × D) (p : Nat × Value), qs[k]? = some q → vs.toList[k]? = some p → q.1 = p.1 ∧ RD W E q.2 p.2)
    (h : fillD (fun i => (gs[i]?).map fun f => (f.1, f.2.1)) (z.cells.toList.map constV) qs = some ds) : ∃ v, (Instr.build t vs).run P W = .ok v W ∧ RD W E (.ag ds) v := by
 obtain ⟨h1, h2⟩ := RD_zero (P := P) (W := W) (E := E) z
 obtain ⟨cs', hf, hl', hc'⟩ := fillD_sound (cs := z.cells.toList) hl hp h1 h2 h
 obtain ⟨hg1, hg2⟩ := hg
 have hplace : ∀ j : Nat, ((fs.map fun (f : Field) => (f.offset, P.cellsOf f.type))[j]?) = (gs[j]?).map fun f => (f.1, f.2.1) := by
   intro j
   rw [Array.getElem?_map]
   cases hf : fs[j]? with
   | none =>
     have : fs.size ≤ j := Array.getElem?_eq_none_iff.1 hf
     rw [List.getElem?_eq_none (by omega)]; rfl
   | some f =>
     have hj : j < fs.size := (Array.getElem?_eq_some_iff.1 hf).1
     have hgj : gs[j]? = some (gs[j]'(by omega)) := List.getElem?_eq_getElem (by omega)
     obtain ⟨i', u', hi', hu', _, he⟩ := hg2 j f _ hf hgj
     rw [hgj, he]
     simp [Program.cellsOf, hi']
 have hfield : ∀ f ∈ fs.toList, (do pure (f.offset, ← sizeOf f.type) : Sem (Nat × Nat)).run P W = .ok (f.offset, P.cellsOf f.type) W := by
   intro f hf
   obtain ⟨j, hj⟩ := List.getElem?_of_mem hf
   have hj' : fs[j]? = some f := by simpa using hj
   have hlt : j < fs.size := (Array.getElem?_eq_some_iff.1 hj').1
   obtain ⟨i', u', hi', hu', _, he⟩ := hg2 j f _ hj' (List.getElem?_eq_getElem (by omega))
   simp [sizeOf, run_typeInfo W hi', Program.cellsOf, hi']
 refine ⟨.agg cs'.toArray, ?_, .ag ds cs' hl' hc'⟩
 have hf' : Instr.fill (fun j => (fs.map fun (f : Field) => (f.offset, P.cellsOf f.type))[j]?) z.cells vs.toList = some cs'.toArray := by
   rw [show (fun j => (fs.map fun (f : Field) => (f.offset, P.cellsOf f.type))[j]?) = fun i => (gs[i]?).map fun f => (f.1, f.2.1) from funext hplace]
   simpa using hf
 simp only [Instr.build, Sem.run_bind, run_zeroValue W hi hz, run_underlying W hu, Result.andThen_ok, run_mapM_array fs hfield, hf', Sem.run_pure]
theorem build_ar {P : Program} {W : World} {E : Env} {t : TypeId} {i : TypeInfo} {n e es : Nat} {ea : Bool} {z : Value} (hi : P.info? t = some i) (hu : P.underlying t = some (.array n e)) (hz : i.zero = some z)
    (hg : TdOk P (.array n e) (.ar n es ea)) {qs : List (Nat × D)} {vs : Array (Nat × Value)} {ds : List D} (hl : vs.toList.length = qs.length)
    (hp : ∀ (k : Nat) (q : Nat × D) (p : Nat × Value), qs[k]? = some q → vs.toList[k]? = some p → q.1 = p.1 ∧ RD W E q.2 p.2)
    (h : fillD (fun i => some (i * es, es)) (z.cells.toList.map constV) qs = some ds) : ∃ v, (Instr.build t vs).run P W = .ok v W ∧ RD W E (.ag ds) v := by
 obtain ⟨h1, h2⟩ := RD_zero (P := P) (W := W) (E := E) z
 obtain ⟨cs', hf, hl', hc'⟩ := fillD_sound (cs := z.cells.toList) hl hp h1 h2 h
 obtain ⟨_, i', u', hi', hu', he, _⟩ := hg
 subst he
 refine ⟨.agg cs'.toArray, ?_, .ag ds cs' hl' hc'⟩
 have hf' : Instr.fill (fun j => some (j * i'.size, i'.size)) z.cells vs.toList = some cs'.toArray := by simpa using hf
 simp only [Instr.build, Sem.run_bind, run_zeroValue W hi hz, run_underlying W hu, Result.andThen_ok, run_sizeOf W hi', hf', Sem.run_pure]
theorem litRows_sound {Φ : Fr} {W : World} {E : Env} {s : Store} (hs : SR Φ W E s) (ns : List Nat) {es : Nat} : ∀ {qs : List (Nat × D)} {vs : List (Nat × Value)} {i : Nat} {rows : List (List V)}, vs.length = qs.length →
    (∀ (k : Nat) (q : Nat × D) (p : Nat × Value), qs[k]? = some q → vs[k]? = some p → q.1 = p.1 ∧ RD W E q.2 p.2) → (∀ q ∈ qs, ∀ m ∈ pubN s pubD q.2, m ∈ ns) → litRows s es i qs = some rows →
    rows.length = qs.length ∧ (∀ row ∈ rows, row.length = es) ∧ vs = ((vs.map (·.2)).zipIdx i).map (fun x => (x.2, x.1)) ∧
    ∀ (k : Nat) (row : List V) (v : Value), rows[k]? = some row → (vs.map (·.2))[k]? = some v → v.cells.size = es ∧ ∀ (j : Nat) (x : V) (u : Value), row[j]? = some x → v.cells[j]? = some u → RV W (envFrz Φ W E s ns).ok x u
  | [], vs, i, rows, hl, hp, hn, h => by
    have : vs = [] := List.eq_nil_of_length_eq_zero (by simpa using hl)
    subst this
    simp only [litRows, Option.some.injEq] at h; subst h
    exact ⟨rfl, by simp, rfl, fun k row v hr => by simp at hr⟩
  | (j, d) :: qs, vs, i, rows, hl, hp, hn, h => by
    cases vs with
    | nil => simp at hl
    | cons p vs =>
      obtain ⟨j', v⟩ := p
      obtain ⟨hj, hd⟩ := hp 0 (j, d) (j', v) rfl rfl
      simp only at hj hd
      subst hj
      simp only [litRows] at h
      split at h
      · rename_i hij
        subst hij
        split at h
        · rename_i x hx
          split at h
          · rename_i hc
            obtain ⟨hc1, hc2⟩ := hc
            simp only [Option.map_eq_some_iff] at h
            obtain ⟨rs, hrs, rfl⟩ := h
            have hv := pub_sound hs ns pubD d v x hd hx (hn (i, d) (List.mem_cons_self ..))
            obtain ⟨hcl, hcc⟩ := hv.cells
            obtain ⟨g1, g2, g3, g4⟩ := litRows_sound hs ns (qs := qs) (vs := vs) (i := i + 1) (rows := rs) (by simpa using hl) (fun k q p hq hp' => hp (k + 1) q p hq hp') (fun q hq => hn q (List.mem_cons_of_mem _ hq)) hrs
            refine ⟨by simp [g1], ?_, ?_, ?_⟩
            · intro row hr
              rcases List.mem_cons.1 hr with rfl | hr
              · exact hc1
              · exact g2 row hr
            · simp only [List.map_cons, List.zipIdx_cons]
              rw [← g3]
            · intro k row u hr hu
              cases k with
              | zero =>
                simp only [List.map_cons, List.getElem?_cons_zero, Option.some.injEq] at hr hu
                subst hr; subst hu
                exact ⟨by rw [← Array.length_toList]; omega, fun q y w hy hw => hcc q y w hy (by simpa using hw)⟩
              | succ k =>
                simp only [List.map_cons, List.getElem?_cons_succ] at hr hu
                exact g4 k row u hr hu
          · cases h
        · cases h
      · cases h
theorem buildSlice_sound {P : Program} {Φ : Fr} {W : World} {E : Env} {s : Store} (hs : SR Φ W E s) {t e : TypeId} {i : TypeInfo} {z : Value} (ht : P.underlying t = some (.slice e)) (hi : P.info? e = some i) (hz : i.zero = some z)
    (hsz : 0 < i.size) (hzs : z.cells.size = i.size) {len : Nat} {qs : List (Nat × D)} {vs : Array (Nat × Value)} {rows : List (List V)} (hl : vs.toList.length = qs.length)
    (hp : ∀ (k : Nat) (q : Nat × D) (p : Nat × Value), qs[k]? = some q → vs.toList[k]? = some p → q.1 = p.1 ∧ RD W E q.2 p.2) (hlen : qs.length = len) (h0 : 0 < len) (hsm : len * i.size ≤ 2 ^ 24)
    (hr : litRows s i.size 0 qs = some rows) {dst : Option Tmp} {n : Nat} {s' : Store} (hn : ownNew (frz s (qs.flatMap fun p => pubN s pubD p.2)) dst (.sl i.size rows) = some (n, s')) :
    ∃ w W' E', (Instr.buildSlice t len vs).run P W = .ok w W' ∧ Ext W E W' E' ∧ SR Φ W' E' s' ∧ RD W' E' (.osl n i.size len 0 len) w := by
 obtain ⟨hn0, rfl⟩ := ownNew_some hn
 obtain ⟨g1, g2, g3, g4⟩ := litRows_sound hs (qs.flatMap fun p => pubN s pubD p.2) hl hp (fun q hq m hm => List.mem_flatMap.2 ⟨q, hq, hm⟩) hr
 have hvl : (vs.toList.map (·.2)).length = len := by simp only [List.length_map]; omega
 have hrl : rows.length = len := by omega
 have hcells : ∀ v ∈ vs.toList.map (·.2), v.cells.size = i.size := by
   intro v hv
   obtain ⟨k, hk⟩ := List.getElem?_of_mem hv
   obtain ⟨row, hrow⟩ := get_of_len (l := vs.toList.map (·.2)) (m := rows) (by omega) hk
   exact (g4 k row v hrow hk).1
 have hmk : ((Array.range (len * i.size)).map (z.cells[· % z.cells.size]!)).size = len * i.size := by simp
 obtain ⟨r, hf, hrsz, hget⟩ := Great.fill_dense hsz (vs.toList.map (·.2)) 0 ((Array.range (len * i.size)).map (z.cells[· % z.cells.size]!)) hcells (by rw [hmk, Nat.zero_add, hvl]; exact Nat.le_refl _)
 rw [← g3] at hf
 have hrun := run_buildSlice (P := P) W t e len vs r i z ht hi hz (by omega) (by have := Nat.mul_pos h0 hsz; omega) hf
 have hsf := hs.frz_sr (qs.flatMap fun p => pubN s pubD p.2)
 have hxf := hs.frz_ext (qs.flatMap fun p => pubN s pubD p.2)
 obtain ⟨E', he1, he2, he3⟩ := new_sl hsf hn0 (vs := r.toList) (rows := rows) (k := i.size) (cap := len) e g2 (by omega) (by rw [Array.length_toList, hrsz, hmk]; exact Nat.le_refl _) (by omega) (by
   intro q j row x v hq hx hv
   have hj : j < i.size := by
     have := (List.getElem?_eq_some_iff.1 hx).1
     rw [g2 row (List.mem_of_getElem? hq)] at this; exact this
   have hqlt : q < rows.length := (List.getElem?_eq_some_iff.1 hq).1
   have e1 : (q * i.size + j) / i.size = q := by rw [Nat.mul_comm, Nat.mul_add_div (by omega), Nat.div_eq_of_lt hj]; omega
   have e2 : (q * i.size + j) % i.size = j := by rw [Nat.mul_comm, Nat.mul_add_mod, Nat.mod_eq_of_lt hj]
   have hlt : q * i.size + j < (0 + (vs.toList.map (·.2)).length) * i.size := by
     rw [Nat.zero_add, hvl]
     have : (q + 1) * i.size ≤ len * i.size := Nat.mul_le_mul_right _ (by omega)
     rw [Nat.succ_mul] at this; omega
   have hv' : r[q * i.size + j]? = some v := by simpa using hv
   rw [hget, if_pos ⟨by omega, hlt⟩, e1, e2, Nat.sub_zero] at hv'
   simp only [Option.bind_eq_some_iff] at hv'
   obtain ⟨w, hw, hwv⟩ := hv'
   exact (g4 q row w hq hw).2 j x v hx hwv)
 have hrr : r.toList.toArray = r := by simp
 rw [hrr] at he1 he2 he3
 rw [hrl] at he3
 exact ⟨_, _, E', hrun, hxf.trans he1, he2, he3⟩
theorem makeSlice_sound {P : Program} {Φ : Fr} {W : World} {E : Env} {s : Store} (hs : SR Φ W E s) {t e : TypeId} {i : TypeInfo} {z : Value} (ht : P.underlying t = some (.slice e)) (hi : P.info? e = some i) (hz : i.zero = some z)
    (hsz : 0 < i.size) (hzs : z.cells.size = i.size) {n : Int} (h0 : 0 < n) (hn1 : n.toNat ≤ mostRows) (hb : i.bytes ≤ mostRows) {xs : List V} (hx : pub s pubD (.ag (z.cells.toList.map constV)) = some (.ag xs))
    {dst : Option Tmp} {m : Nat} {s' : Store} (hn : ownNew s dst (.sl i.size (List.replicate n.toNat xs)) = some (m, s')) :
    ∃ w W' E', (Instr.makeSlice t (.int .i64 n) (.int .i64 n)).run P W = .ok w W' ∧ Ext W E W' E' ∧ SR Φ W' E' s' ∧ RD W' E' (.osl m i.size n.toNat 0 n.toNat) w := by
 obtain ⟨hn0, rfl⟩ := ownNew_some hn
 have hbytes : (i.bytes : Int) * n ≤ 281474976710656 := by
   have h1 : i.bytes * n.toNat ≤ mostRows * mostRows := Nat.mul_le_mul hb hn1
   have h2 : ((i.bytes * n.toNat : Nat) : Int) = (i.bytes : Int) * n := by rw [Int.natCast_mul, Int.toNat_of_nonneg (by omega)]
   unfold mostRows at h1
   omega
 have hrun := run_make (P := P) W t e i z ht hi hz .i64 .i64 n n (by omega) (Int.le_refl _) hbytes (by unfold mostRows at hn1; omega)
 have hpx : RV W E.ok (.ag xs) (.agg z.cells.toList.toArray) := by
   have hd : RD W E (.ag (z.cells.toList.map constV)) (.agg z.cells.toList.toArray) := .ag _ _ (by simp) (RD_zero (P := P) z).2
   have hno : pubN s pubD (.ag (z.cells.toList.map constV)) = [] := by
     simp only [pubN, pubD]
     rw [List.flatMap_eq_nil_iff]
     intro d hd
     obtain ⟨v, _, rfl⟩ := List.mem_map.1 hd
     unfold constV
     split <;> rfl
   have := pub_sound hs [] pubD _ _ _ hd hx (by rw [hno]; simp)
   have hfr : frz s [] = s := by funext m; simp [frz]
   have : RV W (envFrz Φ W E s []).ok (.ag xs) (.agg z.cells.toList.toArray) := this
   refine this.mono fun b hb => ⟨(hs.okd b).2 ?_, rfl⟩
   simp only [envFrz, hfr] at hb
   exact hb
 have hxl : xs.length = i.size := by
   cases hpx with
   | ag _ vs hl _ => rw [← hl]; simpa using hzs
 obtain ⟨E', he1, he2, he3⟩ := new_sl hs hn0 (vs := (madeCells z.cells (n.toNat * i.size)).toList) (rows := List.replicate n.toNat xs) (k := i.size) (cap := n.toNat) e
   (fun row hr => by rw [List.eq_of_mem_replicate hr]; exact hxl) (by simp; omega) (by rw [Array.length_toList, size_madeCells]; exact Nat.le_refl _) (by simp) (by
     intro q j row x v hq hx hv
     rw [List.getElem?_replicate] at hq
     split at hq
     · rename_i hqlt
       cases hq
       have hj : j < i.size := by have := (List.getElem?_eq_some_iff.1 hx).1; omega
       have e2 : (q * i.size + j) % i.size = j := by rw [Nat.mul_comm, Nat.mul_add_mod, Nat.mod_eq_of_lt hj]
       have hlt : q * i.size + j < n.toNat * i.size := by
         have : (q + 1) * i.size ≤ n.toNat * i.size := Nat.mul_le_mul_right _ (by omega)
         rw [Nat.succ_mul] at this; omega
       have hv' : v = z.cells[j]! := by
         have : (madeCells z.cells (n.toNat * i.size))[q * i.size + j]? = some v := by simpa using hv
         simp only [madeCells, Array.getElem?_map, hzs] at this
         rw [Array.getElem?_eq_getElem (by simpa using hlt)] at this
         simp [e2] at this
         rw [← this]
       cases hpx with
       | ag _ vs hl hcell =>
         refine hcell j x v hx ?_
         rw [hv']
         simp [getElem!_pos, hzs, hj]
     · cases hq)
 have hrr : (madeCells z.cells (n.toNat * i.size)).toList.toArray = madeCells z.cells (n.toNat * i.size) := by simp
 rw [hrr] at he1 he2 he3
 simp only [List.length_replicate] at he3
 exact ⟨_, _, E', hrun, he1, he2, he3⟩
end Go.Proofs.YtamjajacnfmgeaaGreat
