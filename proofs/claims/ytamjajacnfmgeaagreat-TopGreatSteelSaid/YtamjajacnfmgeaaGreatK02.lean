/-
  What the model answers to the abstract machine's questions: types, constants, own things as plain data, loads and stores. No condition.
  Own things as plain data; loads; stores; new blocks: the abstract machine's steps on memory are the model's. No condition.
-/
import Derived.Test.YtamjajacnfmgeaaGreatK01
set_option linter.all false
namespace Go.Proofs.YtamjajacnfmgeaaGreat
open Go Go.RowKit
theorem optList_some {α β : Type} {f : α → Option β} : ∀ {l : List α} {r : List β}, optList f l = some r → r.length = l.length ∧ ∀ (i : Nat) (a : α) (b : β), l[i]? = some a → r[i]? = some b → f a = some b
  | [], r, h => by
    simp only [optList, Option.some.injEq] at h; subst h
    exact ⟨rfl, fun i a b ha => by simp at ha⟩
  | a :: l, r, h => by
    simp only [optList] at h
    cases hf : f a with
    | none => simp [hf] at h
    | some b =>
      cases hr : optList f l with
      | none => simp [hf, hr] at h
      | some bs =>
        simp only [hf, hr, Option.some.injEq] at h
        subst h
        obtain ⟨h1, h2⟩ := optList_some hr
        refine ⟨by simp [h1], fun i a' b' ha hb => ?_⟩
        cases i with
        | zero => simp at ha hb; subst ha; subst hb; exact hf
        | succ i => simp at ha hb; exact h2 i a' b' ha hb
theorem get_of_len {α β : Type} {l : List α} {m : List β} (h : m.length = l.length) {i : Nat} {a : α} (ha : l[i]? = some a) : ∃ b, m[i]? = some b := by
 have hi : i < l.length := (List.getElem?_eq_some_iff.1 ha).1
 exact ⟨m[i]'(by omega), List.getElem?_eq_getElem (by omega)⟩
def IsSc : TypeDesc → Prop
  | .struct _ | .array _ _ | .slice _ | .map _ _ | .int _ | .string | .bool => False
  | _ => True
def TdOk (P : Program) : TypeDesc → TD → Prop
  | .struct fs, .st gs => gs.length = fs.size ∧ ∀ (j : Nat) (f : Field) (g : Nat × Nat × Bool), fs[j]? = some f → gs[j]? = some g →
      ∃ i u, P.info? f.type = some i ∧ P.underlying f.type = some u ∧ i.size ≠ 0 ∧ g = (f.offset, i.size, aggD u)
  | .array n e, .ar n' es ea => n = n' ∧ ∃ i u, P.info? e = some i ∧ P.underlying e = some u ∧ es = i.size ∧ ea = aggD u
  | .slice e, .sl es eb ez => ∃ i z, P.info? e = some i ∧ i.size = es ∧ i.bytes = eb ∧ i.zero = some z ∧ ez = z.cells.toList.map constV
  | .map k e, .mp st ez => (∃ i z, P.info? e = some i ∧ i.zero = some z ∧ constD z = ez) ∧ P.underlying k = some (if st then .string else .int .i64)
  | .int k, .int k' => k = k'
  | .string, .str => True
  | .bool, .bo => True
  | u, .sc => IsSc u
  | _, _ => False
theorem aggD_of {P : Program} {u : TypeDesc} {d : TD} (h : TdOk P u d) : aggD u = d.agg := by
 cases u <;> cases d <;> simp_all [TdOk, aggD, TD.agg, IsSc]
theorem infoOf_some {P : Program} {t : Nat} {td : TD} {size : Nat} {zero : List D} (h : infoOf P t = some (td, size, zero)) :
    ∃ i u z, P.info? t = some i ∧ P.underlying t = some u ∧ i.zero = some z ∧ size = i.size ∧ zero = z.cells.toList.map constV ∧ TdOk P u td := by
 unfold infoOf at h
 simp only [Option.bind_eq_bind, Option.bind_eq_some_iff, Option.pure_def, zeroCs] at h
 obtain ⟨i, hi, u, hu, zc, ⟨i', hi', z, hz, hzc⟩, d, hd, hti⟩ := h
 rw [hi] at hi'; cases hi'
 cases hzc; cases hti
 refine ⟨i, u, z, hi, hu, hz, rfl, rfl, ?_⟩
 have field : ∀ (fs : List Field) (gs : List (Nat × Nat × Bool)), (fs.mapM fun (f : Field) => do
       let j ← P.info? f.type
       let v ← P.underlying f.type
       if j.size = 0 then none else some (f.offset, j.size, aggD v)) = some gs → gs.length = fs.length ∧ ∀ (j : Nat) (f : Field) (g : Nat × Nat × Bool), fs[j]? = some f → gs[j]? = some g →
     ∃ i u, P.info? f.type = some i ∧ P.underlying f.type = some u ∧ i.size ≠ 0 ∧ g = (f.offset, i.size, aggD u) := by
   intro fs
   induction fs with
   | nil => intro gs h; simp at h; subst h; exact ⟨rfl, fun j f g hf => by simp at hf⟩
   | cons f fs ih =>
     intro gs h
     simp only [List.mapM_cons, Option.bind_eq_bind, Option.bind_eq_some_iff, Option.pure_def] at h
     obtain ⟨g, ⟨j, hj, v, hv, hg⟩, gs', hgs, hh⟩ := h
     cases hh
     obtain ⟨h1, h2⟩ := ih gs' hgs
     refine ⟨by simp [h1], fun k f' g' hf hg' => ?_⟩
     cases k with
     | zero =>
       simp at hf hg'; subst hf; subst hg'
       split at hg
       · cases hg
       · rename_i hne; cases hg; exact ⟨j, v, hj, hv, hne, rfl⟩
     | succ k => simp at hf hg'; exact h2 k f' g' hf hg'
 unfold tdOf at hd
 cases u with
 | struct fs =>
   simp only [Option.map_eq_some_iff] at hd
   obtain ⟨gs, hgs, rfl⟩ := hd
   obtain ⟨h1, h2⟩ := field fs.toList gs hgs
   exact ⟨by simpa using h1, fun j f g hf hg => h2 j f g (by simpa using hf) hg⟩
 | array n e =>
   simp only [Option.bind_eq_bind, Option.bind_eq_some_iff] at hd
   obtain ⟨j, hj, v, hv, hd⟩ := hd
   cases hd
   exact ⟨rfl, j, v, hj, hv, rfl, rfl⟩
 | slice e =>
   simp only [zeroCs, Option.pure_def, Option.bind_eq_bind, Option.bind_eq_some_iff] at hd
   obtain ⟨j, hj, ez, ⟨j', hj', z', hz', hez⟩, hd⟩ := hd
   rw [hj] at hj'; cases hj'
   cases hez
   cases hd
   exact ⟨j, z', hj, rfl, rfl, hz', rfl⟩
 | map k e =>
   simp only [Option.bind_eq_bind, Option.bind_eq_some_iff] at hd
   obtain ⟨v, hv, j', hj', z', hz', hd⟩ := hd
   split at hd
   · cases hd
     exact ⟨⟨j', z', hj', hz', rfl⟩, by simpa using hv⟩
   · cases hd
     exact ⟨⟨j', z', hj', hz', rfl⟩, by simpa using hv⟩
   · cases hd
 | int k => cases hd; rfl
 | string => cases hd; exact trivial
 | bool => cases hd; exact trivial
 | _ => cases hd; exact trivial
section
variable {P : Program} (W : World) {t : Nat} {i : TypeInfo} {u : TypeDesc}
theorem run_typeInfo (h : P.info? t = some i) : (typeInfo t).run P W = .ok i W := by simp [typeInfo, h]
theorem run_underlying (h : P.underlying t = some u) : (underlying t).run P W = .ok u W := by simp [underlying, h]
theorem run_sizeOf (h : P.info? t = some i) : (sizeOf t).run P W = .ok i.size W := by simp [sizeOf, run_typeInfo W h]
theorem run_isAgg (h : P.underlying t = some u) : (isAgg t).run P W = .ok (aggD u) W := by
 simp only [isAgg, Sem.run_bind, run_underlying W h, Result.andThen_ok]
 cases u <;> rfl
theorem run_zeroValue {z : Value} (h : P.info? t = some i) (hz : i.zero = some z) : (zeroValue t).run P W = .ok z W := by simp [zeroValue, run_typeInfo W h, hz]
end
theorem add_plain (b o n : Nat) : (⟨b, o, none⟩ : Addr).add n = ⟨b, o + n, none⟩ := by
 unfold Addr.add; split <;> simp_all
theorem run_loadVar_agg {P : Program} (W : World) {t : Nat} {i : TypeInfo} {u : TypeDesc} (hi : P.info? t = some i) (hu : P.underlying t = some u) (ha : aggD u = true) (b o : Nat) (vs : List Value)
    (hl : vs.length = i.size) (h : ∀ (j : Nat) (v : Value), vs[j]? = some v → W.cell? ⟨b, o + j, none⟩ = some v) : (loadVar t ⟨b, o, none⟩).run P W = .ok (.agg vs.toArray) W := by
 have := run_loadCells_list (P := P) W ⟨b, o, none⟩ vs (fun j v hv => by rw [add_plain]; exact h j v hv)
 simp [loadVar, run_isAgg W hu, ha, run_sizeOf W hi, ← hl, this]
theorem run_loadVar_one {P : Program} (W : World) {t : Nat} {u : TypeDesc} (hu : P.underlying t = some u) (ha : aggD u = false) (b o : Nat) (v : Value)
    (h : W.cell? ⟨b, o, none⟩ = some v) : (loadVar t ⟨b, o, none⟩).run P W = .ok v W := by
 simp [loadVar, run_isAgg W hu, ha, h]
theorem RD_constV (W : World) (E : Env) (v : Value) : RD W E (constV v) v := by
 unfold constV
 split
 · exact .v _ _ (.int _ _)
 · exact .v _ _ (.bool _)
 · exact .v _ _ (.str _)
 · exact .v _ _ .np
 · exact .nil
 · exact .any _
theorem RD_constD (W : World) (E : Env) (v : Value) : RD W E (constD v) v := by
 unfold constD
 split
 · rename_i cs
   have : Value.agg cs = .agg cs.toList.toArray := by simp
   rw [this]
   refine .ag _ _ (by simp) fun i x v hx hv => ?_
   simp only [List.getElem?_map, Option.map_eq_some_iff] at hx
   obtain ⟨w, hw, rfl⟩ := hx
   rw [hv] at hw; cases hw
   exact RD_constV W E _
 · rename_i cs
   split
   · rename_i he
     have : cs = #[] := by simpa using he
     subst this
     exact .v _ _ (.tp [] [] rfl (fun i x v hx => by simp at hx))
   · exact .any _
 · exact RD_constV W E _
theorem RD_ev {W : World} {E : Env} {r : Nat → Option D} {a : Act} (h : ∀ t d, r t = some d → RD W E d (a.tmps.getD t undef)) {x : Operand} {d : D} (hx : ev r x = some d) : RD W E d (a.eval x) := by
 cases x with
 | tmp t => exact h t d hx
 | const v => simp only [ev, Option.some.injEq] at hx; subst hx; exact RD_constD W E v
 | func f => simp only [ev, Option.some.injEq] at hx; subst hx; exact .fn f [] [] rfl (fun i x v hx => by simp at hx)
 | global g => cases hx
theorem RV.cells {W : World} {ok : Nat → Prop} {x : V} {v : Value} (h : RV W ok x v) :
    v.cells.toList.length = x.cells.length ∧ ∀ (i : Nat) (y : V) (u : Value), x.cells[i]? = some y → v.cells.toList[i]? = some u → RV W ok y u := by
 cases h with
 | ag cs vs hl h => exact ⟨by simpa [V.cells, Value.cells] using hl, fun i y u hy hu => h i y u (by simpa [V.cells] using hy) (by simpa [Value.cells] using hu)⟩
 | int k n => exact ⟨rfl, fun i y u hy hu => by cases i <;> simp [V.cells, Value.cells] at hy hu; subst hy; subst hu; exact .int k n⟩
 | bool b => exact ⟨rfl, fun i y u hy hu => by cases i <;> simp [V.cells, Value.cells] at hy hu; subst hy; subst hu; exact .bool b⟩
 | str b => exact ⟨rfl, fun i y u hy hu => by cases i <;> simp [V.cells, Value.cells] at hy hu; subst hy; subst hu; exact .str b⟩
 | np => exact ⟨rfl, fun i y u hy hu => by cases i <;> simp [V.cells, Value.cells] at hy hu; subst hy; subst hu; exact .np⟩
 | yl l => exact ⟨rfl, fun i y u hy hu => by cases i <;> simp [V.cells, Value.cells] at hy hu; subst hy; subst hu; exact .yl l⟩
 | tp cs vs hl h => exact ⟨rfl, fun i y u hy hu => by cases i <;> simp [V.cells, Value.cells] at hy hu; subst hy; subst hu; exact .tp cs vs hl h⟩
 | fn f cs vs hl h => exact ⟨rfl, fun i y u hy hu => by cases i <;> simp [V.cells, Value.cells] at hy hu; subst hy; subst hu; exact .fn f cs vs hl h⟩
 | slE a cap => exact ⟨rfl, fun i y u hy hu => by cases i <;> simp [V.cells, Value.cells] at hy hu; subst hy; subst hu; exact .slE a cap⟩
 | sl rows b o k cap hb hk hc vs hv h => exact ⟨rfl, fun i y u hy hu => by cases i <;> simp [V.cells, Value.cells] at hy hu; subst hy; subst hu; exact .sl rows b o k cap hb hk hc vs hv h⟩
 | cp cs b o off hb vs hv h => exact ⟨rfl, fun i y u hy hu => by cases i <;> simp [V.cells, Value.cells] at hy hu; subst hy; subst hu; exact .cp cs b o off hb vs hv h⟩
theorem V.cells_not_ag {x : V} (h : ∀ cs, x ≠ .ag cs) : x.cells = [x] := by cases x <;> simp_all [V.cells]
theorem D.cells_v (x : V) : (D.v x).cells = x.cells.map .v := by cases x <;> rfl
theorem RD.cells {W : World} {E : Env} {x : D} {v : Value} (h : RD W E x v) (h1 : x.cells.all D.one = true) :
    v.cells.toList.length = x.cells.length ∧ ∀ (i : Nat) (y : D) (u : Value), x.cells[i]? = some y → v.cells.toList[i]? = some u → RD W E y u := by
 have one : ∀ (x : D) (v : Value), x.cells = [x] → v.cells = #[v] → RD W E x v → v.cells.toList.length = x.cells.length ∧ ∀ (i : Nat) (y : D) (u : Value), x.cells[i]? = some y → v.cells.toList[i]? = some u → RD W E y u := by
   intro x v hx hv h
   rw [hx, hv]
   exact ⟨rfl, fun i y u hy hu => by cases i <;> simp at hy hu; subst hy; subst hu; exact h⟩
 cases h with
 | any v => simp [D.cells, D.one] at h1
 | v x v h =>
   obtain ⟨h2, h3⟩ := h.cells
   rw [D.cells_v]
   refine ⟨by simpa using h2, fun i y u hy hu => ?_⟩
   simp only [List.getElem?_map, Option.map_eq_some_iff] at hy
   obtain ⟨y', hy', rfl⟩ := hy
   exact .v _ _ (h3 i y' u hy' hu)
 | nil => exact one _ _ rfl rfl .nil
 | ptr n off b h => exact one _ _ rfl rfl (.ptr n off b h)
 | osl n k tot off len b cs cap h ho hc hlc => exact one _ _ rfl rfl (.osl n k tot off len b cs cap h ho hc hlc)
 | oslOld n k tot off len b tot' cs a l c h ht => exact one _ _ rfl rfl (.oslOld n k tot off len b tot' cs a l c h ht)
 | optr n tot off b k cs h => exact one _ _ rfl rfl (.optr n tot off b k cs h)
 | optrOld n tot off b k tot' cs a h ht => exact one _ _ rfl rfl (.optrOld n tot off b k tot' cs a h ht)
 | omap n b h => exact one _ _ rfl rfl (.omap n b h)
 | ag cs vs hl h => exact ⟨by simpa [D.cells, Value.cells] using hl, fun i y u hy hu => h i y u (by simpa [D.cells] using hy) (by simpa [Value.cells] using hu)⟩
 | tp cs vs hl h => simp [D.cells, D.one] at h1
 | fn f cs vs hl h => exact one _ _ rfl rfl (.fn f cs vs hl h)
end Go.Proofs.YtamjajacnfmgeaaGreat
namespace Go.Proofs.YtamjajacnfmgeaaGreat
open Go Go.RowKit
theorem cell_of_heap {W : World} {b : Nat} {vs : List Value} {t : TypeId} {f : Nat × Nat} (h : W.heap[b]? = some (.cells vs.toArray t f)) (o : Nat) : W.cell? ⟨b, o, none⟩ = vs[o]? := by
 simp [World.cell?, h]
theorem frozen_of_heap {W : World} {b : Nat} {c : Array Value} {t : TypeId} (h : W.heap[b]? = some (.cells c t (0, 0))) (o : Nat) : W.frozen? ⟨b, o, none⟩ = false := by
 simp [World.frozen?, h]
theorem SR.ok_of_frz {Φ : Fr} {W : World} {E : Env} {s : Store} (hs : SR Φ W E s) {ns : List Nat} {m : Nat} {e : Ent} {i : Own} (hm : m ∈ ns) (he : s m = some e) (hi : E.own m = some i) :
    (envFrz Φ W E s ns).ok i.block := by
 obtain ⟨i', hi', hr⟩ := hs.ent m e he
 rw [hi] at hi'; cases hi'
 refine ⟨hr.block_lt, fun hF => ?_, fun n e' i' hn hf hi' => ?_⟩
 · obtain ⟨h1, h2⟩ := hs.fb _ hF
   rcases hs.base m e i he hi with h | h
   · omega
   · exact h2 h
 · obtain ⟨e0, h0, _, h⟩ := frz_some hn
   obtain ⟨hf0, hns⟩ := h hf
   exact hs.inj n m e0 e i' i (fun h => hns (h ▸ hm)) h0 he hf0 hi' hi
theorem getD_of_get {l : List Value} {i : Nat} {v : Value} (h : l[i]? = some v) : l.getD i undef = v := by simp [List.getD, h]
theorem pub_sound {Φ : Fr} {W : World} {E : Env} {s : Store} (hs : SR Φ W E s) (ns : List Nat) : ∀ (n : Nat) (d : D) (v : Value) (x : V), RD W E d v → pub s n d = some x → (∀ m ∈ pubN s n d, m ∈ ns) →
    RV W (envFrz Φ W E s ns).ok x v := by
 have hext := hs.frz_ext ns
 intro n
 induction n with
 | zero =>
   intro d v x hd hx _
   cases d <;> simp only [pub, Option.some.injEq, reduceCtorEq] at hx
   · subst hx
     cases hd with
     | v x v h => exact h.mono hext.ok
   · subst hx
     cases hd
     exact .slE none 0
 | succ n ih =>
   intro d v x hd hx hns
   have list : ∀ (cs : List D) (vs : List Value) (xs : List V), vs.length = cs.length → (∀ (i : Nat) (x : D) (v : Value), cs[i]? = some x → vs[i]? = some v → RD W E x v) → optList (pub s n) cs = some xs → (∀ m ∈ cs.flatMap (pubN s n), m ∈ ns) →
       vs.length = xs.length ∧ ∀ (i : Nat) (x : V) (v : Value), xs[i]? = some x → vs[i]? = some v → RV W (envFrz Φ W E s ns).ok x v := by
     intro cs vs xs hl h hp hm
     obtain ⟨h1, h2⟩ := optList_some hp
     refine ⟨by omega, fun i x v hx hv => ?_⟩
     obtain ⟨c, hc⟩ := get_of_len (l := vs) (m := cs) hl.symm hv
     exact ih c v x (h i c v hc hv) (h2 i c x hc hx) fun m hmm => hm m (List.mem_flatMap.2 ⟨c, List.mem_of_getElem? hc, hmm⟩)
   cases d with
   | v y =>
     simp only [pub, Option.some.injEq] at hx; subst hx
     cases hd with
     | v x v h => exact h.mono hext.ok
   | nil =>
     simp only [pub, Option.some.injEq] at hx; subst hx
     cases hd
     exact .slE none 0
   | ptr m off =>
     simp only [pub] at hx
     split at hx
     · rename_i cs f he
       simp only [Option.map_eq_some_iff] at hx
       obtain ⟨xs, hxs, rfl⟩ := hx
       have hmm : m ∈ ns := hns m (by simp [pubN])
       cases hd with
       | ptr n' off b h =>
         obtain ⟨i, hi, hr⟩ := hs.ent m _ he
         rw [h] at hi; cases hi
         have hok := hs.ok_of_frz hmm he h
         cases hr with
         | cells b ds f vs t hb hl hc =>
           obtain ⟨h1, h2⟩ := list cs vs xs hl hc hxs (fun k hk => hns k (by simp only [pubN, he]; exact List.mem_cons_of_mem _ hk))
           have := RV.cp (W := W) (ok := (envFrz Φ W E s ns).ok) xs b 0 off hok (fun j => vs.getD j undef)
             (fun j x hj => by
               obtain ⟨u, hu⟩ := get_of_len h1 hj
               rw [Nat.zero_add, cell_of_heap hb, hu, getD_of_get hu])
             (fun j x hj => by
               obtain ⟨u, hu⟩ := get_of_len h1 hj
               rw [getD_of_get hu]; exact h2 j x u hj hu)
           rwa [Nat.zero_add] at this
     · cases hx
   | osl m k tot off len =>
     simp only [pub] at hx
     split at hx
     · rename_i k' rows f he
       split at hx
       · rename_i hk
         obtain ⟨rfl, hk⟩ := hk
         cases hx
         have hmm : m ∈ ns := hns m (by simp [pubN])
         obtain ⟨i, hi, hr⟩ := hs.ent m _ he
         cases hr with
         | sl b k cs rows f vs t hb hl hk' hn hc =>
           cases hd with
           | oslOld n' k'' tot off len b' tot' cs' a l c h ht => rw [h] at hi; cases hi; omega
           | osl n' k'' tot off len b' cs' cap h ho hcap hlc =>
             rw [h] at hi
             simp only [Option.some.injEq, Own.sl.injEq] at hi
             obtain ⟨rfl, _, _, rfl⟩ := hi
             have hok := hs.ok_of_frz hmm he h
             have hlen : ((rows.drop off).take len).length = len := by simp; omega
             have hrow : ∀ (i : Nat) (row : List V), ((rows.drop off).take len)[i]? = some row → rows[off + i]? = some row := by
               intro i row hr
               rw [List.getElem?_take] at hr
               split at hr
               · rwa [List.getElem?_drop] at hr
               · cases hr
             have hcell : ∀ (i j : Nat) (row : List V) (x : V), ((rows.drop off).take len)[i]? = some row → row[j]? = some x → ∃ u, vs[off * k' + (i * k' + j)]? = some u ∧ RV W E.ok x u := by
               intro i j row x hr hx
               have hr' := hrow i row hr
               have hlt : off + i < rows.length := (List.getElem?_eq_some_iff.1 hr').1
               have hj : j < k' := by
                 have := (List.getElem?_eq_some_iff.1 hx).1
                 rw [hk' row (List.mem_of_getElem? hr')] at this; exact this
               have hidx : off * k' + (i * k' + j) = (off + i) * k' + j := by rw [Nat.add_mul]; omega
               have hb1 : (off + i) * k' + j < vs.length := by
                 have : (off + i + 1) * k' ≤ rows.length * k' := Nat.mul_le_mul_right k' (by omega)
                 rw [Nat.succ_mul] at this
                 omega
               refine ⟨vs[(off + i) * k' + j], by rw [hidx]; exact List.getElem?_eq_getElem hb1, ?_⟩
               exact hc (off + i) j row x _ hr' hx (List.getElem?_eq_getElem hb1)
             have := RV.sl (W := W) (ok := (envFrz Φ W E s ns).ok) ((rows.drop off).take len) b' (off * k') k' cap hok
               (fun row hr => hk' row (List.mem_of_mem_drop (List.mem_of_mem_take hr))) (by omega) (fun i j => vs.getD (off * k' + (i * k' + j)) undef)
               (fun i j row x hr hx => by
                 obtain ⟨u, hu, _⟩ := hcell i j row x hr hx
                 rw [cell_of_heap hb, hu, getD_of_get hu])
               (fun i j row x hr hx => by
                 obtain ⟨u, hu, h⟩ := hcell i j row x hr hx
                 rw [getD_of_get hu]; exact h.mono hext.ok)
             rwa [hlen] at this
       · cases hx
     · cases hx
   | optr n' tot off => simp only [pub, reduceCtorEq] at hx
   | omap n' => simp only [pub, reduceCtorEq] at hx
   | any => simp only [pub, reduceCtorEq] at hx
   | ag cs =>
     simp only [pub, Option.map_eq_some_iff] at hx
     obtain ⟨xs, hxs, rfl⟩ := hx
     cases hd with
     | ag cs vs hl h =>
       obtain ⟨h1, h2⟩ := list cs vs xs hl h hxs (fun m hm => hns m (by simpa [pubN] using hm))
       exact .ag xs vs h1 h2
   | tp cs =>
     simp only [pub, Option.map_eq_some_iff] at hx
     obtain ⟨xs, hxs, rfl⟩ := hx
     cases hd with
     | tp cs vs hl h =>
       obtain ⟨h1, h2⟩ := list cs vs xs hl h hxs (fun m hm => hns m (by simpa [pubN] using hm))
       exact .tp xs vs h1 h2
   | fn g cs =>
     simp only [pub, Option.map_eq_some_iff] at hx
     obtain ⟨xs, hxs, rfl⟩ := hx
     cases hd with
     | fn g cs vs hl h =>
       obtain ⟨h1, h2⟩ := list cs vs xs hl h hxs (fun m hm => hns m (by simpa [pubN] using hm))
       exact .fn g xs vs h1 h2
theorem partV_load {P : Program} {W : World} {ok : Nat → Prop} {t : Nat} {i : TypeInfo} {u : TypeDesc} (hi : P.info? t = some i) (hu : P.underlying t = some u) {b o : Nat} {cs : List V} {vs : Nat → Value} {off : Nat} {x : V}
    (hv : ∀ (j : Nat) (x : V), cs[j]? = some x → W.cell? ⟨b, o + j, none⟩ = some (vs j)) (h : ∀ (j : Nat) (x : V), cs[j]? = some x → RV W ok x (vs j)) (hx : partV cs off i.size (aggD u) = some x) :
    ∃ v, (loadVar t ⟨b, o + off, none⟩).run P W = .ok v W ∧ RV W ok x v := by
 unfold partV at hx
 by_cases ha : aggD u = true
 · rw [if_pos ha] at hx
   split at hx
   · rename_i hle
     cases hx
     have hlen : ((cs.drop off).take i.size).length = i.size := by simp; omega
     have hget : ∀ (j : Nat) (x : V), ((cs.drop off).take i.size)[j]? = some x → cs[off + j]? = some x := by
       intro j x hj
       rw [List.getElem?_take] at hj
       split at hj
       · rwa [List.getElem?_drop] at hj
       · cases hj
     refine ⟨_, run_loadVar_agg W hi hu ha b (o + off) ((List.range i.size).map fun j => vs (off + j)) (by simp) ?_, .ag _ _ (by simpa using hlen.symm) ?_⟩
     · intro j v hj
       simp only [List.getElem?_map, Option.map_eq_some_iff] at hj
       obtain ⟨j', hj', rfl⟩ := hj
       have hj2 : j < i.size ∧ j' = j := by
         have := List.getElem?_eq_some_iff.1 hj'
         obtain ⟨h1, h2⟩ := this
         simp at h1 h2
         exact ⟨h1, h2.symm⟩
       obtain ⟨hlt, rfl⟩ := hj2
       rw [Nat.add_assoc]
       exact hv (off + j') cs[off + j'] (List.getElem?_eq_getElem (by omega))
     · intro j x v hx hv'
       have hx' := hget j x hx
       simp only [List.getElem?_map, Option.map_eq_some_iff] at hv'
       obtain ⟨j', hj', rfl⟩ := hv'
       have : j' = j := by
         obtain ⟨h1, h2⟩ := List.getElem?_eq_some_iff.1 hj'
         simpa using h2.symm
       subst this
       exact h (off + j') x hx'
   · cases hx
 · have ha : aggD u = false := by simpa using ha
   rw [ha] at hx
   simp only [Bool.false_eq_true, if_false] at hx
   exact ⟨_, run_loadVar_one W hu ha b (o + off) (vs off) (hv off x hx), h off x hx⟩
theorem partD_load {P : Program} {W : World} {E : Env} {t : Nat} {i : TypeInfo} {u : TypeDesc} (hi : P.info? t = some i) (hu : P.underlying t = some u) {b : Nat} {cs : List D} {vs : List Value} {off : Nat} {x : D}
    (hv : ∀ (j : Nat), W.cell? ⟨b, j, none⟩ = vs[j]?) (hl : vs.length = cs.length) (h : ∀ (j : Nat) (x : D) (v : Value), cs[j]? = some x → vs[j]? = some v → RD W E x v) (hx : partD cs off i.size (aggD u) = some x) :
    ∃ v, (loadVar t ⟨b, off, none⟩).run P W = .ok v W ∧ RD W E x v := by
 unfold partD at hx
 by_cases ha : aggD u = true
 · rw [if_pos ha] at hx
   split at hx
   · rename_i hle
     cases hx
     refine ⟨_, run_loadVar_agg W hi hu ha b off ((vs.drop off).take i.size) (by simp; omega) ?_, .ag _ _ (by simp; omega) ?_⟩
     · intro j v hj
       rw [List.getElem?_take] at hj
       split at hj
       · rw [List.getElem?_drop] at hj; rw [hv, hj]
       · cases hj
     · intro j x v hx hv'
       rw [List.getElem?_take] at hx hv'
       split at hx
       · rename_i hlt
         rw [if_pos hlt] at hv'
         rw [List.getElem?_drop] at hx hv'
         exact h (off + j) x v hx hv'
       · cases hx
   · cases hx
 · have ha : aggD u = false := by simpa using ha
   rw [ha] at hx
   simp only [Bool.false_eq_true, if_false] at hx
   obtain ⟨v, hv'⟩ := get_of_len hl hx
   exact ⟨v, run_loadVar_one W hu ha b off v (by rw [hv, hv']), h off x v hx hv'⟩
theorem loadD_sound {P : Program} {Φ : Fr} {W : World} {E : Env} {s : Store} (hs : SR Φ W E s) {t : Nat} {i : TypeInfo} {u : TypeDesc} (hi : P.info? t = some i) (hu : P.underlying t = some u) {d x : D} {v : Value}
    (hd : RD W E d v) (hx : loadD s i.size (aggD u) d = some x) : ∃ w, (Instr.loadAt t v).run P W = .ok w W ∧ RD W E x w := by
 cases d with
 | v y =>
   cases y <;> simp only [loadD, reduceCtorEq] at hx
   rename_i cs off
   simp only [Option.map_eq_some_iff] at hx
   obtain ⟨x', hx', rfl⟩ := hx
   cases hd with
   | v _ _ h => cases h with
     | cp cs b o off hb vs hv h =>
       obtain ⟨w, hw, hr⟩ := partV_load hi hu hv h hx'
       exact ⟨w, by simp [Instr.loadAt, Instr.sureAddr, hw], .v _ _ hr⟩
 | ptr n off =>
   simp only [loadD] at hx
   split at hx
   · rename_i cs f he
     cases hd with
     | ptr n' off b h =>
       obtain ⟨j, hj, hr⟩ := hs.ent n _ he
       rw [h] at hj; cases hj
       cases hr with
       | cells b ds f vs t' hb hl hc =>
         obtain ⟨w, hw, hr⟩ := partD_load hi hu (cell_of_heap hb) hl hc hx
         exact ⟨w, by simp [Instr.loadAt, Instr.sureAddr, hw], hr⟩
   · cases hx
 | optr n tot off =>
   simp only [loadD] at hx
   split at hx
   · rename_i k rows f he
     split at hx
     · rename_i hc
       obtain ⟨h1, hk0, h2⟩ := hc
       split at hx
       · rename_i row hrow
         simp only [Option.map_eq_some_iff] at hx
         obtain ⟨x', hx', rfl⟩ := hx
         obtain ⟨j, hj, hr⟩ := hs.ent n _ he
         cases hr with
         | sl b k cs rows f vs t' hb hl hk hn hcell =>
           cases hd with
           | optrOld n' tot off b' k' tot' cs' a h ht => rw [h] at hj; cases hj; omega
           | optr n' tot off b' k' cs' h =>
             rw [h] at hj
             simp only [Option.some.injEq, Own.sl.injEq] at hj
             obtain ⟨rfl, rfl, _, rfl⟩ := hj
             have hmod := Nat.div_add_mod off k'
             have hlt : off / k' < rows.length := (List.getElem?_eq_some_iff.1 hrow).1
             have hbnd : (off / k') * k' + k' ≤ vs.length := by
               have : (off / k' + 1) * k' ≤ rows.length * k' := Nat.mul_le_mul_right k' (by omega)
               rw [Nat.succ_mul] at this; omega
             have hrl := hk row (List.mem_of_getElem? hrow)
             obtain ⟨w, hw, hr⟩ := partV_load (P := P) (W := W) (ok := E.ok) hi hu (b := b') (o := off / k' * k') (cs := row) (vs := fun j => vs.getD (off / k' * k' + j) undef) (off := off % k') (x := x')
               (fun j y hy => by
                 have hj := (List.getElem?_eq_some_iff.1 hy).1
                 rw [cell_of_heap hb, List.getElem?_eq_getElem (by omega)]
                 simp [List.getD, List.getElem?_eq_getElem (show off / k' * k' + j < vs.length by omega)])
               (fun j y hy => by
                 have hj := (List.getElem?_eq_some_iff.1 hy).1
                 have := hcell (off / k') j row y (vs[off / k' * k' + j]'(by omega)) hrow hy (List.getElem?_eq_getElem (by omega))
                 simpa [List.getD, List.getElem?_eq_getElem (show off / k' * k' + j < vs.length by omega)] using this)
               hx'
             have hoff : off / k' * k' + off % k' = off := by rw [Nat.mul_comm]; exact hmod
             rw [hoff] at hw
             exact ⟨w, by simp [Instr.loadAt, Instr.sureAddr, hw], .v _ _ hr⟩
       · cases hx
     · cases hx
   · cases hx
 | _ => simp only [loadD, reduceCtorEq] at hx
end Go.Proofs.YtamjajacnfmgeaaGreat
