/-
  Arithmetic, comparisons, maps, lengths: the abstract machine's answers are the model's. No condition.
  Maps: the abstract machine's steps are the model's. No condition.
  Each operation that is no call: what the abstract machine reckons is what the model does. Condition: the table of types is the program's.
-/
import Derived.Test.YtamjajacnfmgeaaGreatK04
import Derived.Laws.StructEq
import Derived.Laws.Cover3
set_option linter.all false
namespace Go.Proofs.YtamjajacnfmgeaaGreat
open Go Go.RowKit
theorem intsOf_sound {W : World} {E : Env} : ∀ {ds : List D} {xs : List Int} {vs : List Value}, intsOf ds = some xs → vs.length = ds.length → (∀ (i : Nat) (d : D) (v : Value), ds[i]? = some d → vs[i]? = some v → RD W E d v) → vs = xs.map (Value.int .i64)
  | [], xs, vs, h, hl, _ => by
    simp only [intsOf, Option.some.injEq] at h; subst h
    exact List.eq_nil_of_length_eq_zero (by simpa using hl)
  | d :: ds, xs, vs, h, hl, hr => by
    cases d with
    | v x =>
      cases x with
      | int k n =>
        cases k <;> simp only [intsOf, reduceCtorEq] at h
        simp only [Option.map_eq_some_iff] at h
        obtain ⟨xs', hxs, rfl⟩ := h
        cases vs with
        | nil => simp at hl
        | cons v vs =>
          have h0 := hr 0 _ v rfl rfl
          have ih := intsOf_sound (W := W) (E := E) hxs (vs := vs) (by simpa using hl) (fun i d u hd hu => hr (i + 1) d u hd hu)
          cases h0 with
          | v _ _ h0 => cases h0; rw [ih]; rfl
      | _ => simp only [intsOf, reduceCtorEq] at h
    | _ => simp only [intsOf, reduceCtorEq] at h
theorem run_eqFields {P : Program} (W : World) (d : Nat) (xs ys : List Int) : ∀ (fs : List Field) (j : Nat), (∀ (k : Nat) (f : Field), fs[k]? = some f → f.name ≠ "_" ∧ f.offset = j + k ∧ P.underlying f.type = some (.int .i64)) → xs.length = j + fs.length → ys.length = j + fs.length →
    (Op.eqFields (d + 1) (xs.map (Value.int .i64)).toArray (ys.map (Value.int .i64)).toArray fs).run P W = .ok (xs.drop j == ys.drop j) W
  | [], j, _, hx, hy => by
    rw [List.drop_of_length_le (by simp at hx; omega), List.drop_of_length_le (by simp at hy; omega)]
    rfl
  | f :: fs, j, hf, hx, hy => by
    simp only [List.length_cons] at hx hy
    obtain ⟨hn, ho, hu⟩ := hf 0 f rfl
    simp only [Nat.add_zero] at ho
    have hxj : j < xs.length := by omega
    have hyj : j < ys.length := by omega
    have px : (part f.type (xs.map (Value.int .i64)).toArray f.offset).run P W = .ok (.int .i64 xs[j]) W := by
      simp [part, run_isAgg W hu, aggD, ho, hxj]
    have py : (part f.type (ys.map (Value.int .i64)).toArray f.offset).run P W = .ok (.int .i64 ys[j]) W := by
      simp [part, run_isAgg W hu, aggD, ho, hyj]
    have ih := run_eqFields (P := P) W d xs ys fs (j + 1) (fun k g hg => by
      obtain ⟨a, b, c⟩ := hf (k + 1) g hg
      exact ⟨a, by omega, c⟩) (by omega) (by omega)
    simp only [Op.eqFields, hn, ne_eq, not_false_eq_true, if_true, Sem.run_bind, px, py, Result.andThen_ok, run_equalIn_int W d f.type .i64 .i64 _ _ hu]
    rw [List.drop_eq_getElem_cons hxj, List.drop_eq_getElem_cons hyj, List.cons_beq_cons]
    by_cases hxy : (xs[j] == ys[j]) = true
    · rw [hxy]; simp only [Bool.not_true, Bool.false_eq_true, if_false, Bool.true_and]; exact ih
    · have hxy : (xs[j] == ys[j]) = false := by simpa using hxy
      rw [hxy]; simp only [Bool.not_false, if_true, Bool.false_and, Sem.run_pure]
theorem eqOkB_spec {P : Program} {t : TypeId} {n : Nat} (h : eqOkB P t n = true) : P.eqGuardType P.depth t = false ∧ P.stoodInHeld t = false ∧ P.underlying t = some (.struct (P.fieldsOf t)) ∧ (P.fieldsOf t).toList.length = n ∧
    ∀ (k : Nat) (f : Field), (P.fieldsOf t).toList[k]? = some f → f.name ≠ "_" ∧ f.offset = 0 + k ∧ P.underlying f.type = some (.int .i64) := by
 unfold eqOkB at h
 simp only [Bool.and_eq_true, Bool.not_eq_true'] at h
 obtain ⟨⟨h1, h2⟩, h3⟩ := h
 refine ⟨h1, h2, ?_⟩
 split at h3
 · rename_i fs hu
   simp only [Bool.and_eq_true, beq_iff_eq] at h3
   obtain ⟨h3, h4⟩ := h3
   have hfo : P.fieldsOf t = fs := by simp [Program.fieldsOf, hu]
   rw [hfo]
   refine ⟨hu, by simpa using h3, fun k f hf => ?_⟩
   have hmem : (f, k) ∈ fs.toList.zipIdx := by
     rw [List.mem_iff_getElem?]
     exact ⟨k, by simp [hf]⟩
   have := List.all_eq_true.1 h4 _ hmem
   simp only [Bool.and_eq_true, bne_iff_ne, beq_iff_eq] at this
   obtain ⟨⟨a, b⟩, c⟩ := this
   refine ⟨a, by omega, ?_⟩
   split at c
   · assumption
   · cases c
 · cases h3
theorem struct_eq {P : Program} {W : World} {E : Env} {T : Nat → Option TI} (hT : TabOk P T) {op : BinOp} {t : Nat} {x y : D} {z : V} {xo yo : Operand} {v u : Value} (hx : RD W E x v) (hy : RD W E y u)
    (h : (match T t, intsOf x.cells, intsOf y.cells with
    | some ⟨.st _, size, _, true⟩, some xs, some ys =>
      if xs.length = size ∧ ys.length = size ∧ x.isAg = true ∧ y.isAg = true then match op with
        | .eql => some (V.bool (xs == ys))
        | .neq => some (V.bool !(xs == ys))
        | _ => none
      else none
    | _, _, _ => none) = some z) (hvx : ∃ cs, v = .agg cs) (hvy : ∃ cs, u = .agg cs) :
    ∃ w, (do eqGuard op t xo yo v u; binOp op t v u : Sem Value).run P W = .ok w W ∧ RV W E.ok z w := by
  split at h
  · rename_i fs size zero xs ys ht hxs hys
    split at h
    · rename_i hc
      obtain ⟨hc1, hc2, _, _⟩ := hc
      obtain ⟨_, hq⟩ := hT t _ ht
      obtain ⟨g1, g2, g3, g4, g5⟩ := eqOkB_spec (hq rfl)
      simp only at g4
      obtain ⟨cx, rfl⟩ := hvx
      obtain ⟨cy, rfl⟩ := hvy
      have all1 : ∀ {d : D} {l : List Int}, intsOf d.cells = some l → d.cells.all D.one = true := by
        intro d l hl
        generalize d.cells = cs at hl
        induction cs generalizing l with
        | nil => rfl
        | cons c cs ih =>
          cases c with
          | v x => cases x with
            | int k n =>
              cases k <;> simp only [intsOf, reduceCtorEq] at hl
              simp only [Option.map_eq_some_iff] at hl
              obtain ⟨l', hl', _⟩ := hl
              simp [D.one, V.one, ih hl']
            | _ => simp only [intsOf, reduceCtorEq] at hl
          | _ => simp only [intsOf, reduceCtorEq] at hl
      obtain ⟨lx, cxr⟩ := hx.cells (all1 hxs)
      obtain ⟨ly, cyr⟩ := hy.cells (all1 hys)
      have ex := intsOf_sound hxs lx cxr
      have ey := intsOf_sound hys ly cyr
      have ex' : cx = (xs.map (Value.int .i64)).toArray := by apply Array.ext'; simpa [Value.cells] using ex
      have ey' : cy = (ys.map (Value.int .i64)).toArray := by apply Array.ext'; simpa [Value.cells] using ey
      subst ex'; subst ey'
      have hf := run_eqFields (P := P) W 9998 xs ys (P.fieldsOf t).toList 0 g5 (by omega) (by omega)
      simp only [List.drop_zero] at hf
      have he := run_equalIn_agg (P := P) W 9999 t (xs.map (Value.int .i64)).toArray (ys.map (Value.int .i64)).toArray g3 g2
      split at h
      · cases h
        exact ⟨_, by simp only [Sem.run_bind, run_eqGuard_agg (P := P) W _ t xo yo _ _ g1, Result.andThen_ok, run_eql_struct, he, hf], .bool _⟩
      · cases h
        exact ⟨_, by simp only [Sem.run_bind, run_eqGuard_agg (P := P) W _ t xo yo _ _ g1, Result.andThen_ok, run_neq_struct, he, hf], .bool _⟩
      · cases h
    · cases h
  · cases h
theorem binEval_sound {P : Program} {W : World} {E : Env} {T : Nat → Option TI} (hT : TabOk P T) {op : BinOp} {t : Nat} {x y : D} {z : V} {xo yo : Operand} {v u : Value} (hx : RD W E x v) (hy : RD W E y u)
    (h : binEval T op t x y = some z) : ∃ w, (do eqGuard op t xo yo v u; binOp op t v u : Sem Value).run P W = .ok w W ∧ RV W E.ok z w := by
 unfold binEval at h
 split at h
 ·
   rename_i k a k' b
   split at h
   · rename_i hk
     subst hk
     cases hx with
     | v _ _ hx => cases hx with
       | int _ _ => cases hy with
         | v _ _ hy => cases hy with
           | int _ _ =>
             cases op <;> simp only [intOp, reduceCtorEq, Option.some.injEq] at h
             case quo =>
               split at h
               · cases h
               · rename_i hb; cases h; exact ⟨_, by simp [eqGuard, binOp, Op.intDiv, hb], .int _ _⟩
             case rem =>
               split at h
               · cases h
               · rename_i hb; cases h; exact ⟨_, by simp [eqGuard, binOp, Op.intDiv, hb], .int _ _⟩
             case add => subst h; exact ⟨_, by simp [eqGuard, binOp, Op.intArith], .int _ _⟩
             case sub => subst h; exact ⟨_, by simp [eqGuard, binOp, Op.intArith], .int _ _⟩
             case mul => subst h; exact ⟨_, by simp [eqGuard, binOp, Op.intArith], .int _ _⟩
             all_goals (subst h; exact ⟨_, by simp [eqGuard, binOp, Op.intCmp], .bool _⟩)
   · cases h
 ·
   rename_i a b
   cases hx with
   | v _ _ hx => cases hx with
     | str _ => cases hy with
       | v _ _ hy => cases hy with
         | str _ =>
           split at h
           · cases h; exact ⟨_, by simp [eqGuard, binOp, Op.stringOp], .bool _⟩
           · cases h; exact ⟨_, by simp [eqGuard, binOp, Op.stringOp], .bool _⟩
           · cases h
 ·
   rename_i a b
   cases hx with
   | v _ _ hx => cases hx with
     | bool _ => cases hy with
       | v _ _ hy => cases hy with
         | bool _ =>
           split at h
           · rename_i ht
             cases h
             obtain ⟨hi, _⟩ := hT t _ ht
             obtain ⟨i, u, z, _, hu, _, _, _, htd⟩ := infoOf_some hi
             have hub : u = .bool := by cases u <;> simp_all [TdOk, IsSc]
             subst hub
             exact ⟨_, by simp [eqGuard, binOp, run_equal_bool W t a b hu], .bool _⟩
           · rename_i ht
             cases h
             obtain ⟨hi, _⟩ := hT t _ ht
             obtain ⟨i, u, z, _, hu, _, _, _, htd⟩ := infoOf_some hi
             have hub : u = .bool := by cases u <;> simp_all [TdOk, IsSc]
             subst hub
             exact ⟨_, by simp [eqGuard, binOp, run_equal_bool W t a b hu], .bool _⟩
           · cases h
 ·
   have agg : ∀ {d : D} {v : Value}, RD W E d v → d.isAg = true → ∃ cs, v = .agg cs := by
     intro d v hd hl
     cases d with
     | v x =>
       cases x with
       | ag cs => cases hd with
         | v _ _ hd => cases hd; exact ⟨_, rfl⟩
       | _ => simp only [D.isAg, reduceCtorEq] at hl
     | ag cs => cases hd; exact ⟨_, rfl⟩
     | _ => simp only [D.isAg, reduceCtorEq] at hl
   have hh := h
   split at h
   · split at h
     · rename_i hc
       exact struct_eq hT hx hy hh (agg hx hc.2.2.1) (agg hy hc.2.2.2)
     · cases h
   · cases h
end Go.Proofs.YtamjajacnfmgeaaGreat
namespace Go.Proofs.YtamjajacnfmgeaaGreat
open Go Go.RowKit
def keyDesc (st : Bool) : TypeDesc := if st then .string else .int .i64
theorem keyEq_sound {W : World} {ok : Nat → Prop} {st : Bool} {k e : V} {kv ev : Value} {b : Bool} (hk : RV W ok k kv) (he : RV W ok e ev) (hst : keyOk st k = true) (h : keyEq k e = some b) :
    Instr.sameNow (keyDesc st) kv ev = some b ∧ (b = true → Instr.sameBits 10000 ev kv = true) := by
 cases k <;> simp only [keyEq, reduceCtorEq] at h
 · cases e <;> simp only [reduceCtorEq] at h
   split at h
   · rename_i hkk
     subst hkk
     cases h
     cases hk; cases he
     cases st
     · refine ⟨by simp [keyDesc, Instr.sameNow], fun hb => ?_⟩
       have := (by simpa using hb : _ = _)
       simp [Instr.sameBits, this]
     · simp [keyOk] at hst
   · cases h
 · cases e <;> simp only [reduceCtorEq] at h
   cases h
   cases hk; cases he
   cases st
   · simp [keyOk] at hst
   · refine ⟨by simp [keyDesc, Instr.sameNow], fun hb => ?_⟩
     rw [beq_toListBytes] at hb
     simp only [beq_iff_eq] at hb
     simp [Instr.sameBits, beq_toListBytes, hb]
theorem findE_sound {W : World} {ok : Nat → Prop} {st : Bool} {k : V} {kv : Value} (hk : RV W ok k kv) (hst : keyOk st k = true) : ∀ {es : List (V × V)} {ents : List MapEntry} {i : Nat} {r : Option (Nat × V)}, ents.length = es.length →
    (∀ (i : Nat) (x : V × V) (e : MapEntry), es[i]? = some x → ents[i]? = some e → RV W ok x.1 e.key ∧ RV W ok x.2 e.val) → findE k es i = some r →
    match r with
    | none => Instr.findNow (keyDesc st) kv ents i = some none
    | some (j, x) => ∃ (e : MapEntry) (y : V × V), Instr.findNow (keyDesc st) kv ents i = some (some (j, e.val)) ∧ i ≤ j ∧ ents[j - i]? = some e ∧ es[j - i]? = some y ∧ y.2 = x ∧ RV W ok x e.val ∧ Instr.sameBits 10000 e.key kv = true
  | [], ents, i, r, hl, _, h => by
    have : ents = [] := List.eq_nil_of_length_eq_zero (by simpa using hl)
    subst this
    simp only [findE, Option.some.injEq] at h; subst h
    rfl
  | y :: es, ents, i, r, hl, hr, h => by
    cases ents with
    | nil => simp at hl
    | cons e ents =>
      obtain ⟨h1, h2⟩ := hr 0 y e rfl rfl
      simp only [findE] at h
      split at h
      · rename_i hq
        obtain ⟨g1, g2⟩ := keyEq_sound hk h1 hst hq
        cases h
        simp only [Instr.findNow, g1]
        exact ⟨e, y, rfl, Nat.le_refl _, by simp, by simp, rfl, h2, g2 rfl⟩
      · rename_i hq
        obtain ⟨g1, g2⟩ := keyEq_sound hk h1 hst hq
        have ih := findE_sound hk hst (es := es) (ents := ents) (i := i + 1) (r := r) (by simpa using hl) (fun i x e hx he => hr (i + 1) x e hx he) h
        cases r with
        | none => simp only [Instr.findNow, g1]; exact ih
        | some jx =>
          obtain ⟨j, x⟩ := jx
          obtain ⟨e', y', a, b, c, d, f, g⟩ := ih
          refine ⟨e', y', by simp only [Instr.findNow, g1]; exact a, by omega, ?_, ?_, f, g⟩
          · have : j - i = (j - (i + 1)) + 1 := by omega
            rw [this, List.getElem?_cons_succ]; exact c
          · have : j - i = (j - (i + 1)) + 1 := by omega
            rw [this, List.getElem?_cons_succ]; exact d
      · cases h
theorem run_checkKey1 {P : Program} {W : World} {ok : Nat → Prop} {st emp : Bool} {t : TypeId} {k : V} {kv : Value} (n : Nat) (hk : RV W ok k kv) (hst : keyOk st k = true) (hu : P.underlying t = some (keyDesc st)) : (Instr.checkKey emp (n + 1) t kv).run P W = .ok () W := by
 unfold Instr.checkKey
 simp only [Sem.run_bind, run_underlying W hu, Result.andThen_ok]
 cases k with
 | int k n =>
   cases st
   · cases k <;> simp only [keyOk, Bool.false_eq_true] at hst
     cases hk; rfl
   · simp [keyOk] at hst
 | str b =>
   cases st
   · simp [keyOk] at hst
   · cases hk; rfl
 | _ => cases st <;> simp [keyOk] at hst
theorem run_checkKey {P : Program} {W : World} {ok : Nat → Prop} {st emp : Bool} {t : TypeId} {k : V} {kv : Value} (hk : RV W ok k kv) (hst : keyOk st k = true) (hu : P.underlying t = some (keyDesc st)) : (Instr.checkKey emp 10000 t kv).run P W = .ok () W :=
  run_checkKey1 9999 hk hst hu
theorem run_findKey {P : Program} {W : World} {st : Bool} {t : TypeId} {kv : Value} {es : List MapEntry} {r : Option (Nat × Value)} (hu : P.underlying t = some (keyDesc st)) (h : Instr.findNow (keyDesc st) kv es 0 = some r) : (Instr.findKey t kv es).run P W = .ok r W := by
 simp [Instr.findKey, run_underlying W hu, h]
theorem run_getMap {P : Program} {W : World} {b : Nat} {es : Array MapEntry} {c : Nat} (h : W.heap[b]? = some (.map es c)) : (getObj b).run P W = .ok (.map es c) W := by
 simp [getObj, Sem.run, h]
theorem run_setMap {P : Program} {W : World} {b : Nat} {es : Array MapEntry} {c : Nat} {o : Obj} (h : W.heap[b]? = some (.map es c)) : (setObj b o).run P W = .ok () (setBlk W b o) := by
 simp [setObj, Sem.run, h, setBlk]
theorem lookup_sound {P : Program} {Φ : Fr} {W : World} {E : Env} {s : Store} (hs : SR Φ W E s) {t kt et : TypeId} {st : Bool} {i : TypeInfo} {z : Value} (ht : P.underlying t = some (.map kt et)) (hku : P.underlying kt = some (keyDesc st))
    (hi : P.info? et = some i) (hz : i.zero = some z) {n : Nat} {v kv : Value} {k : V} {es : List (V × V)} {f : Bool} (hn : s n = some ⟨.mp es, f⟩) (hv : RD W E (.omap n) v) (hk : RV W E.ok k kv) (hst : keyOk st k = true) {ok : Bool} {d : D}
    (h : (match findE k es 0 with
          | some (some (_, x)) => some (if ok then D.tp [.v x, .v (.bool true)] else .v x)
          | some none => some (if ok then D.tp [constD z, .v (.bool false)] else constD z)
          | none => none) = some d) : ∃ w, (Instr.lookup t v kv ok).run P W = .ok w W ∧ RD W E d w := by
  cases hv with
  | omap _ b hb =>
    obtain ⟨j, hj, hr⟩ := hs.ent n _ hn
    rw [hb] at hj; cases hj
    cases hr with
    | mp b es f ents clock hbb hl hcell =>
      have hck := run_checkKey (P := P) (W := W) (emp := ents.isEmpty) hk hst hku
      have tup : ∀ (x : D) (u : Value) (c : Bool), RD W E x u → RD W E (.tp [x, .v (.bool c)]) (.tuple #[u, .bool c]) := by
        intro x u c hx
        refine .tp [x, .v (.bool c)] [u, .bool c] rfl fun i y w hy hw => ?_
        match i with
        | 0 => simp at hy hw; subst hy; subst hw; exact hx
        | 1 => simp at hy hw; subst hy; subst hw; exact .v _ _ (.bool c)
        | i + 2 => simp at hy
      split at h
      · rename_i q x hq
        obtain ⟨e, y, g1, _, _, _, _, g2, _⟩ := findE_sound hk hst hl hcell hq
        cases h
        have hf := run_findKey (P := P) (W := W) hku g1
        refine ⟨if ok then .tuple #[e.val, .bool true] else e.val, ?_, ?_⟩
        · simp [Instr.lookup, run_underlying W ht, run_getMap hbb, hck, hf]
        · cases ok
          · exact .v _ _ g2
          · exact tup _ _ _ (.v _ _ g2)
      · rename_i hq
        have g1 := findE_sound hk hst hl hcell hq
        cases h
        have hf := run_findKey (P := P) (W := W) hku g1
        refine ⟨if ok then .tuple #[z, .bool false] else z, ?_, ?_⟩
        · simp [Instr.lookup, run_underlying W ht, run_getMap hbb, hck, hf, run_zeroValue W hi hz]
        · cases ok
          · exact RD_constD W E z
          · exact tup _ _ _ (RD_constD W E z)
      · cases h
theorem mapUpdate_sound {P : Program} {Φ : Fr} {W : World} {E : Env} {s s' : Store} (hs : SR Φ W E s) {t kt et : TypeId} {st : Bool} (ht : P.underlying t = some (.map kt et)) (hku : P.underlying kt = some (keyDesc st))
    {n : Nat} {v kv xv : Value} {k x : V} {es : List (V × V)} (hn : s n = some ⟨.mp es, false⟩) (hv : RD W E (.omap n) v) (hk : RV W E.ok k kv) (hx : RV W E.ok x xv) (hst : keyOk st k = true)
    (h : (match findE k es 0 with
          | some (some (i, _)) => some (upd s n ⟨.mp (es.set i (k, x)), false⟩)
          | some none => some (upd s n ⟨.mp (es ++ [(k, x)]), false⟩)
          | none => none) = some s') : ∃ W' E', (Instr.mapUpdate t v kv xv).run P W = .ok () W' ∧ Ext W E W' E' ∧ SR Φ W' E' s' := by
  cases hv with
  | omap _ b hb =>
    obtain ⟨j, hj, hr⟩ := hs.ent n _ hn
    rw [hb] at hj; cases hj
    cases hr with
    | mp b es f ents clock hbb hl hcell =>
      have hck := run_checkKey (P := P) (W := W) (emp := false) hk hst hku
      have hlt : b < W.heap.size := (Array.getElem?_eq_some_iff.1 hbb).1
      split at h
      · rename_i q x0 hq
        obtain ⟨e, y, g1, _, g3, g4, _, _, g5⟩ := findE_sound hk hst hl hcell hq
        cases h
        have hf := run_findKey (P := P) (W := W) hku g1
        simp only [Nat.sub_zero] at g3 g4
        have hqlt : q < es.length := (List.getElem?_eq_some_iff.1 g4).1
        have hturn := turn_set hs hn hb (i' := .mp b) rfl rfl (.map (ents.toArray.modify q fun e => { e with key := kv, val := xv }) clock)
        have hext := hturn.ext (o := .mp (es.set q (k, x))) hs
        have hmod : ents.toArray.modify q (fun e => { e with key := kv, val := xv }) = (ents.modify q fun e => { e with key := kv, val := xv }).toArray := by
          apply Array.ext_getElem?
          intro i
          rw [Array.getElem?_modify]
          simp only [List.getElem?_toArray, List.getElem?_modify]
          by_cases hqi : q = i <;> simp [hqi]
        refine ⟨_, _, ?_, hext, hturn.sr hs (.mp b _ false (ents.modify q fun e => { e with key := kv, val := xv }) clock (by rw [← hmod]; exact setBlk_same W _ hlt) (by simp [hl]) ?_)⟩
        · have g3' : (ents.toArray[q]?).map (·.key) = some e.key := by simp [g3]
          simp [Instr.mapUpdate, run_underlying W ht, run_getMap hbb, hck, hf, Instr.keyThatStays, g3, g5, run_setMap hbb, Own.block]
        · intro i z e' hz he'
          rw [List.getElem?_set] at hz
          rw [List.getElem?_modify] at he'
          by_cases hqi : q = i
          · subst hqi
            rw [if_pos rfl, if_pos hqlt] at hz
            cases hz
            simp only [g3, if_true, Option.map_eq_map, Option.map_some, Option.some.injEq] at he'
            subst he'
            exact ⟨hk.mono hext.ok, hx.mono hext.ok⟩
          · rw [if_neg hqi] at hz
            have he2 : ents[i]? = some e' := by simpa [hqi] using he'
            obtain ⟨a, c⟩ := hcell i z e' hz he2
            exact ⟨a.mono hext.ok, c.mono hext.ok⟩
      · rename_i hq
        have g1 := findE_sound hk hst hl hcell hq
        cases h
        have hf := run_findKey (P := P) (W := W) hku g1
        have hturn := turn_set hs hn hb (i' := .mp b) rfl rfl (.map (ents.toArray.push { key := kv, val := xv, born := clock }) (clock + 1))
        have hext := hturn.ext (o := .mp (es ++ [(k, x)])) hs
        have hpush : ents.toArray.push ({ key := kv, val := xv, born := clock } : MapEntry) = (ents ++ [({ key := kv, val := xv, born := clock } : MapEntry)]).toArray := by simp
        refine ⟨_, _, ?_, hext, hturn.sr hs (.mp b _ false (ents ++ [{ key := kv, val := xv, born := clock }]) (clock + 1) (by rw [← hpush]; exact setBlk_same W _ hlt) (by simp [hl]) ?_)⟩
        · simp [Instr.mapUpdate, run_underlying W ht, run_getMap hbb, hck, hf, run_setMap hbb, Own.block]
        · intro i z e' hz he'
          rw [List.getElem?_append] at hz he'
          by_cases hi : i < es.length
          · rw [if_pos hi] at hz
            rw [if_pos (by omega)] at he'
            obtain ⟨a, c⟩ := hcell i z e' hz he'
            exact ⟨a.mono hext.ok, c.mono hext.ok⟩
          · rw [if_neg hi] at hz
            rw [if_neg (by omega), hl] at he'
            generalize i - es.length = q at hz he'
            cases q with
            | zero =>
              simp at hz he'
              subst hz; subst he'
              exact ⟨hk.mono hext.ok, hx.mono hext.ok⟩
            | succ q => simp at hz
      · cases h
end Go.Proofs.YtamjajacnfmgeaaGreat
namespace Go.Proofs.YtamjajacnfmgeaaGreat
open Go Go.RowKit
def Did (P : Program) (Φ : Fr) (W : World) (E : Env) (x : Sem Next) (s' : Store) (d : D) : Prop :=
  ∃ nx v W' E', x.run P W = .ok nx W' ∧ (nx = .value v ∨ (nx = .skip ∧ v = undef)) ∧ Ext W E W' E' ∧ SR Φ W' E' s' ∧ RD W' E' d v
section
variable {P : Program} {Φ : Fr} {W : World} {E : Env} {s s' : Store}
theorem did_pure (hs : SR Φ W E s) {d : D} {v : Value} (h : RD W E d v) : Did P Φ W E (pure (.value v)) s d := ⟨_, v, W, E, rfl, .inl rfl, Ext.refl W E, hs, h⟩
theorem did_val (hs : SR Φ W E s) {x : Sem Value} {d : D} {v : Value} (hr : x.run P W = .ok v W) (h : RD W E d v) : Did P Φ W E (do pure (.value (← x))) s d :=
  ⟨.value v, v, W, E, by simp [hr], .inl rfl, Ext.refl W E, hs, h⟩
theorem did_val' {x : Sem Value} {d : D} (h : ∃ v W' E', x.run P W = .ok v W' ∧ Ext W E W' E' ∧ SR Φ W' E' s' ∧ RD W' E' d v) : Did P Φ W E (do pure (.value (← x))) s' d := by
 obtain ⟨v, W', E', h1, h2, h3, h4⟩ := h
 exact ⟨.value v, v, W', E', by simp [h1], .inl rfl, h2, h3, h4⟩
theorem did_skip {x : Sem Unit} (h : ∃ W' E', x.run P W = .ok () W' ∧ Ext W E W' E' ∧ SR Φ W' E' s') : Did P Φ W E (do x; pure .skip) s' .any := by
 obtain ⟨W', E', h1, h2, h3⟩ := h
 exact ⟨.skip, undef, W', E', by simp [h1], .inr ⟨rfl, rfl⟩, h2, h3, .any _⟩
end
theorem tab {P : Program} {T : Nat → Option TI} (hT : TabOk P T) {t : Nat} {ti : TI} (h : T t = some ti) :
    ∃ i u z, P.info? t = some i ∧ P.underlying t = some u ∧ i.zero = some z ∧ ti.size = i.size ∧ ti.zero = z.cells.toList.map constV ∧ TdOk P u ti.d := infoOf_some (hT t ti h).1
theorem td_sl {P : Program} {u : TypeDesc} {es eb : Nat} {ez : List D} (h : TdOk P u (.sl es eb ez)) : ∃ e i z, u = .slice e ∧ P.info? e = some i ∧ i.size = es ∧ i.bytes = eb ∧ i.zero = some z ∧ ez = z.cells.toList.map constV := by
 cases u with
 | slice e => obtain ⟨i, z, h1, h2, h3, h4, h5⟩ := h; exact ⟨e, i, z, rfl, h1, h2, h3, h4, h5⟩
 | _ => simp [TdOk] at h
theorem td_ar {P : Program} {u : TypeDesc} {n es : Nat} {ea : Bool} (h : TdOk P u (.ar n es ea)) : ∃ e i w, u = .array n e ∧ P.info? e = some i ∧ P.underlying e = some w ∧ es = i.size ∧ ea = aggD w := by
 cases u with
 | array m e => obtain ⟨rfl, i, w, h1, h2, h3, h4⟩ := h; exact ⟨e, i, w, rfl, h1, h2, h3, h4⟩
 | _ => simp [TdOk] at h
theorem td_st {P : Program} {u : TypeDesc} {gs : List (Nat × Nat × Bool)} (h : TdOk P u (.st gs)) : ∃ fs, u = .struct fs := by
 cases u with
 | struct fs => exact ⟨fs, rfl⟩
 | _ => simp [TdOk] at h
theorem td_mp {P : Program} {u : TypeDesc} {st : Bool} {ez : D} (h : TdOk P u (.mp st ez)) : ∃ k e i z, u = .map k e ∧ P.info? e = some i ∧ i.zero = some z ∧ constD z = ez ∧ P.underlying k = some (keyDesc st) := by
 cases u with
 | map k e => obtain ⟨⟨i, z, h1, h2, h3⟩, h4⟩ := h; exact ⟨k, e, i, z, rfl, h1, h2, h3, by rw [h4]; cases st <;> rfl⟩
 | _ => simp [TdOk] at h
theorem td_int {P : Program} {u : TypeDesc} {k : IntKind} (h : TdOk P u (.int k)) : u = .int k := by
 cases u <;> simp_all [TdOk]
theorem td_str {P : Program} {u : TypeDesc} (h : TdOk P u .str) : u = .string := by
 cases u <;> simp_all [TdOk]
theorem idx_sound {W : World} {E : Env} {d : D} {v : Value} {i : Nat} (hd : RD W E d v) (h : idx d = some i) : ∃ k, v = .int k (i : Int) := by
 cases d with
 | v x =>
   cases x with
   | int k n =>
     simp only [idx] at h
     split at h
     · rename_i hn
       cases h
       cases hd with
       | v _ _ hd => cases hd; exact ⟨k, by rw [Int.toNat_of_nonneg hn]⟩
     · cases h
   | _ => simp only [idx, reduceCtorEq] at h
 | _ => simp only [idx, reduceCtorEq] at h
theorem addrAdd_sound {W : World} {E : Env} {d d' : D} {v : Value} {c : Nat} (hd : RD W E d v) (h : addrAdd c d = some d') : ∃ b o, (v = .pointer (some ⟨b, o, none⟩) ∧ RD W E d' (.pointer (some ⟨b, o + c, none⟩))) ∨ ∃ a, v = .pointer (some a) ∧ (∀ a', RD W E d' (.pointer (some a'))) := by
 cases d with
 | v x =>
   cases x with
   | cp cs off =>
     simp only [addrAdd, Option.some.injEq] at h; subst h
     cases hd with
     | v _ _ hd => cases hd with
       | cp _ b o _ hb vs hv h => exact ⟨b, o + off, .inl ⟨rfl, .v _ _ (by rw [Nat.add_assoc]; exact .cp cs b o (off + c) hb vs hv h)⟩⟩
   | _ => simp only [addrAdd, reduceCtorEq] at h
 | ptr n off =>
   simp only [addrAdd, Option.some.injEq] at h; subst h
   cases hd with
   | ptr _ _ b hb => exact ⟨b, off, .inl ⟨rfl, .ptr n (off + c) b hb⟩⟩
 | optr n tot off =>
   simp only [addrAdd, Option.some.injEq] at h; subst h
   cases hd with
   | optr _ _ _ b k cs hb => exact ⟨b, off, .inl ⟨rfl, .optr n tot (off + c) b k cs hb⟩⟩
   | optrOld _ _ _ b k tot' cs a hb ht => exact ⟨0, 0, .inr ⟨a, rfl, fun a' => .optrOld n tot (off + c) b k tot' cs a' hb ht⟩⟩
 | _ => simp only [addrAdd, reduceCtorEq] at h
theorem partV_value {P : Program} {W : World} {ok : Nat → Prop} {t : TypeId} {i : TypeInfo} {u : TypeDesc} (hi : P.info? t = some i) (hu : P.underlying t = some u) {cs : List V} {vs : List Value} (hl : vs.length = cs.length)
    (h : ∀ (i : Nat) (x : V) (v : Value), cs[i]? = some x → vs[i]? = some v → RV W ok x v) {off : Nat} {x : V} (hx : partV cs off i.size (aggD u) = some x) : ∃ v, (part t vs.toArray off).run P W = .ok v W ∧ RV W ok x v := by
 unfold partV at hx
 by_cases ha : aggD u = true
 · rw [if_pos ha] at hx
   split at hx
   · rename_i hle
     cases hx
     refine ⟨.agg ((vs.drop off).take i.size).toArray, ?_, .ag _ _ (by simp; omega) ?_⟩
     · simp only [part, Sem.run_bind, run_isAgg W hu, Result.andThen_ok, ha, if_true, run_sizeOf W hi, Sem.run_pure]
       congr 2
       apply Array.ext'
       simp [List.extract_eq_take_drop]
     · intro j x v hx hv
       rw [List.getElem?_take] at hx hv
       split at hx
       · rename_i hlt
         rw [if_pos hlt] at hv
         rw [List.getElem?_drop] at hx hv
         exact h (off + j) x v hx hv
       · cases hx
   · cases hx
 · have ha : aggD u = false := by simpa using ha
   rw [ha] at hx
   simp only [Bool.false_eq_true, if_false] at hx
   obtain ⟨v, hv⟩ := get_of_len hl hx
   exact ⟨v, by simp [part, run_isAgg W hu, ha, hv], h off x v hx hv⟩
theorem partD_value {P : Program} {W : World} {E : Env} {t : TypeId} {i : TypeInfo} {u : TypeDesc} (hi : P.info? t = some i) (hu : P.underlying t = some u) {cs : List D} {vs : List Value} (hl : vs.length = cs.length)
    (h : ∀ (i : Nat) (x : D) (v : Value), cs[i]? = some x → vs[i]? = some v → RD W E x v) {off : Nat} {x : D} (hx : partD cs off i.size (aggD u) = some x) : ∃ v, (part t vs.toArray off).run P W = .ok v W ∧ RD W E x v := by
 unfold partD at hx
 by_cases ha : aggD u = true
 · rw [if_pos ha] at hx
   split at hx
   · rename_i hle
     cases hx
     refine ⟨.agg ((vs.drop off).take i.size).toArray, ?_, .ag _ _ (by simp; omega) ?_⟩
     · simp only [part, Sem.run_bind, run_isAgg W hu, Result.andThen_ok, ha, if_true, run_sizeOf W hi, Sem.run_pure]
       congr 2
       apply Array.ext'
       simp [List.extract_eq_take_drop]
     · intro j x v hx hv
       rw [List.getElem?_take] at hx hv
       split at hx
       · rename_i hlt
         rw [if_pos hlt] at hv
         rw [List.getElem?_drop] at hx hv
         exact h (off + j) x v hx hv
       · cases hx
   · cases hx
 · have ha : aggD u = false := by simpa using ha
   rw [ha] at hx
   simp only [Bool.false_eq_true, if_false] at hx
   obtain ⟨v, hv⟩ := get_of_len hl hx
   exact ⟨v, by simp [part, run_isAgg W hu, ha, hv], h off x v hx hv⟩
theorem lenOf_sound {P : Program} {Φ : Fr} {W : World} {E : Env} {s : Store} {T : Nat → Option TI} (hT : TabOk P T) (hs : SR Φ W E s) {t : Nat} {ts : Array TypeId} {ty : TypeId} (h0 : ts[0]? = some t) {d : D} {v : Value} {n : Int} (hd : RD W E d v) (h : lenOf s T t d = some n) :
    (Builtin.len_ ts ty #[v]).run P W = .ok (.int .i64 n) W := by
 unfold lenOf at h
 split at h
 · rename_i m es ea size zero eq ht
   cases h
   obtain ⟨i, u, z, hi, hu, _, _, _, htd⟩ := tab hT ht
   obtain ⟨e, _, _, rfl, _⟩ := td_ar htd
   simp [Builtin.len_, h0, run_underlying W hu, goInt]
 · rename_i es eb ez size zero eq ht
   obtain ⟨i, u, z, hi, hu, _, _, _, htd⟩ := tab hT ht
   obtain ⟨e, _, _, rfl, _⟩ := td_sl htd
   split at h
   · rename_i rows
     cases h
     cases hd with
     | v _ _ hd => cases hd <;> simp [Builtin.len_, h0, run_underlying W hu, goInt]
   · cases h
     cases hd
     simp [Builtin.len_, h0, run_underlying W hu, goInt]
   · rename_i m k tot off len
     split at h
     · rename_i k' rows f he
       split at h
       · rename_i hc
         cases h
         obtain ⟨j, hj, hr⟩ := hs.ent m _ he
         cases hd with
         | osl _ _ _ _ _ b cs cap h ho hcap hlc => simp [Builtin.len_, h0, run_underlying W hu, goInt]
         | oslOld _ _ _ _ _ b tot' cs a l c h ht =>
           rw [h] at hj; cases hj
           cases hr
           omega
       · cases h
     · cases h
   · cases h
 · rename_i size zero eq ht
   obtain ⟨i, u, z, hi, hu, _, _, _, htd⟩ := tab hT ht
   have := td_str htd
   subst this
   split at h
   · rename_i b
     cases h
     cases hd with
     | v _ _ hd => cases hd; simp [Builtin.len_, h0, run_underlying W hu, goInt]
   · cases h
 · cases h
theorem foldFrom_sound {P : Program} {W : World} {E : Env} (gt : Bool) (k : IntKind) : ∀ {ds : List D} {vs : List Value} {a : Int} {x : V}, vs.length = ds.length → (∀ (i : Nat) (d : D) (v : Value), ds[i]? = some d → vs[i]? = some v → RD W E d v) → foldFrom gt k a ds = some x →
    ∃ w, (vs.foldlM (if gt then Builtin.max2 else Builtin.min2) (.int k a)).run P W = .ok w W ∧ RV W E.ok x w
  | [], vs, a, x, hl, hr, h => by
    have : vs = [] := List.eq_nil_of_length_eq_zero (by simpa using hl)
    subst this
    simp only [foldFrom, Option.some.injEq] at h; subst h
    exact ⟨_, rfl, .int k a⟩
  | d :: ds, vs, a, x, hl, hr, h => by
    cases vs with
    | nil => simp at hl
    | cons v vs =>
      have h0 := hr 0 d v rfl rfl
      cases d with
      | v y =>
        cases y with
        | int k' b =>
          simp only [foldFrom] at h
          split at h
          · rename_i hk
            subst hk
            cases h0 with
            | v _ _ h0 =>
              cases h0
              obtain ⟨w, hw, hx⟩ := foldFrom_sound (P := P) gt k (vs := vs) (by simpa using hl) (fun i d v hd hv => hr (i + 1) d v hd hv) h
              refine ⟨w, ?_, hx⟩
              cases gt
              · simp only [Bool.false_eq_true, if_false] at hw ⊢
                simp [Builtin.min2, hw]
              · simp only [if_true] at hw ⊢
                simp [Builtin.max2, hw]
          · cases h
        | _ => simp only [foldFrom, reduceCtorEq] at h
      | _ => simp only [foldFrom, reduceCtorEq] at h
theorem foldMax_sound {P : Program} {W : World} {E : Env} (gt : Bool) {ds : List D} {vs : Array Value} {x : V} {ts : Array TypeId} {ty : TypeId} (hl : vs.toList.length = ds.length) (hr : ∀ (i : Nat) (d : D) (v : Value), ds[i]? = some d → vs.toList[i]? = some v → RD W E d v)
    (h : foldMax gt ds = some x) : ∃ w, (if gt then Builtin.max_ ts ty vs else Builtin.min_ ts ty vs).run P W = .ok w W ∧ RV W E.ok x w := by
 cases ds with
 | nil => simp [foldMax] at h
 | cons d ds =>
   cases hvs : vs.toList with
   | nil => rw [hvs] at hl; simp at hl
   | cons v rest =>
     rw [hvs] at hl hr
     have h0 := hr 0 d v rfl rfl
     cases d with
     | v y =>
       cases y with
       | int k a =>
         simp only [foldMax] at h
         cases h0 with
         | v _ _ h0 =>
           cases h0
           obtain ⟨w, hw, hx⟩ := foldFrom_sound (P := P) gt k (vs := rest) (by simpa using hl) (fun i d v hd hv => hr (i + 1) d v hd hv) h
           refine ⟨w, ?_, hx⟩
           cases gt
           · simp only [Bool.false_eq_true, if_false] at hw ⊢
             simp [Builtin.min_, hvs, hw]
           · simp only [if_true] at hw ⊢
             simp [Builtin.max_, hvs, hw]
       | _ => simp only [foldMax, reduceCtorEq] at h
     | _ => simp only [foldMax, reduceCtorEq] at h
end Go.Proofs.YtamjajacnfmgeaaGreat
