/-
  Each operation that is no call of a function: what the abstract machine reckons is what the model does. Condition: the table of types is the program's.
-/
import Derived.Test.YtamjajacnfmgeaaGreatK05
set_option linter.all false
namespace Go.Proofs.YtamjajacnfmgeaaGreat
open Go Go.RowKit
theorem run_fieldPlace {P : Program} {W : World} {f : Field} {i : TypeInfo} (hi : P.info? f.type = some i) (hn : i.size ≠ 0) (a : Addr) : (fieldPlace a f).run P W = .ok (a.add f.offset) W := by
 simp [fieldPlace, run_sizeOf W hi, hn]
theorem len_two {α : Type} : ∀ {l : List α}, l.length = 2 → ∃ a b, l = [a, b]
  | [a, b], _ => ⟨a, b, rfl⟩
set_option maxHeartbeats 1000000 in
theorem opEval_sound {P : Program} {T : Nat → Option TI} (hT : TabOk P T) {Φ : Fr} {W : World} {E : Env} {s s' : Store} (hs : SR Φ W E s) {r : Operand → Option D} {ρ : Operand → Value} (hr : ∀ x d, r x = some d → RD W E d (ρ x))
    {o : Oper} {d : D} (h : opEval T s o.dst r o.op = some (d, s')) : Did P Φ W E (execOp ρ o) s' d := by
 obtain ⟨dst, op, type, pos, after, guard⟩ := o
 simp only at h
 cases op with
 | move x =>
   simp only [opEval, Option.map_eq_some_iff, Prod.mk.injEq] at h
   obtain ⟨d', hd, rfl, rfl⟩ := h
   exact did_pure hs (hr x _ hd)
 | assign x =>
   simp only [opEval, Option.map_eq_some_iff, Prod.mk.injEq] at h
   obtain ⟨d', hd, rfl, rfl⟩ := h
   exact did_pure hs (hr x _ hd)
 | pick c a b =>
   simp only [opEval] at h
   split at h
   · rename_i t hc
     simp only [Option.map_eq_some_iff, Prod.mk.injEq] at h
     obtain ⟨d', hd, rfl, rfl⟩ := h
     have hcv := hr c _ hc
     generalize hcc : ρ c = cv at hcv
     cases hcv with
     | v _ _ hcv =>
       cases hcv
       refine ⟨.value (if t then ρ a else ρ b), _, W, E, by simp [execOp, hcc, asBool], .inl rfl, Ext.refl W E, hs, ?_⟩
       cases t
       · exact hr b _ (by simpa using hd)
       · exact hr a _ (by simpa using hd)
   · cases h
 | alloc t =>
   simp only [opEval] at h
   split at h
   · rename_i ti ht
     simp only [Option.map_eq_some_iff, Prod.mk.injEq] at h
     obtain ⟨⟨n, s1⟩, hn, rfl, rfl⟩ := h
     obtain ⟨hn0, rfl⟩ := ownNew_some hn
     obtain ⟨i, u, z, hi, hu, hz, _, hze, _⟩ := tab hT ht
     rw [hze]
     obtain ⟨h1, h2⟩ := RD_zero (P := P) (W := W) (E := E) z
     obtain ⟨E', e1, e2, e3⟩ := new_cells hs hn0 t h1 h2
     refine did_val' ⟨_, _, E', ?_, e1, e2, e3⟩
     simp [Instr.alloc, run_zeroValue W hi hz, newVar, newRow]
   · cases h
 | box t x =>
   simp only [opEval] at h
   split at h
   · rename_i dx hx
     split at h
     · rename_i hone
       simp only [Option.map_eq_some_iff, Prod.mk.injEq] at h
       obtain ⟨⟨n, s1⟩, hn, rfl, rfl⟩ := h
       obtain ⟨hn0, rfl⟩ := ownNew_some hn
       obtain ⟨h1, h2⟩ := (hr x _ hx).cells hone
       obtain ⟨E', e1, e2, e3⟩ := new_cells hs hn0 t h1 h2
       refine did_val' ⟨_, _, E', ?_, e1, e2, e3⟩
       simp [Instr.box, newVar, newRow]
     · cases h
   · cases h
 | build t parts =>
   simp only [opEval] at h
   split at h
   · rename_i fs size zero eq ps ht hps
     simp only [Option.map_eq_some_iff, Prod.mk.injEq] at h
     obtain ⟨cs, hcs, rfl, rfl⟩ := h
     obtain ⟨i, u, z, hi, hu, hz, _, hze, htd⟩ := tab hT ht
     obtain ⟨fs', rfl⟩ := td_st htd
     obtain ⟨vs, hvs, hl, hp⟩ := opt_parts hr hps
     simp only at hze
     subst hze
     have hvs' : (parts.map fun (i, x) => (i, ρ x)).toList = vs := by rw [← hvs]; simp
     obtain ⟨v, hv, hd⟩ := build_st (P := P) (W := W) (E := E) (vs := parts.map fun (i, x) => (i, ρ x)) hi hu hz htd (by rw [hvs']; exact hl) (by rw [hvs']; exact hp) hcs
     exact did_val hs hv hd
   · rename_i n es ea size zero eq ps ht hps
     simp only [Option.map_eq_some_iff, Prod.mk.injEq] at h
     obtain ⟨cs, hcs, rfl, rfl⟩ := h
     obtain ⟨i, u, z, hi, hu, hz, _, hze, htd⟩ := tab hT ht
     obtain ⟨e, _, _, rfl, _⟩ := td_ar htd
     obtain ⟨vs, hvs, hl, hp⟩ := opt_parts hr hps
     simp only at hze
     subst hze
     have hvs' : (parts.map fun (i, x) => (i, ρ x)).toList = vs := by rw [← hvs]; simp
     obtain ⟨v, hv, hd⟩ := build_ar (P := P) (W := W) (E := E) (vs := parts.map fun (i, x) => (i, ρ x)) hi hu hz htd (by rw [hvs']; exact hl) (by rw [hvs']; exact hp) hcs
     exact did_val hs hv hd
   · cases h
 | buildSlice t len parts =>
   simp only [opEval] at h
   split at h
   · rename_i es eb ez size zero eq ps ht hps
     split at h
     · rename_i hc
       obtain ⟨c1, c2, c3, c4, c5⟩ := hc
       split at h
       · rename_i rows hrows
         split at h
         · rename_i n s1 hn
           cases h
           obtain ⟨i, u, z, hi, hu, hz, _, hze, htd⟩ := tab hT ht
           obtain ⟨e, ie, ze, rfl, he1, he2, he3, he4, he5⟩ := td_sl htd
           subst he2
           obtain ⟨vs, hvs, hl, hp⟩ := opt_parts hr hps
           have hvs' : (parts.map fun (i, x) => (i, ρ x)).toList = vs := by rw [← hvs]; simp
           have hzs : ze.cells.size = ie.size := by rw [he5] at c5; simpa using c5
           exact did_val' (buildSlice_sound hs (vs := parts.map fun (i, x) => (i, ρ x)) hu he1 he4 c3 hzs (by rw [hvs']; exact hl) (by rw [hvs']; exact hp) c1 c2 c4 hrows hn)
         · cases h
       · cases h
     · cases h
   · cases h
 | load t a =>
   simp only [opEval] at h
   split at h
   · rename_i ti d0 ht ha
     simp only [Option.map_eq_some_iff, Prod.mk.injEq] at h
     obtain ⟨d', hd, rfl, rfl⟩ := h
     obtain ⟨i, u, z, hi, hu, hz, hsz, _, htd⟩ := tab hT ht
     rw [hsz, ← aggD_of htd] at hd
     obtain ⟨w, hw, hrd⟩ := loadD_sound hs hi hu (hr a _ ha) hd
     exact did_val hs hw hrd
   · cases h
 | store t a x =>
   simp only [opEval] at h
   split at h
   · rename_i ti d0 y ht ha hx
     simp only [Option.map_eq_some_iff, Prod.mk.injEq] at h
     obtain ⟨s1, hst, rfl, rfl⟩ := h
     obtain ⟨i, u, z, hi, hu, hz, hsz, _, htd⟩ := tab hT ht
     rw [hsz] at hst
     exact did_skip (storeD_sound hs hi (hr a _ ha) (hr x _ hx) hst)
   · cases h
 | nilCheck x =>
   simp only [opEval] at h
   split at h
   · rename_i n off hx
     cases h
     have hv := hr x _ hx
     generalize hc : ρ x = v at hv
     have hv' := hv
     cases hv with
     | ptr _ _ b hb => exact ⟨.value _, _, W, E, by simp [execOp, hc], .inl rfl, Ext.refl W E, hs, hv'⟩
   · rename_i cs off hx
     cases h
     have hv := hr x _ hx
     generalize hc : ρ x = v at hv
     have hv' := hv
     cases hv with
     | v _ _ hv => cases hv; exact ⟨.value _, _, W, E, by simp [execOp, hc], .inl rfl, Ext.refl W E, hs, hv'⟩
   · cases h
 | binOp op t x y yt =>
   simp only [opEval] at h
   split at h
   · rename_i a b ha hb
     simp only [Option.map_eq_some_iff, Prod.mk.injEq] at h
     obtain ⟨z, hz, rfl, rfl⟩ := h
     obtain ⟨w, hw, hrv⟩ := binEval_sound hT (xo := x) (yo := y) (hr x _ ha) (hr y _ hb) hz
     exact did_val hs hw (.v _ _ hrv)
   · cases h
 | unOp op t x =>
   simp only [opEval] at h
   split at h
   · rename_i b hx
     cases h
     have hv := hr x _ hx
     generalize hc : ρ x = v at hv
     cases hv with
     | v _ _ hv => cases hv; exact did_val hs (v := .bool !b) (by simp [hc, Op.unary]) (.v _ _ (.bool _))
   · rename_i k n hx
     cases h
     have hv := hr x _ hx
     generalize hc : ρ x = v at hv
     cases hv with
     | v _ _ hv => cases hv; exact did_val hs (v := .int k (k.wrap (0 - n))) (by simp [hc, Op.unary, Op.intArith]) (.v _ _ (.int _ _))
   · cases h
 | convert src t x =>
   simp only [opEval] at h
   split at h
   · rename_i ks z1 z2 z3 k z4 z5 z6 k0 n hsrc ht hx
     cases h
     obtain ⟨i, u, z, hi, hu, hz, _, _, htd⟩ := tab hT ht
     obtain ⟨i2, u2, z2, hi2, hu2, _, _, _, htd2⟩ := tab hT hsrc
     have := td_int htd; subst this
     have := td_int htd2; subst this
     have hv := hr x _ hx
     generalize hc : ρ x = v at hv
     cases hv with
     | v _ _ hv =>
       cases hv
       refine did_val hs (v := .int k (k.wrap n)) ?_ (.v _ _ (.int _ _))
       simp [hc, convert, run_underlying W hu, run_underlying W hu2, Conv.intToInt]
   · cases h
 | makeFunc fn first caps =>
   simp only [opEval] at h
   split at h
   · rename_i f
     split at h
     · rename_i hfe
       simp only [Option.map_eq_some_iff, Prod.mk.injEq] at h
       obtain ⟨ds, hds, rfl, rfl⟩ := h
       obtain ⟨h1, h2⟩ := opt_operands hr hds
       have hfe : first = #[] := by simpa using hfe
       subst hfe
       refine did_val hs (v := .func (.func f) #[] (caps.toList.map ρ).toArray) ?_ (.fn f ds _ h1 h2)
       have : caps.map ρ = (caps.toList.map ρ).toArray := by apply Array.ext'; simp
       simp [Instr.makeFunc, this]
     · cases h
   · cases h
 | makeMap t hint =>
   simp only [opEval] at h
   split at h
   · rename_i hh
     simp only [Option.map_eq_some_iff, Prod.mk.injEq] at h
     obtain ⟨⟨n, s1⟩, hn, rfl, rfl⟩ := h
     obtain ⟨hn0, rfl⟩ := ownNew_some hn
     obtain ⟨E', e1, e2, e3⟩ := new_mp hs hn0
     have hh : hint = none := by simpa using hh
     subst hh
     refine did_val' ⟨_, _, E', ?_, e1, e2, e3⟩
     simp [Instr.makeMap]
   · cases h
 | makeSlice t l c =>
   simp only [opEval] at h
   split at h
   · rename_i es eb ez size zero eq n m ht hl hcp
     split at h
     · rename_i hc
       obtain ⟨rfl, c2, c3, c4, c5, c6⟩ := hc
       split at h
       · rename_i x hx
         simp only [Option.map_eq_some_iff, Prod.mk.injEq] at h
         obtain ⟨⟨k, s1⟩, hn, rfl, rfl⟩ := h
         obtain ⟨i, u, z, hi, hu, hz, _, hze, htd⟩ := tab hT ht
         obtain ⟨e, ie, ze, rfl, he1, he2, he3, he4, he5⟩ := td_sl htd
         subst he2; subst he3; subst he5
         have hzs : ze.cells.size = ie.size := by simpa using c5
         have hxa : ∃ xs, x = .ag xs := by
           simp only [pub, pubD, Option.map_eq_some_iff] at hx
           obtain ⟨xs, _, rfl⟩ := hx
           exact ⟨xs, rfl⟩
         obtain ⟨xs, rfl⟩ := hxa
         have hvl := hr l _ hl
         have hvc := hr c _ hcp
         generalize hl' : ρ l = vl at hvl
         generalize hc' : ρ c = vc at hvc
         cases hvl with
         | v _ _ hvl =>
           cases hvl
           cases hvc with
           | v _ _ hvc =>
             cases hvc
             have := makeSlice_sound hs hu he1 he4 c6 hzs c2 c3 c4 hx hn
             exact did_val' (by rw [hl', hc']; exact this)
       · cases h
     · cases h
   · cases h
 | slice t x lo hi mx =>
   simp only [opEval] at h
   split at h
   · rename_i hmx
     have hmx : mx = none := by simpa using hmx
     subst hmx
     split at h
     · rename_i es eb ez size zero eq rows ht hx
       split at h
       · rename_i l hh hlo hhi
         split at h
         · rename_i hc
           obtain ⟨c1, c2, c3⟩ := hc
           cases h
           obtain ⟨i, u, z, hi', hu, hz, _, hze, htd⟩ := tab hT ht
           obtain ⟨e, ie, ze, rfl, he1, he2, he3, he4, he5⟩ := td_sl htd
           subst he2
           have hv := hr x _ hx
           generalize hxv : ρ x = v at hv
           have hkk : ∃ base cap, v = .slice base rows.length cap ∧ rows.length ≤ cap := by
             cases hv with
             | v _ _ hv => cases hv with
               | slE a cap => exact ⟨a, cap, rfl, Nat.zero_le _⟩
               | sl _ b o k cap hb hk hcap vs hcv h => exact ⟨_, cap, rfl, hcap⟩
           obtain ⟨base, cap, rfl, hcap⟩ := hkk
           have hbl : ∀ y, (Instr.sliceBound (.int y (l : Int)) hh .sliceB).run P W = .ok l W := by
             intro y
             have : (0 : Int) ≤ (l : Int) ∧ (l : Int) ≤ (hh : Int) := ⟨by omega, by omega⟩
             simp [Instr.sliceBound, asIntOf, this]
           have hbh : ∀ y, (Instr.sliceBound (.int y (hh : Int)) cap .sliceAcap).run P W = .ok hh W := by
             intro y
             have : (0 : Int) ≤ (hh : Int) ∧ (hh : Int) ≤ (cap : Int) := ⟨by omega, by omega⟩
             simp [Instr.sliceBound, asIntOf, this]
           have hbounds : (Instr.sliceBounds true rows.length cap (lo.map ρ) (hi.map ρ) none).run P W = .ok (l, hh, cap) W := by
             cases lo with
             | none =>
               simp only [Option.some.injEq] at hlo; subst hlo
               cases hi with
               | none => simp only [Option.some.injEq] at hhi; subst hhi; simp [Instr.sliceBounds]
               | some q =>
                 simp only [Option.bind_eq_some_iff] at hhi
                 obtain ⟨dq, hdq, hiq⟩ := hhi
                 obtain ⟨kq, hkq⟩ := idx_sound (hr q _ hdq) hiq
                 simp [Instr.sliceBounds, hkq, hbh]
             | some p =>
               simp only [Option.bind_eq_some_iff] at hlo
               obtain ⟨dp, hdp, hip⟩ := hlo
               obtain ⟨kp, hkp⟩ := idx_sound (hr p _ hdp) hip
               cases hi with
               | none => simp only [Option.some.injEq] at hhi; subst hhi; simp [Instr.sliceBounds, hkp, hbl]
               | some q =>
                 simp only [Option.bind_eq_some_iff] at hhi
                 obtain ⟨dq, hdq, hiq⟩ := hhi
                 obtain ⟨kq, hkq⟩ := idx_sound (hr q _ hdq) hiq
                 simp [Instr.sliceBounds, hkq, hbh, hkp, hbl]
           refine did_val hs (v := .slice (if cap = l then base else base.map (·.add (l * ie.size))) (hh - l) (cap - l)) ?_ ?_
           · simp [hxv, Instr.sliceAt, Instr.slice, run_underlying W hu, hbounds, run_sizeOf W he1]
           · have hlen : ((rows.drop l).take (hh - l)).length = hh - l := by simp; omega
             by_cases h0 : hh - l = 0
             · rw [h0, List.take_zero]
               exact .v _ _ (.slE _ _)
             · cases hv with
               | v _ _ hv => cases hv with
                 | slE a cap => simp at c2; omega
                 | sl _ b o k cap hb hk hcap vs hcv h =>
                   rw [if_neg (by omega)]
                   have hrl : rows[l]? = some rows[l] := List.getElem?_eq_getElem (by omega)
                   rw [hrl] at c3
                   have hkk : k = ie.size := by rw [← c3]; exact (hk _ (List.getElem_mem (by omega))).symm
                   subst hkk
                   have hrow : ∀ (i : Nat) (row : List V), ((rows.drop l).take (hh - l))[i]? = some row → rows[l + i]? = some row := by
                     intro i row hr
                     rw [List.getElem?_take] at hr
                     split at hr
                     · rwa [List.getElem?_drop] at hr
                     · cases hr
                   have hidx : ∀ i j, o + l * ie.size + (i * ie.size + j) = o + ((l + i) * ie.size + j) := by intro i j; rw [Nat.add_mul]; omega
                   have := RV.sl (W := W) (ok := E.ok) ((rows.drop l).take (hh - l)) b (o + l * ie.size) ie.size (cap - l) hb (fun row hr => hk row (List.mem_of_mem_drop (List.mem_of_mem_take hr))) (by omega) (fun i j => vs (l + i) j)
                     (fun i j row x hr hx => by rw [hidx]; exact hcv (l + i) j row x (hrow i row hr) hx) (fun i j row x hr hx => h (l + i) j row x (hrow i row hr) hx)
                   rw [hlen] at this
                   simp only [Option.map_some, add_plain]
                   exact .v _ _ this
         · cases h
       · cases h
     · cases h
   · cases h
 | fieldAddr t x f =>
   simp only [opEval] at h
   split at h
   · rename_i fs size zero eq dx ht hx
     split at h
     · rename_i g hg
       simp only [Option.map_eq_some_iff, Prod.mk.injEq] at h
       obtain ⟨d', hd, rfl, rfl⟩ := h
       obtain ⟨i, u, z, hi, hu, hz, _, _, htd⟩ := tab hT ht
       obtain ⟨fs', rfl⟩ := td_st htd
       obtain ⟨g1, g2⟩ := htd
       have hflt : f < fs.length := (List.getElem?_eq_some_iff.1 hg).1
       have hfs : fs'[f]? = some (fs'[f]'(by omega)) := Array.getElem?_eq_getElem (by omega)
       obtain ⟨i', u', hi', hu', hn0, he⟩ := g2 f _ g hfs hg
       subst he
       obtain ⟨b, o, hcase⟩ := addrAdd_sound (hr x _ hx) hd
       rcases hcase with ⟨hv, hrd⟩ | ⟨a, hv, hrd⟩
       · refine did_val hs (v := .pointer (some ⟨b, o + (fs'[f]'(by omega)).offset, none⟩)) ?_ hrd
         simp [Instr.fieldAt, run_underlying W hu, hv, hfs, Instr.sureAddr, run_fieldPlace hi' hn0, add_plain]
       · refine did_val hs (v := .pointer (some (a.add (fs'[f]'(by omega)).offset))) ?_ (hrd _)
         simp [Instr.fieldAt, run_underlying W hu, hv, hfs, Instr.sureAddr, run_fieldPlace hi' hn0]
     · cases h
   · cases h
 | field t x f =>
   simp only [opEval] at h
   split at h
   · rename_i fs size zero eq dx ht hx
     obtain ⟨i, u, z, hi, hu, hz, _, _, htd⟩ := tab hT ht
     obtain ⟨fs', rfl⟩ := td_st htd
     obtain ⟨g1, g2⟩ := htd
     split at h
     · rename_i g cs hg
       simp only [Option.map_eq_some_iff, Prod.mk.injEq] at h
       obtain ⟨y, hy, rfl, rfl⟩ := h
       have hflt : f < fs.length := (List.getElem?_eq_some_iff.1 hg).1
       have hfs : fs'[f]? = some (fs'[f]'(by omega)) := Array.getElem?_eq_getElem (by omega)
       obtain ⟨i', u', hi', hu', hn0, he⟩ := g2 f _ g hfs hg
       subst he
       have hv := hr x _ hx
       generalize hxv : ρ x = v at hv
       cases hv with
       | v _ _ hv => cases hv with
         | ag _ vs hl hc =>
           obtain ⟨w, hw, hrv⟩ := partV_value (P := P) hi' hu' hl hc hy
           exact did_val hs (v := w) (by simp [Instr.field, run_underlying W hu, hxv, hfs, asAgg, hw]) (.v _ _ hrv)
     · rename_i g cs hg
       simp only [Option.map_eq_some_iff, Prod.mk.injEq] at h
       obtain ⟨y, hy, rfl, rfl⟩ := h
       have hflt : f < fs.length := (List.getElem?_eq_some_iff.1 hg).1
       have hfs : fs'[f]? = some (fs'[f]'(by omega)) := Array.getElem?_eq_getElem (by omega)
       obtain ⟨i', u', hi', hu', hn0, he⟩ := g2 f _ g hfs hg
       subst he
       have hv := hr x _ hx
       generalize hxv : ρ x = v at hv
       cases hv with
       | ag _ vs hl hc =>
         obtain ⟨w, hw, hrv⟩ := partD_value (P := P) hi' hu' hl hc hy
         exact did_val hs (v := w) (by simp [Instr.field, run_underlying W hu, hxv, hfs, asAgg, hw]) hrv
     · cases h
   · cases h
 | indexAddr t x ix =>
   simp only [opEval] at h
   split at h
   · rename_i es eb ez size zero eq rows i ht hx hix
     split at h
     · rename_i row hrow
       split at h
       · rename_i hrl
         cases h
         obtain ⟨ti, u, z, hi', hu, hz, _, hze, htd⟩ := tab hT ht
         obtain ⟨e, ie, ze, rfl, he1, he2, he3, he4, he5⟩ := td_sl htd
         subst he2
         simp only [Option.bind_eq_some_iff] at hix
         obtain ⟨di, hdi, hii⟩ := hix
         obtain ⟨k, hk⟩ := idx_sound (hr ix _ hdi) hii
         have hlt : i < rows.length := (List.getElem?_eq_some_iff.1 hrow).1
         have hv := hr x _ hx
         generalize hxv : ρ x = v at hv
         cases hv with
         | v _ _ hv => cases hv with
           | slE a cap => simp at hlt
           | sl _ b o k' cap hb hk' hcap vs hcv hcell =>
             have hkk : k' = ie.size := by rw [← hrl]; exact (hk' _ (List.mem_of_getElem? hrow)).symm
             subst hkk
             refine did_val hs (v := .pointer (some ⟨b, o + i * ie.size, none⟩)) ?_ (.v _ _ ?_)
             · simp [Instr.indexAt, hk, hxv, asIntOf, run_underlying W hu, hlt, run_sizeOf W he1, add_plain]
             · have := RV.cp (W := W) (ok := E.ok) row b (o + i * ie.size) 0 hb (vs i) (fun j y hy => by rw [Nat.add_assoc]; exact hcv i j row y hrow hy) (fun j y hy => hcell i j row y hrow hy)
               rwa [Nat.add_zero] at this
       · cases h
     · cases h
   · rename_i es eb ez size zero eq n k tot off len i ht hx hix
     split at h
     · rename_i k' rows f hent
       split at h
       · rename_i hc
         obtain ⟨c1, c2, c3, c4⟩ := hc
         cases h
         obtain ⟨ti, u, z, hi', hu, hz, _, hze, htd⟩ := tab hT ht
         obtain ⟨e, ie, ze, rfl, he1, he2, he3, he4, he5⟩ := td_sl htd
         subst he2; subst c4
         simp only [Option.bind_eq_some_iff] at hix
         obtain ⟨di, hdi, hii⟩ := hix
         obtain ⟨kk, hk⟩ := idx_sound (hr ix _ hdi) hii
         have hv := hr x _ hx
         generalize hxv : ρ x = v at hv
         cases hv with
         | oslOld _ _ _ _ _ b tot' cs a l c hown ht' =>
           obtain ⟨j, hj, hrr⟩ := hs.ent n _ hent
           rw [hown] at hj; cases hj
           cases hrr
           omega
         | osl _ _ _ _ _ b cs cap hown ho hcap hlc =>
           refine did_val hs (v := .pointer (some ⟨b, (off + i) * ie.size, none⟩)) ?_ (.optr n tot _ b ie.size cs hown)
           simp [Instr.indexAt, hk, hxv, asIntOf, run_underlying W hu, c3, run_sizeOf W he1, add_plain, Nat.add_mul]
       · cases h
     · cases h
   · rename_i n es ea size zero eq dx i ht hx hix
     split at h
     · rename_i hlt
       simp only [Option.map_eq_some_iff, Prod.mk.injEq] at h
       obtain ⟨d', hd, rfl, rfl⟩ := h
       obtain ⟨ti, u, z, hi', hu, hz, _, hze, htd⟩ := tab hT ht
       obtain ⟨e, ie, we, rfl, he1, he2, he3, he4⟩ := td_ar htd
       subst he3
       simp only [Option.bind_eq_some_iff] at hix
       obtain ⟨di, hdi, hii⟩ := hix
       obtain ⟨k, hk⟩ := idx_sound (hr ix _ hdi) hii
       obtain ⟨b, o, hcase⟩ := addrAdd_sound (hr x _ hx) hd
       rcases hcase with ⟨hv, hrd⟩ | ⟨a, hv, hrd⟩
       · refine did_val hs (v := .pointer (some ⟨b, o + i * ie.size, none⟩)) ?_ hrd
         simp [Instr.indexAt, hk, hv, asIntOf, run_underlying W hu, hlt, run_sizeOf W he1, add_plain, Instr.sureAddr]
       · refine did_val hs (v := .pointer (some (a.add (i * ie.size)))) ?_ (hrd _)
         simp [Instr.indexAt, hk, hv, asIntOf, run_underlying W hu, hlt, run_sizeOf W he1, Instr.sureAddr]
     · cases h
   · cases h
 | index t x ix =>
   simp only [opEval] at h
   split at h
   · rename_i n es ea size zero eq cs i ht hx hix
     split at h
     · rename_i hlt
       simp only [Option.map_eq_some_iff, Prod.mk.injEq] at h
       obtain ⟨y, hy, rfl, rfl⟩ := h
       obtain ⟨ti, u, z, hi', hu, hz, _, hze, htd⟩ := tab hT ht
       obtain ⟨e, ie, we, rfl, he1, he2, he3, he4⟩ := td_ar htd
       subst he3; subst he4
       simp only [Option.bind_eq_some_iff] at hix
       obtain ⟨di, hdi, hii⟩ := hix
       obtain ⟨k, hk⟩ := idx_sound (hr ix _ hdi) hii
       have hv := hr x _ hx
       generalize hxv : ρ x = v at hv
       cases hv with
       | v _ _ hv => cases hv with
         | ag _ vs hl hc =>
           obtain ⟨w, hw, hrv⟩ := partV_value (P := P) he1 he2 hl hc hy
           exact did_val hs (v := w) (by simp [Instr.index, hk, hxv, asIntOf, run_underlying W hu, hlt, run_sizeOf W he1, hw]) (.v _ _ hrv)
     · cases h
   · rename_i n es ea size zero eq cs i ht hx hix
     split at h
     · rename_i hlt
       simp only [Option.map_eq_some_iff, Prod.mk.injEq] at h
       obtain ⟨y, hy, rfl, rfl⟩ := h
       obtain ⟨ti, u, z, hi', hu, hz, _, hze, htd⟩ := tab hT ht
       obtain ⟨e, ie, we, rfl, he1, he2, he3, he4⟩ := td_ar htd
       subst he3; subst he4
       simp only [Option.bind_eq_some_iff] at hix
       obtain ⟨di, hdi, hii⟩ := hix
       obtain ⟨k, hk⟩ := idx_sound (hr ix _ hdi) hii
       have hv := hr x _ hx
       generalize hxv : ρ x = v at hv
       cases hv with
       | ag _ vs hl hc =>
         obtain ⟨w, hw, hrv⟩ := partD_value (P := P) he1 he2 hl hc hy
         exact did_val hs (v := w) (by simp [Instr.index, hk, hxv, asIntOf, run_underlying W hu, hlt, run_sizeOf W he1, hw]) hrv
     · cases h
   · rename_i size zero eq b i ht hx hix
     simp only [Option.map_eq_some_iff, Prod.mk.injEq] at h
     obtain ⟨c, hc, rfl, rfl⟩ := h
     obtain ⟨ti, u, z, hi', hu, hz, _, hze, htd⟩ := tab hT ht
     have := td_str htd; subst this
     simp only [Option.bind_eq_some_iff] at hix
     obtain ⟨di, hdi, hii⟩ := hix
     obtain ⟨k, hk⟩ := idx_sound (hr ix _ hdi) hii
     have hv := hr x _ hx
     generalize hxv : ρ x = v at hv
     cases hv with
     | v _ _ hv =>
       cases hv
       have h0 : (0 : Int) ≤ (i : Int) := by omega
       exact did_val hs (v := .int .u8 c.toNat) (by simp [Instr.index, hk, hxv, asIntOf, run_underlying W hu, h0, hc]) (.v _ _ (.int _ _))
   · cases h
 | lookup t m k ok =>
   simp only [opEval] at h
   split at h
   · rename_i st ez size zero eq n key ht hm hk
     split at h
     · rename_i es f hent
       split at h
       · rename_i hko
         obtain ⟨ti, u, z, hi', hu, hz, _, hze, htd⟩ := tab hT ht
         obtain ⟨kt, et, ie, ze, rfl, he1, he2, he3, he4⟩ := td_mp htd
         subst he3
         have hkv := hr k _ hk
         cases hkv with
         | v _ _ hkv =>
           obtain ⟨h1, rfl⟩ : (match findE key es 0 with
             | some (some (_, x)) => some (if ok then D.tp [.v x, .v (.bool true)] else .v x)
             | some none => some (if ok then D.tp [constD ze, .v (.bool false)] else constD ze)
             | none => none) = some d ∧ s = s' := by
             split at h
             · cases h; exact ⟨by simp [*], rfl⟩
             · cases h; exact ⟨by simp [*], rfl⟩
             · cases h
           obtain ⟨w, hw, hrd⟩ := lookup_sound (P := P) hs hu he4 he1 he2 hent (hr m _ hm) hkv hko h1
           exact did_val hs hw hrd
       · cases h
     · cases h
   · cases h
 | mapUpdate t m k x =>
   simp only [opEval] at h
   split at h
   · rename_i st ez size zero eq n key y ht hm hk hx
     split at h
     · rename_i es hent
       split at h
       · rename_i hko
         obtain ⟨ti, u, z, hi', hu, hz, _, hze, htd⟩ := tab hT ht
         obtain ⟨kt, et, ie, ze, rfl, he1, he2, he3, he4⟩ := td_mp htd
         have hkv := hr k _ hk
         have hxv := hr x _ hx
         cases hkv with
         | v _ _ hkv => cases hxv with
           | v _ _ hxv =>
             obtain ⟨rfl, h1⟩ : D.any = d ∧ (match findE key es 0 with
               | some (some (i, _)) => some (upd s n ⟨.mp (es.set i (key, y)), false⟩)
               | some none => some (upd s n ⟨.mp (es ++ [(key, y)]), false⟩)
               | none => none) = some s' := by
               split at h
               · cases h; exact ⟨rfl, by simp [*]⟩
               · cases h; exact ⟨rfl, by simp [*]⟩
               · cases h
             exact did_skip (mapUpdate_sound (P := P) hs hu he4 hent (hr m _ hm) hkv hxv hko h1)
       · cases h
     · cases h
   · cases h
 | extract x i =>
   simp only [opEval] at h
   split at h
   · rename_i vs hx
     simp only [Option.map_eq_some_iff, Prod.mk.injEq] at h
     obtain ⟨y, hy, rfl, rfl⟩ := h
     have hv := hr x _ hx
     generalize hxv : ρ x = v at hv
     cases hv with
     | v _ _ hv => cases hv with
       | tp _ us hl hc =>
         obtain ⟨w, hw⟩ := get_of_len hl hy
         exact did_val hs (v := w) (by simp [Instr.extract, hxv, hw]) (.v _ _ (hc i y w hy hw))
   · rename_i vs hx
     simp only [Option.map_eq_some_iff, Prod.mk.injEq] at h
     obtain ⟨y, hy, rfl, rfl⟩ := h
     have hv := hr x _ hx
     generalize hxv : ρ x = v at hv
     cases hv with
     | tp _ us hl hc =>
       obtain ⟨w, hw⟩ := get_of_len hl hy
       exact did_val hs (v := w) (by simp [Instr.extract, hxv, hw]) (hc i y w hy hw)
   · cases h
 | call c =>
   obtain ⟨callee, args, ts⟩ := c
   simp only [opEval] at h
   split at h
   · rename_i b ds _ hds
     obtain ⟨h1, h2⟩ := opt_operands hr hds
     have hargs : (args.map ρ).toList = args.toList.map ρ := by simp
     unfold builtinD at h
     split at h
     · rename_i t x ht0
       split at h
       · rename_i n hn
         cases h
         have hx1 : ∃ v, args.map ρ = #[v] ∧ RD W E x v := by
           have hl : (args.toList.map ρ).length = 1 := by rw [h1]; rfl
           obtain ⟨v, hv⟩ := List.length_eq_one_iff.1 hl
           exact ⟨v, by apply Array.ext'; rw [hargs, hv], h2 0 x v rfl (by rw [hv]; rfl)⟩
         obtain ⟨v, hv, hrd⟩ := hx1
         have := lenOf_sound (P := P) hT hs (ty := type) ht0 hrd hn
         refine ⟨.value (.int .i64 n), _, W, E, ?_, .inl rfl, Ext.refl W E, hs, .v _ _ (.int _ _)⟩
         simp [execOp, resolve, invoke, builtin, hv, this]
       · cases h
     · simp only [Option.map_eq_some_iff, Prod.mk.injEq] at h
       obtain ⟨y, hy, rfl, rfl⟩ := h
       obtain ⟨w, hw, hrv⟩ := foldMax_sound (P := P) true (vs := args.map ρ) (ts := ts) (ty := type) (by rw [hargs]; exact h1) (by rw [hargs]; exact h2) hy
       simp only [if_true] at hw
       refine ⟨.value w, _, W, E, ?_, .inl rfl, Ext.refl W E, hs, .v _ _ hrv⟩
       simp [execOp, resolve, invoke, builtin, hw]
     · simp only [Option.map_eq_some_iff, Prod.mk.injEq] at h
       obtain ⟨y, hy, rfl, rfl⟩ := h
       obtain ⟨w, hw, hrv⟩ := foldMax_sound (P := P) false (vs := args.map ρ) (ts := ts) (ty := type) (by rw [hargs]; exact h1) (by rw [hargs]; exact h2) hy
       simp only [Bool.false_eq_true, if_false] at hw
       refine ⟨.value w, _, W, E, ?_, .inl rfl, Ext.refl W E, hs, .v _ _ hrv⟩
       simp [execOp, resolve, invoke, builtin, hw]
     · rename_i t x y ht0
       split at h
       · rename_i es eb ez size zero eq u ht hu1
         split at h
         · rename_i new hut hnew
           split at h
           · rename_i hc
             obtain ⟨c1, c2, c3⟩ := hc
             have hut' : u = t ∧ ts.size = 2 := by
               by_cases hq : u = t ∧ ts.size = 2
               · exact hq
               · rw [if_neg hq] at hut; cases hut
             obtain ⟨rfl, hsz2⟩ := hut'
             have hts : ts = #[u, u] := by
               apply Array.ext_getElem?
               intro q
               match q with
               | 0 => rw [ht0]; rfl
               | 1 => rw [hu1]; rfl
               | q + 2 => rw [Array.getElem?_eq_none (by omega)]; rfl
             obtain ⟨ti, u2, z, hi', hu, hz, _, hze, htd⟩ := tab hT ht
             obtain ⟨e, ie, ze, rfl, he1, he2, he3, he4, he5⟩ := td_sl htd
             subst he2; subst he3; subst he5
             have hx2 : ∃ v w, args.map ρ = #[v, w] ∧ RD W E x v ∧ RD W E y w := by
               have hl : (args.toList.map ρ).length = 2 := by rw [h1]; rfl
               obtain ⟨v, w, hv⟩ := len_two hl
               exact ⟨v, w, by apply Array.ext'; rw [hargs, hv], h2 0 x v rfl (by rw [hv]; rfl), h2 1 y w rfl (by rw [hv]; rfl)⟩
             obtain ⟨v, w, hv, hrx, hry⟩ := hx2
             have hall : ∀ row ∈ new, row.length = ie.size ∧ row.all V.one = true := by
               intro row hrow
               have := List.all_eq_true.1 c3 row hrow
               simpa using this
             obtain ⟨r', W', E', g1, g2, g3, g4⟩ := appendD_sound (P := P) hs (ty := type) hu he1 he4 (by simpa using c2) c1 hrx hry hnew (fun row hrow => (hall row hrow).1) (fun row hrow => (hall row hrow).2) h
             refine ⟨.value r', _, W', E', ?_, .inl rfl, g2, g3, g4⟩
             rw [hts]
             simp [execOp, resolve, invoke, builtin, hv, g1]
           · cases h
         · cases h
       · cases h
     · cases h
   · cases h
 | _ => simp only [opEval, reduceCtorEq] at h
end Go.Proofs.YtamjajacnfmgeaaGreat
