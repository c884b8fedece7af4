/-
  What Go's data read as, as plain data: structs, strings, integers, slices of these. Condition: the types are such.
  The statement: for every detail and every section the law returns true, and its arguments read behind it as they read before. No condition.
-/
import Derived.Test.YtamjajacnfmgeaaGreatK45
import Derived.Deep.Slices
import Derived.Test.YtamjajacnfmgeaaGreatRows
import Derived.WalkKit
import Derived.ProofKit
import Derived.OpenShut
import Derived.ChangeOld
import Derived.Below
set_option linter.all false
namespace Go.Proofs.YtamjajacnfmgeaaGreat
open Go Go.RowKit
inductive KT where
  | int
  | str
  | sl (row : List KT)
inductive Fit : List KT → List V → Prop
  | nil : Fit [] []
  | int (n : Int) (ks : List KT) (xs : List V) (h : Fit ks xs) : Fit (.int :: ks) (.int .i64 n :: xs)
  | str (s : ByteArray) (ks : List KT) (xs : List V) (h : Fit ks xs) : Fit (.str :: ks) (.str s :: xs)
  | sl (row : List KT) (rows : List (List V)) (ks : List KT) (xs : List V) (hr : ∀ r ∈ rows, Fit row r) (h : Fit ks xs) : Fit (.sl row :: ks) (.sl rows :: xs)
theorem Fit.append {ks ks' : List KT} {xs xs' : List V} (h : Fit ks xs) (h' : Fit ks' xs') : Fit (ks ++ ks') (xs ++ xs') := by
 induction h with
 | nil => exact h'
 | int n ks xs _ ih => exact .int n _ _ ih
 | str s ks xs _ ih => exact .str s _ _ ih
 | sl row rows ks xs hr _ _ ih => exact .sl row rows _ _ hr ih
theorem Fit.len {ks : List KT} {xs : List V} (h : Fit ks xs) : xs.length = ks.length := by
 induction h with
 | nil => rfl
 | int n ks xs _ ih => simp [ih]
 | str s ks xs _ ih => simp [ih]
 | sl row rows ks xs hr _ _ ih => simp [ih]
def ktF (k : TypeId → Option (List KT)) (P : Program) : Nat → List Field → Option (List KT)
  | _, [] => some []
  | o, f :: fs => match k f.type with
    | some ks => if f.offset = o ∧ P.cellsOf f.type = ks.length then (ktF k P (o + ks.length) fs).map (ks ++ ·) else none
    | none => none
def kts (P : Program) : Nat → TypeId → Option (List KT)
  | 0, _ => none
  | n + 1, t => match P.underlying t with
    | some (.int .i64) => some [.int]
    | some .string => some [.str]
    | some (.slice e) => (kts P n e).bind fun ks => if P.cellsOf e = ks.length ∧ 0 < ks.length then some [.sl ks] else none
    | some (.struct fs) => (ktF (kts P n) P 0 fs.toList).bind fun ks => if P.cellsOf t = ks.length then some ks else none
    | _ => none
abbrev okW (W : World) : Nat → Prop := fun b => b < W.heap.size
section
variable {H : Type} {enc : TypeId × Value → H} {P : Program} {w : World} {base : Nat} {spare : Nat → Bool} {held : Bool}
theorem fields_read {k : TypeId → Option (List KT)} {n : Nat} (hk : ∀ (t : TypeId) (ks : List KT), k t = some ks → ∀ (cs : List Value) (x : DataW H × List MemPlace), DataW.trod enc P w base spare held n t cs = some x → ∃ xs, All2 (RV w (okW w)) xs cs ∧ Fit ks xs) {cs : List Value} :
    ∀ (fs : List Field) (o : Nat) (ks : List KT), ktF k P o fs = some ks → cs.length = o + ks.length → (∀ f ∈ fs, ∃ x, DataW.trod enc P w base spare held n f.type ((cs.drop f.offset).take (P.cellsOf f.type)) = some x) → ∃ xs, All2 (RV w (okW w)) xs (cs.drop o) ∧ Fit ks xs
  | [], o, ks, h, hl, _ => by
    simp only [ktF, Option.some.injEq] at h
    subst h
    have : cs.drop o = [] := List.drop_eq_nil_of_le (by simp at hl; omega)
    rw [this]
    exact ⟨[], trivial, .nil⟩
  | f :: fs, o, ks, h, hl, hx => by
    simp only [ktF] at h
    split at h
    · rename_i k1 hk1
      split at h
      · rename_i ho
        obtain ⟨k2, hk2, rfl⟩ := Option.map_eq_some_iff.1 h
        obtain ⟨x, hx1⟩ := hx f (List.mem_cons_self ..)
        rw [ho.1, ho.2] at hx1
        obtain ⟨x1, h1, f1⟩ := hk _ _ hk1 _ _ hx1
        obtain ⟨x2, h2, f2⟩ := fields_read hk fs (o + k1.length) k2 hk2 (by simp at hl; omega) fun g hg => hx g (List.mem_cons_of_mem _ hg)
        refine ⟨x1 ++ x2, ?_, f1.append f2⟩
        have : cs.drop o = (cs.drop o).take k1.length ++ cs.drop (o + k1.length) := by rw [← List.drop_drop, List.take_append_drop]
        rw [this]
        exact h1.append h2
      · cases h
    · cases h
theorem type_reads : ∀ (n : Nat) (t : TypeId) (ks : List KT), kts P n t = some ks → ∀ (fuel : Nat) (cs : List Value) (x : DataW H × List MemPlace), DataW.trod enc P w base spare held fuel t cs = some x → ∃ xs, All2 (RV w (okW w)) xs cs ∧ Fit ks xs
  | 0, _, _, h => by cases h
  | n + 1, t, ks, h => by
    intro fuel cs x hx
    simp only [kts] at h
    split at h
    · rename_i hu
      cases h
      obtain ⟨z, rfl, _⟩ := DataW.trod_int hu hx
      exact ⟨[.int .i64 z], ⟨.int _ _, trivial⟩, .int z _ _ .nil⟩
    · rename_i hu
      cases h
      obtain ⟨s, rfl, _⟩ := DataW.trod_string hu hx
      exact ⟨[.str s], ⟨.str _, trivial⟩, .str s _ _ .nil⟩
    · rename_i e hu
      obtain ⟨k1, hk1, h⟩ := Option.bind_eq_some_iff.1 h
      split at h
      · rename_i hc
        cases h
        rcases Go.Deep.open_slice hu hx with ⟨rfl, _⟩ | ⟨a, len, cap, m, n', D, Pl, rfl, _, hl, _, hm, _, hel⟩
        · exact ⟨[.sl []], ⟨.slE _ _, trivial⟩, .sl _ _ _ _ (fun r hr => by cases hr) .nil⟩
        · have hlm : len ≤ m := by rw [hm]; split <;> omega
          have hrow : ∀ i, i < len → ∃ xs : List V, (∃ cs', w.cells? base (a.add (i * P.cellsOf e)) (P.cellsOf e) = some cs' ∧ All2 (RV w (okW w)) xs cs') ∧ Fit k1 xs := fun i hi => by
            obtain ⟨cs', h1, h2⟩ := hel i (by omega)
            obtain ⟨xs, h3, h4⟩ := type_reads n e k1 hk1 _ _ _ h2
            exact ⟨xs, ⟨cs', h1, h3⟩, h4⟩
          obtain ⟨R, hR⟩ := Go.Deep.choose_lt hrow
          have hfit : ∀ r ∈ (List.range len).map R, Fit k1 r := fun r hr => by
            obtain ⟨i, hi, rfl⟩ := List.mem_map.1 hr
            exact (hR i (List.mem_range.1 hi)).2
          refine ⟨[.sl ((List.range len).map R)], ⟨?_, trivial⟩, .sl _ _ _ _ hfit .nil⟩
          by_cases h0 : len = 0
          · subst h0; exact .slE _ _
          · have hcell : ∀ (i j : Nat) (row : List V) (z : V), ((List.range len).map R)[i]? = some row → row[j]? = some z → ∃ v, w.cell? ((a.add (i * k1.length)).add j) = some v ∧ RV w (okW w) z v := by
              intro i j row z hrow hz
              simp only [List.getElem?_map, Option.map_eq_some_iff] at hrow
              obtain ⟨i', hi', rfl⟩ := hrow
              obtain ⟨hi, rfl⟩ := List.getElem?_eq_some_iff.1 hi'
              simp only [List.length_range] at hi
              simp only [List.getElem_range] at hz
              obtain ⟨⟨cs', h1, h2⟩, h3⟩ := hR i hi
              obtain ⟨_, q1, q2⟩ := World.cells?_some h1
              rw [hc.1] at q1 q2
              have hj : j < k1.length := by rw [← h3.len]; exact (List.getElem?_eq_some_iff.1 hz).1
              obtain ⟨v, hv⟩ : ∃ v, cs'[j]? = some v := ⟨_, List.getElem?_eq_getElem (by omega)⟩
              exact ⟨v, by rw [q2 j hj, hv], h2.at hz hv⟩
            have hr0 : ((List.range len).map R)[0]? = some (R 0) := by simp [List.getElem?_range (show 0 < len by omega)]
            have hf0 := (hR 0 (by omega)).2.len
            obtain ⟨z0, hz0⟩ : ∃ z, (R 0)[0]? = some z := ⟨_, List.getElem?_eq_getElem (by omega)⟩
            obtain ⟨v0, hv0, _⟩ := hcell 0 0 _ _ hr0 hz0
            have hsp : a.spot = none := by
              have := World.cell?_spot hv0
              simpa [Addr.add] using this
            obtain ⟨b, o, sp⟩ := a
            simp only at hsp
            subst hsp
            have hlt : b < w.heap.size := by
              rw [add_plain, add_plain] at hv0
              unfold World.cell? at hv0
              rcases Nat.lt_or_ge b w.heap.size with h | h
              · exact h
              · simp [Array.getElem?_eq_none h] at hv0
            have := RV.sl (W := w) (ok := okW w) ((List.range len).map R) b o k1.length cap hlt (fun row hr => (hfit row hr).len) (by simpa using hl) (fun i j => (w.cell? ⟨b, o + (i * k1.length + j), none⟩).getD undef)
              (fun i j row z hr hz => by
                obtain ⟨v, hv, _⟩ := hcell i j row z hr hz
                rw [add_plain, add_plain, Nat.add_assoc] at hv
                rw [hv]; rfl)
              (fun i j row z hr hz => by
                obtain ⟨v, hv, hrv⟩ := hcell i j row z hr hz
                rw [add_plain, add_plain, Nat.add_assoc] at hv
                rw [hv]; exact hrv)
            simpa using this
      · cases h
    · rename_i fs hu
      obtain ⟨k1, hk1, h⟩ := Option.bind_eq_some_iff.1 h
      split at h
      · rename_i hc
        cases h
        obtain ⟨xs, n', _, _, hl, hlen, hf⟩ := DataW.trod_struct hu hx
        have := fields_read (enc := enc) (base := base) (spare := spare) (held := held) (w := w) (n := n') (fun t ks h cs x hx => type_reads n t ks h n' cs x hx) (cs := cs) fs.toList 0 ks hk1 (by omega) fun f hfm => by
          obtain ⟨i, hi, he⟩ := List.mem_iff_getElem.1 hfm
          have hfi : fs[i]? = some f := by
            rw [← Array.getElem?_toList, List.getElem?_eq_getElem hi, he]
          have hi' : i < xs.length := by simpa [hlen] using hi
          exact ⟨_, (hf i f hfi).trans (List.getElem?_eq_getElem hi')⟩
        simpa using this
      · cases h
    · cases h
end
theorem rows_map {α : Type} {f : α → List V} : ∀ {rows : List (List V)}, (∀ r ∈ rows, ∃ x, r = f x) → ∃ l : List α, rows = l.map f
  | [], _ => ⟨[], rfl⟩
  | r :: rows, h => by
    obtain ⟨x, rfl⟩ := h r (List.mem_cons_self ..)
    obtain ⟨l, rfl⟩ := rows_map fun r' hr => h r' (List.mem_cons_of_mem _ hr)
    exact ⟨x :: l, rfl⟩
end Go.Proofs.YtamjajacnfmgeaaGreat
namespace Go.Proofs.YtamjajacnfmgeaaGreat
open Go Go.ChangeShapes Go.WideShapes Go.ChangeAt Go.RowKit
theorem law_own : ownKnob Tryz.prog.godebug = none := by kernel_rfl
theorem law_out : laidOutB Tryz.prog = true := by kernel_rfl
def bxK : List KT := [.int, .int, .int, .int, .int, .int]
def detK : List KT := [.str, .sl bxK, .sl bxK, .int, .int, .int, .sl [.str, .int, .int, .int, .sl [.int]], .sl [.str, .int, .int, .int, .int, .int, .int, .int, .int, .int], .sl [.int, .int], .sl [.str, .int, .int, .int, .int, .int, .int, .sl [.int, .int]], .int, .int, .int, .int, .int, .int, .int, .int, .int]
theorem det_kts : kts Tryz.prog 8 34 = some detK := by kernel_rfl
theorem fit_ic {r : List V} (h : Fit [.int] r) : ∃ x, r = ic x := by
 cases h with | int n _ _ h => cases h with | nil => exact ⟨n, rfl⟩
theorem fit_two {r : List V} (h : Fit [.int, .int] r) : ∃ a b, r = [vi a, vi b] := by
 cases h with | int a _ _ h => cases h with | int b _ _ h => cases h with | nil => exact ⟨a, b, rfl⟩
theorem fit_six {r : List V} (h : Fit bxK r) : ∃ x, r = Bx.c x := by
 cases h with | int a _ _ h => cases h with | int b _ _ h => cases h with | int c _ _ h => cases h with | int d _ _ h => cases h with | int e _ _ h => cases h with | int f _ _ h => cases h with | nil => exact ⟨⟨a, b, c, d, e, f⟩, rfl⟩
theorem fit_bar {r : List V} (h : Fit [.str, .int, .int, .int, .sl [.int]] r) : ∃ x, r = Bar.c x := by
 cases h with | str s _ _ h => cases h with | int a _ _ h => cases h with | int b _ _ h => cases h with | int c _ _ h => cases h with | sl _ rows _ _ hr h => cases h with | nil =>
 obtain ⟨l, rfl⟩ := rows_map (f := ic) fun r hm => fit_ic (hr r hm)
 exact ⟨⟨s, a, b, c, l⟩, rfl⟩
theorem fit_run {r : List V} (h : Fit [.str, .int, .int, .int, .int, .int, .int, .int, .int, .int] r) : ∃ x, r = Run.c x := by
 cases h with | str s _ _ h => cases h with | int a _ _ h => cases h with | int b _ _ h => cases h with | int c _ _ h => cases h with | int d _ _ h => cases h with | int e _ _ h => cases h with | int f _ _ h => cases h with | int g _ _ h => cases h with | int i _ _ h => cases h with | int j _ _ h => cases h with | nil =>
 exact ⟨⟨s, a, b, c, d, e, f, g, i, j⟩, rfl⟩
theorem fit_dem {r : List V} (h : Fit [.str, .int, .int, .int, .int, .int, .int, .sl [.int, .int]] r) : ∃ x, r = Dem.c x := by
 cases h with | str s _ _ h => cases h with | int a _ _ h => cases h with | int b _ _ h => cases h with | int c _ _ h => cases h with | int d _ _ h => cases h with | int e _ _ h => cases h with | int f _ _ h => cases h with | sl _ rows _ _ hr h => cases h with | nil =>
 obtain ⟨l, rfl⟩ := rows_map (f := Stp.c) fun r hm => by
   obtain ⟨x, y, e⟩ := fit_two (hr r hm)
   exact ⟨⟨x, y⟩, e⟩
 exact ⟨⟨s, ⟨a, b, c, d, e, f⟩, l⟩, rfl⟩
theorem fit_det {r : List V} (h : Fit detK r) : ∃ x, r = Det.c x := by
 cases h with | str nm _ _ h => cases h with | sl _ r1 _ _ h1 h => cases h with | sl _ r2 _ _ h2 h => cases h with | int c _ _ h => cases h with | int ag _ _ h => cases h with | int pk _ _ h =>
 cases h with | sl _ r3 _ _ h3 h => cases h with | sl _ r4 _ _ h4 h => cases h with | sl _ r5 _ _ h5 h => cases h with | sl _ r6 _ _ h6 h =>
 cases h with | int u1 _ _ h => cases h with | int u2 _ _ h => cases h with | int u3 _ _ h => cases h with | int u4 _ _ h => cases h with | int u5 _ _ h => cases h with | int u6 _ _ h => cases h with | int u7 _ _ h => cases h with | int u8 _ _ h => cases h with | int u9 _ _ h => cases h with | nil =>
 obtain ⟨l1, rfl⟩ := rows_map (f := Bx.c) fun r hm => fit_six (h1 r hm)
 obtain ⟨l2, rfl⟩ := rows_map (f := Bx.c) fun r hm => fit_six (h2 r hm)
 obtain ⟨l3, rfl⟩ := rows_map (f := Bar.c) fun r hm => fit_bar (h3 r hm)
 obtain ⟨l4, rfl⟩ := rows_map (f := Run.c) fun r hm => fit_run (h4 r hm)
 obtain ⟨l5, rfl⟩ := rows_map (f := Jnt.c) fun r hm => by
   obtain ⟨x, y, e⟩ := fit_two (h5 r hm)
   exact ⟨⟨x, y⟩, e⟩
 obtain ⟨l6, rfl⟩ := rows_map (f := Dem.c) fun r hm => fit_dem (h6 r hm)
 exact ⟨⟨⟨nm, l1, l2, c, ag, pk⟩, l3, l4, l5, l6, ⟨u1, u2, u3, u4, u5, u6, u7, u8, u9⟩⟩, rfl⟩
set_option maxRecDepth 100000 in
theorem law_lifted (os : Os) (started : os.Started) (H : Type) (enc : TypeId × Value → H) :
    ReturnsInHanded {} Tryz.checked os 3 .any (Rows.topGreatSteelSpec.pre6 enc Tryz.prog Tryz.f3 Rows.topGreatSteelRow.domain false) (Rows.topGreatSteelSpec.post enc Tryz.prog Tryz.f3 false true false false) := by
 refine returnsInHanded_of_change (C := Tryz.checked) law_own started (by kernel_rfl) Tryz.func3
   (ChangeSpec.witness6 (enc := enc) (C := Tryz.checked) false ⟨#[], #[.agg #[.string ⟨#[]⟩, .slice none 0 0, .slice none 0 0, .int .i64 0, .int .i64 0, .int .i64 0, .slice none 0 0, .slice none 0 0, .slice none 0 0, .slice none 0 0, .int .i64 0, .int .i64 0, .int .i64 0, .int .i64 0, .int .i64 0, .int .i64 0, .int .i64 0, .int .i64 0, .int .i64 0], .int .i32 0], []⟩ 8 (by kernel_rfl) (by kernel_rfl) (by kernel_rfl) (by kernel_rfl)) ?_
 intro W base args ds gs before hval0 hW hcnd _
 have hval : ∀ (j : Nat) t v, Tryz.f3.params[j]? = some t → args[j]? = some v → Value.okWide Tryz.prog W .any base t v := hval0
 have hW' := hW
 obtain ⟨p, q, hA0, hV, rfl, hfz, hnd⟩ := hW
 have hA : DataW.TrodAll enc Tryz.prog W 0 (fun _ => true) true Tryz.f3.params.toList args.toList ds p := hA0
 rw [Tryz.params3] at hA hval
 obtain ⟨v0, vs0, d0, ds0, p0, q0, hargs, rfl, rfl, h0, r0⟩ := trodAll_cons hA
 obtain ⟨v1, vs1, d1, ds1, p1, q1, rfl, rfl, rfl, h1, r1⟩ := trodAll_cons r0
 obtain ⟨rfl, rfl, rfl⟩ := trodAll_nil r1
 obtain rfl : args = #[v0, v1] := by cases args; simp_all
 obtain ⟨rfl, rfl⟩ := trodVars_none hV
 have k0 := h0
 have lt0 : ∀ x ∈ p0, x.block < W.heap.size := by obtain ⟨m, hm⟩ := k0; exact DataW.trod_lt m _ _ _ hm
 obtain ⟨cs, rfl⟩ : ∃ cs : Array Value, v0 = .agg cs := by
   have h := hval 0 34 v0 rfl rfl
   have hu : ∃ fs, Tryz.prog.underlying 34 = some (.struct fs) := ⟨_, Tryz.underlying34⟩
   obtain ⟨fs, hu⟩ := hu
   simp only [Value.okWide, hu] at h
   obtain ⟨cs, hc, _⟩ := h
   exact ⟨cs, hc⟩
 obtain ⟨a1, rfl, rfl, rfl, w1⟩ := open_int Tryz.underlying21 (hval 1 21 v1 rfl rfl) h1
 obtain ⟨fuel, hf⟩ := h0
 obtain ⟨xs, hxs, hfit⟩ := type_reads 8 34 detK det_kts fuel _ _ hf
 obtain ⟨x, rfl⟩ := fit_det hfit
 clear hA0 hval0
 obtain ⟨_, hlaw⟩ := law_ok x a1
 have hcs : All2 (RV W (okW W)) x.c cs.toList := hxs
 refine (hlaw W (okW W) [.agg cs, .int .i32 a1] (fun b hb => hb) rfl ?_).mono fun e W' ⟨v, he, bel, hv⟩ => ?_
 · intro i y u hy hu
   match i with
   | 0 =>
     cases hy; cases hu
     exact .ag x.c cs.toList hcs.len fun i x v h1 h2 => hcs.at h1 h2
   | 1 => cases hy; cases hu; exact .int _ _
   | i + 2 => cases hy
 · cases hv
   subst he
   exact ⟨_, rfl, _, _, _, [], _, [], hW', trodAll_mk1 (shut_bool Tryz.underlying4 _), (trodAll_cons_mk (Below.trod law_out (by kernel_rfl) (of_decide_eq_true (by kernel_rfl)) k0 bel lt0) (trodAll_cons_mk (shut_int Tryz.underlying21 w1) trodAll_mk0)), rfl, bel.frame _, fun h => by cases h⟩
theorem law_over : Rows.topGreatSteelRow.holds Tryz.pinned (OpenSpec.ofChange Rows.topGreatSteelSpec) :=
  OpenClaim.holds_of_wide 3 Tryz.f3 rfl rfl rfl rfl rfl rfl rfl ⟨rfl, rfl, rfl, rfl, rfl⟩ rfl rfl rfl rfl rfl (by kernel_rfl) Tryz.func3 (by kernel_rfl)
    (of_decide_eq_true (by kernel_rfl)) (by unfold Func.isWrapper; rw [if_neg (of_decide_eq_false (by kernel_rfl))]; exact ⟨rfl, rfl⟩)
    (fun os started H enc _ => law_lifted os started H enc)
theorem topGreatSteel_holds : Rows.TopGreatSteelSaid := law_over
#print axioms topGreatSteel_holds
end Go.Proofs.YtamjajacnfmgeaaGreat
